/- Part 8 of the texts on which the law's proof rests. -/
import Derived.Test.YtbogbnjnjjhnbaaGreatXtg
namespace Go.Proofs.YtbogbnjnjjhnbaaGreat.AM
open Go Go.Proofs
set_option linter.unusedVariables false
set_option linter.unusedSimpArgs false
set_option maxRecDepth 100000
set_option maxHeartbeats 4000000
theorem ac_spec_l11Take (g : NV) (d : SV) (st : St) (hR : RdN st g) (hD : RdS st d) (hb : bigN g.x) (hbd : bigS d.x) (hk : stateOk g.s.x) (hkd : stateOk d.x) (hr5 : g.rises.l.length = 5) : C 98 [.agg #[vI g.id,vI g.n,vS g.s.p g.s.x.items.length,vS g.s.q g.s.x.floors.length,vS g.t.p g.t.l.length,vI g.t.root,vI g.g.cap,vI g.g.frm,vS g.g.p g.g.l.length,vS g.got.p g.got.l.length,vS g.acked.p g.acked.l.length,vS g.seen.p g.seen.t.length,vI g.num,vI g.slots,vS g.sess.p g.sess.l.length,vI g.wait,vI g.limit,vI g.clock,vS g.rises.p g.rises.l.length],.agg #[vS d.p d.x.items.length,vS d.q d.x.floors.length]] st (fun v s => ∃ u : NW,v = .agg #[vI u.id,vI u.n,vS u.s.p u.s.x.items.length,vS u.s.q u.s.x.floors.length,vS u.t.p u.t.l.length,vI u.t.root,vI u.g.cap,vI u.g.frm,vS u.g.p u.g.l.length,vS u.got.p u.got.l.length,vS u.acked.p u.acked.l.length,vS u.seen.p u.seen.t.length,vI u.num,vI u.slots,vS u.sess.p u.sess.l.length,vI u.wait,vI u.limit,vI u.clock,vS u.rises.p u.rises.l.length] ∧ u.x = takeF g.x d.x ∧ OwnP s (pcNW u) ∧ NewP st.next (pcNW u) ∧ Pres st s) := by
 refine AC.enterX (i := ⟨[2,3,4,5,6,8,9],[2,3,4,5,6,8,9,12,16,18,23,25,28,29,32,34,35,41,42,47,49,53,54,56,60,61,63,67,68,70,75,77,79,80,82,83,85],[0,1,2,3,4,5,6,7,8,9,38,74]⟩) [(3,[5],[1,3])] Tryz.func98 rfl rfl (by kernel_rfl) (by kernel_rfl) Tryz.ntmps98 (Nat.le_of_ble_eq_true rfl) rfl ?_
 iterate 3 refine ⟨_,rfl,?_⟩
 refine AW.cutM (3) st [(2,vL 2 0 (0)),(3,vL 3 0 (1)),(4,vL 4 0 (2))] [(2,0,cNV g),(3,1,[vS d.p d.x.items.length,vS d.q d.x.floors.length]),(4,2,[vI 0,vI 0,.slice none 0 0,.slice none 0 0,.slice none 0 0,vI 0,vI 0,vI 0,.slice none 0 0,.slice none 0 0,.slice none 0 0,.slice none 0 0,vI 0,vI 0,.slice none 0 0,vI 0,vI 0,vI 0,.slice none 0 0])] ⟨rfl,rfl,rfl,trivial⟩ ⟨rfl,rfl,rfl,trivial⟩ rfl fun ρ0 ff => ?_
 refine ⟨_,op_ldo (v := (vNV g)) rfl rfl rfl rfl,?_⟩
 refine ⟨_,rfl,(ac_spec_l11Copy g st hR (by first | assumption | omega)).mono ?_⟩
 rintro _ s11 ⟨u11,rfl,h11,hO11,hN11,hP11⟩
 refine ⟨_,rfl,?_⟩
 refine ⟨_,op_stw (vs := cNV u11.v) rfl rfl rfl rfl rfl rfl rfl rfl,?_⟩
 refine AW.cutM (4) s11 [(2,vL 2 0 (0)),(3,vL 3 0 (1)),(4,vL 4 0 (2)),(5,vL 5 0 (3))] [(2,0,cNV g),(3,1,[vS d.p d.x.items.length,vS d.q d.x.floors.length]),(4,2,[vI 0,vI 0,.slice none 0 0,.slice none 0 0,.slice none 0 0,vI 0,vI 0,vI 0,.slice none 0 0,.slice none 0 0,.slice none 0 0,.slice none 0 0,vI 0,vI 0,.slice none 0 0,vI 0,vI 0,vI 0,.slice none 0 0]),(5,3,cNV u11.v)] ⟨rfl,rfl,rfl,rfl,trivial⟩ ⟨rfl,rfl,rfl,rfl,trivial⟩ rfl fun ρ0 ff => ?_
 refine ⟨_,rfl,?_⟩
 refine ⟨_,op_ldo rfl rfl rfl rfl,?_⟩
 refine ⟨_,op_ldo rfl rfl rfl rfl,?_⟩
 refine ⟨_,rfl,(ac_spec_l3Join g.s d s11 (hR.s.pres hP11) (hD.pres hP11) hb.s hbd hk hkd).mono ?_⟩
 rintro _ s15 ⟨u15,rfl,h15,hO15,hN15,hP15⟩
 refine ⟨_,rfl,?_⟩
 refine ⟨_,op_sto rfl rfl rfl rfl rfl rfl rfl,?_⟩
 refine AW.cutM (5) s15 [(2,vL 2 0 (0)),(4,vL 4 0 (2)),(5,vL 5 0 (3)),(6,vL 6 0 (4))] [(2,0,cNV g),(4,2,[vI 0,vI 0,.slice none 0 0,.slice none 0 0,.slice none 0 0,vI 0,vI 0,vI 0,.slice none 0 0,.slice none 0 0,.slice none 0 0,.slice none 0 0,vI 0,vI 0,.slice none 0 0,vI 0,vI 0,vI 0,.slice none 0 0]),(5,3,cNV u11.v),(6,4,[vS u15.p u15.x.items.length,vS u15.q u15.x.floors.length])] ⟨rfl,rfl,rfl,rfl,trivial⟩ ⟨rfl,rfl,rfl,rfl,trivial⟩ rfl fun ρ0 ff => ?_
 have hF11 : Frs st s11 (pcNW u11) := ⟨hO11,hN11,hP11⟩
 have hR15 := hO15.rdS
 have hk15 : stateOk u15.x := by rw [h15]; exact stateOk_join hk hkd
 have hb15 : bigS u15.x := by rw [h15]; exact bigS_join hb.s hbd
 have hml := marksF_len (goneAt u15.x) 5
 refine ⟨_,rfl,?_⟩
 refine ⟨_,op_ldo rfl rfl rfl rfl,?_⟩
 refine ⟨ld_own rfl rfl rfl,?_⟩
 refine ⟨_,rfl,?_⟩
 refine ⟨_,op_ldo rfl rfl rfl rfl,?_⟩
 refine ⟨ld_own rfl rfl rfl,?_⟩
 refine ⟨_,op_ldo rfl rfl rfl rfl,?_⟩
 refine ⟨_,rfl,(ac_spec_MarksOf u15 s15 hR15 (by first | assumption | omega)).mono ?_⟩
 rintro _ s21 ⟨q21,rfl,hO21,hP21,hN21⟩
 refine ⟨hP21.2,?_⟩
 refine ⟨_,rfl,(uc_spec_TableAdd g.seen g.id q21 (marksF (goneAt u15.x) 5) s21 (hR.seen.pres ((hP11.trans hP15).trans hP21)) (hO21.rows len_cFlr) hb.seen (by unfold szOk; omega)).mono ?_⟩
 rintro _ s22 ⟨u22,rfl,h22,h22',hO22,hN22,hP22⟩
 refine ⟨_,rfl,?_⟩
 refine ⟨_,op_sto rfl rfl rfl rfl rfl rfl rfl,?_⟩
 refine AW.cutM (5) s22 [(2,vL 2 0 (0)),(4,vL 4 0 (2)),(5,vL 5 0 (3)),(6,vL 6 0 (4))] [(2,0,cNV g),(4,2,[vI 0,vI 0,.slice none 0 0,.slice none 0 0,.slice none 0 0,vI 0,vI 0,vI 0,.slice none 0 0,.slice none 0 0,.slice none 0 0,.slice none 0 0,vI 0,vI 0,.slice none 0 0,vI 0,vI 0,vI 0,.slice none 0 0]),(5,3,[vI u11.id,vI u11.n,vS u11.s.p u11.s.x.items.length,vS u11.s.q u11.s.x.floors.length,vS u11.t.p u11.t.l.length,vI u11.t.root,vI u11.g.cap,vI u11.g.frm,vS u11.g.p u11.g.l.length,vS u11.got.p u11.got.l.length,vS u11.acked.p u11.acked.l.length,vS u22.p u22.t.length,vI u11.num,vI u11.slots,vS u11.sess.p u11.sess.l.length,vI u11.wait,vI u11.limit,vI u11.clock,vS u11.rises.p u11.rises.l.length]),(6,4,[vS u15.p u15.x.items.length,vS u15.q u15.x.floors.length])] ⟨rfl,rfl,rfl,rfl,trivial⟩ ⟨rfl,rfl,rfl,rfl,trivial⟩ rfl fun ρ0 ff => ?_
 have hF22 : Frs st s22 (pcNW { u11 with seen := u22 }) := (hF11.later (hP15.trans hP21)).ndE ⟨hO22,hN22,hP22⟩
 have hbt22 : bigT u22.x := tableAdd_big h22 hb.seen
 refine ⟨_,op_ldo rfl rfl rfl rfl,?_⟩
 refine ⟨_,rfl,?_⟩
 refine ⟨_,op_ldo rfl rfl rfl rfl,?_⟩
 refine ⟨_,rfl,(uc_spec_Prune u15 u22 s22 (hO15.rdS.pres (hP21.trans hP22)) hO22.rdT hb15 hbt22).mono ?_⟩
 rintro _ s27 ⟨u27,rfl,h27,hO27,hN27,hP27⟩
 refine ⟨_,rfl,?_⟩
 refine ⟨_,op_sto rfl rfl rfl rfl rfl rfl rfl,?_⟩
 refine AW.cutM (5) s27 [(2,vL 2 0 (0)),(4,vL 4 0 (2)),(5,vL 5 0 (3))] [(2,0,cNV g),(4,2,[vI 0,vI 0,.slice none 0 0,.slice none 0 0,.slice none 0 0,vI 0,vI 0,vI 0,.slice none 0 0,.slice none 0 0,.slice none 0 0,.slice none 0 0,vI 0,vI 0,.slice none 0 0,vI 0,vI 0,vI 0,.slice none 0 0]),(5,3,[vI u11.id,vI u11.n,vS u27.p u27.x.items.length,vS u27.q u27.x.floors.length,vS u11.t.p u11.t.l.length,vI u11.t.root,vI u11.g.cap,vI u11.g.frm,vS u11.g.p u11.g.l.length,vS u11.got.p u11.got.l.length,vS u11.acked.p u11.acked.l.length,vS u22.p u22.t.length,vI u11.num,vI u11.slots,vS u11.sess.p u11.sess.l.length,vI u11.wait,vI u11.limit,vI u11.clock,vS u11.rises.p u11.rises.l.length])] ⟨rfl,rfl,rfl,trivial⟩ ⟨rfl,rfl,rfl,trivial⟩ rfl fun ρ0 ff => ?_
 have hF27 : Frs st s27 (pcNW { u11 with seen := u22,s := u27 }) := hF22.ndS ⟨hO27,hN27,hP27⟩
 have hk27 : stateOk u27.x := ok_prune h27 hk15
 have hb27 : bigS u27.x := big_prune h27 hb15
 refine ⟨_,rfl,?_⟩
 refine ⟨_,op_ldo rfl rfl rfl rfl,?_⟩
 refine ⟨_,rfl,(ac_spec_TreeOf u27 s27 hO27.rdS hb27).mono ?_⟩
 rintro _ s31 ⟨u31,rfl,h31,hO31,hN31,hP31⟩
 refine ⟨_,rfl,?_⟩
 refine ⟨_,op_sto rfl rfl rfl rfl rfl rfl rfl,?_⟩
 refine cxs ?_
 have hF31 : Frs st s31 (pcNW { u11 with seen := u22,s := u27,t := u31 }) := hF27.ndT (Frs.one hO31 hN31 hP31)
 have hr11 : u11.rises.l = g.rises.l := congrArg Nd.rises h11
 have hi27 : u27.x.items.length ≤ 1048576 := hb27.1
 refine AW.cutM (5) s31 [(2,vL 2 0 (0)),(4,vL 4 0 (2)),(5,vL 5 0 (3)),(7,vI (0))] [(2,0,cNV g),(4,2,[vI 0,vI 0,.slice none 0 0,.slice none 0 0,.slice none 0 0,vI 0,vI 0,vI 0,.slice none 0 0,.slice none 0 0,.slice none 0 0,.slice none 0 0,vI 0,vI 0,.slice none 0 0,vI 0,vI 0,vI 0,.slice none 0 0]),(5,3,[vI u11.id,vI u11.n,vS u27.p u27.x.items.length,vS u27.q u27.x.floors.length,vS u31.p u31.l.length,vI u31.root,vI u11.g.cap,vI u11.g.frm,vS u11.g.p u11.g.l.length,vS u11.got.p u11.got.l.length,vS u11.acked.p u11.acked.l.length,vS u22.p u22.t.length,vI u11.num,vI u11.slots,vS u11.sess.p u11.sess.l.length,vI u11.wait,vI u11.limit,vI u11.clock,vS u11.rises.p u11.rises.l.length])] ⟨rfl,rfl,rfl,rfl,trivial⟩ ⟨rfl,rfl,rfl,trivial⟩ rfl fun ρ0 ff => ?_
 refine AW.loopM (fun x : Nat × List Ris => [(2,vL 2 0 (0)),(4,vL 4 0 (2)),(5,vL 5 0 (3)),(7,vI (x.1 : Int))]) (fun x : Nat × List Ris => [(2,0,cNV g),(4,2,[vI 0,vI 0,.slice none 0 0,.slice none 0 0,.slice none 0 0,vI 0,vI 0,vI 0,.slice none 0 0,.slice none 0 0,.slice none 0 0,.slice none 0 0,vI 0,vI 0,.slice none 0 0,vI 0,vI 0,vI 0,.slice none 0 0]),(5,3,[vI u11.id,vI u11.n,vS u27.p u27.x.items.length,vS u27.q u27.x.floors.length,vS u31.p u31.l.length,vI u31.root,vI u11.g.cap,vI u11.g.frm,vS u11.g.p u11.g.l.length,vS u11.got.p u11.got.l.length,vS u11.acked.p u11.acked.l.length,vS u22.p u22.t.length,vI u11.num,vI u11.slots,vS u11.sess.p u11.sess.l.length,vI u11.wait,vI u11.limit,vI u11.clock,vS u11.rises.p x.2.length])]) (fun m (x : Nat × List Ris) st' => m = u27.x.items.length - x.1 ∧ x.1 ≤ u27.x.items.length ∧ x.2 = risesF g.clock g.rises.l (u27.x.items.take x.1) ∧ Frs st st' (pcNW { u11 with seen := u22,s := u27,t := u31,rises := ⟨u11.rises.p,x.2⟩ })) (0,u11.rises.l) _ ⟨rfl,rfl,rfl,rfl,trivial⟩ ⟨rfl,rfl,rfl,trivial⟩ ⟨rfl,Nat.zero_le _,hr11,hF31⟩ ?_
 rintro m ⟨i,l⟩ ρ0 ff gg st' ⟨rfl,hi,hv,hF⟩
 simp only at hi hv hF
 have hll : l.length = 5 := by rw [hv,risesF_len]; exact hr5
 iterate 2 refine ⟨_,rfl,?_⟩
 refine ⟨_,op_ldo rfl rfl rfl rfl,?_⟩
 iterate 2 refine ⟨_,rfl,?_⟩
 rintro (_|_) h38
 ·replace h38 : ¬ ((i : Int) < (u27.x.items.length : Int)) := of_decide_eq_false h38
  refine AW.cutM (gg) st' [(2,vL 2 0 (0)),(4,vL 4 0 (2)),(5,vL 5 0 (3)),(7,vI (i : Int)),(38,vB false)] [(2,0,cNV g),(4,2,[vI 0,vI 0,.slice none 0 0,.slice none 0 0,.slice none 0 0,vI 0,vI 0,vI 0,.slice none 0 0,.slice none 0 0,.slice none 0 0,.slice none 0 0,vI 0,vI 0,.slice none 0 0,vI 0,vI 0,vI 0,.slice none 0 0]),(5,3,[vI u11.id,vI u11.n,vS u27.p u27.x.items.length,vS u27.q u27.x.floors.length,vS u31.p u31.l.length,vI u31.root,vI u11.g.cap,vI u11.g.frm,vS u11.g.p u11.g.l.length,vS u11.got.p u11.got.l.length,vS u11.acked.p u11.acked.l.length,vS u22.p u22.t.length,vI u11.num,vI u11.slots,vS u11.sess.p u11.sess.l.length,vI u11.wait,vI u11.limit,vI u11.clock,vS u11.rises.p l.length])] ⟨rfl,rfl,rfl,rfl,rfl,trivial⟩ ⟨rfl,rfl,rfl,trivial⟩ rfl fun ρ0 ff => ?_
  refine cxs ?_
  refine ⟨_,op_ldo (v := .agg #[vI u11.id,vI u11.n,vS u27.p u27.x.items.length,vS u27.q u27.x.floors.length,vS u31.p u31.l.length,vI u31.root,vI u11.g.cap,vI u11.g.frm,vS u11.g.p u11.g.l.length,vS u11.got.p u11.got.l.length,vS u11.acked.p u11.acked.l.length,vS u22.p u22.t.length,vI u11.num,vI u11.slots,vS u11.sess.p u11.sess.l.length,vI u11.wait,vI u11.limit,vI u11.clock,vS u11.rises.p l.length]) rfl rfl rfl rfl,?_⟩
  refine ⟨_,op_stw (vs := [vI u11.id,vI u11.n,vS u27.p u27.x.items.length,vS u27.q u27.x.floors.length,vS u31.p u31.l.length,vI u31.root,vI u11.g.cap,vI u11.g.frm,vS u11.g.p u11.g.l.length,vS u11.got.p u11.got.l.length,vS u11.acked.p u11.acked.l.length,vS u22.p u22.t.length,vI u11.num,vI u11.slots,vS u11.sess.p u11.sess.l.length,vI u11.wait,vI u11.limit,vI u11.clock,vS u11.rises.p l.length]) rfl rfl rfl rfl rfl rfl rfl rfl,?_⟩
  refine cxs ?_
  exact ⟨.inl rfl,_,rfl,{ u11 with seen := u22,s := u27,t := u31,rises := ⟨u11.rises.p,l⟩ },rfl,take_eq (y := u11.x) h11 h15 h22 h27 h31 (by rw [hv,show i = u27.x.items.length by omega,List.take_length]),hF.1,hF.2.1,hF.2.2⟩
 ·replace h38 : (i : Int) < (u27.x.items.length : Int) := of_decide_eq_true h38
  refine AW.cutM (gg) st' [(2,vL 2 0 (0)),(4,vL 4 0 (2)),(5,vL 5 0 (3)),(7,vI (i : Int)),(38,vB true)] [(2,0,cNV g),(4,2,[vI 0,vI 0,.slice none 0 0,.slice none 0 0,.slice none 0 0,vI 0,vI 0,vI 0,.slice none 0 0,.slice none 0 0,.slice none 0 0,.slice none 0 0,vI 0,vI 0,.slice none 0 0,vI 0,vI 0,vI 0,.slice none 0 0]),(5,3,[vI u11.id,vI u11.n,vS u27.p u27.x.items.length,vS u27.q u27.x.floors.length,vS u31.p u31.l.length,vI u31.root,vI u11.g.cap,vI u11.g.frm,vS u11.g.p u11.g.l.length,vS u11.got.p u11.got.l.length,vS u11.acked.p u11.acked.l.length,vS u22.p u22.t.length,vI u11.num,vI u11.slots,vS u11.sess.p u11.sess.l.length,vI u11.wait,vI u11.limit,vI u11.clock,vS u11.rises.p l.length])] ⟨rfl,rfl,rfl,rfl,rfl,trivial⟩ ⟨rfl,rfl,rfl,trivial⟩ rfl fun ρ0 ff => ?_
  have hO : OwnR st' 3 cRise u11.rises.p l := hF.ownRis
  have hR2 : RdS st' u27 := hF.1.rdN.s
  refine cxs ?_
  iterate 2 refine ⟨_,rfl,?_⟩
  refine ⟨_,op_ldo rfl rfl rfl rfl,?_⟩
  refine op_at i hR2.1 (by omega) rfl rfl rfl rfl rfl rfl rfl ?_
  intro x45 b45 d45 k45 hy45 hb45 hm45 hc45 ho45
  refine ⟨_,op_lda rfl rfl rfl rfl rfl hm45 hc45 rfl,?_⟩
  refine ⟨_,rfl,?_⟩
  refine ⟨_,op_sto rfl rfl rfl rfl rfl rfl rfl,?_⟩
  refine AW.cutM (gg + 1) st' [(2,vL 2 0 (0)),(4,vL 4 0 (2)),(5,vL 5 0 (3)),(7,vI (i : Int)),(8,vL 8 0 (gg)),(38,vB true)] [(2,0,cNV g),(4,2,[vI 0,vI 0,.slice none 0 0,.slice none 0 0,.slice none 0 0,vI 0,vI 0,vI 0,.slice none 0 0,.slice none 0 0,.slice none 0 0,.slice none 0 0,vI 0,vI 0,.slice none 0 0,vI 0,vI 0,vI 0,.slice none 0 0]),(5,3,[vI u11.id,vI u11.n,vS u27.p u27.x.items.length,vS u27.q u27.x.floors.length,vS u31.p u31.l.length,vI u31.root,vI u11.g.cap,vI u11.g.frm,vS u11.g.p u11.g.l.length,vS u11.got.p u11.got.l.length,vS u11.acked.p u11.acked.l.length,vS u22.p u22.t.length,vI u11.num,vI u11.slots,vS u11.sess.p u11.sess.l.length,vI u11.wait,vI u11.limit,vI u11.clock,vS u11.rises.p l.length]),(8,gg,[vI x45.id,vI x45.e.inc,vI x45.e.rank,vI x45.e.beat,vI x45.e.ver,.string x45.e.data])] ⟨rfl,rfl,rfl,rfl,rfl,rfl,trivial⟩ ⟨rfl,rfl,rfl,rfl,trivial⟩ rfl fun ρ0 ff => ?_
  have hid : 0 ≤ x45.id ∧ x45.id ≤ 4 := (hk27.1 i x45 hy45).1
  obtain ⟨a,ha⟩ := hO.some (by omega)
  obtain ⟨b1,o1,k1,r,hpe,hr,hm1,hc1,hb1⟩ := (hO.rows len_cRise).atB (j := x45.id.toNat) (by omega)
  obtain ⟨rfl,rfl⟩ : a = b1 ∧ 0 = o1 := by rw [ha] at hpe; injection hpe with hpe; injection hpe with e1 e2; exact ⟨e1,e2⟩
  refine ⟨_,rfl,?_⟩
  refine ⟨_,op_ldo rfl rfl rfl rfl,?_⟩
  refine ⟨_,rfl,?_⟩
  refine ⟨_,op_ldo rfl rfl rfl rfl,?_⟩
  refine ⟨_,op_idx (j := x45.id) (n := l.length) (q := ⟨a,0,none⟩) rfl (congrArg (fun v => vS v l.length) ha) rfl rfl rfl hid.1 (by omega),?_⟩
  refine ⟨_,op_lda rfl rfl rfl rfl rfl hm1 hc1 rfl,?_⟩
  refine ⟨_,rfl,?_⟩
  refine ⟨_,op_sto rfl rfl rfl rfl rfl rfl rfl,?_⟩
  refine AW.cutM (gg + 2) st' [(2,vL 2 0 (0)),(4,vL 4 0 (2)),(5,vL 5 0 (3)),(7,vI (i : Int)),(8,vL 8 0 (gg)),(9,vL 9 0 (gg + 1)),(38,vB true)] [(2,0,cNV g),(4,2,[vI 0,vI 0,.slice none 0 0,.slice none 0 0,.slice none 0 0,vI 0,vI 0,vI 0,.slice none 0 0,.slice none 0 0,.slice none 0 0,.slice none 0 0,vI 0,vI 0,.slice none 0 0,vI 0,vI 0,vI 0,.slice none 0 0]),(5,3,[vI u11.id,vI u11.n,vS u27.p u27.x.items.length,vS u27.q u27.x.floors.length,vS u31.p u31.l.length,vI u31.root,vI u11.g.cap,vI u11.g.frm,vS u11.g.p u11.g.l.length,vS u11.got.p u11.got.l.length,vS u11.acked.p u11.acked.l.length,vS u22.p u22.t.length,vI u11.num,vI u11.slots,vS u11.sess.p u11.sess.l.length,vI u11.wait,vI u11.limit,vI u11.clock,vS u11.rises.p l.length]),(8,gg,[vI x45.id,vI x45.e.inc,vI x45.e.rank,vI x45.e.beat,vI x45.e.ver,.string x45.e.data]),(9,gg + 1,[vI r.inc,vI r.beat,vI r.tick])] ⟨rfl,rfl,rfl,rfl,rfl,rfl,rfl,trivial⟩ ⟨rfl,rfl,rfl,rfl,rfl,trivial⟩ rfl fun ρ0 ff => ?_
  iterate 2 refine ⟨_,rfl,?_⟩
  refine ⟨_,op_ldo rfl rfl rfl rfl,?_⟩
  refine ⟨_,rfl,?_⟩
  refine ⟨_,op_ldo rfl rfl rfl rfl,?_⟩
  refine ⟨_,rfl,?_⟩
  rintro (_|_) h58
  ·replace h58 : ¬ (x45.e.inc > r.inc) := of_decide_eq_false h58
   iterate 2 refine ⟨_,rfl,?_⟩
   refine ⟨_,op_ldo rfl rfl rfl rfl,?_⟩
   refine ⟨_,rfl,?_⟩
   refine ⟨_,op_ldo rfl rfl rfl rfl,?_⟩
   refine ⟨_,rfl,?_⟩
   rintro (_|_) h65
   ·replace h65 : ¬ (x45.e.inc = r.inc) := beq_eq_false_iff_ne.1 h65
    iterate 2 refine ⟨_,rfl,?_⟩
    refine AW.cutM (gg + 2) st' [(2,vL 2 0 (0)),(4,vL 4 0 (2)),(5,vL 5 0 (3)),(7,vI (i : Int)),(8,vL 8 0 (gg)),(9,vL 9 0 (gg + 1)),(38,vB true),(74,vB false)] [(2,0,cNV g),(4,2,[vI 0,vI 0,.slice none 0 0,.slice none 0 0,.slice none 0 0,vI 0,vI 0,vI 0,.slice none 0 0,.slice none 0 0,.slice none 0 0,.slice none 0 0,vI 0,vI 0,.slice none 0 0,vI 0,vI 0,vI 0,.slice none 0 0]),(5,3,[vI u11.id,vI u11.n,vS u27.p u27.x.items.length,vS u27.q u27.x.floors.length,vS u31.p u31.l.length,vI u31.root,vI u11.g.cap,vI u11.g.frm,vS u11.g.p u11.g.l.length,vS u11.got.p u11.got.l.length,vS u11.acked.p u11.acked.l.length,vS u22.p u22.t.length,vI u11.num,vI u11.slots,vS u11.sess.p u11.sess.l.length,vI u11.wait,vI u11.limit,vI u11.clock,vS u11.rises.p l.length]),(8,gg,[vI x45.id,vI x45.e.inc,vI x45.e.rank,vI x45.e.beat,vI x45.e.ver,.string x45.e.data]),(9,gg + 1,[vI r.inc,vI r.beat,vI r.tick])] ⟨rfl,rfl,rfl,rfl,rfl,rfl,rfl,rfl,trivial⟩ ⟨rfl,rfl,rfl,rfl,rfl,trivial⟩ rfl fun ρ0 ff => ?_
    refine cxs ?_
    have ew40 : IntKind.wrap .i64 ((i : Int) + (1)) = ((i + 1 : Nat) : Int) := (wrap_i64 (by omega) (by omega)).trans (by omega)
    refine ⟨_,rfl,?_⟩
    exact ⟨(i + 1,l),u27.x.items.length - (i + 1),by omega,⟨rfl,rfl,rfl,congrArg (Value.int .i64) ew40,trivial⟩,⟨rfl,rfl,rfl,trivial⟩,rfl,by simp only; omega,by rw [risesF_succ hy45,← hv]; exact (riseF_no hr (fun k => k.elim h58 fun k => h65 k.1)).symm,hF⟩
   ·replace h65 : x45.e.inc = r.inc := beq_iff_eq.1 h65
    iterate 2 refine ⟨_,rfl,?_⟩
    refine ⟨_,op_ldo rfl rfl rfl rfl,?_⟩
    refine ⟨_,rfl,?_⟩
    refine ⟨_,op_ldo rfl rfl rfl rfl,?_⟩
    refine ⟨_,rfl,?_⟩
    rintro (_|_) h72
    ·replace h72 : ¬ (x45.e.beat > r.beat) := of_decide_eq_false h72
     iterate 2 refine ⟨_,rfl,?_⟩
     refine AW.cutM (gg + 2) st' [(2,vL 2 0 (0)),(4,vL 4 0 (2)),(5,vL 5 0 (3)),(7,vI (i : Int)),(8,vL 8 0 (gg)),(9,vL 9 0 (gg + 1)),(38,vB true),(74,vB false)] [(2,0,cNV g),(4,2,[vI 0,vI 0,.slice none 0 0,.slice none 0 0,.slice none 0 0,vI 0,vI 0,vI 0,.slice none 0 0,.slice none 0 0,.slice none 0 0,.slice none 0 0,vI 0,vI 0,.slice none 0 0,vI 0,vI 0,vI 0,.slice none 0 0]),(5,3,[vI u11.id,vI u11.n,vS u27.p u27.x.items.length,vS u27.q u27.x.floors.length,vS u31.p u31.l.length,vI u31.root,vI u11.g.cap,vI u11.g.frm,vS u11.g.p u11.g.l.length,vS u11.got.p u11.got.l.length,vS u11.acked.p u11.acked.l.length,vS u22.p u22.t.length,vI u11.num,vI u11.slots,vS u11.sess.p u11.sess.l.length,vI u11.wait,vI u11.limit,vI u11.clock,vS u11.rises.p l.length]),(8,gg,[vI x45.id,vI x45.e.inc,vI x45.e.rank,vI x45.e.beat,vI x45.e.ver,.string x45.e.data]),(9,gg + 1,[vI r.inc,vI r.beat,vI r.tick])] ⟨rfl,rfl,rfl,rfl,rfl,rfl,rfl,rfl,trivial⟩ ⟨rfl,rfl,rfl,rfl,rfl,trivial⟩ rfl fun ρ0 ff => ?_
     refine cxs ?_
     have ew40 : IntKind.wrap .i64 ((i : Int) + (1)) = ((i + 1 : Nat) : Int) := (wrap_i64 (by omega) (by omega)).trans (by omega)
     refine ⟨_,rfl,?_⟩
     exact ⟨(i + 1,l),u27.x.items.length - (i + 1),by omega,⟨rfl,rfl,rfl,congrArg (Value.int .i64) ew40,trivial⟩,⟨rfl,rfl,rfl,trivial⟩,rfl,by simp only; omega,by rw [risesF_succ hy45,← hv]; exact (riseF_no hr (fun k => k.elim h58 fun k => h72 k.2)).symm,hF⟩
    ·replace h72 : x45.e.beat > r.beat := of_decide_eq_true h72
     iterate 2 refine ⟨_,rfl,?_⟩
     refine AW.cutM (gg + 2) st' [(2,vL 2 0 (0)),(4,vL 4 0 (2)),(5,vL 5 0 (3)),(7,vI (i : Int)),(8,vL 8 0 (gg)),(9,vL 9 0 (gg + 1)),(38,vB true),(74,vB true)] [(2,0,cNV g),(4,2,[vI 0,vI 0,.slice none 0 0,.slice none 0 0,.slice none 0 0,vI 0,vI 0,vI 0,.slice none 0 0,.slice none 0 0,.slice none 0 0,.slice none 0 0,vI 0,vI 0,.slice none 0 0,vI 0,vI 0,vI 0,.slice none 0 0]),(5,3,[vI u11.id,vI u11.n,vS u27.p u27.x.items.length,vS u27.q u27.x.floors.length,vS u31.p u31.l.length,vI u31.root,vI u11.g.cap,vI u11.g.frm,vS u11.g.p u11.g.l.length,vS u11.got.p u11.got.l.length,vS u11.acked.p u11.acked.l.length,vS u22.p u22.t.length,vI u11.num,vI u11.slots,vS u11.sess.p u11.sess.l.length,vI u11.wait,vI u11.limit,vI u11.clock,vS u11.rises.p l.length]),(8,gg,[vI x45.id,vI x45.e.inc,vI x45.e.rank,vI x45.e.beat,vI x45.e.ver,.string x45.e.data]),(9,gg + 1,[vI r.inc,vI r.beat,vI r.tick])] ⟨rfl,rfl,rfl,rfl,rfl,rfl,rfl,rfl,trivial⟩ ⟨rfl,rfl,rfl,rfl,rfl,trivial⟩ rfl fun ρ0 ff => ?_
     refine ⟨_,rfl,?_⟩
     refine ⟨_,op_ldo rfl rfl rfl rfl,?_⟩
     refine ⟨_,rfl,?_⟩
     refine ⟨_,op_ldo rfl rfl rfl rfl,?_⟩
     iterate 2 refine ⟨_,rfl,?_⟩
     refine ⟨_,op_ldo rfl rfl rfl rfl,?_⟩
     iterate 2 refine ⟨_,rfl,?_⟩
     refine ⟨_,op_ldo rfl rfl rfl rfl,?_⟩
     refine ⟨_,rfl,?_⟩
     refine ⟨_,op_ldo rfl rfl rfl rfl,?_⟩
     refine ⟨_,rfl,?_⟩
     refine ⟨_,op_idx (j := x45.id) (n := l.length) (q := ⟨a,0,none⟩) rfl (congrArg (fun v => vS v l.length) ha) rfl rfl rfl hid.1 (by omega),?_⟩
     refine op_put (st := st') (f := cRise) (j := x45.id.toNat) (l := l) (y := (⟨x45.e.inc,x45.e.beat,g.clock⟩ : Ris)) (p := u11.rises.p) (d := 0 + x45.id.toNat * 3) rfl rfl (Nat.zero_add _) rfl rfl len_cRise rfl rfl (by omega) hO ha ?_
     intro s94 hO94 hP94 hn94
     refine AW.cutM (gg + 2) s94 [(2,vL 2 0 (0)),(4,vL 4 0 (2)),(5,vL 5 0 (3)),(7,vI (i : Int)),(8,vL 8 0 (gg)),(9,vL 9 0 (gg + 1)),(38,vB true),(74,vB true)] [(2,0,cNV g),(4,2,[vI 0,vI 0,.slice none 0 0,.slice none 0 0,.slice none 0 0,vI 0,vI 0,vI 0,.slice none 0 0,.slice none 0 0,.slice none 0 0,.slice none 0 0,vI 0,vI 0,.slice none 0 0,vI 0,vI 0,vI 0,.slice none 0 0]),(5,3,[vI u11.id,vI u11.n,vS u27.p u27.x.items.length,vS u27.q u27.x.floors.length,vS u31.p u31.l.length,vI u31.root,vI u11.g.cap,vI u11.g.frm,vS u11.g.p u11.g.l.length,vS u11.got.p u11.got.l.length,vS u11.acked.p u11.acked.l.length,vS u22.p u22.t.length,vI u11.num,vI u11.slots,vS u11.sess.p u11.sess.l.length,vI u11.wait,vI u11.limit,vI u11.clock,vS u11.rises.p l.length]),(8,gg,[vI x45.id,vI x45.e.inc,vI x45.e.rank,vI x45.e.beat,vI x45.e.ver,.string x45.e.data]),(9,gg + 1,[vI r.inc,vI r.beat,vI r.tick])] ⟨rfl,rfl,rfl,rfl,rfl,rfl,rfl,rfl,trivial⟩ ⟨rfl,rfl,rfl,rfl,rfl,trivial⟩ rfl fun ρ0 ff => ?_
     have ew40 : IntKind.wrap .i64 ((i : Int) + (1)) = ((i + 1 : Nat) : Int) := (wrap_i64 (by omega) (by omega)).trans (by omega)
     refine ⟨_,rfl,?_⟩
     exact ⟨(i + 1,l.set x45.id.toNat ⟨x45.e.inc,x45.e.beat,g.clock⟩),u27.x.items.length - (i + 1),by omega,⟨rfl,rfl,rfl,congrArg (Value.int .i64) ew40,trivial⟩,⟨rfl,rfl,(show some (3,[vI u11.id,vI u11.n,vS u27.p u27.x.items.length,vS u27.q u27.x.floors.length,vS u31.p u31.l.length,vI u31.root,vI u11.g.cap,vI u11.g.frm,vS u11.g.p u11.g.l.length,vS u11.got.p u11.got.l.length,vS u11.acked.p u11.acked.l.length,vS u22.p u22.t.length,vI u11.num,vI u11.slots,vS u11.sess.p u11.sess.l.length,vI u11.wait,vI u11.limit,vI u11.clock,vS u11.rises.p l.length]) = _ by rw [List.length_set]),trivial⟩,rfl,by simp only; omega,by rw [risesF_succ hy45,← hv]; exact (riseF_yes hr (.inr ⟨h65,h72⟩)).symm,hF.ris hP94 hO94⟩
  ·replace h58 : x45.e.inc > r.inc := of_decide_eq_true h58
   refine ⟨_,rfl,?_⟩
   refine AW.cutM (gg + 2) st' [(2,vL 2 0 (0)),(4,vL 4 0 (2)),(5,vL 5 0 (3)),(7,vI (i : Int)),(8,vL 8 0 (gg)),(9,vL 9 0 (gg + 1)),(38,vB true),(74,vB true)] [(2,0,cNV g),(4,2,[vI 0,vI 0,.slice none 0 0,.slice none 0 0,.slice none 0 0,vI 0,vI 0,vI 0,.slice none 0 0,.slice none 0 0,.slice none 0 0,.slice none 0 0,vI 0,vI 0,.slice none 0 0,vI 0,vI 0,vI 0,.slice none 0 0]),(5,3,[vI u11.id,vI u11.n,vS u27.p u27.x.items.length,vS u27.q u27.x.floors.length,vS u31.p u31.l.length,vI u31.root,vI u11.g.cap,vI u11.g.frm,vS u11.g.p u11.g.l.length,vS u11.got.p u11.got.l.length,vS u11.acked.p u11.acked.l.length,vS u22.p u22.t.length,vI u11.num,vI u11.slots,vS u11.sess.p u11.sess.l.length,vI u11.wait,vI u11.limit,vI u11.clock,vS u11.rises.p l.length]),(8,gg,[vI x45.id,vI x45.e.inc,vI x45.e.rank,vI x45.e.beat,vI x45.e.ver,.string x45.e.data]),(9,gg + 1,[vI r.inc,vI r.beat,vI r.tick])] ⟨rfl,rfl,rfl,rfl,rfl,rfl,rfl,rfl,trivial⟩ ⟨rfl,rfl,rfl,rfl,rfl,trivial⟩ rfl fun ρ0 ff => ?_
   refine ⟨_,rfl,?_⟩
   refine ⟨_,op_ldo rfl rfl rfl rfl,?_⟩
   refine ⟨_,rfl,?_⟩
   refine ⟨_,op_ldo rfl rfl rfl rfl,?_⟩
   iterate 2 refine ⟨_,rfl,?_⟩
   refine ⟨_,op_ldo rfl rfl rfl rfl,?_⟩
   iterate 2 refine ⟨_,rfl,?_⟩
   refine ⟨_,op_ldo rfl rfl rfl rfl,?_⟩
   refine ⟨_,rfl,?_⟩
   refine ⟨_,op_ldo rfl rfl rfl rfl,?_⟩
   refine ⟨_,rfl,?_⟩
   refine ⟨_,op_idx (j := x45.id) (n := l.length) (q := ⟨a,0,none⟩) rfl (congrArg (fun v => vS v l.length) ha) rfl rfl rfl hid.1 (by omega),?_⟩
   refine op_put (st := st') (f := cRise) (j := x45.id.toNat) (l := l) (y := (⟨x45.e.inc,x45.e.beat,g.clock⟩ : Ris)) (p := u11.rises.p) (d := 0 + x45.id.toNat * 3) rfl rfl (Nat.zero_add _) rfl rfl len_cRise rfl rfl (by omega) hO ha ?_
   intro s94 hO94 hP94 hn94
   refine AW.cutM (gg + 2) s94 [(2,vL 2 0 (0)),(4,vL 4 0 (2)),(5,vL 5 0 (3)),(7,vI (i : Int)),(8,vL 8 0 (gg)),(9,vL 9 0 (gg + 1)),(38,vB true),(74,vB true)] [(2,0,cNV g),(4,2,[vI 0,vI 0,.slice none 0 0,.slice none 0 0,.slice none 0 0,vI 0,vI 0,vI 0,.slice none 0 0,.slice none 0 0,.slice none 0 0,.slice none 0 0,vI 0,vI 0,.slice none 0 0,vI 0,vI 0,vI 0,.slice none 0 0]),(5,3,[vI u11.id,vI u11.n,vS u27.p u27.x.items.length,vS u27.q u27.x.floors.length,vS u31.p u31.l.length,vI u31.root,vI u11.g.cap,vI u11.g.frm,vS u11.g.p u11.g.l.length,vS u11.got.p u11.got.l.length,vS u11.acked.p u11.acked.l.length,vS u22.p u22.t.length,vI u11.num,vI u11.slots,vS u11.sess.p u11.sess.l.length,vI u11.wait,vI u11.limit,vI u11.clock,vS u11.rises.p l.length]),(8,gg,[vI x45.id,vI x45.e.inc,vI x45.e.rank,vI x45.e.beat,vI x45.e.ver,.string x45.e.data]),(9,gg + 1,[vI r.inc,vI r.beat,vI r.tick])] ⟨rfl,rfl,rfl,rfl,rfl,rfl,rfl,rfl,trivial⟩ ⟨rfl,rfl,rfl,rfl,rfl,trivial⟩ rfl fun ρ0 ff => ?_
   have ew40 : IntKind.wrap .i64 ((i : Int) + (1)) = ((i + 1 : Nat) : Int) := (wrap_i64 (by omega) (by omega)).trans (by omega)
   refine ⟨_,rfl,?_⟩
   exact ⟨(i + 1,l.set x45.id.toNat ⟨x45.e.inc,x45.e.beat,g.clock⟩),u27.x.items.length - (i + 1),by omega,⟨rfl,rfl,rfl,congrArg (Value.int .i64) ew40,trivial⟩,⟨rfl,rfl,(show some (3,[vI u11.id,vI u11.n,vS u27.p u27.x.items.length,vS u27.q u27.x.floors.length,vS u31.p u31.l.length,vI u31.root,vI u11.g.cap,vI u11.g.frm,vS u11.g.p u11.g.l.length,vS u11.got.p u11.got.l.length,vS u11.acked.p u11.acked.l.length,vS u22.p u22.t.length,vI u11.num,vI u11.slots,vS u11.sess.p u11.sess.l.length,vI u11.wait,vI u11.limit,vI u11.clock,vS u11.rises.p l.length]) = _ by rw [List.length_set]),trivial⟩,rfl,by simp only; omega,by rw [risesF_succ hy45,← hv]; exact (riseF_yes hr (.inl h58)).symm,hF.ris hP94 hO94⟩
theorem ac_spec_Take (g : NV) (d : SV) (st : St) (hR : RdN st g) (hD : RdS st d) (hb : bigN g.x) (hbd : bigS d.x) : C 37 [.agg #[vI g.id,vI g.n,vS g.s.p g.s.x.items.length,vS g.s.q g.s.x.floors.length,vS g.t.p g.t.l.length,vI g.t.root,vI g.g.cap,vI g.g.frm,vS g.g.p g.g.l.length,vS g.got.p g.got.l.length,vS g.acked.p g.acked.l.length,vS g.seen.p g.seen.t.length,vI g.num,vI g.slots,vS g.sess.p g.sess.l.length,vI g.wait,vI g.limit,vI g.clock,vS g.rises.p g.rises.l.length],.agg #[vS d.p d.x.items.length,vS d.q d.x.floors.length]] st (fun v s => ∃ (u : NW) (b : Bool),v = .tuple #[.agg #[vI u.id,vI u.n,vS u.s.p u.s.x.items.length,vS u.s.q u.s.x.floors.length,vS u.t.p u.t.l.length,vI u.t.root,vI u.g.cap,vI u.g.frm,vS u.g.p u.g.l.length,vS u.got.p u.got.l.length,vS u.acked.p u.acked.l.length,vS u.seen.p u.seen.t.length,vI u.num,vI u.slots,vS u.sess.p u.sess.l.length,vI u.wait,vI u.limit,vI u.clock,vS u.rises.p u.rises.l.length],vB b] ∧ (u.x,b) = takeP g.x d.x ∧ OwnP s (pcNW u) ∧ NewP st.next (pcNW u) ∧ Pres st s) := by
 refine AC.enterX (i := ⟨[2,3,4],[2,3,4],[0,1,2,3,4,5,13]⟩) [] Tryz.func37 rfl rfl (by kernel_rfl) (by kernel_rfl) Tryz.ntmps37 (Nat.le_of_ble_eq_true rfl) rfl ?_
 iterate 3 refine ⟨_,rfl,?_⟩
 refine AW.cutM (3) st [(2,vL 2 0 (0)),(3,vL 3 0 (1)),(4,vL 4 0 (2)),(5,vB false)] [(2,0,cNV g),(3,1,[vS d.p d.x.items.length,vS d.q d.x.floors.length]),(4,2,[vI 0,vI 0,.slice none 0 0,.slice none 0 0,.slice none 0 0,vI 0,vI 0,vI 0,.slice none 0 0,.slice none 0 0,.slice none 0 0,.slice none 0 0,vI 0,vI 0,.slice none 0 0,vI 0,vI 0,vI 0,.slice none 0 0])] ⟨rfl,rfl,rfl,rfl,trivial⟩ ⟨rfl,rfl,rfl,trivial⟩ rfl fun ρ0 ff => ?_
 refine ⟨_,op_ldo (v := (vNV g)) rfl rfl rfl rfl,?_⟩
 refine ⟨_,rfl,(ac_spec_NodeOk g st hR (by first | assumption | omega)).mono ?_⟩
 rintro _ s7 ⟨x7,rfl,h7,hP7⟩
 rcases x7 with _|_
 ·replace h7 := fun k => Bool.false_ne_true (h7.2 k)
  iterate 2 refine ⟨_,rfl,?_⟩
  refine AW.cutM (3) s7 [(2,vL 2 0 (0)),(3,vL 3 0 (1)),(4,vL 4 0 (2)),(5,vB false),(13,vB true)] [(2,0,cNV g),(3,1,[vS d.p d.x.items.length,vS d.q d.x.floors.length]),(4,2,[vI 0,vI 0,.slice none 0 0,.slice none 0 0,.slice none 0 0,vI 0,vI 0,vI 0,.slice none 0 0,.slice none 0 0,.slice none 0 0,.slice none 0 0,vI 0,vI 0,.slice none 0 0,vI 0,vI 0,vI 0,.slice none 0 0])] ⟨rfl,rfl,rfl,rfl,rfl,trivial⟩ ⟨rfl,rfl,rfl,trivial⟩ rfl fun ρ0 ff => ?_
  refine ⟨_,op_ldo (v := (vNV g)) rfl rfl rfl rfl,?_⟩
  refine ⟨_,rfl,(ac_spec_l11Copy g s7 (hR.pres hP7) (by first | assumption | omega)).mono ?_⟩
  rintro _ s15 ⟨u15,rfl,h15,hO15,hN15,hP15⟩
  refine ⟨_,op_stw (vs := cNV u15.v) rfl rfl rfl rfl rfl rfl rfl rfl,?_⟩
  refine cxs ?_
  exact ⟨.inl rfl,_,rfl,u15,false,rfl,take_no (fun k => h7 k.1) h15,hO15,hN15.le hP7.1,hP7.trans hP15⟩
 ·replace h7 := h7.1 rfl
  refine ⟨_,rfl,?_⟩
  refine ⟨_,op_ldo rfl rfl rfl rfl,?_⟩
  refine ⟨_,rfl,(ac_spec_StateOk d s7 (hD.pres hP7) (by first | assumption | omega)).mono ?_⟩
  rintro _ s7 ⟨x11,rfl,h11,rfl⟩
  rcases x11 with _|_
  ·replace h11 := fun k => Bool.false_ne_true (h11.2 k)
   iterate 2 refine ⟨_,rfl,?_⟩
   refine AW.cutM (3) s7 [(2,vL 2 0 (0)),(3,vL 3 0 (1)),(4,vL 4 0 (2)),(5,vB false),(13,vB true)] [(2,0,cNV g),(3,1,[vS d.p d.x.items.length,vS d.q d.x.floors.length]),(4,2,[vI 0,vI 0,.slice none 0 0,.slice none 0 0,.slice none 0 0,vI 0,vI 0,vI 0,.slice none 0 0,.slice none 0 0,.slice none 0 0,.slice none 0 0,vI 0,vI 0,.slice none 0 0,vI 0,vI 0,vI 0,.slice none 0 0])] ⟨rfl,rfl,rfl,rfl,rfl,trivial⟩ ⟨rfl,rfl,rfl,trivial⟩ rfl fun ρ0 ff => ?_
   refine ⟨_,op_ldo (v := (vNV g)) rfl rfl rfl rfl,?_⟩
   refine ⟨_,rfl,(ac_spec_l11Copy g s7 (hR.pres hP7) (by first | assumption | omega)).mono ?_⟩
   rintro _ s15 ⟨u15,rfl,h15,hO15,hN15,hP15⟩
   refine ⟨_,op_stw (vs := cNV u15.v) rfl rfl rfl rfl rfl rfl rfl rfl,?_⟩
   refine cxs ?_
   exact ⟨.inl rfl,_,rfl,u15,false,rfl,take_no (fun k => h11 k.2) h15,hO15,hN15.le hP7.1,hP7.trans hP15⟩
  ·replace h11 := h11.1 rfl
   iterate 2 refine ⟨_,rfl,?_⟩
   refine AW.cutM (3) s7 [(2,vL 2 0 (0)),(3,vL 3 0 (1)),(4,vL 4 0 (2)),(5,vB false),(13,vB false)] [(2,0,cNV g),(3,1,[vS d.p d.x.items.length,vS d.q d.x.floors.length]),(4,2,[vI 0,vI 0,.slice none 0 0,.slice none 0 0,.slice none 0 0,vI 0,vI 0,vI 0,.slice none 0 0,.slice none 0 0,.slice none 0 0,.slice none 0 0,vI 0,vI 0,.slice none 0 0,vI 0,vI 0,vI 0,.slice none 0 0])] ⟨rfl,rfl,rfl,rfl,rfl,trivial⟩ ⟨rfl,rfl,rfl,trivial⟩ rfl fun ρ0 ff => ?_
   refine cxs ?_
   refine ⟨_,op_ldo (v := (vNV g)) rfl rfl rfl rfl,?_⟩
   refine ⟨_,op_ldo rfl rfl rfl rfl,?_⟩
   refine ⟨_,rfl,(ac_spec_l11Take g d s7 (hR.pres hP7) (hD.pres hP7) hb hbd h7.s h11 h7.rises.1).mono ?_⟩
   rintro _ s18 ⟨u18,rfl,h18,hO18,hN18,hP18⟩
   refine ⟨_,op_stw (vs := cNV u18.v) rfl rfl rfl rfl rfl rfl rfl rfl,?_⟩
   refine cxs ?_
   exact ⟨.inl rfl,_,rfl,u18,true,rfl,take_yes ⟨h7,h11⟩ h18,hO18,hN18.le hP7.1,hP7.trans hP18⟩
theorem c_bool : Tryz.prog.cellsOf 4 = 1 := by kernel_rfl
theorem wt_table' {k : Nat} {L : LL} {us : List Value} (h : WT Tryz.prog Tryz.prog.globals.size (k + 4) 32 L us) : ∃ p l,us = [vS p l.length] ∧ RdT (stL Tryz.prog.globals.size L) p l ∧ maxT l := by
 obtain ⟨p,l,h1,h2,h3,h4⟩ := WT.rows (f := cRV) (Q := fun r => Rows (stL Tryz.prog.globals.size L) 1 fI r.p r.l ∧ r.l.length ≤ maxLen) Tryz.underlying32 (z := 1) (by kernel_rfl) (fun us h => by
  obtain ⟨p,l,h5,h6,h7⟩ := wt_ints' h
  exact ⟨⟨p,l⟩,h5,h6,h7⟩) h
 exact ⟨p,l,h1,⟨h2,fun r hr => (h4 r hr).1⟩,h3,fun r hr => (h4 r hr).2⟩
theorem wt_Tree' {k : Nat} {L : LL} {us : List Value} (h : WT Tryz.prog Tryz.prog.globals.size (k + 4) 28 L us) : ∃ x : TV,us = cTV x ∧ Rows (stL Tryz.prog.globals.size L) 1 fI x.p x.l ∧ x.l.length ≤ maxLen := by
 obtain ⟨h1,h2⟩ := WT.fields Tryz.underlying28 h
 have h1 : us.length = 2 := h1.trans (by kernel_rfl)
 have hc0 : Tryz.prog.cellsOf 26 = 1 := by kernel_rfl
 match us,h1,h2 with
 | [a0,a1],_,h2 =>
  obtain ⟨p0,l0,e0,R0,M0⟩ := wt_ints' (h2 0 _ rfl)
  simp [c_int,hc0] at e0
  obtain ⟨n1,e1,_⟩ := WT.int Tryz.underlying3 (h2 1 _ rfl)
  simp [c_int,hc0] at e1
  exact ⟨⟨⟨p0,l0⟩,n1⟩,by simp [e0,e1],R0,M0⟩
theorem wt_Sess' {k : Nat} {L : LL} {us : List Value} (h : WT Tryz.prog Tryz.prog.globals.size (k + 2) 142 L us) : ∃ x : Ses,us = cSess x ∧ True := by
 obtain ⟨h1,h2⟩ := WT.fields Tryz.underlying142 h
 have h1 : us.length = 4 := h1.trans (by kernel_rfl)
 match us,h1,h2 with
 | [a0,a1,a2,a3],_,h2 =>
  obtain ⟨n0,e0,_⟩ := WT.int Tryz.underlying3 (h2 0 _ rfl)
  simp [c_int,c_bool] at e0
  obtain ⟨n1,e1,_⟩ := WT.int Tryz.underlying3 (h2 1 _ rfl)
  simp [c_int,c_bool] at e1
  obtain ⟨n2,e2⟩ := WT.boolean Tryz.underlying4 (h2 2 _ rfl)
  simp [c_int,c_bool] at e2
  obtain ⟨n3,e3,_⟩ := WT.int Tryz.underlying3 (h2 3 _ rfl)
  simp [c_int,c_bool] at e3
  exact ⟨⟨n0,n1,n2,n3⟩,by simp [e0,e1,e2,e3],trivial⟩
theorem wt_Rise' {k : Nat} {L : LL} {us : List Value} (h : WT Tryz.prog Tryz.prog.globals.size (k + 2) 144 L us) : ∃ x : Ris,us = cRise x ∧ True := by
 obtain ⟨h1,h2⟩ := WT.fields Tryz.underlying144 h
 have h1 : us.length = 3 := h1.trans (by kernel_rfl)
 match us,h1,h2 with
 | [a0,a1,a2],_,h2 =>
  obtain ⟨n0,e0,_⟩ := WT.int Tryz.underlying3 (h2 0 _ rfl)
  simp [c_int] at e0
  obtain ⟨n1,e1,_⟩ := WT.int Tryz.underlying3 (h2 1 _ rfl)
  simp [c_int] at e1
  obtain ⟨n2,e2,_⟩ := WT.int Tryz.underlying3 (h2 2 _ rfl)
  simp [c_int] at e2
  exact ⟨⟨n0,n1,n2⟩,by simp [e0,e1,e2],trivial⟩
theorem wt_Node' {k : Nat} {L : LL} {us : List Value} (h : WT Tryz.prog Tryz.prog.globals.size (k + 10) 36 L us) : ∃ x : NV,us = cNV x ∧ RdN (stL Tryz.prog.globals.size L) x ∧ maxN x := by
 obtain ⟨h1,h2⟩ := WT.fields Tryz.underlying36 h
 have h1 : us.length = 19 := h1.trans (by kernel_rfl)
 have hc2 : Tryz.prog.cellsOf 25 = 2 := by kernel_rfl
 have hc3 : Tryz.prog.cellsOf 28 = 2 := by kernel_rfl
 have hc4 : Tryz.prog.cellsOf 31 = 3 := by kernel_rfl
 have hc5 : Tryz.prog.cellsOf 26 = 1 := by kernel_rfl
 have hc6 : Tryz.prog.cellsOf 26 = 1 := by kernel_rfl
 have hc7 : Tryz.prog.cellsOf 32 = 1 := by kernel_rfl
 have hc10 : Tryz.prog.cellsOf 33 = 1 := by kernel_rfl
 have hc14 : Tryz.prog.cellsOf 34 = 1 := by kernel_rfl
 match us,h1,h2 with
 | [a0,a1,a2,a3,a4,a5,a6,a7,a8,a9,a10,a11,a12,a13,a14,a15,a16,a17,a18],_,h2 =>
  obtain ⟨n0,e0,_⟩ := WT.int Tryz.underlying3 (h2 0 _ rfl)
  simp [c_int] at e0
  obtain ⟨n1,e1,_⟩ := WT.int Tryz.underlying3 (h2 1 _ rfl)
  simp [c_int] at e1
  obtain ⟨x2,e2,R2,M2⟩ := wt_State' (h2 2 _ rfl)
  simp [c_int,hc2] at e2
  obtain ⟨x3,e3,R3,M3⟩ := wt_Tree' (h2 3 _ rfl)
  simp [c_int,hc2,hc3] at e3
  obtain ⟨x4,e4,R4,M4⟩ := wt_Log' (h2 4 _ rfl)
  simp [c_int,hc2,hc3,hc4] at e4
  obtain ⟨p5,l5,e5,R5,M5⟩ := wt_ints' (h2 5 _ rfl)
  simp [c_int,hc2,hc3,hc4,hc5] at e5
  obtain ⟨p6,l6,e6,R6,M6⟩ := wt_ints' (h2 6 _ rfl)
  simp [c_int,hc2,hc3,hc4,hc5,hc6] at e6
  obtain ⟨p7,l7,e7,R7,M7⟩ := wt_table' (h2 7 _ rfl)
  simp [c_int,hc2,hc3,hc4,hc5,hc6,hc7] at e7
  obtain ⟨n8,e8,_⟩ := WT.int Tryz.underlying3 (h2 8 _ rfl)
  simp [c_int,hc2,hc3,hc4,hc5,hc6,hc7] at e8
  obtain ⟨n9,e9,_⟩ := WT.int Tryz.underlying3 (h2 9 _ rfl)
  simp [c_int,hc2,hc3,hc4,hc5,hc6,hc7] at e9
  obtain ⟨p10,l10,e10,R10,M10,_⟩ := WT.rows (f := cSess) (Q := fun _ => True) (z := 4) Tryz.underlying33 (by kernel_rfl) (fun us h => wt_Sess' h) (h2 10 _ rfl)
  simp [c_int,hc2,hc3,hc4,hc5,hc6,hc7,hc10] at e10
  obtain ⟨n11,e11,_⟩ := WT.int Tryz.underlying3 (h2 11 _ rfl)
  simp [c_int,hc2,hc3,hc4,hc5,hc6,hc7,hc10] at e11
  obtain ⟨n12,e12,_⟩ := WT.int Tryz.underlying3 (h2 12 _ rfl)
  simp [c_int,hc2,hc3,hc4,hc5,hc6,hc7,hc10] at e12
  obtain ⟨n13,e13,_⟩ := WT.int Tryz.underlying3 (h2 13 _ rfl)
  simp [c_int,hc2,hc3,hc4,hc5,hc6,hc7,hc10] at e13
  obtain ⟨p14,l14,e14,R14,M14,_⟩ := WT.rows (f := cRise) (Q := fun _ => True) (z := 3) Tryz.underlying34 (by kernel_rfl) (fun us h => wt_Rise' h) (h2 14 _ rfl)
  simp [c_int,hc2,hc3,hc4,hc5,hc6,hc7,hc10,hc14] at e14
  exact ⟨⟨n0,n1,x2,x3,x4,⟨p5,l5⟩,⟨p6,l6⟩,⟨p7,l7⟩,n8,n9,⟨p10,l10⟩,n11,n12,n13,⟨p14,l14⟩⟩,by simp [e0,e1,e2,e3,e4,e5,e6,e7,e8,e9,e10,e11,e12,e13,e14],⟨R2,R3,R4,R5,R6,R7,R10,R14⟩,⟨M2,M3,M4,M5,M6,M7,M10,M14⟩⟩
theorem wt_Node {L : LL} {us : List Value} (h : WT Tryz.prog Tryz.prog.globals.size 12 36 L us) : ∃ x : NV,us = cNV x ∧ RdN (stL Tryz.prog.globals.size L) x ∧ maxN x := wt_Node' h
abbrev pcTV (u : TV) : List Pc := pcIs u.toRV
theorem OwnP.rdTV {st : St} {u : TV} (h : OwnP st (pcTV u)) : Rows st 1 fI u.p u.l := OwnP.rdIs h
def mkTV (u : TV) (k : Int) : TV := ⟨mkIs u.toRV k,u.root⟩
theorem mkp_TV (u : TV) (k : Int) : (pcTV (mkTV u k)).map (·.p) = (pcTV u).map (·.p) := rfl
def RdTr (st : St) (t : TV) : Prop := Rows st 1 fI t.p t.l
theorem RdTr.pres {st st' : St} {t : TV} (h : RdTr st t) (k : Pres st st') : RdTr st' t := k.rows h
abbrev cntTV (t : Tr) : Nat := t.leaves.length
def bigTr (t : Tr) : Prop := t.leaves.length ≤ 1048576
theorem uc_markTree (u : TV) (k : Int) (st : St) (hO : OwnP st (pcTV u)) (hb : bigTr u.x) (h0 : 0 ≤ k) (hk : k ≤ 137438953472) : C 63 [.agg #[vS u.p u.l.length,vI u.root],vI k] st (fun v s => v = vI (k + (cntTV u.x : Int)) ∧ OwnP s (pcTV (mkTV u k)) ∧ PrL ((pcTV u).map (·.p)) st s) := by
 refine AC.enterX (i := ⟨[2],[2,5],[0,1,2,4]⟩) [] Tryz.func63 rfl rfl (by kernel_rfl) (by kernel_rfl) Tryz.ntmps63 (Nat.le_of_ble_eq_true rfl) rfl ?_
 refine ⟨_,rfl,?_⟩
 refine AW.cutM (1) st [(1,vI k),(2,vL 2 0 (0)),(4,vI (0))] [(2,0,[vS u.p u.l.length,vI u.root])] ⟨rfl,rfl,rfl,trivial⟩ ⟨rfl,trivial⟩ rfl fun ρ0 ff => ?_
 refine ⟨_,rfl,?_⟩
 refine ⟨_,op_ldo rfl rfl rfl rfl,?_⟩
 refine ⟨_,rfl,(uc_markIntS u.toRV k st hO hb h0 hk).mono ?_⟩
 rintro _ s8 ⟨rfl,hO8,hP8⟩
 refine cxs ?_
 refine cxs ?_
 exact ⟨.inl rfl,_,rfl,rfl,hO8,hP8⟩
theorem uc_heldTree (u : TV) (k : Int) (st : St) (hR : Rows st 1 fI (mkTV u k).p (mkTV u k).l) (hb : bigTr u.x) (h0 : 0 ≤ k) (hk : k ≤ 137438953472) : C 79 [.agg #[vS u.p u.l.length,vI u.root],vI k] st (fun v s => v = vI (k + (cntTV u.x : Int)) ∧ Pres st s) := by
 refine AC.enterX (i := ⟨[2],[2,5],[0,1,2,4,10]⟩) [] Tryz.func79 rfl rfl (by kernel_rfl) (by kernel_rfl) Tryz.ntmps79 (Nat.le_of_ble_eq_true rfl) rfl ?_
 refine ⟨_,rfl,?_⟩
 refine AW.cutM (1) st [(1,vI k),(2,vL 2 0 (0)),(4,vI (0))] [(2,0,[vS u.p u.l.length,vI u.root])] ⟨rfl,rfl,rfl,trivial⟩ ⟨rfl,trivial⟩ rfl fun ρ0 ff => ?_
 refine ⟨_,rfl,?_⟩
 refine ⟨_,op_ldo rfl rfl rfl rfl,?_⟩
 refine ⟨_,rfl,(uc_heldIntS u.toRV k st hR hb h0 hk).mono ?_⟩
 rintro _ s8 ⟨rfl,hP8⟩
 refine AW.cutM (1) s8 [(1,vI (k + (cntIs u.l : Int))),(4,vI (0))] [] ⟨rfl,rfl,trivial⟩ trivial rfl fun ρ0 ff => ?_
 refine ⟨_,rfl,?_⟩
 rintro (_|_) h10
 rotate_left
 ·exact absurd (of_decide_eq_true h10) ((by unfold cntIs; omega))
 refine AW.cutM (1) s8 [(1,vI (k + (cntIs u.l : Int))),(4,vI (0)),(10,vB false)] [] ⟨rfl,rfl,rfl,trivial⟩ trivial rfl fun ρ0 ff => ?_
 refine cxs ?_
 refine cxs ?_
 exact ⟨.inl rfl,_,rfl,rfl,hP8⟩
def mkSes (k : Int) : Ses := ⟨k,k + 1,(k + 2).tmod 3 == 0,k + 3⟩
def mkRis (k : Int) : Ris := ⟨k,k + 1,k + 2⟩
theorem ac_laws_markSessS (p : Option Addr) (l : List Ses) (k : Int) (st : St) (hO : OwnR st 4 cSess p l) (hs : szOk l.length) (h0 : 0 ≤ k) (hk : k ≤ 549755813888) : C 66 [vS p l.length,vI k] st (fun v s => v = vI (k + 4 * (l.length : Int)) ∧ OwnR s 4 cSess p (mkRow mkSes 4 l.length k) ∧ Pr p st s) := by
 have hs : l.length ≤ 1048576 := hs
 refine AC.enterX (i := ⟨[],[],[0,1,4,5,9]⟩) [] Tryz.func66 rfl rfl (by kernel_rfl) (by kernel_rfl) Tryz.ntmps66 (Nat.le_of_ble_eq_true rfl) rfl ?_
 refine cxs ?_
 refine AW.cut lo0 st [(0,vS p l.length),(1,vI k),(4,vI (0)),(5,vI (0))] ⟨rfl,rfl,rfl,rfl,trivial⟩ fun ρ0 => ?_
 refine AW.loop0 (fun i : Nat => [(0,vS p l.length),(1,vI (k + 4 * (i : Int))),(5,vI (i : Int))]) (fun m (i : Nat) st' => m = l.length - i ∧ i ≤ l.length ∧ OwnR st' 4 cSess p (mkRow mkSes 4 i k ++ l.drop i) ∧ Pr p st st') 0 _ ⟨rfl,congrArg (Value.int .i64) (show k = k + 4 * ((0 : Nat) : Int) by omega),rfl,trivial⟩ rfl ⟨rfl,Nat.zero_le _,by simpa [mkRow] using hO,Pr.refl _ _⟩ ?_
 rintro m i ρ0 st' ⟨rfl,hi,hO0,hP0⟩
 iterate 2 refine ⟨_,rfl,?_⟩
 rintro (_|_) h1
 ·replace h1 : ¬ ((i : Int) < (l.length : Int)) := of_decide_eq_false h1
  refine AW.cut lo0 st' [(0,vS p l.length),(1,vI (k + 4 * (i : Int))),(5,vI (i : Int)),(9,vB false)] ⟨rfl,rfl,rfl,rfl,trivial⟩ fun ρ0 => ?_
  refine cxs ?_
  refine cxs ?_
  have hil : i = l.length := by omega
  subst hil
  rw [List.drop_length,List.append_nil] at hO0
  exact ⟨.inl rfl,_,rfl,rfl,hO0,hP0⟩
 ·replace h1 : (i : Int) < (l.length : Int) := of_decide_eq_true h1
  refine AW.cut lo0 st' [(0,vS p l.length),(1,vI (k + 4 * (i : Int))),(5,vI (i : Int)),(9,vB true)] ⟨rfl,rfl,rfl,rfl,trivial⟩ fun ρ0 => ?_
  have h1' := Int.ofNat_lt.1 h1
  have hlen : i < (mkRow mkSes 4 i k ++ l.drop i).length := by rw [List.length_append,mkRow_len,List.length_drop]; omega
  have ⟨a,ha⟩ := hO0.some (by omega)
  obtain ⟨w,hw⟩ : ∃ w,(mkRow mkSes 4 i k ++ l.drop i)[i]? = some w := ⟨_,List.getElem?_eq_getElem hlen⟩
  have hset := mkRow_set (mk := mkSes) (z := 4) (k := k) h1'
  refine cxs ?_
  refine ⟨_,op_idx (j := (i : Int)) (n := l.length) (q := ⟨a,0,none⟩) rfl (congrArg (fun u => vS u l.length) ha) rfl rfl rfl (Int.natCast_nonneg _) h1,?_⟩
  refine ⟨_,rfl,?_⟩
  refine op_putc (z := 4) (i := 0) (st := st') (f := cSess) (j := i) (l := (mkRow mkSes 4 i k ++ l.drop i)) (w := w) (y := ((⟨(k + 4 * (i : Int)),w.num,w.inn,w.age⟩ : Ses) : Ses)) (p := p) (d := 0 + i * 4 + 0) rfl rfl (by omega) rfl rfl len_cSess rfl rfl hw (by decide) rfl hO0 ha ?_
  intro s1 hO1 hP1 hn1
  have hQ1 : Pr p st s1 := hP0.trans hP1
  refine AW.cut lo0 s1 [(0,vS p l.length),(1,vI (k + 4 * (i : Int))),(5,vI (i : Int)),(9,vB true)] ⟨rfl,rfl,rfl,rfl,trivial⟩ fun ρ0 => ?_
  have e18 : IntKind.wrap .i64 (k + 4 * (i : Int) + 1) = k + 4 * (i : Int) + 1 := (wrap_i64 (by omega) (by omega)).trans (by omega)
  refine ⟨_,rfl,?_⟩
  refine AW.cut lo0 s1 [(0,vS p l.length),(1,vI (k + 4 * (i : Int) + 1)),(5,vI (i : Int)),(9,vB true)] ⟨rfl,congrArg (Value.int .i64) e18,rfl,rfl,trivial⟩ fun ρ0 => ?_
  refine ⟨_,op_idx (j := (i : Int)) (n := l.length) (q := ⟨a,0,none⟩) rfl (congrArg (fun u => vS u l.length) ha) rfl rfl rfl (Int.natCast_nonneg _) h1,?_⟩
  refine ⟨_,rfl,?_⟩
  refine op_putc (z := 4) (i := 1) (st := s1) (f := cSess) (j := i) (l := ((mkRow mkSes 4 i k ++ l.drop i).set i (⟨(k + 4 * (i : Int)),w.num,w.inn,w.age⟩ : Ses))) (w := (⟨(k + 4 * (i : Int)),w.num,w.inn,w.age⟩ : Ses)) (y := ((⟨(k + 4 * (i : Int)),(k + 4 * (i : Int)) + 1,w.inn,w.age⟩ : Ses) : Ses)) (p := p) (d := 0 + i * 4 + 1) rfl rfl (by omega) rfl rfl len_cSess rfl rfl (getElem?_set_same hlen) (by decide) rfl hO1 ha ?_
  intro s2 hO2 hP2 hn2
  rw [set_set] at hO2
  have hQ2 : Pr p st s2 := hQ1.trans hP2
  refine AW.cut lo0 s2 [(0,vS p l.length),(1,vI (k + 4 * (i : Int) + 1)),(5,vI (i : Int)),(9,vB true)] ⟨rfl,rfl,rfl,rfl,trivial⟩ fun ρ0 => ?_
  have e25 : IntKind.wrap .i64 (k + 4 * (i : Int) + 1 + 1) = k + 4 * (i : Int) + 2 := (wrap_i64 (by omega) (by omega)).trans (by omega)
  refine ⟨_,rfl,?_⟩
  refine AW.cut lo0 s2 [(0,vS p l.length),(1,vI (k + 4 * (i : Int) + 2)),(5,vI (i : Int)),(9,vB true)] ⟨rfl,congrArg (Value.int .i64) e25,rfl,rfl,trivial⟩ fun ρ0 => ?_
  refine ⟨_,op_rem rfl rfl rfl (by decide),?_⟩
  refine ⟨_,rfl,?_⟩
  rintro _ rfl
  refine ⟨_,op_idx (j := (i : Int)) (n := l.length) (q := ⟨a,0,none⟩) rfl (congrArg (fun u => vS u l.length) ha) rfl rfl rfl (Int.natCast_nonneg _) h1,?_⟩
  refine ⟨_,rfl,?_⟩
  refine op_putc (z := 4) (i := 2) (st := s2) (f := cSess) (j := i) (l := ((mkRow mkSes 4 i k ++ l.drop i).set i (⟨(k + 4 * (i : Int)),(k + 4 * (i : Int)) + 1,w.inn,w.age⟩ : Ses))) (w := (⟨(k + 4 * (i : Int)),(k + 4 * (i : Int)) + 1,w.inn,w.age⟩ : Ses)) (y := ((⟨(k + 4 * (i : Int)),(k + 4 * (i : Int)) + 1,((k + 4 * (i : Int)) + 2).tmod 3 == 0,w.age⟩ : Ses) : Ses)) (p := p) (d := 0 + i * 4 + 2) rfl rfl (by omega) rfl rfl len_cSess rfl rfl (getElem?_set_same hlen) (by decide) rfl hO2 ha ?_
  intro s3 hO3 hP3 hn3
  rw [set_set] at hO3
  have hQ3 : Pr p st s3 := hQ2.trans hP3
  refine AW.cut lo0 s3 [(0,vS p l.length),(1,vI (k + 4 * (i : Int) + 2)),(5,vI (i : Int)),(9,vB true)] ⟨rfl,rfl,rfl,rfl,trivial⟩ fun ρ0 => ?_
  have e34 : IntKind.wrap .i64 (k + 4 * (i : Int) + 2 + 1) = k + 4 * (i : Int) + 3 := (wrap_i64 (by omega) (by omega)).trans (by omega)
  refine ⟨_,rfl,?_⟩
  refine AW.cut lo0 s3 [(0,vS p l.length),(1,vI (k + 4 * (i : Int) + 3)),(5,vI (i : Int)),(9,vB true)] ⟨rfl,congrArg (Value.int .i64) e34,rfl,rfl,trivial⟩ fun ρ0 => ?_
  refine ⟨_,op_idx (j := (i : Int)) (n := l.length) (q := ⟨a,0,none⟩) rfl (congrArg (fun u => vS u l.length) ha) rfl rfl rfl (Int.natCast_nonneg _) h1,?_⟩
  refine ⟨_,rfl,?_⟩
  refine op_putc (z := 4) (i := 3) (st := s3) (f := cSess) (j := i) (l := ((mkRow mkSes 4 i k ++ l.drop i).set i (⟨(k + 4 * (i : Int)),(k + 4 * (i : Int)) + 1,((k + 4 * (i : Int)) + 2).tmod 3 == 0,w.age⟩ : Ses))) (w := (⟨(k + 4 * (i : Int)),(k + 4 * (i : Int)) + 1,((k + 4 * (i : Int)) + 2).tmod 3 == 0,w.age⟩ : Ses)) (y := ((⟨(k + 4 * (i : Int)),(k + 4 * (i : Int)) + 1,((k + 4 * (i : Int)) + 2).tmod 3 == 0,(k + 4 * (i : Int)) + 3⟩ : Ses) : Ses)) (p := p) (d := 0 + i * 4 + 3) rfl rfl (by omega) rfl rfl len_cSess rfl rfl (getElem?_set_same hlen) (by decide) rfl hO3 ha ?_
  intro s4 hO4 hP4 hn4
  rw [set_set] at hO4
  have hQ4 : Pr p st s4 := hQ3.trans hP4
  refine AW.cut lo0 s4 [(0,vS p l.length),(1,vI (k + 4 * (i : Int) + 3)),(5,vI (i : Int)),(9,vB true)] ⟨rfl,rfl,rfl,rfl,trivial⟩ fun ρ0 => ?_
  have e41 : IntKind.wrap .i64 (k + 4 * (i : Int) + 3 + 1) = k + 4 * ((i + 1 : Nat) : Int) := (wrap_i64 (by omega) (by omega)).trans (by omega)
  refine ⟨_,rfl,?_⟩
  refine AW.cut lo0 s4 [(0,vS p l.length),(1,vI (k + 4 * ((i + 1 : Nat) : Int))),(5,vI (i : Int)),(9,vB true)] ⟨rfl,congrArg (Value.int .i64) e41,rfl,rfl,trivial⟩ fun ρ0 => ?_
  have e11 : IntKind.wrap .i64 ((i : Int) + 1) = ((i + 1 : Nat) : Int) := (wrap_i64 (by omega) (by omega)).trans (by omega)
  refine ⟨_,rfl,?_⟩
  exact ⟨i + 1,l.length - (i + 1),by omega,⟨rfl,rfl,congrArg (Value.int .i64) e11,trivial⟩,rfl,rfl,h1',(show OwnR s4 4 cSess p (mkRow mkSes 4 (i + 1) k ++ l.drop (i + 1)) by rw [← hset]; exact hO4),hQ4⟩
theorem ac_laws_heldSessS (p : Option Addr) (n : Nat) (k : Int) (st : St) (hR : Rows st 4 cSess p (mkRow mkSes 4 n k)) (hs : szOk n) (h0 : 0 ≤ k) (hk : k ≤ 549755813888) : C 82 [vS p n,vI k] st (fun v s => v = vI (k + 4 * (n : Int)) ∧ Pres st s) := by
 have hs : n ≤ 1048576 := hs
 refine AC.enterX (i := ⟨[],[],[0,1,4,5,9,18,27,38,47]⟩) [] Tryz.func82 rfl rfl (by kernel_rfl) (by kernel_rfl) Tryz.ntmps82 (Nat.le_of_ble_eq_true rfl) rfl ?_
 refine cxs ?_
 refine AW.cut lo0 st [(0,vS p n),(1,vI k),(4,vI (0)),(5,vI (0))] ⟨rfl,rfl,rfl,rfl,trivial⟩ fun ρ0 => ?_
 refine AW.loop0 (fun i : Nat => [(0,vS p n),(1,vI (k + 4 * (i : Int))),(5,vI (i : Int))]) (fun m (i : Nat) st' => m = n - i ∧ i ≤ n ∧ Pres st st') 0 _ ⟨rfl,congrArg (Value.int .i64) (show k = k + 4 * ((0 : Nat) : Int) by omega),rfl,trivial⟩ rfl ⟨rfl,Nat.zero_le _,Pres.refl _⟩ ?_
 rintro m i ρ0 st' ⟨rfl,hi,hP⟩
 iterate 2 refine ⟨_,rfl,?_⟩
 rintro (_|_) h1
 ·replace h1 : ¬ ((i : Int) < (n : Int)) := of_decide_eq_false h1
  refine AW.cut lo0 st' [(0,vS p n),(1,vI (k + 4 * (i : Int))),(5,vI (i : Int)),(9,vB false)] ⟨rfl,rfl,rfl,rfl,trivial⟩ fun ρ0 => ?_
  refine cxs ?_
  refine cxs ?_
  have hil : i = n := by omega
  subst hil
  exact ⟨.inl rfl,_,rfl,rfl,hP⟩
 ·replace h1 : (i : Int) < (n : Int) := of_decide_eq_true h1
  refine AW.cut lo0 st' [(0,vS p n),(1,vI (k + 4 * (i : Int))),(5,vI (i : Int)),(9,vB true)] ⟨rfl,rfl,rfl,rfl,trivial⟩ fun ρ0 => ?_
  have h1' := Int.ofNat_lt.1 h1
  have ⟨b1,o1,k1,x,hpe,hx,hm1,hc1,hb1⟩ := (hP.rows hR).atB (j := i) (by rw [mkRow_len]; exact h1')
  have hx := mkRow_get hx
  have hc1 : (k1.cells.drop (o1 + i * 4)).take 4 = cSess (mkSes (k + 4 * (i : Int))) := by rw [hc1,hx]; rfl
  refine cxs ?_
  refine ⟨_,op_idx (j := (i : Int)) (n := n) (q := ⟨b1,o1,none⟩) rfl (congrArg (fun u => vS u n) hpe) rfl rfl rfl (Int.natCast_nonneg _) h1,?_⟩
  refine ⟨_,rfl,?_⟩
  refine ⟨_,op_ldc (i := 0) rfl rfl rfl rfl hm1 hc1 rfl rfl,?_⟩
  refine ⟨_,rfl,?_⟩
  rintro (_|_) h18
  rotate_left
  ·exact absurd (rfl) (bne_iff_ne.1 h18)
  refine AW.cut lo0 st' [(0,vS p n),(1,vI (k + 4 * (i : Int))),(5,vI (i : Int)),(9,vB true),(18,vB false)] ⟨rfl,rfl,rfl,rfl,rfl,trivial⟩ fun ρ0 => ?_
  refine cxs ?_
  have e20 : IntKind.wrap .i64 (k + 4 * (i : Int) + 1) = k + 4 * (i : Int) + 1 := (wrap_i64 (by omega) (by omega)).trans (by omega)
  refine ⟨_,rfl,?_⟩
  refine AW.cut lo0 st' [(0,vS p n),(1,vI (k + 4 * (i : Int) + 1)),(5,vI (i : Int)),(9,vB true),(18,vB false)] ⟨rfl,congrArg (Value.int .i64) e20,rfl,rfl,rfl,trivial⟩ fun ρ0 => ?_
  refine ⟨_,op_idx (j := (i : Int)) (n := n) (q := ⟨b1,o1,none⟩) rfl (congrArg (fun u => vS u n) hpe) rfl rfl rfl (Int.natCast_nonneg _) h1,?_⟩
  refine ⟨_,rfl,?_⟩
  refine ⟨_,op_ldc (i := 1) rfl rfl rfl rfl hm1 hc1 rfl rfl,?_⟩
  refine ⟨_,rfl,?_⟩
  rintro (_|_) h27
  rotate_left
  ·exact absurd (rfl) (bne_iff_ne.1 h27)
  refine AW.cut lo0 st' [(0,vS p n),(1,vI (k + 4 * (i : Int) + 1)),(5,vI (i : Int)),(9,vB true),(18,vB false),(27,vB false)] ⟨rfl,rfl,rfl,rfl,rfl,rfl,trivial⟩ fun ρ0 => ?_
  refine cxs ?_
  have e29 : IntKind.wrap .i64 (k + 4 * (i : Int) + 1 + 1) = k + 4 * (i : Int) + 2 := (wrap_i64 (by omega) (by omega)).trans (by omega)
  refine ⟨_,rfl,?_⟩
  refine AW.cut lo0 st' [(0,vS p n),(1,vI (k + 4 * (i : Int) + 2)),(5,vI (i : Int)),(9,vB true),(18,vB false),(27,vB false)] ⟨rfl,congrArg (Value.int .i64) e29,rfl,rfl,rfl,rfl,trivial⟩ fun ρ0 => ?_
  refine ⟨_,op_idx (j := (i : Int)) (n := n) (q := ⟨b1,o1,none⟩) rfl (congrArg (fun u => vS u n) hpe) rfl rfl rfl (Int.natCast_nonneg _) h1,?_⟩
  refine ⟨_,rfl,?_⟩
  refine ⟨_,op_ldc (i := 2) rfl rfl rfl rfl hm1 hc1 rfl rfl,?_⟩
  refine ⟨_,op_rem rfl rfl rfl (by decide),?_⟩
  refine ⟨_,rfl,?_⟩
  rintro _ rfl
  refine ⟨_,rfl,?_⟩
  rintro (_|_) h38
  rotate_left
  ·exact absurd (rfl) (b_ne h38)
  refine AW.cut lo0 st' [(0,vS p n),(1,vI (k + 4 * (i : Int) + 2)),(5,vI (i : Int)),(9,vB true),(18,vB false),(27,vB false),(38,vB false)] ⟨rfl,rfl,rfl,rfl,rfl,rfl,rfl,trivial⟩ fun ρ0 => ?_
  refine cxs ?_
  have e40 : IntKind.wrap .i64 (k + 4 * (i : Int) + 2 + 1) = k + 4 * (i : Int) + 3 := (wrap_i64 (by omega) (by omega)).trans (by omega)
  refine ⟨_,rfl,?_⟩
  refine AW.cut lo0 st' [(0,vS p n),(1,vI (k + 4 * (i : Int) + 3)),(5,vI (i : Int)),(9,vB true),(18,vB false),(27,vB false),(38,vB false)] ⟨rfl,congrArg (Value.int .i64) e40,rfl,rfl,rfl,rfl,rfl,trivial⟩ fun ρ0 => ?_
  refine ⟨_,op_idx (j := (i : Int)) (n := n) (q := ⟨b1,o1,none⟩) rfl (congrArg (fun u => vS u n) hpe) rfl rfl rfl (Int.natCast_nonneg _) h1,?_⟩
  refine ⟨_,rfl,?_⟩
  refine ⟨_,op_ldc (i := 3) rfl rfl rfl rfl hm1 hc1 rfl rfl,?_⟩
  refine ⟨_,rfl,?_⟩
  rintro (_|_) h47
  rotate_left
  ·exact absurd (rfl) (bne_iff_ne.1 h47)
  refine AW.cut lo0 st' [(0,vS p n),(1,vI (k + 4 * (i : Int) + 3)),(5,vI (i : Int)),(9,vB true),(18,vB false),(27,vB false),(38,vB false),(47,vB false)] ⟨rfl,rfl,rfl,rfl,rfl,rfl,rfl,rfl,trivial⟩ fun ρ0 => ?_
  refine cxs ?_
  have e49 : IntKind.wrap .i64 (k + 4 * (i : Int) + 3 + 1) = k + 4 * ((i + 1 : Nat) : Int) := (wrap_i64 (by omega) (by omega)).trans (by omega)
  refine ⟨_,rfl,?_⟩
  refine AW.cut lo0 st' [(0,vS p n),(1,vI (k + 4 * ((i + 1 : Nat) : Int))),(5,vI (i : Int)),(9,vB true),(18,vB false),(27,vB false),(38,vB false),(47,vB false)] ⟨rfl,congrArg (Value.int .i64) e49,rfl,rfl,rfl,rfl,rfl,rfl,trivial⟩ fun ρ0 => ?_
  have e11 : IntKind.wrap .i64 ((i : Int) + 1) = ((i + 1 : Nat) : Int) := (wrap_i64 (by omega) (by omega)).trans (by omega)
  refine ⟨_,rfl,?_⟩
  exact ⟨i + 1,n - (i + 1),by omega,⟨rfl,rfl,congrArg (Value.int .i64) e11,trivial⟩,rfl,rfl,h1',hP⟩
theorem ac_laws_markRiseS (p : Option Addr) (l : List Ris) (k : Int) (st : St) (hO : OwnR st 3 cRise p l) (hs : szOk l.length) (h0 : 0 ≤ k) (hk : k ≤ 549755813888) : C 67 [vS p l.length,vI k] st (fun v s => v = vI (k + 3 * (l.length : Int)) ∧ OwnR s 3 cRise p (mkRow mkRis 3 l.length k) ∧ Pr p st s) := by
 have hs : l.length ≤ 1048576 := hs
 refine AC.enterX (i := ⟨[],[],[0,1,4,5,9]⟩) [] Tryz.func67 rfl rfl (by kernel_rfl) (by kernel_rfl) Tryz.ntmps67 (Nat.le_of_ble_eq_true rfl) rfl ?_
 refine cxs ?_
 refine AW.cut lo0 st [(0,vS p l.length),(1,vI k),(4,vI (0)),(5,vI (0))] ⟨rfl,rfl,rfl,rfl,trivial⟩ fun ρ0 => ?_
 refine AW.loop0 (fun i : Nat => [(0,vS p l.length),(1,vI (k + 3 * (i : Int))),(5,vI (i : Int))]) (fun m (i : Nat) st' => m = l.length - i ∧ i ≤ l.length ∧ OwnR st' 3 cRise p (mkRow mkRis 3 i k ++ l.drop i) ∧ Pr p st st') 0 _ ⟨rfl,congrArg (Value.int .i64) (show k = k + 3 * ((0 : Nat) : Int) by omega),rfl,trivial⟩ rfl ⟨rfl,Nat.zero_le _,by simpa [mkRow] using hO,Pr.refl _ _⟩ ?_
 rintro m i ρ0 st' ⟨rfl,hi,hO0,hP0⟩
 iterate 2 refine ⟨_,rfl,?_⟩
 rintro (_|_) h1
 ·replace h1 : ¬ ((i : Int) < (l.length : Int)) := of_decide_eq_false h1
  refine AW.cut lo0 st' [(0,vS p l.length),(1,vI (k + 3 * (i : Int))),(5,vI (i : Int)),(9,vB false)] ⟨rfl,rfl,rfl,rfl,trivial⟩ fun ρ0 => ?_
  refine cxs ?_
  refine cxs ?_
  have hil : i = l.length := by omega
  subst hil
  rw [List.drop_length,List.append_nil] at hO0
  exact ⟨.inl rfl,_,rfl,rfl,hO0,hP0⟩
 ·replace h1 : (i : Int) < (l.length : Int) := of_decide_eq_true h1
  refine AW.cut lo0 st' [(0,vS p l.length),(1,vI (k + 3 * (i : Int))),(5,vI (i : Int)),(9,vB true)] ⟨rfl,rfl,rfl,rfl,trivial⟩ fun ρ0 => ?_
  have h1' := Int.ofNat_lt.1 h1
  have hlen : i < (mkRow mkRis 3 i k ++ l.drop i).length := by rw [List.length_append,mkRow_len,List.length_drop]; omega
  have ⟨a,ha⟩ := hO0.some (by omega)
  obtain ⟨w,hw⟩ : ∃ w,(mkRow mkRis 3 i k ++ l.drop i)[i]? = some w := ⟨_,List.getElem?_eq_getElem hlen⟩
  have hset := mkRow_set (mk := mkRis) (z := 3) (k := k) h1'
  refine cxs ?_
  refine ⟨_,op_idx (j := (i : Int)) (n := l.length) (q := ⟨a,0,none⟩) rfl (congrArg (fun u => vS u l.length) ha) rfl rfl rfl (Int.natCast_nonneg _) h1,?_⟩
  refine ⟨_,rfl,?_⟩
  refine op_putc (z := 3) (i := 0) (st := st') (f := cRise) (j := i) (l := (mkRow mkRis 3 i k ++ l.drop i)) (w := w) (y := ((⟨(k + 3 * (i : Int)),w.beat,w.tick⟩ : Ris) : Ris)) (p := p) (d := 0 + i * 3 + 0) rfl rfl (by omega) rfl rfl len_cRise rfl rfl hw (by decide) rfl hO0 ha ?_
  intro s1 hO1 hP1 hn1
  have hQ1 : Pr p st s1 := hP0.trans hP1
  refine AW.cut lo0 s1 [(0,vS p l.length),(1,vI (k + 3 * (i : Int))),(5,vI (i : Int)),(9,vB true)] ⟨rfl,rfl,rfl,rfl,trivial⟩ fun ρ0 => ?_
  have e18 : IntKind.wrap .i64 (k + 3 * (i : Int) + 1) = k + 3 * (i : Int) + 1 := (wrap_i64 (by omega) (by omega)).trans (by omega)
  refine ⟨_,rfl,?_⟩
  refine AW.cut lo0 s1 [(0,vS p l.length),(1,vI (k + 3 * (i : Int) + 1)),(5,vI (i : Int)),(9,vB true)] ⟨rfl,congrArg (Value.int .i64) e18,rfl,rfl,trivial⟩ fun ρ0 => ?_
  refine ⟨_,op_idx (j := (i : Int)) (n := l.length) (q := ⟨a,0,none⟩) rfl (congrArg (fun u => vS u l.length) ha) rfl rfl rfl (Int.natCast_nonneg _) h1,?_⟩
  refine ⟨_,rfl,?_⟩
  refine op_putc (z := 3) (i := 1) (st := s1) (f := cRise) (j := i) (l := ((mkRow mkRis 3 i k ++ l.drop i).set i (⟨(k + 3 * (i : Int)),w.beat,w.tick⟩ : Ris))) (w := (⟨(k + 3 * (i : Int)),w.beat,w.tick⟩ : Ris)) (y := ((⟨(k + 3 * (i : Int)),(k + 3 * (i : Int)) + 1,w.tick⟩ : Ris) : Ris)) (p := p) (d := 0 + i * 3 + 1) rfl rfl (by omega) rfl rfl len_cRise rfl rfl (getElem?_set_same hlen) (by decide) rfl hO1 ha ?_
  intro s2 hO2 hP2 hn2
  rw [set_set] at hO2
  have hQ2 : Pr p st s2 := hQ1.trans hP2
  refine AW.cut lo0 s2 [(0,vS p l.length),(1,vI (k + 3 * (i : Int) + 1)),(5,vI (i : Int)),(9,vB true)] ⟨rfl,rfl,rfl,rfl,trivial⟩ fun ρ0 => ?_
  have e25 : IntKind.wrap .i64 (k + 3 * (i : Int) + 1 + 1) = k + 3 * (i : Int) + 2 := (wrap_i64 (by omega) (by omega)).trans (by omega)
  refine ⟨_,rfl,?_⟩
  refine AW.cut lo0 s2 [(0,vS p l.length),(1,vI (k + 3 * (i : Int) + 2)),(5,vI (i : Int)),(9,vB true)] ⟨rfl,congrArg (Value.int .i64) e25,rfl,rfl,trivial⟩ fun ρ0 => ?_
  refine ⟨_,op_idx (j := (i : Int)) (n := l.length) (q := ⟨a,0,none⟩) rfl (congrArg (fun u => vS u l.length) ha) rfl rfl rfl (Int.natCast_nonneg _) h1,?_⟩
  refine ⟨_,rfl,?_⟩
  refine op_putc (z := 3) (i := 2) (st := s2) (f := cRise) (j := i) (l := ((mkRow mkRis 3 i k ++ l.drop i).set i (⟨(k + 3 * (i : Int)),(k + 3 * (i : Int)) + 1,w.tick⟩ : Ris))) (w := (⟨(k + 3 * (i : Int)),(k + 3 * (i : Int)) + 1,w.tick⟩ : Ris)) (y := ((⟨(k + 3 * (i : Int)),(k + 3 * (i : Int)) + 1,(k + 3 * (i : Int)) + 2⟩ : Ris) : Ris)) (p := p) (d := 0 + i * 3 + 2) rfl rfl (by omega) rfl rfl len_cRise rfl rfl (getElem?_set_same hlen) (by decide) rfl hO2 ha ?_
  intro s3 hO3 hP3 hn3
  rw [set_set] at hO3
  have hQ3 : Pr p st s3 := hQ2.trans hP3
  refine AW.cut lo0 s3 [(0,vS p l.length),(1,vI (k + 3 * (i : Int) + 2)),(5,vI (i : Int)),(9,vB true)] ⟨rfl,rfl,rfl,rfl,trivial⟩ fun ρ0 => ?_
  have e32 : IntKind.wrap .i64 (k + 3 * (i : Int) + 2 + 1) = k + 3 * ((i + 1 : Nat) : Int) := (wrap_i64 (by omega) (by omega)).trans (by omega)
  refine ⟨_,rfl,?_⟩
  refine AW.cut lo0 s3 [(0,vS p l.length),(1,vI (k + 3 * ((i + 1 : Nat) : Int))),(5,vI (i : Int)),(9,vB true)] ⟨rfl,congrArg (Value.int .i64) e32,rfl,rfl,trivial⟩ fun ρ0 => ?_
  have e11 : IntKind.wrap .i64 ((i : Int) + 1) = ((i + 1 : Nat) : Int) := (wrap_i64 (by omega) (by omega)).trans (by omega)
  refine ⟨_,rfl,?_⟩
  exact ⟨i + 1,l.length - (i + 1),by omega,⟨rfl,rfl,congrArg (Value.int .i64) e11,trivial⟩,rfl,rfl,h1',(show OwnR s3 3 cRise p (mkRow mkRis 3 (i + 1) k ++ l.drop (i + 1)) by rw [← hset]; exact hO3),hQ3⟩
theorem ac_laws_heldRiseS (p : Option Addr) (n : Nat) (k : Int) (st : St) (hR : Rows st 3 cRise p (mkRow mkRis 3 n k)) (hs : szOk n) (h0 : 0 ≤ k) (hk : k ≤ 549755813888) : C 83 [vS p n,vI k] st (fun v s => v = vI (k + 3 * (n : Int)) ∧ Pres st s) := by
 have hs : n ≤ 1048576 := hs
 refine AC.enterX (i := ⟨[],[],[0,1,4,5,9,18,27,36]⟩) [] Tryz.func83 rfl rfl (by kernel_rfl) (by kernel_rfl) Tryz.ntmps83 (Nat.le_of_ble_eq_true rfl) rfl ?_
 refine cxs ?_
 refine AW.cut lo0 st [(0,vS p n),(1,vI k),(4,vI (0)),(5,vI (0))] ⟨rfl,rfl,rfl,rfl,trivial⟩ fun ρ0 => ?_
 refine AW.loop0 (fun i : Nat => [(0,vS p n),(1,vI (k + 3 * (i : Int))),(5,vI (i : Int))]) (fun m (i : Nat) st' => m = n - i ∧ i ≤ n ∧ Pres st st') 0 _ ⟨rfl,congrArg (Value.int .i64) (show k = k + 3 * ((0 : Nat) : Int) by omega),rfl,trivial⟩ rfl ⟨rfl,Nat.zero_le _,Pres.refl _⟩ ?_
 rintro m i ρ0 st' ⟨rfl,hi,hP⟩
 iterate 2 refine ⟨_,rfl,?_⟩
 rintro (_|_) h1
 ·replace h1 : ¬ ((i : Int) < (n : Int)) := of_decide_eq_false h1
  refine AW.cut lo0 st' [(0,vS p n),(1,vI (k + 3 * (i : Int))),(5,vI (i : Int)),(9,vB false)] ⟨rfl,rfl,rfl,rfl,trivial⟩ fun ρ0 => ?_
  refine cxs ?_
  refine cxs ?_
  have hil : i = n := by omega
  subst hil
  exact ⟨.inl rfl,_,rfl,rfl,hP⟩
 ·replace h1 : (i : Int) < (n : Int) := of_decide_eq_true h1
  refine AW.cut lo0 st' [(0,vS p n),(1,vI (k + 3 * (i : Int))),(5,vI (i : Int)),(9,vB true)] ⟨rfl,rfl,rfl,rfl,trivial⟩ fun ρ0 => ?_
  have h1' := Int.ofNat_lt.1 h1
  have ⟨b1,o1,k1,x,hpe,hx,hm1,hc1,hb1⟩ := (hP.rows hR).atB (j := i) (by rw [mkRow_len]; exact h1')
  have hx := mkRow_get hx
  have hc1 : (k1.cells.drop (o1 + i * 3)).take 3 = cRise (mkRis (k + 3 * (i : Int))) := by rw [hc1,hx]; rfl
  refine cxs ?_
  refine ⟨_,op_idx (j := (i : Int)) (n := n) (q := ⟨b1,o1,none⟩) rfl (congrArg (fun u => vS u n) hpe) rfl rfl rfl (Int.natCast_nonneg _) h1,?_⟩
  refine ⟨_,rfl,?_⟩
  refine ⟨_,op_ldc (i := 0) rfl rfl rfl rfl hm1 hc1 rfl rfl,?_⟩
  refine ⟨_,rfl,?_⟩
  rintro (_|_) h18
  rotate_left
  ·exact absurd (rfl) (bne_iff_ne.1 h18)
  refine AW.cut lo0 st' [(0,vS p n),(1,vI (k + 3 * (i : Int))),(5,vI (i : Int)),(9,vB true),(18,vB false)] ⟨rfl,rfl,rfl,rfl,rfl,trivial⟩ fun ρ0 => ?_
  refine cxs ?_
  have e20 : IntKind.wrap .i64 (k + 3 * (i : Int) + 1) = k + 3 * (i : Int) + 1 := (wrap_i64 (by omega) (by omega)).trans (by omega)
  refine ⟨_,rfl,?_⟩
  refine AW.cut lo0 st' [(0,vS p n),(1,vI (k + 3 * (i : Int) + 1)),(5,vI (i : Int)),(9,vB true),(18,vB false)] ⟨rfl,congrArg (Value.int .i64) e20,rfl,rfl,rfl,trivial⟩ fun ρ0 => ?_
  refine ⟨_,op_idx (j := (i : Int)) (n := n) (q := ⟨b1,o1,none⟩) rfl (congrArg (fun u => vS u n) hpe) rfl rfl rfl (Int.natCast_nonneg _) h1,?_⟩
  refine ⟨_,rfl,?_⟩
  refine ⟨_,op_ldc (i := 1) rfl rfl rfl rfl hm1 hc1 rfl rfl,?_⟩
  refine ⟨_,rfl,?_⟩
  rintro (_|_) h27
  rotate_left
  ·exact absurd (rfl) (bne_iff_ne.1 h27)
  refine AW.cut lo0 st' [(0,vS p n),(1,vI (k + 3 * (i : Int) + 1)),(5,vI (i : Int)),(9,vB true),(18,vB false),(27,vB false)] ⟨rfl,rfl,rfl,rfl,rfl,rfl,trivial⟩ fun ρ0 => ?_
  refine cxs ?_
  have e29 : IntKind.wrap .i64 (k + 3 * (i : Int) + 1 + 1) = k + 3 * (i : Int) + 2 := (wrap_i64 (by omega) (by omega)).trans (by omega)
  refine ⟨_,rfl,?_⟩
  refine AW.cut lo0 st' [(0,vS p n),(1,vI (k + 3 * (i : Int) + 2)),(5,vI (i : Int)),(9,vB true),(18,vB false),(27,vB false)] ⟨rfl,congrArg (Value.int .i64) e29,rfl,rfl,rfl,rfl,trivial⟩ fun ρ0 => ?_
  refine ⟨_,op_idx (j := (i : Int)) (n := n) (q := ⟨b1,o1,none⟩) rfl (congrArg (fun u => vS u n) hpe) rfl rfl rfl (Int.natCast_nonneg _) h1,?_⟩
  refine ⟨_,rfl,?_⟩
  refine ⟨_,op_ldc (i := 2) rfl rfl rfl rfl hm1 hc1 rfl rfl,?_⟩
  refine ⟨_,rfl,?_⟩
  rintro (_|_) h36
  rotate_left
  ·exact absurd (rfl) (bne_iff_ne.1 h36)
  refine AW.cut lo0 st' [(0,vS p n),(1,vI (k + 3 * (i : Int) + 2)),(5,vI (i : Int)),(9,vB true),(18,vB false),(27,vB false),(36,vB false)] ⟨rfl,rfl,rfl,rfl,rfl,rfl,rfl,trivial⟩ fun ρ0 => ?_
  refine cxs ?_
  have e38 : IntKind.wrap .i64 (k + 3 * (i : Int) + 2 + 1) = k + 3 * ((i + 1 : Nat) : Int) := (wrap_i64 (by omega) (by omega)).trans (by omega)
  refine ⟨_,rfl,?_⟩
  refine AW.cut lo0 st' [(0,vS p n),(1,vI (k + 3 * ((i + 1 : Nat) : Int))),(5,vI (i : Int)),(9,vB true),(18,vB false),(27,vB false),(36,vB false)] ⟨rfl,congrArg (Value.int .i64) e38,rfl,rfl,rfl,rfl,rfl,trivial⟩ fun ρ0 => ?_
  have e11 : IntKind.wrap .i64 ((i : Int) + 1) = ((i + 1 : Nat) : Int) := (wrap_i64 (by omega) (by omega)).trans (by omega)
  refine ⟨_,rfl,?_⟩
  exact ⟨i + 1,n - (i + 1),by omega,⟨rfl,rfl,congrArg (Value.int .i64) e11,trivial⟩,rfl,rfl,h1',hP⟩
def mkSesR (g : SesV) (k : Int) : SesV := ⟨g.p,mkRow mkSes 4 g.l.length k⟩
theorem mkp_SesR (g : SesV) (k : Int) : (pcSes (mkSesR g k)).map (·.p) = (pcSes g).map (·.p) := rfl
theorem uc_markSessS (u : SesV) (k : Int) (st : St) (hO : OwnP st (pcSes u)) (hb : szOk u.l.length) (h0 : 0 ≤ k) (hk : k ≤ 274877906944) : C 66 [vS u.p u.l.length,vI k] st (fun v s => v = vI (k + ((4 * u.l.length : Nat) : Int)) ∧ OwnP s (pcSes (mkSesR u k)) ∧ PrL ((pcSes u).map (·.p)) st s) :=
 (ac_laws_markSessS u.p u.l k st (own_one (by decide) len_cSess hO) hb h0 (by omega)).mono fun v s ⟨h1,h2,h3⟩ => ⟨h1.trans (congrArg (Value.int .i64) (by omega)),OwnP.one (own_pc h2),h3.l (List.mem_singleton_self _)⟩
theorem uc_heldSessS (u : SesV) (k : Int) (st : St) (hR : Rows st 4 cSess (mkSesR u k).p (mkSesR u k).l) (hb : szOk u.l.length) (h0 : 0 ≤ k) (hk : k ≤ 274877906944) : C 82 [vS u.p u.l.length,vI k] st (fun v s => v = vI (k + ((4 * u.l.length : Nat) : Int)) ∧ Pres st s) :=
 (ac_laws_heldSessS u.p u.l.length k st hR hb h0 (by omega)).mono fun v s ⟨h1,h2⟩ => ⟨h1.trans (congrArg (Value.int .i64) (by omega)),h2⟩
def mkRisR (g : RisV) (k : Int) : RisV := ⟨g.p,mkRow mkRis 3 g.l.length k⟩
theorem mkp_RisR (g : RisV) (k : Int) : (pcRis (mkRisR g k)).map (·.p) = (pcRis g).map (·.p) := rfl
theorem uc_markRiseS (u : RisV) (k : Int) (st : St) (hO : OwnP st (pcRis u)) (hb : szOk u.l.length) (h0 : 0 ≤ k) (hk : k ≤ 274877906944) : C 67 [vS u.p u.l.length,vI k] st (fun v s => v = vI (k + ((3 * u.l.length : Nat) : Int)) ∧ OwnP s (pcRis (mkRisR u k)) ∧ PrL ((pcRis u).map (·.p)) st s) :=
 (ac_laws_markRiseS u.p u.l k st (own_one (by decide) len_cRise hO) hb h0 (by omega)).mono fun v s ⟨h1,h2,h3⟩ => ⟨h1.trans (congrArg (Value.int .i64) (by omega)),OwnP.one (own_pc h2),h3.l (List.mem_singleton_self _)⟩
theorem uc_heldRiseS (u : RisV) (k : Int) (st : St) (hR : Rows st 3 cRise (mkRisR u k).p (mkRisR u k).l) (hb : szOk u.l.length) (h0 : 0 ≤ k) (hk : k ≤ 274877906944) : C 83 [vS u.p u.l.length,vI k] st (fun v s => v = vI (k + ((3 * u.l.length : Nat) : Int)) ∧ Pres st s) :=
 (ac_laws_heldRiseS u.p u.l.length k st hR hb h0 (by omega)).mono fun v s ⟨h1,h2⟩ => ⟨h1.trans (congrArg (Value.int .i64) (by omega)),h2⟩
theorem OwnP.rot {st : St} {a b : List Pc} (h : OwnP st (a ++ b)) : OwnP st (b ++ a) := h.perm List.perm_append_comm
def mkNode (u : NW) (k : Int) : NW := { u with s := mkState u.s k,t := mkTV u.t (k + (cntState u.s.x : Int)),g := mkLog u.g (k + (cntState u.s.x : Int) + (cntTV u.t.x : Int)),got := mkIs u.got (k + (cntState u.s.x : Int) + (cntTV u.t.x : Int) + (cntLog u.g.v.x : Int)),acked := mkIs u.acked (k + (cntState u.s.x : Int) + (cntTV u.t.x : Int) + (cntLog u.g.v.x : Int) + (cntIs u.got.l : Int)),seen := mkTT u.seen (k + (cntState u.s.x : Int) + (cntTV u.t.x : Int) + (cntLog u.g.v.x : Int) + (cntIs u.got.l : Int) + (cntIs u.acked.l : Int)),sess := mkSesR u.sess (k + (cntState u.s.x : Int) + (cntTV u.t.x : Int) + (cntLog u.g.v.x : Int) + (cntIs u.got.l : Int) + (cntIs u.acked.l : Int) + (cntTab u.seen.x : Int)),rises := mkRisR u.rises (k + (cntState u.s.x : Int) + (cntTV u.t.x : Int) + (cntLog u.g.v.x : Int) + (cntIs u.got.l : Int) + (cntIs u.acked.l : Int) + (cntTab u.seen.x : Int) + ((4 * u.sess.l.length : Nat) : Int)) }
theorem mkp_Node (u : NW) (k : Int) : (pcNW (mkNode u k)).map (·.p) = (pcNW u).map (·.p) :=
 map_app2 (mkp_State _ _) (map_app2 (mkp_TV _ _) (map_app2 (mkp_Log _ _) (map_app2 (mkp_Is _ _) (map_app2 (mkp_Is _ _) (map_app2 (mkp_TT _ _) (map_app2 (mkp_SesR _ _) (mkp_RisR _ _)))))))
theorem uc_markNode (u : NW) (k : Int) (st : St) (hO : OwnP st (pcNW u)) (hb : bigN u.x) (h0 : 0 ≤ k) (hk : k + (cntNode u.x : Int) ≤ 137438953472) : C 18 [.agg #[vI u.id,vI u.n,vS u.s.p u.s.x.items.length,vS u.s.q u.s.x.floors.length,vS u.t.p u.t.l.length,vI u.t.root,vI u.g.cap,vI u.g.frm,vS u.g.p u.g.l.length,vS u.got.p u.got.l.length,vS u.acked.p u.acked.l.length,vS u.seen.p u.seen.t.length,vI u.num,vI u.slots,vS u.sess.p u.sess.l.length,vI u.wait,vI u.limit,vI u.clock,vS u.rises.p u.rises.l.length],vI k] st (fun v s => v = vI (k + (cntNode u.x : Int)) ∧ OwnP s (pcNW (mkNode u k)) ∧ PrL ((pcNW u).map (·.p)) st s) := by
 have hc : cntNode u.x = cntState u.s.x + cntTV u.t.x + cntLog u.g.v.x + cntIs u.got.l + cntIs u.acked.l + cntTab u.seen.x + 4 * u.sess.l.length + 3 * u.rises.l.length := rfl
 refine AC.enterX (i := ⟨[2],[2,5,9,13,17,21,25,29,33],[0,1,2,4]⟩) [] Tryz.func18 rfl rfl (by kernel_rfl) (by kernel_rfl) Tryz.ntmps18 (Nat.le_of_ble_eq_true rfl) rfl ?_
 refine ⟨_,rfl,?_⟩
 refine AW.cutM (1) st [(1,vI k),(2,vL 2 0 (0)),(4,vI (0))] [(2,0,cNV u.v)] ⟨rfl,rfl,rfl,trivial⟩ ⟨rfl,trivial⟩ rfl fun ρ0 ff => ?_
 refine ⟨_,rfl,?_⟩
 refine ⟨_,op_ldo rfl rfl rfl rfl,?_⟩
 refine ⟨_,rfl,(uc_markState u.s k st (OwnP.left hO) hb.s (by omega) (by omega)).mono ?_⟩
 rintro _ s8 ⟨rfl,hO8,hL8⟩
 refine AW.cutM (1) s8 [(1,vI (k + (cntState u.s.x : Int))),(2,vL 2 0 (0)),(4,vI (0))] [(2,0,cNV u.v)] ⟨rfl,rfl,rfl,trivial⟩ ⟨rfl,trivial⟩ rfl fun ρ0 ff => ?_
 have hA8 : OwnP s8 (pcTV u.t ++ (pcLog u.g ++ (pcIs u.got ++ (pcIs u.acked ++ (pcTT u.seen ++ (pcSes u.sess ++ (pcRis u.rises ++ (pcS (mkState u.s k))))))))) := by
  have := (OwnP.markG hO hO8 (mkp_State _ _) hL8).rot
  simpa only [List.append_assoc] using this
 refine ⟨_,rfl,?_⟩
 refine ⟨_,op_ldo rfl rfl rfl rfl,?_⟩
 refine ⟨_,rfl,(uc_markTree u.t (k + (cntState u.s.x : Int)) s8 (OwnP.left hA8) hb.t (by omega) (by omega)).mono ?_⟩
 rintro _ s12 ⟨rfl,hO12,hL12⟩
 refine AW.cutM (1) s12 [(1,vI (k + (cntState u.s.x : Int) + (cntTV u.t.x : Int))),(2,vL 2 0 (0)),(4,vI (0))] [(2,0,cNV u.v)] ⟨rfl,rfl,rfl,trivial⟩ ⟨rfl,trivial⟩ rfl fun ρ0 ff => ?_
 have hA12 : OwnP s12 (pcLog u.g ++ (pcIs u.got ++ (pcIs u.acked ++ (pcTT u.seen ++ (pcSes u.sess ++ (pcRis u.rises ++ (pcS (mkState u.s k) ++ (pcTV (mkTV u.t (k + (cntState u.s.x : Int))))))))))) := by
  have := (OwnP.markG hA8 hO12 (mkp_TV _ _) hL12).rot
  simpa only [List.append_assoc] using this
 refine ⟨_,rfl,?_⟩
 refine ⟨_,op_ldo rfl rfl rfl rfl,?_⟩
 refine ⟨_,rfl,(uc_markLog u.g (k + (cntState u.s.x : Int) + (cntTV u.t.x : Int)) s12 (OwnP.left hA12) hb.g (by omega) (by omega)).mono ?_⟩
 rintro _ s16 ⟨rfl,hO16,hL16⟩
 refine AW.cutM (1) s16 [(1,vI (k + (cntState u.s.x : Int) + (cntTV u.t.x : Int) + (cntLog u.g.v.x : Int))),(2,vL 2 0 (0)),(4,vI (0))] [(2,0,cNV u.v)] ⟨rfl,rfl,rfl,trivial⟩ ⟨rfl,trivial⟩ rfl fun ρ0 ff => ?_
 have hA16 : OwnP s16 (pcIs u.got ++ (pcIs u.acked ++ (pcTT u.seen ++ (pcSes u.sess ++ (pcRis u.rises ++ (pcS (mkState u.s k) ++ (pcTV (mkTV u.t (k + (cntState u.s.x : Int))) ++ (pcLog (mkLog u.g (k + (cntState u.s.x : Int) + (cntTV u.t.x : Int))))))))))) := by
  have := (OwnP.markG hA12 hO16 (mkp_Log _ _) hL16).rot
  simpa only [List.append_assoc] using this
 refine ⟨_,rfl,?_⟩
 refine ⟨_,op_ldo rfl rfl rfl rfl,?_⟩
 refine ⟨_,rfl,(uc_markIntS u.got (k + (cntState u.s.x : Int) + (cntTV u.t.x : Int) + (cntLog u.g.v.x : Int)) s16 (OwnP.left hA16) hb.got (by omega) (by omega)).mono ?_⟩
 rintro _ s20 ⟨rfl,hO20,hL20⟩
 refine AW.cutM (1) s20 [(1,vI (k + (cntState u.s.x : Int) + (cntTV u.t.x : Int) + (cntLog u.g.v.x : Int) + (cntIs u.got.l : Int))),(2,vL 2 0 (0)),(4,vI (0))] [(2,0,cNV u.v)] ⟨rfl,rfl,rfl,trivial⟩ ⟨rfl,trivial⟩ rfl fun ρ0 ff => ?_
 have hA20 : OwnP s20 (pcIs u.acked ++ (pcTT u.seen ++ (pcSes u.sess ++ (pcRis u.rises ++ (pcS (mkState u.s k) ++ (pcTV (mkTV u.t (k + (cntState u.s.x : Int))) ++ (pcLog (mkLog u.g (k + (cntState u.s.x : Int) + (cntTV u.t.x : Int))) ++ (pcIs (mkIs u.got (k + (cntState u.s.x : Int) + (cntTV u.t.x : Int) + (cntLog u.g.v.x : Int))))))))))) := by
  have := (OwnP.markG hA16 hO20 (mkp_Is _ _) hL20).rot
  simpa only [List.append_assoc] using this
 refine ⟨_,rfl,?_⟩
 refine ⟨_,op_ldo rfl rfl rfl rfl,?_⟩
 refine ⟨_,rfl,(uc_markIntS u.acked (k + (cntState u.s.x : Int) + (cntTV u.t.x : Int) + (cntLog u.g.v.x : Int) + (cntIs u.got.l : Int)) s20 (OwnP.left hA20) hb.acked (by omega) (by omega)).mono ?_⟩
 rintro _ s24 ⟨rfl,hO24,hL24⟩
 refine AW.cutM (1) s24 [(1,vI (k + (cntState u.s.x : Int) + (cntTV u.t.x : Int) + (cntLog u.g.v.x : Int) + (cntIs u.got.l : Int) + (cntIs u.acked.l : Int))),(2,vL 2 0 (0)),(4,vI (0))] [(2,0,cNV u.v)] ⟨rfl,rfl,rfl,trivial⟩ ⟨rfl,trivial⟩ rfl fun ρ0 ff => ?_
 have hA24 : OwnP s24 (pcTT u.seen ++ (pcSes u.sess ++ (pcRis u.rises ++ (pcS (mkState u.s k) ++ (pcTV (mkTV u.t (k + (cntState u.s.x : Int))) ++ (pcLog (mkLog u.g (k + (cntState u.s.x : Int) + (cntTV u.t.x : Int))) ++ (pcIs (mkIs u.got (k + (cntState u.s.x : Int) + (cntTV u.t.x : Int) + (cntLog u.g.v.x : Int))) ++ (pcIs (mkIs u.acked (k + (cntState u.s.x : Int) + (cntTV u.t.x : Int) + (cntLog u.g.v.x : Int) + (cntIs u.got.l : Int))))))))))) := by
  have := (OwnP.markG hA20 hO24 (mkp_Is _ _) hL24).rot
  simpa only [List.append_assoc] using this
 refine ⟨_,rfl,?_⟩
 refine ⟨_,op_ldo rfl rfl rfl rfl,?_⟩
 refine ⟨_,rfl,(uc_markIntSS u.seen (k + (cntState u.s.x : Int) + (cntTV u.t.x : Int) + (cntLog u.g.v.x : Int) + (cntIs u.got.l : Int) + (cntIs u.acked.l : Int)) s24 (OwnP.left hA24) hb.seen (by omega) (by omega)).mono ?_⟩
 rintro _ s28 ⟨rfl,hO28,hL28⟩
 refine AW.cutM (1) s28 [(1,vI (k + (cntState u.s.x : Int) + (cntTV u.t.x : Int) + (cntLog u.g.v.x : Int) + (cntIs u.got.l : Int) + (cntIs u.acked.l : Int) + (cntTab u.seen.x : Int))),(2,vL 2 0 (0)),(4,vI (0))] [(2,0,cNV u.v)] ⟨rfl,rfl,rfl,trivial⟩ ⟨rfl,trivial⟩ rfl fun ρ0 ff => ?_
 have hA28 : OwnP s28 (pcSes u.sess ++ (pcRis u.rises ++ (pcS (mkState u.s k) ++ (pcTV (mkTV u.t (k + (cntState u.s.x : Int))) ++ (pcLog (mkLog u.g (k + (cntState u.s.x : Int) + (cntTV u.t.x : Int))) ++ (pcIs (mkIs u.got (k + (cntState u.s.x : Int) + (cntTV u.t.x : Int) + (cntLog u.g.v.x : Int))) ++ (pcIs (mkIs u.acked (k + (cntState u.s.x : Int) + (cntTV u.t.x : Int) + (cntLog u.g.v.x : Int) + (cntIs u.got.l : Int))) ++ (pcTT (mkTT u.seen (k + (cntState u.s.x : Int) + (cntTV u.t.x : Int) + (cntLog u.g.v.x : Int) + (cntIs u.got.l : Int) + (cntIs u.acked.l : Int))))))))))) := by
  have := (OwnP.markG hA24 hO28 (mkp_TT _ _) hL28).rot
  simpa only [List.append_assoc] using this
 refine ⟨_,rfl,?_⟩
 refine ⟨_,op_ldo rfl rfl rfl rfl,?_⟩
 refine ⟨_,rfl,(uc_markSessS u.sess (k + (cntState u.s.x : Int) + (cntTV u.t.x : Int) + (cntLog u.g.v.x : Int) + (cntIs u.got.l : Int) + (cntIs u.acked.l : Int) + (cntTab u.seen.x : Int)) s28 (OwnP.left hA28) hb.sess (by omega) (by omega)).mono ?_⟩
 rintro _ s32 ⟨rfl,hO32,hL32⟩
 refine AW.cutM (1) s32 [(1,vI (k + (cntState u.s.x : Int) + (cntTV u.t.x : Int) + (cntLog u.g.v.x : Int) + (cntIs u.got.l : Int) + (cntIs u.acked.l : Int) + (cntTab u.seen.x : Int) + ((4 * u.sess.l.length : Nat) : Int))),(2,vL 2 0 (0)),(4,vI (0))] [(2,0,cNV u.v)] ⟨rfl,rfl,rfl,trivial⟩ ⟨rfl,trivial⟩ rfl fun ρ0 ff => ?_
 have hA32 : OwnP s32 (pcRis u.rises ++ (pcS (mkState u.s k) ++ (pcTV (mkTV u.t (k + (cntState u.s.x : Int))) ++ (pcLog (mkLog u.g (k + (cntState u.s.x : Int) + (cntTV u.t.x : Int))) ++ (pcIs (mkIs u.got (k + (cntState u.s.x : Int) + (cntTV u.t.x : Int) + (cntLog u.g.v.x : Int))) ++ (pcIs (mkIs u.acked (k + (cntState u.s.x : Int) + (cntTV u.t.x : Int) + (cntLog u.g.v.x : Int) + (cntIs u.got.l : Int))) ++ (pcTT (mkTT u.seen (k + (cntState u.s.x : Int) + (cntTV u.t.x : Int) + (cntLog u.g.v.x : Int) + (cntIs u.got.l : Int) + (cntIs u.acked.l : Int))) ++ (pcSes (mkSesR u.sess (k + (cntState u.s.x : Int) + (cntTV u.t.x : Int) + (cntLog u.g.v.x : Int) + (cntIs u.got.l : Int) + (cntIs u.acked.l : Int) + (cntTab u.seen.x : Int))))))))))) := by
  have := (OwnP.markG hA28 hO32 (mkp_SesR _ _) hL32).rot
  simpa only [List.append_assoc] using this
 refine ⟨_,rfl,?_⟩
 refine ⟨_,op_ldo rfl rfl rfl rfl,?_⟩
 refine ⟨_,rfl,(uc_markRiseS u.rises (k + (cntState u.s.x : Int) + (cntTV u.t.x : Int) + (cntLog u.g.v.x : Int) + (cntIs u.got.l : Int) + (cntIs u.acked.l : Int) + (cntTab u.seen.x : Int) + ((4 * u.sess.l.length : Nat) : Int)) s32 (OwnP.left hA32) hb.rises (by omega) (by omega)).mono ?_⟩
 rintro _ s36 ⟨rfl,hO36,hL36⟩
 refine cxs ?_
 have hA36 : OwnP s36 (pcS (mkState u.s k) ++ (pcTV (mkTV u.t (k + (cntState u.s.x : Int))) ++ (pcLog (mkLog u.g (k + (cntState u.s.x : Int) + (cntTV u.t.x : Int))) ++ (pcIs (mkIs u.got (k + (cntState u.s.x : Int) + (cntTV u.t.x : Int) + (cntLog u.g.v.x : Int))) ++ (pcIs (mkIs u.acked (k + (cntState u.s.x : Int) + (cntTV u.t.x : Int) + (cntLog u.g.v.x : Int) + (cntIs u.got.l : Int))) ++ (pcTT (mkTT u.seen (k + (cntState u.s.x : Int) + (cntTV u.t.x : Int) + (cntLog u.g.v.x : Int) + (cntIs u.got.l : Int) + (cntIs u.acked.l : Int))) ++ (pcSes (mkSesR u.sess (k + (cntState u.s.x : Int) + (cntTV u.t.x : Int) + (cntLog u.g.v.x : Int) + (cntIs u.got.l : Int) + (cntIs u.acked.l : Int) + (cntTab u.seen.x : Int))) ++ (pcRis (mkRisR u.rises (k + (cntState u.s.x : Int) + (cntTV u.t.x : Int) + (cntLog u.g.v.x : Int) + (cntIs u.got.l : Int) + (cntIs u.acked.l : Int) + (cntTab u.seen.x : Int) + ((4 * u.sess.l.length : Nat) : Int))))))))))) := by
  have := (OwnP.markG hA32 hO36 (mkp_RisR _ _) hL36).rot
  simpa only [List.append_assoc] using this
 refine cxs ?_
 exact ⟨.inl rfl,_,rfl,congrArg vI (by rw [hc]; omega),hA36,((((((((PrL.inl hL8).trans (PrL.inr (PrL.inl hL12))).trans (PrL.inr (PrL.inr (PrL.inl hL16)))).trans (PrL.inr (PrL.inr (PrL.inr (PrL.inl hL20))))).trans (PrL.inr (PrL.inr (PrL.inr (PrL.inr (PrL.inl hL24)))))).trans (PrL.inr (PrL.inr (PrL.inr (PrL.inr (PrL.inr (PrL.inl hL28))))))).trans (PrL.inr (PrL.inr (PrL.inr (PrL.inr (PrL.inr (PrL.inr (PrL.inl hL32)))))))).trans (PrL.inr (PrL.inr (PrL.inr (PrL.inr (PrL.inr (PrL.inr (PrL.inr (hL36)))))))))⟩
theorem uc_heldNode (u : NW) (k : Int) (st : St) (hO : OwnP st (pcNW (mkNode u k))) (hb : bigN u.x) (h0 : 0 ≤ k) (hk : k + (cntNode u.x : Int) ≤ 137438953472) : C 28 [.agg #[vI u.id,vI u.n,vS u.s.p u.s.x.items.length,vS u.s.q u.s.x.floors.length,vS u.t.p u.t.l.length,vI u.t.root,vI u.g.cap,vI u.g.frm,vS u.g.p u.g.l.length,vS u.got.p u.got.l.length,vS u.acked.p u.acked.l.length,vS u.seen.p u.seen.t.length,vI u.num,vI u.slots,vS u.sess.p u.sess.l.length,vI u.wait,vI u.limit,vI u.clock,vS u.rises.p u.rises.l.length],vI k] st (fun v s => v = vI (k + (cntNode u.x : Int)) ∧ Pres st s) := by
 have hc : cntNode u.x = cntState u.s.x + cntTV u.t.x + cntLog u.g.v.x + cntIs u.got.l + cntIs u.acked.l + cntTab u.seen.x + 4 * u.sess.l.length + 3 * u.rises.l.length := rfl
 refine AC.enterX (i := ⟨[2],[2,5,11,17,23,29,35,41,47],[0,1,2,4,10,16,22,28,34,40,46,52]⟩) [] Tryz.func28 rfl rfl (by kernel_rfl) (by kernel_rfl) Tryz.ntmps28 (Nat.le_of_ble_eq_true rfl) rfl ?_
 refine ⟨_,rfl,?_⟩
 refine AW.cutM (1) st [(1,vI k),(2,vL 2 0 (0)),(4,vI (0))] [(2,0,cNV u.v)] ⟨rfl,rfl,rfl,trivial⟩ ⟨rfl,trivial⟩ rfl fun ρ0 ff => ?_
 refine ⟨_,rfl,?_⟩
 refine ⟨_,op_ldo rfl rfl rfl rfl,?_⟩
 refine ⟨_,rfl,(uc_heldState u.s k st (OwnP.rdS (OwnP.left hO)) hb.s (by omega) (by omega)).mono ?_⟩
 rintro _ s8 ⟨rfl,hP8⟩
 refine AW.cutM (1) s8 [(1,vI (k + (cntState u.s.x : Int))),(2,vL 2 0 (0)),(4,vI (0))] [(2,0,cNV u.v)] ⟨rfl,rfl,rfl,trivial⟩ ⟨rfl,trivial⟩ rfl fun ρ0 ff => ?_
 refine ⟨_,rfl,?_⟩
 rintro (_|_) h10
 rotate_left
 ·exact absurd (of_decide_eq_true h10) ((by omega))
 refine AW.cutM (1) s8 [(1,vI (k + (cntState u.s.x : Int))),(2,vL 2 0 (0)),(4,vI (0)),(10,vB false)] [(2,0,cNV u.v)] ⟨rfl,rfl,rfl,rfl,trivial⟩ ⟨rfl,trivial⟩ rfl fun ρ0 ff => ?_
 refine cxs ?_
 refine ⟨_,rfl,?_⟩
 refine ⟨_,op_ldo rfl rfl rfl rfl,?_⟩
 refine ⟨_,rfl,(uc_heldTree u.t (k + (cntState u.s.x : Int)) s8 (OwnP.rdTV (OwnP.left (OwnP.right (hO.pres hP8)))) hb.t (by omega) (by omega)).mono ?_⟩
 rintro _ s14 ⟨rfl,hP14⟩
 refine AW.cutM (1) s14 [(1,vI (k + (cntState u.s.x : Int) + (cntTV u.t.x : Int))),(2,vL 2 0 (0)),(4,vI (0))] [(2,0,cNV u.v)] ⟨rfl,rfl,rfl,trivial⟩ ⟨rfl,trivial⟩ rfl fun ρ0 ff => ?_
 have hQ14 : Pres st s14 := hP8.trans hP14
 refine ⟨_,rfl,?_⟩
 rintro (_|_) h16
 rotate_left
 ·exact absurd (of_decide_eq_true h16) ((by omega))
 refine AW.cutM (1) s14 [(1,vI (k + (cntState u.s.x : Int) + (cntTV u.t.x : Int))),(2,vL 2 0 (0)),(4,vI (0)),(16,vB false)] [(2,0,cNV u.v)] ⟨rfl,rfl,rfl,rfl,trivial⟩ ⟨rfl,trivial⟩ rfl fun ρ0 ff => ?_
 refine cxs ?_
 refine ⟨_,rfl,?_⟩
 refine ⟨_,op_ldo rfl rfl rfl rfl,?_⟩
 refine ⟨_,rfl,(uc_heldLog u.g (k + (cntState u.s.x : Int) + (cntTV u.t.x : Int)) s14 (OwnP.rdLog (OwnP.left (OwnP.right (OwnP.right (hO.pres hQ14))))) (LW.rows ((OwnP.left (OwnP.right (OwnP.right (hO.pres hQ14)))).1 _ (List.mem_cons_self ..))) hb.g (by omega) (by omega)).mono ?_⟩
 rintro _ s20 ⟨rfl,hP20⟩
 refine AW.cutM (1) s20 [(1,vI (k + (cntState u.s.x : Int) + (cntTV u.t.x : Int) + (cntLog u.g.v.x : Int))),(2,vL 2 0 (0)),(4,vI (0))] [(2,0,cNV u.v)] ⟨rfl,rfl,rfl,trivial⟩ ⟨rfl,trivial⟩ rfl fun ρ0 ff => ?_
 have hQ20 : Pres st s20 := hQ14.trans hP20
 refine ⟨_,rfl,?_⟩
 rintro (_|_) h22
 rotate_left
 ·exact absurd (of_decide_eq_true h22) ((by omega))
 refine AW.cutM (1) s20 [(1,vI (k + (cntState u.s.x : Int) + (cntTV u.t.x : Int) + (cntLog u.g.v.x : Int))),(2,vL 2 0 (0)),(4,vI (0)),(22,vB false)] [(2,0,cNV u.v)] ⟨rfl,rfl,rfl,rfl,trivial⟩ ⟨rfl,trivial⟩ rfl fun ρ0 ff => ?_
 refine cxs ?_
 refine ⟨_,rfl,?_⟩
 refine ⟨_,op_ldo rfl rfl rfl rfl,?_⟩
 refine ⟨_,rfl,(uc_heldIntS u.got (k + (cntState u.s.x : Int) + (cntTV u.t.x : Int) + (cntLog u.g.v.x : Int)) s20 (OwnP.rdIs (OwnP.left (OwnP.right (OwnP.right (OwnP.right (hO.pres hQ20)))))) hb.got (by omega) (by omega)).mono ?_⟩
 rintro _ s26 ⟨rfl,hP26⟩
 refine AW.cutM (1) s26 [(1,vI (k + (cntState u.s.x : Int) + (cntTV u.t.x : Int) + (cntLog u.g.v.x : Int) + (cntIs u.got.l : Int))),(2,vL 2 0 (0)),(4,vI (0))] [(2,0,cNV u.v)] ⟨rfl,rfl,rfl,trivial⟩ ⟨rfl,trivial⟩ rfl fun ρ0 ff => ?_
 have hQ26 : Pres st s26 := hQ20.trans hP26
 refine ⟨_,rfl,?_⟩
 rintro (_|_) h28
 rotate_left
 ·exact absurd (of_decide_eq_true h28) ((by omega))
 refine AW.cutM (1) s26 [(1,vI (k + (cntState u.s.x : Int) + (cntTV u.t.x : Int) + (cntLog u.g.v.x : Int) + (cntIs u.got.l : Int))),(2,vL 2 0 (0)),(4,vI (0)),(28,vB false)] [(2,0,cNV u.v)] ⟨rfl,rfl,rfl,rfl,trivial⟩ ⟨rfl,trivial⟩ rfl fun ρ0 ff => ?_
 refine cxs ?_
 refine ⟨_,rfl,?_⟩
 refine ⟨_,op_ldo rfl rfl rfl rfl,?_⟩
 refine ⟨_,rfl,(uc_heldIntS u.acked (k + (cntState u.s.x : Int) + (cntTV u.t.x : Int) + (cntLog u.g.v.x : Int) + (cntIs u.got.l : Int)) s26 (OwnP.rdIs (OwnP.left (OwnP.right (OwnP.right (OwnP.right (OwnP.right (hO.pres hQ26))))))) hb.acked (by omega) (by omega)).mono ?_⟩
 rintro _ s32 ⟨rfl,hP32⟩
 refine AW.cutM (1) s32 [(1,vI (k + (cntState u.s.x : Int) + (cntTV u.t.x : Int) + (cntLog u.g.v.x : Int) + (cntIs u.got.l : Int) + (cntIs u.acked.l : Int))),(2,vL 2 0 (0)),(4,vI (0))] [(2,0,cNV u.v)] ⟨rfl,rfl,rfl,trivial⟩ ⟨rfl,trivial⟩ rfl fun ρ0 ff => ?_
 have hQ32 : Pres st s32 := hQ26.trans hP32
 refine ⟨_,rfl,?_⟩
 rintro (_|_) h34
 rotate_left
 ·exact absurd (of_decide_eq_true h34) ((by omega))
 refine AW.cutM (1) s32 [(1,vI (k + (cntState u.s.x : Int) + (cntTV u.t.x : Int) + (cntLog u.g.v.x : Int) + (cntIs u.got.l : Int) + (cntIs u.acked.l : Int))),(2,vL 2 0 (0)),(4,vI (0)),(34,vB false)] [(2,0,cNV u.v)] ⟨rfl,rfl,rfl,rfl,trivial⟩ ⟨rfl,trivial⟩ rfl fun ρ0 ff => ?_
 refine cxs ?_
 refine ⟨_,rfl,?_⟩
 refine ⟨_,op_ldo rfl rfl rfl rfl,?_⟩
 refine ⟨_,rfl,(uc_heldIntSS u.seen (k + (cntState u.s.x : Int) + (cntTV u.t.x : Int) + (cntLog u.g.v.x : Int) + (cntIs u.got.l : Int) + (cntIs u.acked.l : Int)) s32 (OwnP.rdT (OwnP.left (OwnP.right (OwnP.right (OwnP.right (OwnP.right (OwnP.right (hO.pres hQ32)))))))) hb.seen (by omega) (by omega)).mono ?_⟩
 rintro _ s38 ⟨rfl,hP38⟩
 refine AW.cutM (1) s38 [(1,vI (k + (cntState u.s.x : Int) + (cntTV u.t.x : Int) + (cntLog u.g.v.x : Int) + (cntIs u.got.l : Int) + (cntIs u.acked.l : Int) + (cntTab u.seen.x : Int))),(2,vL 2 0 (0)),(4,vI (0))] [(2,0,cNV u.v)] ⟨rfl,rfl,rfl,trivial⟩ ⟨rfl,trivial⟩ rfl fun ρ0 ff => ?_
 have hQ38 : Pres st s38 := hQ32.trans hP38
 refine ⟨_,rfl,?_⟩
 rintro (_|_) h40
 rotate_left
 ·exact absurd (of_decide_eq_true h40) ((by omega))
 refine AW.cutM (1) s38 [(1,vI (k + (cntState u.s.x : Int) + (cntTV u.t.x : Int) + (cntLog u.g.v.x : Int) + (cntIs u.got.l : Int) + (cntIs u.acked.l : Int) + (cntTab u.seen.x : Int))),(2,vL 2 0 (0)),(4,vI (0)),(40,vB false)] [(2,0,cNV u.v)] ⟨rfl,rfl,rfl,rfl,trivial⟩ ⟨rfl,trivial⟩ rfl fun ρ0 ff => ?_
 refine cxs ?_
 refine ⟨_,rfl,?_⟩
 refine ⟨_,op_ldo rfl rfl rfl rfl,?_⟩
 refine ⟨_,rfl,(uc_heldSessS u.sess (k + (cntState u.s.x : Int) + (cntTV u.t.x : Int) + (cntLog u.g.v.x : Int) + (cntIs u.got.l : Int) + (cntIs u.acked.l : Int) + (cntTab u.seen.x : Int)) s38 (OwnP.rdSes (OwnP.left (OwnP.right (OwnP.right (OwnP.right (OwnP.right (OwnP.right (OwnP.right (hO.pres hQ38))))))))) hb.sess (by omega) (by omega)).mono ?_⟩
 rintro _ s44 ⟨rfl,hP44⟩
 refine AW.cutM (1) s44 [(1,vI (k + (cntState u.s.x : Int) + (cntTV u.t.x : Int) + (cntLog u.g.v.x : Int) + (cntIs u.got.l : Int) + (cntIs u.acked.l : Int) + (cntTab u.seen.x : Int) + ((4 * u.sess.l.length : Nat) : Int))),(2,vL 2 0 (0)),(4,vI (0))] [(2,0,cNV u.v)] ⟨rfl,rfl,rfl,trivial⟩ ⟨rfl,trivial⟩ rfl fun ρ0 ff => ?_
 have hQ44 : Pres st s44 := hQ38.trans hP44
 refine ⟨_,rfl,?_⟩
 rintro (_|_) h46
 rotate_left
 ·exact absurd (of_decide_eq_true h46) ((by omega))
 refine AW.cutM (1) s44 [(1,vI (k + (cntState u.s.x : Int) + (cntTV u.t.x : Int) + (cntLog u.g.v.x : Int) + (cntIs u.got.l : Int) + (cntIs u.acked.l : Int) + (cntTab u.seen.x : Int) + ((4 * u.sess.l.length : Nat) : Int))),(2,vL 2 0 (0)),(4,vI (0)),(46,vB false)] [(2,0,cNV u.v)] ⟨rfl,rfl,rfl,rfl,trivial⟩ ⟨rfl,trivial⟩ rfl fun ρ0 ff => ?_
 refine cxs ?_
 refine ⟨_,rfl,?_⟩
 refine ⟨_,op_ldo rfl rfl rfl rfl,?_⟩
 refine ⟨_,rfl,(uc_heldRiseS u.rises (k + (cntState u.s.x : Int) + (cntTV u.t.x : Int) + (cntLog u.g.v.x : Int) + (cntIs u.got.l : Int) + (cntIs u.acked.l : Int) + (cntTab u.seen.x : Int) + ((4 * u.sess.l.length : Nat) : Int)) s44 (OwnP.rdRis (OwnP.right (OwnP.right (OwnP.right (OwnP.right (OwnP.right (OwnP.right (OwnP.right (hO.pres hQ44))))))))) hb.rises (by omega) (by omega)).mono ?_⟩
 rintro _ s50 ⟨rfl,hP50⟩
 refine AW.cutM (1) s50 [(1,vI (k + (cntState u.s.x : Int) + (cntTV u.t.x : Int) + (cntLog u.g.v.x : Int) + (cntIs u.got.l : Int) + (cntIs u.acked.l : Int) + (cntTab u.seen.x : Int) + ((4 * u.sess.l.length : Nat) : Int) + ((3 * u.rises.l.length : Nat) : Int))),(4,vI (0))] [] ⟨rfl,rfl,trivial⟩ trivial rfl fun ρ0 ff => ?_
 have hQ50 : Pres st s50 := hQ44.trans hP50
 refine ⟨_,rfl,?_⟩
 rintro (_|_) h52
 rotate_left
 ·exact absurd (of_decide_eq_true h52) ((by omega))
 refine AW.cutM (1) s50 [(1,vI (k + (cntState u.s.x : Int) + (cntTV u.t.x : Int) + (cntLog u.g.v.x : Int) + (cntIs u.got.l : Int) + (cntIs u.acked.l : Int) + (cntTab u.seen.x : Int) + ((4 * u.sess.l.length : Nat) : Int) + ((3 * u.rises.l.length : Nat) : Int))),(4,vI (0)),(52,vB false)] [] ⟨rfl,rfl,rfl,trivial⟩ trivial rfl fun ρ0 ff => ?_
 refine cxs ?_
 refine cxs ?_
 exact ⟨.inl rfl,_,rfl,congrArg vI (by rw [hc]; omega),hQ50⟩
theorem bigNW {u : NW} (h : bigN u.x) : bigN u.v.x := h
theorem cntNW {u : NW} {n : Nat} (h : cntNode u.x ≤ n) : cntNode u.v.x ≤ n := h
theorem tree_le (s : Sta) : (treeF s).leaves.length ≤ 4 := by
 unfold treeF
 split
 ·exact Nat.le_of_eq (sums_len s 4)
 ·exact Nat.zero_le _
theorem takeF_big {x : Nd} {p : Sta} (hb : bigN x) (hp : bigS p) : bigN (takeF x p) := by
 have h3 := tree_le (takeF x p).s
 refine ⟨big_prune rfl (bigS_join hb.s hp),?_,hb.g,hb.got,hb.acked,tAdd_big hb.seen,hb.sess,?_⟩
 ·show (treeF (takeF x p).s).leaves.length ≤ 1048576
  omega
 ·show (risesF _ _ _).length ≤ 1048576
  rw [risesF_len]; exact hb.rises
theorem tAdd_lens {t : List (List Int)} {k : Int} {ms : List Flr} : (tableAdd t k ms).map List.length = t.map List.length := by
 unfold tableAdd
 split
 ·rename_i h
  have hk : k.toNat < t.length := by omega
  have hx : t[k.toNat]? = some (t.getD k.toNat []) := by
   rw [List.getD_eq_getElem?_getD,List.getElem?_eq_getElem hk]; rfl
  have h1 := putT_self hx
  have h2 : ∀ y : List Int,(putT t k.toNat y).map List.length = putT (t.map List.length) k.toNat y.length := fun y => by simp [putT,List.map_take,List.map_drop]
  rw [h2,addMarks_len,← h2,h1]
 ·rfl
theorem takeF_cnt {x : Nd} {p : Sta} (hb : bigN x) (hp : bigS p) (hc : cntNode x ≤ 8388608) : cntNode (takeF x p) ≤ 33554432 := by
 have h1 := cnt_State (takeF_big hb hp).s
 have h3 := tree_le (takeF x p).s
 have h4 : cntTab (takeF x p).seen = cntTab x.seen := congrArg List.sum tAdd_lens
 have h5 : (takeF x p).rises.length = x.rises.length := risesF_len _ _ _
 have h6 : (takeF x p).t.leaves.length ≤ 4 := h3
 have h7 : cntS (takeF x p).s ≤ 8388608 := h1
 unfold cntNode at hc ⊢
 show cntS (takeF x p).s + (takeF x p).t.leaves.length + cntLog x.g + x.got.length + x.acked.length + cntTab (takeF x p).seen + 4 * x.sess.length + 3 * (takeF x p).rises.length ≤ 33554432
 omega
theorem take_big {x r : Nd} {p : Sta} {b : Bool} (h : (r,b) = takeP x p) (hb : bigN x) (hp : bigS p) : bigN r := by
 have h1 : r = (takeP x p).1 := congrArg Prod.fst h
 rw [h1]
 unfold takeP
 split
 ·exact takeF_big hb hp
 ·exact hb
theorem take_cnt {x r : Nd} {p : Sta} {b : Bool} (h : (r,b) = takeP x p) (hb : bigN x) (hp : bigS p) (hc : cntNode x ≤ 8388608) : cntNode r ≤ 33554432 := by
 have h1 : r = (takeP x p).1 := congrArg Prod.fst h
 rw [h1]
 unfold takeP
 split
 ·exact takeF_cnt hb hp hc
 ·exact Nat.le_trans hc (by decide)
theorem ac_laws_FnExactTake (g : NV) (d : SV) (st : St) (hR_g : RdN st g ∧ maxN g) (hR_d : RdS st d ∧ maxS d.x) : C 9 [.agg #[vI g.id,vI g.n,vS g.s.p g.s.x.items.length,vS g.s.q g.s.x.floors.length,vS g.t.p g.t.l.length,vI g.t.root,vI g.g.cap,vI g.g.frm,vS g.g.p g.g.l.length,vS g.got.p g.got.l.length,vS g.acked.p g.acked.l.length,vS g.seen.p g.seen.t.length,vI g.num,vI g.slots,vS g.sess.p g.sess.l.length,vI g.wait,vI g.limit,vI g.clock,vS g.rises.p g.rises.l.length],.agg #[vS d.p d.x.items.length,vS d.q d.x.floors.length]] st (fun v s => v = vB true) := by
 refine AC.enterX (i := ⟨[2,3,6,8,9,10,15],[2,3,6,8,9,10,15],[0,1,2,3,4,5,6,7,8,9,10,11,12,13,14,15,16,21,26,53,58,63,82,90,93,110,115,118]⟩) [(8,[1],[0,2]),(14,[2],[0]),(16,[2],[0]),(31,[1],[0,2])] Tryz.func9 rfl rfl (by kernel_rfl) (by kernel_rfl) Tryz.ntmps9 (Nat.le_of_ble_eq_true rfl) rfl ?_
 iterate 2 refine ⟨_,rfl,?_⟩
 refine cxs ?_
 refine AW.cutM (2) st [(2,vL 2 0 (0)),(3,vL 3 0 (1)),(4,vB false),(5,vI (1048576))] [(2,0,cNV g),(3,1,[vS d.p d.x.items.length,vS d.q d.x.floors.length])] ⟨rfl,rfl,rfl,rfl,trivial⟩ ⟨rfl,rfl,trivial⟩ rfl fun ρ0 ff => ?_
 refine ⟨_,op_ldo (v := (vNV g)) rfl rfl rfl rfl,?_⟩
 refine ⟨_,rfl,(ac_laws_szNode g 1048576 st hR_g.1 (by decide) (by decide) hR_g.2).mono ?_⟩
 rintro _ st ⟨z_g,rfl,hr_g,hz_g,rfl⟩
 refine AW.cutM (2) st [(2,vL 2 0 (0)),(3,vL 3 0 (1)),(4,vB false),(5,vI z_g)] [(2,0,cNV g),(3,1,[vS d.p d.x.items.length,vS d.q d.x.floors.length])] ⟨rfl,rfl,rfl,rfl,trivial⟩ ⟨rfl,rfl,trivial⟩ rfl fun ρ0 ff => ?_
 refine ⟨_,rfl,?_⟩
 rintro (_|_) hn_g
 ·replace hn_g : ¬ (z_g < 0) := of_decide_eq_false hn_g
  refine AW.cutM (2) st [(2,vL 2 0 (0)),(3,vL 3 0 (1)),(4,vB false),(5,vI z_g),(21,vB false)] [(2,0,cNV g),(3,1,[vS d.p d.x.items.length,vS d.q d.x.floors.length])] ⟨rfl,rfl,rfl,rfl,rfl,trivial⟩ ⟨rfl,rfl,trivial⟩ rfl fun ρ0 ff => ?_
  refine cxs ?_
  refine ⟨_,rfl,?_⟩
  refine ⟨_,rfl,(ac_laws_szState d z_g st hR_d.1 (by omega) (by omega) hR_d.2).mono ?_⟩
  rintro _ st ⟨z_d,rfl,hr_d,hz_d,rfl⟩
  refine AW.cutM (2) st [(2,vL 2 0 (0)),(3,vL 3 0 (1)),(4,vB false),(5,vI z_d)] [(2,0,cNV g),(3,1,[vS d.p d.x.items.length,vS d.q d.x.floors.length])] ⟨rfl,rfl,rfl,rfl,trivial⟩ ⟨rfl,rfl,trivial⟩ rfl fun ρ0 ff => ?_
  refine ⟨_,rfl,?_⟩
  rintro (_|_) hn_d
  ·replace hn_d : ¬ (z_d < 0) := of_decide_eq_false hn_d
   refine AW.cutM (2) st [(2,vL 2 0 (0)),(3,vL 3 0 (1)),(4,vB false),(26,vB false)] [(2,0,cNV g),(3,1,[vS d.p d.x.items.length,vS d.q d.x.floors.length])] ⟨rfl,rfl,rfl,rfl,trivial⟩ ⟨rfl,rfl,trivial⟩ rfl fun ρ0 ff => ?_
   have hz_g' := hz_g (by omega)
   have hz_d' := hz_d (by omega)
   have hb_g := sz_bigN (v := g) (by omega)
   have hc_g : cntNode g.x ≤ 8388608 := (cnt_Node (v := g) (by omega))
   have hb_d := sz_bigS (s := d.x) (by omega)
   have hc_d : cntState d.x ≤ 8388608 := cnt_State (hb_d)
   refine cxs ?_
   refine ⟨_,op_ldo (v := (vNV g)) rfl rfl rfl rfl,?_⟩
   refine ⟨ld_own rfl rfl rfl,?_⟩
   refine ⟨_,rfl,(ac_laws_toNode g st hR_g.1 hb_g).mono ?_⟩
   rintro _ s1 ⟨u1,rfl,hu1,hO1,hN1,hP1⟩
   refine ⟨hP1.2,?_⟩
   refine ⟨_,rfl,?_⟩
   refine ⟨ld_own rfl rfl rfl,?_⟩
   refine ⟨_,rfl,(ac_laws_toState d s1 (hR_d.1.pres hP1) hb_d).mono ?_⟩
   rintro _ s2 ⟨u2,rfl,hu2,hO2,hN2,hP2⟩
   refine ⟨_,rfl,(ac_spec_Take u1.v u2 s2 (OwnP.rdN (OwnP.left (OwnP.right (OwnP.joinF (OwnP.joinF OwnP.nil hP1 hO1 hN1) hP2 hO2 hN2)))) (OwnP.rdS (OwnP.left (OwnP.joinF (OwnP.joinF OwnP.nil hP1 hO1 hN1) hP2 hO2 hN2))) (bigNW (hu1 ▸ hb_g)) (hu2 ▸ hb_d)).mono ?_⟩
   rintro _ s3 ⟨r3,b3,rfl,hr3,hO3,hN3,hP3⟩
   iterate 3 refine ⟨_,rfl,?_⟩
   refine ⟨_,op_stw (vs := cNV r3.v) rfl rfl rfl rfl rfl rfl rfl rfl,?_⟩
   refine AW.cutM (3) s3 [(2,vL 2 0 (0)),(3,vL 3 0 (1)),(4,vB false),(6,vL 6 0 (2)),(7,vB b3)] [(2,0,cNV g),(3,1,[vS d.p d.x.items.length,vS d.q d.x.floors.length]),(6,2,cNV r3.v)] ⟨rfl,rfl,rfl,rfl,rfl,trivial⟩ ⟨rfl,rfl,rfl,trivial⟩ rfl fun ρ0 ff => ?_
   have hA8 : OwnP s3 (pcNW r3 ++ (pcS u2 ++ (pcNW u1 ++ []))) := (OwnP.joinF (OwnP.joinF (OwnP.joinF OwnP.nil hP1 hO1 hN1) hP2 hO2 hN2) hP3 hO3 hN3)
   have hQ8 : Pres st s3 := ((hP1.trans hP2).trans hP3)
   refine ⟨_,op_ldo (v := (vNV g)) rfl rfl rfl rfl,?_⟩
   refine ⟨_,rfl,(ac_laws_toNode g s3 (hR_g.1.pres hQ8) hb_g).mono ?_⟩
   rintro _ s4 ⟨u4,rfl,hu4,hO4,hN4,hP4⟩
   refine ⟨_,rfl,?_⟩
   refine ⟨_,op_stw (vs := cNV u4.v) rfl rfl rfl rfl rfl rfl rfl rfl,?_⟩
   refine AW.cutM (4) s4 [(2,vL 2 0 (0)),(3,vL 3 0 (1)),(4,vB false),(6,vL 6 0 (2)),(7,vB b3),(8,vL 8 0 (3))] [(2,0,cNV g),(3,1,[vS d.p d.x.items.length,vS d.q d.x.floors.length]),(6,2,cNV r3.v),(8,3,cNV u4.v)] ⟨rfl,rfl,rfl,rfl,rfl,rfl,trivial⟩ ⟨rfl,rfl,rfl,rfl,trivial⟩ rfl fun ρ0 ff => ?_
   have hA9 : OwnP s4 (pcNW u4 ++ (pcNW r3 ++ (pcS u2 ++ (pcNW u1 ++ [])))) := (OwnP.joinF hA8 hP4 hO4 hN4)
   have hQ9 : Pres st s4 := (hQ8.trans hP4)
   refine ⟨_,rfl,?_⟩
   refine ⟨_,rfl,(ac_laws_toState d s4 (hR_d.1.pres hQ9) hb_d).mono ?_⟩
   rintro _ s5 ⟨u5,rfl,hu5,hO5,hN5,hP5⟩
   iterate 2 refine ⟨_,rfl,?_⟩
   refine AW.cutM (5) s5 [(2,vL 2 0 (0)),(3,vL 3 0 (1)),(4,vB false),(6,vL 6 0 (2)),(7,vB b3),(8,vL 8 0 (3)),(9,vL 9 0 (4))] [(2,0,cNV g),(3,1,[vS d.p d.x.items.length,vS d.q d.x.floors.length]),(6,2,cNV r3.v),(8,3,cNV u4.v),(9,4,[vS u5.p u5.x.items.length,vS u5.q u5.x.floors.length])] ⟨rfl,rfl,rfl,rfl,rfl,rfl,rfl,trivial⟩ ⟨rfl,rfl,rfl,rfl,rfl,trivial⟩ rfl fun ρ0 ff => ?_
   have hA10 : OwnP s5 (pcS u5 ++ (pcNW u4 ++ (pcNW r3 ++ (pcS u2 ++ (pcNW u1 ++ []))))) := (OwnP.joinF hA9 hP5 hO5 hN5)
   have hQ10 : Pres st s5 := (hQ9.trans hP5)
   refine ⟨_,op_ldo (v := (vNV u4.v)) rfl rfl rfl rfl,?_⟩
   refine ⟨_,rfl,?_⟩
   refine ⟨_,rfl,(ac_impl_Take u4.v u5 s5 (OwnP.rdN (OwnP.left (OwnP.right hA10))) (OwnP.rdS (OwnP.left hA10)) (bigNW (hu4 ▸ hb_g)) (hu5 ▸ hb_d)).mono ?_⟩
   rintro _ s6 ⟨r6,b6,rfl,hr6,hO6,hN6,hP6⟩
   iterate 3 refine ⟨_,rfl,?_⟩
   refine ⟨_,op_stw (vs := cNV r6.v) rfl rfl rfl rfl rfl rfl rfl rfl,?_⟩
   refine AW.cutM (6) s6 [(2,vL 2 0 (0)),(3,vL 3 0 (1)),(4,vB false),(6,vL 6 0 (2)),(7,vB b3),(8,vL 8 0 (3)),(9,vL 9 0 (4)),(10,vL 10 0 (5)),(11,vB b6)] [(2,0,cNV g),(3,1,[vS d.p d.x.items.length,vS d.q d.x.floors.length]),(6,2,cNV r3.v),(8,3,cNV u4.v),(9,4,[vS u5.p u5.x.items.length,vS u5.q u5.x.floors.length]),(10,5,cNV r6.v)] ⟨rfl,rfl,rfl,rfl,rfl,rfl,rfl,rfl,rfl,trivial⟩ ⟨rfl,rfl,rfl,rfl,rfl,rfl,trivial⟩ rfl fun ρ0 ff => ?_
   have hA11 : OwnP s6 (pcNW r6 ++ (pcS u5 ++ (pcNW u4 ++ (pcNW r3 ++ (pcS u2 ++ (pcNW u1 ++ [])))))) := (OwnP.joinF hA10 hP6 hO6 hN6)
   have hQ11 : Pres st s6 := (hQ10.trans hP6)
   have hE1 : (r6.x,b6) = (r3.x,b3) := by rw [hr6,hr3,show u4.v.x = _ from hu4,show u1.v.x = _ from hu1,hu5,hu2]
   refine ⟨_,op_ldo (v := (vNV r6.v)) rfl rfl rfl rfl,?_⟩
   refine ⟨_,op_ldo (v := (vNV r3.v)) rfl rfl rfl rfl,?_⟩
   refine ⟨_,rfl,(AC.tru (uc_eqNode r6 r3 s6 (OwnP.rdN (OwnP.left hA11)) (OwnP.rdN (OwnP.left (OwnP.right (OwnP.right (OwnP.right hA11))))) (take_big hr6 (bigNW (hu4 ▸ hb_g)) (hu5 ▸ hb_d))) ((Prod.mk.inj hE1).1)).mono ?_⟩
   rintro _ s6 ⟨rfl,rfl⟩
   iterate 2 refine ⟨_,rfl,?_⟩
   rintro (_|_) he7
   rotate_left
   ·exact absurd (((Prod.mk.inj hE1).2)) (b_ne he7)
   refine ⟨_,rfl,?_⟩
   refine AW.cutM (6) s6 [(2,vL 2 0 (0)),(3,vL 3 0 (1)),(4,vB false),(6,vL 6 0 (2)),(7,vB b3),(8,vL 8 0 (3)),(9,vL 9 0 (4)),(10,vL 10 0 (5)),(11,vB b6),(53,vB false)] [(2,0,cNV g),(3,1,[vS d.p d.x.items.length,vS d.q d.x.floors.length]),(6,2,cNV r3.v),(8,3,cNV u4.v),(9,4,[vS u5.p u5.x.items.length,vS u5.q u5.x.floors.length]),(10,5,cNV r6.v)] ⟨rfl,rfl,rfl,rfl,rfl,rfl,rfl,rfl,rfl,rfl,trivial⟩ ⟨rfl,rfl,rfl,rfl,rfl,rfl,trivial⟩ rfl fun ρ0 ff => ?_
   refine cxs ?_
   refine ⟨_,op_ldo (v := (vNV u4.v)) rfl rfl rfl rfl,?_⟩
   refine ⟨ld_own rfl rfl rfl,?_⟩
   refine ⟨_,op_ldo (v := (vNV g)) rfl rfl rfl rfl,?_⟩
   refine ⟨_,rfl,(ac_laws_toNode g s6 (hR_g.1.pres hQ11) hb_g).mono ?_⟩
   rintro _ s8 ⟨u8,rfl,hu8,hO8,hN8,hP8⟩
   refine ⟨hP8.2,?_⟩
   refine ⟨_,rfl,(AC.tru (uc_eqNode u4 u8 s8 (OwnP.rdN (OwnP.left (OwnP.right (OwnP.right (OwnP.right (OwnP.joinF hA11 hP8 hO8 hN8)))))) (OwnP.rdN (OwnP.left (OwnP.joinF hA11 hP8 hO8 hN8))) (hu4 ▸ hb_g)) (hu4.trans hu8.symm)).mono ?_⟩
   rintro _ s8 ⟨rfl,rfl⟩
   refine ⟨_,rfl,?_⟩
   refine AW.cutM (6) s8 [(2,vL 2 0 (0)),(3,vL 3 0 (1)),(4,vB false),(6,vL 6 0 (2)),(7,vB b3),(8,vL 8 0 (3)),(9,vL 9 0 (4)),(10,vL 10 0 (5)),(11,vB b6),(58,vB false)] [(2,0,cNV g),(3,1,[vS d.p d.x.items.length,vS d.q d.x.floors.length]),(6,2,cNV r3.v),(8,3,cNV u4.v),(9,4,[vS u5.p u5.x.items.length,vS u5.q u5.x.floors.length]),(10,5,cNV r6.v)] ⟨rfl,rfl,rfl,rfl,rfl,rfl,rfl,rfl,rfl,rfl,trivial⟩ ⟨rfl,rfl,rfl,rfl,rfl,rfl,trivial⟩ rfl fun ρ0 ff => ?_
   have hA14 : OwnP s8 (pcNW u8 ++ (pcNW r6 ++ (pcS u5 ++ (pcNW u4 ++ (pcNW r3 ++ (pcS u2 ++ (pcNW u1 ++ []))))))) := (OwnP.joinF hA11 hP8 hO8 hN8)
   have hQ14 : Pres st s8 := (hQ11.trans hP8)
   refine cxs ?_
   refine ⟨_,rfl,?_⟩
   refine ⟨ld_own rfl rfl rfl,?_⟩
   refine ⟨_,rfl,?_⟩
   refine ⟨_,rfl,(ac_laws_toState d s8 (hR_d.1.pres hQ14) hb_d).mono ?_⟩
   rintro _ s9 ⟨u9,rfl,hu9,hO9,hN9,hP9⟩
   refine ⟨hP9.2,?_⟩
   refine ⟨_,rfl,(AC.tru (ac_laws_eqState u5 u9 s9 (OwnP.rdS (OwnP.left (OwnP.right (OwnP.right (OwnP.right (OwnP.joinF hA14 hP9 hO9 hN9)))))) (OwnP.rdS (OwnP.left (OwnP.joinF hA14 hP9 hO9 hN9))) (hu5 ▸ hb_d)) (hu5.trans hu9.symm)).mono ?_⟩
   rintro _ s9 ⟨rfl,rfl⟩
   refine ⟨_,rfl,?_⟩
   refine AW.cutM (6) s9 [(2,vL 2 0 (0)),(3,vL 3 0 (1)),(4,vB false),(6,vL 6 0 (2)),(7,vB b3),(8,vL 8 0 (3)),(9,vL 9 0 (4)),(10,vL 10 0 (5)),(11,vB b6),(63,vB false)] [(2,0,cNV g),(3,1,[vS d.p d.x.items.length,vS d.q d.x.floors.length]),(6,2,cNV r3.v),(8,3,cNV u4.v),(9,4,[vS u5.p u5.x.items.length,vS u5.q u5.x.floors.length]),(10,5,cNV r6.v)] ⟨rfl,rfl,rfl,rfl,rfl,rfl,rfl,rfl,rfl,rfl,trivial⟩ ⟨rfl,rfl,rfl,rfl,rfl,rfl,trivial⟩ rfl fun ρ0 ff => ?_
   have hA16 : OwnP s9 (pcS u9 ++ (pcNW u8 ++ (pcNW r6 ++ (pcS u5 ++ (pcNW u4 ++ (pcNW r3 ++ (pcS u2 ++ (pcNW u1 ++ [])))))))) := (OwnP.joinF hA14 hP9 hO9 hN9)
   have hQ16 : Pres st s9 := (hQ14.trans hP9)
   refine cxs ?_
   refine AW.cutM (6) s9 [(2,vL 2 0 (0)),(3,vL 3 0 (1)),(4,vB false),(6,vL 6 0 (2)),(7,vB b3),(8,vL 8 0 (3)),(9,vL 9 0 (4)),(10,vL 10 0 (5)),(11,vB b6),(12,vI (1))] [(2,0,cNV g),(3,1,[vS d.p d.x.items.length,vS d.q d.x.floors.length]),(6,2,cNV r3.v),(8,3,cNV u4.v),(9,4,[vS u5.p u5.x.items.length,vS u5.q u5.x.floors.length]),(10,5,cNV r6.v)] ⟨rfl,rfl,rfl,rfl,rfl,rfl,rfl,rfl,rfl,rfl,trivial⟩ ⟨rfl,rfl,rfl,rfl,rfl,rfl,trivial⟩ rfl fun ρ0 ff => ?_
   refine ⟨_,op_ldo (v := (vNV u4.v)) rfl rfl rfl rfl,?_⟩
   have hM10 := (OwnP.front4 hA16)
   have hNw10 := newPs (hN4.le (((hP1.trans hP2).trans hP3)).1)
   have hcm10 : cntNode u4.x ≤ 8388608 := by rw [hu4]; exact hc_g
   refine ⟨_,rfl,(uc_markNode u4 1 s9 (OwnP.left hM10) (hu4 ▸ hb_g) (by omega) (by omega)).mono ?_⟩
   rintro _ s10 ⟨rfl,hO10,hL10⟩
   refine AW.cutM (6) s10 [(2,vL 2 0 (0)),(3,vL 3 0 (1)),(4,vB false),(6,vL 6 0 (2)),(7,vB b3),(9,vL 9 0 (4)),(10,vL 10 0 (5)),(11,vB b6),(12,vI (1 + (cntNode u4.x : Int)))] [(2,0,cNV g),(3,1,[vS d.p d.x.items.length,vS d.q d.x.floors.length]),(6,2,cNV r3.v),(9,4,[vS u5.p u5.x.items.length,vS u5.q u5.x.floors.length]),(10,5,cNV r6.v)] ⟨rfl,rfl,rfl,rfl,rfl,rfl,rfl,rfl,rfl,trivial⟩ ⟨rfl,rfl,rfl,rfl,rfl,trivial⟩ rfl fun ρ0 ff => ?_
   have hA19 : OwnP s10 (pcNW (mkNode u4 1) ++ _) := OwnP.markG hM10 hO10 (mkp_Node _ _) hL10
   have hQ19 : Pres st s10 := hL10.pres hQ16 hNw10
   refine ⟨_,rfl,?_⟩
   have hM11 := (OwnP.front4 hA19)
   have hNw11 := newPs (hN5.le ((((hP1.trans hP2).trans hP3).trans hP4)).1)
   have hcm11 : cntState u5.x ≤ 8388608 := by rw [hu5]; exact hc_d
   refine ⟨_,rfl,(uc_markState u5 _ s10 (OwnP.left hM11) (hu5 ▸ hb_d) (by omega) (by omega)).mono ?_⟩
   rintro _ s11 ⟨rfl,hO11,hL11⟩
   refine AW.cutM (6) s11 [(2,vL 2 0 (0)),(3,vL 3 0 (1)),(4,vB false),(6,vL 6 0 (2)),(7,vB b3),(10,vL 10 0 (5)),(11,vB b6),(12,vI (1 + (cntNode u4.x : Int) + (cntState u5.x : Int)))] [(2,0,cNV g),(3,1,[vS d.p d.x.items.length,vS d.q d.x.floors.length]),(6,2,cNV r3.v),(10,5,cNV r6.v)] ⟨rfl,rfl,rfl,rfl,rfl,rfl,rfl,rfl,trivial⟩ ⟨rfl,rfl,rfl,rfl,trivial⟩ rfl fun ρ0 ff => ?_
   have hA20 : OwnP s11 (pcS (mkState u5 (1 + (cntNode u4.x : Int))) ++ _) := OwnP.markG hM11 hO11 (mkp_State _ _) hL11
   have hQ20 : Pres st s11 := hL11.pres hQ19 hNw11
   refine ⟨_,rfl,?_⟩
   rintro (_|_) hg12
   rotate_left
   ·exact absurd (of_decide_eq_true hg12) ((by omega))
   refine ⟨_,op_ldo (v := (vNV r6.v)) rfl rfl rfl rfl,?_⟩
   refine ⟨_,op_ldo (v := (vNV r3.v)) rfl rfl rfl rfl,?_⟩
   refine ⟨_,rfl,(AC.tru (uc_eqNode r6 r3 s11 (OwnP.rdN (OwnP.left (OwnP.right (OwnP.right (OwnP.right (OwnP.right hA20)))))) (OwnP.rdN (OwnP.left (OwnP.right (OwnP.right (OwnP.right (OwnP.right (OwnP.right hA20))))))) (take_big hr6 (bigNW (hu4 ▸ hb_g)) (hu5 ▸ hb_d))) ((Prod.mk.inj hE1).1)).mono ?_⟩
   rintro _ s11 ⟨rfl,rfl⟩
   iterate 3 refine ⟨_,rfl,?_⟩
   rintro (_|_) he13
   rotate_left
   ·exact absurd (((Prod.mk.inj hE1).2)) (b_ne he13)
   refine ⟨_,rfl,?_⟩
   refine AW.cutM (6) s11 [(2,vL 2 0 (0)),(3,vL 3 0 (1)),(4,vB false),(6,vL 6 0 (2)),(7,vB b3),(10,vL 10 0 (5)),(82,vB false)] [(2,0,cNV g),(3,1,[vS d.p d.x.items.length,vS d.q d.x.floors.length]),(6,2,cNV r3.v),(10,5,cNV r6.v)] ⟨rfl,rfl,rfl,rfl,rfl,rfl,rfl,trivial⟩ ⟨rfl,rfl,rfl,rfl,trivial⟩ rfl fun ρ0 ff => ?_
   refine cxs ?_
   refine AW.cutM (6) s11 [(2,vL 2 0 (0)),(3,vL 3 0 (1)),(4,vB false),(6,vL 6 0 (2)),(7,vB b3),(10,vL 10 0 (5)),(13,vI (1))] [(2,0,cNV g),(3,1,[vS d.p d.x.items.length,vS d.q d.x.floors.length]),(6,2,cNV r3.v),(10,5,cNV r6.v)] ⟨rfl,rfl,rfl,rfl,rfl,rfl,rfl,trivial⟩ ⟨rfl,rfl,rfl,rfl,trivial⟩ rfl fun ρ0 ff => ?_
   refine ⟨_,op_ldo (v := (vNV r6.v)) rfl rfl rfl rfl,?_⟩
   have hM14 := (OwnP.front4 hA20)
   have hNw14 := newPs (hN6.le (((((hP1.trans hP2).trans hP3).trans hP4).trans hP5)).1)
   have hcm14 : cntNode r6.x ≤ 33554432 := take_cnt hr6 (bigNW (hu4 ▸ hb_g)) (hu5 ▸ hb_d) (cntNW (hu4 ▸ hc_g))
   refine ⟨_,rfl,(uc_markNode r6 1 s11 (OwnP.left hM14) (take_big hr6 (bigNW (hu4 ▸ hb_g)) (hu5 ▸ hb_d)) (by omega) (by omega)).mono ?_⟩
   rintro _ s14 ⟨rfl,hO14,hL14⟩
   refine cxs ?_
   have hA24 : OwnP s14 (pcNW (mkNode r6 1) ++ _) := OwnP.markG hM14 hO14 (mkp_Node _ _) hL14
   have hQ24 : Pres st s14 := hL14.pres hQ20 hNw14
   refine AW.cutM (6) s14 [(2,vL 2 0 (0)),(3,vL 3 0 (1)),(4,vB false),(6,vL 6 0 (2)),(7,vB b3),(10,vL 10 0 (5)),(13,vI (1 + (cntNode r6.x : Int))),(14,vI (1))] [(2,0,cNV g),(3,1,[vS d.p d.x.items.length,vS d.q d.x.floors.length]),(6,2,cNV r3.v),(10,5,cNV r6.v)] ⟨rfl,rfl,rfl,rfl,rfl,rfl,rfl,rfl,trivial⟩ ⟨rfl,rfl,rfl,rfl,trivial⟩ rfl fun ρ0 ff => ?_
   refine ⟨_,op_ldo (v := (vNV r6.v)) rfl rfl rfl rfl,?_⟩
   refine ⟨_,rfl,(uc_heldNode r6 1 s14 (OwnP.left hA24) (take_big hr6 (bigNW (hu4 ▸ hb_g)) (hu5 ▸ hb_d)) (by decide) (by omega)).mono ?_⟩
   rintro _ s15 ⟨rfl,hP15⟩
   refine AW.cutM (6) s15 [(2,vL 2 0 (0)),(3,vL 3 0 (1)),(4,vB false),(6,vL 6 0 (2)),(7,vB b3),(10,vL 10 0 (5)),(13,vI (1 + (cntNode r6.x : Int))),(14,vI (1 + (cntNode r6.x : Int)))] [(2,0,cNV g),(3,1,[vS d.p d.x.items.length,vS d.q d.x.floors.length]),(6,2,cNV r3.v),(10,5,cNV r6.v)] ⟨rfl,rfl,rfl,rfl,rfl,rfl,rfl,rfl,trivial⟩ ⟨rfl,rfl,rfl,rfl,trivial⟩ rfl fun ρ0 ff => ?_
   have hA26 : OwnP s15 (pcNW (mkNode r6 1) ++ (pcS (mkState u5 (1 + (cntNode u4.x : Int))) ++ (pcNW (mkNode u4 1) ++ (pcS u9 ++ (pcNW u8 ++ (pcNW r3 ++ (pcS u2 ++ (pcNW u1 ++ [])))))))) := (OwnP.pres hA24 hP15)
   have hQ26 : Pres st s15 := (hQ24.trans hP15)
   refine ⟨_,rfl,?_⟩
   rintro (_|_) hg16
   rotate_left
   ·exact absurd (of_decide_eq_true hg16) ((by omega))
   refine AW.cutM (6) s15 [(2,vL 2 0 (0)),(3,vL 3 0 (1)),(4,vB false),(6,vL 6 0 (2)),(7,vB b3),(10,vL 10 0 (5)),(13,vI (1 + (cntNode r6.x : Int))),(14,vI (1 + (cntNode r6.x : Int))),(90,vB false)] [(2,0,cNV g),(3,1,[vS d.p d.x.items.length,vS d.q d.x.floors.length]),(6,2,cNV r3.v),(10,5,cNV r6.v)] ⟨rfl,rfl,rfl,rfl,rfl,rfl,rfl,rfl,rfl,trivial⟩ ⟨rfl,rfl,rfl,rfl,trivial⟩ rfl fun ρ0 ff => ?_
   refine cxs ?_
   refine ⟨_,rfl,?_⟩
   rintro (_|_) hg17
   rotate_left
   ·exact absurd (rfl) (bne_iff_ne.1 hg17)
   refine AW.cutM (6) s15 [(2,vL 2 0 (0)),(3,vL 3 0 (1)),(4,vB false),(6,vL 6 0 (2)),(7,vB b3),(10,vL 10 0 (5)),(13,vI (1 + (cntNode r6.x : Int))),(14,vI (1 + (cntNode r6.x : Int))),(93,vB false)] [(2,0,cNV g),(3,1,[vS d.p d.x.items.length,vS d.q d.x.floors.length]),(6,2,cNV r3.v),(10,5,cNV r6.v)] ⟨rfl,rfl,rfl,rfl,rfl,rfl,rfl,rfl,rfl,trivial⟩ ⟨rfl,rfl,rfl,rfl,trivial⟩ rfl fun ρ0 ff => ?_
   refine cxs ?_
   refine ⟨_,op_ldo (v := (vNV g)) rfl rfl rfl rfl,?_⟩
   refine ⟨ld_own rfl rfl rfl,?_⟩
   refine ⟨_,rfl,(ac_laws_toNode g s15 (hR_g.1.pres hQ26) hb_g).mono ?_⟩
   rintro _ s18 ⟨u18,rfl,hu18,hO18,hN18,hP18⟩
   refine ⟨hP18.2,?_⟩
   refine ⟨_,rfl,?_⟩
   refine ⟨ld_own rfl rfl rfl,?_⟩
   refine ⟨_,rfl,(ac_laws_toState d s18 (hR_d.1.pres (hQ26.trans hP18)) hb_d).mono ?_⟩
   rintro _ s19 ⟨u19,rfl,hu19,hO19,hN19,hP19⟩
   refine ⟨_,rfl,(ac_impl_Take u18.v u19 s19 (OwnP.rdN (OwnP.left (OwnP.right (OwnP.joinF (OwnP.joinF hA26 hP18 hO18 hN18) hP19 hO19 hN19)))) (OwnP.rdS (OwnP.left (OwnP.joinF (OwnP.joinF hA26 hP18 hO18 hN18) hP19 hO19 hN19))) (bigNW (hu18 ▸ hb_g)) (hu19 ▸ hb_d)).mono ?_⟩
   rintro _ s20 ⟨r20,b20,rfl,hr20,hO20,hN20,hP20⟩
   iterate 3 refine ⟨_,rfl,?_⟩
   refine ⟨_,op_stw (vs := cNV r20.v) rfl rfl rfl rfl rfl rfl rfl rfl,?_⟩
   refine AW.cutM (7) s20 [(4,vB false),(6,vL 6 0 (2)),(7,vB b3),(10,vL 10 0 (5)),(13,vI (1 + (cntNode r6.x : Int))),(14,vI (1 + (cntNode r6.x : Int))),(15,vL 15 0 (6)),(16,vB b20)] [(6,2,cNV r3.v),(10,5,cNV r6.v),(15,6,cNV r20.v)] ⟨rfl,rfl,rfl,rfl,rfl,rfl,rfl,rfl,trivial⟩ ⟨rfl,rfl,rfl,trivial⟩ rfl fun ρ0 ff => ?_
   have hA31 : OwnP s20 (pcNW r20 ++ (pcS u19 ++ (pcNW u18 ++ (pcNW (mkNode r6 1) ++ (pcS (mkState u5 (1 + (cntNode u4.x : Int))) ++ (pcNW (mkNode u4 1) ++ (pcS u9 ++ (pcNW u8 ++ (pcNW r3 ++ (pcS u2 ++ (pcNW u1 ++ []))))))))))) := (OwnP.joinF (OwnP.joinF (OwnP.joinF hA26 hP18 hO18 hN18) hP19 hO19 hN19) hP20 hO20 hN20)
   have hQ31 : Pres st s20 := (((hQ26.trans hP18).trans hP19).trans hP20)
   have hE2 : (r20.x,b20) = (r3.x,b3) := by rw [hr20,hr3,show u18.v.x = _ from hu18,show u1.v.x = _ from hu1,hu19,hu2]
   refine ⟨_,op_ldo (v := (vNV r20.v)) rfl rfl rfl rfl,?_⟩
   refine ⟨_,op_ldo (v := (vNV r3.v)) rfl rfl rfl rfl,?_⟩
   refine ⟨_,rfl,(AC.tru (uc_eqNode r20 r3 s20 (OwnP.rdN (OwnP.left hA31)) (OwnP.rdN (OwnP.left (OwnP.right (OwnP.right (OwnP.right (OwnP.right (OwnP.right (OwnP.right (OwnP.right (OwnP.right hA31)))))))))) (take_big hr20 (bigNW (hu18 ▸ hb_g)) (hu19 ▸ hb_d))) ((Prod.mk.inj hE2).1)).mono ?_⟩
   rintro _ s20 ⟨rfl,rfl⟩
   iterate 2 refine ⟨_,rfl,?_⟩
   rintro (_|_) he21
   rotate_left
   ·exact absurd (((Prod.mk.inj hE2).2)) (b_ne he21)
   refine ⟨_,rfl,?_⟩
   refine AW.cutM (7) s20 [(4,vB false),(10,vL 10 0 (5)),(13,vI (1 + (cntNode r6.x : Int))),(14,vI (1 + (cntNode r6.x : Int))),(110,vB false)] [(10,5,cNV r6.v)] ⟨rfl,rfl,rfl,rfl,rfl,trivial⟩ ⟨rfl,trivial⟩ rfl fun ρ0 ff => ?_
   refine cxs ?_
   refine AW.cutM (7) s20 [(4,vB false),(10,vL 10 0 (5)),(13,vI (1 + (cntNode r6.x : Int))),(14,vI (1))] [(10,5,cNV r6.v)] ⟨rfl,rfl,rfl,rfl,trivial⟩ ⟨rfl,trivial⟩ rfl fun ρ0 ff => ?_
   refine ⟨_,op_ldo (v := (vNV r6.v)) rfl rfl rfl rfl,?_⟩
   refine ⟨_,rfl,(uc_heldNode r6 1 s20 (OwnP.left (OwnP.right (OwnP.right (OwnP.right hA31)))) (take_big hr6 (bigNW (hu4 ▸ hb_g)) (hu5 ▸ hb_d)) (by decide) (by omega)).mono ?_⟩
   rintro _ s22 ⟨rfl,hP22⟩
   refine AW.cutM (7) s22 [(4,vB false),(13,vI (1 + (cntNode r6.x : Int))),(14,vI (1 + (cntNode r6.x : Int)))] [] ⟨rfl,rfl,rfl,trivial⟩ trivial rfl fun ρ0 ff => ?_
   have hA35 : OwnP s22 (pcNW r20 ++ (pcS u19 ++ (pcNW u18 ++ (pcNW (mkNode r6 1) ++ (pcS (mkState u5 (1 + (cntNode u4.x : Int))) ++ (pcNW (mkNode u4 1) ++ (pcS u9 ++ (pcNW u8 ++ (pcNW r3 ++ (pcS u2 ++ (pcNW u1 ++ []))))))))))) := (OwnP.pres hA31 hP22)
   have hQ35 : Pres st s22 := (hQ31.trans hP22)
   refine ⟨_,rfl,?_⟩
   rintro (_|_) hg23
   rotate_left
   ·exact absurd (of_decide_eq_true hg23) ((by omega))
   refine AW.cutM (7) s22 [(4,vB false),(13,vI (1 + (cntNode r6.x : Int))),(14,vI (1 + (cntNode r6.x : Int))),(115,vB false)] [] ⟨rfl,rfl,rfl,rfl,trivial⟩ trivial rfl fun ρ0 ff => ?_
   refine cxs ?_
   refine ⟨_,rfl,?_⟩
   rintro (_|_) hg24
   rotate_left
   ·exact absurd (rfl) (bne_iff_ne.1 hg24)
   refine AW.cutM (7) s22 [(4,vB false),(118,vB false)] [] ⟨rfl,rfl,trivial⟩ trivial rfl fun ρ0 ff => ?_
   refine cxs ?_
   refine cxs ?_
   exact ⟨.inl rfl,_,rfl,rfl⟩
  ·replace hn_d : z_d < 0 := of_decide_eq_true hn_d
   refine AW.cutM (2) st [(2,vL 2 0 (0)),(3,vL 3 0 (1)),(4,vB false),(26,vB true)] [(2,0,cNV g),(3,1,[vS d.p d.x.items.length,vS d.q d.x.floors.length])] ⟨rfl,rfl,rfl,rfl,trivial⟩ ⟨rfl,rfl,trivial⟩ rfl fun ρ0 ff => ?_
   refine cxs ?_
   exact ⟨.inl rfl,_,rfl,rfl⟩
 ·replace hn_g : z_g < 0 := of_decide_eq_true hn_g
  refine AW.cutM (2) st [(2,vL 2 0 (0)),(3,vL 3 0 (1)),(4,vB false),(5,vI z_g),(21,vB true)] [(2,0,cNV g),(3,1,[vS d.p d.x.items.length,vS d.q d.x.floors.length])] ⟨rfl,rfl,rfl,rfl,rfl,trivial⟩ ⟨rfl,rfl,trivial⟩ rfl fun ρ0 ff => ?_
  refine cxs ?_
  exact ⟨.inl rfl,_,rfl,rfl⟩
end Go.Proofs.YtbogbnjnjjhnbaaGreat.AM
