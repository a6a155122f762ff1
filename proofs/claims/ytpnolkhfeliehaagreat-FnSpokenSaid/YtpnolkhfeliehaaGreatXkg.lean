/- Part 7 of the texts on which the law's proof rests. -/
import Derived.Test.YtpnolkhfeliehaaGreatXkf
namespace Go.Proofs.YtpnolkhfeliehaaGreat.AM
open Go Go.Proofs
set_option linter.unusedVariables false
set_option linter.unusedSimpArgs false
set_option maxRecDepth 100000
set_option maxHeartbeats 4000000
theorem ac_spec_l11Take (g : NV) (d : SV) (st : St) (hR : RdN st g) (hD : RdS st d) (hb : bigN g.x) (hbd : bigS d.x) (hk : stateOk g.s.x) (hkd : stateOk d.x) (hr5 : g.rises.l.length = 5) : C 56 [(vNV g),.agg #[vS d.p d.x.items.length,vS d.q d.x.floors.length]] st (fun v s => ∃ u : NW,v = (vNV u) ∧ u.x = takeF g.x d.x ∧ OwnP s (pcNW u) ∧ NewP st.next (pcNW u) ∧ Pres st s) := by
 refine AC.enterX (i := ⟨[2,3,4,5,6,8,9],[2,3,4,5,6,8,9,12,16,18,23,25,28,29,32,34,35,41,42,47,49,53,54,56,60,61,63,67,68,70,75,77,79,80,82,83,85],[0,1,2,3,4,5,6,7,8,9,38,74],[]⟩) [(3,[5],[1,3])] Tryz.func56 rfl rfl (by kernel_rfl) (by kernel_rfl) Tryz.ntmps56 (Lb rfl) rfl ?_
 iterate 3 refine ⟨_,rfl,?_⟩
 refine Cm 3 st [Ml 2 0,Ml 3 1,Ml 4 2] [(2,0,cNV g),(3,1,cSV d),(4,2,Zn)] fun _ _ => ?_
 refine ⟨_,op_ldo (v := (vNV g)) rfl rfl rfl rfl,?_⟩
 refine ⟨_,rfl,(ac_spec_l11Copy g st hR (by first | assumption | omega)).mono ?_⟩
 rintro _ s11 ⟨u11,rfl,h11,hO11,hN11,hP11⟩
 refine ⟨_,rfl,?_⟩
 refine ⟨_,op_stw (vs := cNV u11.v) rfl rfl rfl rfl rfl rfl rfl rfl,?_⟩
 refine Cm 4 s11 [Ml 2 0,Ml 3 1,Ml 4 2,Ml 5 3] [(2,0,cNV g),(3,1,cSV d),(4,2,Zn),(5,3,cNV u11.v)] fun _ _ => ?_
 refine ⟨_,rfl,?_⟩
 refine ⟨_,Od rfl,?_⟩
 refine ⟨_,Od rfl,?_⟩
 refine ⟨_,rfl,(ac_spec_l3Join g.s d s11 (hR.s.pres hP11) (hD.pres hP11) hb.s hbd hk hkd).mono ?_⟩
 rintro _ s15 ⟨u15,rfl,h15,hO15,hN15,hP15⟩
 refine ⟨_,rfl,?_⟩
 refine ⟨_,Os rfl,?_⟩
 refine Cm 5 s15 [Ml 2 0,Ml 4 2,Ml 5 3,Ml 6 4] [(2,0,cNV g),(4,2,Zn),(5,3,cNV u11.v),(6,4,cSV u15)] fun _ _ => ?_
 have hF11 : Frs st s11 (pcNW u11) := ⟨hO11,hN11,hP11⟩
 have hR15 := hO15.rdS
 have hk15 : stateOk u15.x := by rw [h15]; exact stateOk_join hk hkd
 have hb15 : bigS u15.x := by rw [h15]; exact bigS_join hb.s hbd
 have hml := marksF_len (goneAt u15.x) 5
 refine ⟨_,rfl,?_⟩
 refine ⟨_,Od rfl,?_⟩
 refine ⟨ld_own rfl rfl rfl,?_⟩
 refine ⟨_,rfl,?_⟩
 refine ⟨_,Od rfl,?_⟩
 refine ⟨ld_own rfl rfl rfl,?_⟩
 refine ⟨_,Od rfl,?_⟩
 refine ⟨_,rfl,(ac_spec_MarksOf u15 s15 hR15 (by first | assumption | omega)).mono ?_⟩
 rintro _ s21 ⟨q21,rfl,hO21,hP21,hN21⟩
 refine ⟨hP21.2,?_⟩
 refine ⟨_,rfl,(uc_spec_TableAdd g.seen g.id q21 (marksF (goneAt u15.x) 5) s21 (hR.seen.pres ((hP11.trans hP15).trans hP21)) (hO21.rows len_cFlr) hb.seen (by unfold szOk; omega)).mono ?_⟩
 rintro _ s22 ⟨u22,rfl,h22,h22',hO22,hN22,hP22⟩
 refine ⟨_,rfl,?_⟩
 refine ⟨_,Os rfl,?_⟩
 refine Cm 5 s22 [Ml 2 0,Ml 4 2,Ml 5 3,Ml 6 4] [(2,0,cNV g),(4,2,Zn),(5,3,Nv u11 [(11,vS u22.p u22.t.length)]),(6,4,cSV u15)] fun _ _ => ?_
 have hF22 : Frs st s22 (pcNW { u11 with seen := u22 }) := (hF11.later (hP15.trans hP21)).ndE ⟨hO22,hN22,hP22⟩
 have hbt22 : bigT u22.x := tableAdd_big h22 hb.seen
 refine ⟨_,Od rfl,?_⟩
 refine ⟨_,rfl,?_⟩
 refine ⟨_,Od rfl,?_⟩
 refine ⟨_,rfl,(uc_spec_Prune u15 u22 s22 (hO15.rdS.pres (hP21.trans hP22)) hO22.rdT hb15 hbt22).mono ?_⟩
 rintro _ s27 ⟨u27,rfl,h27,hO27,hN27,hP27⟩
 refine ⟨_,rfl,?_⟩
 refine ⟨_,Os rfl,?_⟩
 refine Cm 5 s27 [Ml 2 0,Ml 4 2,Ml 5 3] [(2,0,cNV g),(4,2,Zn),(5,3,Nv u11 [(2,vS u27.p u27.x.items.length),(3,vS u27.q u27.x.floors.length),(11,vS u22.p u22.t.length)])] fun _ _ => ?_
 have hF27 : Frs st s27 (pcNW { u11 with seen := u22,s := u27 }) := hF22.ndS ⟨hO27,hN27,hP27⟩
 have hk27 : stateOk u27.x := ok_prune h27 hk15
 have hb27 : bigS u27.x := big_prune h27 hb15
 refine ⟨_,rfl,?_⟩
 refine ⟨_,Od rfl,?_⟩
 refine ⟨_,rfl,(ac_spec_TreeOf u27 s27 hO27.rdS hb27).mono ?_⟩
 rintro _ s31 ⟨u31,rfl,h31,hO31,hN31,hP31⟩
 refine ⟨_,rfl,?_⟩
 refine ⟨_,Os rfl,?_⟩
 refine cxs ?_
 have hF31 : Frs st s31 (pcNW { u11 with seen := u22,s := u27,t := u31 }) := hF27.ndT (Frs.one hO31 hN31 hP31)
 have hr11 : u11.rises.l = g.rises.l := congrArg Nd.rises h11
 have hi27 : u27.x.items.length ≤ 1048576 := hb27.1
 refine Cm 5 s31 [Ml 2 0,Ml 4 2,Ml 5 3,(7,vI 0)] [(2,0,cNV g),(4,2,Zn),(5,3,Nv u11 [(2,vS u27.p u27.x.items.length),(3,vS u27.q u27.x.floors.length),(4,vS u31.p u31.l.length),(5,vI u31.root),(11,vS u22.p u22.t.length)])] fun _ _ => ?_
 refine AW.loopM (fun x : Nat × List Ris => [(2,vL 2 0 (0)),(4,vL 4 0 (2)),(5,vL 5 0 (3)),(7,vI (x.1 : Int))]) (fun x : Nat × List Ris => [(2,0,cNV g),(4,2,[vI 0,vI 0,.slice none 0 0,.slice none 0 0,.slice none 0 0,vI 0,vI 0,vI 0,.slice none 0 0,.slice none 0 0,.slice none 0 0,.slice none 0 0,vI 0,vI 0,.slice none 0 0,vI 0,vI 0,vI 0,.slice none 0 0]),(5,3,[vI u11.id,vI u11.n,vS u27.p u27.x.items.length,vS u27.q u27.x.floors.length,vS u31.p u31.l.length,vI u31.root,vI u11.g.cap,vI u11.g.frm,vS u11.g.p u11.g.l.length,vS u11.got.p u11.got.l.length,vS u11.acked.p u11.acked.l.length,vS u22.p u22.t.length,vI u11.num,vI u11.slots,vS u11.sess.p u11.sess.l.length,vI u11.wait,vI u11.limit,vI u11.clock,vS u11.rises.p x.2.length])]) (fun m (x : Nat × List Ris) st' => m = u27.x.items.length - x.1 ∧ x.1 ≤ u27.x.items.length ∧ x.2 = risesF g.clock g.rises.l (u27.x.items.take x.1) ∧ Frs st st' (pcNW { u11 with seen := u22,s := u27,t := u31,rises := ⟨u11.rises.p,x.2⟩ })) (0,u11.rises.l) _ ⟨rfl,rfl,rfl,rfl,trivial⟩ ⟨rfl,rfl,rfl,trivial⟩ ⟨rfl,Nat.zero_le _,hr11,hF31⟩ ?_
 rintro m ⟨i,l⟩ ρ0 ff gg st' ⟨rfl,hi,hv,hF⟩
 simp only at hi hv hF
 have hll : l.length = 5 := by rw [hv,risesF_len]; exact hr5
 iterate 2 refine ⟨_,rfl,?_⟩
 refine ⟨_,Od rfl,?_⟩
 iterate 2 refine ⟨_,rfl,?_⟩
 rintro (_|_) h38
 ·replace h38 : ¬ ((i : Int) < (u27.x.items.length : Int)) := of_decide_eq_false h38
  refine Cm gg st' [Ml 2 0,Ml 4 2,Ml 5 3,(7,vI (i : Int)),(38,vB false)] [(2,0,cNV g),(4,2,Zn),(5,3,Nv u11 [(2,vS u27.p u27.x.items.length),(3,vS u27.q u27.x.floors.length),(4,vS u31.p u31.l.length),(5,vI u31.root),(11,vS u22.p u22.t.length),(18,vS u11.rises.p l.length)])] fun _ _ => ?_
  refine cxs ?_
  refine ⟨_,op_ldo (v := .agg #[vI u11.id,vI u11.n,vS u27.p u27.x.items.length,vS u27.q u27.x.floors.length,vS u31.p u31.l.length,vI u31.root,vI u11.g.cap,vI u11.g.frm,vS u11.g.p u11.g.l.length,vS u11.got.p u11.got.l.length,vS u11.acked.p u11.acked.l.length,vS u22.p u22.t.length,vI u11.num,vI u11.slots,vS u11.sess.p u11.sess.l.length,vI u11.wait,vI u11.limit,vI u11.clock,vS u11.rises.p l.length]) rfl rfl rfl rfl,?_⟩
  refine ⟨_,op_stw (vs := [vI u11.id,vI u11.n,vS u27.p u27.x.items.length,vS u27.q u27.x.floors.length,vS u31.p u31.l.length,vI u31.root,vI u11.g.cap,vI u11.g.frm,vS u11.g.p u11.g.l.length,vS u11.got.p u11.got.l.length,vS u11.acked.p u11.acked.l.length,vS u22.p u22.t.length,vI u11.num,vI u11.slots,vS u11.sess.p u11.sess.l.length,vI u11.wait,vI u11.limit,vI u11.clock,vS u11.rises.p l.length]) rfl rfl rfl rfl rfl rfl rfl rfl,?_⟩
  exact cxs (Rt ⟨{ u11 with seen := u22,s := u27,t := u31,rises := ⟨u11.rises.p,l⟩ },rfl,take_eq (y := u11.x) h11 h15 h22 h27 h31 (by rw [hv,show i = u27.x.items.length by omega,List.take_length]),hF.1,hF.2.1,hF.2.2⟩)
 ·replace h38 : (i : Int) < (u27.x.items.length : Int) := of_decide_eq_true h38
  refine Cm gg st' [Ml 2 0,Ml 4 2,Ml 5 3,(7,vI (i : Int)),(38,vB true)] [(2,0,cNV g),(4,2,Zn),(5,3,Nv u11 [(2,vS u27.p u27.x.items.length),(3,vS u27.q u27.x.floors.length),(4,vS u31.p u31.l.length),(5,vI u31.root),(11,vS u22.p u22.t.length),(18,vS u11.rises.p l.length)])] fun _ _ => ?_
  have hO : OwnR st' 3 cRise u11.rises.p l := hF.ownRis
  have hR2 : RdS st' u27 := hF.1.rdN.s
  refine cxs ?_
  iterate 2 refine ⟨_,rfl,?_⟩
  refine ⟨_,Od rfl,?_⟩
  refine op_at i hR2.1 (by omega) rfl rfl rfl rfl rfl rfl rfl ?_
  intro x45 b45 d45 k45 hy45 hb45 hm45 hc45 ho45
  refine ⟨_,op_lda rfl rfl rfl rfl rfl hm45 hc45 rfl,?_⟩
  refine ⟨_,rfl,?_⟩
  refine ⟨_,Os rfl,?_⟩
  refine Cm (gg + 1) st' [Ml 2 0,Ml 4 2,Ml 5 3,(7,vI (i : Int)),Ml 8 gg,(38,vB true)] [(2,0,cNV g),(4,2,Zn),(5,3,Nv u11 [(2,vS u27.p u27.x.items.length),(3,vS u27.q u27.x.floors.length),(4,vS u31.p u31.l.length),(5,vI u31.root),(11,vS u22.p u22.t.length),(18,vS u11.rises.p l.length)]),(8,gg,[vI x45.id,vI x45.e.inc,vI x45.e.rank,vI x45.e.beat,vI x45.e.ver,.string x45.e.data])] fun _ _ => ?_
  have hid : 0 ≤ x45.id ∧ x45.id ≤ 4 := (hk27.1 i x45 hy45).1
  obtain ⟨a,ha⟩ := hO.some (by omega)
  obtain ⟨b1,o1,k1,r,hpe,hr,hm1,hc1,hb1⟩ := (hO.rows len_cRise).atB (j := x45.id.toNat) (by omega)
  obtain ⟨rfl,rfl⟩ : a = b1 ∧ 0 = o1 := by rw [ha] at hpe; injection hpe with hpe; injection hpe with e1 e2; exact ⟨e1,e2⟩
  refine ⟨_,rfl,?_⟩
  refine ⟨_,Od rfl,?_⟩
  refine ⟨_,rfl,?_⟩
  refine ⟨_,Od rfl,?_⟩
  refine ⟨_,op_idx (j := x45.id) (n := l.length) (q := ⟨a,0,none⟩) rfl (congrArg (fun v => vS v l.length) ha) rfl rfl rfl hid.1 (by omega),?_⟩
  refine ⟨_,op_lda rfl rfl rfl rfl rfl hm1 hc1 rfl,?_⟩
  refine ⟨_,rfl,?_⟩
  refine ⟨_,Os rfl,?_⟩
  refine Cm (gg + 2) st' [Ml 2 0,Ml 4 2,Ml 5 3,(7,vI (i : Int)),Ml 8 gg,(9,vL 9 0 (gg + 1)),(38,vB true)] [(2,0,cNV g),(4,2,Zn),(5,3,Nv u11 [(2,vS u27.p u27.x.items.length),(3,vS u27.q u27.x.floors.length),(4,vS u31.p u31.l.length),(5,vI u31.root),(11,vS u22.p u22.t.length),(18,vS u11.rises.p l.length)]),(8,gg,[vI x45.id,vI x45.e.inc,vI x45.e.rank,vI x45.e.beat,vI x45.e.ver,.string x45.e.data]),(9,gg + 1,[vI r.inc,vI r.beat,vI r.tick])] fun _ _ => ?_
  iterate 2 refine ⟨_,rfl,?_⟩
  refine ⟨_,Od rfl,?_⟩
  refine ⟨_,rfl,?_⟩
  refine ⟨_,Od rfl,?_⟩
  refine ⟨_,rfl,?_⟩
  rintro (_|_) h58
  ·replace h58 : ¬ (x45.e.inc > r.inc) := of_decide_eq_false h58
   iterate 2 refine ⟨_,rfl,?_⟩
   refine ⟨_,Od rfl,?_⟩
   refine ⟨_,rfl,?_⟩
   refine ⟨_,Od rfl,?_⟩
   refine ⟨_,rfl,?_⟩
   rintro (_|_) h65
   ·replace h65 : ¬ (x45.e.inc = r.inc) := beq_eq_false_iff_ne.1 h65
    iterate 2 refine ⟨_,rfl,?_⟩
    refine Cm (gg + 2) st' [Ml 2 0,Ml 4 2,Ml 5 3,(7,vI (i : Int)),Ml 8 gg,(9,vL 9 0 (gg + 1)),(38,vB true),(74,vB false)] [(2,0,cNV g),(4,2,Zn),(5,3,Nv u11 [(2,vS u27.p u27.x.items.length),(3,vS u27.q u27.x.floors.length),(4,vS u31.p u31.l.length),(5,vI u31.root),(11,vS u22.p u22.t.length),(18,vS u11.rises.p l.length)]),(8,gg,[vI x45.id,vI x45.e.inc,vI x45.e.rank,vI x45.e.beat,vI x45.e.ver,.string x45.e.data]),(9,gg + 1,[vI r.inc,vI r.beat,vI r.tick])] fun _ _ => ?_
    refine cxs ?_
    have ew40 : IntKind.wrap .i64 ((i : Int) + (1)) = ((i + 1 : Nat) : Int) := (wrap_i64 (by omega) (by omega)).trans (by omega)
    refine ⟨_,rfl,?_⟩
    exact ⟨(i + 1,l),u27.x.items.length - (i + 1),by omega,⟨rfl,rfl,rfl,congrArg (Value.int .i64) ew40,trivial⟩,⟨rfl,rfl,rfl,trivial⟩,rfl,by simp only; omega,by rw [risesF_succ hy45,← hv]; exact (riseF_no hr (fun k => k.elim h58 fun k => h65 k.1)).symm,hF⟩
   ·replace h65 : x45.e.inc = r.inc := beq_iff_eq.1 h65
    iterate 2 refine ⟨_,rfl,?_⟩
    refine ⟨_,Od rfl,?_⟩
    refine ⟨_,rfl,?_⟩
    refine ⟨_,Od rfl,?_⟩
    refine ⟨_,rfl,?_⟩
    rintro (_|_) h72
    ·replace h72 : ¬ (x45.e.beat > r.beat) := of_decide_eq_false h72
     iterate 2 refine ⟨_,rfl,?_⟩
     refine Cm (gg + 2) st' [Ml 2 0,Ml 4 2,Ml 5 3,(7,vI (i : Int)),Ml 8 gg,(9,vL 9 0 (gg + 1)),(38,vB true),(74,vB false)] [(2,0,cNV g),(4,2,Zn),(5,3,Nv u11 [(2,vS u27.p u27.x.items.length),(3,vS u27.q u27.x.floors.length),(4,vS u31.p u31.l.length),(5,vI u31.root),(11,vS u22.p u22.t.length),(18,vS u11.rises.p l.length)]),(8,gg,[vI x45.id,vI x45.e.inc,vI x45.e.rank,vI x45.e.beat,vI x45.e.ver,.string x45.e.data]),(9,gg + 1,[vI r.inc,vI r.beat,vI r.tick])] fun _ _ => ?_
     refine cxs ?_
     have ew40 : IntKind.wrap .i64 ((i : Int) + (1)) = ((i + 1 : Nat) : Int) := (wrap_i64 (by omega) (by omega)).trans (by omega)
     refine ⟨_,rfl,?_⟩
     exact ⟨(i + 1,l),u27.x.items.length - (i + 1),by omega,⟨rfl,rfl,rfl,congrArg (Value.int .i64) ew40,trivial⟩,⟨rfl,rfl,rfl,trivial⟩,rfl,by simp only; omega,by rw [risesF_succ hy45,← hv]; exact (riseF_no hr (fun k => k.elim h58 fun k => h72 k.2)).symm,hF⟩
    ·replace h72 : x45.e.beat > r.beat := of_decide_eq_true h72
     iterate 2 refine ⟨_,rfl,?_⟩
     refine Cm (gg + 2) st' [Ml 2 0,Ml 4 2,Ml 5 3,(7,vI (i : Int)),Ml 8 gg,(9,vL 9 0 (gg + 1)),(38,vB true),(74,vB true)] [(2,0,cNV g),(4,2,Zn),(5,3,Nv u11 [(2,vS u27.p u27.x.items.length),(3,vS u27.q u27.x.floors.length),(4,vS u31.p u31.l.length),(5,vI u31.root),(11,vS u22.p u22.t.length),(18,vS u11.rises.p l.length)]),(8,gg,[vI x45.id,vI x45.e.inc,vI x45.e.rank,vI x45.e.beat,vI x45.e.ver,.string x45.e.data]),(9,gg + 1,[vI r.inc,vI r.beat,vI r.tick])] fun _ _ => ?_
     refine ⟨_,rfl,?_⟩
     refine ⟨_,Od rfl,?_⟩
     refine ⟨_,rfl,?_⟩
     refine ⟨_,Od rfl,?_⟩
     iterate 2 refine ⟨_,rfl,?_⟩
     refine ⟨_,Od rfl,?_⟩
     iterate 2 refine ⟨_,rfl,?_⟩
     refine ⟨_,Od rfl,?_⟩
     refine ⟨_,rfl,?_⟩
     refine ⟨_,Od rfl,?_⟩
     refine ⟨_,rfl,?_⟩
     refine ⟨_,op_idx (j := x45.id) (n := l.length) (q := ⟨a,0,none⟩) rfl (congrArg (fun v => vS v l.length) ha) rfl rfl rfl hid.1 (by omega),?_⟩
     refine op_put (st := st') (f := cRise) (j := x45.id.toNat) (l := l) (y := (⟨x45.e.inc,x45.e.beat,g.clock⟩ : Ris)) (p := u11.rises.p) (d := 0 + x45.id.toNat * 3) rfl rfl (Nat.zero_add _) rfl rfl len_cRise rfl rfl (by omega) hO ha ?_
     intro s94 hO94 hP94 hn94
     refine Cm (gg + 2) s94 [Ml 2 0,Ml 4 2,Ml 5 3,(7,vI (i : Int)),Ml 8 gg,(9,vL 9 0 (gg + 1)),(38,vB true),(74,vB true)] [(2,0,cNV g),(4,2,Zn),(5,3,Nv u11 [(2,vS u27.p u27.x.items.length),(3,vS u27.q u27.x.floors.length),(4,vS u31.p u31.l.length),(5,vI u31.root),(11,vS u22.p u22.t.length),(18,vS u11.rises.p l.length)]),(8,gg,[vI x45.id,vI x45.e.inc,vI x45.e.rank,vI x45.e.beat,vI x45.e.ver,.string x45.e.data]),(9,gg + 1,[vI r.inc,vI r.beat,vI r.tick])] fun _ _ => ?_
     have ew40 : IntKind.wrap .i64 ((i : Int) + (1)) = ((i + 1 : Nat) : Int) := (wrap_i64 (by omega) (by omega)).trans (by omega)
     refine ⟨_,rfl,?_⟩
     exact ⟨(i + 1,l.set x45.id.toNat ⟨x45.e.inc,x45.e.beat,g.clock⟩),u27.x.items.length - (i + 1),by omega,⟨rfl,rfl,rfl,congrArg (Value.int .i64) ew40,trivial⟩,⟨rfl,rfl,(show some (3,[vI u11.id,vI u11.n,vS u27.p u27.x.items.length,vS u27.q u27.x.floors.length,vS u31.p u31.l.length,vI u31.root,vI u11.g.cap,vI u11.g.frm,vS u11.g.p u11.g.l.length,vS u11.got.p u11.got.l.length,vS u11.acked.p u11.acked.l.length,vS u22.p u22.t.length,vI u11.num,vI u11.slots,vS u11.sess.p u11.sess.l.length,vI u11.wait,vI u11.limit,vI u11.clock,vS u11.rises.p l.length]) = _ by rw [List.length_set]),trivial⟩,rfl,by simp only; omega,by rw [risesF_succ hy45,← hv]; exact (riseF_yes hr (.inr ⟨h65,h72⟩)).symm,hF.ris hP94 hO94⟩
  ·replace h58 : x45.e.inc > r.inc := of_decide_eq_true h58
   refine ⟨_,rfl,?_⟩
   refine Cm (gg + 2) st' [Ml 2 0,Ml 4 2,Ml 5 3,(7,vI (i : Int)),Ml 8 gg,(9,vL 9 0 (gg + 1)),(38,vB true),(74,vB true)] [(2,0,cNV g),(4,2,Zn),(5,3,Nv u11 [(2,vS u27.p u27.x.items.length),(3,vS u27.q u27.x.floors.length),(4,vS u31.p u31.l.length),(5,vI u31.root),(11,vS u22.p u22.t.length),(18,vS u11.rises.p l.length)]),(8,gg,[vI x45.id,vI x45.e.inc,vI x45.e.rank,vI x45.e.beat,vI x45.e.ver,.string x45.e.data]),(9,gg + 1,[vI r.inc,vI r.beat,vI r.tick])] fun _ _ => ?_
   refine ⟨_,rfl,?_⟩
   refine ⟨_,Od rfl,?_⟩
   refine ⟨_,rfl,?_⟩
   refine ⟨_,Od rfl,?_⟩
   iterate 2 refine ⟨_,rfl,?_⟩
   refine ⟨_,Od rfl,?_⟩
   iterate 2 refine ⟨_,rfl,?_⟩
   refine ⟨_,Od rfl,?_⟩
   refine ⟨_,rfl,?_⟩
   refine ⟨_,Od rfl,?_⟩
   refine ⟨_,rfl,?_⟩
   refine ⟨_,op_idx (j := x45.id) (n := l.length) (q := ⟨a,0,none⟩) rfl (congrArg (fun v => vS v l.length) ha) rfl rfl rfl hid.1 (by omega),?_⟩
   refine op_put (st := st') (f := cRise) (j := x45.id.toNat) (l := l) (y := (⟨x45.e.inc,x45.e.beat,g.clock⟩ : Ris)) (p := u11.rises.p) (d := 0 + x45.id.toNat * 3) rfl rfl (Nat.zero_add _) rfl rfl len_cRise rfl rfl (by omega) hO ha ?_
   intro s94 hO94 hP94 hn94
   refine Cm (gg + 2) s94 [Ml 2 0,Ml 4 2,Ml 5 3,(7,vI (i : Int)),Ml 8 gg,(9,vL 9 0 (gg + 1)),(38,vB true),(74,vB true)] [(2,0,cNV g),(4,2,Zn),(5,3,Nv u11 [(2,vS u27.p u27.x.items.length),(3,vS u27.q u27.x.floors.length),(4,vS u31.p u31.l.length),(5,vI u31.root),(11,vS u22.p u22.t.length),(18,vS u11.rises.p l.length)]),(8,gg,[vI x45.id,vI x45.e.inc,vI x45.e.rank,vI x45.e.beat,vI x45.e.ver,.string x45.e.data]),(9,gg + 1,[vI r.inc,vI r.beat,vI r.tick])] fun _ _ => ?_
   have ew40 : IntKind.wrap .i64 ((i : Int) + (1)) = ((i + 1 : Nat) : Int) := (wrap_i64 (by omega) (by omega)).trans (by omega)
   refine ⟨_,rfl,?_⟩
   exact ⟨(i + 1,l.set x45.id.toNat ⟨x45.e.inc,x45.e.beat,g.clock⟩),u27.x.items.length - (i + 1),by omega,⟨rfl,rfl,rfl,congrArg (Value.int .i64) ew40,trivial⟩,⟨rfl,rfl,(show some (3,[vI u11.id,vI u11.n,vS u27.p u27.x.items.length,vS u27.q u27.x.floors.length,vS u31.p u31.l.length,vI u31.root,vI u11.g.cap,vI u11.g.frm,vS u11.g.p u11.g.l.length,vS u11.got.p u11.got.l.length,vS u11.acked.p u11.acked.l.length,vS u22.p u22.t.length,vI u11.num,vI u11.slots,vS u11.sess.p u11.sess.l.length,vI u11.wait,vI u11.limit,vI u11.clock,vS u11.rises.p l.length]) = _ by rw [List.length_set]),trivial⟩,rfl,by simp only; omega,by rw [risesF_succ hy45,← hv]; exact (riseF_yes hr (.inl h58)).symm,hF.ris hP94 hO94⟩
def oneS (id : Int) (e : Ent) : Sta := ⟨[⟨id,e⟩],[]⟩
def idOk (id : Int) : Prop := 0 ≤ id ∧ id ≤ 4
theorem one_ok {id : Int} {e : Ent} (h : idOk id) (he : entOk e) : stateOk (oneS id e) :=
 ⟨fun j x hx => by
  cases j with
  | zero => injection hx with hx; rw [← hx]; exact ⟨h,he,Int.lt_of_lt_of_le (show (0 : Int) < 1 by decide) he.1.1,fun y hy => by omega⟩
  | succ j => simp [oneS] at hx,fun j x hx => (nomatch hx)⟩
open Classical in
noncomputable def upF (s : Sta) (id : Int) : Ent × Int := if stateOk s ∧ idOk id then (if (lookF s id).2 = true then ((lookF s id).1,0) else (zEnt,3)) else (zEnt,1)
theorem up_bad {s : Sta} {id : Int} (h : ¬ (stateOk s ∧ idOk id)) : (zEnt,1) = upF s id := (if_neg h).symm
theorem up_no {s : Sta} {id : Int} {e : Ent} (h : stateOk s ∧ idOk id) (he : (e,false) = lookF s id) : (zEnt,3) = upF s id := by
 unfold upF
 rw [if_pos h,← he,if_neg Bool.false_ne_true]
theorem up_yes {s : Sta} {id : Int} {e : Ent} (h : stateOk s ∧ idOk id) (he : (e,true) = lookF s id) : (e,0) = upF s id := by
 unfold upF
 rw [if_pos h,← he,if_pos rfl]
theorem up_cases {s : Sta} {id : Int} {e : Ent} {c : Int} (h : (e,c) = upF s id) : (c = 1 ∧ e = zEnt ∧ ¬ (stateOk s ∧ idOk id)) ∨ ((stateOk s ∧ idOk id) ∧ ((c = 3 ∧ e = zEnt ∧ ∃ x,(x,false) = lookF s id) ∨ (c = 0 ∧ (e,true) = lookF s id))) := by
 unfold upF at h
 split at h
 ·rename_i hk
  split at h
  ·rename_i hl
   injection h with h1 h2
   exact .inr ⟨hk,.inr ⟨h2,by rw [h1,← hl]⟩⟩
  ·rename_i hl
   injection h with h1 h2
   exact .inr ⟨hk,.inl ⟨h2,h1,(lookF s id).1,by rw [← (Bool.not_eq_true _).mp hl]⟩⟩
 ·rename_i hk
  injection h with h1 h2
  exact .inl ⟨h2,h1,hk⟩
theorem look_ent {s : Sta} {id : Int} {e : Ent} (h : stateOk s) (he : (e,true) = lookF s id) : entOk e := by
 obtain ⟨j,x,hx,h1,h2⟩ := entP_mem he
 have hm := List.mem_of_getElem? hx
 unfold viewF at hm
 rw [if_pos h] at hm
 rw [← h1]
 exact items_ent h x ((List.mem_filter.1 hm).1)
theorem up_ent {s : Sta} {id : Int} {e : Ent} (h : (e,0) = upF s id) : entOk e ∧ idOk id := by
 rcases up_cases h with h | ⟨hk,h | h⟩
 ·cases h.1
 ·cases h.1
 ·exact ⟨look_ent hk.1 h.2,hk.2⟩
def sGone (e : Ent) : Ent := { e with rank := 1 }
def sBeat (e : Ent) : Ent := { e with beat := e.beat + 1 }
def sSet (e : Ent) (d : ByteArray) : Ent := { e with ver := e.ver + 1,data := d }
def sJoin (i : Int) : Ent := ⟨i + 1,0,0,0,⟨#[]⟩⟩
noncomputable def incF (s : Sta) (id : Int) : Int := if (entP s.items id).2 = true then (entP s.items id).1.inc else floorOf s.floors id
noncomputable def joinS (s : Sta) (id : Int) : Sta × Int := if (upF s id).2 = 1 then (nilS,1) else if (upF s id).2 = 0 then (nilS,2) else if incF s id = 1000 then (nilS,4) else (oneS id (sJoin (incF s id)),0)
noncomputable def beatS (s : Sta) (id : Int) : Sta × Int := if ¬ (upF s id).2 = 0 then (nilS,(upF s id).2) else if (upF s id).1.beat = 100000 then (nilS,4) else (oneS id (sBeat (upF s id).1),0)
noncomputable def setS (s : Sta) (id : Int) (d : ByteArray) : Sta × Int := if ¬ (upF s id).2 = 0 then (nilS,(upF s id).2) else if (upF s id).1.ver = 1000 ∨ d.size > 8 then (nilS,4) else (oneS id (sSet (upF s id).1 d),0)
noncomputable def goneS (s : Sta) (id : Int) : Sta × Int := if ¬ (upF s id).2 = 0 then (nilS,(upF s id).2) else (oneS id (sGone (upF s id).1),0)
noncomputable def sayS (s : Sta) (kind id : Int) (d : ByteArray) : Sta × Int := if kind = 0 then joinS s id else if kind = 1 then beatS s id else if kind = 2 then setS s id d else goneS s id
theorem inc_in {s : Sta} {id : Int} {e : Ent} (h : (e,true) = entP s.items id) : incF s id = e.inc := by unfold incF; rw [← h,if_pos rfl]
theorem inc_out {s : Sta} {id : Int} {e : Ent} (h : (e,false) = entP s.items id) : incF s id = floorOf s.floors id := by unfold incF; rw [← h,if_neg Bool.false_ne_true]
theorem inc_max {s : Sta} {id : Int} {e : Ent} {b : Bool} (hk : stateOk s) (h : (e,b) = entP s.items id) : max e.inc (floorOf s.floors id) = incF s id := by
 have hp := floorOf_pos hk.2 id
 cases b with
 | false => rw [inc_out h,entP_none h]; show max (0 : Int) _ = _; omega
 | true =>
  rw [inc_in h]
  obtain ⟨j,x,hx,h1,h2⟩ := entP_mem h
  have := (hk.1 j x hx).2.2.1
  rw [h1,h2] at this
  omega
theorem inc_rng {s : Sta} {id : Int} (hk : stateOk s) : 0 ≤ incF s id ∧ incF s id ≤ 1000 := by
 have hp := floorOf_pos hk.2 id
 unfold incF
 split
 ·rename_i hb
  have := ent_ok hk (id := id) (e := (entP s.items id).1) (by rw [← hb])
  have := this.1
  omega
 ·exact hp
theorem join_ent {i : Int} (h : 0 ≤ i ∧ i ≤ 1000) (hn : ¬ i = 1000) : entOk (sJoin i) := ⟨by show 1 ≤ i + 1 ∧ i + 1 ≤ 1000; omega,show (0 : Int) ≤ 0 ∧ (0 : Int) ≤ 1 by decide,show (0 : Int) ≤ 0 ∧ (0 : Int) ≤ 100000 by decide,show (0 : Int) ≤ 0 ∧ (0 : Int) ≤ 1000 by decide,show 0 ≤ 8 by decide⟩
theorem beat_ent {e : Ent} (h : entOk e) (hn : ¬ e.beat = 100000) : entOk (sBeat e) := ⟨h.1,h.2.1,by have := h.2.2.1; show 0 ≤ e.beat + 1 ∧ e.beat + 1 ≤ 100000; omega,h.2.2.2.1,h.2.2.2.2⟩
theorem set_ent {e : Ent} {d : ByteArray} (h : entOk e) (hn : ¬ (e.ver = 1000 ∨ d.size > 8)) : entOk (sSet e d) := ⟨h.1,h.2.1,h.2.2.1,by have := h.2.2.2.1; have : ¬ e.ver = 1000 := fun k => hn (.inl k); show 0 ≤ e.ver + 1 ∧ e.ver + 1 ≤ 1000; omega,Nat.not_lt.1 fun k => hn (.inr k)⟩
theorem gone_ent {e : Ent} (h : entOk e) : entOk (sGone e) := ⟨h.1,show (0 : Int) ≤ 1 ∧ (1 : Int) ≤ 1 by decide,h.2.2.1,h.2.2.2.1,h.2.2.2.2⟩
theorem say_ok {s d : Sta} {kind id : Int} {data : ByteArray} (h : (d,0) = sayS s kind id data) : stateOk d := by
 unfold sayS at h
 split at h
 ·unfold joinS at h
  split at h
  ·injection h with _ h; cases h
  ·split at h
   ·injection h with _ h; cases h
   ·split at h
    ·injection h with _ h; cases h
    ·rename_i h1 h2 h3
     injection h with h _
     rcases up_cases (s := s) (id := id) (e := (upF s id).1) (c := (upF s id).2) rfl with k | ⟨hk,_⟩
     ·exact absurd k.1 h1
     ·rw [h]; exact one_ok hk.2 (join_ent (inc_rng hk.1) h3)
 ·split at h
  ·unfold beatS at h
   split at h
   ·rename_i h1; injection h with _ h; exact absurd h.symm h1
   ·split at h
    ·injection h with _ h; cases h
    ·rename_i h1 h2
     injection h with h _
     have hu := up_ent (s := s) (id := id) (e := (upF s id).1) (by rw [← Classical.not_not.1 h1])
     rw [h]; exact one_ok hu.2 (beat_ent hu.1 h2)
  ·split at h
   ·unfold setS at h
    split at h
    ·rename_i h1; injection h with _ h; exact absurd h.symm h1
    ·split at h
     ·injection h with _ h; cases h
     ·rename_i h1 h2
      injection h with h _
      have hu := up_ent (s := s) (id := id) (e := (upF s id).1) (by rw [← Classical.not_not.1 h1])
      rw [h]; exact one_ok hu.2 (set_ent hu.1 h2)
   ·unfold goneS at h
    split at h
    ·rename_i h1; injection h with _ h; exact absurd h.symm h1
    ·rename_i h1
     injection h with h _
     have hu := up_ent (s := s) (id := id) (e := (upF s id).1) (by rw [← Classical.not_not.1 h1])
     rw [h]; exact one_ok hu.2 (gone_ent hu.1)
theorem ac_impl_present (s : SV) (id : Int) (st : St) (hR : RdS st s) (hb : bigS s.x) : C 216 [.agg #[vS s.p s.x.items.length,vS s.q s.x.floors.length],vI id] st (fun v s' => ∃ e c,v = .tuple #[.agg #[vI e.inc,vI e.rank,vI e.beat,vI e.ver,.string e.data],vI c] ∧ (e,c) = upF s.x id ∧ Pres st s') := by
 refine AC.enterX (i := ⟨[2,4,6],[2,4,6],[0,1,2,4,5,6,7,15,24],[]⟩) [] Tryz.func216 rfl rfl (by kernel_rfl) (by kernel_rfl) Tryz.ntmps216 (Lb rfl) rfl ?_
 iterate 2 refine ⟨_,rfl,?_⟩
 refine Cm 2 st [(1,vI id),Ml 2 0,Ml 4 1,(5,vI 0)] [(2,0,cSV s),(4,1,[vI 0,vI 0,vI 0,vI 0,.string ⟨#[]⟩])] fun _ _ => ?_
 refine ⟨_,Od rfl,?_⟩
 refine ⟨_,rfl,(ac_impl_StateOk s st hR (by first | assumption | omega)).mono ?_⟩
 rintro _ st ⟨x9,rfl,h9,rfl⟩
 rcases x9 with _|_
 ·replace h9 := fun k => Bool.false_ne_true (h9.2 k)
  iterate 2 refine ⟨_,rfl,?_⟩
  refine Cm 2 st [(1,vI id),Ml 2 0,Ml 4 1,(5,vI 0),(15,vB true)] [(2,0,cSV s),(4,1,[vI 0,vI 0,vI 0,vI 0,.string ⟨#[]⟩])] fun _ _ => ?_
  refine ⟨_,rfl,?_⟩
  refine ⟨_,Os rfl,?_⟩
  exact cxs (Rt ⟨zEnt,1,rfl,up_bad (fun k => h9 k.1),Pres.refl _⟩)
 ·replace h9 := h9.1 rfl
  refine ⟨_,rfl,?_⟩
  refine ⟨_,rfl,(ac_impl_isNode id st).mono ?_⟩
  rintro _ st ⟨x13,rfl,h13,rfl⟩
  rcases x13 with _|_
  ·replace h13 := of_decide_eq_false h13.symm
   iterate 2 refine ⟨_,rfl,?_⟩
   refine Cm 2 st [(1,vI id),Ml 2 0,Ml 4 1,(5,vI 0),(15,vB true)] [(2,0,cSV s),(4,1,[vI 0,vI 0,vI 0,vI 0,.string ⟨#[]⟩])] fun _ _ => ?_
   refine ⟨_,rfl,?_⟩
   refine ⟨_,Os rfl,?_⟩
   exact cxs (Rt ⟨zEnt,1,rfl,up_bad (fun k => h13 k.2),Pres.refl _⟩)
  ·replace h13 := of_decide_eq_true h13.symm
   iterate 2 refine ⟨_,rfl,?_⟩
   refine Cm 2 st [(1,vI id),Ml 2 0,Ml 4 1,(5,vI 0),(15,vB false)] [(2,0,cSV s),(4,1,[vI 0,vI 0,vI 0,vI 0,.string ⟨#[]⟩])] fun _ _ => ?_
   refine cxs ?_
   refine ⟨_,Od rfl,?_⟩
   refine ⟨_,rfl,(ac_impl_Lookup s id st hR (by first | assumption | omega)).mono ?_⟩
   rintro _ s20 ⟨e20,b20,rfl,h20,hP20⟩
   rcases b20 with _|_
   ·iterate 3 refine ⟨_,rfl,?_⟩
    refine ⟨_,Os rfl,?_⟩
    refine Cm 3 s20 [Ml 4 1,(5,vI 0),Ml 6 2,(7,vB false)] [(4,1,[vI 0,vI 0,vI 0,vI 0,.string ⟨#[]⟩]),(6,2,[vI e20.inc,vI e20.rank,vI e20.beat,vI e20.ver,.string e20.data])] fun _ _ => ?_
    refine ⟨_,rfl,?_⟩
    refine Cm 3 s20 [Ml 4 1,(5,vI 0),Ml 6 2,(24,vB true)] [(4,1,[vI 0,vI 0,vI 0,vI 0,.string ⟨#[]⟩]),(6,2,[vI e20.inc,vI e20.rank,vI e20.beat,vI e20.ver,.string e20.data])] fun _ _ => ?_
    refine ⟨_,rfl,?_⟩
    refine ⟨_,Os rfl,?_⟩
    exact cxs (Rt ⟨zEnt,3,rfl,up_no ⟨h9,h13⟩ h20,hP20⟩)
   ·iterate 3 refine ⟨_,rfl,?_⟩
    refine ⟨_,Os rfl,?_⟩
    refine Cm 3 s20 [Ml 4 1,(5,vI 0),Ml 6 2,(7,vB true)] [(4,1,[vI 0,vI 0,vI 0,vI 0,.string ⟨#[]⟩]),(6,2,[vI e20.inc,vI e20.rank,vI e20.beat,vI e20.ver,.string e20.data])] fun _ _ => ?_
    refine ⟨_,rfl,?_⟩
    refine Cm 3 s20 [Ml 4 1,(5,vI 0),Ml 6 2,(24,vB false)] [(4,1,[vI 0,vI 0,vI 0,vI 0,.string ⟨#[]⟩]),(6,2,[vI e20.inc,vI e20.rank,vI e20.beat,vI e20.ver,.string e20.data])] fun _ _ => ?_
    refine cxs ?_
    refine ⟨_,Od rfl,?_⟩
    refine ⟨_,Os rfl,?_⟩
    exact cxs (Rt ⟨e20,0,rfl,up_yes ⟨h9,h13⟩ h20,hP20⟩)
theorem ac_spec_l5Up (s : SV) (id : Int) (st : St) (hR : RdS st s) (hb : bigS s.x) : C 220 [.agg #[vS s.p s.x.items.length,vS s.q s.x.floors.length],vI id] st (fun v s' => ∃ e c,v = .tuple #[.agg #[vI e.inc,vI e.rank,vI e.beat,vI e.ver,.string e.data],vI c] ∧ (e,c) = upF s.x id ∧ Pres st s') := by
 refine AC.enterX (i := ⟨[2,4,6],[2,4,6],[0,1,2,4,5,6,7,15,24],[]⟩) [] Tryz.func220 rfl rfl (by kernel_rfl) (by kernel_rfl) Tryz.ntmps220 (Lb rfl) rfl ?_
 iterate 2 refine ⟨_,rfl,?_⟩
 refine Cm 2 st [(1,vI id),Ml 2 0,Ml 4 1,(5,vI 0)] [(2,0,cSV s),(4,1,[vI 0,vI 0,vI 0,vI 0,.string ⟨#[]⟩])] fun _ _ => ?_
 refine ⟨_,Od rfl,?_⟩
 refine ⟨_,rfl,(ac_spec_StateOk s st hR (by first | assumption | omega)).mono ?_⟩
 rintro _ st ⟨x9,rfl,h9,rfl⟩
 rcases x9 with _|_
 ·replace h9 := fun k => Bool.false_ne_true (h9.2 k)
  iterate 2 refine ⟨_,rfl,?_⟩
  refine Cm 2 st [(1,vI id),Ml 2 0,Ml 4 1,(5,vI 0),(15,vB true)] [(2,0,cSV s),(4,1,[vI 0,vI 0,vI 0,vI 0,.string ⟨#[]⟩])] fun _ _ => ?_
  refine ⟨_,rfl,?_⟩
  refine ⟨_,Os rfl,?_⟩
  exact cxs (Rt ⟨zEnt,1,rfl,up_bad (fun k => h9 k.1),Pres.refl _⟩)
 ·replace h9 := h9.1 rfl
  refine ⟨_,rfl,?_⟩
  refine ⟨_,rfl,(ac_spec_l3Node id st).mono ?_⟩
  rintro _ st ⟨x13,rfl,h13,rfl⟩
  rcases x13 with _|_
  ·replace h13 := of_decide_eq_false h13.symm
   iterate 2 refine ⟨_,rfl,?_⟩
   refine Cm 2 st [(1,vI id),Ml 2 0,Ml 4 1,(5,vI 0),(15,vB true)] [(2,0,cSV s),(4,1,[vI 0,vI 0,vI 0,vI 0,.string ⟨#[]⟩])] fun _ _ => ?_
   refine ⟨_,rfl,?_⟩
   refine ⟨_,Os rfl,?_⟩
   exact cxs (Rt ⟨zEnt,1,rfl,up_bad (fun k => h13 k.2),Pres.refl _⟩)
  ·replace h13 := of_decide_eq_true h13.symm
   iterate 2 refine ⟨_,rfl,?_⟩
   refine Cm 2 st [(1,vI id),Ml 2 0,Ml 4 1,(5,vI 0),(15,vB false)] [(2,0,cSV s),(4,1,[vI 0,vI 0,vI 0,vI 0,.string ⟨#[]⟩])] fun _ _ => ?_
   refine cxs ?_
   refine ⟨_,Od rfl,?_⟩
   refine ⟨_,rfl,(ac_spec_Lookup s id st hR (by first | assumption | omega)).mono ?_⟩
   rintro _ s20 ⟨e20,b20,rfl,h20,hP20⟩
   rcases b20 with _|_
   ·iterate 3 refine ⟨_,rfl,?_⟩
    refine ⟨_,Os rfl,?_⟩
    refine Cm 3 s20 [Ml 4 1,(5,vI 0),Ml 6 2,(7,vB false)] [(4,1,[vI 0,vI 0,vI 0,vI 0,.string ⟨#[]⟩]),(6,2,[vI e20.inc,vI e20.rank,vI e20.beat,vI e20.ver,.string e20.data])] fun _ _ => ?_
    refine ⟨_,rfl,?_⟩
    refine Cm 3 s20 [Ml 4 1,(5,vI 0),Ml 6 2,(24,vB true)] [(4,1,[vI 0,vI 0,vI 0,vI 0,.string ⟨#[]⟩]),(6,2,[vI e20.inc,vI e20.rank,vI e20.beat,vI e20.ver,.string e20.data])] fun _ _ => ?_
    refine ⟨_,rfl,?_⟩
    refine ⟨_,Os rfl,?_⟩
    exact cxs (Rt ⟨zEnt,3,rfl,up_no ⟨h9,h13⟩ h20,hP20⟩)
   ·iterate 3 refine ⟨_,rfl,?_⟩
    refine ⟨_,Os rfl,?_⟩
    refine Cm 3 s20 [Ml 4 1,(5,vI 0),Ml 6 2,(7,vB true)] [(4,1,[vI 0,vI 0,vI 0,vI 0,.string ⟨#[]⟩]),(6,2,[vI e20.inc,vI e20.rank,vI e20.beat,vI e20.ver,.string e20.data])] fun _ _ => ?_
    refine ⟨_,rfl,?_⟩
    refine Cm 3 s20 [Ml 4 1,(5,vI 0),Ml 6 2,(24,vB false)] [(4,1,[vI 0,vI 0,vI 0,vI 0,.string ⟨#[]⟩]),(6,2,[vI e20.inc,vI e20.rank,vI e20.beat,vI e20.ver,.string e20.data])] fun _ _ => ?_
    refine cxs ?_
    refine ⟨_,Od rfl,?_⟩
    refine ⟨_,Os rfl,?_⟩
    exact cxs (Rt ⟨e20,0,rfl,up_yes ⟨h9,h13⟩ h20,hP20⟩)
theorem ac_impl_saying (id : Int) (e : Ent) (st : St) : C 217 [vI id,.agg #[vI e.inc,vI e.rank,vI e.beat,vI e.ver,.string e.data]] st (fun v s => ∃ u : SV,v = .tuple #[.agg #[vS u.p u.x.items.length,vS u.q u.x.floors.length],vI 0] ∧ u.x = oneS id e ∧ OwnP s (pcS u) ∧ NewP st.next (pcS u) ∧ Pres st s) := by
 refine AC.enterX (i := ⟨[3,4],[3,4],[0,1,3,4,5],[]⟩) [] Tryz.func217 rfl rfl (by kernel_rfl) (by kernel_rfl) Tryz.ntmps217 (Lb rfl) rfl ?_
 iterate 2 refine ⟨_,rfl,?_⟩
 refine Cm 2 st [(0,vI id),Ml 3 0,Ml 4 1,(5,vI 0)] [(3,0,[vI e.inc,vI e.rank,vI e.beat,vI e.ver,.string e.data]),(4,1,[Sn,Sn])] fun _ _ => ?_
 refine ⟨_,Od rfl,?_⟩
 refine ⟨_,rfl,?_⟩
 refine op_one (z := 6) (a := (⟨id,e⟩ : Itm)) (f := cItm) rfl rfl rfl rfl rfl (by decide) rfl (Lb rfl) rfl rfl rfl ?_
 refine ⟨_,rfl,?_⟩
 refine ⟨_,Os rfl,?_⟩
 refine cxs ?_
 have hO : OwnR (st.push 6 ([(⟨id,e⟩ : Itm)].flatMap cItm)) 6 cItm (some ⟨st.next,0,none⟩) [(⟨id,e⟩ : Itm)] := OwnR.push
 exact ⟨.inl rfl,_,rfl,⟨some ⟨st.next,0,none⟩,none,oneS id e⟩,rfl,rfl,⟨fun d hd => by
  rcases List.mem_cons.1 hd with rfl | hd
  ·exact own_pc hO
  ·rw [List.mem_singleton.1 hd]; exact .inl ⟨rfl,rfl⟩,List.pairwise_pair.2 (Dis.symm Dis.none)⟩,NewP.cons (by intro r hr; injection hr with hr; rw [← hr]; exact Nat.le_refl _) (NewP.cons New.none NewP.nil),Pres.push⟩
theorem ac_spec_l5One (id : Int) (e : Ent) (st : St) (hk : stateOk (oneS id e)) : C 219 [vI id,.agg #[vI e.inc,vI e.rank,vI e.beat,vI e.ver,.string e.data]] st (fun v s => ∃ u : SV,v = .tuple #[.agg #[vS u.p u.x.items.length,vS u.q u.x.floors.length],vI 0] ∧ u.x = oneS id e ∧ OwnP s (pcS u) ∧ NewP st.next (pcS u) ∧ Pres st s) := by
 have hz : e.data.size ≤ 1048576 := Nat.le_trans (hk.1 0 ⟨id,e⟩ rfl).2.1.2.2.2.2 (by decide)
 refine AC.enterX (i := ⟨[3,4,6],[3,4,6],[0,1,3,4,5,6],[]⟩) [] Tryz.func219 rfl rfl (by kernel_rfl) (by kernel_rfl) Tryz.ntmps219 (Lb rfl) rfl ?_
 iterate 2 refine ⟨_,rfl,?_⟩
 refine Cm 2 st [(0,vI id),Ml 3 0,Ml 4 1,(5,vI 0)] [(3,0,[vI e.inc,vI e.rank,vI e.beat,vI e.ver,.string e.data]),(4,1,[Sn,Sn])] fun _ _ => ?_
 refine ⟨_,Od rfl,?_⟩
 refine ⟨_,rfl,(ac_spec_Single id e st (by first | assumption | omega)).mono ?_⟩
 rintro _ s11 ⟨u11,b11,rfl,h11,hO11,hN11,hP11⟩
 iterate 3 refine ⟨_,rfl,?_⟩
 refine ⟨_,Os rfl,?_⟩
 refine Cm 3 s11 [Ml 4 1,(5,vI 0),Ml 6 2] [(4,1,[Sn,Sn]),(6,2,cSV u11)] fun _ _ => ?_
 refine ⟨_,Od rfl,?_⟩
 refine ⟨_,Os rfl,?_⟩
 exact cxs (Rt ⟨u11,rfl,by have := h11; unfold singF at this; rw [if_pos (show stateOk ⟨[⟨id,e⟩],[]⟩ from hk)] at this; injection this,hO11,hN11,hP11⟩)
theorem joinS_bad {s : Sta} {id c : Int} {e : Ent} (h : (e,c) = upF s id) (hc : c = 1) : (nilS,1) = joinS s id := by
 unfold joinS; rw [← h,if_pos hc]
theorem joinS_there {s : Sta} {id c : Int} {e : Ent} (h : (e,c) = upF s id) (hc : c = 0) : (nilS,2) = joinS s id := by
 unfold joinS; rw [← h,if_neg (by show ¬ c = 1; omega),if_pos hc]
theorem joinS_most {s : Sta} {id c i : Int} {e : Ent} (h : (e,c) = upF s id) (h1 : ¬ c = 1) (h0 : ¬ c = 0) (hi : i = incF s id) (hm : i = 1000) : (nilS,4) = joinS s id := by
 unfold joinS; rw [← h,if_neg h1,if_neg h0,if_pos (by omega)]
theorem joinS_yes {s u : Sta} {id c i : Int} {e : Ent} (h : (e,c) = upF s id) (h1 : ¬ c = 1) (h0 : ¬ c = 0) (hi : i = incF s id) (hm : ¬ i = 1000) (hu : u = oneS id (sJoin i)) : (u,0) = joinS s id := by
 unfold joinS; rw [← h,if_neg h1,if_neg h0,if_neg (by omega),hu,hi]
theorem up_not {s : Sta} {id c : Int} {e : Ent} (h : (e,c) = upF s id) (h1 : ¬ c = 1) : stateOk s ∧ idOk id := by
 rcases up_cases h with k | k
 ·exact absurd k.1 h1
 ·exact k.1
theorem beatS_no {s : Sta} {id c : Int} {e : Ent} (h : (e,c) = upF s id) (hc : ¬ c = 0) : (nilS,c) = beatS s id := by
 unfold beatS; rw [← h,if_pos hc]
theorem beatS_most {s : Sta} {id c : Int} {e : Ent} (h : (e,c) = upF s id) (hc : c = 0) (hm : e.beat = 100000) : (nilS,4) = beatS s id := by
 unfold beatS; rw [← h,if_neg (fun k => k hc),if_pos hm]
theorem beatS_yes {s u : Sta} {id c : Int} {e : Ent} (h : (e,c) = upF s id) (hc : c = 0) (hm : ¬ e.beat = 100000) (hu : u = oneS id (sBeat e)) : (u,0) = beatS s id := by
 unfold beatS; rw [← h,if_neg (fun k => k hc),if_neg hm,hu]
theorem setS_no {s : Sta} {id c : Int} {e : Ent} {d : ByteArray} (h : (e,c) = upF s id) (hc : ¬ c = 0) : (nilS,c) = setS s id d := by
 unfold setS; rw [← h,if_pos hc]
theorem setS_most {s : Sta} {id c : Int} {e : Ent} {d : ByteArray} (h : (e,c) = upF s id) (hc : c = 0) (hm : e.ver = 1000 ∨ d.size > 8) : (nilS,4) = setS s id d := by
 unfold setS; rw [← h,if_neg (fun k => k hc),if_pos hm]
theorem setS_yes {s u : Sta} {id c : Int} {e : Ent} {d : ByteArray} (h : (e,c) = upF s id) (hc : c = 0) (hm : ¬ (e.ver = 1000 ∨ d.size > 8)) (hu : u = oneS id (sSet e d)) : (u,0) = setS s id d := by
 unfold setS; rw [← h,if_neg (fun k => k hc),if_neg hm,hu]
theorem goneS_no {s : Sta} {id c : Int} {e : Ent} (h : (e,c) = upF s id) (hc : ¬ c = 0) : (nilS,c) = goneS s id := by
 unfold goneS; rw [← h,if_pos hc]
theorem goneS_yes {s u : Sta} {id c : Int} {e : Ent} (h : (e,c) = upF s id) (hc : c = 0) (hu : u = oneS id (sGone e)) : (u,0) = goneS s id := by
 unfold goneS; rw [← h,if_neg (fun k => k hc),hu]
theorem ac_impl_SayJoin (s : SV) (id : Int) (st : St) (hR : RdS st s) (hb : bigS s.x) : C 169 [.agg #[vS s.p s.x.items.length,vS s.q s.x.floors.length],vI id] st (fun v s' => ∃ (u : SV) (c : Int),v = .tuple #[.agg #[vS u.p u.x.items.length,vS u.q u.x.floors.length],vI c] ∧ (u.x,c) = joinS s.x id ∧ OwnP s' (pcS u) ∧ NewP st.next (pcS u) ∧ Pres st s') := by
 refine AC.enterX (i := ⟨[2,4,6,9],[2,4,6,9,34],[0,1,2,4,5,7,8,9,10,17,18,21,33,37],[]⟩) [] Tryz.func169 rfl rfl (by kernel_rfl) (by kernel_rfl) Tryz.ntmps169 (Lb rfl) rfl ?_
 iterate 2 refine ⟨_,rfl,?_⟩
 refine Cm 2 st [(1,vI id),Ml 2 0,Ml 4 1,(5,vI 0)] [(2,0,cSV s),(4,1,[Sn,Sn])] fun _ _ => ?_
 refine ⟨_,Od rfl,?_⟩
 refine ⟨_,rfl,(ac_impl_present s id st hR (by first | assumption | omega)).mono ?_⟩
 rintro _ s14 ⟨e14,c14,rfl,h14,hP14⟩
 iterate 3 refine ⟨_,rfl,?_⟩
 refine ⟨_,Os rfl,?_⟩
 refine cxs ?_
 refine Cm 3 s14 [(1,vI id),Ml 2 0,Ml 4 1,(5,vI 0),(17,vI c14)] [(2,0,cSV s),(4,1,[Sn,Sn])] fun _ _ => ?_
 refine ⟨_,rfl,?_⟩
 rintro (_|_) h19
 ·replace h19 : ¬ (c14 = (1)) := beq_eq_false_iff_ne.1 h19
  refine Cm 3 s14 [(1,vI id),Ml 2 0,Ml 4 1,(5,vI 0),(17,vI c14),(18,vB false)] [(2,0,cSV s),(4,1,[Sn,Sn])] fun _ _ => ?_
  refine ⟨_,rfl,?_⟩
  rintro (_|_) h22
  ·replace h22 : ¬ (c14 = (0)) := beq_eq_false_iff_ne.1 h22
   refine Cm 3 s14 [(1,vI id),Ml 2 0,Ml 4 1,(5,vI 0),(21,vB false)] [(2,0,cSV s),(4,1,[Sn,Sn])] fun _ _ => ?_
   refine cxs ?_
   refine ⟨_,Od rfl,?_⟩
   refine ⟨_,rfl,(ac_impl_FloorOf s id s14 (hR.pres hP14) (by first | assumption | omega)).mono ?_⟩
   rintro _ s14 ⟨rfl,rfl⟩
   refine Cm 3 s14 [(1,vI id),Ml 2 0,Ml 4 1,(5,vI 0),(8,vI (floorOf s.x.floors id))] [(2,0,cSV s),(4,1,[Sn,Sn])] fun _ _ => ?_
   have hk := up_not h14 h19
   refine ⟨_,Od rfl,?_⟩
   refine ⟨_,rfl,(ac_impl_EntryOf s id s14 (hR.pres hP14) (by first | assumption | omega)).mono ?_⟩
   rintro _ s14 ⟨e30,b30,rfl,h30,rfl⟩
   rcases b30 with _|_
   ·iterate 3 refine ⟨_,rfl,?_⟩
    refine ⟨_,Os rfl,?_⟩
    refine cxs ?_
    refine Cm 4 s14 [(1,vI id),Ml 4 1,(5,vI 0),(8,vI (floorOf s.x.floors id)),Ml 9 3,(33,vB false)] [(4,1,[Sn,Sn]),(9,3,[vI e30.inc,vI e30.rank,vI e30.beat,vI e30.ver,.string e30.data])] fun _ _ => ?_
    refine cxs ?_
    refine ⟨_,rfl,?_⟩
    rintro (_|_) h37
    ·replace h37 : ¬ ((floorOf s.x.floors id) = (1000)) := beq_eq_false_iff_ne.1 h37
     refine Cm 4 s14 [(1,vI id),Ml 4 1,(5,vI 0),(8,vI (floorOf s.x.floors id)),(37,vB false)] [(4,1,[Sn,Sn])] fun _ _ => ?_
     refine cxs ?_
     have hi := floorOf_pos hk.1.2 id
     have e41 : IntKind.wrap .i64 ((floorOf s.x.floors id) + 1) = (floorOf s.x.floors id) + 1 := wrap_i64 (by omega) (by omega)
     iterate 2 refine ⟨_,rfl,?_⟩
     refine ⟨_,rfl,(ac_impl_saying id (⟨IntKind.wrap .i64 ((floorOf s.x.floors id) + 1),0,0,0,⟨#[]⟩⟩ : Ent) s14).mono ?_⟩
     rintro _ s43 ⟨u43,rfl,h43,hO43,hN43,hP43⟩
     iterate 2 refine ⟨_,rfl,?_⟩
     refine ⟨_,Os rfl,?_⟩
     exact cxs (Rt ⟨u43,0,rfl,joinS_yes h14 h19 h22 (inc_out h30).symm h37 (h43.trans (by rw [e41]; rfl)),hO43,hN43.le hP14.1,hP14.trans hP43⟩)
    ·replace h37 : (floorOf s.x.floors id) = (1000) := beq_iff_eq.1 h37
     refine Cm 4 s14 [(1,vI id),Ml 4 1,(5,vI 0),(8,vI (floorOf s.x.floors id)),(37,vB true)] [(4,1,[Sn,Sn])] fun _ _ => ?_
     refine ⟨_,rfl,?_⟩
     refine ⟨_,Os rfl,?_⟩
     exact cxs (Rt ⟨⟨none,none,nilS⟩,4,rfl,joinS_most h14 h19 h22 (inc_out h30).symm h37,pcS_nil,newS_nil,hP14⟩)
   ·iterate 3 refine ⟨_,rfl,?_⟩
    refine ⟨_,Os rfl,?_⟩
    refine cxs ?_
    refine Cm 4 s14 [(1,vI id),Ml 4 1,(5,vI 0),(8,vI (floorOf s.x.floors id)),Ml 9 3,(33,vB true)] [(4,1,[Sn,Sn]),(9,3,[vI e30.inc,vI e30.rank,vI e30.beat,vI e30.ver,.string e30.data])] fun _ _ => ?_
    refine ⟨_,rfl,?_⟩
    refine ⟨_,Od rfl,?_⟩
    refine Cm 4 s14 [(1,vI id),Ml 4 1,(5,vI 0),(8,vI e30.inc)] [(4,1,[Sn,Sn])] fun _ _ => ?_
    refine ⟨_,rfl,?_⟩
    rintro (_|_) h37
    ·replace h37 : ¬ (e30.inc = (1000)) := beq_eq_false_iff_ne.1 h37
     refine Cm 4 s14 [(1,vI id),Ml 4 1,(5,vI 0),(8,vI e30.inc),(37,vB false)] [(4,1,[Sn,Sn])] fun _ _ => ?_
     refine cxs ?_
     have hi := (ent_ok hk.1 h30).1
     have e41 : IntKind.wrap .i64 (e30.inc + 1) = e30.inc + 1 := wrap_i64 (by omega) (by omega)
     iterate 2 refine ⟨_,rfl,?_⟩
     refine ⟨_,rfl,(ac_impl_saying id (⟨IntKind.wrap .i64 (e30.inc + 1),0,0,0,⟨#[]⟩⟩ : Ent) s14).mono ?_⟩
     rintro _ s43 ⟨u43,rfl,h43,hO43,hN43,hP43⟩
     iterate 2 refine ⟨_,rfl,?_⟩
     refine ⟨_,Os rfl,?_⟩
     exact cxs (Rt ⟨u43,0,rfl,joinS_yes h14 h19 h22 (inc_in h30).symm h37 (h43.trans (by rw [e41]; rfl)),hO43,hN43.le hP14.1,hP14.trans hP43⟩)
    ·replace h37 : e30.inc = (1000) := beq_iff_eq.1 h37
     refine Cm 4 s14 [(1,vI id),Ml 4 1,(5,vI 0),(8,vI e30.inc),(37,vB true)] [(4,1,[Sn,Sn])] fun _ _ => ?_
     refine ⟨_,rfl,?_⟩
     refine ⟨_,Os rfl,?_⟩
     exact cxs (Rt ⟨⟨none,none,nilS⟩,4,rfl,joinS_most h14 h19 h22 (inc_in h30).symm h37,pcS_nil,newS_nil,hP14⟩)
  ·replace h22 : c14 = (0) := beq_iff_eq.1 h22
   refine Cm 3 s14 [(1,vI id),Ml 2 0,Ml 4 1,(5,vI 0),(21,vB true)] [(2,0,cSV s),(4,1,[Sn,Sn])] fun _ _ => ?_
   refine ⟨_,rfl,?_⟩
   refine ⟨_,Os rfl,?_⟩
   exact cxs (Rt ⟨⟨none,none,nilS⟩,2,rfl,joinS_there h14 h22,pcS_nil,newS_nil,hP14⟩)
 ·replace h19 : c14 = (1) := beq_iff_eq.1 h19
  refine Cm 3 s14 [(1,vI id),Ml 2 0,Ml 4 1,(5,vI 0),(17,vI c14),(18,vB true)] [(2,0,cSV s),(4,1,[Sn,Sn])] fun _ _ => ?_
  refine ⟨_,rfl,?_⟩
  refine ⟨_,Os rfl,?_⟩
  exact cxs (Rt ⟨⟨none,none,nilS⟩,1,rfl,joinS_bad h14 h19,pcS_nil,newS_nil,hP14⟩)
theorem ac_spec_SayJoin (s : SV) (id : Int) (st : St) (hR : RdS st s) (hb : bigS s.x) : C 173 [.agg #[vS s.p s.x.items.length,vS s.q s.x.floors.length],vI id] st (fun v s' => ∃ (u : SV) (c : Int),v = .tuple #[.agg #[vS u.p u.x.items.length,vS u.q u.x.floors.length],vI c] ∧ (u.x,c) = joinS s.x id ∧ OwnP s' (pcS u) ∧ NewP st.next (pcS u) ∧ Pres st s') := by
 refine AC.enterX (i := ⟨[2,4,6,8],[2,4,6,8,34],[0,1,2,4,5,7,8,10,18,26,41],[]⟩) [(7,[4],[1])] Tryz.func173 rfl rfl (by kernel_rfl) (by kernel_rfl) Tryz.ntmps173 (Lb rfl) rfl ?_
 iterate 2 refine ⟨_,rfl,?_⟩
 refine Cm 2 st [(1,vI id),Ml 2 0,Ml 4 1,(5,vI 0)] [(2,0,cSV s),(4,1,[Sn,Sn])] fun _ _ => ?_
 refine ⟨_,Od rfl,?_⟩
 refine ⟨_,rfl,(ac_spec_StateOk s st hR (by first | assumption | omega)).mono ?_⟩
 rintro _ st ⟨x12,rfl,h12,rfl⟩
 rcases x12 with _|_
 ·replace h12 := fun k => Bool.false_ne_true (h12.2 k)
  iterate 2 refine ⟨_,rfl,?_⟩
  refine Cm 2 st [(1,vI id),Ml 2 0,Ml 4 1,(5,vI 0),(18,vB true)] [(2,0,cSV s),(4,1,[Sn,Sn])] fun _ _ => ?_
  refine ⟨_,rfl,?_⟩
  refine ⟨_,Os rfl,?_⟩
  exact cxs (Rt ⟨⟨none,none,nilS⟩,1,rfl,joinS_bad (up_bad fun k => h12 k.1) rfl,pcS_nil,newS_nil,Pres.refl _⟩)
 ·replace h12 := h12.1 rfl
  refine ⟨_,rfl,?_⟩
  refine ⟨_,rfl,(ac_spec_l3Node id st).mono ?_⟩
  rintro _ st ⟨x16,rfl,h16,rfl⟩
  rcases x16 with _|_
  ·replace h16 := of_decide_eq_false h16.symm
   iterate 2 refine ⟨_,rfl,?_⟩
   refine Cm 2 st [(1,vI id),Ml 2 0,Ml 4 1,(5,vI 0),(18,vB true)] [(2,0,cSV s),(4,1,[Sn,Sn])] fun _ _ => ?_
   refine ⟨_,rfl,?_⟩
   refine ⟨_,Os rfl,?_⟩
   exact cxs (Rt ⟨⟨none,none,nilS⟩,1,rfl,joinS_bad (up_bad fun k => h16 k.2) rfl,pcS_nil,newS_nil,Pres.refl _⟩)
  ·replace h16 := of_decide_eq_true h16.symm
   iterate 2 refine ⟨_,rfl,?_⟩
   refine Cm 2 st [(1,vI id),Ml 2 0,Ml 4 1,(5,vI 0),(18,vB false)] [(2,0,cSV s),(4,1,[Sn,Sn])] fun _ _ => ?_
   refine cxs ?_
   refine ⟨_,Od rfl,?_⟩
   refine ⟨_,rfl,(ac_spec_Lookup s id st hR (by first | assumption | omega)).mono ?_⟩
   rintro _ s23 ⟨e23,b23,rfl,h23,hP23⟩
   rcases b23 with _|_
   ·iterate 3 refine ⟨_,rfl,?_⟩
    refine ⟨_,Os rfl,?_⟩
    refine cxs ?_
    refine Cm 3 s23 [(1,vI id),Ml 2 0,Ml 4 1,(5,vI 0),(26,vB false)] [(2,0,cSV s),(4,1,[Sn,Sn])] fun _ _ => ?_
    refine cxs ?_
    refine ⟨_,Od rfl,?_⟩
    refine ⟨_,rfl,(ac_spec_EntryOf s id s23 (hR.pres hP23) (by first | assumption | omega)).mono ?_⟩
    rintro _ s23 ⟨e31,b31,rfl,h31,rfl⟩
    iterate 3 refine ⟨_,rfl,?_⟩
    refine ⟨_,Os rfl,?_⟩
    refine Cm 4 s23 [(1,vI id),Ml 2 0,Ml 4 1,(5,vI 0),Ml 8 3] [(2,0,cSV s),(4,1,[Sn,Sn]),(8,3,[vI e31.inc,vI e31.rank,vI e31.beat,vI e31.ver,.string e31.data])] fun _ _ => ?_
    have hu := up_no ⟨h12,h16⟩ h23
    refine ⟨_,rfl,?_⟩
    refine ⟨_,Od rfl,?_⟩
    refine ⟨ld_own rfl rfl rfl,?_⟩
    refine ⟨_,Od rfl,?_⟩
    refine ⟨_,rfl,(ac_spec_FloorOf s id s23 (hR.pres hP23) (by first | assumption | omega)).mono ?_⟩
    rintro _ s23 ⟨rfl,rfl⟩
    refine ⟨fun _ _ => rfl,?_⟩
    refine ⟨_,rfl,(ac_spec_l1Max e31.inc (floorOf s.x.floors id) s23).mono ?_⟩
    rintro _ s23 ⟨rfl,rfl⟩
    refine Cm 4 s23 [(1,vI id),Ml 4 1,(5,vI 0),(10,vI (max e31.inc (floorOf s.x.floors id)))] [(4,1,[Sn,Sn])] fun _ _ => ?_
    refine ⟨_,rfl,?_⟩
    rintro (_|_) h41
    ·replace h41 : ¬ ((max e31.inc (floorOf s.x.floors id)) = (1000)) := beq_eq_false_iff_ne.1 h41
     refine Cm 4 s23 [(1,vI id),Ml 4 1,(5,vI 0),(10,vI (max e31.inc (floorOf s.x.floors id))),(41,vB false)] [(4,1,[Sn,Sn])] fun _ _ => ?_
     refine cxs ?_
     have hi := inc_rng (id := id) h12
     have hm := inc_max h12 h31
     rw [hm] at h41
     have e45 : IntKind.wrap .i64 ((max e31.inc (floorOf s.x.floors id)) + 1) = (max e31.inc (floorOf s.x.floors id)) + 1 := wrap_i64 (by omega) (by omega)
     iterate 2 refine ⟨_,rfl,?_⟩
     refine ⟨_,rfl,(ac_spec_l5One id (⟨IntKind.wrap .i64 (max e31.inc (floorOf s.x.floors id) + 1),0,0,0,⟨#[]⟩⟩ : Ent) s23 (by rw [e45,hm]; exact one_ok h16 (join_ent hi h41))).mono ?_⟩
     rintro _ s47 ⟨u47,rfl,h47,hO47,hN47,hP47⟩
     iterate 2 refine ⟨_,rfl,?_⟩
     refine ⟨_,Os rfl,?_⟩
     exact cxs (Rt ⟨u47,0,rfl,joinS_yes hu (by decide) (by decide) rfl h41 (h47.trans (by rw [e45,hm]; rfl)),hO47,hN47.le hP23.1,hP23.trans hP47⟩)
    ·replace h41 : (max e31.inc (floorOf s.x.floors id)) = (1000) := beq_iff_eq.1 h41
     refine Cm 4 s23 [(1,vI id),Ml 4 1,(5,vI 0),(10,vI (max e31.inc (floorOf s.x.floors id))),(41,vB true)] [(4,1,[Sn,Sn])] fun _ _ => ?_
     refine ⟨_,rfl,?_⟩
     refine ⟨_,Os rfl,?_⟩
     exact cxs (Rt ⟨⟨none,none,nilS⟩,4,rfl,joinS_most hu (by decide) (by decide) (inc_max h12 h31) h41,pcS_nil,newS_nil,hP23⟩)
   ·iterate 3 refine ⟨_,rfl,?_⟩
    refine ⟨_,Os rfl,?_⟩
    refine cxs ?_
    refine Cm 3 s23 [(1,vI id),Ml 2 0,Ml 4 1,(5,vI 0),(26,vB true)] [(2,0,cSV s),(4,1,[Sn,Sn])] fun _ _ => ?_
    refine ⟨_,rfl,?_⟩
    refine ⟨_,Os rfl,?_⟩
    exact cxs (Rt ⟨⟨none,none,nilS⟩,2,rfl,joinS_there (up_yes ⟨h12,h16⟩ h23) rfl,pcS_nil,newS_nil,hP23⟩)
theorem ac_impl_SayBeat (s : SV) (id : Int) (st : St) (hR : RdS st s) (hb : bigS s.x) : C 170 [.agg #[vS s.p s.x.items.length,vS s.q s.x.floors.length],vI id] st (fun v s' => ∃ (u : SV) (c : Int),v = .tuple #[.agg #[vS u.p u.x.items.length,vS u.q u.x.floors.length],vI c] ∧ (u.x,c) = beatS s.x id ∧ OwnP s' (pcS u) ∧ NewP st.next (pcS u) ∧ Pres st s') := by
 refine AC.enterX (i := ⟨[2,4,6],[2,4,6,20,24,27],[0,1,2,4,5,6,7,14,19],[]⟩) [] Tryz.func170 rfl rfl (by kernel_rfl) (by kernel_rfl) Tryz.ntmps170 (Lb rfl) rfl ?_
 iterate 2 refine ⟨_,rfl,?_⟩
 refine Cm 2 st [(1,vI id),Ml 2 0,Ml 4 1,(5,vI 0)] [(2,0,cSV s),(4,1,[Sn,Sn])] fun _ _ => ?_
 refine ⟨_,Od rfl,?_⟩
 refine ⟨_,rfl,(ac_impl_present s id st hR (by first | assumption | omega)).mono ?_⟩
 rintro _ s11 ⟨e11,c11,rfl,h11,hP11⟩
 iterate 3 refine ⟨_,rfl,?_⟩
 refine ⟨_,Os rfl,?_⟩
 refine Cm 3 s11 [(1,vI id),Ml 4 1,(5,vI 0),Ml 6 2,(7,vI c11)] [(4,1,[Sn,Sn]),(6,2,[vI e11.inc,vI e11.rank,vI e11.beat,vI e11.ver,.string e11.data])] fun _ _ => ?_
 refine ⟨_,rfl,?_⟩
 rintro (_|_) h16
 ·replace h16 : c11 = (0) := bne_eq_false_iff_eq.1 h16
  refine Cm 3 s11 [(1,vI id),Ml 4 1,(5,vI 0),Ml 6 2,(7,vI c11),(14,vB false)] [(4,1,[Sn,Sn]),(6,2,[vI e11.inc,vI e11.rank,vI e11.beat,vI e11.ver,.string e11.data])] fun _ _ => ?_
  refine ⟨_,rfl,?_⟩
  refine ⟨_,Od rfl,?_⟩
  refine ⟨_,rfl,?_⟩
  rintro (_|_) h22
  ·replace h22 : ¬ (e11.beat = (100000)) := beq_eq_false_iff_ne.1 h22
   refine Cm 3 s11 [(1,vI id),Ml 4 1,(5,vI 0),Ml 6 2,(19,vB false)] [(4,1,[Sn,Sn]),(6,2,[vI e11.inc,vI e11.rank,vI e11.beat,vI e11.ver,.string e11.data])] fun _ _ => ?_
   refine cxs ?_
   refine ⟨_,rfl,?_⟩
   refine ⟨_,Od rfl,?_⟩
   have hu := up_ent (show (e11,0) = upF s.x id by rw [← h11,h16])
   have hu1 := hu.1.2.2.1
   have ew26 : IntKind.wrap .i64 (e11.beat + (1)) = e11.beat + (1) := wrap_i64 (by omega) (by omega)
   iterate 2 refine ⟨_,rfl,?_⟩
   refine ⟨_,Os rfl,?_⟩
   refine AW.cutM (3) s11 [(1,vI id),Ml 4 1,(5,vI 0),Ml 6 2] [(4,1,[Sn,Sn]),(6,2,[vI e11.inc,vI e11.rank,vI (e11.beat + (1)),vI e11.ver,.string e11.data])] ⟨rfl,rfl,rfl,rfl,trivial⟩ ⟨rfl,(show some (2,[vI e11.inc,vI e11.rank,vI (IntKind.wrap .i64 (e11.beat + (1))),vI e11.ver,.string e11.data]) = some (2,[vI e11.inc,vI e11.rank,vI (e11.beat + (1)),vI e11.ver,.string e11.data]) by rw [ew26]),trivial⟩ rfl fun _ _ => ?_
   refine ⟨_,Od rfl,?_⟩
   refine ⟨_,rfl,(ac_impl_saying id (sBeat e11) s11).mono ?_⟩
   rintro _ s30 ⟨u30,rfl,h30,hO30,hN30,hP30⟩
   iterate 2 refine ⟨_,rfl,?_⟩
   refine ⟨_,Os rfl,?_⟩
   exact cxs (Rt ⟨u30,0,rfl,beatS_yes h11 h16 h22 h30,hO30,hN30.le hP11.1,hP11.trans hP30⟩)
  ·replace h22 : e11.beat = (100000) := beq_iff_eq.1 h22
   refine Cm 3 s11 [(1,vI id),Ml 4 1,(5,vI 0),Ml 6 2,(19,vB true)] [(4,1,[Sn,Sn]),(6,2,[vI e11.inc,vI e11.rank,vI e11.beat,vI e11.ver,.string e11.data])] fun _ _ => ?_
   refine ⟨_,rfl,?_⟩
   refine ⟨_,Os rfl,?_⟩
   exact cxs (Rt ⟨⟨none,none,nilS⟩,4,rfl,beatS_most h11 h16 h22,pcS_nil,newS_nil,hP11⟩)
 ·replace h16 : ¬ (c11 = (0)) := bne_iff_ne.1 h16
  refine Cm 3 s11 [(1,vI id),Ml 4 1,(5,vI 0),Ml 6 2,(7,vI c11),(14,vB true)] [(4,1,[Sn,Sn]),(6,2,[vI e11.inc,vI e11.rank,vI e11.beat,vI e11.ver,.string e11.data])] fun _ _ => ?_
  refine ⟨_,rfl,?_⟩
  refine ⟨_,Os rfl,?_⟩
  exact cxs (Rt ⟨⟨none,none,nilS⟩,c11,rfl,beatS_no h11 h16,pcS_nil,newS_nil,hP11⟩)
theorem ac_impl_SayGone (s : SV) (id : Int) (st : St) (hR : RdS st s) (hb : bigS s.x) : C 172 [.agg #[vS s.p s.x.items.length,vS s.q s.x.floors.length],vI id] st (fun v s' => ∃ (u : SV) (c : Int),v = .tuple #[.agg #[vS u.p u.x.items.length,vS u.q u.x.floors.length],vI c] ∧ (u.x,c) = goneS s.x id ∧ OwnP s' (pcS u) ∧ NewP st.next (pcS u) ∧ Pres st s') := by
 refine AC.enterX (i := ⟨[2,4,6],[2,4,6,18],[0,1,2,4,5,6,7,15],[]⟩) [] Tryz.func172 rfl rfl (by kernel_rfl) (by kernel_rfl) Tryz.ntmps172 (Lb rfl) rfl ?_
 iterate 2 refine ⟨_,rfl,?_⟩
 refine Cm 2 st [(1,vI id),Ml 2 0,Ml 4 1,(5,vI 0)] [(2,0,cSV s),(4,1,[Sn,Sn])] fun _ _ => ?_
 refine ⟨_,Od rfl,?_⟩
 refine ⟨_,rfl,(ac_impl_present s id st hR (by first | assumption | omega)).mono ?_⟩
 rintro _ s11 ⟨e11,c11,rfl,h11,hP11⟩
 iterate 3 refine ⟨_,rfl,?_⟩
 refine ⟨_,Os rfl,?_⟩
 refine Cm 3 s11 [(1,vI id),Ml 4 1,(5,vI 0),Ml 6 2,(7,vI c11)] [(4,1,[Sn,Sn]),(6,2,[vI e11.inc,vI e11.rank,vI e11.beat,vI e11.ver,.string e11.data])] fun _ _ => ?_
 refine ⟨_,rfl,?_⟩
 rintro (_|_) h15
 ·replace h15 : c11 = (0) := bne_eq_false_iff_eq.1 h15
  refine Cm 3 s11 [(1,vI id),Ml 4 1,(5,vI 0),Ml 6 2,(7,vI c11),(15,vB false)] [(4,1,[Sn,Sn]),(6,2,[vI e11.inc,vI e11.rank,vI e11.beat,vI e11.ver,.string e11.data])] fun _ _ => ?_
  refine cxs ?_
  refine ⟨_,rfl,?_⟩
  refine ⟨_,Os rfl,?_⟩
  refine Cm 3 s11 [(1,vI id),Ml 4 1,(5,vI 0),Ml 6 2] [(4,1,[Sn,Sn]),(6,2,[vI e11.inc,vI 1,vI e11.beat,vI e11.ver,.string e11.data])] fun _ _ => ?_
  have hu := up_ent (show (e11,0) = upF s.x id by rw [← h11,h15])
  refine ⟨_,Od rfl,?_⟩
  refine ⟨_,rfl,(ac_impl_saying id (sGone e11) s11).mono ?_⟩
  rintro _ s21 ⟨u21,rfl,h21,hO21,hN21,hP21⟩
  iterate 2 refine ⟨_,rfl,?_⟩
  refine ⟨_,Os rfl,?_⟩
  exact cxs (Rt ⟨u21,0,rfl,goneS_yes h11 h15 h21,hO21,hN21.le hP11.1,hP11.trans hP21⟩)
 ·replace h15 : ¬ (c11 = (0)) := bne_iff_ne.1 h15
  refine Cm 3 s11 [(1,vI id),Ml 4 1,(5,vI 0),Ml 6 2,(7,vI c11),(15,vB true)] [(4,1,[Sn,Sn]),(6,2,[vI e11.inc,vI e11.rank,vI e11.beat,vI e11.ver,.string e11.data])] fun _ _ => ?_
  refine ⟨_,rfl,?_⟩
  refine ⟨_,Os rfl,?_⟩
  exact cxs (Rt ⟨⟨none,none,nilS⟩,c11,rfl,goneS_no h11 h15,pcS_nil,newS_nil,hP11⟩)
theorem ac_impl_SaySet (s : SV) (id : Int) (d : ByteArray) (st : St) (hR : RdS st s) (hb : bigS s.x) : C 171 [.agg #[vS s.p s.x.items.length,vS s.q s.x.floors.length],vI id,.string d] st (fun v s' => ∃ (u : SV) (c : Int),v = .tuple #[.agg #[vS u.p u.x.items.length,vS u.q u.x.floors.length],vI c] ∧ (u.x,c) = setS s.x id d ∧ OwnP s' (pcS u) ∧ NewP st.next (pcS u) ∧ Pres st s') := by
 refine AC.enterX (i := ⟨[3,6,8],[3,6,8,22,31,34,36],[0,1,2,3,6,7,8,9,16,21],[]⟩) [] Tryz.func171 rfl rfl (by kernel_rfl) (by kernel_rfl) Tryz.ntmps171 (Lb rfl) rfl ?_
 iterate 2 refine ⟨_,rfl,?_⟩
 refine Cm 2 st [(1,vI id),(2,.string d),Ml 3 0,Ml 6 1,(7,vI 0)] [(3,0,cSV s),(6,1,[Sn,Sn])] fun _ _ => ?_
 refine ⟨_,Od rfl,?_⟩
 refine ⟨_,rfl,(ac_impl_present s id st hR (by first | assumption | omega)).mono ?_⟩
 rintro _ s13 ⟨e13,c13,rfl,h13,hP13⟩
 iterate 3 refine ⟨_,rfl,?_⟩
 refine ⟨_,Os rfl,?_⟩
 refine Cm 3 s13 [(1,vI id),(2,.string d),Ml 6 1,(7,vI 0),Ml 8 2,(9,vI c13)] [(6,1,[Sn,Sn]),(8,2,[vI e13.inc,vI e13.rank,vI e13.beat,vI e13.ver,.string e13.data])] fun _ _ => ?_
 refine ⟨_,rfl,?_⟩
 rintro (_|_) h18
 ·replace h18 : c13 = (0) := bne_eq_false_iff_eq.1 h18
  refine Cm 3 s13 [(1,vI id),(2,.string d),Ml 6 1,(7,vI 0),Ml 8 2,(9,vI c13),(16,vB false)] [(6,1,[Sn,Sn]),(8,2,[vI e13.inc,vI e13.rank,vI e13.beat,vI e13.ver,.string e13.data])] fun _ _ => ?_
  refine ⟨_,rfl,?_⟩
  refine ⟨_,Od rfl,?_⟩
  refine ⟨_,rfl,?_⟩
  rintro (_|_) h24
  ·replace h24 : ¬ (e13.ver = (1000)) := beq_eq_false_iff_ne.1 h24
   iterate 2 refine ⟨_,rfl,?_⟩
   rintro (_|_) h28
   ·replace h28 : ¬ ((d.size : Int) > (8)) := of_decide_eq_false h28
    refine ⟨_,rfl,?_⟩
    refine Cm 3 s13 [(1,vI id),(2,.string d),Ml 6 1,(7,vI 0),Ml 8 2,(21,vB false)] [(6,1,[Sn,Sn]),(8,2,[vI e13.inc,vI e13.rank,vI e13.beat,vI e13.ver,.string e13.data])] fun _ _ => ?_
    refine cxs ?_
    refine ⟨_,rfl,?_⟩
    refine ⟨_,Od rfl,?_⟩
    have hu := up_ent (show (e13,0) = upF s.x id by rw [← h13,h18])
    have hu1 := hu.1.2.2.2.1
    have ew33 : IntKind.wrap .i64 (e13.ver + (1)) = e13.ver + (1) := wrap_i64 (by omega) (by omega)
    iterate 2 refine ⟨_,rfl,?_⟩
    refine ⟨_,Os rfl,?_⟩
    refine AW.cutM (3) s13 [(1,vI id),(2,.string d),Ml 6 1,(7,vI 0),Ml 8 2] [(6,1,[Sn,Sn]),(8,2,[vI e13.inc,vI e13.rank,vI e13.beat,vI (e13.ver + (1)),.string e13.data])] ⟨rfl,rfl,rfl,rfl,rfl,trivial⟩ ⟨rfl,(show some (2,[vI e13.inc,vI e13.rank,vI e13.beat,vI (IntKind.wrap .i64 (e13.ver + (1))),.string e13.data]) = some (2,[vI e13.inc,vI e13.rank,vI e13.beat,vI (e13.ver + (1)),.string e13.data]) by rw [ew33]),trivial⟩ rfl fun _ _ => ?_
    refine ⟨_,rfl,?_⟩
    refine ⟨_,Os rfl,?_⟩
    refine Cm 3 s13 [(1,vI id),Ml 6 1,(7,vI 0),Ml 8 2] [(6,1,[Sn,Sn]),(8,2,[vI e13.inc,vI e13.rank,vI e13.beat,vI (e13.ver + (1)),.string d])] fun _ _ => ?_
    refine ⟨_,Od rfl,?_⟩
    refine ⟨_,rfl,(ac_impl_saying id (sSet e13 d) s13).mono ?_⟩
    rintro _ s39 ⟨u39,rfl,h39,hO39,hN39,hP39⟩
    iterate 2 refine ⟨_,rfl,?_⟩
    refine ⟨_,Os rfl,?_⟩
    exact cxs (Rt ⟨u39,0,rfl,setS_yes h13 h18 (fun k => k.elim h24 fun k => h28 (Int.ofNat_lt.2 k)) h39,hO39,hN39.le hP13.1,hP13.trans hP39⟩)
   ·replace h28 : (d.size : Int) > (8) := of_decide_eq_true h28
    refine ⟨_,rfl,?_⟩
    refine Cm 3 s13 [(1,vI id),(2,.string d),Ml 6 1,(7,vI 0),Ml 8 2,(21,vB true)] [(6,1,[Sn,Sn]),(8,2,[vI e13.inc,vI e13.rank,vI e13.beat,vI e13.ver,.string e13.data])] fun _ _ => ?_
    refine ⟨_,rfl,?_⟩
    refine ⟨_,Os rfl,?_⟩
    exact cxs (Rt ⟨⟨none,none,nilS⟩,4,rfl,setS_most h13 h18 (.inr (Int.ofNat_lt.1 h28)),pcS_nil,newS_nil,hP13⟩)
  ·replace h24 : e13.ver = (1000) := beq_iff_eq.1 h24
   refine ⟨_,rfl,?_⟩
   refine Cm 3 s13 [(1,vI id),(2,.string d),Ml 6 1,(7,vI 0),Ml 8 2,(21,vB true)] [(6,1,[Sn,Sn]),(8,2,[vI e13.inc,vI e13.rank,vI e13.beat,vI e13.ver,.string e13.data])] fun _ _ => ?_
   refine ⟨_,rfl,?_⟩
   refine ⟨_,Os rfl,?_⟩
   exact cxs (Rt ⟨⟨none,none,nilS⟩,4,rfl,setS_most h13 h18 (.inl h24),pcS_nil,newS_nil,hP13⟩)
 ·replace h18 : ¬ (c13 = (0)) := bne_iff_ne.1 h18
  refine Cm 3 s13 [(1,vI id),(2,.string d),Ml 6 1,(7,vI 0),Ml 8 2,(9,vI c13),(16,vB true)] [(6,1,[Sn,Sn]),(8,2,[vI e13.inc,vI e13.rank,vI e13.beat,vI e13.ver,.string e13.data])] fun _ _ => ?_
  refine ⟨_,rfl,?_⟩
  refine ⟨_,Os rfl,?_⟩
  exact cxs (Rt ⟨⟨none,none,nilS⟩,c13,rfl,setS_no h13 h18,pcS_nil,newS_nil,hP13⟩)
theorem ac_impl_sayOf (s : SV) (kind id : Int) (d : ByteArray) (st : St) (hR : RdS st s) (hb : bigS s.x) : C 100 [.agg #[vS s.p s.x.items.length,vS s.q s.x.floors.length],vI kind,vI id,.string d] st (fun v s' => ∃ (u : SV) (c : Int),v = .tuple #[.agg #[vS u.p u.x.items.length,vS u.q u.x.floors.length],vI c] ∧ (u.x,c) = sayS s.x kind id d ∧ OwnP s' (pcS u) ∧ NewP st.next (pcS u) ∧ Pres st s') := by
 refine AC.enterX (i := ⟨[4,8],[4,8],[0,1,2,3,4,8,9,10,11,18,25],[]⟩) [] Tryz.func100 rfl rfl (by kernel_rfl) (by kernel_rfl) Tryz.ntmps100 (Lb rfl) rfl ?_
 iterate 2 refine ⟨_,rfl,?_⟩
 refine cxs ?_
 refine Cm 2 st [(2,vI id),(3,.string d),Ml 4 0,Ml 8 1,(9,vI 0),(10,vI kind)] [(4,0,cSV s),(8,1,[Sn,Sn])] fun _ _ => ?_
 refine ⟨_,rfl,?_⟩
 rintro (_|_) h12
 ·replace h12 : ¬ (kind = (0)) := beq_eq_false_iff_ne.1 h12
  refine Cm 2 st [(2,vI id),(3,.string d),Ml 4 0,Ml 8 1,(9,vI 0),(10,vI kind),(11,vB false)] [(4,0,cSV s),(8,1,[Sn,Sn])] fun _ _ => ?_
  refine ⟨_,rfl,?_⟩
  rintro (_|_) h19
  ·replace h19 : ¬ (kind = (1)) := beq_eq_false_iff_ne.1 h19
   refine Cm 2 st [(2,vI id),(3,.string d),Ml 4 0,Ml 8 1,(9,vI 0),(10,vI kind),(18,vB false)] [(4,0,cSV s),(8,1,[Sn,Sn])] fun _ _ => ?_
   refine ⟨_,rfl,?_⟩
   rintro (_|_) h26
   ·replace h26 : ¬ (kind = (2)) := beq_eq_false_iff_ne.1 h26
    refine Cm 2 st [(2,vI id),(3,.string d),Ml 4 0,Ml 8 1,(9,vI 0),(25,vB false)] [(4,0,cSV s),(8,1,[Sn,Sn])] fun _ _ => ?_
    refine cxs ?_
    refine ⟨_,Od rfl,?_⟩
    refine ⟨_,rfl,(ac_impl_SayGone s id st hR (by first | assumption | omega)).mono ?_⟩
    rintro _ s35 ⟨u35,c35,rfl,h35,hO35,hN35,hP35⟩
    iterate 2 refine ⟨_,rfl,?_⟩
    refine ⟨_,Os rfl,?_⟩
    exact cxs (Rt ⟨u35,c35,rfl,by rw [h35,sayS,if_neg h12,if_neg h19,if_neg h26],hO35,hN35,hP35⟩)
   ·replace h26 : kind = (2) := beq_iff_eq.1 h26
    refine Cm 2 st [(2,vI id),(3,.string d),Ml 4 0,Ml 8 1,(9,vI 0),(25,vB true)] [(4,0,cSV s),(8,1,[Sn,Sn])] fun _ _ => ?_
    refine ⟨_,Od rfl,?_⟩
    refine ⟨_,rfl,(ac_impl_SaySet s id d st hR (by first | assumption | omega)).mono ?_⟩
    rintro _ s30 ⟨u30,c30,rfl,h30,hO30,hN30,hP30⟩
    iterate 2 refine ⟨_,rfl,?_⟩
    refine ⟨_,Os rfl,?_⟩
    exact cxs (Rt ⟨u30,c30,rfl,by rw [h30,sayS,if_neg h12,if_neg h19,if_pos h26],hO30,hN30,hP30⟩)
  ·replace h19 : kind = (1) := beq_iff_eq.1 h19
   refine Cm 2 st [(2,vI id),(3,.string d),Ml 4 0,Ml 8 1,(9,vI 0),(10,vI kind),(18,vB true)] [(4,0,cSV s),(8,1,[Sn,Sn])] fun _ _ => ?_
   refine ⟨_,Od rfl,?_⟩
   refine ⟨_,rfl,(ac_impl_SayBeat s id st hR (by first | assumption | omega)).mono ?_⟩
   rintro _ s22 ⟨u22,c22,rfl,h22,hO22,hN22,hP22⟩
   iterate 2 refine ⟨_,rfl,?_⟩
   refine ⟨_,Os rfl,?_⟩
   exact cxs (Rt ⟨u22,c22,rfl,by rw [h22,sayS,if_neg h12,if_pos h19],hO22,hN22,hP22⟩)
 ·replace h12 : kind = (0) := beq_iff_eq.1 h12
  refine Cm 2 st [(2,vI id),(3,.string d),Ml 4 0,Ml 8 1,(9,vI 0),(10,vI kind),(11,vB true)] [(4,0,cSV s),(8,1,[Sn,Sn])] fun _ _ => ?_
  refine ⟨_,Od rfl,?_⟩
  refine ⟨_,rfl,(ac_impl_SayJoin s id st hR (by first | assumption | omega)).mono ?_⟩
  rintro _ s15 ⟨u15,c15,rfl,h15,hO15,hN15,hP15⟩
  iterate 2 refine ⟨_,rfl,?_⟩
  refine ⟨_,Os rfl,?_⟩
  exact cxs (Rt ⟨u15,c15,rfl,by rw [h15,sayS,if_pos h12],hO15,hN15,hP15⟩)
theorem ac_spec_SayBeat (s : SV) (id : Int) (st : St) (hR : RdS st s) (hb : bigS s.x) : C 174 [.agg #[vS s.p s.x.items.length,vS s.q s.x.floors.length],vI id] st (fun v s' => ∃ (u : SV) (c : Int),v = .tuple #[.agg #[vS u.p u.x.items.length,vS u.q u.x.floors.length],vI c] ∧ (u.x,c) = beatS s.x id ∧ OwnP s' (pcS u) ∧ NewP st.next (pcS u) ∧ Pres st s') := by
 refine AC.enterX (i := ⟨[2,4,6],[2,4,6,18,22,25],[0,1,2,4,5,6,7,15,20],[]⟩) [] Tryz.func174 rfl rfl (by kernel_rfl) (by kernel_rfl) Tryz.ntmps174 (Lb rfl) rfl ?_
 iterate 2 refine ⟨_,rfl,?_⟩
 refine Cm 2 st [(1,vI id),Ml 2 0,Ml 4 1,(5,vI 0)] [(2,0,cSV s),(4,1,[Sn,Sn])] fun _ _ => ?_
 refine ⟨_,Od rfl,?_⟩
 refine ⟨_,rfl,(ac_spec_l5Up s id st hR (by first | assumption | omega)).mono ?_⟩
 rintro _ s11 ⟨e11,c11,rfl,h11,hP11⟩
 iterate 3 refine ⟨_,rfl,?_⟩
 refine ⟨_,Os rfl,?_⟩
 refine Cm 3 s11 [(1,vI id),Ml 4 1,(5,vI 0),Ml 6 2,(7,vI c11)] [(4,1,[Sn,Sn]),(6,2,[vI e11.inc,vI e11.rank,vI e11.beat,vI e11.ver,.string e11.data])] fun _ _ => ?_
 refine ⟨_,rfl,?_⟩
 rintro (_|_) h15
 ·replace h15 : c11 = (0) := bne_eq_false_iff_eq.1 h15
  refine Cm 3 s11 [(1,vI id),Ml 4 1,(5,vI 0),Ml 6 2,(7,vI c11),(15,vB false)] [(4,1,[Sn,Sn]),(6,2,[vI e11.inc,vI e11.rank,vI e11.beat,vI e11.ver,.string e11.data])] fun _ _ => ?_
  refine cxs ?_
  refine ⟨_,rfl,?_⟩
  refine ⟨_,Od rfl,?_⟩
  refine ⟨_,rfl,?_⟩
  rintro (_|_) h20
  ·replace h20 : ¬ (e11.beat = (100000)) := beq_eq_false_iff_ne.1 h20
   refine Cm 3 s11 [(1,vI id),Ml 4 1,(5,vI 0),Ml 6 2,(20,vB false)] [(4,1,[Sn,Sn]),(6,2,[vI e11.inc,vI e11.rank,vI e11.beat,vI e11.ver,.string e11.data])] fun _ _ => ?_
   refine cxs ?_
   refine ⟨_,rfl,?_⟩
   refine ⟨_,Od rfl,?_⟩
   have hu := up_ent (show (e11,0) = upF s.x id by rw [← h11,h15])
   have hu1 := hu.1.2.2.1
   have ew24 : IntKind.wrap .i64 (e11.beat + (1)) = e11.beat + (1) := wrap_i64 (by omega) (by omega)
   iterate 2 refine ⟨_,rfl,?_⟩
   refine ⟨_,Os rfl,?_⟩
   refine AW.cutM (3) s11 [(1,vI id),Ml 4 1,(5,vI 0),Ml 6 2] [(4,1,[Sn,Sn]),(6,2,[vI e11.inc,vI e11.rank,vI (e11.beat + (1)),vI e11.ver,.string e11.data])] ⟨rfl,rfl,rfl,rfl,trivial⟩ ⟨rfl,(show some (2,[vI e11.inc,vI e11.rank,vI (IntKind.wrap .i64 (e11.beat + (1))),vI e11.ver,.string e11.data]) = some (2,[vI e11.inc,vI e11.rank,vI (e11.beat + (1)),vI e11.ver,.string e11.data]) by rw [ew24]),trivial⟩ rfl fun _ _ => ?_
   refine ⟨_,Od rfl,?_⟩
   refine ⟨_,rfl,(ac_spec_l5One id (sBeat e11) s11 (one_ok hu.2 (beat_ent hu.1 h20))).mono ?_⟩
   rintro _ s28 ⟨u28,rfl,h28,hO28,hN28,hP28⟩
   iterate 2 refine ⟨_,rfl,?_⟩
   refine ⟨_,Os rfl,?_⟩
   exact cxs (Rt ⟨u28,0,rfl,beatS_yes h11 h15 h20 h28,hO28,hN28.le hP11.1,hP11.trans hP28⟩)
  ·replace h20 : e11.beat = (100000) := beq_iff_eq.1 h20
   refine Cm 3 s11 [(1,vI id),Ml 4 1,(5,vI 0),Ml 6 2,(20,vB true)] [(4,1,[Sn,Sn]),(6,2,[vI e11.inc,vI e11.rank,vI e11.beat,vI e11.ver,.string e11.data])] fun _ _ => ?_
   refine ⟨_,rfl,?_⟩
   refine ⟨_,Os rfl,?_⟩
   exact cxs (Rt ⟨⟨none,none,nilS⟩,4,rfl,beatS_most h11 h15 h20,pcS_nil,newS_nil,hP11⟩)
 ·replace h15 : ¬ (c11 = (0)) := bne_iff_ne.1 h15
  refine Cm 3 s11 [(1,vI id),Ml 4 1,(5,vI 0),Ml 6 2,(7,vI c11),(15,vB true)] [(4,1,[Sn,Sn]),(6,2,[vI e11.inc,vI e11.rank,vI e11.beat,vI e11.ver,.string e11.data])] fun _ _ => ?_
  refine ⟨_,rfl,?_⟩
  refine ⟨_,Os rfl,?_⟩
  exact cxs (Rt ⟨⟨none,none,nilS⟩,c11,rfl,beatS_no h11 h15,pcS_nil,newS_nil,hP11⟩)
theorem ac_spec_SayGone (s : SV) (id : Int) (st : St) (hR : RdS st s) (hb : bigS s.x) : C 176 [.agg #[vS s.p s.x.items.length,vS s.q s.x.floors.length],vI id] st (fun v s' => ∃ (u : SV) (c : Int),v = .tuple #[.agg #[vS u.p u.x.items.length,vS u.q u.x.floors.length],vI c] ∧ (u.x,c) = goneS s.x id ∧ OwnP s' (pcS u) ∧ NewP st.next (pcS u) ∧ Pres st s') := by
 refine AC.enterX (i := ⟨[2,4,6],[2,4,6,18],[0,1,2,4,5,6,7,15],[]⟩) [] Tryz.func176 rfl rfl (by kernel_rfl) (by kernel_rfl) Tryz.ntmps176 (Lb rfl) rfl ?_
 iterate 2 refine ⟨_,rfl,?_⟩
 refine Cm 2 st [(1,vI id),Ml 2 0,Ml 4 1,(5,vI 0)] [(2,0,cSV s),(4,1,[Sn,Sn])] fun _ _ => ?_
 refine ⟨_,Od rfl,?_⟩
 refine ⟨_,rfl,(ac_spec_l5Up s id st hR (by first | assumption | omega)).mono ?_⟩
 rintro _ s11 ⟨e11,c11,rfl,h11,hP11⟩
 iterate 3 refine ⟨_,rfl,?_⟩
 refine ⟨_,Os rfl,?_⟩
 refine Cm 3 s11 [(1,vI id),Ml 4 1,(5,vI 0),Ml 6 2,(7,vI c11)] [(4,1,[Sn,Sn]),(6,2,[vI e11.inc,vI e11.rank,vI e11.beat,vI e11.ver,.string e11.data])] fun _ _ => ?_
 refine ⟨_,rfl,?_⟩
 rintro (_|_) h15
 ·replace h15 : c11 = (0) := bne_eq_false_iff_eq.1 h15
  refine Cm 3 s11 [(1,vI id),Ml 4 1,(5,vI 0),Ml 6 2,(7,vI c11),(15,vB false)] [(4,1,[Sn,Sn]),(6,2,[vI e11.inc,vI e11.rank,vI e11.beat,vI e11.ver,.string e11.data])] fun _ _ => ?_
  refine cxs ?_
  refine ⟨_,rfl,?_⟩
  refine ⟨_,Os rfl,?_⟩
  refine Cm 3 s11 [(1,vI id),Ml 4 1,(5,vI 0),Ml 6 2] [(4,1,[Sn,Sn]),(6,2,[vI e11.inc,vI 1,vI e11.beat,vI e11.ver,.string e11.data])] fun _ _ => ?_
  have hu := up_ent (show (e11,0) = upF s.x id by rw [← h11,h15])
  refine ⟨_,Od rfl,?_⟩
  refine ⟨_,rfl,(ac_spec_l5One id (sGone e11) s11 (one_ok hu.2 (gone_ent hu.1))).mono ?_⟩
  rintro _ s21 ⟨u21,rfl,h21,hO21,hN21,hP21⟩
  iterate 2 refine ⟨_,rfl,?_⟩
  refine ⟨_,Os rfl,?_⟩
  exact cxs (Rt ⟨u21,0,rfl,goneS_yes h11 h15 h21,hO21,hN21.le hP11.1,hP11.trans hP21⟩)
 ·replace h15 : ¬ (c11 = (0)) := bne_iff_ne.1 h15
  refine Cm 3 s11 [(1,vI id),Ml 4 1,(5,vI 0),Ml 6 2,(7,vI c11),(15,vB true)] [(4,1,[Sn,Sn]),(6,2,[vI e11.inc,vI e11.rank,vI e11.beat,vI e11.ver,.string e11.data])] fun _ _ => ?_
  refine ⟨_,rfl,?_⟩
  refine ⟨_,Os rfl,?_⟩
  exact cxs (Rt ⟨⟨none,none,nilS⟩,c11,rfl,goneS_no h11 h15,pcS_nil,newS_nil,hP11⟩)
theorem ac_spec_SaySet (s : SV) (id : Int) (d : ByteArray) (st : St) (hR : RdS st s) (hb : bigS s.x) : C 175 [.agg #[vS s.p s.x.items.length,vS s.q s.x.floors.length],vI id,.string d] st (fun v s' => ∃ (u : SV) (c : Int),v = .tuple #[.agg #[vS u.p u.x.items.length,vS u.q u.x.floors.length],vI c] ∧ (u.x,c) = setS s.x id d ∧ OwnP s' (pcS u) ∧ NewP st.next (pcS u) ∧ Pres st s') := by
 refine AC.enterX (i := ⟨[3,6,8],[3,6,8,20,29,32,34],[0,1,2,3,6,7,8,9,17,27],[]⟩) [] Tryz.func175 rfl rfl (by kernel_rfl) (by kernel_rfl) Tryz.ntmps175 (Lb rfl) rfl ?_
 iterate 2 refine ⟨_,rfl,?_⟩
 refine Cm 2 st [(1,vI id),(2,.string d),Ml 3 0,Ml 6 1,(7,vI 0)] [(3,0,cSV s),(6,1,[Sn,Sn])] fun _ _ => ?_
 refine ⟨_,Od rfl,?_⟩
 refine ⟨_,rfl,(ac_spec_l5Up s id st hR (by first | assumption | omega)).mono ?_⟩
 rintro _ s13 ⟨e13,c13,rfl,h13,hP13⟩
 iterate 3 refine ⟨_,rfl,?_⟩
 refine ⟨_,Os rfl,?_⟩
 refine Cm 3 s13 [(1,vI id),(2,.string d),Ml 6 1,(7,vI 0),Ml 8 2,(9,vI c13)] [(6,1,[Sn,Sn]),(8,2,[vI e13.inc,vI e13.rank,vI e13.beat,vI e13.ver,.string e13.data])] fun _ _ => ?_
 refine ⟨_,rfl,?_⟩
 rintro (_|_) h17
 ·replace h17 : c13 = (0) := bne_eq_false_iff_eq.1 h17
  refine Cm 3 s13 [(1,vI id),(2,.string d),Ml 6 1,(7,vI 0),Ml 8 2,(9,vI c13),(17,vB false)] [(6,1,[Sn,Sn]),(8,2,[vI e13.inc,vI e13.rank,vI e13.beat,vI e13.ver,.string e13.data])] fun _ _ => ?_
  refine cxs ?_
  refine ⟨_,rfl,?_⟩
  refine ⟨_,Od rfl,?_⟩
  refine ⟨_,rfl,?_⟩
  rintro (_|_) h22
  ·replace h22 : ¬ (e13.ver = (1000)) := beq_eq_false_iff_ne.1 h22
   iterate 2 refine ⟨_,rfl,?_⟩
   rintro (_|_) h26
   ·replace h26 : ¬ ((d.size : Int) > (8)) := of_decide_eq_false h26
    refine ⟨_,rfl,?_⟩
    refine Cm 3 s13 [(1,vI id),(2,.string d),Ml 6 1,(7,vI 0),Ml 8 2,(27,vB false)] [(6,1,[Sn,Sn]),(8,2,[vI e13.inc,vI e13.rank,vI e13.beat,vI e13.ver,.string e13.data])] fun _ _ => ?_
    refine cxs ?_
    refine ⟨_,rfl,?_⟩
    refine ⟨_,Od rfl,?_⟩
    have hu := up_ent (show (e13,0) = upF s.x id by rw [← h13,h17])
    have hu1 := hu.1.2.2.2.1
    have ew31 : IntKind.wrap .i64 (e13.ver + (1)) = e13.ver + (1) := wrap_i64 (by omega) (by omega)
    iterate 2 refine ⟨_,rfl,?_⟩
    refine ⟨_,Os rfl,?_⟩
    refine AW.cutM (3) s13 [(1,vI id),(2,.string d),Ml 6 1,(7,vI 0),Ml 8 2] [(6,1,[Sn,Sn]),(8,2,[vI e13.inc,vI e13.rank,vI e13.beat,vI (e13.ver + (1)),.string e13.data])] ⟨rfl,rfl,rfl,rfl,rfl,trivial⟩ ⟨rfl,(show some (2,[vI e13.inc,vI e13.rank,vI e13.beat,vI (IntKind.wrap .i64 (e13.ver + (1))),.string e13.data]) = some (2,[vI e13.inc,vI e13.rank,vI e13.beat,vI (e13.ver + (1)),.string e13.data]) by rw [ew31]),trivial⟩ rfl fun _ _ => ?_
    refine ⟨_,rfl,?_⟩
    refine ⟨_,Os rfl,?_⟩
    refine Cm 3 s13 [(1,vI id),Ml 6 1,(7,vI 0),Ml 8 2] [(6,1,[Sn,Sn]),(8,2,[vI e13.inc,vI e13.rank,vI e13.beat,vI (e13.ver + (1)),.string d])] fun _ _ => ?_
    refine ⟨_,Od rfl,?_⟩
    refine ⟨_,rfl,(ac_spec_l5One id (sSet e13 d) s13 (one_ok hu.2 (set_ent hu.1 (fun k => k.elim h22 fun k => h26 (Int.ofNat_lt.2 k))))).mono ?_⟩
    rintro _ s37 ⟨u37,rfl,h37,hO37,hN37,hP37⟩
    iterate 2 refine ⟨_,rfl,?_⟩
    refine ⟨_,Os rfl,?_⟩
    exact cxs (Rt ⟨u37,0,rfl,setS_yes h13 h17 (fun k => k.elim h22 fun k => h26 (Int.ofNat_lt.2 k)) h37,hO37,hN37.le hP13.1,hP13.trans hP37⟩)
   ·replace h26 : (d.size : Int) > (8) := of_decide_eq_true h26
    refine ⟨_,rfl,?_⟩
    refine Cm 3 s13 [(1,vI id),(2,.string d),Ml 6 1,(7,vI 0),Ml 8 2,(27,vB true)] [(6,1,[Sn,Sn]),(8,2,[vI e13.inc,vI e13.rank,vI e13.beat,vI e13.ver,.string e13.data])] fun _ _ => ?_
    refine ⟨_,rfl,?_⟩
    refine ⟨_,Os rfl,?_⟩
    exact cxs (Rt ⟨⟨none,none,nilS⟩,4,rfl,setS_most h13 h17 (.inr (Int.ofNat_lt.1 h26)),pcS_nil,newS_nil,hP13⟩)
  ·replace h22 : e13.ver = (1000) := beq_iff_eq.1 h22
   refine ⟨_,rfl,?_⟩
   refine Cm 3 s13 [(1,vI id),(2,.string d),Ml 6 1,(7,vI 0),Ml 8 2,(27,vB true)] [(6,1,[Sn,Sn]),(8,2,[vI e13.inc,vI e13.rank,vI e13.beat,vI e13.ver,.string e13.data])] fun _ _ => ?_
   refine ⟨_,rfl,?_⟩
   refine ⟨_,Os rfl,?_⟩
   exact cxs (Rt ⟨⟨none,none,nilS⟩,4,rfl,setS_most h13 h17 (.inl h22),pcS_nil,newS_nil,hP13⟩)
 ·replace h17 : ¬ (c13 = (0)) := bne_iff_ne.1 h17
  refine Cm 3 s13 [(1,vI id),(2,.string d),Ml 6 1,(7,vI 0),Ml 8 2,(9,vI c13),(17,vB true)] [(6,1,[Sn,Sn]),(8,2,[vI e13.inc,vI e13.rank,vI e13.beat,vI e13.ver,.string e13.data])] fun _ _ => ?_
  refine ⟨_,rfl,?_⟩
  refine ⟨_,Os rfl,?_⟩
  exact cxs (Rt ⟨⟨none,none,nilS⟩,c13,rfl,setS_no h13 h17,pcS_nil,newS_nil,hP13⟩)
theorem ac_spec_l12Said (s : SV) (kind id : Int) (d : ByteArray) (st : St) (hR : RdS st s) (hb : bigS s.x) : C 102 [.agg #[vS s.p s.x.items.length,vS s.q s.x.floors.length],vI kind,vI id,.string d] st (fun v s' => ∃ (u : SV) (c : Int),v = .tuple #[.agg #[vS u.p u.x.items.length,vS u.q u.x.floors.length],vI c] ∧ (u.x,c) = sayS s.x kind id d ∧ OwnP s' (pcS u) ∧ NewP st.next (pcS u) ∧ Pres st s') := by
 refine AC.enterX (i := ⟨[4,8],[4,8],[0,1,2,3,4,8,9,10,11,18,25],[]⟩) [] Tryz.func102 rfl rfl (by kernel_rfl) (by kernel_rfl) Tryz.ntmps102 (Lb rfl) rfl ?_
 iterate 2 refine ⟨_,rfl,?_⟩
 refine cxs ?_
 refine Cm 2 st [(2,vI id),(3,.string d),Ml 4 0,Ml 8 1,(9,vI 0),(10,vI kind)] [(4,0,cSV s),(8,1,[Sn,Sn])] fun _ _ => ?_
 refine ⟨_,rfl,?_⟩
 rintro (_|_) h12
 ·replace h12 : ¬ (kind = (0)) := beq_eq_false_iff_ne.1 h12
  refine Cm 2 st [(2,vI id),(3,.string d),Ml 4 0,Ml 8 1,(9,vI 0),(10,vI kind),(11,vB false)] [(4,0,cSV s),(8,1,[Sn,Sn])] fun _ _ => ?_
  refine ⟨_,rfl,?_⟩
  rintro (_|_) h19
  ·replace h19 : ¬ (kind = (1)) := beq_eq_false_iff_ne.1 h19
   refine Cm 2 st [(2,vI id),(3,.string d),Ml 4 0,Ml 8 1,(9,vI 0),(10,vI kind),(18,vB false)] [(4,0,cSV s),(8,1,[Sn,Sn])] fun _ _ => ?_
   refine ⟨_,rfl,?_⟩
   rintro (_|_) h26
   ·replace h26 : ¬ (kind = (2)) := beq_eq_false_iff_ne.1 h26
    refine Cm 2 st [(2,vI id),(3,.string d),Ml 4 0,Ml 8 1,(9,vI 0),(25,vB false)] [(4,0,cSV s),(8,1,[Sn,Sn])] fun _ _ => ?_
    refine cxs ?_
    refine ⟨_,Od rfl,?_⟩
    refine ⟨_,rfl,(ac_spec_SayGone s id st hR (by first | assumption | omega)).mono ?_⟩
    rintro _ s35 ⟨u35,c35,rfl,h35,hO35,hN35,hP35⟩
    iterate 2 refine ⟨_,rfl,?_⟩
    refine ⟨_,Os rfl,?_⟩
    exact cxs (Rt ⟨u35,c35,rfl,by rw [h35,sayS,if_neg h12,if_neg h19,if_neg h26],hO35,hN35,hP35⟩)
   ·replace h26 : kind = (2) := beq_iff_eq.1 h26
    refine Cm 2 st [(2,vI id),(3,.string d),Ml 4 0,Ml 8 1,(9,vI 0),(25,vB true)] [(4,0,cSV s),(8,1,[Sn,Sn])] fun _ _ => ?_
    refine ⟨_,Od rfl,?_⟩
    refine ⟨_,rfl,(ac_spec_SaySet s id d st hR (by first | assumption | omega)).mono ?_⟩
    rintro _ s30 ⟨u30,c30,rfl,h30,hO30,hN30,hP30⟩
    iterate 2 refine ⟨_,rfl,?_⟩
    refine ⟨_,Os rfl,?_⟩
    exact cxs (Rt ⟨u30,c30,rfl,by rw [h30,sayS,if_neg h12,if_neg h19,if_pos h26],hO30,hN30,hP30⟩)
  ·replace h19 : kind = (1) := beq_iff_eq.1 h19
   refine Cm 2 st [(2,vI id),(3,.string d),Ml 4 0,Ml 8 1,(9,vI 0),(10,vI kind),(18,vB true)] [(4,0,cSV s),(8,1,[Sn,Sn])] fun _ _ => ?_
   refine ⟨_,Od rfl,?_⟩
   refine ⟨_,rfl,(ac_spec_SayBeat s id st hR (by first | assumption | omega)).mono ?_⟩
   rintro _ s22 ⟨u22,c22,rfl,h22,hO22,hN22,hP22⟩
   iterate 2 refine ⟨_,rfl,?_⟩
   refine ⟨_,Os rfl,?_⟩
   exact cxs (Rt ⟨u22,c22,rfl,by rw [h22,sayS,if_neg h12,if_pos h19],hO22,hN22,hP22⟩)
 ·replace h12 : kind = (0) := beq_iff_eq.1 h12
  refine Cm 2 st [(2,vI id),(3,.string d),Ml 4 0,Ml 8 1,(9,vI 0),(10,vI kind),(11,vB true)] [(4,0,cSV s),(8,1,[Sn,Sn])] fun _ _ => ?_
  refine ⟨_,Od rfl,?_⟩
  refine ⟨_,rfl,(ac_spec_SayJoin s id st hR (by first | assumption | omega)).mono ?_⟩
  rintro _ s15 ⟨u15,c15,rfl,h15,hO15,hN15,hP15⟩
  iterate 2 refine ⟨_,rfl,?_⟩
  refine ⟨_,Os rfl,?_⟩
  exact cxs (Rt ⟨u15,c15,rfl,by rw [h15,sayS,if_pos h12],hO15,hN15,hP15⟩)
theorem big_add {g x : Lg} {d : Sta} {b : Bool} (h : (x,b) = addL g d) (hb : bigLog g) (hd : bigS d) : bigLog x := by
 have hx : x = (addL g d).1 := congrArg Prod.fst h
 have hall : ∀ s ∈ g.list ++ [d],bigS s := fun s hs => by
  rcases List.mem_append.1 hs with h | h
  ·exact hb.2 s h
  ·rw [List.mem_singleton.1 h]; exact hd
 rw [hx,addL]
 split
 ·rename_i hk
  have h1 := hk.1.2.1
  have h2 := hk.1.1.2
  split
  ·refine ⟨?_,fun s hs => hall s (List.mem_of_mem_drop hs)⟩
   unfold szOk
   simp only [List.length_drop,List.length_append,List.length_singleton]
   omega
  ·refine ⟨?_,hall⟩
   unfold szOk
   simp only [List.length_append,List.length_singleton]
   omega
 ·exact hb
theorem Frs.ndG {s0 st st' : St} {v : NW} {u : LW} {T : List Pc} (h : Frs s0 st (pcNW v ++ T)) (hF : Frs st st' (pcLog u)) : Frs s0 st' (pcNW { v with g := u } ++ T) := by
 have e : ∀ x : LW,pcNW { v with g := x } ++ T = (pcS v.s ++ pcIs v.t.toRV) ++ (pcLog x ++ (pcIs v.got ++ (pcIs v.acked ++ (pcTT v.seen ++ (pcSes v.sess ++ (pcRis v.rises ++ T)))))) := fun x => by simp only [List.append_assoc]
 rw [e]
 exact Frs.swap (c := pcLog v.g) (by rw [← e]; exact h) hF
theorem NW.gotAt (v : NW) (x : RV) : pcNW { v with got := x } = (pcS v.s ++ (pcIs v.t.toRV ++ pcLog v.g)) ++ pcR 1 fI x.p x.l :: (pcIs v.acked ++ (pcTT v.seen ++ (pcSes v.sess ++ pcRis v.rises))) := by simp [List.append_assoc]
theorem NW.ackedAt (v : NW) (x : RV) : pcNW { v with acked := x } = (pcS v.s ++ (pcIs v.t.toRV ++ (pcLog v.g ++ pcIs v.got))) ++ pcR 1 fI x.p x.l :: (pcTT v.seen ++ (pcSes v.sess ++ pcRis v.rises)) := by simp [List.append_assoc]
theorem OwnP.mid {st : St} {c : Pc} {a b : List Pc} (h : OwnP st (a ++ c :: b)) : c.own st := h.1 c (List.mem_append_right _ (List.mem_cons_self ..))
theorem OwnP.ownGot {st : St} {v : NW} (h : OwnP st (pcNW v)) : OwnR st 1 fI v.got.p v.got.l := by
 have h : OwnP st (pcNW { v with got := v.got }) := h
 rw [NW.gotAt] at h
 exact own_one (by decide) fI_len (OwnP.one h.mid)
theorem OwnP.ownAcked {st : St} {v : NW} (h : OwnP st (pcNW v)) : OwnR st 1 fI v.acked.p v.acked.l := by
 have h : OwnP st (pcNW { v with acked := v.acked }) := h
 rw [NW.ackedAt] at h
 exact own_one (by decide) fI_len (OwnP.one h.mid)
theorem Frs.gotSet {s0 st st' : St} {v : NW} {l' : List Int} {T : List Pc} (h : Frs s0 st (pcNW v ++ T)) (hp : Pr v.got.p st st') (hO : OwnR st' 1 fI v.got.p l') : Frs s0 st' (pcNW { v with got := ⟨v.got.p,l'⟩ } ++ T) := by
 have h : Frs s0 st (pcNW { v with got := v.got } ++ T) := h
 rw [NW.gotAt,List.append_assoc,List.cons_append] at h ⊢
 exact Frs.upd (c := pcR 1 fI v.got.p v.got.l) h hp (own_pc hO) rfl
theorem Frs.comm {a b : St} {l m : List Pc} (h : Frs a b (l ++ m)) : Frs a b (m ++ l) := ⟨h.1.perm List.perm_append_comm,fun c hc => h.2.1 c (List.mem_append.2 (List.mem_append.1 hc).symm),h.2.2⟩
theorem Frs.ndGin {s0 st : St} {v : NW} {u : LW} {T : List Pc} (h : Frs s0 st (pcNW v ++ (pcLog u ++ T))) : Frs s0 st (pcNW { v with g := u } ++ T) := by
 have e : pcNW v ++ (pcLog u ++ T) = (pcS v.s ++ pcIs v.t.toRV) ++ (pcLog v.g ++ ((pcIs v.got ++ (pcIs v.acked ++ (pcTT v.seen ++ (pcSes v.sess ++ pcRis v.rises)))) ++ (pcLog u ++ T))) := by simp only [List.append_assoc]
 rw [e] at h
 have h1 : Frs s0 st ((pcS v.s ++ pcIs v.t.toRV) ++ ((pcIs v.got ++ (pcIs v.acked ++ (pcTT v.seen ++ (pcSes v.sess ++ pcRis v.rises)))) ++ (pcLog u ++ T))) := ⟨OwnP.right (OwnP.front1 h.1),NewP.left h.2.1 |>.app (h.2.1.right.right),h.2.2⟩
 have e2 : pcNW { v with g := u } ++ T = (pcS v.s ++ pcIs v.t.toRV) ++ (pcLog u ++ ((pcIs v.got ++ (pcIs v.acked ++ (pcTT v.seen ++ (pcSes v.sess ++ pcRis v.rises)))) ++ T)) := by simp only [List.append_assoc]
 rw [e2]
 have hp : List.Perm ((pcS v.s ++ pcIs v.t.toRV) ++ ((pcIs v.got ++ (pcIs v.acked ++ (pcTT v.seen ++ (pcSes v.sess ++ pcRis v.rises)))) ++ (pcLog u ++ T))) ((pcS v.s ++ pcIs v.t.toRV) ++ (pcLog u ++ ((pcIs v.got ++ (pcIs v.acked ++ (pcTT v.seen ++ (pcSes v.sess ++ pcRis v.rises)))) ++ T))) := List.Perm.append_left _ (List.perm_append_comm_assoc _ _ _)
 exact ⟨h1.1.perm hp,fun c hc => h1.2.1 c (hp.mem_iff.2 hc),h1.2.2⟩
structure sayOk (x : Nd) (kind id : Int) : Prop where
 ok : nodeOk x
 kd : 0 ≤ kind ∧ kind ≤ 4
 ix : 0 ≤ id ∧ id ≤ x.n - 1
 ne : ¬ (id = x.id ↔ kind = 4)
noncomputable def ownF (x : Nd) (g : Lg) : Nd := { x with g := g,got := x.got.set x.id.toNat (logSeq g) }
open Classical in
noncomputable def sayF (x : Nd) (kind id : Int) (d : ByteArray) : Nd × Sta × Int :=
 if sayOk x kind id then
  if (sayS x.s kind id d).2 = 0 then
   if (addL x.g (sayS x.s kind id d).1).2 = true then (takeF (ownF x (addL x.g (sayS x.s kind id d).1).1) (sayS x.s kind id d).1,(sayS x.s kind id d).1,0) else (x,nilS,4)
  else (x,nilS,(sayS x.s kind id d).2)
 else (x,nilS,1)
theorem say_bad {g x : Nd} {kind id : Int} {d : ByteArray} (h : ¬ sayOk g kind id) (hx : x = g) : (x,nilS,1) = sayF g kind id d := by rw [hx]; exact (if_neg h).symm
theorem say_how {g x : Nd} {kind id c : Int} {d : ByteArray} {u : Sta} (h : sayOk g kind id) (hx : x = g) (hu : (u,c) = sayS g.s kind id d) (hc : ¬ c = 0) : (x,nilS,c) = sayF g kind id d := by
 unfold sayF; rw [hx,if_pos h,← hu,if_neg hc]
theorem say_most {g x : Nd} {kind id c : Int} {d : ByteArray} {u : Sta} {w : Lg} (h : sayOk g kind id) (hx : x = g) (hu : (u,c) = sayS g.s kind id d) (hc : c = 0) (hw : (w,false) = addL g.g u) : (x,nilS,4) = sayF g kind id d := by
 unfold sayF; rw [hx,if_pos h,← hu,if_pos hc,← hw,if_neg Bool.false_ne_true]
theorem say_yes {g x : Nd} {kind id c : Int} {d : ByteArray} {u : Sta} {w : Lg} (h : sayOk g kind id) (hu : (u,c) = sayS g.s kind id d) (hc : c = 0) (hw : (w,true) = addL g.g u) (hx : x = takeF (ownF g w) u) : (x,u,0) = sayF g kind id d := by
 unfold sayF; rw [hx,if_pos h,← hu,if_pos hc,← hw,if_pos rfl]
theorem say_eq {kind id i : Int} (q : id = i ↔ kind = 4) : (id == i) = (kind == 4) := by
 by_cases h : id = i
 ·rw [beq_iff_eq.2 h,beq_iff_eq.2 (q.1 h)]
 ·rw [beq_eq_false_iff_ne.2 h,beq_eq_false_iff_ne.2 fun k => h (q.2 k)]
theorem eq_say {kind id i : Int} (h : (id == i) = (kind == 4)) : id = i ↔ kind = 4 := by
 rw [← beq_iff_eq (a := id) (b := i),← beq_iff_eq (a := kind) (b := (4 : Int)),h]
theorem say_new {x : Nd} {kind id : Int} (h1 : nodeOk x) (h2 : 0 ≤ kind ∧ kind ≤ 4) (h3 : 0 ≤ id ∧ id ≤ x.n - 1) (h : ¬ (id = x.id ↔ kind = 4)) : sayOk x kind id := ⟨h1,h2,h3,h⟩
theorem say_ok0 {s d : Sta} {kind id c : Int} {data : ByteArray} (h : (d,c) = sayS s kind id data) (hc : c = 0) : stateOk d := by subst hc; exact say_ok h
theorem ac_impl_Say (g : NV) (kind id : Int) (d : ByteArray) (st : St) (hR : RdN st g) (hb : bigN g.x) : C 35 [(vNV g),vI kind,vI id,.string d] st (fun v s => ∃ (u : NW) (w : SV) (c : Int),v = .tuple #[(vNV u),.agg #[vS w.p w.x.items.length,vS w.q w.x.floors.length],vI c] ∧ (u.x,w.x,c) = sayF g.x kind id d ∧ OwnP s (pcNW u ++ pcS w) ∧ NewP st.next (pcNW u ++ pcS w) ∧ Pres st s) := by
 refine AC.enterX (i := ⟨[4,8,9,11,12,14],[4,8,9,11,12,14,28,36,46,60,71,72,74],[0,1,2,3,4,8,9,10,11,12,13,14,15,42,55,67],[]⟩) [(13,[2],[1]),(1013,[],[12])] Tryz.func35 rfl rfl (by kernel_rfl) (by kernel_rfl) Tryz.ntmps35 (Lb rfl) rfl ?_
 iterate 3 refine ⟨_,rfl,?_⟩
 refine Cm 3 st [(1,vI kind),(2,vI id),(3,.string d),Ml 4 0,Ml 8 1,Ml 9 2,(10,vI 0)] [(4,0,cNV g),(8,1,Zn),(9,2,[Sn,Sn])] fun _ _ => ?_
 refine ⟨_,op_ldo (v := (vNV g)) rfl rfl rfl rfl,?_⟩
 refine ⟨_,rfl,(ac_impl_copyNode g st hR (by first | assumption | omega)).mono ?_⟩
 rintro _ s17 ⟨u17,rfl,h17,hO17,hN17,hP17⟩
 refine ⟨_,rfl,?_⟩
 refine ⟨_,op_stw (vs := cNV u17.v) rfl rfl rfl rfl rfl rfl rfl rfl,?_⟩
 refine Cm 4 s17 [(1,vI kind),(2,vI id),(3,.string d),Ml 4 0,Ml 8 1,Ml 9 2,(10,vI 0),Ml 11 3] [(4,0,cNV g),(8,1,Zn),(9,2,[Sn,Sn]),(11,3,cNV u17.v)] fun _ _ => ?_
 refine ⟨_,op_ldo (v := (vNV g)) rfl rfl rfl rfl,?_⟩
 refine ⟨_,rfl,(ac_impl_NodeOk g s17 (hR.pres hP17) (by first | assumption | omega)).mono ?_⟩
 rintro _ s19 ⟨x19,rfl,h19,hP19⟩
 rcases x19 with _|_
 ·replace h19 := fun k => Bool.false_ne_true (h19.2 k)
  iterate 4 refine ⟨_,rfl,?_⟩
  refine Cm 4 s19 [(1,vI kind),(2,vI id),(3,.string d),Ml 4 0,Ml 8 1,Ml 9 2,(10,vI 0),Ml 11 3,(42,vB true)] [(4,0,cNV g),(8,1,Zn),(9,2,[Sn,Sn]),(11,3,cNV u17.v)] fun _ _ => ?_
  have hF19 : Frs st s19 (pcNW u17) := ⟨hO17.pres hP19,hN17,hP17.trans hP19⟩
  have hFn := hF19.join Frs.s0
  refine ⟨_,op_ldo (v := (vNV u17.v)) rfl rfl rfl rfl,?_⟩
  refine ⟨_,rfl,?_⟩
  refine ⟨_,op_stw (vs := cNV u17.v) rfl rfl rfl rfl rfl rfl rfl rfl,?_⟩
  refine ⟨_,Os rfl,?_⟩
  exact cxs (Rt ⟨u17,⟨none,none,nilS⟩,1,rfl,say_bad (fun k => h19 k.ok) h17,hFn.1,hFn.2.1,hFn.2.2⟩)
 ·replace h19 := h19.1 rfl
  refine ⟨_,rfl,?_⟩
  refine ⟨_,rfl,(ac_impl_within kind 0 4 s19).mono ?_⟩
  rintro _ s19 ⟨x23,rfl,h23,rfl⟩
  rcases x23 with _|_
  ·replace h23 := of_decide_eq_false h23.symm
   iterate 4 refine ⟨_,rfl,?_⟩
   refine Cm 4 s19 [(1,vI kind),(2,vI id),(3,.string d),Ml 4 0,Ml 8 1,Ml 9 2,(10,vI 0),Ml 11 3,(42,vB true)] [(4,0,cNV g),(8,1,Zn),(9,2,[Sn,Sn]),(11,3,cNV u17.v)] fun _ _ => ?_
   have hF19 : Frs st s19 (pcNW u17) := ⟨hO17.pres hP19,hN17,hP17.trans hP19⟩
   have hFn := hF19.join Frs.s0
   refine ⟨_,op_ldo (v := (vNV u17.v)) rfl rfl rfl rfl,?_⟩
   refine ⟨_,rfl,?_⟩
   refine ⟨_,op_stw (vs := cNV u17.v) rfl rfl rfl rfl rfl rfl rfl rfl,?_⟩
   refine ⟨_,Os rfl,?_⟩
   exact cxs (Rt ⟨u17,⟨none,none,nilS⟩,1,rfl,say_bad (fun k => h23 k.kd) h17,hFn.1,hFn.2.1,hFn.2.2⟩)
  ·replace h23 := of_decide_eq_true h23.symm
   iterate 3 refine ⟨_,rfl,?_⟩
   refine ⟨_,Od rfl,?_⟩
   have hnn : 1 ≤ g.n ∧ g.n ≤ 5 := h19.n
   have ew30 : IntKind.wrap .i64 (g.n - (1)) = g.n - (1) := wrap_i64 (by omega) (by omega)
   refine ⟨_,rfl,?_⟩
   refine ⟨_,rfl,(ac_impl_within id 0 (IntKind.wrap .i64 (g.n - (1))) s19).mono ?_⟩
   rintro _ s19 ⟨x31,rfl,h31,rfl⟩
   rcases x31 with _|_
   ·replace h31 := of_decide_eq_false h31.symm
    rw [ew30] at h31
    iterate 3 refine ⟨_,rfl,?_⟩
    refine Cm 4 s19 [(1,vI kind),(2,vI id),(3,.string d),Ml 4 0,Ml 8 1,Ml 9 2,(10,vI 0),Ml 11 3,(42,vB true)] [(4,0,cNV g),(8,1,Zn),(9,2,[Sn,Sn]),(11,3,cNV u17.v)] fun _ _ => ?_
    have hF19 : Frs st s19 (pcNW u17) := ⟨hO17.pres hP19,hN17,hP17.trans hP19⟩
    have hFn := hF19.join Frs.s0
    refine ⟨_,op_ldo (v := (vNV u17.v)) rfl rfl rfl rfl,?_⟩
    refine ⟨_,rfl,?_⟩
    refine ⟨_,op_stw (vs := cNV u17.v) rfl rfl rfl rfl rfl rfl rfl rfl,?_⟩
    refine ⟨_,Os rfl,?_⟩
    exact cxs (Rt ⟨u17,⟨none,none,nilS⟩,1,rfl,say_bad (fun k => h31 k.ix) h17,hFn.1,hFn.2.1,hFn.2.2⟩)
   ·replace h31 := of_decide_eq_true h31.symm
    rw [ew30] at h31
    iterate 3 refine ⟨_,rfl,?_⟩
    refine ⟨_,Od rfl,?_⟩
    refine ⟨_,rfl,fun c38 hc38 => ?_⟩
    refine ⟨_,rfl,fun c40 hc40 => ?_⟩
    refine ⟨_,rfl,?_⟩
    rintro (_|_) h41
    ·replace h41 : ¬ (c38 = c40) := beq_eq_false_iff_ne.1 h41
     refine ⟨_,rfl,?_⟩
     refine Cm 4 s19 [(1,vI kind),(2,vI id),(3,.string d),Ml 4 0,Ml 8 1,Ml 9 2,(10,vI 0),Ml 11 3,(42,vB false)] [(4,0,cNV g),(8,1,Zn),(9,2,[Sn,Sn]),(11,3,cNV u17.v)] fun _ _ => ?_
     have hF19 : Frs st s19 (pcNW u17) := ⟨hO17.pres hP19,hN17,hP17.trans hP19⟩
     have hFn := hF19.join Frs.s0
     refine cxs ?_
     refine ⟨_,rfl,?_⟩
     refine ⟨_,Od rfl,?_⟩
     refine ⟨_,rfl,(ac_impl_sayOf g.s kind id d s19 (hR.s.pres (hP17.trans hP19)) (hb.s)).mono ?_⟩
     rintro _ s51 ⟨u51,c51,rfl,h51,hO51,hN51,hP51⟩
     iterate 3 refine ⟨_,rfl,?_⟩
     refine ⟨_,Os rfl,?_⟩
     refine Cm 5 s51 [Ml 4 0,Ml 8 1,Ml 9 2,(10,vI 0),Ml 11 3,Ml 12 4,(13,vI c51)] [(4,0,cNV g),(8,1,Zn),(9,2,[Sn,Sn]),(11,3,cNV u17.v),(12,4,cSV u51)] fun _ _ => ?_
     have hok : sayOk g.x kind id := say_new h19 h23 h31 (fun q => h41 (hc38.symm.trans ((say_eq q).trans hc40)))
     refine ⟨_,rfl,?_⟩
     rintro (_|_) h55
     ·replace h55 : c51 = (0) := bne_eq_false_iff_eq.1 h55
      refine Cm 5 s51 [Ml 4 0,Ml 8 1,Ml 9 2,(10,vI 0),Ml 11 3,Ml 12 4,(13,vI c51),(55,vB false)] [(4,0,cNV g),(8,1,Zn),(9,2,[Sn,Sn]),(11,3,cNV u17.v),(12,4,cSV u51)] fun _ _ => ?_
      have hJ51 : Frs st s51 (pcNW u17 ++ pcS u51) := hF19.join ⟨hO51,hN51,hP51⟩
      have hFn := (hF19.later hP51).join Frs.s0
      refine cxs ?_
      refine ⟨_,rfl,?_⟩
      refine ⟨_,Od rfl,?_⟩
      refine ⟨_,Od rfl,?_⟩
      have hk51 : stateOk u51.x := say_ok0 h51 h55
      have hb51 := big_ok hk51
      refine ⟨_,rfl,(ac_impl_LogAdd g.g u51 s51 (hR.g.pres ((hP17.trans hP19).trans hP51)) hO51.rdS (bigLog_iff.1 hb.g) hb51).mono ?_⟩
      rintro _ s63 ⟨u63,b63,rfl,h63,hO63,hN63,hP63⟩
      rcases b63 with _|_
      ·iterate 3 refine ⟨_,rfl,?_⟩
       refine ⟨_,Os rfl,?_⟩
       refine Cm 6 s63 [Ml 4 0,Ml 8 1,Ml 9 2,(10,vI 0),Ml 11 3,Ml 12 4,Ml 14 5,(15,vB false)] [(4,0,cNV g),(8,1,Zn),(9,2,[Sn,Sn]),(11,3,cNV u17.v),(12,4,cSV u51),(14,5,[vI u63.cap,vI u63.frm,vS u63.p u63.l.length])] fun _ _ => ?_
       refine ⟨_,rfl,?_⟩
       refine Cm 6 s63 [Ml 4 0,Ml 8 1,Ml 9 2,(10,vI 0),Ml 11 3,Ml 12 4,Ml 14 5,(67,vB true)] [(4,0,cNV g),(8,1,Zn),(9,2,[Sn,Sn]),(11,3,cNV u17.v),(12,4,cSV u51),(14,5,[vI u63.cap,vI u63.frm,vS u63.p u63.l.length])] fun _ _ => ?_
       have hFn2 := (hF19.later (hP51.trans hP63)).join Frs.s0
       refine ⟨_,op_ldo (v := (vNV u17.v)) rfl rfl rfl rfl,?_⟩
       refine ⟨_,rfl,?_⟩
       refine ⟨_,op_stw (vs := cNV u17.v) rfl rfl rfl rfl rfl rfl rfl rfl,?_⟩
       refine ⟨_,Os rfl,?_⟩
       exact cxs (Rt ⟨u17,⟨none,none,nilS⟩,4,rfl,say_most hok h17 h51 h55 h63,hFn2.1,hFn2.2.1,hFn2.2.2⟩)
      ·iterate 3 refine ⟨_,rfl,?_⟩
       refine ⟨_,Os rfl,?_⟩
       refine Cm 6 s63 [Ml 4 0,Ml 8 1,Ml 9 2,(10,vI 0),Ml 11 3,Ml 12 4,Ml 14 5,(15,vB true)] [(4,0,cNV g),(8,1,Zn),(9,2,[Sn,Sn]),(11,3,cNV u17.v),(12,4,cSV u51),(14,5,[vI u63.cap,vI u63.frm,vS u63.p u63.l.length])] fun _ _ => ?_
       refine ⟨_,rfl,?_⟩
       refine Cm 6 s63 [Ml 4 0,Ml 8 1,Ml 9 2,(10,vI 0),Ml 11 3,Ml 12 4,Ml 14 5,(67,vB false)] [(4,0,cNV g),(8,1,Zn),(9,2,[Sn,Sn]),(11,3,cNV u17.v),(12,4,cSV u51),(14,5,[vI u63.cap,vI u63.frm,vS u63.p u63.l.length])] fun _ _ => ?_
       have hFn2 := (hF19.later (hP51.trans hP63)).join Frs.s0
       refine cxs ?_
       refine ⟨_,Od rfl,?_⟩
       refine ⟨_,rfl,?_⟩
       refine ⟨_,Os rfl,?_⟩
       refine Cm 6 s63 [Ml 4 0,Ml 8 1,Ml 9 2,(10,vI 0),Ml 11 3,Ml 12 4] [(4,0,cNV g),(8,1,Zn),(9,2,[Sn,Sn]),(11,3,Nv u17 [(6,vI u63.cap),(7,vI u63.frm),(8,vS u63.p u63.l.length)]),(12,4,cSV u51)] fun _ _ => ?_
       have hJ : Frs st s63 (pcNW { u17 with g := u63 } ++ pcS u51) := hJ51.ndG ⟨hO63,hN63,hP63⟩
       have hA := addL_yes h63
       obtain ⟨e1,hk2⟩ := said_ok h19 hA
       have e3 : logSeq u63.v.x = logSeq g.g.x + 1 := e1
       have hgl : u17.got.l = g.got.l := congrArg Nd.got h17
       have hrng := logSeq_rng u63.v.x
       have hlen : g.id.toNat < u17.got.l.length := by have := h19.id; have := h19.got.2.1; rw [hgl]; show g.id.toNat < g.x.got.length; have e : g.x.id = g.id := rfl; omega
       have hid : 0 ≤ g.id := h19.id.1
       have hO : OwnR s63 1 fI u17.got.p u17.got.l := hJ.1.left.ownGot
       obtain ⟨a,ha⟩ := hO.some (by omega)
       obtain ⟨b1,o1,k1,r,hpe,hr,hm1,hc1,hb1⟩ := (hO.rows fI_len).atB (j := g.id.toNat) hlen
       obtain ⟨rfl,rfl⟩ : a = b1 ∧ 0 = o1 := by rw [ha] at hpe; injection hpe with hpe; injection hpe with e1 e2; exact ⟨e1,e2⟩
       have hrv : r = logSeq g.g.x := by rw [hgl] at hr; exact Option.some.inj (hr.symm.trans h19.seq)
       refine ⟨_,rfl,?_⟩
       refine ⟨_,Od rfl,?_⟩
       refine ⟨_,rfl,?_⟩
       refine ⟨_,Od rfl,?_⟩
       refine ⟨_,op_idx (j := g.id) (n := u17.got.l.length) (q := ⟨a,0,none⟩) rfl (congrArg (fun v => vS v u17.got.l.length) ha) rfl rfl rfl hid (by omega),?_⟩
       refine ⟨_,op_ldc (i := 0) rfl rfl rfl rfl hm1 hc1 rfl rfl,?_⟩
       have e78 : IntKind.wrap .i64 (r + 1) = r + 1 := wrap_i64 (by omega) (by omega)
       refine ⟨_,rfl,?_⟩
       refine ⟨_,op_idx (j := g.id) (n := u17.got.l.length) (q := ⟨a,0,none⟩) rfl (congrArg (fun v => vS v u17.got.l.length) ha) rfl rfl rfl hid (by omega),?_⟩
       refine op_put (z := 1) (st := s63) (f := fI) (j := g.id.toNat) (l := u17.got.l) (y := IntKind.wrap .i64 (r + 1)) (p := u17.got.p) (d := 0 + g.id.toNat * 1) rfl rfl (Nat.zero_add _) rfl rfl fI_len rfl rfl hlen hO ha ?_
       intro s9 hO9 hP9 hn9
       refine Cm 6 s9 [Ml 8 1,Ml 9 2,(10,vI 0),Ml 11 3,Ml 12 4] [(8,1,Zn),(9,2,[Sn,Sn]),(11,3,Nv u17 [(6,vI u63.cap),(7,vI u63.frm),(8,vS u63.p u63.l.length)]),(12,4,cSV u51)] fun _ _ => ?_
       rw [e78] at hO9
       have hJ9 := hJ.gotSet hP9 hO9
       have hx9 : (NW.x { u17 with g := u63,got := ⟨u17.got.p,u17.got.l.set g.id.toNat (r + 1)⟩ } : Nd) = ownF g.x u63.v.x := by
        have e : r + 1 = logSeq u63.v.x := by omega
        rw [e,hgl]
        have e2 : ({ u17.x with g := u63.v.x,got := g.got.l.set g.id.toNat (logSeq u63.v.x) } : Nd) = ownF g.x u63.v.x := by rw [h17]; rfl
        exact e2
       have hR9 : RdN s9 (NW.v { u17 with g := u63,got := ⟨u17.got.p,u17.got.l.set g.id.toNat (r + 1)⟩ }) := OwnP.rdN hJ9.1.left
       have hD9 : RdS s9 u51 := hJ9.1.right.rdS
       have hb9 : bigN (ownF g.x u63.v.x) := ⟨hb.s,hb.t,big_add h63 hb.g hb51,by show (List.set _ _ _).length ≤ 1048576; rw [List.length_set]; exact hb.got,hb.acked,hb.seen,hb.sess,hb.rises⟩
       have hT : C 12 [.agg #[vI u17.id,vI u17.n,vS u17.s.p u17.s.x.items.length,vS u17.s.q u17.s.x.floors.length,vS u17.t.p u17.t.l.length,vI u17.t.root,vI u63.cap,vI u63.frm,vS u63.p u63.l.length,vS u17.got.p (u17.got.l.set g.id.toNat (r + 1)).length,vS u17.acked.p u17.acked.l.length,vS u17.seen.p u17.seen.t.length,vI u17.num,vI u17.slots,vS u17.sess.p u17.sess.l.length,vI u17.wait,vI u17.limit,vI u17.clock,vS u17.rises.p u17.rises.l.length],.agg #[vS u51.p u51.x.items.length,vS u51.q u51.x.floors.length]] s9 _ := (ac_impl_Take (NW.v { u17 with g := u63,got := ⟨u17.got.p,u17.got.l.set g.id.toNat (r + 1)⟩ }) u51 s9 hR9 hD9 (show bigN (NW.x { u17 with g := u63,got := ⟨u17.got.p,u17.got.l.set g.id.toNat (r + 1)⟩ }) from hx9 ▸ hb9) hb51)
       rw [List.length_set] at hT
       refine ⟨_,op_ldo (v := .agg #[vI u17.id,vI u17.n,vS u17.s.p u17.s.x.items.length,vS u17.s.q u17.s.x.floors.length,vS u17.t.p u17.t.l.length,vI u17.t.root,vI u63.cap,vI u63.frm,vS u63.p u63.l.length,vS u17.got.p u17.got.l.length,vS u17.acked.p u17.acked.l.length,vS u17.seen.p u17.seen.t.length,vI u17.num,vI u17.slots,vS u17.sess.p u17.sess.l.length,vI u17.wait,vI u17.limit,vI u17.clock,vS u17.rises.p u17.rises.l.length]) rfl rfl rfl rfl,?_⟩
       refine ⟨_,Od rfl,?_⟩
       refine ⟨_,rfl,hT.mono ?_⟩
       rintro _ s83 ⟨u83,b83,rfl,h83,hO83,hN83,hP83⟩
       iterate 2 refine ⟨_,rfl,?_⟩
       refine ⟨_,op_stw (vs := cNV u83.v) rfl rfl rfl rfl rfl rfl rfl rfl,?_⟩
       refine Cm 6 s83 [Ml 8 1,Ml 9 2,(10,vI 0),Ml 11 3,Ml 12 4] [(8,1,Zn),(9,2,[Sn,Sn]),(11,3,cNV u83.v),(12,4,cSV u51)] fun _ _ => ?_
       have hF83 : Frs st s83 (pcS u51 ++ pcNW u83) := Frs.join (b := s9) ⟨hJ9.1.right,fun c hc => hJ9.2.1 c (List.mem_append_right _ hc),hJ9.2.2⟩ ⟨hO83,hN83,hP83⟩
       have hF83 := hF83.comm
       have h83 : (u83.x,b83) = takeP (NW.x { u17 with g := u63,got := ⟨u17.got.p,u17.got.l.set g.id.toNat (r + 1)⟩ }) u51.x := h83
       rw [hx9] at h83
       have h83 := h83.trans (take_yes (g := ownF g.x u63.v.x) ⟨hk2,hk51⟩ rfl).symm
       injection h83 with h83 _
       refine ⟨_,op_ldo (v := (vNV u83.v)) rfl rfl rfl rfl,?_⟩
       refine ⟨_,Od rfl,?_⟩
       refine ⟨ld_own rfl rfl rfl,?_⟩
       refine ⟨_,op_stw (vs := cNV u83.v) rfl rfl rfl rfl rfl rfl rfl rfl,?_⟩
       refine ⟨sx_cons ⟨_,_,_,rfl,rfl,rfl,by decide⟩ (sx_nil),?_⟩
       refine ⟨_,Os rfl,?_⟩
       exact cxs (Rt ⟨u83,u51,0,rfl,say_yes hok h51 h55 h63 h83,hF83.1,hF83.2.1,hF83.2.2⟩)
     ·replace h55 : ¬ (c51 = (0)) := bne_iff_ne.1 h55
      refine Cm 5 s51 [Ml 4 0,Ml 8 1,Ml 9 2,(10,vI 0),Ml 11 3,Ml 12 4,(13,vI c51),(55,vB true)] [(4,0,cNV g),(8,1,Zn),(9,2,[Sn,Sn]),(11,3,cNV u17.v),(12,4,cSV u51)] fun _ _ => ?_
      have hJ51 : Frs st s51 (pcNW u17 ++ pcS u51) := hF19.join ⟨hO51,hN51,hP51⟩
      have hFn := (hF19.later hP51).join Frs.s0
      refine ⟨_,op_ldo (v := (vNV u17.v)) rfl rfl rfl rfl,?_⟩
      refine ⟨_,rfl,?_⟩
      refine ⟨_,op_stw (vs := cNV u17.v) rfl rfl rfl rfl rfl rfl rfl rfl,?_⟩
      refine ⟨_,Os rfl,?_⟩
      exact cxs (Rt ⟨u17,⟨none,none,nilS⟩,c51,rfl,say_how hok h17 h51 h55,hFn.1,hFn.2.1,hFn.2.2⟩)
    ·replace h41 : c38 = c40 := beq_iff_eq.1 h41
     refine ⟨_,rfl,?_⟩
     refine Cm 4 s19 [(1,vI kind),(2,vI id),(3,.string d),Ml 4 0,Ml 8 1,Ml 9 2,(10,vI 0),Ml 11 3,(42,vB true)] [(4,0,cNV g),(8,1,Zn),(9,2,[Sn,Sn]),(11,3,cNV u17.v)] fun _ _ => ?_
     have hF19 : Frs st s19 (pcNW u17) := ⟨hO17.pres hP19,hN17,hP17.trans hP19⟩
     have hFn := hF19.join Frs.s0
     refine ⟨_,op_ldo (v := (vNV u17.v)) rfl rfl rfl rfl,?_⟩
     refine ⟨_,rfl,?_⟩
     refine ⟨_,op_stw (vs := cNV u17.v) rfl rfl rfl rfl rfl rfl rfl rfl,?_⟩
     refine ⟨_,Os rfl,?_⟩
     exact cxs (Rt ⟨u17,⟨none,none,nilS⟩,1,rfl,say_bad (fun k => k.ne (eq_say (hc38.trans (h41.trans hc40.symm)))) h17,hFn.1,hFn.2.1,hFn.2.2⟩)
theorem ac_spec_Say (g : NV) (kind id : Int) (d : ByteArray) (st : St) (hR : RdN st g) (hb : bigN g.x) : C 36 [(vNV g),vI kind,vI id,.string d] st (fun v s => ∃ (u : NW) (w : SV) (c : Int),v = .tuple #[(vNV u),.agg #[vS w.p w.x.items.length,vS w.q w.x.floors.length],vI c] ∧ (u.x,w.x,c) = sayF g.x kind id d ∧ OwnP s (pcNW u ++ pcS w) ∧ NewP st.next (pcNW u ++ pcS w) ∧ Pres st s) := by
 refine AC.enterX (i := ⟨[4,8,9,11,12,14,16],[4,8,9,11,12,14,16,29,39,47,61,74,75,77,79,81],[0,1,2,3,4,8,9,10,11,12,13,14,15,16,43,56,68],[]⟩) [(12,[],[]),(13,[2,4],[3]),(1013,[],[12])] Tryz.func36 rfl rfl (by kernel_rfl) (by kernel_rfl) Tryz.ntmps36 (Lb rfl) rfl ?_
 iterate 3 refine ⟨_,rfl,?_⟩
 refine Cm 3 st [(1,vI kind),(2,vI id),(3,.string d),Ml 4 0,Ml 8 1,Ml 9 2,(10,vI 0)] [(4,0,cNV g),(8,1,Zn),(9,2,[Sn,Sn])] fun _ _ => ?_
 refine ⟨_,op_ldo (v := (vNV g)) rfl rfl rfl rfl,?_⟩
 refine ⟨_,rfl,(ac_spec_l11Copy g st hR (by first | assumption | omega)).mono ?_⟩
 rintro _ s18 ⟨u18,rfl,h18,hO18,hN18,hP18⟩
 refine ⟨_,rfl,?_⟩
 refine ⟨_,op_stw (vs := cNV u18.v) rfl rfl rfl rfl rfl rfl rfl rfl,?_⟩
 refine Cm 4 s18 [(1,vI kind),(2,vI id),(3,.string d),Ml 4 0,Ml 8 1,Ml 9 2,(10,vI 0),Ml 11 3] [(4,0,cNV g),(8,1,Zn),(9,2,[Sn,Sn]),(11,3,cNV u18.v)] fun _ _ => ?_
 refine ⟨_,op_ldo (v := (vNV g)) rfl rfl rfl rfl,?_⟩
 refine ⟨_,rfl,(ac_spec_NodeOk g s18 (hR.pres hP18) (by first | assumption | omega)).mono ?_⟩
 rintro _ s20 ⟨x20,rfl,h20,hP20⟩
 rcases x20 with _|_
 ·replace h20 := fun k => Bool.false_ne_true (h20.2 k)
  iterate 4 refine ⟨_,rfl,?_⟩
  refine Cm 4 s20 [(1,vI kind),(2,vI id),(3,.string d),Ml 4 0,Ml 8 1,Ml 9 2,(10,vI 0),Ml 11 3,(43,vB true)] [(4,0,cNV g),(8,1,Zn),(9,2,[Sn,Sn]),(11,3,cNV u18.v)] fun _ _ => ?_
  have hF20 : Frs st s20 (pcNW u18) := ⟨hO18.pres hP20,hN18,hP18.trans hP20⟩
  have hFn := hF20.join Frs.s0
  refine ⟨_,op_ldo (v := (vNV u18.v)) rfl rfl rfl rfl,?_⟩
  refine ⟨_,rfl,?_⟩
  refine ⟨_,op_stw (vs := cNV u18.v) rfl rfl rfl rfl rfl rfl rfl rfl,?_⟩
  refine ⟨_,Os rfl,?_⟩
  exact cxs (Rt ⟨u18,⟨none,none,nilS⟩,1,rfl,say_bad (fun k => h20 k.ok) h18,hFn.1,hFn.2.1,hFn.2.2⟩)
 ·replace h20 := h20.1 rfl
  refine ⟨_,rfl,?_⟩
  refine ⟨_,rfl,(ac_spec_l1In kind 0 4 s20).mono ?_⟩
  rintro _ s20 ⟨x24,rfl,h24,rfl⟩
  rcases x24 with _|_
  ·replace h24 := of_decide_eq_false h24.symm
   iterate 4 refine ⟨_,rfl,?_⟩
   refine Cm 4 s20 [(1,vI kind),(2,vI id),(3,.string d),Ml 4 0,Ml 8 1,Ml 9 2,(10,vI 0),Ml 11 3,(43,vB true)] [(4,0,cNV g),(8,1,Zn),(9,2,[Sn,Sn]),(11,3,cNV u18.v)] fun _ _ => ?_
   have hF20 : Frs st s20 (pcNW u18) := ⟨hO18.pres hP20,hN18,hP18.trans hP20⟩
   have hFn := hF20.join Frs.s0
   refine ⟨_,op_ldo (v := (vNV u18.v)) rfl rfl rfl rfl,?_⟩
   refine ⟨_,rfl,?_⟩
   refine ⟨_,op_stw (vs := cNV u18.v) rfl rfl rfl rfl rfl rfl rfl rfl,?_⟩
   refine ⟨_,Os rfl,?_⟩
   exact cxs (Rt ⟨u18,⟨none,none,nilS⟩,1,rfl,say_bad (fun k => h24 k.kd) h18,hFn.1,hFn.2.1,hFn.2.2⟩)
  ·replace h24 := of_decide_eq_true h24.symm
   iterate 3 refine ⟨_,rfl,?_⟩
   refine ⟨_,Od rfl,?_⟩
   have hnn : 1 ≤ g.n ∧ g.n ≤ 5 := h20.n
   have ew31 : IntKind.wrap .i64 (g.n - (1)) = g.n - (1) := wrap_i64 (by omega) (by omega)
   refine ⟨_,rfl,?_⟩
   refine ⟨_,rfl,(ac_spec_l1In id 0 (IntKind.wrap .i64 (g.n - (1))) s20).mono ?_⟩
   rintro _ s20 ⟨x32,rfl,h32,rfl⟩
   rcases x32 with _|_
   ·replace h32 := of_decide_eq_false h32.symm
    rw [ew31] at h32
    iterate 3 refine ⟨_,rfl,?_⟩
    refine Cm 4 s20 [(1,vI kind),(2,vI id),(3,.string d),Ml 4 0,Ml 8 1,Ml 9 2,(10,vI 0),Ml 11 3,(43,vB true)] [(4,0,cNV g),(8,1,Zn),(9,2,[Sn,Sn]),(11,3,cNV u18.v)] fun _ _ => ?_
    have hF20 : Frs st s20 (pcNW u18) := ⟨hO18.pres hP20,hN18,hP18.trans hP20⟩
    have hFn := hF20.join Frs.s0
    refine ⟨_,op_ldo (v := (vNV u18.v)) rfl rfl rfl rfl,?_⟩
    refine ⟨_,rfl,?_⟩
    refine ⟨_,op_stw (vs := cNV u18.v) rfl rfl rfl rfl rfl rfl rfl rfl,?_⟩
    refine ⟨_,Os rfl,?_⟩
    exact cxs (Rt ⟨u18,⟨none,none,nilS⟩,1,rfl,say_bad (fun k => h32 k.ix) h18,hFn.1,hFn.2.1,hFn.2.2⟩)
   ·replace h32 := of_decide_eq_true h32.symm
    rw [ew31] at h32
    iterate 2 refine ⟨_,rfl,?_⟩
    refine ⟨_,rfl,fun c37 hc37 => ?_⟩
    refine ⟨_,rfl,?_⟩
    refine ⟨_,Od rfl,?_⟩
    refine ⟨_,rfl,fun c41 hc41 => ?_⟩
    refine ⟨_,rfl,?_⟩
    rintro (_|_) h42
    ·replace h42 : ¬ (c37 = c41) := beq_eq_false_iff_ne.1 h42
     refine ⟨_,rfl,?_⟩
     refine Cm 4 s20 [(1,vI kind),(2,vI id),(3,.string d),Ml 4 0,Ml 8 1,Ml 9 2,(10,vI 0),Ml 11 3,(43,vB false)] [(4,0,cNV g),(8,1,Zn),(9,2,[Sn,Sn]),(11,3,cNV u18.v)] fun _ _ => ?_
     have hF20 : Frs st s20 (pcNW u18) := ⟨hO18.pres hP20,hN18,hP18.trans hP20⟩
     have hFn := hF20.join Frs.s0
     refine cxs ?_
     refine ⟨_,rfl,?_⟩
     refine ⟨_,Od rfl,?_⟩
     refine ⟨_,rfl,(ac_spec_l12Said g.s kind id d s20 (hR.s.pres (hP18.trans hP20)) (hb.s)).mono ?_⟩
     rintro _ s52 ⟨u52,c52,rfl,h52,hO52,hN52,hP52⟩
     iterate 3 refine ⟨_,rfl,?_⟩
     refine ⟨_,Os rfl,?_⟩
     refine Cm 5 s52 [Ml 4 0,Ml 8 1,Ml 9 2,(10,vI 0),Ml 11 3,Ml 12 4,(13,vI c52)] [(4,0,cNV g),(8,1,Zn),(9,2,[Sn,Sn]),(11,3,cNV u18.v),(12,4,cSV u52)] fun _ _ => ?_
     have hok : sayOk g.x kind id := say_new h20 h24 h32 (fun q => h42 (hc37.symm.trans ((say_eq q).symm.trans hc41)))
     refine ⟨_,rfl,?_⟩
     rintro (_|_) h56
     ·replace h56 : c52 = (0) := bne_eq_false_iff_eq.1 h56
      refine Cm 5 s52 [Ml 4 0,Ml 8 1,Ml 9 2,(10,vI 0),Ml 11 3,Ml 12 4,(13,vI c52),(56,vB false)] [(4,0,cNV g),(8,1,Zn),(9,2,[Sn,Sn]),(11,3,cNV u18.v),(12,4,cSV u52)] fun _ _ => ?_
      have hJ52 : Frs st s52 (pcNW u18 ++ pcS u52) := hF20.join ⟨hO52,hN52,hP52⟩
      have hFn := (hF20.later hP52).join Frs.s0
      refine cxs ?_
      refine ⟨_,rfl,?_⟩
      refine ⟨_,Od rfl,?_⟩
      refine ⟨_,Od rfl,?_⟩
      have hk52 : stateOk u52.x := say_ok0 h52 h56
      have hb52 := big_ok hk52
      refine ⟨_,rfl,(ac_spec_LogAdd g.g u52 s52 (hR.g.pres ((hP18.trans hP20).trans hP52)) hO52.rdS (bigLog_iff.1 hb.g) hb52).mono ?_⟩
      rintro _ s64 ⟨u64,b64,rfl,h64,hO64,hN64,hP64⟩
      rcases b64 with _|_
      ·iterate 3 refine ⟨_,rfl,?_⟩
       refine ⟨_,Os rfl,?_⟩
       refine Cm 6 s64 [Ml 4 0,Ml 8 1,Ml 9 2,(10,vI 0),Ml 11 3,Ml 12 4,Ml 14 5,(15,vB false)] [(4,0,cNV g),(8,1,Zn),(9,2,[Sn,Sn]),(11,3,cNV u18.v),(12,4,cSV u52),(14,5,[vI u64.cap,vI u64.frm,vS u64.p u64.l.length])] fun _ _ => ?_
       refine ⟨_,rfl,?_⟩
       refine Cm 6 s64 [Ml 4 0,Ml 8 1,Ml 9 2,(10,vI 0),Ml 11 3,Ml 12 4,Ml 14 5,(68,vB true)] [(4,0,cNV g),(8,1,Zn),(9,2,[Sn,Sn]),(11,3,cNV u18.v),(12,4,cSV u52),(14,5,[vI u64.cap,vI u64.frm,vS u64.p u64.l.length])] fun _ _ => ?_
       have hFn2 := (hF20.later (hP52.trans hP64)).join Frs.s0
       refine ⟨_,op_ldo (v := (vNV u18.v)) rfl rfl rfl rfl,?_⟩
       refine ⟨_,rfl,?_⟩
       refine ⟨_,op_stw (vs := cNV u18.v) rfl rfl rfl rfl rfl rfl rfl rfl,?_⟩
       refine ⟨_,Os rfl,?_⟩
       exact cxs (Rt ⟨u18,⟨none,none,nilS⟩,4,rfl,say_most hok h18 h52 h56 h64,hFn2.1,hFn2.2.1,hFn2.2.2⟩)
      ·iterate 3 refine ⟨_,rfl,?_⟩
       refine ⟨_,Os rfl,?_⟩
       refine Cm 6 s64 [Ml 4 0,Ml 8 1,Ml 9 2,(10,vI 0),Ml 11 3,Ml 12 4,Ml 14 5,(15,vB true)] [(4,0,cNV g),(8,1,Zn),(9,2,[Sn,Sn]),(11,3,cNV u18.v),(12,4,cSV u52),(14,5,[vI u64.cap,vI u64.frm,vS u64.p u64.l.length])] fun _ _ => ?_
       refine ⟨_,rfl,?_⟩
       refine Cm 6 s64 [Ml 4 0,Ml 8 1,Ml 9 2,(10,vI 0),Ml 11 3,Ml 12 4,Ml 14 5,(68,vB false)] [(4,0,cNV g),(8,1,Zn),(9,2,[Sn,Sn]),(11,3,cNV u18.v),(12,4,cSV u52),(14,5,[vI u64.cap,vI u64.frm,vS u64.p u64.l.length])] fun _ _ => ?_
       have hFn2 := (hF20.later (hP52.trans hP64)).join Frs.s0
       refine cxs ?_
       refine ⟨_,op_ldo (v := (vNV g)) rfl rfl rfl rfl,?_⟩
       refine ⟨_,rfl,(ac_spec_l11Copy g s64 (hR.pres (((hP18.trans hP20).trans hP52).trans hP64)) (by first | assumption | omega)).mono ?_⟩
       rintro _ s72 ⟨u72,rfl,h72,hO72,hN72,hP72⟩
       refine ⟨_,rfl,?_⟩
       refine ⟨_,op_stw (vs := cNV u72.v) rfl rfl rfl rfl rfl rfl rfl rfl,?_⟩
       refine Cm 7 s72 [Ml 4 0,Ml 8 1,Ml 9 2,(10,vI 0),Ml 12 4,Ml 14 5,Ml 16 6] [(4,0,cNV g),(8,1,Zn),(9,2,[Sn,Sn]),(12,4,cSV u52),(14,5,[vI u64.cap,vI u64.frm,vS u64.p u64.l.length]),(16,6,cNV u72.v)] fun _ _ => ?_
       refine ⟨_,Od rfl,?_⟩
       refine ⟨_,rfl,?_⟩
       refine ⟨_,Os rfl,?_⟩
       refine Cm 7 s72 [Ml 4 0,Ml 8 1,Ml 9 2,(10,vI 0),Ml 12 4,Ml 16 6] [(4,0,cNV g),(8,1,Zn),(9,2,[Sn,Sn]),(12,4,cSV u52),(16,6,Nv u72 [(6,vI u64.cap),(7,vI u64.frm),(8,vS u64.p u64.l.length)])] fun _ _ => ?_
       have hJ : Frs st s72 (pcNW { u72 with g := u64 } ++ pcS u52) := by
        have h1 : Frs st s64 (pcLog u64 ++ pcS u52) := (Frs.join (b := s52) ⟨hJ52.1.right,fun c hc => hJ52.2.1 c (List.mem_append_right _ hc),hJ52.2.2⟩ ⟨hO64,hN64,hP64⟩).comm
        have h2 : Frs st s72 (pcNW u72 ++ (pcLog u64 ++ pcS u52)) := (h1.join ⟨hO72,hN72,hP72⟩).comm
        exact h2.ndGin
       have hA := addL_yes h64
       obtain ⟨e1,hk2⟩ := said_ok h20 hA
       have e3 : logSeq u64.v.x = logSeq g.g.x + 1 := e1
       have hgl : u72.got.l = g.got.l := congrArg Nd.got h72
       have hrng := logSeq_rng u64.v.x
       have hlen : g.id.toNat < u72.got.l.length := by have := h20.id; have := h20.got.2.1; rw [hgl]; show g.id.toNat < g.x.got.length; have e : g.x.id = g.id := rfl; omega
       have hid : 0 ≤ g.id := h20.id.1
       have hO : OwnR s72 1 fI u72.got.p u72.got.l := hJ.1.left.ownGot
       obtain ⟨a,ha⟩ := hO.some (by omega)
       obtain ⟨b1,o1,k1,r,hpe,hr,hm1,hc1,hb1⟩ := (hO.rows fI_len).atB (j := g.id.toNat) hlen
       obtain ⟨rfl,rfl⟩ : a = b1 ∧ 0 = o1 := by rw [ha] at hpe; injection hpe with hpe; injection hpe with e1 e2; exact ⟨e1,e2⟩
       have hrv : r = logSeq g.g.x := by rw [hgl] at hr; exact Option.some.inj (hr.symm.trans h20.seq)
       refine ⟨_,rfl,?_⟩
       refine ⟨_,Od rfl,?_⟩
       refine ⟨_,rfl,?_⟩
       refine ⟨_,Od rfl,?_⟩
       refine ⟨_,rfl,?_⟩
       refine ⟨_,Od rfl,?_⟩
       refine ⟨_,rfl,?_⟩
       refine ⟨_,Od rfl,?_⟩
       refine ⟨_,op_idx (j := g.id) (n := u72.got.l.length) (q := ⟨a,0,none⟩) rfl (congrArg (fun v => vS v u72.got.l.length) ha) rfl rfl rfl hid (by omega),?_⟩
       refine ⟨_,op_ldc (i := 0) rfl rfl rfl rfl hm1 hc1 rfl rfl,?_⟩
       have e85 : IntKind.wrap .i64 (r + 1) = r + 1 := wrap_i64 (by omega) (by omega)
       refine ⟨_,rfl,?_⟩
       refine ⟨_,op_idx (j := g.id) (n := u72.got.l.length) (q := ⟨a,0,none⟩) rfl (congrArg (fun v => vS v u72.got.l.length) ha) rfl rfl rfl hid (by omega),?_⟩
       refine op_put (z := 1) (st := s72) (f := fI) (j := g.id.toNat) (l := u72.got.l) (y := IntKind.wrap .i64 (r + 1)) (p := u72.got.p) (d := 0 + g.id.toNat * 1) rfl rfl (Nat.zero_add _) rfl rfl fI_len rfl rfl hlen hO ha ?_
       intro s9 hO9 hP9 hn9
       refine Cm 7 s9 [Ml 8 1,Ml 9 2,(10,vI 0),Ml 12 4,Ml 16 6] [(8,1,Zn),(9,2,[Sn,Sn]),(12,4,cSV u52),(16,6,Nv u72 [(6,vI u64.cap),(7,vI u64.frm),(8,vS u64.p u64.l.length)])] fun _ _ => ?_
       rw [e85] at hO9
       have hJ9 := hJ.gotSet hP9 hO9
       have hx9 : (NW.x { u72 with g := u64,got := ⟨u72.got.p,u72.got.l.set g.id.toNat (r + 1)⟩ } : Nd) = ownF g.x u64.v.x := by
        have e : r + 1 = logSeq u64.v.x := by omega
        rw [e,hgl]
        have e2 : ({ u72.x with g := u64.v.x,got := g.got.l.set g.id.toNat (logSeq u64.v.x) } : Nd) = ownF g.x u64.v.x := by rw [h72]; rfl
        exact e2
       have hR9 : RdN s9 (NW.v { u72 with g := u64,got := ⟨u72.got.p,u72.got.l.set g.id.toNat (r + 1)⟩ }) := OwnP.rdN hJ9.1.left
       have hD9 : RdS s9 u52 := hJ9.1.right.rdS
       have hb9 : bigN (ownF g.x u64.v.x) := ⟨hb.s,hb.t,big_add h64 hb.g hb52,by show (List.set _ _ _).length ≤ 1048576; rw [List.length_set]; exact hb.got,hb.acked,hb.seen,hb.sess,hb.rises⟩
       have hT : C 56 [.agg #[vI u72.id,vI u72.n,vS u72.s.p u72.s.x.items.length,vS u72.s.q u72.s.x.floors.length,vS u72.t.p u72.t.l.length,vI u72.t.root,vI u64.cap,vI u64.frm,vS u64.p u64.l.length,vS u72.got.p (u72.got.l.set g.id.toNat (r + 1)).length,vS u72.acked.p u72.acked.l.length,vS u72.seen.p u72.seen.t.length,vI u72.num,vI u72.slots,vS u72.sess.p u72.sess.l.length,vI u72.wait,vI u72.limit,vI u72.clock,vS u72.rises.p u72.rises.l.length],.agg #[vS u52.p u52.x.items.length,vS u52.q u52.x.floors.length]] s9 _ := (ac_spec_l11Take (NW.v { u72 with g := u64,got := ⟨u72.got.p,u72.got.l.set g.id.toNat (r + 1)⟩ }) u52 s9 hR9 hD9 (show bigN (NW.x { u72 with g := u64,got := ⟨u72.got.p,u72.got.l.set g.id.toNat (r + 1)⟩ }) from hx9 ▸ hb9) hb52 (show stateOk (NW.x { u72 with g := u64,got := ⟨u72.got.p,u72.got.l.set g.id.toNat (r + 1)⟩ }).s from hx9 ▸ h20.s) hk52 (show (NW.x { u72 with g := u64,got := ⟨u72.got.p,u72.got.l.set g.id.toNat (r + 1)⟩ }).rises.length = 5 from hx9 ▸ h20.rises.1))
       rw [List.length_set] at hT
       refine ⟨_,op_ldo (v := .agg #[vI u72.id,vI u72.n,vS u72.s.p u72.s.x.items.length,vS u72.s.q u72.s.x.floors.length,vS u72.t.p u72.t.l.length,vI u72.t.root,vI u64.cap,vI u64.frm,vS u64.p u64.l.length,vS u72.got.p u72.got.l.length,vS u72.acked.p u72.acked.l.length,vS u72.seen.p u72.seen.t.length,vI u72.num,vI u72.slots,vS u72.sess.p u72.sess.l.length,vI u72.wait,vI u72.limit,vI u72.clock,vS u72.rises.p u72.rises.l.length]) rfl rfl rfl rfl,?_⟩
       refine ⟨_,Od rfl,?_⟩
       refine ⟨_,rfl,hT.mono ?_⟩
       rintro _ s89 ⟨u89,rfl,h89,hO89,hN89,hP89⟩
       refine ⟨hP89.2,?_⟩
       refine ⟨_,Od rfl,?_⟩
       refine ⟨ld_own rfl rfl rfl,?_⟩
       refine ⟨_,op_stw (vs := cNV u89.v) rfl rfl rfl rfl rfl rfl rfl rfl,?_⟩
       refine ⟨sx_cons ⟨_,_,_,rfl,rfl,rfl,by decide⟩ (sx_nil),?_⟩
       refine ⟨_,Os rfl,?_⟩
       refine cxs ?_
       have hF89 := (Frs.join (b := s9) ⟨hJ9.1.right,fun c hc => hJ9.2.1 c (List.mem_append_right _ hc),hJ9.2.2⟩ ⟨hO89,hN89,hP89⟩ : Frs st s89 (pcS u52 ++ pcNW u89)).comm
       have h89 : u89.x = takeF (NW.x { u72 with g := u64,got := ⟨u72.got.p,u72.got.l.set g.id.toNat (r + 1)⟩ }) u52.x := h89
       rw [hx9] at h89
       exact Rt ⟨u89,u52,0,rfl,say_yes hok h52 h56 h64 h89,hF89.1,hF89.2.1,hF89.2.2⟩
     ·replace h56 : ¬ (c52 = (0)) := bne_iff_ne.1 h56
      refine Cm 5 s52 [Ml 4 0,Ml 8 1,Ml 9 2,(10,vI 0),Ml 11 3,Ml 12 4,(13,vI c52),(56,vB true)] [(4,0,cNV g),(8,1,Zn),(9,2,[Sn,Sn]),(11,3,cNV u18.v),(12,4,cSV u52)] fun _ _ => ?_
      have hJ52 : Frs st s52 (pcNW u18 ++ pcS u52) := hF20.join ⟨hO52,hN52,hP52⟩
      have hFn := (hF20.later hP52).join Frs.s0
      refine ⟨_,op_ldo (v := (vNV u18.v)) rfl rfl rfl rfl,?_⟩
      refine ⟨_,rfl,?_⟩
      refine ⟨_,op_stw (vs := cNV u18.v) rfl rfl rfl rfl rfl rfl rfl rfl,?_⟩
      refine ⟨_,Os rfl,?_⟩
      exact cxs (Rt ⟨u18,⟨none,none,nilS⟩,c52,rfl,say_how hok h18 h52 h56,hFn.1,hFn.2.1,hFn.2.2⟩)
    ·replace h42 : c37 = c41 := beq_iff_eq.1 h42
     refine ⟨_,rfl,?_⟩
     refine Cm 4 s20 [(1,vI kind),(2,vI id),(3,.string d),Ml 4 0,Ml 8 1,Ml 9 2,(10,vI 0),Ml 11 3,(43,vB true)] [(4,0,cNV g),(8,1,Zn),(9,2,[Sn,Sn]),(11,3,cNV u18.v)] fun _ _ => ?_
     have hF20 : Frs st s20 (pcNW u18) := ⟨hO18.pres hP20,hN18,hP18.trans hP20⟩
     have hFn := hF20.join Frs.s0
     refine ⟨_,op_ldo (v := (vNV u18.v)) rfl rfl rfl rfl,?_⟩
     refine ⟨_,rfl,?_⟩
     refine ⟨_,op_stw (vs := cNV u18.v) rfl rfl rfl rfl rfl rfl rfl rfl,?_⟩
     refine ⟨_,Os rfl,?_⟩
     exact cxs (Rt ⟨u18,⟨none,none,nilS⟩,1,rfl,say_bad (fun k => k.ne (eq_say (hc41.trans (h42.symm.trans hc37.symm)))) h18,hFn.1,hFn.2.1,hFn.2.2⟩)
theorem lens_all {t u : List RV} (h : (u.map (·.l)).map List.length = (t.map (·.l)).map List.length) (k : ∀ r ∈ t,r.l.length = 5) : ∀ r ∈ u,r.l.length = 5 := fun r hr => by
 have h1 : r.l.length ∈ (u.map (·.l)).map List.length := List.mem_map_of_mem (List.mem_map_of_mem hr)
 rw [h] at h1
 obtain ⟨l,hl,h2⟩ := List.mem_map.1 h1
 obtain ⟨r',hr',rfl⟩ := List.mem_map.1 hl
 rw [← h2]; exact k r' hr'
theorem Frs.toT {a b : St} {q : Option Addr} {t : List RV} (hO : OwnP b (pcT q t)) (hN : NewP a.next (pcT q t)) (hP : Pres a b) : Frs a b (pcT q t) := ⟨hO,hN,hP⟩
theorem ac_d_l9Right {p : Option Addr} {bs : List Int} (c : Nat) (st : St) (hc : Cur st c p bs) (hs : bs.length < 1099511627776) : C 195 [vP c 0] st (fun v s => ∃ (q : Option Addr) (t : List RV),v = vS q t.length ∧ (0 < t.length ∧ t.length ≤ 4) ∧ (∀ r ∈ t,r.l.length = 5) ∧ FrC c st s (pcT q t) ∧ Cur s c p bs) := by
 refine AC.enterX (i := ⟨[],[],[0,2,3,4,5,13],[]⟩) [] Tryz.func195 rfl rfl (by kernel_rfl) (by kernel_rfl) Tryz.ntmps195 (Lb rfl) rfl ?_
 refine Cu lo0 st [(0,vP c 0),(2,Sn)] fun _ => ?_
 refine ⟨_,rfl,(ac_d_l1Below c 4 st hc (by first | assumption | omega)).mono ?_⟩
 rintro _ s7 ⟨r7,rfl,h7,h7',h7'',hC7,hL7⟩
 have ew8 : IntKind.wrap .i64 ((1) + r7) = (1) + r7 := wrap_i64 (by omega) (by omega)
 refine ⟨_,rfl,?_⟩
 refine AW.cut lo0 s7 [(0,vP c 0),(2,Sn),(3,vI ((1) + r7))] ⟨rfl,rfl,congrArg (Value.int .i64) ew8,trivial⟩ fun _ => ?_
 refine ⟨_,rfl,(ac_spec_TableNew ((1) + r7) s7).mono ?_⟩
 rintro _ s10 ⟨p10,t10,rfl,hO10,hN10,hP10,h10⟩
 refine cxs ?_
 have hF10 : FrC c st s10 (pcT p10 t10) := ((Frs.toT hO10 hN10 hP10).toC hC7.lt).sooner hL7 hc.lt
 have hC10 := hC7.pres hP10
 have hr10 := (tnew_rows h10).2.1
 have hl10 : (t10.length : Int) = 1 + r7 := by
  have := congrArg List.length h10
  rw [List.length_map,tnew,if_pos (by omega),List.length_replicate] at this
  omega
 refine Cu lo0 s10 [(0,vP c 0),(2,Sn),(3,vI ((1) + r7)),(4,vS p10 t10.length),(5,vI 0)] fun _ => ?_
 refine AW.loop0 (fun x : Nat × Option Addr × List RV => [(0,vP c 0),(2,.slice none 0 0),(3,vI ((1) + r7)),(4,vS x.2.1 x.2.2.length),(5,vI (x.1 : Int))]) (fun m (x : Nat × Option Addr × List RV) st' => m = (1 + r7).toNat - x.1 ∧ (x.1 : Int) ≤ 1 + r7 ∧ (x.2.2.length : Int) = 1 + r7 ∧ (∀ r ∈ x.2.2,r.l.length = 5) ∧ FrC c st st' (pcT x.2.1 x.2.2) ∧ Cur st' c p bs) (0,p10,t10) _ ⟨rfl,rfl,rfl,rfl,rfl,trivial⟩ rfl ⟨rfl,by simp only; omega,hl10,hr10,hF10,hC10⟩ ?_
 rintro m ⟨i,q,t⟩ ρ0 st' ⟨rfl,hi,hl,hr,hF,hC⟩
 simp only at hi hl hr hF
 refine ⟨_,rfl,?_⟩
 rintro (_|_) h13
 ·replace h13 : ¬ ((i : Int) < ((1) + r7)) := of_decide_eq_false h13
  refine Cu lo0 st' [(0,vP c 0),(2,Sn),(3,vI ((1) + r7)),(4,vS q t.length),(5,vI (i : Int)),(13,vB false)] fun _ => ?_
  refine cxs ?_
  exact cxs (Rt ⟨q,t,rfl,⟨by omega,by omega⟩,hr,hF,hC⟩)
 ·replace h13 : (i : Int) < ((1) + r7) := of_decide_eq_true h13
  refine Cu lo0 st' [(0,vP c 0),(2,Sn),(3,vI ((1) + r7)),(4,vS q t.length),(5,vI (i : Int)),(13,vB true)] fun _ => ?_
  refine cxs ?_
  refine ⟨_,rfl,(ac_d_l3Right c st' hC (by first | assumption | omega)).mono ?_⟩
  rintro _ s19 ⟨u19,rfl,h19,hF19,hC19⟩
  have hb19 := big_ok h19
  refine ⟨_,rfl,(ac_spec_MarksOf u19 s19 (hF19.1.rdS) (by first | assumption | omega)).mono ?_⟩
  rintro _ s20 ⟨q20,rfl,hO20,hP20,hN20⟩
  have hF20 := (hF.join hF19).step hP20
  have hst : szOk t.length := by unfold szOk; omega
  have hsr : ∀ r ∈ t,szOk r.l.length := fun r hr' => by rw [hr r hr']; unfold szOk; omega
  refine ⟨_,rfl,(ac_spec_TableAdd q q20 t (i : Int) (marksF (goneAt u19.x) 5) s20 hF20.left.1.rdT (hO20.rows len_cFlr) hst hsr (szm _)).mono ?_⟩
  rintro _ s21 ⟨q21,u21,rfl,h21,h21',hO21,hN21,hP21⟩
  refine AW.cut lo0 s21 [(0,vP c 0),(2,Sn),(3,vI ((1) + r7)),(4,vS q21 u21.length),(5,vI (i : Int)),(13,vB true)] ⟨rfl,rfl,rfl,congrArg (vS q21) h21.symm,rfl,rfl,trivial⟩ fun _ => ?_
  have hF21 : FrC c st s21 (pcT q21 u21) := ((Frs.toT hO21 hN21 hP21).toC hF20.lt).sooner hF20.2.2.1 hc.lt
  have hC21 := (hC19.pres hP20).pres hP21
  have ew15 : IntKind.wrap .i64 ((i : Int) + (1)) = ((i + 1 : Nat) : Int) := (wrap_i64 (by omega) (by omega)).trans (by omega)
  refine ⟨_,rfl,?_⟩
  exact ⟨(i + 1,q21,u21),(1 + r7).toNat - (i + 1),by omega,⟨rfl,rfl,rfl,rfl,congrArg (Value.int .i64) ew15,trivial⟩,rfl,rfl,by simp only; omega,by simp only; rw [h21]; exact hl,lens_all (by rw [h21']; exact tableAdd_lens _ _ _) hr,hF21,hC21⟩
abbrev Hold (L : List Pc) (R : St → Prop) : Prop := ∀ s,OwnP s L → R s
section
variable {P : Program} {ls : List Tmp} {call : ACallT} {o : Oper} {e : Operand → Value} {lo : Lo} {st : St}
theorem op_slH {t el : TypeId} {x w : Operand} {p : Option Addr} {n j z : Nat} {b : Int} (ho : o.op = .slice t x none (some w) none) (hx : e x = .slice p n n) (hw : e w = vI b) (hb : b = (j : Int)) (he : telem P t = some el) (hz : tsize P el = some z) (h1 : j ≤ n) : aoper P ls call o e lo st = some (.slice p j j,lo,st) := by
 obtain ⟨d,op,ty,pos,after,gd⟩ := o
 simp only at ho
 subst ho hb
 have hp : (p.map fun q => (⟨q.block,q.off + 0 * z,q.spot⟩ : Addr)) = p := by cases p <;> simp
 simp only [aoper,rop,hx,hw,aslice,he,hz,Option.bind_some,Option.map_none,Option.map_some,abound,Option.bind]
 rw [if_pos (Int.natCast_nonneg j)]
 simp only [Int.toNat_natCast]
 rw [if_pos ⟨Nat.zero_le _,h1⟩,hp]
 rfl
end
theorem hold_cut {q : Option Addr} {t : List RV} {r : RV} (h0 : t[0]? = some r) (k : Nat) : Hold (pcR 1 cRV q (t.set 0 ⟨r.p,r.l.take k⟩) :: t.map pcRV) fun s => RdT s q (t.set 0 ⟨r.p,r.l.take k⟩) := fun s h => by
 have hrow : ∀ x ∈ t,Rows s 1 fI x.p x.l := fun x hx => (pc_own (f := fI) Nat.one_pos fI_len (h.1 (pcRV x) (List.mem_cons_of_mem _ (List.mem_map_of_mem hx)))).rows fI_len
 refine ⟨(pc_own (f := cRV) Nat.one_pos cRV_len (h.1 _ (List.mem_cons_self ..))).rows cRV_len,fun x hx => ?_⟩
 rcases List.mem_or_eq_of_mem_set hx with hx | rfl
 ·exact hrow x hx
 ·exact (hrow r (List.mem_of_getElem? h0)).take k
theorem ac_d_l9Draw {p : Option Addr} {bs : List Int} (c : Nat) (st : St) (hc : Cur st c p bs) (hs : bs.length < 1099511627776) : C 144 [vP c 0] st (fun v s => ∃ (q : Option Addr) (t : List RV) (L : List Pc),v = vS q t.length ∧ (t.length ≤ 4 ∧ ∀ r ∈ t,r.l.length ≤ 5) ∧ FrC c st s L ∧ Hold L (fun s' => RdT s' q t) ∧ Cur s c p bs) := by
 refine AC.enterX (i := ⟨[],[],[0,2,3,7,8,16,25],[]⟩) [(2006,[],[1]),(6,[4,5],[2])] Tryz.func144 rfl rfl (by kernel_rfl) (by kernel_rfl) Tryz.ntmps144 (Lb rfl) rfl ?_
 refine Cu lo0 st [(0,vP c 0),(2,Sn)] fun _ => ?_
 refine ⟨_,rfl,(ac_d_l9Right c st hc (by first | assumption | omega)).mono ?_⟩
 rintro _ s5 ⟨q5,t5,rfl,h5,h5',hF5,hC5⟩
 refine Cu lo0 s5 [(0,vP c 0),(2,Sn),(3,vS q5 t5.length)] fun _ => ?_
 refine ⟨_,rfl,(ac_d_l1Below c 12 s5 hC5 (by first | assumption | omega)).mono ?_⟩
 rintro _ s7 ⟨r7,rfl,h7,h7',h7'',hC7,hL7⟩
 refine Cu lo0 s7 [(0,vP c 0),(2,Sn),(3,vS q5 t5.length),(7,vI r7)] fun _ => ?_
 have hF7 := hF5.later hL7
 have hR7 := hF7.1.rdT
 have hsz : t5.length ≤ 4 ∧ ∀ r ∈ t5,r.l.length ≤ 5 := ⟨h5.2,fun r hr => Nat.le_of_eq (h5' r hr)⟩
 have hl0 : 0 < t5.length := h5.1
 refine ⟨_,rfl,?_⟩
 rintro (_|_) h9
 ·replace h9 : ¬ (r7 = (0)) := beq_eq_false_iff_ne.1 h9
  refine Cu lo0 s7 [(0,vP c 0),(2,Sn),(3,vS q5 t5.length),(7,vI r7),(8,vB false)] fun _ => ?_
  refine ⟨_,rfl,?_⟩
  rintro (_|_) h17
  ·replace h17 : ¬ (r7 = (1)) := beq_eq_false_iff_ne.1 h17
   refine Cu lo0 s7 [(0,vP c 0),(2,Sn),(3,vS q5 t5.length),(7,vI r7),(16,vB false)] fun _ => ?_
   refine ⟨_,rfl,?_⟩
   rintro (_|_) h26
   ·replace h26 : ¬ (r7 = (2)) := beq_eq_false_iff_ne.1 h26
    refine Cu lo0 s7 [(2,Sn),(3,vS q5 t5.length),(25,vB false)] fun _ => ?_
    refine cxs ?_
    exact cxs (Rt ⟨q5,t5,_,rfl,hsz,hF7,fun s' hO => hO.rdT,hC7⟩)
   ·replace h26 : r7 = (2) := beq_iff_eq.1 h26
    refine Cu lo0 s7 [(2,Sn),(3,vS q5 t5.length),(25,vB true)] fun _ => ?_
    refine cxs ?_
    exact cxs (Rt ⟨none,[],[],rfl,⟨Nat.zero_le _,fun r hr => (nomatch hr)⟩,⟨OwnP.nil,NewP.nil,hF7.2.2⟩,fun s' _ => ⟨Rows.nil,fun r hr => (nomatch hr)⟩,hC7⟩)
  ·replace h17 : r7 = (1) := beq_iff_eq.1 h17
   refine Cu lo0 s7 [(0,vP c 0),(2,Sn),(3,vS q5 t5.length),(7,vI r7),(16,vB true)] fun _ => ?_
   refine ⟨(fun a => a < s7.next ∧ a ≠ c),?_⟩
   refine op_at 0 hR7.1 (by omega) rfl rfl rfl rfl rfl rfl rfl ?_
   intro x19 b19 d19 k19 hy19 hb19 hm19 hc19 ho19
   have hm20 : x19 ∈ t5 := List.mem_of_getElem? hy19
   have hx5 : x19.l.length = 5 := h5' _ hm20
   have hne : b19 ≠ c := by
    obtain ⟨a,ha⟩ := (hF7.1.outer).some hl0
    obtain ⟨o,ho⟩ := ho19
    have := hF7.2.1 _ (List.mem_cons_self ..) ⟨b19,o,none⟩ ho
    exact Nat.ne_of_gt (Nat.lt_of_lt_of_le hc.lt this)
   refine ⟨_,op_ldc (i := 0) rfl rfl rfl rfl hm19 hc19 rfl rfl,?_⟩
   refine ⟨ld_lt rfl rfl ⟨hb19,hne⟩,?_⟩
   refine op_litI (k := .i64) (l := [-1,1001]) rfl rfl rfl rfl rfl rfl (Lb rfl) ?_
   intro q22 s22 hO22 hP22 hN22
   refine ⟨fun a ha => hP22.2 a ha.1,?_⟩
   refine ⟨_,rfl,(ac_d_l1PickInt c q22 [-1,1001] s22 (hC7.pres hP22) hs (by decide) hO22 (NC.new hN22 hC7.lt)).mono ?_⟩
   rintro _ s23 ⟨r23,rfl,h23,hC23,hL23⟩
   refine ⟨fun a ha => hL23.2 a (Nat.lt_of_lt_of_le ha.1 hP22.1) ha.2,?_⟩
   have hF23 := (hF7.step hP22).later hL23
   have hO23 : OwnR s23 1 fI x19.p x19.l := hF23.1.row hm20
   obtain ⟨a,ha⟩ := hO23.some (by omega)
   refine ⟨_,op_idx (j := 0) (n := x19.l.length) (q := ⟨a,0,none⟩) rfl (congrArg (fun v => vS v x19.l.length) ha) rfl rfl rfl (Int.le_refl 0) (by omega),?_⟩
   refine op_put (st := s23) (f := fI) (j := 0) (l := x19.l) (y := r23) (p := x19.p) (d := 0 + (0 : Int).toNat * 1) rfl rfl rfl rfl rfl fI_len rfl rfl (by omega) hO23 ha ?_
   intro s24 hO24 hP24 hn24
   refine cxs ?_
   refine cxs ?_
   have hNq : New st.next x19.p := hF23.2.1 (pcRV x19) (List.mem_cons_of_mem _ (List.mem_map_of_mem hm20))
   have hPC := PresC.thenNew hF23.2.2.1 hP24 hNq
   have hput : OwnP s24 (pcT q5 (putT t5 0 ⟨x19.p,x19.l.set 0 r23⟩)) := OwnP.put (l := x19.l) (by rw [show (⟨x19.p,x19.l⟩ : RV) = x19 from rfl,putT_self hy19]; exact hF23.1) hP24 hO24 List.length_set
   have hlen := putT_len (x := (⟨x19.p,x19.l.set 0 r23⟩ : RV)) hl0
   refine ⟨.inl rfl,_,rfl,q5,_,_,congrArg (vS q5) hlen.symm,⟨by rw [hlen]; exact h5.2,fun r hr => ?_⟩,⟨hput,fun x hx => ?_,hPC,hc.lt⟩,fun s' hO => hO.rdT,hC23.thenNew hc hF23.2.2.1 hP24 hNq⟩
   ·rcases List.mem_append.1 hr with hr | hr
    ·exact hsz.2 r (List.mem_of_mem_take hr)
    ·rcases List.mem_cons.1 hr with rfl | hr
     ·simp only [List.length_set]; omega
     ·exact hsz.2 r (List.mem_of_mem_drop hr)
   ·rcases List.mem_cons.1 hx with rfl | hx
    ·exact hF23.2.1 (pcR 1 cRV q5 t5) (List.mem_cons_self ..)
    ·obtain ⟨r,hr,rfl⟩ := List.mem_map.1 hx
     rcases List.mem_append.1 hr with hr | hr
     ·exact hF23.2.1 _ (List.mem_cons_of_mem _ (List.mem_map_of_mem (List.mem_of_mem_take hr)))
     ·rcases List.mem_cons.1 hr with rfl | hr
      ·exact hNq
      ·exact hF23.2.1 _ (List.mem_cons_of_mem _ (List.mem_map_of_mem (List.mem_of_mem_drop hr)))
 ·replace h9 : r7 = (0) := beq_iff_eq.1 h9
  refine Cu lo0 s7 [(0,vP c 0),(2,Sn),(3,vS q5 t5.length),(7,vI r7),(8,vB true)] fun _ => ?_
  refine op_at 0 hR7.1 (by omega) rfl rfl rfl rfl rfl rfl rfl ?_
  intro x12 b12 d12 k12 hy12 hb12 hm12 hc12 ho12
  refine ⟨_,op_ldc (i := 0) rfl rfl rfl rfl hm12 hc12 rfl rfl,?_⟩
  have hx5 : x12.l.length = 5 := h5' _ (List.mem_of_getElem? hy12)
  refine ⟨_,op_slH (p := x12.p) (n := x12.l.length) (j := 3) rfl rfl rfl rfl rfl rfl (by omega),?_⟩
  have hO7 : OwnR s7 1 cRV q5 t5 := hF7.1.outer
  obtain ⟨a,ha⟩ := hO7.some hl0
  refine ⟨_,op_idx (j := 0) (n := t5.length) (q := ⟨a,0,none⟩) rfl (congrArg (fun v => vS v t5.length) ha) rfl rfl rfl (Int.le_refl 0) (by omega),?_⟩
  refine op_put (st := s7) (f := cRV) (j := 0) (l := t5) (y := (⟨x12.p,x12.l.take 3⟩ : RV)) (p := q5) (d := 0 + (0 : Int).toNat * 1) rfl rfl rfl rfl rfl cRV_len (congrArg (fun n => [vS x12.p n]) (show 3 = (x12.l.take 3).length by rw [List.length_take]; omega)) rfl hl0 hO7 ha ?_
  intro s15 hO15 hP15 hn15
  refine cxs ?_
  refine cxs ?_
  have hNq : New st.next q5 := hF7.2.1 _ (List.mem_cons_self ..)
  have hPC := PresC.thenNew hF7.2.2.1 hP15 hNq
  refine ⟨.inl rfl,_,rfl,q5,_,_,congrArg (vS q5) List.length_set.symm,⟨by rw [List.length_set]; exact h5.2,fun r hr => ?_⟩,⟨OwnP.update (l := []) (d := pcR 1 cRV q5 (t5.set 0 ⟨x12.p,x12.l.take 3⟩)) hF7.1 hP15 (own_pc hO15) rfl,NewP.cons hNq (fun x hx => hF7.2.1 x (List.mem_cons_of_mem _ hx)),hPC,hc.lt⟩,hold_cut hy12 3,hC7.thenNew hc hF7.2.2.1 hP15 hNq⟩
  rcases List.mem_or_eq_of_mem_set hr with hr | rfl
  ·exact hsz.2 r hr
  ·simp only [List.length_take]; omega
end Go.Proofs.YtpnolkhfeliehaaGreat.AM
