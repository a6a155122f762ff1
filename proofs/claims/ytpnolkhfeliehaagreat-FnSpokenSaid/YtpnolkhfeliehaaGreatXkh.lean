/- Part 8 of the texts on which the law's proof rests. -/
import Derived.Test.YtpnolkhfeliehaaGreatXkg
namespace Go.Proofs.YtpnolkhfeliehaaGreat.AM
open Go Go.Proofs
set_option linter.unusedVariables false
set_option linter.unusedSimpArgs false
set_option maxRecDepth 100000
set_option maxHeartbeats 4000000
theorem FrC.perm {c : Nat} {a b : St} {l m : List Pc} (h : FrC c a b l) (hp : l.Perm m) : FrC c a b m := ⟨h.1.perm hp,fun x hx => h.2.1 x (hp.mem_iff.2 hx),h.2.2⟩
theorem FrC.swap {c : Nat} {a b d : St} {A C D B : List Pc} (h : FrC c a b (A ++ (C ++ B))) (hF : FrC c b d D) : FrC c a d (A ++ (D ++ B)) :=
 ((h.join hF).perm (m := C ++ (A ++ (D ++ B))) (by
  classical
  exact List.perm_iff_count.2 fun x => by simp only [List.count_append]; omega)).right
theorem FrC.setMid {c : Nat} {a b d : St} {A B : List Pc} {x y : Pc} (h : FrC c a b (A ++ x :: B)) (hp : Pr x.p b d) (hd : y.own d) (he : y.p = x.p) : FrC c a d (A ++ y :: B) ∧ PresC c a d :=
 have hm : New a.next x.p := h.2.1 x (List.mem_append_right _ (List.mem_cons_self ..))
 have hP := PresC.thenNew h.2.2.1 hp hm
 ⟨⟨h.1.update hp hd he,fun z hz => by
  rcases List.mem_append.1 hz with hz | hz
  ·exact h.2.1 z (List.mem_append_left _ hz)
  ·rcases List.mem_cons.1 hz with rfl | hz
   ·rw [he]; exact hm
   ·exact h.2.1 z (List.mem_append_right _ (List.mem_cons_of_mem _ hz)),hP,h.2.2.2⟩,hP⟩
theorem FrC.ndE {c : Nat} {a b d : St} {v : NW} {u : TT} (h : FrC c a b (pcNW v)) (hF : FrC c b d (pcTT u)) : FrC c a d (pcNW { v with seen := u }) := by
 have e : ∀ x : TT,pcNW { v with seen := x } = (pcS v.s ++ (pcIs v.t.toRV ++ (pcLog v.g ++ (pcIs v.got ++ pcIs v.acked)))) ++ (pcTT x ++ (pcSes v.sess ++ pcRis v.rises)) := fun x => by simp only [List.append_assoc]
 rw [e]
 exact FrC.swap (C := pcTT v.seen) (by rw [← e]; exact h) hF
theorem FrC.gotSet {c : Nat} {a b d : St} {v : NW} {l : List Int} (h : FrC c a b (pcNW v)) (hp : Pr v.got.p b d) (hO : OwnR d 1 fI v.got.p l) : FrC c a d (pcNW { v with got := ⟨v.got.p,l⟩ }) ∧ PresC c a d := by
 have h : FrC c a b (pcNW { v with got := v.got }) := h
 rw [NW.gotAt] at h ⊢
 exact FrC.setMid (x := pcR 1 fI v.got.p v.got.l) h hp (own_pc hO) rfl
theorem FrC.ackedSet {c : Nat} {a b d : St} {v : NW} {l : List Int} (h : FrC c a b (pcNW v)) (hp : Pr v.acked.p b d) (hO : OwnR d 1 fI v.acked.p l) : FrC c a d (pcNW { v with acked := ⟨v.acked.p,l⟩ }) ∧ PresC c a d := by
 have h : FrC c a b (pcNW { v with acked := v.acked }) := h
 rw [NW.ackedAt] at h ⊢
 exact FrC.setMid (x := pcR 1 fI v.acked.p v.acked.l) h hp (own_pc hO) rfl
theorem NewP.got {n : Nat} {v : NW} (h : NewP n (pcNW v)) : New n v.got.p := by
 have h : NewP n (pcNW { v with got := v.got }) := h
 rw [NW.gotAt] at h
 exact h _ (List.mem_append_right _ (List.mem_cons_self ..))
theorem NewP.acked {n : Nat} {v : NW} (h : NewP n (pcNW v)) : New n v.acked.p := by
 have h : NewP n (pcNW { v with acked := v.acked }) := h
 rw [NW.ackedAt] at h
 exact h _ (List.mem_append_right _ (List.mem_cons_self ..))
theorem node_big {x : Nd} (h : nodeOk x) : bigN x := by
 have h1 := tree_len x.s
 have h2 := h.g.2.1
 have h3 := h.g.1.2
 have h4 := h.got.2.1
 have h5 := h.acked.2.1
 have h6 := h.n.2
 have h7 := h.seen.2.1
 have h8 := h.sess.1
 have h9 := h.slots.2
 have h10 := h.rises.1
 refine ⟨big_ok h.s,by rw [h.t]; unfold szOk; omega,⟨by unfold szOk; omega,fun s hs => big_ok (h.g.2.2.2.2 s hs)⟩,by unfold szOk; omega,by unfold szOk; omega,⟨by unfold szOk; omega,fun l hl => by have := (h.seen.2.2 l hl).1; unfold szOk; omega⟩,by unfold szOk; omega,by unfold szOk; omega⟩
theorem say_node {x : Nd} {kind id : Int} {d : ByteArray} (h : nodeOk x) : nodeOk (sayF x kind id d).1 ∧ (sayF x kind id d).1.n = x.n := by
 unfold sayF
 split
 ·split
  ·rename_i hk h0
   obtain ⟨gl,bl,hA⟩ : ∃ gl bl,(gl,bl) = addL x.g (sayS x.s kind id d).1 := ⟨_,_,rfl⟩
   rw [← hA]
   have hs : stateOk (sayS x.s kind id d).1 := say_ok (s := x.s) (kind := kind) (id := id) (data := d) (by rw [← h0])
   cases bl with
   | true => rw [if_pos rfl]; exact ⟨take_ok (said_ok h (addL_yes hA)).2 hs,rfl⟩
   | false => rw [if_neg Bool.false_ne_true]; exact ⟨h,rfl⟩
  ·exact ⟨h,rfl⟩
 ·exact ⟨h,rfl⟩
theorem syn_n {x : Nd} {to : Int} : (synF x to).1.n = x.n := by
 unfold synF
 split <;> rfl
theorem tick_n {x : Nd} : (tickF x).n = x.n := by
 unfold tickF
 split <;> rfl
theorem ac_d_l11Right {p : Option Addr} {bs : List Int} (c : Nat) (st : St) (hc : Cur st c p bs) (hs : bs.length < 1099511627776) : C 142 [vP c 0] st (fun v s => ∃ u : NW,v = (vNV u) ∧ nodeOk u.x ∧ FrC c st s (pcNW u) ∧ Cur s c p bs) := by
 refine AC.enterX (i := ⟨[2,4],[2,4,67,76,94,97,103,107],[0,2,3,4,6,7,8,36,40,55,61,65,77,90,96],[]⟩) [(2010,[],[1]),(2014,[],[1]),(2016,[],[1]),(2021,[],[1]),(2022,[],[1]),(2008,[],[1]),(10,[2],[0]),(14,[4,6,7],[1]),(16,[3],[0]),(8,[2,5,7,8],[0]),(21,[4],[1]),(22,[6,8],[1])] Tryz.func142 rfl rfl (by kernel_rfl) (by kernel_rfl) Tryz.ntmps142 (Lb rfl) rfl ?_
 refine ⟨_,rfl,?_⟩
 refine Cm 1 st [(0,vP c 0),Ml 2 0] [(2,0,Zn)] fun _ _ => ?_
 refine ⟨_,rfl,(ac_d_l1Below c 4 st hc (by first | assumption | omega)).mono ?_⟩
 rintro _ s10 ⟨r10,rfl,h10,h10',h10'',hC10,hL10⟩
 have ew11 : IntKind.wrap .i64 ((1) + r10) = (1) + r10 := wrap_i64 (by omega) (by omega)
 refine ⟨_,rfl,?_⟩
 refine AW.cutM (1) s10 [(0,vP c 0),Ml 2 0,(3,vI ((1) + r10))] [(2,0,Zn)] ⟨rfl,rfl,congrArg (Value.int .i64) ew11,trivial⟩ ⟨rfl,trivial⟩ rfl fun _ _ => ?_
 refine ⟨_,rfl,(ac_d_l1Below c ((1) + r10) s10 hC10 (by first | assumption | omega)).mono ?_⟩
 rintro _ s15 ⟨r15,rfl,h15,h15',h15'',hC15,hL15⟩
 refine op_litI (k := .i64) (l := [1,2,8]) rfl rfl rfl rfl rfl rfl (Lb rfl) ?_
 intro q18 s18 hO18 hP18 hN18
 refine ⟨_,rfl,(ac_d_l1PickInt c q18 ([1,2,8]) s18 (hC15.pres hP18) (by first | assumption | omega) (by first | assumption | omega | decide) (by first | assumption | omega) (by first | assumption | exact NC.new (by assumption) (Cur.lt (by assumption)))).mono ?_⟩
 rintro _ s19 ⟨r19,rfl,h19,hC19,hL19⟩
 refine ⟨_,rfl,(ac_d_l1Below c 3 s19 hC19 (by first | assumption | omega)).mono ?_⟩
 rintro _ s21 ⟨r21,rfl,h21,h21',h21'',hC21,hL21⟩
 have ew22 : IntKind.wrap .i64 ((1) + r21) = (1) + r21 := wrap_i64 (by omega) (by omega)
 refine ⟨_,rfl,?_⟩
 refine ⟨_,rfl,(ac_d_l1Below c 5 s21 hC21 (by first | assumption | omega)).mono ?_⟩
 rintro _ s24 ⟨r24,rfl,h24,h24',h24'',hC24,hL24⟩
 have ew25 : IntKind.wrap .i64 ((1) + r24) = (1) + r24 := wrap_i64 (by omega) (by omega)
 refine ⟨_,rfl,?_⟩
 refine ⟨_,rfl,(ac_d_l1Below c 6 s24 hC24 (by first | assumption | omega)).mono ?_⟩
 rintro _ s27 ⟨r27,rfl,h27,h27',h27'',hC27,hL27⟩
 have ew28 : IntKind.wrap .i64 ((1) + r27) = (1) + r27 := wrap_i64 (by omega) (by omega)
 refine ⟨_,rfl,?_⟩
 refine ⟨_,rfl,(ac_spec_NodeNew r15 ((1) + r10) r19 (IntKind.wrap .i64 ((1) + r21)) (IntKind.wrap .i64 ((1) + r24)) (IntKind.wrap .i64 ((1) + r27)) s27).mono ?_⟩
 rintro _ s29 ⟨u29,b29,rfl,h29,hO29,hN29,hP29⟩
 rw [ew22,ew25,ew28] at h29
 iterate 3 refine ⟨_,rfl,?_⟩
 refine ⟨_,op_stw (vs := cNV u29.v) rfl rfl rfl rfl rfl rfl rfl rfl,?_⟩
 refine Cm 2 s29 [(0,vP c 0),Ml 2 0,(3,vI ((1) + r10)),Ml 4 1] [(2,0,Zn),(4,1,cNV u29.v)] fun _ _ => ?_
 have hcap : 1 ≤ r19 ∧ r19 ≤ 8 := by simp only [List.mem_cons,List.not_mem_nil,or_false] at h19; omega
 have hPP := (((((hL10.trans hL15).trans hP18.c).trans hL19).trans hL21).trans hL24).trans hL27
 have hF29 : FrC c st s29 (pcNW u29) := ((Frs.toC ⟨hO29,hN29,hP29⟩ hC27.lt).sooner hPP hc.lt)
 have hC29 := hC27.pres hP29
 obtain ⟨hk29,he29⟩ := newF_ok h29 (by omega) (by omega) hcap (by omega) (by omega) (by omega)
 have hn29 : u29.n = 1 + r10 := congrArg Nd.n he29
 refine ⟨_,rfl,(ac_d_l1Below c 8 s29 hC29 (by first | assumption | omega)).mono ?_⟩
 rintro _ s33 ⟨r33,rfl,h33,h33',h33'',hC33,hL33⟩
 refine cxs ?_
 have hF33 := hF29.later hL33
 refine Cm 2 s33 [(0,vP c 0),Ml 2 0,(3,vI ((1) + r10)),Ml 4 1,(6,vI r33),(7,vI 0)] [(2,0,Zn),(4,1,cNV u29.v)] fun _ _ => ?_
 refine AW.loopM (fun x : Nat × NW => [(0,vP c 0),(2,vL 2 0 (0)),(3,vI ((1) + r10)),(4,vL 4 0 (1)),(6,vI r33),(7,vI (x.1 : Int))]) (fun x : Nat × NW => [(2,0,[vI 0,vI 0,.slice none 0 0,.slice none 0 0,.slice none 0 0,vI 0,vI 0,vI 0,.slice none 0 0,.slice none 0 0,.slice none 0 0,.slice none 0 0,vI 0,vI 0,.slice none 0 0,vI 0,vI 0,vI 0,.slice none 0 0]),(4,1,[vI x.2.id,vI x.2.n,vS x.2.s.p x.2.s.x.items.length,vS x.2.s.q x.2.s.x.floors.length,vS x.2.t.p x.2.t.l.length,vI x.2.t.root,vI x.2.g.cap,vI x.2.g.frm,vS x.2.g.p x.2.g.l.length,vS x.2.got.p x.2.got.l.length,vS x.2.acked.p x.2.acked.l.length,vS x.2.seen.p x.2.seen.t.length,vI x.2.num,vI x.2.slots,vS x.2.sess.p x.2.sess.l.length,vI x.2.wait,vI x.2.limit,vI x.2.clock,vS x.2.rises.p x.2.rises.l.length])]) (fun m (x : Nat × NW) st' => m = r33.toNat - x.1 ∧ (x.1 : Int) ≤ r33 ∧ nodeOk x.2.x ∧ x.2.n = 1 + r10 ∧ FrC c st st' (pcNW x.2) ∧ Cur st' c p bs) (0,u29) _ ⟨rfl,rfl,rfl,rfl,rfl,rfl,trivial⟩ ⟨rfl,rfl,trivial⟩ ⟨rfl,by simp only; omega,hk29,hn29,hF33,hC33⟩ ?_
 rintro m ⟨i,u⟩ ρ0 ff gg st' ⟨rfl,hi,hk,hsz,hF,hC⟩
 simp only at hi hk hsz hF
 refine ⟨_,rfl,?_⟩
 rintro (_|_) h36
 ·replace h36 : ¬ ((i : Int) < r33) := of_decide_eq_false h36
  refine Cm gg st' [(0,vP c 0),Ml 2 0,(3,vI ((1) + r10)),Ml 4 1,(6,vI r33),(7,vI (i : Int)),(36,vB false)] [(2,0,Zn),(4,1,cNV u.v)] fun _ _ => ?_
  have hb := node_big hk
  refine cxs ?_
  refine Cm gg st' [(0,vP c 0),Ml 2 0,(3,vI ((1) + r10)),Ml 4 1,(8,vI 0)] [(2,0,Zn),(4,1,cNV u.v)] fun _ _ => ?_
  refine AW.loopM (fun x : Nat × NW => [(0,vP c 0),(2,vL 2 0 (0)),(3,vI ((1) + r10)),(4,vL 4 0 (1)),(8,vI (x.1 : Int))]) (fun x : Nat × NW => [(2,0,[vI 0,vI 0,.slice none 0 0,.slice none 0 0,.slice none 0 0,vI 0,vI 0,vI 0,.slice none 0 0,.slice none 0 0,.slice none 0 0,.slice none 0 0,vI 0,vI 0,.slice none 0 0,vI 0,vI 0,vI 0,.slice none 0 0]),(4,1,[vI x.2.id,vI x.2.n,vS x.2.s.p x.2.s.x.items.length,vS x.2.s.q x.2.s.x.floors.length,vS x.2.t.p x.2.t.l.length,vI x.2.t.root,vI x.2.g.cap,vI x.2.g.frm,vS x.2.g.p x.2.g.l.length,vS x.2.got.p x.2.got.l.length,vS x.2.acked.p x.2.acked.l.length,vS x.2.seen.p x.2.seen.t.length,vI x.2.num,vI x.2.slots,vS x.2.sess.p x.2.sess.l.length,vI x.2.wait,vI x.2.limit,vI x.2.clock,vS x.2.rises.p x.2.rises.l.length])]) (fun m (x : Nat × NW) st' => m = (1 + r10).toNat - x.1 ∧ (x.1 : Int) ≤ 1 + r10 ∧ nodeOk x.2.x ∧ x.2.n = 1 + r10 ∧ FrC c st st' (pcNW x.2) ∧ Cur st' c p bs) (0,u) _ ⟨rfl,rfl,rfl,rfl,rfl,trivial⟩ ⟨rfl,rfl,trivial⟩ ⟨rfl,by simp only; omega,hk,hsz,hF,hC⟩ ?_
  rintro m ⟨j,w⟩ ρ0 ff gg st' ⟨rfl,hi2,hk2,hsz2,hF2,hC2⟩
  simp only at hi2 hk2 hsz2 hF2
  refine ⟨_,rfl,?_⟩
  rintro (_|_) h90
  ·replace h90 : ¬ ((j : Int) < ((1) + r10)) := of_decide_eq_false h90
   refine Cm gg st' [(0,vP c 0),Ml 2 0,(3,vI ((1) + r10)),Ml 4 1,(8,vI (j : Int)),(90,vB false)] [(2,0,Zn),(4,1,cNV w.v)] fun _ _ => ?_
   refine cxs ?_
   refine ⟨_,op_ldo (v := (vNV w.v)) rfl rfl rfl rfl,?_⟩
   refine ⟨_,op_stw (vs := cNV w.v) rfl rfl rfl rfl rfl rfl rfl rfl,?_⟩
   exact cxs (Rt ⟨w,rfl,hk2,hF2,hC2⟩)
  ·replace h90 : (j : Int) < ((1) + r10) := of_decide_eq_true h90
   refine Cm gg st' [(0,vP c 0),Ml 2 0,(3,vI ((1) + r10)),Ml 4 1,(8,vI (j : Int)),(90,vB true)] [(2,0,Zn),(4,1,cNV w.v)] fun _ _ => ?_
   have hgl : j < w.got.l.length := by have h := hk2.got.2.1; have h' : (w.got.l.length : Int) = w.n := h; omega
   have hal : j < w.acked.l.length := by have h := hk2.acked.2.1; have h' : (w.acked.l.length : Int) = w.n := h; omega
   refine cxs ?_
   refine ⟨_,rfl,?_⟩
   refine ⟨_,Od rfl,?_⟩
   refine ⟨_,rfl,?_⟩
   rintro (_|_) h96
   ·replace h96 : (j : Int) = w.id := bne_eq_false_iff_eq.1 h96
    refine Cm gg st' [(0,vP c 0),Ml 2 0,(3,vI ((1) + r10)),Ml 4 1,(8,vI (j : Int)),(90,vB true),(96,vB false)] [(2,0,Zn),(4,1,cNV w.v)] fun _ _ => ?_
    refine cxs ?_
    refine ⟨fun _ => False,?_⟩
    refine ⟨_,rfl,?_⟩
    refine ⟨_,Od rfl,?_⟩
    refine ⟨ld_own rfl rfl rfl,?_⟩
    refine ⟨_,rfl,?_⟩
    refine ⟨_,Od rfl,?_⟩
    refine ⟨_,rfl,(ac_spec_LogSeq w.g.v st' hF2.1.rdN.g (bigLog_iff.1 (node_big hk2).g)).mono ?_⟩
    rintro _ st' ⟨rfl,rfl⟩
    refine ⟨fun _ h => h.elim,?_⟩
    have hq := logSeq_rng w.g.v.x
    have ew110 : IntKind.wrap .i64 ((logSeq w.g.v.x) + (1)) = (logSeq w.g.v.x) + (1) := wrap_i64 (by omega) (by omega)
    refine ⟨_,rfl,?_⟩
    refine ⟨_,rfl,(ac_d_l1Below c (IntKind.wrap .i64 ((logSeq w.g.v.x) + (1))) st' hC2 (by first | assumption | omega)).mono ?_⟩
    rintro _ s111 ⟨r111,rfl,h111,h111',h111'',hC111,hL111⟩
    refine ⟨fun _ h => h.elim,?_⟩
    rw [ew110] at h111'
    rw [ew110] at h111''
    have hF111 := hF2.later hL111
    have hO2 : OwnR s111 1 fI w.acked.p w.acked.l := hF111.1.ownAcked
    obtain ⟨a2,ha2⟩ := hO2.some (by omega)
    refine ⟨_,op_idx (j := (j : Int)) (n := w.acked.l.length) (q := ⟨a2,0,none⟩) rfl (congrArg (fun v => vS v w.acked.l.length) ha2) rfl rfl rfl (Int.natCast_nonneg _) (by omega),?_⟩
    refine op_put (z := 1) (st := s111) (f := fI) (j := j) (l := w.acked.l) (y := r111) (p := w.acked.p) (d := 0 + j * 1) rfl rfl (Nat.zero_add _) rfl rfl fI_len rfl rfl hal hO2 ha2 ?_
    intro s10 hO10 hP10 hn10
    refine Cm gg s10 [(0,vP c 0),Ml 2 0,(3,vI ((1) + r10)),Ml 4 1,(8,vI (j : Int)),(90,vB true),(96,vB false)] [(2,0,Zn),(4,1,cNV w.v)] fun _ _ => ?_
    have hF10 := (hF111.ackedSet hP10 hO10).1
    have hC10 := hC111.thenNew hc hF111.2.2.1 hP10 hF111.2.1.acked
    have hk10 := acked_ok (i := j) (v := r111) hk2 (show 0 ≤ r111 ∧ r111 ≤ logSeq w.g.v.x by omega)
    have ew92 : IntKind.wrap .i64 ((j : Int) + (1)) = ((j + 1 : Nat) : Int) := (wrap_i64 (by omega) (by omega)).trans (by omega)
    refine ⟨_,rfl,?_⟩
    exact ⟨(j + 1,{ w with acked := ⟨w.acked.p,w.acked.l.set j r111⟩ }),(1 + r10).toNat - (j + 1),by omega,⟨rfl,rfl,rfl,rfl,congrArg (Value.int .i64) ew92,trivial⟩,⟨rfl,(show some (1,cNV w.v) = _ by rw [List.length_set]),trivial⟩,rfl,by simp only; omega,hk10,hsz2,hF10,hC10⟩
   ·replace h96 : ¬ ((j : Int) = w.id) := bne_iff_ne.1 h96
    refine Cm gg st' [(0,vP c 0),Ml 2 0,(3,vI ((1) + r10)),Ml 4 1,(8,vI (j : Int)),(90,vB true),(96,vB true)] [(2,0,Zn),(4,1,cNV w.v)] fun _ _ => ?_
    refine ⟨fun _ => False,?_⟩
    refine ⟨_,rfl,?_⟩
    refine ⟨_,Od rfl,?_⟩
    refine ⟨ld_own rfl rfl rfl,?_⟩
    refine ⟨_,rfl,(ac_d_l1Below c 4 st' hC2 (by first | assumption | omega)).mono ?_⟩
    rintro _ s101 ⟨r101,rfl,h101,h101',h101'',hC101,hL101⟩
    refine ⟨fun _ h => h.elim,?_⟩
    have hF101 := hF2.later hL101
    have hO : OwnR s101 1 fI w.got.p w.got.l := hF101.1.ownGot
    obtain ⟨a,ha⟩ := hO.some (by omega)
    refine ⟨_,op_idx (j := (j : Int)) (n := w.got.l.length) (q := ⟨a,0,none⟩) rfl (congrArg (fun v => vS v w.got.l.length) ha) rfl rfl rfl (Int.natCast_nonneg _) (by omega),?_⟩
    refine op_put (z := 1) (st := s101) (f := fI) (j := j) (l := w.got.l) (y := r101) (p := w.got.p) (d := 0 + j * 1) rfl rfl (Nat.zero_add _) rfl rfl fI_len rfl rfl hgl hO ha ?_
    intro s9 hO9 hP9 hn9
    refine Cm gg s9 [(0,vP c 0),Ml 2 0,(3,vI ((1) + r10)),Ml 4 1,(8,vI (j : Int)),(90,vB true),(96,vB true)] [(2,0,Zn),(4,1,cNV w.v)] fun _ _ => ?_
    have hF9 := (hF101.gotSet hP9 hO9).1
    have hC9 := hC101.thenNew hc hF101.2.2.1 hP9 hF101.2.1.got
    have hk9 : nodeOk { w.x with got := w.x.got.set j r101 } := got_ok hk2 h96 (by omega)
    refine ⟨fun _ => False,?_⟩
    refine ⟨_,rfl,?_⟩
    refine ⟨_,Od rfl,?_⟩
    refine ⟨ld_own rfl rfl rfl,?_⟩
    refine ⟨_,rfl,?_⟩
    refine ⟨_,Od rfl,?_⟩
    refine ⟨_,rfl,(ac_spec_LogSeq w.g.v s9 hF9.1.rdN.g (bigLog_iff.1 (node_big hk2).g)).mono ?_⟩
    rintro _ s9 ⟨rfl,rfl⟩
    refine ⟨fun _ h => h.elim,?_⟩
    have hq := logSeq_rng w.g.v.x
    have ew110 : IntKind.wrap .i64 ((logSeq w.g.v.x) + (1)) = (logSeq w.g.v.x) + (1) := wrap_i64 (by omega) (by omega)
    refine ⟨_,rfl,?_⟩
    refine ⟨_,rfl,(ac_d_l1Below c (IntKind.wrap .i64 ((logSeq w.g.v.x) + (1))) s9 hC9 (by first | assumption | omega)).mono ?_⟩
    rintro _ s111 ⟨r111,rfl,h111,h111',h111'',hC111,hL111⟩
    refine ⟨fun _ h => h.elim,?_⟩
    rw [ew110] at h111'
    rw [ew110] at h111''
    have hF111 := hF9.later hL111
    have hO2 : OwnR s111 1 fI w.acked.p w.acked.l := hF111.1.ownAcked
    obtain ⟨a2,ha2⟩ := hO2.some (by omega)
    refine ⟨_,op_idx (j := (j : Int)) (n := w.acked.l.length) (q := ⟨a2,0,none⟩) rfl (congrArg (fun v => vS v w.acked.l.length) ha2) rfl rfl rfl (Int.natCast_nonneg _) (by omega),?_⟩
    refine op_put (z := 1) (st := s111) (f := fI) (j := j) (l := w.acked.l) (y := r111) (p := w.acked.p) (d := 0 + j * 1) rfl rfl (Nat.zero_add _) rfl rfl fI_len rfl rfl hal hO2 ha2 ?_
    intro s10 hO10 hP10 hn10
    refine Cm gg s10 [(0,vP c 0),Ml 2 0,(3,vI ((1) + r10)),Ml 4 1,(8,vI (j : Int)),(90,vB true),(96,vB true)] [(2,0,Zn),(4,1,cNV w.v)] fun _ _ => ?_
    have hF10 := (hF111.ackedSet hP10 hO10).1
    have hC10 := hC111.thenNew hc hF111.2.2.1 hP10 hF111.2.1.acked
    have hk10 := acked_ok (i := j) (v := r111) hk9 (show 0 ≤ r111 ∧ r111 ≤ logSeq w.g.v.x by omega)
    have ew92 : IntKind.wrap .i64 ((j : Int) + (1)) = ((j + 1 : Nat) : Int) := (wrap_i64 (by omega) (by omega)).trans (by omega)
    refine ⟨_,rfl,?_⟩
    exact ⟨(j + 1,{ w with got := ⟨w.got.p,w.got.l.set j r101⟩,acked := ⟨w.acked.p,w.acked.l.set j r111⟩ }),(1 + r10).toNat - (j + 1),by omega,⟨rfl,rfl,rfl,rfl,congrArg (Value.int .i64) ew92,trivial⟩,⟨rfl,(show some (1,cNV w.v) = _ by rw [List.length_set,List.length_set]),trivial⟩,rfl,by simp only; omega,hk10,hsz2,hF10,hC10⟩
 ·replace h36 : (i : Int) < r33 := of_decide_eq_true h36
  refine Cm gg st' [(0,vP c 0),Ml 2 0,(3,vI ((1) + r10)),Ml 4 1,(6,vI r33),(7,vI (i : Int)),(36,vB true)] [(2,0,Zn),(4,1,cNV u.v)] fun _ _ => ?_
  have hb := node_big hk
  refine cxs ?_
  refine ⟨_,rfl,(ac_d_l1Below c 6 st' hC (by first | assumption | omega)).mono ?_⟩
  rintro _ s40 ⟨r40,rfl,h40,h40',h40'',hC40,hL40⟩
  refine Cm gg s40 [(0,vP c 0),Ml 2 0,(3,vI ((1) + r10)),Ml 4 1,(6,vI r33),(7,vI (i : Int)),(36,vB true),(40,vI r40)] [(2,0,Zn),(4,1,cNV u.v)] fun _ _ => ?_
  have hF40 := hF.later hL40
  refine ⟨_,rfl,?_⟩
  rintro (_|_) h56
  ·replace h56 : ¬ (r40 = (0)) := beq_eq_false_iff_ne.1 h56
   refine Cm gg s40 [(0,vP c 0),Ml 2 0,(3,vI ((1) + r10)),Ml 4 1,(6,vI r33),(7,vI (i : Int)),(36,vB true),(40,vI r40),(55,vB false)] [(2,0,Zn),(4,1,cNV u.v)] fun _ _ => ?_
   refine ⟨_,rfl,?_⟩
   rintro (_|_) h62
   ·replace h62 : ¬ (r40 = (1)) := beq_eq_false_iff_ne.1 h62
    refine Cm gg s40 [(0,vP c 0),Ml 2 0,(3,vI ((1) + r10)),Ml 4 1,(6,vI r33),(7,vI (i : Int)),(36,vB true),(40,vI r40),(55,vB false),(61,vB false)] [(2,0,Zn),(4,1,cNV u.v)] fun _ _ => ?_
    refine ⟨_,rfl,?_⟩
    rintro (_|_) h66
    ·replace h66 : ¬ (r40 = (2)) := beq_eq_false_iff_ne.1 h66
     refine Cm gg s40 [(0,vP c 0),Ml 2 0,(3,vI ((1) + r10)),Ml 4 1,(6,vI r33),(7,vI (i : Int)),(36,vB true),(40,vI r40),(55,vB false),(61,vB false),(65,vB false)] [(2,0,Zn),(4,1,cNV u.v)] fun _ _ => ?_
     refine ⟨_,rfl,?_⟩
     rintro (_|_) h78
     ·replace h78 : ¬ (r40 = (3)) := beq_eq_false_iff_ne.1 h78
      refine Cm gg s40 [(0,vP c 0),Ml 2 0,(3,vI ((1) + r10)),Ml 4 1,(6,vI r33),(7,vI (i : Int)),(36,vB true),(40,vI r40),(55,vB false),(61,vB false),(65,vB false),(77,vB false)] [(2,0,Zn),(4,1,cNV u.v)] fun _ _ => ?_
      refine ⟨fun _ => False,?_⟩
      refine ⟨_,op_ldo (v := (vNV u.v)) rfl rfl rfl rfl,?_⟩
      refine ⟨ld_own rfl rfl rfl,?_⟩
      refine ⟨_,rfl,(ac_d_l1Below c 5 s40 hC40 (by first | assumption | omega)).mono ?_⟩
      rintro _ s44 ⟨r44,rfl,h44,h44',h44'',hC44,hL44⟩
      refine ⟨fun _ h => h.elim,?_⟩
      refine ⟨_,rfl,(ac_d_l1Below c ((1) + r10) s44 hC44 (by first | assumption | omega)).mono ?_⟩
      rintro _ s47 ⟨r47,rfl,h47,h47',h47'',hC47,hL47⟩
      refine ⟨fun _ h => h.elim,?_⟩
      refine op_litS (l := [⟨#[]⟩,⟨#[120]⟩,⟨#[121,122]⟩]) rfl rfl rfl (Lb rfl) rfl rfl rfl (Lb rfl) ?_
      intro q49 s49 hO49 hP49 hN49
      refine ⟨fun _ h => h.elim,?_⟩
      refine ⟨_,rfl,(ac_d_l1Pick c q49 ([⟨#[]⟩,⟨#[120]⟩,⟨#[121,122]⟩]) s49 (hC47.pres hP49) (by first | assumption | omega) (by first | assumption | omega | decide) (by first | assumption | omega) (by first | assumption | exact NC.new (by assumption) (Cur.lt (by assumption)))).mono ?_⟩
      rintro _ s50 ⟨r50,rfl,h50,hC50,hL50⟩
      refine ⟨fun _ h => h.elim,?_⟩
      have hP50 := (((hF40.2.2.1.trans hL44).trans hL47).trans hP49.c).trans hL50
      refine ⟨_,rfl,(ac_spec_Say u.v r44 r47 r50 s50 ((((((hF40.later hL44).later hL47).step hP49).later hL50)).1.rdN) hb).mono ?_⟩
      rintro _ s51 ⟨u51,w51,c51,rfl,h51,hO51,hN51,hP51⟩
      iterate 3 refine ⟨_,rfl,?_⟩
      refine ⟨_,op_stw (vs := cNV u51.v) rfl rfl rfl rfl rfl rfl rfl rfl,?_⟩
      refine Cm gg s51 [(0,vP c 0),Ml 2 0,(3,vI ((1) + r10)),Ml 4 1,(6,vI r33),(7,vI (i : Int)),(36,vB true),(40,vI r40),(55,vB false),(61,vB false),(65,vB false),(77,vB false)] [(2,0,Zn),(4,1,cNV u51.v)] fun _ _ => ?_
      have hF51 : FrC c st s51 (pcNW u51) := ((Frs.toC (l := pcNW u51 ++ pcS w51) ⟨hO51,hN51,hP51⟩ hC50.lt).left).sooner hP50 hc.lt
      have he51 : u51.x = (sayF u.x r44 r47 r50).1 := congrArg Prod.fst h51
      have hk51 : nodeOk u51.x := by rw [he51]; exact (say_node hk).1
      have hn51 : u51.n = 1 + r10 := ((congrArg Nd.n he51).trans (say_node hk).2).trans hsz
      have hC51 := hC50.pres hP51
      have ew38 : IntKind.wrap .i64 ((i : Int) + (1)) = ((i + 1 : Nat) : Int) := (wrap_i64 (by omega) (by omega)).trans (by omega)
      refine ⟨_,rfl,?_⟩
      exact ⟨(i + 1,u51),r33.toNat - (i + 1),by omega,⟨rfl,rfl,rfl,rfl,rfl,congrArg (Value.int .i64) ew38,trivial⟩,⟨rfl,rfl,trivial⟩,rfl,by simp only; omega,hk51,hn51,hF51,hC51⟩
     ·replace h78 : r40 = (3) := beq_iff_eq.1 h78
      refine Cm gg s40 [(0,vP c 0),Ml 2 0,(3,vI ((1) + r10)),Ml 4 1,(6,vI r33),(7,vI (i : Int)),(36,vB true),(40,vI r40),(55,vB false),(61,vB false),(65,vB false),(77,vB true)] [(2,0,Zn),(4,1,cNV u.v)] fun _ _ => ?_
      refine ⟨fun _ => False,?_⟩
      refine ⟨_,op_ldo (v := (vNV u.v)) rfl rfl rfl rfl,?_⟩
      refine ⟨ld_own rfl rfl rfl,?_⟩
      refine ⟨_,rfl,(ac_d_l1Below c ((1) + r10) s40 hC40 (by first | assumption | omega)).mono ?_⟩
      rintro _ s83 ⟨r83,rfl,h83,h83',h83'',hC83,hL83⟩
      refine ⟨fun _ h => h.elim,?_⟩
      refine ⟨_,rfl,(ac_spec_Syn u.v r83 s83 ((hF40.later hL83).1.rdN) hb).mono ?_⟩
      rintro _ s84 ⟨u84,m84,b84,rfl,h84,hO84,hN84,hP84⟩
      iterate 3 refine ⟨_,rfl,?_⟩
      refine ⟨_,op_stw (vs := cNV u84.v) rfl rfl rfl rfl rfl rfl rfl rfl,?_⟩
      refine Cm gg s84 [(0,vP c 0),Ml 2 0,(3,vI ((1) + r10)),Ml 4 1,(6,vI r33),(7,vI (i : Int)),(36,vB true),(40,vI r40),(55,vB false),(61,vB false),(65,vB false),(77,vB true)] [(2,0,Zn),(4,1,cNV u84.v)] fun _ _ => ?_
      have hF84 : FrC c st s84 (pcNW u84) := ((Frs.toC (l := pcNW u84 ++ pcMV m84) ⟨hO84,hN84,hP84⟩ hC83.lt).left).sooner (hF40.2.2.1.trans hL83) hc.lt
      have he84 : u84.x = (synF u.x r83).1 := congrArg Prod.fst h84
      have hk84 : nodeOk u84.x := by rw [he84]; exact syn_ok hk
      have hn84 : u84.n = 1 + r10 := ((congrArg Nd.n he84).trans syn_n).trans hsz
      have hC84 := hC83.pres hP84
      have ew38 : IntKind.wrap .i64 ((i : Int) + (1)) = ((i + 1 : Nat) : Int) := (wrap_i64 (by omega) (by omega)).trans (by omega)
      refine ⟨_,rfl,?_⟩
      exact ⟨(i + 1,u84),r33.toNat - (i + 1),by omega,⟨rfl,rfl,rfl,rfl,rfl,congrArg (Value.int .i64) ew38,trivial⟩,⟨rfl,rfl,trivial⟩,rfl,by simp only; omega,hk84,hn84,hF84,hC84⟩
    ·replace h66 : r40 = (2) := beq_iff_eq.1 h66
     refine Cm gg s40 [(0,vP c 0),Ml 2 0,(3,vI ((1) + r10)),Ml 4 1,(6,vI r33),(7,vI (i : Int)),(36,vB true),(40,vI r40),(55,vB false),(61,vB false),(65,vB true)] [(2,0,Zn),(4,1,cNV u.v)] fun _ _ => ?_
     refine ⟨fun _ => False,?_⟩
     refine ⟨_,rfl,?_⟩
     refine ⟨_,Od rfl,?_⟩
     refine ⟨ld_own rfl rfl rfl,?_⟩
     refine ⟨_,rfl,(ac_d_l1Below c ((1) + r10) s40 hC40 (by first | assumption | omega)).mono ?_⟩
     rintro _ s71 ⟨r71,rfl,h71,h71',h71'',hC71,hL71⟩
     refine ⟨fun _ h => h.elim,?_⟩
     refine ⟨_,rfl,(ac_d_l3Right c s71 hC71 (by first | assumption | omega)).mono ?_⟩
     rintro _ s73 ⟨u73,rfl,h73,hF73,hC73⟩
     refine ⟨fun _ h => h.elim,?_⟩
     have hb73 := big_ok h73
     refine ⟨_,rfl,(ac_spec_MarksOf u73 s73 (hF73.1.rdS) (by first | assumption | omega)).mono ?_⟩
     rintro _ s74 ⟨q74,rfl,hO74,hP74,hN74⟩
     refine ⟨fun _ h => h.elim,?_⟩
     have hF74 := ((hF40.later hL71).later hF73.2.2.1).step hP74
     refine ⟨_,rfl,(uc_spec_TableAdd u.seen r71 q74 (marksF (goneAt u73.x) 5) s74 hF74.1.rdN.seen (hO74.rows len_cFlr) hb.seen (szm _)).mono ?_⟩
     rintro _ s75 ⟨u75,rfl,h75,h75',hO75,hN75,hP75⟩
     refine ⟨_,rfl,?_⟩
     refine ⟨_,Os rfl,?_⟩
     refine Cm gg s75 [(0,vP c 0),Ml 2 0,(3,vI ((1) + r10)),Ml 4 1,(6,vI r33),(7,vI (i : Int)),(36,vB true),(40,vI r40),(55,vB false),(61,vB false),(65,vB true)] [(2,0,Zn),(4,1,Nv u [(11,vS u75.p u75.t.length)])] fun _ _ => ?_
     have hF75 : FrC c st s75 (pcNW { u with seen := u75 }) := hF74.ndE (Frs.toC ⟨hO75,hN75,hP75⟩ hF74.lt)
     have hk75 : nodeOk (NW.x { u with seen := u75 }) := by
      have h := seen_ok (k := r71) (ms := marksF (goneAt u73.x) 5) hk
      have h2 : u75.x = tableAdd u.x.seen r71 (marksF (goneAt u73.x) 5) := h75
      rw [← h2] at h
      exact h
     have hC75 := (hC73.pres hP74).pres hP75
     have ew38 : IntKind.wrap .i64 ((i : Int) + (1)) = ((i + 1 : Nat) : Int) := (wrap_i64 (by omega) (by omega)).trans (by omega)
     refine ⟨_,rfl,?_⟩
     exact ⟨(i + 1,{ u with seen := u75 }),r33.toNat - (i + 1),by omega,⟨rfl,rfl,rfl,rfl,rfl,congrArg (Value.int .i64) ew38,trivial⟩,⟨rfl,rfl,trivial⟩,rfl,by simp only; omega,hk75,hsz,hF75,hC75⟩
   ·replace h62 : r40 = (1) := beq_iff_eq.1 h62
    refine Cm gg s40 [(0,vP c 0),Ml 2 0,(3,vI ((1) + r10)),Ml 4 1,(6,vI r33),(7,vI (i : Int)),(36,vB true),(40,vI r40),(55,vB false),(61,vB true)] [(2,0,Zn),(4,1,cNV u.v)] fun _ _ => ?_
    refine ⟨_,op_ldo (v := (vNV u.v)) rfl rfl rfl rfl,?_⟩
    refine ⟨_,rfl,(ac_spec_Tick u.v s40 hF40.1.rdN hb).mono ?_⟩
    rintro _ s64 ⟨u64,rfl,h64,hO64,hN64,hP64⟩
    refine ⟨_,op_stw (vs := cNV u64.v) rfl rfl rfl rfl rfl rfl rfl rfl,?_⟩
    refine Cm gg s64 [(0,vP c 0),Ml 2 0,(3,vI ((1) + r10)),Ml 4 1,(6,vI r33),(7,vI (i : Int)),(36,vB true),(40,vI r40),(55,vB false),(61,vB true)] [(2,0,Zn),(4,1,cNV u64.v)] fun _ _ => ?_
    have hF64 : FrC c st s64 (pcNW u64) := ((Frs.toC ⟨hO64,hN64,hP64⟩ hC40.lt).sooner hF40.2.2.1 hc.lt)
    have hk64 : nodeOk u64.x := by rw [h64]; exact tick_ok hk
    have hn64 : u64.n = 1 + r10 := ((congrArg Nd.n h64).trans tick_n).trans hsz
    have hC64 := hC40.pres hP64
    have ew38 : IntKind.wrap .i64 ((i : Int) + (1)) = ((i + 1 : Nat) : Int) := (wrap_i64 (by omega) (by omega)).trans (by omega)
    refine ⟨_,rfl,?_⟩
    exact ⟨(i + 1,u64),r33.toNat - (i + 1),by omega,⟨rfl,rfl,rfl,rfl,rfl,congrArg (Value.int .i64) ew38,trivial⟩,⟨rfl,rfl,trivial⟩,rfl,by simp only; omega,hk64,hn64,hF64,hC64⟩
  ·replace h56 : r40 = (0) := beq_iff_eq.1 h56
   refine Cm gg s40 [(0,vP c 0),Ml 2 0,(3,vI ((1) + r10)),Ml 4 1,(6,vI r33),(7,vI (i : Int)),(36,vB true),(40,vI r40),(55,vB true)] [(2,0,Zn),(4,1,cNV u.v)] fun _ _ => ?_
   refine ⟨fun _ => False,?_⟩
   refine ⟨_,op_ldo (v := (vNV u.v)) rfl rfl rfl rfl,?_⟩
   refine ⟨ld_own rfl rfl rfl,?_⟩
   refine ⟨_,rfl,(ac_d_l3Right c s40 hC40 (by first | assumption | omega)).mono ?_⟩
   rintro _ s59 ⟨u59,rfl,h59,hF59,hC59⟩
   refine ⟨fun _ h => h.elim,?_⟩
   refine ⟨_,rfl,(ac_spec_l11Take u.v u59 s59 ((hF40.later hF59.2.2.1).1.rdN) hF59.1.rdS hb (big_ok h59) hk.s h59 hk.rises.1).mono ?_⟩
   rintro _ s60 ⟨u60,rfl,h60,hO60,hN60,hP60⟩
   refine ⟨_,op_stw (vs := cNV u60.v) rfl rfl rfl rfl rfl rfl rfl rfl,?_⟩
   refine Cm gg s60 [(0,vP c 0),Ml 2 0,(3,vI ((1) + r10)),Ml 4 1,(6,vI r33),(7,vI (i : Int)),(36,vB true),(40,vI r40),(55,vB true)] [(2,0,Zn),(4,1,cNV u60.v)] fun _ _ => ?_
   have hF60 : FrC c st s60 (pcNW u60) := ((Frs.toC ⟨hO60,hN60,hP60⟩ hC59.lt).sooner (hF40.2.2.1.trans hF59.2.2.1) hc.lt)
   have hk60 : nodeOk u60.x := by rw [h60]; exact take_ok hk h59
   have hn60 : u60.n = 1 + r10 := (congrArg Nd.n h60).trans hsz
   have hC60 := hC59.pres hP60
   have ew38 : IntKind.wrap .i64 ((i : Int) + (1)) = ((i + 1 : Nat) : Int) := (wrap_i64 (by omega) (by omega)).trans (by omega)
   refine ⟨_,rfl,?_⟩
   exact ⟨(i + 1,u60),r33.toNat - (i + 1),by omega,⟨rfl,rfl,rfl,rfl,rfl,congrArg (Value.int .i64) ew38,trivial⟩,⟨rfl,rfl,trivial⟩,rfl,by simp only; omega,hk60,hn60,hF60,hC60⟩
theorem FrC.renewMid {c : Nat} {a b d : St} {A B : List Pc} {x y : Pc} (h : FrC c a b (A ++ x :: B)) (hp : Pr x.p b d) (hd : y.own d) (hn : New b.next y.p) : FrC c a d (A ++ y :: B) ∧ PresC c a d :=
 have hm : New a.next x.p := h.2.1 x (List.mem_append_right _ (List.mem_cons_self ..))
 have hP := PresC.thenNew h.2.2.1 hp hm
 ⟨⟨OwnP.renew h.1 hp hd hn,fun z hz => by
  rcases List.mem_append.1 hz with hz | hz
  ·exact h.2.1 z (List.mem_append_left _ hz)
  ·rcases List.mem_cons.1 hz with rfl | hz
   ·exact hn.le h.2.2.1.1
   ·exact h.2.1 z (List.mem_append_right _ (List.mem_cons_of_mem _ hz)),hP,h.2.2.2⟩,hP⟩
theorem NW.sesAt (v : NW) (x : SesV) : pcNW { v with sess := x } = (pcS v.s ++ (pcIs v.t.toRV ++ (pcLog v.g ++ (pcIs v.got ++ (pcIs v.acked ++ pcTT v.seen))))) ++ pcR 4 cSess x.p x.l :: pcRis v.rises := by simp [List.append_assoc]
theorem FrC.sesPush {c : Nat} {a b d : St} {v : NW} {q : Option Addr} {l : List Ses} (h : FrC c a b (pcNW v)) (hp : Pr v.sess.p b d) (hO : OwnR d 4 cSess q l) (hn : New b.next q) : FrC c a d (pcNW { v with sess := ⟨q,l⟩ }) ∧ PresC c a d := by
 have h : FrC c a b (pcNW { v with sess := v.sess }) := h
 rw [NW.sesAt] at h ⊢
 exact FrC.renewMid (x := pcR 4 cSess v.sess.p v.sess.l) h hp (own_pc hO) hn
theorem FrC.risSet {c : Nat} {a b d : St} {v : NW} {l : List Ris} (h : FrC c a b (pcNW v)) (hp : Pr v.rises.p b d) (hO : OwnR d 3 cRise v.rises.p l) : FrC c a d (pcNW { v with rises := ⟨v.rises.p,l⟩ }) ∧ PresC c a d := by
 have h : FrC c a b (pcNW { v with rises := v.rises }) := h
 rw [NW.risAt] at h ⊢
 exact FrC.setMid (x := pcR 3 cRise v.rises.p v.rises.l) h hp (own_pc hO) rfl
theorem NewP.ses {n : Nat} {v : NW} (h : NewP n (pcNW v)) : New n v.sess.p := by
 have h : NewP n (pcNW { v with sess := v.sess }) := h
 rw [NW.sesAt] at h
 exact h _ (List.mem_append_right _ (List.mem_cons_self ..))
theorem NewP.ris {n : Nat} {v : NW} (h : NewP n (pcNW v)) : New n v.rises.p := by
 have h : NewP n (pcNW { v with rises := v.rises }) := h
 rw [NW.risAt] at h
 exact h _ (List.mem_append_right _ (List.mem_cons_self ..))
theorem OwnP.ownRis {st : St} {v : NW} (h : OwnP st (pcNW v)) : OwnR st 3 cRise v.rises.p v.rises.l := own_one (by decide) len_cRise h.right.right.right.right.right.right.right
theorem tt_big {q : Option Addr} {t : List RV} (h : t.length ≤ 4 ∧ ∀ r ∈ t,r.l.length ≤ 5) : bigT (TT.x ⟨q,t⟩) := ⟨by show (t.map _).length ≤ 1048576; rw [List.length_map]; omega,fun l hl => by
 obtain ⟨r,hr,rfl⟩ := List.mem_map.1 hl
 have := h.2 r hr
 show r.l.length ≤ 1048576
 omega⟩
theorem ac_d_l11Draw {p : Option Addr} {bs : List Int} (c : Nat) (st : St) (hc : Cur st c p bs) (hs : bs.length < 1099511627776) : C 47 [vP c 0] st (fun v s => ∃ (g : NV) (L : List Pc),v = (vNV g) ∧ bigN g.x ∧ FrC c st s L ∧ Hold L (fun s' => RdN s' g) ∧ Cur s c p bs) := by
 refine AC.enterX (i := ⟨[2,3],[2,3,11,15,18,19,22,23,26,28,30,32,42,48,51,63,68,71,73,82],[0,2,3,7,8,16,24,38,43,49,64,69,78],[]⟩) [(2014,[],[1]),(8,[],[]),(14,[3,6,8,10],[1])] Tryz.func47 rfl rfl (by kernel_rfl) (by kernel_rfl) Tryz.ntmps47 (Lb rfl) rfl ?_
 refine ⟨_,rfl,?_⟩
 refine Cm 1 st [(0,vP c 0),Ml 2 0] [(2,0,Zn)] fun _ _ => ?_
 refine ⟨_,rfl,(ac_d_l11Right c st hc (by first | assumption | omega)).mono ?_⟩
 rintro _ s5 ⟨u5,rfl,h5,hF5,hC5⟩
 refine ⟨_,rfl,?_⟩
 refine ⟨_,op_stw (vs := cNV u5.v) rfl rfl rfl rfl rfl rfl rfl rfl,?_⟩
 refine Cm 2 s5 [(0,vP c 0),Ml 2 0,Ml 3 1] [(2,0,Zn),(3,1,cNV u5.v)] fun _ _ => ?_
 refine ⟨_,rfl,(ac_d_l1Below c 18 s5 hC5 (by first | assumption | omega)).mono ?_⟩
 rintro _ s7 ⟨r7,rfl,h7,h7',h7'',hC7,hL7⟩
 refine Cm 2 s7 [(0,vP c 0),Ml 2 0,Ml 3 1,(7,vI r7)] [(2,0,Zn),(3,1,cNV u5.v)] fun _ _ => ?_
 have hF7 := hF5.later hL7
 have hb := node_big h5
 have hid : 0 ≤ u5.id ∧ u5.id ≤ u5.n - 1 := h5.id
 have hgl : (u5.got.l.length : Int) = u5.n := h5.got.2.1
 have hrl : u5.rises.l.length = 5 := h5.rises.1
 have hsl : u5.sess.l.length ≤ 4 := by have h1 := h5.sess.1; have h2 := h5.slots.2; have h3 : (u5.sess.l.length : Int) ≤ u5.slots := h1; have h4 : u5.slots ≤ 4 := h2; omega
 refine ⟨_,rfl,?_⟩
 rintro (_|_) h9
 ·replace h9 : ¬ (r7 = (0)) := beq_eq_false_iff_ne.1 h9
  refine Cm 2 s7 [(0,vP c 0),Ml 2 0,Ml 3 1,(7,vI r7),(8,vB false)] [(2,0,Zn),(3,1,cNV u5.v)] fun _ _ => ?_
  refine ⟨_,rfl,?_⟩
  rintro (_|_) h17
  ·replace h17 : ¬ (r7 = (1)) := beq_eq_false_iff_ne.1 h17
   refine Cm 2 s7 [(0,vP c 0),Ml 2 0,Ml 3 1,(7,vI r7),(16,vB false)] [(2,0,Zn),(3,1,cNV u5.v)] fun _ _ => ?_
   refine ⟨_,rfl,?_⟩
   rintro (_|_) h25
   ·replace h25 : ¬ (r7 = (2)) := beq_eq_false_iff_ne.1 h25
    refine Cm 2 s7 [(0,vP c 0),Ml 2 0,Ml 3 1,(7,vI r7),(24,vB false)] [(2,0,Zn),(3,1,cNV u5.v)] fun _ _ => ?_
    refine ⟨_,rfl,?_⟩
    rintro (_|_) h39
    ·replace h39 : ¬ (r7 = (3)) := beq_eq_false_iff_ne.1 h39
     refine Cm 2 s7 [(0,vP c 0),Ml 2 0,Ml 3 1,(7,vI r7),(38,vB false)] [(2,0,Zn),(3,1,cNV u5.v)] fun _ _ => ?_
     refine ⟨_,rfl,?_⟩
     rintro (_|_) h44
     ·replace h44 : ¬ (r7 = (4)) := beq_eq_false_iff_ne.1 h44
      refine Cm 2 s7 [(0,vP c 0),Ml 2 0,Ml 3 1,(7,vI r7),(43,vB false)] [(2,0,Zn),(3,1,cNV u5.v)] fun _ _ => ?_
      refine ⟨_,rfl,?_⟩
      rintro (_|_) h50
      ·replace h50 : ¬ (r7 = (5)) := beq_eq_false_iff_ne.1 h50
       refine Cm 2 s7 [(0,vP c 0),Ml 2 0,Ml 3 1,(7,vI r7),(49,vB false)] [(2,0,Zn),(3,1,cNV u5.v)] fun _ _ => ?_
       refine ⟨_,rfl,?_⟩
       rintro (_|_) h65
       ·replace h65 : ¬ (r7 = (6)) := beq_eq_false_iff_ne.1 h65
        refine Cm 2 s7 [(0,vP c 0),Ml 2 0,Ml 3 1,(7,vI r7),(64,vB false)] [(2,0,Zn),(3,1,cNV u5.v)] fun _ _ => ?_
        refine ⟨_,rfl,?_⟩
        rintro (_|_) h70
        ·replace h70 : ¬ (r7 = (7)) := beq_eq_false_iff_ne.1 h70
         refine Cm 2 s7 [(0,vP c 0),Ml 2 0,Ml 3 1,(7,vI r7),(69,vB false)] [(2,0,Zn),(3,1,cNV u5.v)] fun _ _ => ?_
         refine ⟨_,rfl,?_⟩
         rintro (_|_) h79
         ·replace h79 : ¬ (r7 = (8)) := beq_eq_false_iff_ne.1 h79
          refine Cm 2 s7 [(0,vP c 0),Ml 2 0,Ml 3 1,(78,vB false)] [(2,0,Zn),(3,1,cNV u5.v)] fun _ _ => ?_
          refine cxs ?_
          refine ⟨_,op_ldo (v := (vNV u5.v)) rfl rfl rfl rfl,?_⟩
          refine ⟨_,op_stw (vs := cNV u5.v) rfl rfl rfl rfl rfl rfl rfl rfl,?_⟩
          exact cxs (Rt ⟨u5.v,pcNW u5,rfl,hb,hF7,fun s hO => hO.rdN,hC7⟩)
         ·replace h79 : r7 = (8) := beq_iff_eq.1 h79
          refine Cm 2 s7 [(0,vP c 0),Ml 2 0,Ml 3 1,(78,vB true)] [(2,0,Zn),(3,1,cNV u5.v)] fun _ _ => ?_
          refine ⟨_,rfl,(ac_d_l7Draw c s7 hC7 (by first | assumption | omega)).mono ?_⟩
          rintro _ s81 ⟨u81,rfl,h81,hF81,hC81⟩
          refine ⟨_,rfl,?_⟩
          refine ⟨_,Os rfl,?_⟩
          refine Cm 2 s81 [Ml 2 0,Ml 3 1] [(2,0,Zn),(3,1,Nv u5 [(6,vI u81.cap),(7,vI u81.frm),(8,vS u81.p u81.l.length)])] fun _ _ => ?_
          refine ⟨_,op_ldo (v := .agg #[vI u5.id,vI u5.n,vS u5.s.p u5.s.x.items.length,vS u5.s.q u5.s.x.floors.length,vS u5.t.p u5.t.l.length,vI u5.t.root,vI u81.cap,vI u81.frm,vS u81.p u81.l.length,vS u5.got.p u5.got.l.length,vS u5.acked.p u5.acked.l.length,vS u5.seen.p u5.seen.t.length,vI u5.num,vI u5.slots,vS u5.sess.p u5.sess.l.length,vI u5.wait,vI u5.limit,vI u5.clock,vS u5.rises.p u5.rises.l.length]) rfl rfl rfl rfl,?_⟩
          refine ⟨_,op_stw (vs := [vI u5.id,vI u5.n,vS u5.s.p u5.s.x.items.length,vS u5.s.q u5.s.x.floors.length,vS u5.t.p u5.t.l.length,vI u5.t.root,vI u81.cap,vI u81.frm,vS u81.p u81.l.length,vS u5.got.p u5.got.l.length,vS u5.acked.p u5.acked.l.length,vS u5.seen.p u5.seen.t.length,vI u5.num,vI u5.slots,vS u5.sess.p u5.sess.l.length,vI u5.wait,vI u5.limit,vI u5.clock,vS u5.rises.p u5.rises.l.length]) rfl rfl rfl rfl rfl rfl rfl rfl,?_⟩
          exact cxs (Rt ⟨{ u5.v with g := u81 },pcNW u5 ++ pcL u81.p u81.l,rfl,⟨hb.s,hb.t,bigLog_iff.2 (h81.big (by decide)),hb.got,hb.acked,hb.seen,hb.sess,hb.rises⟩,hF7.join hF81,fun s hO => have h := hO.left.rdN; ⟨h.s,h.t,hO.right.rdL,h.got,h.acked,h.seen,h.sess,h.rises⟩,hC81⟩)
        ·replace h70 : r7 = (7) := beq_iff_eq.1 h70
         refine Cm 2 s7 [(0,vP c 0),Ml 2 0,Ml 3 1,(7,vI r7),(69,vB true)] [(2,0,Zn),(3,1,cNV u5.v)] fun _ _ => ?_
         have hO : OwnR s7 3 cRise u5.rises.p u5.rises.l := hF7.1.ownRis
         obtain ⟨a,ha⟩ := hO.some (by omega)
         obtain ⟨w0,hw⟩ : ∃ w,u5.rises.l[0]? = some w := ⟨u5.rises.l[0]'(by omega),List.getElem?_eq_getElem (by omega)⟩
         refine ⟨_,rfl,?_⟩
         refine ⟨_,Od rfl,?_⟩
         refine ⟨_,rfl,?_⟩
         refine ⟨_,Od rfl,?_⟩
         refine ⟨_,rfl,?_⟩
         refine ⟨_,op_idx (j := 0) (n := u5.rises.l.length) (q := ⟨a,0,none⟩) rfl (congrArg (fun v => vS v u5.rises.l.length) ha) rfl rfl rfl (Int.le_refl 0) (by omega),?_⟩
         refine ⟨_,rfl,?_⟩
         refine op_putc (z := 3) (i := 2) (st := s7) (f := cRise) (j := 0) (l := u5.rises.l) (w := w0) (y := (⟨w0.inc,w0.beat,IntKind.wrap .i64 (u5.clock + 1)⟩ : Ris)) (p := u5.rises.p) (d := 0 + 0 * 3 + 2) rfl rfl rfl rfl rfl len_cRise rfl rfl hw (by decide) rfl hO ha ?_
         intro s9 hO9 hP9 hn9
         refine Cm 2 s9 [Ml 2 0,Ml 3 1] [(2,0,Zn),(3,1,cNV u5.v)] fun _ _ => ?_
         refine ⟨_,op_ldo (v := (vNV u5.v)) rfl rfl rfl rfl,?_⟩
         refine ⟨_,op_stw (vs := cNV u5.v) rfl rfl rfl rfl rfl rfl rfl rfl,?_⟩
         refine cxs ?_
         have hF9 := hF7.risSet hP9 hO9
         exact Rt ⟨NW.v { u5 with rises := ⟨u5.rises.p,u5.rises.l.set 0 ⟨w0.inc,w0.beat,IntKind.wrap .i64 (u5.clock + 1)⟩⟩ },pcNW { u5 with rises := ⟨u5.rises.p,u5.rises.l.set 0 ⟨w0.inc,w0.beat,IntKind.wrap .i64 (u5.clock + 1)⟩⟩ },by simp only [vNV,List.length_set]; rfl,⟨hb.s,hb.t,hb.g,hb.got,hb.acked,hb.seen,hb.sess,by show (List.set _ _ _).length ≤ 1048576; rw [List.length_set]; exact hb.rises⟩,hF9.1,fun s hO => hO.rdN,hC7.thenNew hc hF7.2.2.1 hP9 hF7.2.1.ris⟩
       ·replace h65 : r7 = (6) := beq_iff_eq.1 h65
        refine Cm 2 s7 [(0,vP c 0),Ml 2 0,Ml 3 1,(7,vI r7),(64,vB true)] [(2,0,Zn),(3,1,cNV u5.v)] fun _ _ => ?_
        refine ⟨_,rfl,(ac_d_l3Draw c s7 hC7 (by first | assumption | omega)).mono ?_⟩
        rintro _ s67 ⟨u67,rfl,h67,hF67,hC67⟩
        refine ⟨_,rfl,?_⟩
        refine ⟨_,Os rfl,?_⟩
        refine Cm 2 s67 [Ml 2 0,Ml 3 1] [(2,0,Zn),(3,1,Nv u5 [(2,vS u67.p u67.x.items.length),(3,vS u67.q u67.x.floors.length)])] fun _ _ => ?_
        refine ⟨_,op_ldo (v := .agg #[vI u5.id,vI u5.n,vS u67.p u67.x.items.length,vS u67.q u67.x.floors.length,vS u5.t.p u5.t.l.length,vI u5.t.root,vI u5.g.cap,vI u5.g.frm,vS u5.g.p u5.g.l.length,vS u5.got.p u5.got.l.length,vS u5.acked.p u5.acked.l.length,vS u5.seen.p u5.seen.t.length,vI u5.num,vI u5.slots,vS u5.sess.p u5.sess.l.length,vI u5.wait,vI u5.limit,vI u5.clock,vS u5.rises.p u5.rises.l.length]) rfl rfl rfl rfl,?_⟩
        refine ⟨_,op_stw (vs := [vI u5.id,vI u5.n,vS u67.p u67.x.items.length,vS u67.q u67.x.floors.length,vS u5.t.p u5.t.l.length,vI u5.t.root,vI u5.g.cap,vI u5.g.frm,vS u5.g.p u5.g.l.length,vS u5.got.p u5.got.l.length,vS u5.acked.p u5.acked.l.length,vS u5.seen.p u5.seen.t.length,vI u5.num,vI u5.slots,vS u5.sess.p u5.sess.l.length,vI u5.wait,vI u5.limit,vI u5.clock,vS u5.rises.p u5.rises.l.length]) rfl rfl rfl rfl rfl rfl rfl rfl,?_⟩
        exact cxs (Rt ⟨{ u5.v with s := u67 },pcNW u5 ++ pcS u67,rfl,⟨h67.big (by decide),hb.t,hb.g,hb.got,hb.acked,hb.seen,hb.sess,hb.rises⟩,hF7.join hF67,fun s hO => have h := hO.left.rdN; ⟨hO.right.rdS,h.t,h.g,h.got,h.acked,h.seen,h.sess,h.rises⟩,hC67⟩)
      ·replace h50 : r7 = (5) := beq_iff_eq.1 h50
       refine Cm 2 s7 [(0,vP c 0),Ml 2 0,Ml 3 1,(7,vI r7),(49,vB true)] [(2,0,Zn),(3,1,cNV u5.v)] fun _ _ => ?_
       refine ⟨fun _ => False,?_⟩
       refine ⟨_,rfl,?_⟩
       refine ⟨_,Od rfl,?_⟩
       refine ⟨ld_own rfl rfl rfl,?_⟩
       refine ⟨_,rfl,(ac_d_l1Below c 6 s7 hC7 (by first | assumption | omega)).mono ?_⟩
       rintro _ s54 ⟨r54,rfl,h54,h54',h54'',hC54,hL54⟩
       refine ⟨fun _ h => h.elim,?_⟩
       refine ⟨_,rfl,?_⟩
       refine ⟨_,rfl,(ac_d_l1Once c 2 s54 hC54 (by first | assumption | omega)).mono ?_⟩
       rintro _ s57 ⟨b57,rfl,hC57,hL57⟩
       refine ⟨fun _ h => h.elim,?_⟩
       refine ⟨_,rfl,(ac_d_l1Below c 9 s57 hC57 (by first | assumption | omega)).mono ?_⟩
       rintro _ s59 ⟨r59,rfl,h59,h59',h59'',hC59,hL59⟩
       refine ⟨fun _ h => h.elim,?_⟩
       refine ⟨_,rfl,?_⟩
       refine op_one (z := 4) (a := ((⟨IntKind.wrap .i64 (r54 - 1),1,b57,r59⟩ : Ses) : Ses)) (f := cSess) rfl rfl rfl rfl rfl (by decide) rfl (Lb rfl) rfl rfl rfl ?_
       refine ⟨fun _ h => h.elim,?_⟩
       have hF59 := ((hF7.later hL54).later hL57).later hL59
       have hO59 : OwnR s59 4 cSess u5.sess.p u5.sess.l := hF59.1.ses
       refine op_snoc (z := 4) (st := s59) (f := cSess) (b := 32) (l := u5.sess.l) (x := (⟨IntKind.wrap .i64 (r54 - 1),1,b57,r59⟩ : Ses)) rfl rfl rfl rfl rfl rfl rfl (by decide) len_cSess rfl rfl rfl (by omega) (by unfold maxLen; omega) hO59 ?_
       intro q62 s62 hO62 hP62 hN62
       refine ⟨_,rfl,?_⟩
       refine ⟨_,Os rfl,?_⟩
       refine Cm 2 s62 [Ml 2 0,Ml 3 1] [(2,0,Zn),(3,1,[vI u5.id,vI u5.n,vS u5.s.p u5.s.x.items.length,vS u5.s.q u5.s.x.floors.length,vS u5.t.p u5.t.l.length,vI u5.t.root,vI u5.g.cap,vI u5.g.frm,vS u5.g.p u5.g.l.length,vS u5.got.p u5.got.l.length,vS u5.acked.p u5.acked.l.length,vS u5.seen.p u5.seen.t.length,vI u5.num,vI u5.slots,vS q62 (u5.sess.l ++ [(⟨IntKind.wrap .i64 (r54 - 1),1,b57,r59⟩ : Ses)]).length,vI u5.wait,vI u5.limit,vI u5.clock,vS u5.rises.p u5.rises.l.length])] fun _ _ => ?_
       refine ⟨_,op_ldo (v := .agg #[vI u5.id,vI u5.n,vS u5.s.p u5.s.x.items.length,vS u5.s.q u5.s.x.floors.length,vS u5.t.p u5.t.l.length,vI u5.t.root,vI u5.g.cap,vI u5.g.frm,vS u5.g.p u5.g.l.length,vS u5.got.p u5.got.l.length,vS u5.acked.p u5.acked.l.length,vS u5.seen.p u5.seen.t.length,vI u5.num,vI u5.slots,vS q62 (u5.sess.l ++ [(⟨IntKind.wrap .i64 (r54 - 1),1,b57,r59⟩ : Ses)]).length,vI u5.wait,vI u5.limit,vI u5.clock,vS u5.rises.p u5.rises.l.length]) rfl rfl rfl rfl,?_⟩
       refine ⟨_,op_stw (vs := [vI u5.id,vI u5.n,vS u5.s.p u5.s.x.items.length,vS u5.s.q u5.s.x.floors.length,vS u5.t.p u5.t.l.length,vI u5.t.root,vI u5.g.cap,vI u5.g.frm,vS u5.g.p u5.g.l.length,vS u5.got.p u5.got.l.length,vS u5.acked.p u5.acked.l.length,vS u5.seen.p u5.seen.t.length,vI u5.num,vI u5.slots,vS q62 (u5.sess.l ++ [(⟨IntKind.wrap .i64 (r54 - 1),1,b57,r59⟩ : Ses)]).length,vI u5.wait,vI u5.limit,vI u5.clock,vS u5.rises.p u5.rises.l.length]) rfl rfl rfl rfl rfl rfl rfl rfl,?_⟩
       refine cxs ?_
       have hF62 := hF59.sesPush hP62 hO62 hN62
       exact Rt ⟨NW.v { u5 with sess := ⟨q62,u5.sess.l ++ [⟨IntKind.wrap .i64 (r54 - 1),1,b57,r59⟩]⟩ },pcNW { u5 with sess := ⟨q62,u5.sess.l ++ [⟨IntKind.wrap .i64 (r54 - 1),1,b57,r59⟩]⟩ },rfl,⟨hb.s,hb.t,hb.g,hb.got,hb.acked,hb.seen,by show (u5.sess.l ++ [_]).length ≤ 1048576; rw [List.length_append,List.length_singleton]; omega,hb.rises⟩,hF62.1,fun s hO => hO.rdN,hC59.thenNew hc hF59.2.2.1 hP62 hF59.2.1.ses⟩
     ·replace h44 : r7 = (4) := beq_iff_eq.1 h44
      refine Cm 2 s7 [(0,vP c 0),Ml 2 0,Ml 3 1,(7,vI r7),(43,vB true)] [(2,0,Zn),(3,1,cNV u5.v)] fun _ _ => ?_
      refine op_litI (k := .i64) (l := [0,5]) rfl rfl rfl rfl rfl rfl (Lb rfl) ?_
      intro q46 s46 hO46 hP46 hN46
      refine ⟨_,rfl,(ac_d_l1PickInt c q46 ([0,5]) s46 (hC7.pres hP46) (by first | assumption | omega) (by first | assumption | omega | decide) (by first | assumption | omega) (by first | assumption | exact NC.new (by assumption) (Cur.lt (by assumption)))).mono ?_⟩
      rintro _ s47 ⟨r47,rfl,h47,hC47,hL47⟩
      refine ⟨_,rfl,?_⟩
      refine ⟨_,Os rfl,?_⟩
      refine Cm 2 s47 [Ml 2 0,Ml 3 1] [(2,0,Zn),(3,1,Nv u5 [(13,vI r47)])] fun _ _ => ?_
      refine ⟨_,op_ldo (v := .agg #[vI u5.id,vI u5.n,vS u5.s.p u5.s.x.items.length,vS u5.s.q u5.s.x.floors.length,vS u5.t.p u5.t.l.length,vI u5.t.root,vI u5.g.cap,vI u5.g.frm,vS u5.g.p u5.g.l.length,vS u5.got.p u5.got.l.length,vS u5.acked.p u5.acked.l.length,vS u5.seen.p u5.seen.t.length,vI u5.num,vI r47,vS u5.sess.p u5.sess.l.length,vI u5.wait,vI u5.limit,vI u5.clock,vS u5.rises.p u5.rises.l.length]) rfl rfl rfl rfl,?_⟩
      refine ⟨_,op_stw (vs := [vI u5.id,vI u5.n,vS u5.s.p u5.s.x.items.length,vS u5.s.q u5.s.x.floors.length,vS u5.t.p u5.t.l.length,vI u5.t.root,vI u5.g.cap,vI u5.g.frm,vS u5.g.p u5.g.l.length,vS u5.got.p u5.got.l.length,vS u5.acked.p u5.acked.l.length,vS u5.seen.p u5.seen.t.length,vI u5.num,vI r47,vS u5.sess.p u5.sess.l.length,vI u5.wait,vI u5.limit,vI u5.clock,vS u5.rises.p u5.rises.l.length]) rfl rfl rfl rfl rfl rfl rfl rfl,?_⟩
      exact cxs (Rt ⟨{ u5.v with slots := r47 },pcNW u5,rfl,⟨hb.s,hb.t,hb.g,hb.got,hb.acked,hb.seen,hb.sess,hb.rises⟩,(hF7.step hP46).later hL47,fun s hO => have h := hO.rdN; ⟨h.s,h.t,h.g,h.got,h.acked,h.seen,h.sess,h.rises⟩,hC47⟩)
    ·replace h39 : r7 = (3) := beq_iff_eq.1 h39
     refine Cm 2 s7 [(0,vP c 0),Ml 2 0,Ml 3 1,(7,vI r7),(38,vB true)] [(2,0,Zn),(3,1,cNV u5.v)] fun _ _ => ?_
     refine ⟨_,rfl,(ac_d_l9Draw c s7 hC7 hs).mono ?_⟩
     rintro _ s41 ⟨q41,t41,L41,rfl,h41,hF41,hH41,hC41⟩
     refine ⟨_,rfl,?_⟩
     refine ⟨_,Os rfl,?_⟩
     refine Cm 2 s41 [Ml 2 0,Ml 3 1] [(2,0,Zn),(3,1,Nv u5 [(11,vS q41 t41.length)])] fun _ _ => ?_
     refine ⟨_,op_ldo (v := .agg #[vI u5.id,vI u5.n,vS u5.s.p u5.s.x.items.length,vS u5.s.q u5.s.x.floors.length,vS u5.t.p u5.t.l.length,vI u5.t.root,vI u5.g.cap,vI u5.g.frm,vS u5.g.p u5.g.l.length,vS u5.got.p u5.got.l.length,vS u5.acked.p u5.acked.l.length,vS q41 t41.length,vI u5.num,vI u5.slots,vS u5.sess.p u5.sess.l.length,vI u5.wait,vI u5.limit,vI u5.clock,vS u5.rises.p u5.rises.l.length]) rfl rfl rfl rfl,?_⟩
     refine ⟨_,op_stw (vs := [vI u5.id,vI u5.n,vS u5.s.p u5.s.x.items.length,vS u5.s.q u5.s.x.floors.length,vS u5.t.p u5.t.l.length,vI u5.t.root,vI u5.g.cap,vI u5.g.frm,vS u5.g.p u5.g.l.length,vS u5.got.p u5.got.l.length,vS u5.acked.p u5.acked.l.length,vS q41 t41.length,vI u5.num,vI u5.slots,vS u5.sess.p u5.sess.l.length,vI u5.wait,vI u5.limit,vI u5.clock,vS u5.rises.p u5.rises.l.length]) rfl rfl rfl rfl rfl rfl rfl rfl,?_⟩
     exact cxs (Rt ⟨{ u5.v with seen := ⟨q41,t41⟩ },pcNW u5 ++ L41,rfl,⟨hb.s,hb.t,hb.g,hb.got,hb.acked,tt_big h41,hb.sess,hb.rises⟩,hF7.join hF41,fun s hO => have h := hO.left.rdN; ⟨h.s,h.t,h.g,h.got,h.acked,hH41 s hO.right,h.sess,h.rises⟩,hC41⟩)
   ·replace h25 : r7 = (2) := beq_iff_eq.1 h25
    refine Cm 2 s7 [(0,vP c 0),Ml 2 0,Ml 3 1,(7,vI r7),(24,vB true)] [(2,0,Zn),(3,1,cNV u5.v)] fun _ _ => ?_
    have hlen : u5.id.toNat < u5.got.l.length := by omega
    have hO : OwnR s7 1 fI u5.got.p u5.got.l := hF7.1.ownGot
    obtain ⟨a,ha⟩ := hO.some (by omega)
    obtain ⟨b1,o1,k1,r,hpe,hr,hm1,hc1,hb1⟩ := (hO.rows fI_len).atB (j := u5.id.toNat) hlen
    obtain ⟨rfl,rfl⟩ : a = b1 ∧ 0 = o1 := by rw [ha] at hpe; injection hpe with hpe; injection hpe with e1 e2; exact ⟨e1,e2⟩
    refine ⟨_,rfl,?_⟩
    refine ⟨_,Od rfl,?_⟩
    refine ⟨_,rfl,?_⟩
    refine ⟨_,Od rfl,?_⟩
    refine ⟨_,rfl,?_⟩
    refine ⟨_,Od rfl,?_⟩
    refine ⟨_,rfl,?_⟩
    refine ⟨_,Od rfl,?_⟩
    refine ⟨_,op_idx (j := u5.id) (n := u5.got.l.length) (q := ⟨a,0,none⟩) rfl (congrArg (fun v => vS v u5.got.l.length) ha) rfl rfl rfl hid.1 (by omega),?_⟩
    refine ⟨_,op_ldc (i := 0) rfl rfl rfl rfl hm1 hc1 rfl rfl,?_⟩
    refine ⟨_,rfl,?_⟩
    refine ⟨_,op_idx (j := u5.id) (n := u5.got.l.length) (q := ⟨a,0,none⟩) rfl (congrArg (fun v => vS v u5.got.l.length) ha) rfl rfl rfl hid.1 (by omega),?_⟩
    refine op_put (z := 1) (st := s7) (f := fI) (j := u5.id.toNat) (l := u5.got.l) (y := IntKind.wrap .i64 (r + 1)) (p := u5.got.p) (d := 0 + u5.id.toNat * 1) rfl rfl (Nat.zero_add _) rfl rfl fI_len rfl rfl hlen hO ha ?_
    intro s9 hO9 hP9 hn9
    refine Cm 2 s9 [Ml 2 0,Ml 3 1] [(2,0,Zn),(3,1,cNV u5.v)] fun _ _ => ?_
    refine ⟨_,op_ldo (v := (vNV u5.v)) rfl rfl rfl rfl,?_⟩
    refine ⟨_,op_stw (vs := cNV u5.v) rfl rfl rfl rfl rfl rfl rfl rfl,?_⟩
    refine cxs ?_
    have hF9 := hF7.gotSet hP9 hO9
    exact Rt ⟨NW.v { u5 with got := ⟨u5.got.p,u5.got.l.set u5.id.toNat (IntKind.wrap .i64 (r + 1))⟩ },pcNW { u5 with got := ⟨u5.got.p,u5.got.l.set u5.id.toNat (IntKind.wrap .i64 (r + 1))⟩ },by simp only [vNV,List.length_set]; rfl,⟨hb.s,hb.t,hb.g,by show (List.set _ _ _).length ≤ 1048576; rw [List.length_set]; exact hb.got,hb.acked,hb.seen,hb.sess,hb.rises⟩,hF9.1,fun s hO => hO.rdN,hC7.thenNew hc hF7.2.2.1 hP9 hF7.2.1.got⟩
  ·replace h17 : r7 = (1) := beq_iff_eq.1 h17
   refine Cm 2 s7 [(0,vP c 0),Ml 2 0,Ml 3 1,(7,vI r7),(16,vB true)] [(2,0,Zn),(3,1,cNV u5.v)] fun _ _ => ?_
   iterate 2 refine ⟨_,rfl,?_⟩
   refine ⟨_,Od rfl,?_⟩
   iterate 3 refine ⟨_,rfl,?_⟩
   refine ⟨_,Os rfl,?_⟩
   refine Cm 2 s7 [Ml 2 0,Ml 3 1] [(2,0,Zn),(3,1,Nv u5 [(5,vI (IntKind.wrap .i64 (u5.t.root + 1)))])] fun _ _ => ?_
   refine ⟨_,op_ldo (v := .agg #[vI u5.id,vI u5.n,vS u5.s.p u5.s.x.items.length,vS u5.s.q u5.s.x.floors.length,vS u5.t.p u5.t.l.length,vI (IntKind.wrap .i64 (u5.t.root + 1)),vI u5.g.cap,vI u5.g.frm,vS u5.g.p u5.g.l.length,vS u5.got.p u5.got.l.length,vS u5.acked.p u5.acked.l.length,vS u5.seen.p u5.seen.t.length,vI u5.num,vI u5.slots,vS u5.sess.p u5.sess.l.length,vI u5.wait,vI u5.limit,vI u5.clock,vS u5.rises.p u5.rises.l.length]) rfl rfl rfl rfl,?_⟩
   refine ⟨_,op_stw (vs := [vI u5.id,vI u5.n,vS u5.s.p u5.s.x.items.length,vS u5.s.q u5.s.x.floors.length,vS u5.t.p u5.t.l.length,vI (IntKind.wrap .i64 (u5.t.root + 1)),vI u5.g.cap,vI u5.g.frm,vS u5.g.p u5.g.l.length,vS u5.got.p u5.got.l.length,vS u5.acked.p u5.acked.l.length,vS u5.seen.p u5.seen.t.length,vI u5.num,vI u5.slots,vS u5.sess.p u5.sess.l.length,vI u5.wait,vI u5.limit,vI u5.clock,vS u5.rises.p u5.rises.l.length]) rfl rfl rfl rfl rfl rfl rfl rfl,?_⟩
   exact cxs (Rt ⟨{ u5.v with t := { u5.t with root := IntKind.wrap .i64 (u5.t.root + 1) } },pcNW u5,rfl,⟨hb.s,hb.t,hb.g,hb.got,hb.acked,hb.seen,hb.sess,hb.rises⟩,hF7,fun s hO => have h := hO.rdN; ⟨h.s,h.t,h.g,h.got,h.acked,h.seen,h.sess,h.rises⟩,hC7⟩)
 ·replace h9 : r7 = (0) := beq_iff_eq.1 h9
  refine Cm 2 s7 [(0,vP c 0),Ml 2 0,Ml 3 1,(7,vI r7),(8,vB true)] [(2,0,Zn),(3,1,cNV u5.v)] fun _ _ => ?_
  refine ⟨_,rfl,?_⟩
  refine ⟨_,Od rfl,?_⟩
  refine op_litI (k := .i64) (l := [-1,u5.n]) rfl rfl rfl rfl rfl rfl (Lb rfl) ?_
  intro q13 s13 hO13 hP13 hN13
  refine ⟨_,rfl,(ac_d_l1PickInt c q13 [-1,u5.n] s13 (hC7.pres hP13) hs (Nat.succ_pos _) hO13 (NC.new hN13 hC7.lt)).mono ?_⟩
  rintro _ s14 ⟨r14,rfl,h14,hC14,hL14⟩
  refine ⟨_,rfl,?_⟩
  refine ⟨_,Os rfl,?_⟩
  refine Cm 2 s14 [Ml 2 0,Ml 3 1] [(2,0,Zn),(3,1,Nv u5 [(0,vI r14)])] fun _ _ => ?_
  refine ⟨_,op_ldo (v := .agg #[vI r14,vI u5.n,vS u5.s.p u5.s.x.items.length,vS u5.s.q u5.s.x.floors.length,vS u5.t.p u5.t.l.length,vI u5.t.root,vI u5.g.cap,vI u5.g.frm,vS u5.g.p u5.g.l.length,vS u5.got.p u5.got.l.length,vS u5.acked.p u5.acked.l.length,vS u5.seen.p u5.seen.t.length,vI u5.num,vI u5.slots,vS u5.sess.p u5.sess.l.length,vI u5.wait,vI u5.limit,vI u5.clock,vS u5.rises.p u5.rises.l.length]) rfl rfl rfl rfl,?_⟩
  refine ⟨_,op_stw (vs := [vI r14,vI u5.n,vS u5.s.p u5.s.x.items.length,vS u5.s.q u5.s.x.floors.length,vS u5.t.p u5.t.l.length,vI u5.t.root,vI u5.g.cap,vI u5.g.frm,vS u5.g.p u5.g.l.length,vS u5.got.p u5.got.l.length,vS u5.acked.p u5.acked.l.length,vS u5.seen.p u5.seen.t.length,vI u5.num,vI u5.slots,vS u5.sess.p u5.sess.l.length,vI u5.wait,vI u5.limit,vI u5.clock,vS u5.rises.p u5.rises.l.length]) rfl rfl rfl rfl rfl rfl rfl rfl,?_⟩
  exact cxs (Rt ⟨{ u5.v with id := r14 },pcNW u5,rfl,⟨hb.s,hb.t,hb.g,hb.got,hb.acked,hb.seen,hb.sess,hb.rises⟩,(hF7.step hP13).later hL14,fun s hO => have h := hO.rdN; ⟨h.s,h.t,h.g,h.got,h.acked,h.seen,h.sess,h.rises⟩,hC14⟩)
theorem ac_spec_DrawSay (p : Option Addr) (bs : List Int) (st : St) (hI : Ints st .u8 p bs) (hs : bs.length < 1099511627776) : C 34 [vS p bs.length] st (fun v s => ∃ (g : NV) (k i : Int) (d : ByteArray),v = .tuple #[(vNV g),vI k,vI i,.string d] ∧ bigN g.x ∧ RdN s g ∧ Pres st s) := by
 refine AC.enterX (i := ⟨[2,7],[2,7,22],[0,2,3,4,5,6,7,8,9,21],[]⟩) [(2007,[],[1]),(7,[4,5],[0])] Tryz.func34 rfl rfl (by kernel_rfl) (by kernel_rfl) Tryz.ntmps34 (Lb rfl) rfl ?_
 refine ⟨_,rfl,?_⟩
 refine Cm 1 st [(0,vS p bs.length),Ml 2 0,(3,vI 0),(4,vI 0),(5,.string ⟨#[]⟩)] [(2,0,Zn)] fun _ _ => ?_
 refine ⟨_,rfl,(ac_spec_l1New p bs st hI (by first | assumption | omega)).mono ?_⟩
 rintro _ s11 ⟨rfl,hC11,hP11,h11⟩
 refine Cm 1 s11 [Ml 2 0,(3,vI 0),(4,vI 0),(5,.string ⟨#[]⟩),(6,vP st.next 0)] [(2,0,Zn)] fun _ _ => ?_
 refine ⟨_,rfl,(ac_d_l11Draw st.next s11 hC11 (by first | assumption | omega)).mono ?_⟩
 rintro _ s13 ⟨g13,L13,rfl,h13,hF13,h13',hC13⟩
 refine ⟨_,rfl,?_⟩
 refine ⟨_,op_stw (vs := cNV g13) rfl rfl rfl rfl rfl rfl rfl rfl,?_⟩
 refine Cm 2 s13 [Ml 2 0,(3,vI 0),(4,vI 0),(5,.string ⟨#[]⟩),(6,vP st.next 0),Ml 7 1] [(2,0,Zn),(7,1,cNV g13)] fun _ _ => ?_
 refine ⟨_,rfl,(ac_d_l1Below st.next 7 s13 hC13 (by first | assumption | omega)).mono ?_⟩
 rintro _ s15 ⟨r15,rfl,h15,h15',h15'',hC15,hL15⟩
 have ew16 : IntKind.wrap .i64 (r15 - (1)) = r15 - (1) := wrap_i64 (by omega) (by omega)
 refine ⟨_,rfl,?_⟩
 refine AW.cutM (2) s15 [Ml 2 0,(3,vI 0),(4,vI 0),(5,.string ⟨#[]⟩),(6,vP st.next 0),Ml 7 1,(8,vI (r15 - (1)))] [(2,0,Zn),(7,1,cNV g13)] ⟨rfl,rfl,rfl,rfl,rfl,rfl,congrArg (Value.int .i64) ew16,trivial⟩ ⟨rfl,rfl,trivial⟩ rfl fun _ _ => ?_
 refine ⟨_,rfl,(ac_d_l1Below st.next 7 s15 hC15 (by first | assumption | omega)).mono ?_⟩
 rintro _ s18 ⟨r18,rfl,h18,h18',h18'',hC18,hL18⟩
 have ew19 : IntKind.wrap .i64 (r18 - (1)) = r18 - (1) := wrap_i64 (by omega) (by omega)
 refine ⟨_,rfl,?_⟩
 refine AW.cutM (2) s18 [Ml 2 0,(3,vI 0),(4,vI 0),(5,.string ⟨#[]⟩),(6,vP st.next 0),Ml 7 1,(8,vI (r15 - (1))),(9,vI (r18 - (1)))] [(2,0,Zn),(7,1,cNV g13)] ⟨rfl,rfl,rfl,rfl,rfl,rfl,rfl,congrArg (Value.int .i64) ew19,trivial⟩ ⟨rfl,rfl,trivial⟩ rfl fun _ _ => ?_
 refine ⟨_,rfl,(ac_d_l1Once st.next 2 s18 hC18 (by first | assumption | omega)).mono ?_⟩
 rintro _ s21 ⟨b21,rfl,hC21,hL21⟩
 rcases b21 with _|_
 ·refine Cm 2 s21 [Ml 2 0,(3,vI 0),(4,vI 0),(5,.string ⟨#[]⟩),(6,vP st.next 0),Ml 7 1,(8,vI (r15 - (1))),(9,vI (r18 - (1))),(21,vB false)] [(2,0,Zn),(7,1,cNV g13)] fun _ _ => ?_
  refine cxs ?_
  refine ⟨fun _ => False,?_⟩
  refine ⟨_,op_ldo (v := (vNV g13)) rfl rfl rfl rfl,?_⟩
  refine ⟨ld_own rfl rfl rfl,?_⟩
  refine op_litS (l := [⟨#[]⟩,⟨#[120]⟩,⟨#[49,50,51,52,53,54,55,56]⟩,⟨#[49,50,51,52,53,54,55,56,57]⟩]) rfl rfl rfl (Lb rfl) rfl rfl rfl (Lb rfl) ?_
  intro q28 s28 hO28 hP28 hN28
  refine ⟨fun _ h => h.elim,?_⟩
  refine ⟨_,rfl,(ac_d_l1Pick st.next q28 ([⟨#[]⟩,⟨#[120]⟩,⟨#[49,50,51,52,53,54,55,56]⟩,⟨#[49,50,51,52,53,54,55,56,57]⟩]) s28 (hC21.pres hP28) (by first | assumption | omega) (by first | assumption | omega | decide) (by first | assumption | omega) (by first | assumption | exact NC.new (by assumption) (Cur.lt (by assumption)))).mono ?_⟩
  rintro _ s29 ⟨r29,rfl,h29,hC29,hL29⟩
  refine ⟨fun _ h => h.elim,?_⟩
  refine ⟨_,op_stw (vs := cNV g13) rfl rfl rfl rfl rfl rfl rfl rfl,?_⟩
  refine cxs ?_
  have hF := ((((hF13.later hL15).later hL18).later hL21).step hP28).later hL29
  exact Rt ⟨g13,_,_,r29,rfl,h13,h13' _ hF.1,(hF.out hP11).2.2⟩
 ·refine Cm 2 s21 [Ml 2 0,(3,vI 0),(4,vI 0),(5,.string ⟨#[]⟩),(6,vP st.next 0),Ml 7 1,(8,vI (r15 - (1))),(9,vI (r18 - (1))),(21,vB true)] [(2,0,Zn),(7,1,cNV g13)] fun _ _ => ?_
  refine ⟨_,rfl,?_⟩
  refine ⟨_,Od rfl,?_⟩
  refine Cm 2 s21 [Ml 2 0,(3,vI 0),(4,vI 0),(5,.string ⟨#[]⟩),(6,vP st.next 0),Ml 7 1,(8,vI (r15 - (1))),(9,vI g13.id)] [(2,0,Zn),(7,1,cNV g13)] fun _ _ => ?_
  refine ⟨fun _ => False,?_⟩
  refine ⟨_,op_ldo (v := (vNV g13)) rfl rfl rfl rfl,?_⟩
  refine ⟨ld_own rfl rfl rfl,?_⟩
  refine op_litS (l := [⟨#[]⟩,⟨#[120]⟩,⟨#[49,50,51,52,53,54,55,56]⟩,⟨#[49,50,51,52,53,54,55,56,57]⟩]) rfl rfl rfl (Lb rfl) rfl rfl rfl (Lb rfl) ?_
  intro q28 s28 hO28 hP28 hN28
  refine ⟨fun _ h => h.elim,?_⟩
  refine ⟨_,rfl,(ac_d_l1Pick st.next q28 ([⟨#[]⟩,⟨#[120]⟩,⟨#[49,50,51,52,53,54,55,56]⟩,⟨#[49,50,51,52,53,54,55,56,57]⟩]) s28 (hC21.pres hP28) (by first | assumption | omega) (by first | assumption | omega | decide) (by first | assumption | omega) (by first | assumption | exact NC.new (by assumption) (Cur.lt (by assumption)))).mono ?_⟩
  rintro _ s29 ⟨r29,rfl,h29,hC29,hL29⟩
  refine ⟨fun _ h => h.elim,?_⟩
  refine ⟨_,op_stw (vs := cNV g13) rfl rfl rfl rfl rfl rfl rfl rfl,?_⟩
  refine cxs ?_
  have hF := ((((hF13.later hL15).later hL18).later hL21).step hP28).later hL29
  exact Rt ⟨g13,_,_,r29,rfl,h13,h13' _ hF.1,(hF.out hP11).2.2⟩
structure leqS (a b : Sta) : Prop where
 ka : stateOk a
 kb : stateOk b
 le : joinF a b 5 = b
theorem leqS_no {a b x : Sta} (h : (x,false) = joinP a b) (k : leqS a b) : False := by
 unfold joinP at h
 rw [if_pos ⟨k.ka,k.kb⟩] at h
 injection h with _ h; cases h
theorem joinP_big {a b x : Sta} {c : Bool} (h : (x,c) = joinP a b) (ha : bigS a) (hb : bigS b) : bigS x := by
 unfold joinP at h
 split at h
 ·injection h with h _; rw [h]; exact bigS_join ha hb
 ·injection h with h _; rw [h]; exact bigS_nil
theorem joinP_is {a b x : Sta} (h : (x,true) = joinP a b) (k : joinF a b 5 = b) : x = b := by
 unfold joinP at h
 split at h
 ·injection h with h _; rw [h]; exact k
 ·injection h with _ h; cases h
theorem joinP_leq {a b x : Sta} (h : (x,true) = joinP a b) (k : x = b) : leqS a b := by
 unfold joinP at h
 split at h
 ·rename_i hk; injection h with h _; exact ⟨hk.1,hk.2,h.symm.trans k⟩
 ·injection h with _ h; cases h
theorem ac_impl_StateLeq (A B : SV) (st : St) (hA : RdS st A) (hB : RdS st B) (ha : bigS A.x) (hb : bigS B.x) : C 23 [.agg #[vS A.p A.x.items.length,vS A.q A.x.floors.length],.agg #[vS B.p B.x.items.length,vS B.q B.x.floors.length]] st (fun v s => ∃ x,v = .bool x ∧ (x = true ↔ leqS A.x B.x) ∧ Pres st s) := by
 refine AC.enterX (i := ⟨[2,3,5],[2,3,5],[0,1,2,3,4,5,6],[]⟩) [] Tryz.func23 rfl rfl (by kernel_rfl) (by kernel_rfl) Tryz.ntmps23 (Lb rfl) rfl ?_
 iterate 2 refine ⟨_,rfl,?_⟩
 refine Cm 2 st [Ml 2 0,Ml 3 1,(4,vB false)] [(2,0,cSV A),(3,1,cSV B)] fun _ _ => ?_
 refine ⟨_,Od rfl,?_⟩
 refine ⟨_,Od rfl,?_⟩
 refine ⟨_,rfl,(ac_impl_StateJoin A B st hA hB (by first | assumption | omega) (by first | assumption | omega)).mono ?_⟩
 rintro _ s10 ⟨u10,b10,rfl,h10,hO10,hN10,hP10⟩
 rcases b10 with _|_
 ·iterate 3 refine ⟨_,rfl,?_⟩
  refine ⟨_,Os rfl,?_⟩
  refine Cm 3 s10 [Ml 3 1,(4,vB false),Ml 5 2,(6,vB false)] [(3,1,cSV B),(5,2,cSV u10)] fun _ _ => ?_
  refine ⟨_,rfl,?_⟩
  exact cxs (Rt ⟨false,rfl,⟨fun h => absurd h Bool.false_ne_true,fun h => (show False from (leqS_no h10 h)).elim⟩,hP10⟩)
 ·iterate 3 refine ⟨_,rfl,?_⟩
  refine ⟨_,Os rfl,?_⟩
  refine Cm 3 s10 [Ml 3 1,(4,vB false),Ml 5 2,(6,vB true)] [(3,1,cSV B),(5,2,cSV u10)] fun _ _ => ?_
  refine ⟨_,Od rfl,?_⟩
  refine ⟨_,Od rfl,?_⟩
  refine ⟨_,rfl,(ac_impl_StateSame u10 B s10 hO10.rdS (hB.pres hP10) (joinP_big h10 ha hb)).mono ?_⟩
  rintro _ s10 ⟨x17,rfl,h17,rfl⟩
  rcases x17 with _|_
  ·replace h17 := fun k => Bool.false_ne_true (h17.2 k)
   refine ⟨_,rfl,?_⟩
   exact cxs (Rt ⟨false,rfl,⟨fun h => absurd h Bool.false_ne_true,fun h => (show False from (absurd (joinP_is h10 h.le) h17)).elim⟩,hP10⟩)
  ·replace h17 := h17.1 rfl
   refine ⟨_,rfl,?_⟩
   exact cxs (Rt ⟨true,rfl,⟨fun _ => joinP_leq h10 h17,fun _ => rfl⟩,hP10⟩)
theorem AC.truP {f : FuncId} {args : List Value} {st : St} {P : Prop} (h : C f args st (fun v s => ∃ x,v = .bool x ∧ (x = true ↔ P) ∧ Pres st s)) (hp : P) : C f args st (fun v s => v = vB true ∧ Pres st s) :=
 AC.mono h fun v s ⟨x,h1,h2,h3⟩ => ⟨by rw [h1,h2.2 hp],h3⟩
structure SaidOf (x u : Nd) (w : Sta) : Prop where
 ok : nodeOk x
 ok2 : nodeOk u
 d : stateOk w
 le1 : joinF x.s u.s 5 = u.s
 le2 : joinF w u.s 5 = u.s
 seq : logSeq u.g = logSeq x.g + 1
 since : sinceF u.g (logSeq u.g - 1) = (w,true)
 got : u.got[u.id.toNat]? = some (logSeq u.g)
theorem sayF_yes {x u : Nd} {w : Sta} {kind id c : Int} {d : ByteArray} (h : (u,w,c) = sayF x kind id d) (hc : c = 0) : SaidOf x u w := by
 subst hc
 unfold sayF at h
 split at h
 ·rename_i hk
  split at h
  ·rename_i h0
   have hs : stateOk (sayS x.s kind id d).1 := say_ok (s := x.s) (kind := kind) (id := id) (data := d) (by rw [← h0])
   obtain ⟨gl,bl,hA⟩ : ∃ gl bl,(gl,bl) = addL x.g (sayS x.s kind id d).1 := ⟨_,_,rfl⟩
   rw [← hA] at h
   cases bl with
   | true =>
    rw [if_pos rfl] at h
    injection h with h1 h2
    injection h2 with h2 _
    have hAd := addL_yes hA
    obtain ⟨e1,hk2⟩ := said_ok hk.ok hAd
    rw [← h2] at hs hAd h1
    have hle := take_le hk2 hs
    have hok := take_ok hk2 hs
    rw [h1]
    exact ⟨hk.ok,hok,hs,hle.1,hle.2,e1,hAd.since,hok.seq⟩
   | false =>
    rw [if_neg Bool.false_ne_true] at h
    injection h with h1 h2
    injection h2 with _ h3
    cases h3
  ·rename_i h0
   injection h with h1 h2
   injection h2 with _ h3
   exact absurd h3.symm h0
 ·injection h with h1 h2
  injection h2 with _ h3
  cases h3
theorem sayF_no {x u : Nd} {w : Sta} {kind id c : Int} {d : ByteArray} (h : (u,w,c) = sayF x kind id d) (hc : ¬ c = 0) : u = x ∧ w = nilS := by
 unfold sayF at h
 split at h
 ·split at h
  ·split at h
   ·injection h with _ h2
    injection h2 with _ h3
    exact absurd h3 hc
   ·injection h with h1 h2
    injection h2 with h2 _
    exact ⟨h1,h2⟩
  ·injection h with h1 h2
   injection h2 with h2 _
   exact ⟨h1,h2⟩
 ·injection h with h1 h2
  injection h2 with h2 _
  exact ⟨h1,h2⟩
theorem sayF_eq {x u v : Nd} {w y : Sta} {kind id c e : Int} {d : ByteArray} (h : (u,w,c) = sayF x kind id d) (k : (v,y,e) = sayF x kind id d) : c = e := by
 have := h.trans k.symm
 injection this with _ this
 injection this
theorem ac_laws_FnSpoken (p : Option Addr) (bs : List Int) (st : St) (hI : Ints st .u8 p bs) : C 7 [vS p bs.length] st (fun v s => v = vB true) := by
 refine AC.enterX (i := ⟨[3,7,8,10,11,13],[3,7,8,10,11,13,51,57,59,77,79,85,90,93,100,102,106],[0,2,3,4,5,6,7,8,9,12,13,14,16,44,46],[]⟩) [(10,[4],[1,3]),(11,[26,42],[28,35,37,39])] Tryz.func7 rfl rfl (by kernel_rfl) (by kernel_rfl) Tryz.ntmps7 (Lb rfl) rfl ?_
 refine Cm 0 st [(0,vS p bs.length),(2,vB false)] [] fun _ _ => ?_
 refine ⟨_,rfl,(ac_laws_big p bs.length st).mono ?_⟩
 rintro _ st ⟨x16,rfl,h16,rfl⟩
 rcases x16 with _|_
 ·replace h16 := of_decide_eq_false h16.symm
  refine Cm 0 st [(0,vS p bs.length),(2,vB false),(16,vB false)] [] fun _ _ => ?_
  refine cxs ?_
  refine ⟨_,rfl,(ac_spec_DrawSay p bs st hI (by first | assumption | omega)).mono ?_⟩
  rintro _ s19 ⟨g19,k19,i19,d19,rfl,h19,h19',hP19⟩
  iterate 5 refine ⟨_,rfl,?_⟩
  refine ⟨_,op_stw (vs := cNV g19) rfl rfl rfl rfl rfl rfl rfl rfl,?_⟩
  refine Cm 1 s19 [(2,vB false),Ml 3 0,(4,vI k19),(5,vI i19),(6,.string d19)] [(3,0,cNV g19)] fun _ _ => ?_
  refine ⟨_,op_ldo (v := (vNV g19)) rfl rfl rfl rfl,?_⟩
  refine ⟨_,rfl,(ac_impl_Say g19 k19 i19 d19 s19 h19' h19).mono ?_⟩
  rintro _ s29 ⟨u29,w29,c29,rfl,h29,hO29,hN29,hP29⟩
  iterate 5 refine ⟨_,rfl,?_⟩
  refine ⟨_,op_stw (vs := cNV u29.v) rfl rfl rfl rfl rfl rfl rfl rfl,?_⟩
  refine ⟨_,Os rfl,?_⟩
  refine Cm 3 s29 [(2,vB false),Ml 3 0,(4,vI k19),(5,vI i19),(6,.string d19),Ml 7 1,Ml 8 2,(9,vI c29)] [(3,0,cNV g19),(7,1,cNV u29.v),(8,2,cSV w29)] fun _ _ => ?_
  refine ⟨_,op_ldo (v := (vNV g19)) rfl rfl rfl rfl,?_⟩
  refine ⟨_,rfl,(ac_spec_Say g19 k19 i19 d19 s29 (h19'.pres hP29) h19).mono ?_⟩
  rintro _ s38 ⟨u38,w38,c38,rfl,h38,hO38,hN38,hP38⟩
  iterate 5 refine ⟨_,rfl,?_⟩
  refine ⟨_,op_stw (vs := cNV u38.v) rfl rfl rfl rfl rfl rfl rfl rfl,?_⟩
  refine ⟨_,Os rfl,?_⟩
  refine Cm 5 s38 [(2,vB false),Ml 3 0,Ml 7 1,Ml 8 2,(9,vI c29),(12,vI c38)] [(3,0,cNV g19),(7,1,cNV u29.v),(8,2,cSV w29)] fun _ _ => ?_
  refine ⟨_,rfl,?_⟩
  rintro (_|_) h44
  rotate_left
  ·exact absurd ((sayF_eq h29 h38)) (bne_iff_ne.1 h44)
  refine Cm 5 s38 [(2,vB false),Ml 3 0,Ml 7 1,Ml 8 2,(9,vI c29),(44,vB false)] [(3,0,cNV g19),(7,1,cNV u29.v),(8,2,cSV w29)] fun _ _ => ?_
  have hR29 : RdN s38 u29.v := (hO29.left.rdN).pres hP38
  have hW29 : RdS s38 w29 := (hO29.right.rdS).pres hP38
  have hR19 := h19'.pres (hP29.trans hP38)
  refine cxs ?_
  refine ⟨_,rfl,?_⟩
  rintro (_|_) h46
  ·replace h46 : c29 = (0) := bne_eq_false_iff_eq.1 h46
   refine Cm 5 s38 [(2,vB false),Ml 3 0,Ml 7 1,Ml 8 2,(46,vB false)] [(3,0,cNV g19),(7,1,cNV u29.v),(8,2,cSV w29)] fun _ _ => ?_
   have hS := sayF_yes h29 h46
   have hb29 := node_big hS.ok2
   have hbw := big_ok hS.d
   have hbg : bigL u29.g.v.l := bigLog_iff.1 hb29.g
   have hbg19 : bigL g19.g.l := bigLog_iff.1 h19.g
   have hq := logSeq_rng u29.g.v.x
   have hq19 := logSeq_rng g19.g.x
   have hsq : logSeq u29.g.v.x = logSeq g19.g.x + 1 := hS.seq
   refine cxs ?_
   refine ⟨_,rfl,?_⟩
   refine ⟨_,Od rfl,?_⟩
   refine ⟨ld_own rfl rfl rfl,?_⟩
   refine ⟨_,rfl,?_⟩
   refine ⟨_,Od rfl,?_⟩
   refine ⟨ld_own rfl rfl rfl,?_⟩
   refine ⟨_,rfl,(ac_impl_LogSeq u29.g.v s38 hR29.g hbg).mono ?_⟩
   rintro _ s38 ⟨rfl,rfl⟩
   refine ⟨fun _ _ => rfl,?_⟩
   refine ⟨_,rfl,?_⟩
   refine ⟨_,rfl,(ac_impl_LogSince u29.g.v (IntKind.wrap .i64 (logSeq u29.g.v.x - 1)) s38 hR29.g hbg).mono ?_⟩
   rintro _ s63 ⟨u63,b63,rfl,h63,hO63,hN63,hP63⟩
   iterate 3 refine ⟨_,rfl,?_⟩
   refine ⟨_,Os rfl,?_⟩
   refine Cm 6 s63 [(2,vB false),Ml 3 0,Ml 7 1,Ml 8 2,Ml 13 5,(14,vB b63)] [(3,0,cNV g19),(7,1,cNV u29.v),(8,2,cSV w29),(13,5,cSV u63)] fun _ _ => ?_
   have hwr : IntKind.wrap .i64 (logSeq u29.g.v.x - 1) = logSeq u29.g.v.x - 1 := wrap_i64 (by omega) (by omega)
   rw [hwr] at h63
   have h63 := h63.trans hS.since
   injection h63 with hx63 hb63
   subst hb63
   have hR := hR29.pres hP63
   have hW := hW29.pres hP63
   have hG := hR19.pres hP63
   have hid : 0 ≤ u29.id ∧ u29.id ≤ u29.n - 1 := hS.ok2.id
   have hgl : (u29.got.l.length : Int) = u29.n := hS.ok2.got.2.1
   have hidl : u29.id < (u29.got.l.length : Int) := by omega
   have hjl : u29.id.toNat < u29.got.l.length := by omega
   obtain ⟨b1,o1,k1,r,hpe,hr,hm0,hc1,hb1⟩ := hR.got.atB (j := u29.id.toNat) hjl
   have hrv : r = logSeq u29.g.v.x := Option.some.inj (hr.symm.trans hS.got)
   refine ⟨_,Od rfl,?_⟩
   refine ⟨_,Od rfl,?_⟩
   refine ⟨_,rfl,(AC.tru (ac_impl_StateSame u63 w29 s63 hO63.rdS hW (by rw [hx63]; exact hbw)) hx63).mono ?_⟩
   rintro _ s63 ⟨rfl,rfl⟩
   refine ⟨_,rfl,?_⟩
   refine ⟨_,op_ldo (v := (vNV u29.v)) rfl rfl rfl rfl,?_⟩
   refine ⟨_,rfl,(AC.truP (ac_impl_NodeOk u29.v s63 hR hb29) hS.ok2).mono ?_⟩
   rintro _ s74 ⟨rfl,hP74⟩
   iterate 2 refine ⟨_,rfl,?_⟩
   refine ⟨_,Od rfl,?_⟩
   refine ⟨_,rfl,?_⟩
   refine ⟨_,Od rfl,?_⟩
   refine ⟨_,rfl,(AC.truP (ac_impl_StateLeq g19.s u29.s s74 (hG.pres hP74).s (hR.pres hP74).s h19.s hb29.s) ⟨hS.ok.s,hS.ok2.s,hS.le1⟩).mono ?_⟩
   rintro _ s81 ⟨rfl,hP81⟩
   refine ⟨_,rfl,?_⟩
   refine ⟨_,Od rfl,?_⟩
   refine owE_cut [(2,vB false),(3,vL 3 0 (0)),(7,vL 7 0 (1)),(83,vB true),(84,.agg #[vS w29.p w29.x.items.length,vS w29.q w29.x.floors.length])] ⟨rfl,rfl,rfl,rfl,rfl,trivial⟩ fun _ => ?_
   refine ⟨_,rfl,?_⟩
   refine ⟨_,Od rfl,?_⟩
   refine ⟨_,rfl,(AC.truP (ac_impl_StateLeq w29 u29.s s81 (hW.pres (hP74.trans hP81)) (hR.pres (hP74.trans hP81)).s hbw hb29.s) ⟨hS.d,hS.ok2.s,hS.le2⟩).mono ?_⟩
   rintro _ s87 ⟨rfl,hP87⟩
   iterate 2 refine ⟨_,rfl,?_⟩
   refine ⟨_,Od rfl,?_⟩
   have hR87 := hR.pres ((hP74.trans hP81).trans hP87)
   have hG87 := hG.pres ((hP74.trans hP81).trans hP87)
   refine ⟨_,rfl,(ac_impl_LogSeq u29.g.v s87 hR87.g hbg).mono ?_⟩
   rintro _ s87 ⟨rfl,rfl⟩
   refine ⟨fun _ _ => rfl,?_⟩
   refine ⟨_,rfl,?_⟩
   refine ⟨_,Od rfl,?_⟩
   refine ⟨ld_own rfl rfl rfl,?_⟩
   refine ⟨_,rfl,(ac_impl_LogSeq g19.g s87 hG87.g hbg19).mono ?_⟩
   rintro _ s87 ⟨rfl,rfl⟩
   have ew96 : IntKind.wrap .i64 ((logSeq g19.g.x) + (1)) = (logSeq g19.g.x) + (1) := wrap_i64 (by omega) (by omega)
   iterate 2 refine ⟨_,rfl,?_⟩
   rintro (_|_) h97
   ·exact absurd ((by rw [wrap_i64 (by omega) (by omega)]; exact hsq)) (beq_eq_false_iff_ne.1 h97)
   iterate 2 refine ⟨_,rfl,?_⟩
   refine ⟨_,Od rfl,?_⟩
   refine ⟨ld_own rfl rfl rfl,?_⟩
   refine ⟨_,rfl,?_⟩
   refine owE_cut [(2,vB false),(7,vL 7 0 (1)),(99,vB true),(101,vS u29.got.p u29.got.l.length),(102,vL 7 0 (1))] ⟨rfl,rfl,rfl,rfl,rfl,trivial⟩ fun _ => ?_
   refine ⟨_,Od rfl,?_⟩
   refine ⟨ld_own rfl rfl rfl,?_⟩
   have hm1 := (((hP74.trans hP81).trans hP87).2 b1 hb1).trans hm0
   refine ⟨_,op_idx (j := u29.id) (n := u29.got.l.length) (q := ⟨b1,o1,none⟩) rfl (congrArg (fun v => vS v u29.got.l.length) hpe) rfl rfl rfl hid.1 hidl,?_⟩
   refine ⟨_,op_ldc (i := 0) rfl rfl rfl rfl hm1 hc1 rfl rfl,?_⟩
   refine ⟨ld_lt rfl rfl hb1,?_⟩
   refine ⟨_,rfl,?_⟩
   refine ⟨_,Od rfl,?_⟩
   refine ⟨_,rfl,(ac_impl_LogSeq u29.g.v s87 hR87.g hbg).mono ?_⟩
   rintro _ s87 ⟨rfl,rfl⟩
   refine ⟨fun _ _ => rfl,?_⟩
   refine ⟨_,rfl,?_⟩
   rintro (_|_) h109
   ·exact absurd (hrv) (beq_eq_false_iff_ne.1 h109)
   refine ⟨_,rfl,?_⟩
   refine cxs ?_
   exact ⟨.inl rfl,_,rfl,rfl⟩
  ·replace h46 : ¬ (c29 = (0)) := bne_iff_ne.1 h46
   refine Cm 5 s38 [(2,vB false),Ml 3 0,Ml 7 1,Ml 8 2,(46,vB true)] [(3,0,cNV g19),(7,1,cNV u29.v),(8,2,cSV w29)] fun _ _ => ?_
   have ⟨hu,hw⟩ := sayF_no h29 h46
   refine ⟨_,op_ldo (v := (vNV u29.v)) rfl rfl rfl rfl,?_⟩
   refine ⟨_,op_ldo (v := (vNV g19)) rfl rfl rfl rfl,?_⟩
   refine ⟨_,rfl,(AC.tru (ac_spec_NodeSame u29.v g19 s38 hR29 hR19 (show bigN u29.x from hu.symm ▸ h19)) hu).mono ?_⟩
   rintro _ s38 ⟨rfl,rfl⟩
   refine ⟨_,rfl,?_⟩
   refine ⟨_,Od rfl,?_⟩
   iterate 2 refine ⟨_,rfl,?_⟩
   rintro (_|_) h54
   ·exact absurd ((by rw [hw]; rfl)) (beq_eq_false_iff_ne.1 h54)
   refine ⟨_,rfl,?_⟩
   refine cxs ?_
   exact ⟨.inl rfl,_,rfl,rfl⟩
 ·replace h16 := of_decide_eq_true h16.symm
  refine Cm 0 st [(0,vS p bs.length),(2,vB false),(16,vB true)] [] fun _ _ => ?_
  refine cxs ?_
  exact ⟨.inl rfl,_,rfl,rfl⟩
end Go.Proofs.YtpnolkhfeliehaaGreat.AM
