/- Part 5 of the texts on which the law's proof rests. -/
import Derived.Test.YteabadoaeadcgaaXsd
namespace Go.Proofs.Yteabadoaeadcgaa.AM
open Go Go.Proofs
set_option linter.unusedVariables false
set_option linter.unusedSimpArgs false
set_option maxRecDepth 100000
set_option maxHeartbeats 4000000
theorem ints_of {st : St} {k : IntKind} {p : Option Addr} {l : List Int} (h : Rows st 1 (fun x => [.int k x]) p l) : Ints st k p l := by
 rcases h with rfl | ⟨b,off,blk,h1,h2,hb,h3⟩
 ·exact .inl rfl
 ·refine .inr ⟨b,off,blk,h1,h2,hb,fun j hj => ?_⟩
  have h4 := congrArg (fun z => z[0]?) (h3 j l[j] (List.getElem?_eq_getElem hj))
  simp only [List.getElem?_take,List.getElem?_drop,Nat.add_zero,Nat.lt_one_iff,if_true,List.getElem?_cons_zero] at h4
  rw [h4,List.getD_eq_getElem?_getD,List.getElem?_eq_getElem hj]
  rfl
theorem wrap_u8m (z : Int) : IntKind.wrap .u8 z = z % 256 := by
 unfold IntKind.wrap
 simp [IntKind.bits,IntKind.signed]
theorem tmod_nat {a : Int} {n : Nat} (ha : 0 ≤ a) (hn : 0 < n) : ∃ i : Nat,a.tmod (n : Int) = (i : Int) ∧ i < n := by
 refine ⟨(a % (n : Int)).toNat,?_,?_⟩
 ·rw [tm_emod _ ha,Int.toNat_of_nonneg (Int.emod_nonneg _ (by omega))]
 ·have h1 := Int.emod_lt_of_pos a (show (0 : Int) < n by omega)
  have h2 := Int.emod_nonneg a (show (n : Int) ≠ 0 by omega)
  omega
theorem putN_pos {n : Int} (h : 0 ≤ n ∧ n ≤ 2147483647) : 0 < (putN n).length := by
 rw [show putN n = vlq n.toNat from if_pos h]
 exact vlq_pos _
theorem mg_long {g : Mg} (h : msgOk g) : 10 ≤ (mgBz g).length := by
 have r := msg_rng h
 have h1 := putN_pos r.kind
 have h2 := putN_pos r.frm
 have h3 := putN_pos r.to
 have h4 := putN_pos r.num
 have e9 : (crcB (mgB0 g)).length = 4 := rfl
 rw [mgBz_of h,mgB,List.length_append,e9,mgB0_eq,List.length_cons,List.length_cons,mgR,List.length_append,List.length_append,List.length_append,List.length_append]
 omega
theorem spoil_z {g : Mg} {i : Nat} {u y : Int} (h : msgOk g) (hu : 0 ≤ u ∧ u < 256) (hy : (mgBz g)[i]? = some y) (hne : u ≠ y) : (nilMg,false) = parseM ((mgBz g).set i u) := by
 rw [mgBz_of h] at hy ⊢
 obtain ⟨hi,he⟩ := List.getElem?_eq_some_iff.1 hy
 exact parsm_spoilt h hi hu (by rw [he]; exact hne)
theorem ac_laws_at0 (p : Option Addr) (l : List Int) (i : Int) (st : St) (hR : Rows st 1 fB p l) (hl : bytesOk l) (hs : l.length ≤ 1099511627776) (h0 : 0 ≤ i) (h1 : i ≤ 1000) : C 55 [vS p l.length,vI i] st (fun v s => ∃ r,v = vI r ∧ 0 ≤ r ∧ r < 256 ∧ s = st) := by
 refine AC.enterX (i := ⟨[],[],[0,1,4,8],[]⟩) [] Try.func55 rfl rfl (by kernel_rfl) (by kernel_rfl) Try.ntmps55 (Lb rfl) rfl ?_
 refine Cu lo0 st [(0,vS p l.length),(1,vI i),(4,vI 0)] fun _ => ?_
 iterate 2 refine ⟨_,rfl,?_⟩
 rintro (_|_) h8
 ·replace h8 : ¬ (i < (l.length : Int)) := of_decide_eq_false h8
  refine Cu lo0 st [(0,vS p l.length),(1,vI i),(4,vI 0),(8,vB false)] fun _ => ?_
  refine cxs ?_
  iterate 3 refine ⟨_,rfl,?_⟩
  have e15 : IntKind.wrap .i64 (i * 7) = i * 7 := wrap_i64 (by omega) (by omega)
  have e18 : IntKind.wrap .i64 (IntKind.wrap .i64 (i * 7) + (l.length : Int)) = i * 7 + (l.length : Int) := by rw [e15]; exact wrap_i64 (by omega) (by omega)
  refine ⟨_,op_rm (r := (i * 7 + (l.length : Int)) % 256) rfl rfl rfl (by decide) (by rw [e18]; exact tm_emod 256 (by omega)),?_⟩
  exact cxs (Rt ⟨_,rfl,by omega,by omega,rfl⟩)
 ·replace h8 : i < (l.length : Int) := of_decide_eq_true h8
  refine Cu lo0 st [(0,vS p l.length),(1,vI i),(4,vI 0),(8,vB true)] fun _ => ?_
  obtain ⟨b1,o1,k1,y,hpe,hy,hm1,hc1,hb1⟩ := hR.atB (j := i.toNat) (by omega)
  refine ⟨_,op_idx (j := i) (n := l.length) (q := ⟨b1,o1,none⟩) rfl (congrArg (fun v => vS v l.length) hpe) rfl rfl rfl h0 (by omega),?_⟩
  refine ⟨_,op_ldc (i := 0) rfl rfl rfl rfl hm1 hc1 rfl rfl,?_⟩
  refine ⟨_,op_ofB rfl rfl rfl rfl rfl (hl.at hy),?_⟩
  exact cxs (Rt ⟨y,rfl,(hl y (List.mem_of_getElem? hy)).1,(hl y (List.mem_of_getElem? hy)).2,rfl⟩)
theorem MsgOf_at (p : Option Addr) (l : List Int) (n : Nat) (hn : n = l.length) (st : St) (hR : Rows st 1 fB p l) (hl : bytesOk l) (hs : l.length ≤ 1048576) : C 56 [vS p n] st (fun v s => ∃ (u : MV) (b : Bool),v = .tuple #[.agg #[vI u.kind,vI u.frm,vI u.to,vI u.num,vI u.hi,vS u.tree.p u.tree.l.length,vI u.tree.root,vS u.vec.p u.vec.l.length,vS u.leaves.p u.leaves.l.length,vS u.part.p u.part.x.items.length,vS u.part.q u.part.x.floors.length,vS u.marks.p u.marks.l.length],vB b] ∧ (u.x,b) = parseM l ∧ OwnP s (pcMV u) ∧ NewP st.next (pcMV u) ∧ Pres st s) := by
 subst hn
 exact ac_impl_MsgOf p l st hR hl hs
theorem ac_laws_FnSpoilt (b : BV) (st : St) (hR_b : Rows st 1 fB b.p b.l ∧ b.l.length ≤ maxLen) : C 9 [vS b.p b.l.length] st (fun v s => v = vB true) := by
 have hI : Ints st .u8 b.p b.l := ints_of hR_b.1
 refine AC.enterX (i := ⟨[3,8],[3,8,66],[0,2,3,4,5,6,7,8,9,11,18,24,26,69],[]⟩) [(14,[9],[5])] Try.func9 rfl rfl (by kernel_rfl) (by kernel_rfl) Try.ntmps9 (Lb rfl) rfl ?_
 refine Cm 0 st [(0,vS b.p b.l.length),(2,vB false)] [] fun _ _ => ?_
 refine ⟨_,rfl,(ac_laws_big b.p b.l.length st).mono ?_⟩
 rintro _ st ⟨x11,rfl,h11,rfl⟩
 rcases x11 with _|_
 ·replace h11 := of_decide_eq_false h11.symm
  refine Cm 0 st [(0,vS b.p b.l.length),(2,vB false),(11,vB false)] [] fun _ _ => ?_
  refine cxs ?_
  refine ⟨_,rfl,(ac_spec_DrawMsgBytes b.p b.l st (by first | assumption | omega) (by first | assumption | omega)).mono ?_⟩
  rintro _ s13 ⟨g13,rfl,h13,h13',hP13⟩
  refine ⟨_,rfl,?_⟩
  refine ⟨_,op_stw (vs := cMV g13) rfl rfl rfl rfl rfl rfl rfl rfl,?_⟩
  refine Cm 1 s13 [(0,vS b.p b.l.length),(2,vB false),Ml 3 0] [(3,0,cMV g13)] fun _ _ => ?_
  refine ⟨_,op_ldo (v := (vMV g13)) rfl rfl rfl rfl,?_⟩
  refine ⟨_,rfl,(ac_impl_MsgBytes g13 s13 h13' h13.big).mono ?_⟩
  rintro _ s15 ⟨q15,rfl,hO15,hN15,hP15⟩
  refine Cm 1 s15 [(0,vS b.p b.l.length),(2,vB false),Ml 3 0,(4,vS q15 (mgBz g13.x).length)] [(3,0,cMV g13)] fun _ _ => ?_
  have hR15 := h13'.pres hP15
  have hlen := mgBz_len g13.x
  have hbs : b.l.length ≤ 1099511627776 := by omega
  refine ⟨_,op_ldo (v := (vMV g13)) rfl rfl rfl rfl,?_⟩
  refine ⟨_,rfl,(ac_spec_MsgOk g13 s15 hR15 h13.big).mono ?_⟩
  rintro _ s15 ⟨x17,rfl,h17,rfl⟩
  rcases x17 with _|_
  ·replace h17 := fun k => Bool.false_ne_true (h17.2 k)
   refine ⟨_,rfl,?_⟩
   refine Cm 1 s15 [(0,vS b.p b.l.length),(2,vB false),(4,vS q15 (mgBz g13.x).length),(18,vB true)] [] fun _ _ => ?_
   iterate 2 refine ⟨_,rfl,?_⟩
   rintro (_|_) h21
   ·exact absurd ((by rw [mgBz_no h17]; rfl)) (beq_eq_false_iff_ne.1 h21)
   refine cxs ?_
   exact ⟨.inl rfl,_,rfl,rfl⟩
  ·replace h17 := h17.1 rfl
   refine ⟨_,rfl,?_⟩
   refine Cm 1 s15 [(0,vS b.p b.l.length),(2,vB false),(4,vS q15 (mgBz g13.x).length),(18,vB false)] [] fun _ _ => ?_
   have hlong := mg_long h17
   refine cxs ?_
   iterate 2 refine ⟨_,rfl,?_⟩
   rintro (_|_) h24
   rotate_left
   ·exact absurd (of_decide_eq_true h24) ((by omega))
   refine Cm 1 s15 [(0,vS b.p b.l.length),(2,vB false),(4,vS q15 (mgBz g13.x).length),(24,vB false)] [] fun _ _ => ?_
   refine cxs ?_
   refine Cm 1 s15 [(0,vS b.p b.l.length),(2,vB false),(4,vS q15 (mgBz g13.x).length),(5,vI 0)] [] fun _ _ => ?_
   refine AW.loopM (fun k : Nat => [(0,vS b.p b.l.length),(4,vS q15 (mgBz g13.x).length),(5,vI (k : Int))]) (fun k : Nat => []) (fun m (k : Nat) st' => m = 5 - k ∧ k ≤ 5 ∧ Pres s15 st') 0 _ ⟨rfl,rfl,rfl,trivial⟩ trivial ⟨rfl,Nat.zero_le _,Pres.refl _⟩ ?_
   rintro m k ρ0 ff gg st' ⟨rfl,hk,hP⟩
   have hRb : Rows st' 1 fB q15 (mgBz g13.x) := hP.rows (hO15.rows fB_len)
   have hRc : Rows st' 1 fB b.p b.l := (((hP13.trans hP15).trans hP)).rows hR_b.1
   refine ⟨_,rfl,?_⟩
   rintro (_|_) h26
   ·replace h26 : ¬ ((k : Int) < (5)) := of_decide_eq_false h26
    refine Cm gg st' [(0,vS b.p b.l.length),(4,vS q15 (mgBz g13.x).length),(5,vI (k : Int)),(26,vB false)] [] fun _ _ => ?_
    refine cxs ?_
    refine cxs ?_
    exact ⟨.inl rfl,_,rfl,rfl⟩
   ·replace h26 : (k : Int) < (5) := of_decide_eq_true h26
    refine Cm gg st' [(0,vS b.p b.l.length),(4,vS q15 (mgBz g13.x).length),(5,vI (k : Int)),(26,vB true)] [] fun _ _ => ?_
    refine cxs ?_
    refine ⟨_,rfl,?_⟩
    refine op_cat' (z := 1) (st := st') (f := fB) (b := 1) (l := []) (l2 := mgBz g13.x) rfl rfl rfl rfl rfl rfl rfl (by decide) fB_len rfl rfl rfl rfl (by first | omega | (simp only [List.length_nil]; omega)) (by unfold maxLen; first | omega | (simp only [List.length_nil]; omega)) OwnR.nil hRb ?_
    intro q31 s31 hO31 hPr31 hN31
    refine Cm gg s31 [(0,vS b.p b.l.length),(4,vS q15 (mgBz g13.x).length),(5,vI (k : Int)),(6,vS q31 (mgBz g13.x).length),(26,vB true)] [] fun _ _ => ?_
    have hP31 : Pres s15 s31 := hPr31.pres hP New.none
    have hN31' := cat_new hP New.none hN31
    have hO31 : OwnR s31 1 fB q31 (mgBz g13.x) := hO31
    have hRc31 : Rows s31 1 fB b.p b.l := ((hP13.trans hP15).trans hP31).rows hR_b.1
    refine ⟨_,rfl,(ac_laws_at0 b.p b.l (k : Int) s31 hRc31 b.ok hbs (by omega) (by omega)).mono ?_⟩
    rintro _ s31 ⟨r34,rfl,h34,h34',rfl⟩
    refine ⟨_,rfl,?_⟩
    have ew38 : IntKind.wrap .i64 ((k : Int) + (6)) = ((k + 6 : Nat) : Int) := (wrap_i64 (by omega) (by omega)).trans (by omega)
    refine ⟨_,rfl,?_⟩
    refine ⟨_,rfl,(ac_laws_at0 b.p b.l (IntKind.wrap .i64 ((k : Int) + 6)) s31 hRc31 b.ok hbs (by rw [ew38]; omega) (by rw [ew38]; omega)).mono ?_⟩
    rintro _ s31 ⟨r39,rfl,h39,h39',rfl⟩
    iterate 2 refine ⟨_,rfl,?_⟩
    have e35 : IntKind.wrap .i64 (r34 * 256) = r34 * 256 := wrap_i64 (by omega) (by omega)
    have e40 : IntKind.wrap .i64 (IntKind.wrap .i64 (r34 * 256) + r39) = r34 * 256 + r39 := by rw [e35]; exact wrap_i64 (by omega) (by omega)
    obtain ⟨i,hir,hil⟩ := tmod_nat (a := r34 * 256 + r39) (n := (mgBz g13.x).length) (by omega) (by omega)
    refine ⟨_,op_rm (r := (i : Int)) rfl rfl rfl (by omega) (by rw [e40]; exact hir),?_⟩
    refine Cm gg s31 [(0,vS b.p b.l.length),(4,vS q15 (mgBz g13.x).length),(5,vI (k : Int)),(6,vS q31 (mgBz g13.x).length),(7,vI (i : Int)),(26,vB true)] [] fun _ _ => ?_
    obtain ⟨a,ha⟩ := hO31.some (by omega)
    obtain ⟨b1,o1,k1,y,hpe,hy,hm1,hc1,hb1⟩ := (hO31.rows fB_len).atB (j := i) hil
    obtain ⟨rfl,rfl⟩ : a = b1 ∧ 0 = o1 := by rw [ha] at hpe; injection hpe with hpe; injection hpe with e1 e2; exact ⟨e1,e2⟩
    have hyb := mgBz_ok g13.x y (List.mem_of_getElem? hy)
    refine ⟨_,op_idx (j := (i : Int)) (n := (mgBz g13.x).length) (q := ⟨a,0,none⟩) rfl (congrArg (fun v => vS v (mgBz g13.x).length) ha) rfl rfl rfl (Int.natCast_nonneg _) (by omega),?_⟩
    refine ⟨_,op_ldc (i := 0) rfl rfl rfl rfl hm1 hc1 rfl rfl,?_⟩
    refine ⟨ld_lt rfl rfl hb1,?_⟩
    have ew52 : IntKind.wrap .i64 ((k : Int) + (12)) = ((k + 12 : Nat) : Int) := (wrap_i64 (by omega) (by omega)).trans (by omega)
    refine ⟨_,rfl,?_⟩
    refine ⟨_,rfl,(ac_laws_at0 b.p b.l (IntKind.wrap .i64 ((k : Int) + 12)) s31 hRc31 b.ok hbs (by rw [ew52]; omega) (by rw [ew52]; omega)).mono ?_⟩
    rintro _ s31 ⟨r53,rfl,h53,h53',rfl⟩
    refine ⟨fun _ _ => rfl,?_⟩
    refine ⟨_,op_rm (r := r53 % 255) rfl rfl rfl (by decide) (tm_emod 255 h53),?_⟩
    have ew55 : IntKind.wrap .i64 ((1) + (r53 % 255)) = (1) + (r53 % 255) := wrap_i64 (by omega) (by omega)
    refine ⟨_,rfl,?_⟩
    refine ⟨_,op_toB (r := 1 + r53 % 255) rfl rfl rfl rfl rfl ew55 (by omega) (by omega),?_⟩
    refine ⟨_,rfl,?_⟩
    refine ⟨_,op_idx (j := (i : Int)) (n := (mgBz g13.x).length) (q := ⟨a,0,none⟩) rfl (congrArg (fun v => vS v (mgBz g13.x).length) ha) rfl rfl rfl (Int.natCast_nonneg _) (by omega),?_⟩
    refine op_put (st := s31) (f := fB) (j := i) (l := mgBz g13.x) (y := IntKind.wrap .u8 (y + (1 + r53 % 255))) (p := q31) (d := 0 + i * 1) rfl rfl (Nat.zero_add _) rfl rfl fB_len rfl rfl hil hO31 ha ?_
    intro s58 hO58 hP58 hn58
    refine Cm gg s58 [(0,vS b.p b.l.length),(4,vS q15 (mgBz g13.x).length),(5,vI (k : Int)),(6,vS q31 (mgBz g13.x).length),(7,vI (i : Int)),(26,vB true)] [] fun _ _ => ?_
    have hw := wrap_u8m (y + (1 + r53 % 255))
    obtain ⟨u,hu⟩ : ∃ u,u = IntKind.wrap .u8 (y + (1 + r53 % 255)) := ⟨_,rfl⟩
    rw [← hu] at hO58 hw
    have hu8 : 0 ≤ u ∧ u < 256 := by omega
    have hune : u ≠ y := by omega
    have hb58 : bytesOk ((mgBz g13.x).set i u) := fun x hx => by
     rcases List.mem_or_eq_of_mem_set hx with hx | rfl
     ·exact mgBz_ok _ x hx
     ·exact hu8
    have hP58' : Pres s15 s58 := hP58.pres hP31 hN31'
    have hz := spoil_z h17 hu8 hy hune
    refine ⟨_,rfl,(MsgOf_at q31 ((mgBz g13.x).set i u) (mgBz g13.x).length List.length_set.symm s58 (hO58.rows fB_len) hb58 (by rw [List.length_set]; omega)).mono ?_⟩
    rintro _ s61 ⟨u61,b61,rfl,h61,hO61,hN61,hP61⟩
    rcases b61 with _|_
    ·iterate 3 refine ⟨_,rfl,?_⟩
     refine ⟨_,op_stw (vs := cMV u61) rfl rfl rfl rfl rfl rfl rfl rfl,?_⟩
     refine Cm (gg + 1) s61 [(0,vS b.p b.l.length),(4,vS q15 (mgBz g13.x).length),(5,vI (k : Int)),(6,vS q31 (mgBz g13.x).length),(7,vI (i : Int)),Ml 8 gg,(9,vB false),(26,vB true)] [(8,gg,cMV u61)] fun _ _ => ?_
     refine ⟨_,rfl,?_⟩
     refine ⟨_,Od rfl,?_⟩
     have hk0 : u61.kind = 0 := by rw [← hz] at h61; injection h61 with h61 _; exact congrArg Mg.kind h61
     refine ⟨_,rfl,?_⟩
     rintro (_|_) h68
     rotate_left
     ·exact absurd (hk0) (bne_iff_ne.1 h68)
     refine ⟨_,rfl,?_⟩
     refine Cm (gg + 1) s61 [(0,vS b.p b.l.length),(4,vS q15 (mgBz g13.x).length),(5,vI (k : Int)),(6,vS q31 (mgBz g13.x).length),(7,vI (i : Int)),Ml 8 gg,(9,vB false),(26,vB true),(69,vB false)] [(8,gg,cMV u61)] fun _ _ => ?_
     refine cxs ?_
     have ew28 : IntKind.wrap .i64 ((k : Int) + (1)) = ((k + 1 : Nat) : Int) := (wrap_i64 (by omega) (by omega)).trans (by omega)
     refine ⟨_,rfl,?_⟩
     exact ⟨k + 1,5 - (k + 1),by omega,⟨rfl,rfl,congrArg (Value.int .i64) ew28,trivial⟩,trivial,rfl,by omega,hP58'.trans hP61⟩
    ·iterate 3 refine ⟨_,rfl,?_⟩
     refine ⟨_,op_stw (vs := cMV u61) rfl rfl rfl rfl rfl rfl rfl rfl,?_⟩
     refine Cm (gg + 1) s61 [(0,vS b.p b.l.length),(4,vS q15 (mgBz g13.x).length),(5,vI (k : Int)),(6,vS q31 (mgBz g13.x).length),(7,vI (i : Int)),Ml 8 gg,(9,vB true),(26,vB true)] [(8,gg,cMV u61)] fun _ _ => ?_
     refine ⟨_,rfl,?_⟩
     refine Cm (gg + 1) s61 [(0,vS b.p b.l.length),(4,vS q15 (mgBz g13.x).length),(5,vI (k : Int)),(6,vS q31 (mgBz g13.x).length),(7,vI (i : Int)),Ml 8 gg,(9,vB true),(26,vB true),(69,vB true)] [(8,gg,cMV u61)] fun _ _ => ?_
     refine cxs ?_
     exact (show False by rw [← hz] at h61; injection h61 with _ h61; cases h61).elim
 ·replace h11 := of_decide_eq_true h11.symm
  refine Cm 0 st [(0,vS b.p b.l.length),(2,vB false),(11,vB true)] [] fun _ _ => ?_
  refine cxs ?_
  exact ⟨.inl rfl,_,rfl,rfl⟩
end Go.Proofs.Yteabadoaeadcgaa.AM
