/- Part 2 of the texts on which the law's proof rests. -/
import Derived.Test.YteabadoaeadcgaaDoorXma
import Derived.Lib.Bytealg
namespace Go.Proofs.YteabadoaeadcgaaDoor.AM
open Go Go.Proofs
set_option linter.unusedVariables false
set_option linter.unusedSimpArgs false
set_option maxRecDepth 100000
set_option maxHeartbeats 4000000
def commonGo (id : Int) : List (List Int) → Bool → Int → Int
 | [],_,v => v
 | r :: t,b,v => if 0 ≤ id ∧ id ≤ (r.length : Int) - 1 then (if b = true ∨ r.getD id.toNat 0 < v then commonGo id t false (r.getD id.toNat 0) else commonGo id t false v) else 0
def common (t : List (List Int)) (id : Int) : Int := commonGo id t true 0
theorem getD_of {l : List Int} {i : Nat} {x : Int} (h : l[i]? = some x) : l.getD i 0 = x := by rw [List.getD_eq_getElem?_getD,h]; rfl
theorem ac_spec_Common (p : Option Addr) (t : List RV) (id : Int) (st : St) (hR : RdT st p t) (hs : szOk t.length) (hr : ∀ r ∈ t,szOk r.l.length) : C 41 [vS p t.length,vI id] st (fun v s => v = vI (common (t.map (·.l)) id) ∧ s = st) := by
 have hs : t.length ≤ 1048576 := hs
 refine AC.enterX (i := ⟨[],[],[0,1,4,5,6,9,13,24,37],[]⟩) [] Tryd.func41 rfl rfl (by kernel_rfl) (by kernel_rfl) Tryd.ntmps41 (Lb rfl) rfl ?_
 refine Cu lo0 st [(0,vS p t.length),(1,vI id),(4,vI 0)] fun _ => ?_
 iterate 2 refine ⟨_,rfl,?_⟩
 rintro (_|_) h0
 ·replace h0 : ¬ ((t.length : Int) = 0) := beq_eq_false_iff_ne.1 h0
  refine Cu lo0 st [(0,vS p t.length),(1,vI id),(4,vI 0),(9,vB false)] fun _ => ?_
  refine cxs ?_
  refine cxs ?_
  refine Cu lo0 st [(0,vS p t.length),(1,vI id),(4,vI 0),(5,vI 0),(6,vI 0)] fun _ => ?_
  refine AW.loop0 (fun x : Nat × Int => [(0,vS p t.length),(1,vI id),(5,vI x.2),(6,vI (x.1 : Int))]) (fun m (x : Nat × Int) st' => m = t.length - x.1 ∧ x.1 ≤ t.length ∧ common (t.map (·.l)) id = commonGo id ((t.drop x.1).map (·.l)) (decide (x.1 = 0)) x.2 ∧ st = st') (0,0) _ ⟨rfl,rfl,rfl,rfl,trivial⟩ rfl ⟨rfl,Nat.zero_le _,rfl,rfl⟩ ?_
  rintro m x ρ0 st' ⟨rfl,hi,hc,rfl⟩
  iterate 2 refine ⟨_,rfl,?_⟩
  rintro (_|_) h1
  ·replace h1 : ¬ ((x.1 : Int) < (t.length : Int)) := of_decide_eq_false h1
   refine Cu lo0 st [(0,vS p t.length),(1,vI id),(5,vI x.2),(6,vI (x.1 : Int)),(13,vB false)] fun _ => ?_
   refine cxs ?_
   refine cxs ?_
   have hil : x.1 = t.length := by omega
   rw [hil,List.drop_length] at hc
   exact Rt ⟨congrArg vI hc.symm,rfl⟩
  ·replace h1 : (x.1 : Int) < (t.length : Int) := of_decide_eq_true h1
   refine Cu lo0 st [(0,vS p t.length),(1,vI id),(5,vI x.2),(6,vI (x.1 : Int)),(13,vB true)] fun _ => ?_
   have h1' := Int.ofNat_lt.1 h1
   have ⟨b1,o1,k1,r,hpe,hr1,hm1,hc1,hb1⟩ := hR.1.atB h1'
   have hmem := List.mem_of_getElem? hr1
   have hrs : r.l.length ≤ 1048576 := hr r hmem
   obtain ⟨d1,d2,d3⟩ := split_at hr1
   rw [d3,List.map_cons,commonGo] at hc
   have e22 : IntKind.wrap .i64 ((r.l.length : Int) - 1) = (r.l.length : Int) - 1 := wrap_i64 (by omega) (by omega)
   refine cxs ?_
   refine ⟨_,op_idx (j := (x.1 : Int)) (n := t.length) (q := ⟨b1,o1,none⟩) rfl (congrArg (fun u => vS u t.length) hpe) rfl rfl rfl (Int.natCast_nonneg _) h1,?_⟩
   refine ⟨_,op_ldc (i := 0) (v := vS r.p r.l.length) rfl rfl rfl rfl hm1 hc1 rfl rfl,?_⟩
   iterate 2 refine ⟨_,rfl,?_⟩
   refine ⟨_,rfl,(ac_spec_l1In id 0 _ st).mono ?_⟩
   rintro _ st ⟨y,rfl,hy,rfl⟩
   rcases y with _|_
   ·replace hy := of_decide_eq_false hy.symm
    refine ⟨_,rfl,?_⟩
    refine Cu lo0 st [(0,vS p t.length),(1,vI id),(5,vI x.2),(6,vI (x.1 : Int)),(13,vB true),(24,vB true)] fun _ => ?_
    replace hy : ¬ (0 ≤ id ∧ id ≤ (r.l.length : Int) - 1) := fun h => hy (by rw [e22]; exact h)
    rw [if_neg hy] at hc
    exact cxs (Rt ⟨congrArg vI hc.symm,rfl⟩)
   ·replace hy := of_decide_eq_true hy.symm
    refine ⟨_,rfl,?_⟩
    refine Cu lo0 st [(0,vS p t.length),(1,vI id),(5,vI x.2),(6,vI (x.1 : Int)),(13,vB true),(24,vB false)] fun _ => ?_
    replace hy : 0 ≤ id ∧ id ≤ IntKind.wrap .i64 ((r.l.length : Int) - 1) := hy
    rw [e22] at hy
    rw [if_pos hy] at hc
    have ⟨b2,o2,k2,z,hqe,hz,hm2,hc2,hb2⟩ := (hR.2 r hmem).atB (j := id.toNat) (by omega)
    rw [getD_of hz] at hc
    refine cxs ?_
    refine ⟨_,rfl,?_⟩
    rintro (_|_) h2
    ·replace h2 : ¬ ((x.1 : Int) = 0) := beq_eq_false_iff_ne.1 h2
     refine ⟨_,op_idx (j := (x.1 : Int)) (n := t.length) (q := ⟨b1,o1,none⟩) rfl (congrArg (fun u => vS u t.length) hpe) rfl rfl rfl (Int.natCast_nonneg _) h1,?_⟩
     refine ⟨_,op_ldc (i := 0) (v := vS r.p r.l.length) rfl rfl rfl rfl hm1 hc1 rfl rfl,?_⟩
     refine ⟨_,op_idx (j := id) (n := r.l.length) (q := ⟨b2,o2,none⟩) rfl (congrArg (fun u => vS u r.l.length) hqe) rfl rfl rfl hy.1 (by omega),?_⟩
     refine ⟨_,op_ldc (i := 0) (v := vI z) rfl rfl rfl rfl hm2 hc2 rfl rfl,?_⟩
     refine ⟨_,rfl,?_⟩
     rintro (_|_) h3
     ·replace h3 : ¬ (z < x.2) := of_decide_eq_false h3
      refine ⟨_,rfl,?_⟩
      refine Cu lo0 st [(0,vS p t.length),(1,vI id),(5,vI x.2),(6,vI (x.1 : Int)),(13,vB true),(24,vB false),(37,vB false)] fun _ => ?_
      refine cxs ?_
      have e15 : IntKind.wrap .i64 ((x.1 : Int) + 1) = ((x.1 + 1 : Nat) : Int) := (wrap_i64 (by omega) (by omega)).trans (by omega)
      refine ⟨_,rfl,?_⟩
      exact ⟨(x.1 + 1,x.2),t.length - (x.1 + 1),by omega,⟨rfl,rfl,rfl,congrArg (Value.int .i64) e15,trivial⟩,rfl,rfl,h1',by rw [if_neg (fun h => by rcases h with h | h; exact absurd (of_decide_eq_true h) (by omega); exact h3 h)] at hc; exact hc,rfl⟩
     ·replace h3 : z < x.2 := of_decide_eq_true h3
      refine ⟨_,rfl,?_⟩
      refine Cu lo0 st [(0,vS p t.length),(1,vI id),(5,vI x.2),(6,vI (x.1 : Int)),(13,vB true),(24,vB false),(37,vB true)] fun _ => ?_
      refine ⟨_,op_idx (j := (x.1 : Int)) (n := t.length) (q := ⟨b1,o1,none⟩) rfl (congrArg (fun u => vS u t.length) hpe) rfl rfl rfl (Int.natCast_nonneg _) h1,?_⟩
      refine ⟨_,op_ldc (i := 0) (v := vS r.p r.l.length) rfl rfl rfl rfl hm1 hc1 rfl rfl,?_⟩
      refine ⟨_,op_idx (j := id) (n := r.l.length) (q := ⟨b2,o2,none⟩) rfl (congrArg (fun u => vS u r.l.length) hqe) rfl rfl rfl hy.1 (by omega),?_⟩
      refine ⟨_,op_ldc (i := 0) (v := vI z) rfl rfl rfl rfl hm2 hc2 rfl rfl,?_⟩
      refine Cu lo0 st [(0,vS p t.length),(1,vI id),(5,vI z),(6,vI (x.1 : Int)),(13,vB true),(24,vB false),(37,vB true)] fun _ => ?_
      have e15 : IntKind.wrap .i64 ((x.1 : Int) + 1) = ((x.1 + 1 : Nat) : Int) := (wrap_i64 (by omega) (by omega)).trans (by omega)
      refine ⟨_,rfl,?_⟩
      exact ⟨(x.1 + 1,z),t.length - (x.1 + 1),by omega,⟨rfl,rfl,rfl,congrArg (Value.int .i64) e15,trivial⟩,rfl,rfl,h1',by rw [if_pos (.inr h3)] at hc; exact hc,rfl⟩
    ·replace h2 : (x.1 : Int) = 0 := beq_iff_eq.1 h2
     refine ⟨_,rfl,?_⟩
     refine Cu lo0 st [(0,vS p t.length),(1,vI id),(5,vI x.2),(6,vI (x.1 : Int)),(13,vB true),(24,vB false),(37,vB true)] fun _ => ?_
     refine ⟨_,op_idx (j := (x.1 : Int)) (n := t.length) (q := ⟨b1,o1,none⟩) rfl (congrArg (fun u => vS u t.length) hpe) rfl rfl rfl (Int.natCast_nonneg _) h1,?_⟩
     refine ⟨_,op_ldc (i := 0) (v := vS r.p r.l.length) rfl rfl rfl rfl hm1 hc1 rfl rfl,?_⟩
     refine ⟨_,op_idx (j := id) (n := r.l.length) (q := ⟨b2,o2,none⟩) rfl (congrArg (fun u => vS u r.l.length) hqe) rfl rfl rfl hy.1 (by omega),?_⟩
     refine ⟨_,op_ldc (i := 0) (v := vI z) rfl rfl rfl rfl hm2 hc2 rfl rfl,?_⟩
     refine Cu lo0 st [(0,vS p t.length),(1,vI id),(5,vI z),(6,vI (x.1 : Int)),(13,vB true),(24,vB false),(37,vB true)] fun _ => ?_
     have e15 : IntKind.wrap .i64 ((x.1 : Int) + 1) = ((x.1 + 1 : Nat) : Int) := (wrap_i64 (by omega) (by omega)).trans (by omega)
     refine ⟨_,rfl,?_⟩
     exact ⟨(x.1 + 1,z),t.length - (x.1 + 1),by omega,⟨rfl,rfl,rfl,congrArg (Value.int .i64) e15,trivial⟩,rfl,rfl,h1',by rw [if_pos (.inl (decide_eq_true (by omega)))] at hc; exact hc,rfl⟩
 ·replace h0 : (t.length : Int) = 0 := beq_iff_eq.1 h0
  refine Cu lo0 st [(0,vS p t.length),(1,vI id),(4,vI 0),(9,vB true)] fun _ => ?_
  refine cxs ?_
  have : t = [] := List.length_eq_zero_iff.1 (by omega)
  exact Rt ⟨by rw [this]; rfl,rfl⟩
theorem ac_impl_Common (p : Option Addr) (t : List RV) (id : Int) (st : St) (hR : RdT st p t) (hs : szOk t.length) (hr : ∀ r ∈ t,szOk r.l.length) : C 20 [vS p t.length,vI id] st (fun v s => v = vI (common (t.map (·.l)) id) ∧ s = st) := by
 have hs : t.length ≤ 1048576 := hs
 refine AC.enterX (i := ⟨[],[],[0,1,4,5,6,7,8,9,10,11,20,30],[]⟩) [] Tryd.func20 rfl rfl (by kernel_rfl) (by kernel_rfl) Tryd.ntmps20 (Lb rfl) rfl ?_
 refine cxs ?_
 refine Cu lo0 st [(0,vS p t.length),(1,vI id),(4,vI 0),(5,vI 0)] fun _ => ?_
 refine ⟨_,rfl,?_⟩
 refine Cu lo0 st [(0,vS p t.length),(1,vI id),(4,vI 0),(5,vI 0),(8,vS p t.length),(9,vI (t.length)),(10,vI 0)] fun _ => ?_
 refine AW.loop0 (fun x : Nat × Int => [(0,vS p t.length),(1,vI id),(5,vI x.2),(8,vS p t.length),(9,vI (t.length : Int)),(10,vI (x.1 : Int))]) (fun m (x : Nat × Int) st' => m = t.length - x.1 ∧ x.1 ≤ t.length ∧ common (t.map (·.l)) id = commonGo id ((t.drop x.1).map (·.l)) (decide (x.1 = 0)) x.2 ∧ st = st') (0,0) _ ⟨rfl,rfl,rfl,rfl,rfl,rfl,trivial⟩ rfl ⟨rfl,Nat.zero_le _,rfl,rfl⟩ ?_
 rintro m x ρ0 st' ⟨rfl,hi,hc,rfl⟩
 refine ⟨_,rfl,?_⟩
 rintro (_|_) h1
 ·replace h1 : ¬ ((x.1 : Int) < (t.length : Int)) := of_decide_eq_false h1
  refine Cu lo0 st [(0,vS p t.length),(1,vI id),(5,vI x.2),(8,vS p t.length),(9,vI (t.length : Int)),(10,vI (x.1 : Int)),(11,vB false)] fun _ => ?_
  refine cxs ?_
  refine cxs ?_
  have hil : x.1 = t.length := by omega
  rw [hil,List.drop_length] at hc
  exact Rt ⟨congrArg vI hc.symm,rfl⟩
 ·replace h1 : (x.1 : Int) < (t.length : Int) := of_decide_eq_true h1
  refine Cu lo0 st [(0,vS p t.length),(1,vI id),(5,vI x.2),(8,vS p t.length),(9,vI (t.length : Int)),(10,vI (x.1 : Int)),(11,vB true)] fun _ => ?_
  have h1' := Int.ofNat_lt.1 h1
  have ⟨b1,o1,k1,r,hpe,hr1,hm1,hc1,hb1⟩ := hR.1.atB h1'
  have hmem := List.mem_of_getElem? hr1
  have hrs : r.l.length ≤ 1048576 := hr r hmem
  obtain ⟨d1,d2,d3⟩ := split_at hr1
  rw [d3,List.map_cons,commonGo] at hc
  have e18 : IntKind.wrap .i64 ((r.l.length : Int) - 1) = (r.l.length : Int) - 1 := wrap_i64 (by omega) (by omega)
  refine cxs ?_
  refine ⟨_,op_idx (j := (x.1 : Int)) (n := t.length) (q := ⟨b1,o1,none⟩) rfl (congrArg (fun u => vS u t.length) hpe) rfl rfl rfl (Int.natCast_nonneg _) h1,?_⟩
  refine ⟨_,op_ldc (i := 0) (v := vS r.p r.l.length) rfl rfl rfl rfl hm1 hc1 rfl rfl,?_⟩
  refine Cu lo0 st [(0,vS p t.length),(1,vI id),(5,vI x.2),(6,vI (x.1 : Int)),(7,vS r.p r.l.length),(8,vS p t.length),(9,vI (t.length : Int)),(10,vI (x.1 : Int)),(11,vB true)] fun _ => ?_
  iterate 2 refine ⟨_,rfl,?_⟩
  refine ⟨_,rfl,(ac_impl_within id 0 _ st).mono ?_⟩
  rintro _ st ⟨y,rfl,hy,rfl⟩
  rcases y with _|_
  ·replace hy := of_decide_eq_false hy.symm
   refine ⟨_,rfl,?_⟩
   refine Cu lo0 st [(0,vS p t.length),(1,vI id),(5,vI x.2),(6,vI (x.1 : Int)),(7,vS r.p r.l.length),(8,vS p t.length),(9,vI (t.length : Int)),(10,vI (x.1 : Int)),(11,vB true),(20,vB true)] fun _ => ?_
   replace hy : ¬ (0 ≤ id ∧ id ≤ (r.l.length : Int) - 1) := fun h => hy (by rw [e18]; exact h)
   rw [if_neg hy] at hc
   exact cxs (Rt ⟨congrArg vI hc.symm,rfl⟩)
  ·replace hy := of_decide_eq_true hy.symm
   refine ⟨_,rfl,?_⟩
   refine Cu lo0 st [(0,vS p t.length),(1,vI id),(5,vI x.2),(6,vI (x.1 : Int)),(7,vS r.p r.l.length),(8,vS p t.length),(9,vI (t.length : Int)),(10,vI (x.1 : Int)),(11,vB true),(20,vB false)] fun _ => ?_
   replace hy : 0 ≤ id ∧ id ≤ IntKind.wrap .i64 ((r.l.length : Int) - 1) := hy
   rw [e18] at hy
   rw [if_pos hy] at hc
   have ⟨b2,o2,k2,z,hqe,hz,hm2,hc2,hb2⟩ := (hR.2 r hmem).atB (j := id.toNat) (by omega)
   rw [getD_of hz] at hc
   refine cxs ?_
   refine ⟨_,rfl,?_⟩
   rintro (_|_) h2
   ·replace h2 : ¬ ((x.1 : Int) = 0) := beq_eq_false_iff_ne.1 h2
    refine ⟨_,op_idx (j := id) (n := r.l.length) (q := ⟨b2,o2,none⟩) rfl (congrArg (fun u => vS u r.l.length) hqe) rfl rfl rfl hy.1 (by omega),?_⟩
    refine ⟨_,op_ldc (i := 0) (v := vI z) rfl rfl rfl rfl hm2 hc2 rfl rfl,?_⟩
    refine ⟨_,rfl,?_⟩
    rintro (_|_) h3
    ·replace h3 : ¬ (z < x.2) := of_decide_eq_false h3
     refine ⟨_,rfl,?_⟩
     refine Cu lo0 st [(0,vS p t.length),(1,vI id),(5,vI x.2),(6,vI (x.1 : Int)),(7,vS r.p r.l.length),(8,vS p t.length),(9,vI (t.length : Int)),(10,vI (x.1 : Int)),(11,vB true),(20,vB false),(30,vB false)] fun _ => ?_
     refine cxs ?_
     have e35 : IntKind.wrap .i64 ((x.1 : Int) + 1) = ((x.1 + 1 : Nat) : Int) := (wrap_i64 (by omega) (by omega)).trans (by omega)
     refine ⟨_,rfl,?_⟩
     exact ⟨(x.1 + 1,x.2),t.length - (x.1 + 1),by omega,⟨rfl,rfl,rfl,rfl,rfl,congrArg (Value.int .i64) e35,trivial⟩,rfl,rfl,h1',by rw [if_neg (fun h => by rcases h with h | h; exact absurd (of_decide_eq_true h) (by omega); exact h3 h)] at hc; exact hc,rfl⟩
    ·replace h3 : z < x.2 := of_decide_eq_true h3
     refine ⟨_,rfl,?_⟩
     refine Cu lo0 st [(0,vS p t.length),(1,vI id),(5,vI x.2),(6,vI (x.1 : Int)),(7,vS r.p r.l.length),(8,vS p t.length),(9,vI (t.length : Int)),(10,vI (x.1 : Int)),(11,vB true),(20,vB false),(30,vB true)] fun _ => ?_
     refine ⟨_,op_idx (j := id) (n := r.l.length) (q := ⟨b2,o2,none⟩) rfl (congrArg (fun u => vS u r.l.length) hqe) rfl rfl rfl hy.1 (by omega),?_⟩
     refine ⟨_,op_ldc (i := 0) (v := vI z) rfl rfl rfl rfl hm2 hc2 rfl rfl,?_⟩
     refine Cu lo0 st [(0,vS p t.length),(1,vI id),(5,vI z),(6,vI (x.1 : Int)),(7,vS r.p r.l.length),(8,vS p t.length),(9,vI (t.length : Int)),(10,vI (x.1 : Int)),(11,vB true),(20,vB false),(30,vB true)] fun _ => ?_
     have e35 : IntKind.wrap .i64 ((x.1 : Int) + 1) = ((x.1 + 1 : Nat) : Int) := (wrap_i64 (by omega) (by omega)).trans (by omega)
     refine ⟨_,rfl,?_⟩
     exact ⟨(x.1 + 1,z),t.length - (x.1 + 1),by omega,⟨rfl,rfl,rfl,rfl,rfl,congrArg (Value.int .i64) e35,trivial⟩,rfl,rfl,h1',by rw [if_pos (.inr h3)] at hc; exact hc,rfl⟩
   ·replace h2 : (x.1 : Int) = 0 := beq_iff_eq.1 h2
    refine ⟨_,rfl,?_⟩
    refine Cu lo0 st [(0,vS p t.length),(1,vI id),(5,vI x.2),(6,vI (x.1 : Int)),(7,vS r.p r.l.length),(8,vS p t.length),(9,vI (t.length : Int)),(10,vI (x.1 : Int)),(11,vB true),(20,vB false),(30,vB true)] fun _ => ?_
    refine ⟨_,op_idx (j := id) (n := r.l.length) (q := ⟨b2,o2,none⟩) rfl (congrArg (fun u => vS u r.l.length) hqe) rfl rfl rfl hy.1 (by omega),?_⟩
    refine ⟨_,op_ldc (i := 0) (v := vI z) rfl rfl rfl rfl hm2 hc2 rfl rfl,?_⟩
    refine Cu lo0 st [(0,vS p t.length),(1,vI id),(5,vI z),(6,vI (x.1 : Int)),(7,vS r.p r.l.length),(8,vS p t.length),(9,vI (t.length : Int)),(10,vI (x.1 : Int)),(11,vB true),(20,vB false),(30,vB true)] fun _ => ?_
    have e35 : IntKind.wrap .i64 ((x.1 : Int) + 1) = ((x.1 + 1 : Nat) : Int) := (wrap_i64 (by omega) (by omega)).trans (by omega)
    refine ⟨_,rfl,?_⟩
    exact ⟨(x.1 + 1,z),t.length - (x.1 + 1),by omega,⟨rfl,rfl,rfl,rfl,rfl,congrArg (Value.int .i64) e35,trivial⟩,rfl,rfl,h1',by rw [if_pos (.inl (decide_eq_true (by omega)))] at hc; exact hc,rfl⟩
abbrev pcIs (g : RV) : List Pc := [pcRV g]
structure FV where
 p : Option Addr
 l : List Flr
abbrev pcFV (g : FV) : List Pc := [pcR 2 cFlr g.p g.l]
structure TT where
 p : Option Addr
 t : List RV
abbrev TT.x (g : TT) : List (List Int) := rls g.t
abbrev pcTT (g : TT) : List Pc := pcT g.p g.t
end Go.Proofs.YteabadoaeadcgaaDoor.AM
namespace Go.Proofs.YteabadoaeadcgaaDoor.AM
open Go Go.Proofs
set_option linter.unusedVariables false
set_option linter.unusedSimpArgs false
def Frs (a b : St) (l : List Pc) : Prop := OwnP b l ∧ NewP a.next l ∧ Pres a b
theorem Frs.join {a b c : St} {l m : List Pc} (h : Frs a b l) (k : Frs b c m) : Frs a c (l ++ m) :=
 ⟨h.1.join k.2.2 k.1 k.2.1,h.2.1.app (k.2.1.le h.2.2.1),h.2.2.trans k.2.2⟩
theorem PrL.inl {a b : List Pc} {st st' : St} (h : PrL (a.map (·.p)) st st') : PrL ((a ++ b).map (·.p)) st st' := h.mono fun p hp => by rw [List.map_append]; exact List.mem_append_left _ hp
theorem PrL.inr {a b : List Pc} {st st' : St} (h : PrL (b.map (·.p)) st st') : PrL ((a ++ b).map (·.p)) st st' := h.mono fun p hp => by rw [List.map_append]; exact List.mem_append_right _ hp
structure Tr where
 leaves : List Int
 root : Int
structure TV extends RV where
 root : Int
abbrev TV.x (t : TV) : Tr := ⟨t.l,t.root⟩
structure Ses where
 peer : Int
 num : Int
 inn : Bool
 age : Int
structure Ris where
 inc : Int
 beat : Int
 tick : Int
abbrev cSess (x : Ses) : List Value := [vI x.peer,vI x.num,vB x.inn,vI x.age]
abbrev cRise (x : Ris) : List Value := [vI x.inc,vI x.beat,vI x.tick]
structure SesV where
 p : Option Addr
 l : List Ses
structure RisV where
 p : Option Addr
 l : List Ris
abbrev pcSes (g : SesV) : List Pc := [pcR 4 cSess g.p g.l]
abbrev pcRis (g : RisV) : List Pc := [pcR 3 cRise g.p g.l]
structure Mg where
 kind : Int
 frm : Int
 to : Int
 num : Int
 hi : Int
 tree : Tr
 vec : List Int
 leaves : List Int
 part : Sta
 marks : List Flr
structure MV where
 kind : Int
 frm : Int
 to : Int
 num : Int
 hi : Int
 tree : TV
 vec : RV
 leaves : RV
 part : SV
 marks : FV
abbrev MV.x (m : MV) : Mg := ⟨m.kind,m.frm,m.to,m.num,m.hi,m.tree.x,m.vec.l,m.leaves.l,m.part.x,m.marks.l⟩
structure RdM (st : St) (m : MV) : Prop where
 tree : Rows st 1 fI m.tree.p m.tree.l
 vec : Rows st 1 fI m.vec.p m.vec.l
 leaves : Rows st 1 fI m.leaves.p m.leaves.l
 part : RdS st m.part
 marks : Rows st 2 cFlr m.marks.p m.marks.l
theorem RdM.pres {st st' : St} {m : MV} (h : RdM st m) (k : Pres st st') : RdM st' m := ⟨k.rows h.tree,k.rows h.vec,k.rows h.leaves,h.part.pres k,k.rows h.marks⟩
abbrev pcMV (m : MV) : List Pc := pcIs m.tree.toRV ++ (pcIs m.vec ++ (pcIs m.leaves ++ (pcS m.part ++ pcFV m.marks)))
structure Nd where
 id : Int
 n : Int
 s : Sta
 t : Tr
 g : Lg
 got : List Int
 acked : List Int
 seen : List (List Int)
 num : Int
 slots : Int
 sess : List Ses
 wait : Int
 limit : Int
 clock : Int
 rises : List Ris
structure NV where
 id : Int
 n : Int
 s : SV
 t : TV
 g : LV
 got : RV
 acked : RV
 seen : TT
 num : Int
 slots : Int
 sess : SesV
 wait : Int
 limit : Int
 clock : Int
 rises : RisV
abbrev NV.x (v : NV) : Nd := ⟨v.id,v.n,v.s.x,v.t.x,v.g.x,v.got.l,v.acked.l,v.seen.x,v.num,v.slots,v.sess.l,v.wait,v.limit,v.clock,v.rises.l⟩
structure NW where
 id : Int
 n : Int
 s : SV
 t : TV
 g : LW
 got : RV
 acked : RV
 seen : TT
 num : Int
 slots : Int
 sess : SesV
 wait : Int
 limit : Int
 clock : Int
 rises : RisV
abbrev NW.v (v : NW) : NV := ⟨v.id,v.n,v.s,v.t,v.g.v,v.got,v.acked,v.seen,v.num,v.slots,v.sess,v.wait,v.limit,v.clock,v.rises⟩
abbrev NW.x (v : NW) : Nd := v.v.x
structure RdN (st : St) (v : NV) : Prop where
 s : RdS st v.s
 t : Rows st 1 fI v.t.p v.t.l
 g : RdL st v.g.p v.g.l
 got : Rows st 1 fI v.got.p v.got.l
 acked : Rows st 1 fI v.acked.p v.acked.l
 seen : RdT st v.seen.p v.seen.t
 sess : Rows st 4 cSess v.sess.p v.sess.l
 rises : Rows st 3 cRise v.rises.p v.rises.l
theorem RdN.pres {st st' : St} {v : NV} (h : RdN st v) (k : Pres st st') : RdN st' v := ⟨h.s.pres k,k.rows h.t,h.g.pres k,k.rows h.got,k.rows h.acked,h.seen.pres k,k.rows h.sess,k.rows h.rises⟩
abbrev pcNW (v : NW) : List Pc := pcS v.s ++ (pcIs v.t.toRV ++ (pcLog v.g ++ (pcIs v.got ++ (pcIs v.acked ++ (pcTT v.seen ++ (pcSes v.sess ++ pcRis v.rises))))))
end Go.Proofs.YteabadoaeadcgaaDoor.AM
namespace Go.Proofs.YteabadoaeadcgaaDoor.AM
open Go Go.Proofs
set_option linter.unusedVariables false
set_option linter.unusedSimpArgs false
set_option maxRecDepth 100000
set_option maxHeartbeats 4000000
noncomputable def stT (L : LL) : St := ⟨fun a => if a = tabG then some ⟨false,1,tabV⟩ else (stL Tryd.prog.globals.size L).mem a,Tryd.prog.globals.size + L.length⟩
theorem tabG_lt : tabG < Tryd.prog.globals.size := of_decide_eq_true (by kernel_rfl)
theorem stL_low {G : Nat} {L : LL} {a : Nat} {b : Blk} (h : (stL G L).mem a = some b) : G ≤ a := by
 simp only [stL] at h
 split at h
 ·cases h
 ·omega
theorem stT_of {L : LL} {a : Nat} {b : Blk} (h : (stL Tryd.prog.globals.size L).mem a = some b) : (stT L).mem a = some b := by
 have h1 := stL_low h
 have h2 := tabG_lt
 simp only [stT]
 rw [if_neg (by omega)]
 exact h
theorem tab_stT (L : LL) : Tab (stT L) := ⟨by have := tabG_lt; show tabG < _ + _; omega,by simp only [stT,if_pos]⟩
theorem Rows.stT {α : Type} {z : Nat} {f : α → List Value} {L : LL} {p : Option Addr} {l : List α} (h : Rows (stL Tryd.prog.globals.size L) z f p l) : Rows (AM.stT L) z f p l := by
 rcases h with h | ⟨b,off,blk,h1,h2,h3,h4⟩
 ·exact .inl h
 ·exact .inr ⟨b,off,blk,h1,stT_of h2,h3,h4⟩
theorem Ints.stT {k : IntKind} {L : LL} {p : Option Addr} {l : List Int} (h : Ints (stL Tryd.prog.globals.size L) k p l) : Ints (AM.stT L) k p l := by
 rcases h with h | ⟨b,off,blk,h1,h2,h3,h4⟩
 ·exact .inl h
 ·exact .inr ⟨b,off,blk,h1,stT_of h2,h3,h4⟩
theorem stT_ro {L : LL} : ∀ a b,(stT L).mem a = some b → b.rw = false := by
 intro a b h
 simp only [stT] at h
 split at h
 ·injection h with h; rw [← h]
 ·exact stL_ro a b h
theorem relT {L : LL} {w : World} (hG : Good Tryd.prog.globals.size w L) (hT : Lib.TabIs Tryd.prog w "internal/strconv.uint64pow10" .u64 Lib.pow10Tab) : Rel (ιL Tryd.prog.globals.size L) lo0 (stT L) w := by
 have h := relL (fun x hx => (hG x hx).1) (fun x hx => (hG x hx).2)
 have hg : Tryd.prog.globalNamed "internal/strconv.uint64pow10" = some tabG := by kernel_rfl
 obtain ⟨c,e,fr,hc,hcc⟩ : ∃ c e fr,w.heap[tabG]? = some (.cells c e fr) ∧ c = tabV.toArray := by
  have h1 := hT
  unfold Lib.TabIs World.var? at h1
  rw [hg] at h1
  simp only [Option.bind_some] at h1
  split at h1
  ·rename_i c e fr hc
   injection h1 with h1
   exact ⟨c,e,fr,hc,h1⟩
  ·cases h1
 have hlt := (Array.getElem?_eq_some_iff.1 hc).1
 have hh : (ιL Tryd.prog.globals.size L).h tabG = (tabG,0) := (glL (P := Tryd.prog) tabG tabG_lt).2
 have key : ∀ a b,(stT L).mem a = some b → (a = tabG ∧ b = ⟨false,1,tabV⟩) ∨ (stL Tryd.prog.globals.size L).mem a = some b := fun a b hb => by
  simp only [stT] at hb
  split at hb
  ·rename_i he; injection hb with hb; exact .inl ⟨he,hb.symm⟩
  ·exact .inr hb
 refine ⟨h.n,h.g,fun a b hb => ?_,fun a b hb => ?_,h.lg,h.lk,fun a b a' b' hne hb hb' hr => ?_,fun a b t g cs hb ht => by simp [lo0] at ht,h.ll,fun a b hb => ?_⟩
 ·rcases key a b hb with ⟨rfl,_⟩ | hb
  ·have := tabG_lt; show tabG < _ + _; omega
  ·exact h.lt a b hb
 ·rcases key a b hb with ⟨rfl,rfl⟩ | hb
  ·refine ⟨fun i x hx => ?_,(fun hr => by cases hr),fun _ _ => ?_⟩
   ·rw [hh,Nat.zero_add]
    have hx : tabV[i]? = some x := hx
    refine ⟨x,by rw [cell_of hc,hcc,List.getElem?_toArray]; exact hx,?_⟩
    obtain ⟨z,_,rfl⟩ := List.mem_map.1 (List.mem_of_getElem? hx)
    exact (rfl : Value.int .u64 z = Value.int .u64 z)
   ·rw [hh]
    exact ⟨rfl,c,e,fr,hc,by rw [hcc,List.size_toArray]⟩
  ·exact h.hk a b hb
 ·rw [stT_ro a b hb] at hr
  cases hr
 ·rcases key a b hb with ⟨rfl,_⟩ | hb
  ·rw [hh]; exact hlt
  ·exact h.hb a b hb
theorem law_door {f : FuncId} {L : LL} {args cs : List Value} {w : World} (hG : Good Tryd.prog.globals.size w L) (hT : Lib.TabIs Tryd.prog w "internal/strconv.uint64pow10" .u64 Lib.pow10Tab)
  (h : C f args (stT L) (fun v s => v = .bool true)) (hA : AR (ιL Tryd.prog.globals.size L) args cs) {fn : Func} {c : Code} (hf : Tryd.prog.funcs[f]? = some fn) (hb : fn.body = some c) : Calls Tryd.prog f cs.toArray w (fun e w' => e = .returned (.bool true) ∧ RowKit.Below w.heap.size w w') := by
 obtain ⟨h1,h2⟩ := hA.get
 exact law_from ext0_ok h (fun v s h => h) rfl glL (relT hG hT) stT_ro (by simpa using h1.symm) (fun i x hx => by obtain ⟨y,h3,h4⟩ := h2 i x hx; exact ⟨y,by simpa using h3,h4⟩) hf hb
theorem filt_in {α : Type} {p : α → Bool} {l : List α} {i : Nat} {x : α} (h : l[i]? = some x) (hx : p x = true) : (l.take (i + 1)).filter p = (l.take i).filter p ++ [x] := by
 rw [List.take_add_one,h,List.filter_append]
 simp [hx]
theorem filt_out {α : Type} {p : α → Bool} {l : List α} {i : Nat} {x : α} (h : l[i]? = some x) (hx : p x = false) : (l.take (i + 1)).filter p = (l.take i).filter p := by
 rw [List.take_add_one,h,List.filter_append]
 simp [hx]
open Classical in
noncomputable def addL (g : Lg) (d : Sta) : Lg × Bool := if logOk g ∧ stateOk d ∧ g.frm + (g.list.length : Int) < 100000 then (if (g.list.length : Int) + 1 > g.cap then (⟨g.cap,g.frm + 1,(g.list ++ [d]).drop 1⟩,true) else (⟨g.cap,g.frm,g.list ++ [d]⟩,true)) else (g,false)
theorem cmpS {A : Option Value} {Q : Prop} {K : Bool → Prop} (h : ∃ b,A = some (.bool b) ∧ (b = true ↔ Q)) (hk : ∀ c,(c = true ↔ Q) → K c) : ∃ b,A = some (.bool b) ∧ ∀ c,b = c → K c := by
 obtain ⟨b,h1,h2⟩ := h
 exact ⟨b,h1,fun c hc => hc ▸ hk b h2⟩
theorem same_next {α β : Type} {f : α → β} {a b : List α} {i : Nat} {x y : α} (hx : a[i]? = some x) (hy : b[i]? = some y) (h : f x = f y) (heq : ∀ (j : Nat) x y,j < i → a[j]? = some x → b[j]? = some y → f x = f y) : ∀ (j : Nat) x y,j < i + 1 → a[j]? = some x → b[j]? = some y → f x = f y := by
 intro j u v hj hu hv
 rcases Nat.lt_or_ge j i with h2 | h2
 ·exact heq j u v h2 hu hv
 ·obtain rfl : j = i := by omega
  rw [hx] at hu; rw [hy] at hv
  injection hu with hu; injection hv with hv
  rw [← hu,← hv]; exact h
theorem same_at {α : Type} {a b : List α} {i : Nat} {x y : α} (hx : a[i]? = some x) (hy : b[i]? = some y) (h : a = b) : x = y := by
 subst h; rw [hx] at hy; injection hy
theorem sta_ext {a b : Sta} (h1 : a.items = b.items) (h2 : a.floors = b.floors) : a = b := by cases a; cases b; simp only at h1 h2; rw [h1,h2]
theorem neq_Floor (x y : Flr) : ∃ b,abin Tryd.prog .neq 57 (.agg #[vI x.id,vI x.inc]) (.agg #[vI y.id,vI y.inc]) = some (.bool b) ∧ (b = true ↔ ¬ x = y) := by
 refine ⟨!((if (x.id == y.id) = true then (if (x.inc == y.inc) = true then true else false) else false)),?_,?_⟩
 ·have h : abin Tryd.prog .neq 57 (.agg #[vI x.id,vI x.inc]) (.agg #[vI y.id,vI y.inc]) = (((some (x.id == y.id)).bind fun r => if r = true then ((some (x.inc == y.inc)).bind fun r => if r = true then some true else some false) else some false)).map fun b => Value.bool !b := by kernel_rfl
  rw [h]; cases x.id == y.id <;> cases x.inc == y.inc <;> rfl
 ·cases x; cases y; simp [Classical.or_iff_not_imp_left]
theorem neq_Item (x y : Itm) : ∃ b,abin Tryd.prog .neq 59 (.agg #[vI x.id,vI x.e.inc,vI x.e.rank,vI x.e.beat,vI x.e.ver,.string x.e.data]) (.agg #[vI y.id,vI y.e.inc,vI y.e.rank,vI y.e.beat,vI y.e.ver,.string y.e.data]) = some (.bool b) ∧ (b = true ↔ ¬ x = y) := by
 refine ⟨!(x.id == y.id && (x.e.inc == y.e.inc && (x.e.rank == y.e.rank && (x.e.beat == y.e.beat && (x.e.ver == y.e.ver && x.e.data.toList == y.e.data.toList))))),?_,?_⟩
 ·have h : abin Tryd.prog .neq 59 (.agg #[vI x.id,vI x.e.inc,vI x.e.rank,vI x.e.beat,vI x.e.ver,.string x.e.data]) (.agg #[vI y.id,vI y.e.inc,vI y.e.rank,vI y.e.beat,vI y.e.ver,.string y.e.data]) = ((some (x.id == y.id)).bind fun r => if r = true then (((some (x.e.inc == y.e.inc)).bind fun r => if r = true then ((some (x.e.rank == y.e.rank)).bind fun r => if r = true then ((some (x.e.beat == y.e.beat)).bind fun r => if r = true then ((some (x.e.ver == y.e.ver)).bind fun r => if r = true then ((some (x.e.data.toList == y.e.data.toList)).bind fun r => if r = true then some true else some false) else some false) else some false) else some false) else some false).bind fun r => if r = true then some true else some false) else some false).map fun b => Value.bool !b := by kernel_rfl
  rw [h]; cases x.id == y.id <;> cases x.e.inc == y.e.inc <;> cases x.e.rank == y.e.rank <;> cases x.e.beat == y.e.beat <;> cases x.e.ver == y.e.ver <;> cases x.e.data.toList == y.e.data.toList <;> rfl
 ·rcases x with ⟨i,a,b,c,d,s⟩
  rcases y with ⟨j,a',b',c',d',s'⟩
  have hb : (s.toList == s'.toList) = true ↔ s = s' := beq_bytes
  cases hs : (s.toList == s'.toList) with
  | true => simp [hs,hb.1 hs,Classical.or_iff_not_imp_left]
  | false =>
   have : ¬ s = s' := fun h => by rw [hb.2 h] at hs; cases hs
   simp [hs,this]
theorem ac_slices_Equal_Floor (p q : Option Addr) (a b : List Flr) (st : St) (hA : Rows st 2 cFlr p a) (hB : Rows st 2 cFlr q b) (hs : szOk a.length) : C 66 [vS p a.length,vS q b.length] st (fun v s => ∃ x,v = .bool x ∧ (x = true ↔ a = b) ∧ s = st) := by
 have hs : a.length ≤ 1048576 := hs
 refine AC.enterX (i := ⟨[],[],[0,1,4,5,10,12,13,14,24],[]⟩) [(6,[],[])] Tryd.func66 rfl rfl (by kernel_rfl) (by kernel_rfl) Tryd.ntmps66 (Lb rfl) rfl ?_
 refine Cu lo0 st [(0,vS p a.length),(1,vS q b.length),(4,vB false)] fun _ => ?_
 iterate 3 refine ⟨_,rfl,?_⟩
 rintro (_|_) h10
 ·replace h10 : (a.length : Int) = (b.length : Int) := bne_eq_false_iff_eq.1 h10
  refine Cu lo0 st [(0,vS p a.length),(1,vS q b.length),(4,vB false),(10,vB false)] fun _ => ?_
  refine cxs ?_
  refine ⟨_,rfl,?_⟩
  refine Cu lo0 st [(0,vS p a.length),(1,vS q b.length),(4,vB false),(12,vI (a.length : Int)),(13,vI 0)] fun _ => ?_
  refine AW.loop0 (fun i : Nat => [(0,vS p a.length),(1,vS q b.length),(12,vI (a.length : Int)),(13,vI (i : Int))]) (fun m (i : Nat) st' => m = a.length - i ∧ i ≤ a.length ∧ (∀ (j : Nat) x y,j < i → a[j]? = some x → b[j]? = some y → x = y) ∧ st = st') 0 _ ⟨rfl,rfl,rfl,rfl,trivial⟩ rfl ⟨rfl,Nat.zero_le _,fun j x y h => absurd h (Nat.not_lt_zero _),rfl⟩ ?_
  rintro m i ρ0 st' ⟨rfl,hi,heq,rfl⟩
  refine ⟨_,rfl,?_⟩
  rintro (_|_) h14
  ·replace h14 : ¬ ((i : Int) < (a.length : Int)) := of_decide_eq_false h14
   refine Cu lo0 st [(0,vS p a.length),(1,vS q b.length),(12,vI (a.length : Int)),(13,vI (i : Int)),(14,vB false)] fun _ => ?_
   refine cxs ?_
   exact cxs (Rt ⟨true,rfl,⟨fun _ => iff_lists (by omega) fun j x y hj hx hy => heq j x y (by omega) hx hy,fun _ => rfl⟩,rfl⟩)
  ·replace h14 : (i : Int) < (a.length : Int) := of_decide_eq_true h14
   refine Cu lo0 st [(0,vS p a.length),(1,vS q b.length),(12,vI (a.length : Int)),(13,vI (i : Int)),(14,vB true)] fun _ => ?_
   refine cxs ?_
   refine Cu lo0 st [(0,vS p a.length),(1,vS q b.length),(5,vI (i : Int)),(12,vI (a.length : Int)),(13,vI (i : Int)),(14,vB true)] fun _ => ?_
   refine op_at i hA (by omega) rfl rfl rfl rfl rfl rfl rfl ?_
   intro x18 b18 d18 k18 hy18 hb18 hm18 hc18 ho18
   refine ⟨_,op_lda rfl rfl rfl rfl rfl hm18 hc18 rfl,?_⟩
   refine op_at i hB (by omega) rfl rfl rfl rfl rfl rfl rfl ?_
   intro x22 b22 d22 k22 hy22 hb22 hm22 hc22 ho22
   refine ⟨_,op_lda rfl rfl rfl rfl rfl hm22 hc22 rfl,?_⟩
   refine cmpS (neq_Floor x18 x22) ?_
   rintro (_|_) h24
   ·replace h24 : x18 = x22 := Classical.byContradiction fun k => Bool.false_ne_true (h24.2 k)
    refine Cu lo0 st [(0,vS p a.length),(1,vS q b.length),(5,vI (i : Int)),(12,vI (a.length : Int)),(13,vI (i : Int)),(14,vB true),(24,vB false)] fun _ => ?_
    refine cxs ?_
    have ew25 : IntKind.wrap .i64 ((i : Int) + (1)) = ((i + 1 : Nat) : Int) := (wrap_i64 (by omega) (by omega)).trans (by omega)
    refine ⟨_,rfl,?_⟩
    exact ⟨i + 1,a.length - (i + 1),by omega,⟨rfl,rfl,rfl,congrArg (Value.int .i64) ew25,trivial⟩,rfl,rfl,by omega,same_next (f := fun x => x) hy18 hy22 h24 heq,rfl⟩
   ·replace h24 : ¬ x18 = x22 := h24.1 rfl
    refine Cu lo0 st [(0,vS p a.length),(1,vS q b.length),(5,vI (i : Int)),(12,vI (a.length : Int)),(13,vI (i : Int)),(14,vB true),(24,vB true)] fun _ => ?_
    exact cxs (Rt ⟨false,rfl,⟨fun h => absurd h Bool.false_ne_true,fun h => (show False from (absurd (same_at hy18 hy22 h) h24)).elim⟩,rfl⟩)
 ·replace h10 : ¬ ((a.length : Int) = (b.length : Int)) := bne_iff_ne.1 h10
  refine Cu lo0 st [(0,vS p a.length),(1,vS q b.length),(4,vB false),(10,vB true)] fun _ => ?_
  exact cxs (Rt ⟨false,rfl,⟨fun h => absurd h Bool.false_ne_true,fun h => (show False from (absurd (congrArg (fun l : List Flr => (l.length : Int)) h) h10)).elim⟩,rfl⟩)
theorem ac_slices_Equal_Item (p q : Option Addr) (a b : List Itm) (st : St) (hA : Rows st 6 cItm p a) (hB : Rows st 6 cItm q b) (hs : szOk a.length) : C 65 [vS p a.length,vS q b.length] st (fun v s => ∃ x,v = .bool x ∧ (x = true ↔ a = b) ∧ s = st) := by
 have hs : a.length ≤ 1048576 := hs
 refine AC.enterX (i := ⟨[],[],[0,1,4,5,10,12,13,14,24],[]⟩) [(6,[],[])] Tryd.func65 rfl rfl (by kernel_rfl) (by kernel_rfl) Tryd.ntmps65 (Lb rfl) rfl ?_
 refine Cu lo0 st [(0,vS p a.length),(1,vS q b.length),(4,vB false)] fun _ => ?_
 iterate 3 refine ⟨_,rfl,?_⟩
 rintro (_|_) h10
 ·replace h10 : (a.length : Int) = (b.length : Int) := bne_eq_false_iff_eq.1 h10
  refine Cu lo0 st [(0,vS p a.length),(1,vS q b.length),(4,vB false),(10,vB false)] fun _ => ?_
  refine cxs ?_
  refine ⟨_,rfl,?_⟩
  refine Cu lo0 st [(0,vS p a.length),(1,vS q b.length),(4,vB false),(12,vI (a.length : Int)),(13,vI 0)] fun _ => ?_
  refine AW.loop0 (fun i : Nat => [(0,vS p a.length),(1,vS q b.length),(12,vI (a.length : Int)),(13,vI (i : Int))]) (fun m (i : Nat) st' => m = a.length - i ∧ i ≤ a.length ∧ (∀ (j : Nat) x y,j < i → a[j]? = some x → b[j]? = some y → x = y) ∧ st = st') 0 _ ⟨rfl,rfl,rfl,rfl,trivial⟩ rfl ⟨rfl,Nat.zero_le _,fun j x y h => absurd h (Nat.not_lt_zero _),rfl⟩ ?_
  rintro m i ρ0 st' ⟨rfl,hi,heq,rfl⟩
  refine ⟨_,rfl,?_⟩
  rintro (_|_) h14
  ·replace h14 : ¬ ((i : Int) < (a.length : Int)) := of_decide_eq_false h14
   refine Cu lo0 st [(0,vS p a.length),(1,vS q b.length),(12,vI (a.length : Int)),(13,vI (i : Int)),(14,vB false)] fun _ => ?_
   refine cxs ?_
   exact cxs (Rt ⟨true,rfl,⟨fun _ => iff_lists (by omega) fun j x y hj hx hy => heq j x y (by omega) hx hy,fun _ => rfl⟩,rfl⟩)
  ·replace h14 : (i : Int) < (a.length : Int) := of_decide_eq_true h14
   refine Cu lo0 st [(0,vS p a.length),(1,vS q b.length),(12,vI (a.length : Int)),(13,vI (i : Int)),(14,vB true)] fun _ => ?_
   refine cxs ?_
   refine Cu lo0 st [(0,vS p a.length),(1,vS q b.length),(5,vI (i : Int)),(12,vI (a.length : Int)),(13,vI (i : Int)),(14,vB true)] fun _ => ?_
   refine op_at i hA (by omega) rfl rfl rfl rfl rfl rfl rfl ?_
   intro x18 b18 d18 k18 hy18 hb18 hm18 hc18 ho18
   refine ⟨_,op_lda rfl rfl rfl rfl rfl hm18 hc18 rfl,?_⟩
   refine op_at i hB (by omega) rfl rfl rfl rfl rfl rfl rfl ?_
   intro x22 b22 d22 k22 hy22 hb22 hm22 hc22 ho22
   refine ⟨_,op_lda rfl rfl rfl rfl rfl hm22 hc22 rfl,?_⟩
   refine cmpS (neq_Item x18 x22) ?_
   rintro (_|_) h24
   ·replace h24 : x18 = x22 := Classical.byContradiction fun k => Bool.false_ne_true (h24.2 k)
    refine Cu lo0 st [(0,vS p a.length),(1,vS q b.length),(5,vI (i : Int)),(12,vI (a.length : Int)),(13,vI (i : Int)),(14,vB true),(24,vB false)] fun _ => ?_
    refine cxs ?_
    have ew25 : IntKind.wrap .i64 ((i : Int) + (1)) = ((i + 1 : Nat) : Int) := (wrap_i64 (by omega) (by omega)).trans (by omega)
    refine ⟨_,rfl,?_⟩
    exact ⟨i + 1,a.length - (i + 1),by omega,⟨rfl,rfl,rfl,congrArg (Value.int .i64) ew25,trivial⟩,rfl,rfl,by omega,same_next (f := fun x => x) hy18 hy22 h24 heq,rfl⟩
   ·replace h24 : ¬ x18 = x22 := h24.1 rfl
    refine Cu lo0 st [(0,vS p a.length),(1,vS q b.length),(5,vI (i : Int)),(12,vI (a.length : Int)),(13,vI (i : Int)),(14,vB true),(24,vB true)] fun _ => ?_
    exact cxs (Rt ⟨false,rfl,⟨fun h => absurd h Bool.false_ne_true,fun h => (show False from (absurd (same_at hy18 hy22 h) h24)).elim⟩,rfl⟩)
 ·replace h10 : ¬ ((a.length : Int) = (b.length : Int)) := bne_iff_ne.1 h10
  refine Cu lo0 st [(0,vS p a.length),(1,vS q b.length),(4,vB false),(10,vB true)] fun _ => ?_
  exact cxs (Rt ⟨false,rfl,⟨fun h => absurd h Bool.false_ne_true,fun h => (show False from (absurd (congrArg (fun l : List Itm => (l.length : Int)) h) h10)).elim⟩,rfl⟩)
theorem ac_impl_StateSame (a b : SV) (st : St) (hA : RdS st a) (hB : RdS st b) (hb : bigS a.x) : C 48 [.agg #[vS a.p a.x.items.length,vS a.q a.x.floors.length],.agg #[vS b.p b.x.items.length,vS b.q b.x.floors.length]] st (fun v s => ∃ x,v = .bool x ∧ (x = true ↔ a.x = b.x) ∧ s = st) := by
 have hs1 := hb.1
 have hs2 := hb.2.1
 refine AC.enterX (i := ⟨[2,3],[2,3,5,7,11,13],[0,1,2,3,4],[]⟩) [] Tryd.func48 rfl rfl (by kernel_rfl) (by kernel_rfl) Tryd.ntmps48 (Lb rfl) rfl ?_
 iterate 2 refine ⟨_,rfl,?_⟩
 refine Cm 2 st [Ml 2 0,Ml 3 1,(4,vB false)] [(2,0,cSV a),(3,1,cSV b)] fun _ _ => ?_
 refine ⟨_,rfl,?_⟩
 refine ⟨_,Od rfl,?_⟩
 refine ⟨_,rfl,?_⟩
 refine ⟨_,Od rfl,?_⟩
 refine ⟨_,rfl,(ac_slices_Equal_Item a.p b.p a.x.items b.x.items st hA.1 hB.1 (by first | assumption | omega)).mono ?_⟩
 rintro _ st ⟨x9,rfl,h9,rfl⟩
 rcases x9 with _|_
 ·replace h9 := fun k => Bool.false_ne_true (h9.2 k)
  refine ⟨_,rfl,?_⟩
  exact cxs (Rt ⟨false,rfl,⟨fun h => absurd h Bool.false_ne_true,fun h => (show False from (absurd (congrArg Sta.items h) h9)).elim⟩,rfl⟩)
 ·replace h9 := h9.1 rfl
  refine ⟨_,rfl,?_⟩
  refine ⟨_,Od rfl,?_⟩
  refine ⟨_,rfl,?_⟩
  refine ⟨_,Od rfl,?_⟩
  refine ⟨_,rfl,(ac_slices_Equal_Floor a.q b.q a.x.floors b.x.floors st hA.2 hB.2 (by first | assumption | omega)).mono ?_⟩
  rintro _ st ⟨x15,rfl,h15,rfl⟩
  rcases x15 with _|_
  ·replace h15 := fun k => Bool.false_ne_true (h15.2 k)
   refine ⟨_,rfl,?_⟩
   exact cxs (Rt ⟨false,rfl,⟨fun h => absurd h Bool.false_ne_true,fun h => (show False from (absurd (congrArg Sta.floors h) h15)).elim⟩,rfl⟩)
  ·replace h15 := h15.1 rfl
   refine ⟨_,rfl,?_⟩
   exact cxs (Rt ⟨true,rfl,⟨fun _ => sta_ext h9 h15,fun _ => rfl⟩,rfl⟩)
theorem ac_spec_StateSame (a b : SV) (st : St) (hA : RdS st a) (hB : RdS st b) (hb : bigS a.x) : C 13 [.agg #[vS a.p a.x.items.length,vS a.q a.x.floors.length],.agg #[vS b.p b.x.items.length,vS b.q b.x.floors.length]] st (fun v s => ∃ x,v = .bool x ∧ (x = true ↔ a.x = b.x) ∧ s = st) := by
 have hs1 : a.x.items.length ≤ 1048576 := hb.1
 have hs2 : a.x.floors.length ≤ 1048576 := hb.2.1
 refine AC.enterX (i := ⟨[2,3],[2,3,7,10,15,18,24,30,35,42,48,53],[0,1,2,3,4,5,6,22,27,40,45,58],[]⟩) [(6,[],[]),(11,[],[])] Tryd.func13 rfl rfl (by kernel_rfl) (by kernel_rfl) Tryd.ntmps13 (Lb rfl) rfl ?_
 iterate 2 refine ⟨_,rfl,?_⟩
 refine Cm 2 st [Ml 2 0,Ml 3 1,(4,vB false)] [(2,0,cSV a),(3,1,cSV b)] fun _ _ => ?_
 refine ⟨_,rfl,?_⟩
 refine ⟨_,Od rfl,?_⟩
 iterate 2 refine ⟨_,rfl,?_⟩
 refine ⟨_,Od rfl,?_⟩
 iterate 2 refine ⟨_,rfl,?_⟩
 rintro (_|_) h13
 ·replace h13 : (a.x.items.length : Int) = (b.x.items.length : Int) := bne_eq_false_iff_eq.1 h13
  refine ⟨_,rfl,?_⟩
  refine ⟨_,Od rfl,?_⟩
  iterate 2 refine ⟨_,rfl,?_⟩
  refine ⟨_,Od rfl,?_⟩
  iterate 2 refine ⟨_,rfl,?_⟩
  rintro (_|_) h21
  ·replace h21 : (a.x.floors.length : Int) = (b.x.floors.length : Int) := bne_eq_false_iff_eq.1 h21
   refine ⟨_,rfl,?_⟩
   refine Cm 2 st [Ml 2 0,Ml 3 1,(4,vB false),(22,vB false)] [(2,0,cSV a),(3,1,cSV b)] fun _ _ => ?_
   refine cxs ?_
   refine Cm 2 st [Ml 2 0,Ml 3 1,(4,vB false),(5,vI 0)] [(2,0,cSV a),(3,1,cSV b)] fun _ _ => ?_
   refine AW.loopM (fun i : Nat => [(2,vL 2 0 (0)),(3,vL 3 0 (1)),(5,vI (i : Int))]) (fun i : Nat => [(2,0,[vS a.p a.x.items.length,vS a.q a.x.floors.length]),(3,1,[vS b.p b.x.items.length,vS b.q b.x.floors.length])]) (fun m (i : Nat) st' => m = a.x.items.length - i ∧ i ≤ a.x.items.length ∧ (∀ (j : Nat) x y,j < i → a.x.items[j]? = some x → b.x.items[j]? = some y → x = y) ∧ st = st') 0 _ ⟨rfl,rfl,rfl,trivial⟩ ⟨rfl,rfl,trivial⟩ ⟨rfl,Nat.zero_le _,fun j x y h => absurd h (Nat.not_lt_zero _),rfl⟩ ?_
   rintro m i ρ0 ff gg st' ⟨rfl,hi,heq,rfl⟩
   refine ⟨_,rfl,?_⟩
   refine ⟨_,Od rfl,?_⟩
   iterate 2 refine ⟨_,rfl,?_⟩
   rintro (_|_) h27
   ·replace h27 : ¬ ((i : Int) < (a.x.items.length : Int)) := of_decide_eq_false h27
    refine Cm gg st [Ml 2 0,Ml 3 1,(5,vI (i : Int)),(27,vB false)] [(2,0,cSV a),(3,1,cSV b)] fun _ _ => ?_
    have hI : a.x.items = b.x.items := iff_lists (by omega) fun j x y hj hx hy => heq j x y (by omega) hx hy
    clear heq
    refine cxs ?_
    refine Cm gg st [Ml 2 0,Ml 3 1,(6,vI 0)] [(2,0,cSV a),(3,1,cSV b)] fun _ _ => ?_
    refine AW.loopM (fun i : Nat => [(2,vL 2 0 (0)),(3,vL 3 0 (1)),(6,vI (i : Int))]) (fun i : Nat => [(2,0,[vS a.p a.x.items.length,vS a.q a.x.floors.length]),(3,1,[vS b.p b.x.items.length,vS b.q b.x.floors.length])]) (fun m (i : Nat) st' => m = a.x.floors.length - i ∧ i ≤ a.x.floors.length ∧ (∀ (j : Nat) x y,j < i → a.x.floors[j]? = some x → b.x.floors[j]? = some y → x = y) ∧ st = st') 0 _ ⟨rfl,rfl,rfl,trivial⟩ ⟨rfl,rfl,trivial⟩ ⟨rfl,Nat.zero_le _,fun j x y h => absurd h (Nat.not_lt_zero _),rfl⟩ ?_
    rintro m i ρ0 ff gg st' ⟨rfl,hi,heq,rfl⟩
    refine ⟨_,rfl,?_⟩
    refine ⟨_,Od rfl,?_⟩
    iterate 2 refine ⟨_,rfl,?_⟩
    rintro (_|_) h45
    ·replace h45 : ¬ ((i : Int) < (a.x.floors.length : Int)) := of_decide_eq_false h45
     refine Cm gg st [Ml 2 0,Ml 3 1,(6,vI (i : Int)),(45,vB false)] [(2,0,cSV a),(3,1,cSV b)] fun _ _ => ?_
     refine cxs ?_
     exact cxs (Rt ⟨true,rfl,⟨fun _ => sta_ext hI (iff_lists (by omega) fun j x y hj hx hy => heq j x y (by omega) hx hy),fun _ => rfl⟩,rfl⟩)
    ·replace h45 : (i : Int) < (a.x.floors.length : Int) := of_decide_eq_true h45
     refine Cm gg st [Ml 2 0,Ml 3 1,(6,vI (i : Int)),(45,vB true)] [(2,0,cSV a),(3,1,cSV b)] fun _ _ => ?_
     refine cxs ?_
     refine ⟨_,rfl,?_⟩
     refine ⟨_,Od rfl,?_⟩
     refine op_at i hA.2 (by omega) rfl rfl rfl rfl rfl rfl rfl ?_
     intro x51 b51 d51 k51 hy51 hb51 hm51 hc51 ho51
     refine ⟨_,op_lda rfl rfl rfl rfl rfl hm51 hc51 rfl,?_⟩
     refine ⟨_,rfl,?_⟩
     refine ⟨_,Od rfl,?_⟩
     refine op_at i hB.2 (by omega) rfl rfl rfl rfl rfl rfl rfl ?_
     intro x56 b56 d56 k56 hy56 hb56 hm56 hc56 ho56
     refine ⟨_,op_lda rfl rfl rfl rfl rfl hm56 hc56 rfl,?_⟩
     refine cmpS (neq_Floor x51 x56) ?_
     rintro (_|_) h58
     ·replace h58 : x51 = x56 := Classical.byContradiction fun k => Bool.false_ne_true (h58.2 k)
      refine Cm gg st [Ml 2 0,Ml 3 1,(6,vI (i : Int)),(45,vB true),(58,vB false)] [(2,0,cSV a),(3,1,cSV b)] fun _ _ => ?_
      refine cxs ?_
      have ew47 : IntKind.wrap .i64 ((i : Int) + (1)) = ((i + 1 : Nat) : Int) := (wrap_i64 (by omega) (by omega)).trans (by omega)
      refine ⟨_,rfl,?_⟩
      exact ⟨i + 1,a.x.floors.length - (i + 1),by omega,⟨rfl,rfl,congrArg (Value.int .i64) ew47,trivial⟩,⟨rfl,rfl,trivial⟩,rfl,by omega,same_next (f := fun x => x) hy51 hy56 h58 heq,rfl⟩
     ·replace h58 : ¬ x51 = x56 := h58.1 rfl
      refine Cm gg st [Ml 2 0,Ml 3 1,(6,vI (i : Int)),(45,vB true),(58,vB true)] [(2,0,cSV a),(3,1,cSV b)] fun _ _ => ?_
      exact cxs (Rt ⟨false,rfl,⟨fun h => absurd h Bool.false_ne_true,fun h => (show False from (absurd (same_at hy51 hy56 (congrArg Sta.floors h)) h58)).elim⟩,rfl⟩)
   ·replace h27 : (i : Int) < (a.x.items.length : Int) := of_decide_eq_true h27
    refine Cm gg st [Ml 2 0,Ml 3 1,(5,vI (i : Int)),(27,vB true)] [(2,0,cSV a),(3,1,cSV b)] fun _ _ => ?_
    refine cxs ?_
    refine ⟨_,rfl,?_⟩
    refine ⟨_,Od rfl,?_⟩
    refine op_at i hA.1 (by omega) rfl rfl rfl rfl rfl rfl rfl ?_
    intro x33 b33 d33 k33 hy33 hb33 hm33 hc33 ho33
    refine ⟨_,op_lda rfl rfl rfl rfl rfl hm33 hc33 rfl,?_⟩
    refine ⟨_,rfl,?_⟩
    refine ⟨_,Od rfl,?_⟩
    refine op_at i hB.1 (by omega) rfl rfl rfl rfl rfl rfl rfl ?_
    intro x38 b38 d38 k38 hy38 hb38 hm38 hc38 ho38
    refine ⟨_,op_lda rfl rfl rfl rfl rfl hm38 hc38 rfl,?_⟩
    refine cmpS (neq_Item x33 x38) ?_
    rintro (_|_) h40
    ·replace h40 : x33 = x38 := Classical.byContradiction fun k => Bool.false_ne_true (h40.2 k)
     refine Cm gg st [Ml 2 0,Ml 3 1,(5,vI (i : Int)),(27,vB true),(40,vB false)] [(2,0,cSV a),(3,1,cSV b)] fun _ _ => ?_
     refine cxs ?_
     have ew29 : IntKind.wrap .i64 ((i : Int) + (1)) = ((i + 1 : Nat) : Int) := (wrap_i64 (by omega) (by omega)).trans (by omega)
     refine ⟨_,rfl,?_⟩
     exact ⟨i + 1,a.x.items.length - (i + 1),by omega,⟨rfl,rfl,congrArg (Value.int .i64) ew29,trivial⟩,⟨rfl,rfl,trivial⟩,rfl,by omega,same_next (f := fun x => x) hy33 hy38 h40 heq,rfl⟩
    ·replace h40 : ¬ x33 = x38 := h40.1 rfl
     refine Cm gg st [Ml 2 0,Ml 3 1,(5,vI (i : Int)),(27,vB true),(40,vB true)] [(2,0,cSV a),(3,1,cSV b)] fun _ _ => ?_
     exact cxs (Rt ⟨false,rfl,⟨fun h => absurd h Bool.false_ne_true,fun h => (show False from (absurd (same_at hy33 hy38 (congrArg Sta.items h)) h40)).elim⟩,rfl⟩)
  ·replace h21 : ¬ ((a.x.floors.length : Int) = (b.x.floors.length : Int)) := bne_iff_ne.1 h21
   refine ⟨_,rfl,?_⟩
   refine Cm 2 st [Ml 2 0,Ml 3 1,(4,vB false),(22,vB true)] [(2,0,cSV a),(3,1,cSV b)] fun _ _ => ?_
   exact cxs (Rt ⟨false,rfl,⟨fun h => absurd h Bool.false_ne_true,fun h => (show False from (absurd (congrArg (fun l : Sta => (l.floors.length : Int)) h) h21)).elim⟩,rfl⟩)
 ·replace h13 : ¬ ((a.x.items.length : Int) = (b.x.items.length : Int)) := bne_iff_ne.1 h13
  refine ⟨_,rfl,?_⟩
  refine Cm 2 st [Ml 2 0,Ml 3 1,(4,vB false),(22,vB true)] [(2,0,cSV a),(3,1,cSV b)] fun _ _ => ?_
  exact cxs (Rt ⟨false,rfl,⟨fun h => absurd h Bool.false_ne_true,fun h => (show False from (absurd (congrArg (fun l : Sta => (l.items.length : Int)) h) h13)).elim⟩,rfl⟩)
theorem map_len {t u : List RV} (h : u.map (·.l) = t.map (·.l)) (hr : ∀ r ∈ t,szOk r.l.length) : u.length = t.length ∧ ∀ r ∈ u,szOk r.l.length := by
 have hl := congrArg List.length h
 simp only [List.length_map] at hl
 refine ⟨hl,fun r hm => ?_⟩
 have h2 : r.l ∈ t.map (·.l) := by rw [← h]; exact List.mem_map_of_mem hm
 obtain ⟨x,hx,he⟩ := List.mem_map.1 h2
 rw [← he]; exact hr x hx
abbrev upI (l : List Itm) : List Itm := l.filter fun x => decide (x.e.rank = 0)
open Classical in
noncomputable def viewF (s : Sta) : List Itm := if stateOk s then upI s.items else []
theorem view_big {s : Sta} (h : bigS s) : bigS ⟨viewF s,[]⟩ := by
 unfold viewF
 split
 ·exact ⟨Nat.le_trans (List.length_filter_le _ _) h.1,Nat.zero_le _,fun x hx => h.2.2 x ((List.mem_filter.1 hx).1)⟩
 ·exact ⟨Nat.zero_le _,Nat.zero_le _,fun x hx => by cases hx⟩
theorem ac_impl_View (s : SV) (st : St) (hR : RdS st s) (hb : bigS s.x) : C 32 [.agg #[vS s.p s.x.items.length,vS s.q s.x.floors.length]] st (fun v s' => ∃ q,v = vS q (viewF s.x).length ∧ OwnR s' 6 cItm q (viewF s.x) ∧ New st.next q ∧ Pres st s') := by
 have hs1 : s.x.items.length ≤ 1048576 := hb.1
 refine AC.enterX (i := ⟨[1,5],[1,5,11,18,19],[0,1,2,3,5,9,12,13,14,15,21],[]⟩) [] Tryd.func32 rfl rfl (by kernel_rfl) (by kernel_rfl) Tryd.ntmps32 (Lb rfl) rfl ?_
 refine ⟨_,rfl,?_⟩
 refine Cm 1 st [Ml 1 0,(2,Sn)] [(1,0,cSV s)] fun _ _ => ?_
 refine op_nilK (z := 6) (f := cItm) rfl rfl rfl rfl (by decide) rfl ?_
 intro q6 s6 hO6 hP6 hN6
 refine Cm 1 s6 [Ml 1 0,(2,Sn),(3,vS q6 0)] [(1,0,cSV s)] fun _ _ => ?_
 refine ⟨_,Od rfl,?_⟩
 refine ⟨_,rfl,(ac_impl_StateOk s s6 (hR.pres hP6) (by first | assumption | omega)).mono ?_⟩
 rintro _ s6 ⟨x8,rfl,h8,rfl⟩
 rcases x8 with _|_
 ·replace h8 := fun k => Bool.false_ne_true (h8.2 k)
  refine ⟨_,rfl,?_⟩
  refine Cm 1 s6 [Ml 1 0,(2,Sn),(3,vS q6 0),(9,vB true)] [(1,0,cSV s)] fun _ _ => ?_
  exact cxs (Rt ⟨q6,by rw [viewF,if_neg h8]; rfl,by rw [viewF,if_neg h8]; exact hO6,hN6,hP6⟩)
 ·replace h8 := h8.1 rfl
  refine ⟨_,rfl,?_⟩
  refine Cm 1 s6 [Ml 1 0,(2,Sn),(3,vS q6 0),(9,vB false)] [(1,0,cSV s)] fun _ _ => ?_
  refine cxs ?_
  refine ⟨_,rfl,?_⟩
  refine ⟨_,Od rfl,?_⟩
  refine ⟨_,rfl,?_⟩
  refine Cm 1 s6 [(2,Sn),(3,vS q6 0),(12,vS s.p s.x.items.length),(13,vI (s.x.items.length : Int)),(14,vI 0)] [] fun _ _ => ?_
  refine AW.loopM (fun x : Nat × Option Addr × List Itm => [(2,.slice none 0 0),(3,vS x.2.1 x.2.2.length),(12,vS s.p s.x.items.length),(13,vI (s.x.items.length : Int)),(14,vI (x.1 : Int))]) (fun x : Nat × Option Addr × List Itm => []) (fun m (x : Nat × Option Addr × List Itm) st' => m = s.x.items.length - x.1 ∧ x.1 ≤ s.x.items.length ∧ x.2.2 = upI (s.x.items.take x.1) ∧ OwnR st' 6 cItm x.2.1 x.2.2 ∧ New st.next x.2.1 ∧ Pres st st') (0,q6,[]) _ ⟨rfl,rfl,rfl,rfl,rfl,trivial⟩ trivial ⟨rfl,Nat.zero_le _,rfl,hO6,hN6,hP6⟩ ?_
  rintro m ⟨i,q,l⟩ ρ0 ff gg st' ⟨rfl,hi,hv,hO,hN,hP⟩
  simp only at hi hv hO hN
  have hll : l.length ≤ i := by rw [hv]; exact Nat.le_trans (List.length_filter_le _ _) (by rw [List.length_take]; omega)
  refine ⟨_,rfl,?_⟩
  rintro (_|_) h15
  ·replace h15 : ¬ ((i : Int) < (s.x.items.length : Int)) := of_decide_eq_false h15
   refine Cm gg st' [(2,Sn),(3,vS q l.length),(12,vS s.p s.x.items.length),(13,vI (s.x.items.length : Int)),(14,vI (i : Int)),(15,vB false)] [] fun _ _ => ?_
   refine cxs ?_
   refine cxs ?_
   have hle : l = viewF s.x := by rw [hv,viewF,if_pos h8,List.take_of_length_le (by omega)]
   exact Rt ⟨q,by rw [← hle]; rfl,by rw [← hle]; exact hO,hN,hP⟩
  ·replace h15 : (i : Int) < (s.x.items.length : Int) := of_decide_eq_true h15
   refine Cm gg st' [(2,Sn),(3,vS q l.length),(12,vS s.p s.x.items.length),(13,vI (s.x.items.length : Int)),(14,vI (i : Int)),(15,vB true)] [] fun _ _ => ?_
   refine cxs ?_
   refine op_at i (hP.rows hR.1) (by omega) rfl rfl rfl rfl rfl rfl rfl ?_
   intro x16 b16 d16 k16 hy16 hb16 hm16 hc16 ho16
   refine ⟨_,op_lda rfl rfl rfl rfl rfl hm16 hc16 rfl,?_⟩
   refine ⟨_,rfl,?_⟩
   refine ⟨_,Os rfl,?_⟩
   refine Cm (gg + 1) st' [(2,Sn),(3,vS q l.length),Ml 5 gg,(12,vS s.p s.x.items.length),(13,vI (s.x.items.length : Int)),(14,vI (i : Int)),(15,vB true)] [(5,gg,[vI x16.id,vI x16.e.inc,vI x16.e.rank,vI x16.e.beat,vI x16.e.ver,.string x16.e.data])] fun _ _ => ?_
   iterate 2 refine ⟨_,rfl,?_⟩
   refine ⟨_,Od rfl,?_⟩
   refine ⟨_,rfl,?_⟩
   rintro (_|_) h21
   ·replace h21 : ¬ (x16.e.rank = (0)) := beq_eq_false_iff_ne.1 h21
    refine Cm (gg + 1) st' [(2,Sn),(3,vS q l.length),Ml 5 gg,(12,vS s.p s.x.items.length),(13,vI (s.x.items.length : Int)),(14,vI (i : Int)),(15,vB true),(21,vB false)] [(5,gg,[vI x16.id,vI x16.e.inc,vI x16.e.rank,vI x16.e.beat,vI x16.e.ver,.string x16.e.data])] fun _ _ => ?_
    refine cxs ?_
    have ew26 : IntKind.wrap .i64 ((i : Int) + (1)) = ((i + 1 : Nat) : Int) := (wrap_i64 (by omega) (by omega)).trans (by omega)
    refine ⟨_,rfl,?_⟩
    exact ⟨(i + 1,q,l),s.x.items.length - (i + 1),by omega,⟨rfl,rfl,rfl,rfl,congrArg (Value.int .i64) ew26,trivial⟩,trivial,rfl,by simp only; omega,by rw [show upI (s.x.items.take (i + 1)) = upI (s.x.items.take i) from filt_out hy16 (decide_eq_false h21)]; exact hv,hO,hN,hP⟩
   ·replace h21 : x16.e.rank = (0) := beq_iff_eq.1 h21
    refine Cm (gg + 1) st' [(2,Sn),(3,vS q l.length),Ml 5 gg,(12,vS s.p s.x.items.length),(13,vI (s.x.items.length : Int)),(14,vI (i : Int)),(15,vB true),(21,vB true)] [(5,gg,[vI x16.id,vI x16.e.inc,vI x16.e.rank,vI x16.e.beat,vI x16.e.ver,.string x16.e.data])] fun _ _ => ?_
    refine ⟨_,Od rfl,?_⟩
    refine op_one (z := 6) (a := (x16 : Itm)) (f := cItm) rfl rfl rfl rfl rfl (by decide) rfl (Lb rfl) rfl rfl rfl ?_
    refine op_snoc (z := 6) (st := st') (f := cItm) (b := 56) (l := l) (x := x16) rfl rfl rfl rfl rfl rfl rfl (by decide) len_cItm rfl rfl rfl (by omega) (by unfold maxLen; omega) hO ?_
    intro q25 s25 hO25 hP25 hN25
    refine Cm (gg + 1) s25 [(2,Sn),(3,vS q25 (l ++ [x16]).length),Ml 5 gg,(12,vS s.p s.x.items.length),(13,vI (s.x.items.length : Int)),(14,vI (i : Int)),(15,vB true),(21,vB true)] [(5,gg,[vI x16.id,vI x16.e.inc,vI x16.e.rank,vI x16.e.beat,vI x16.e.ver,.string x16.e.data])] fun _ _ => ?_
    have ew26 : IntKind.wrap .i64 ((i : Int) + (1)) = ((i + 1 : Nat) : Int) := (wrap_i64 (by omega) (by omega)).trans (by omega)
    refine ⟨_,rfl,?_⟩
    exact ⟨(i + 1,q25,l ++ [x16]),s.x.items.length - (i + 1),by omega,⟨rfl,rfl,rfl,rfl,congrArg (Value.int .i64) ew26,trivial⟩,trivial,rfl,by simp only; omega,by rw [show upI (s.x.items.take (i + 1)) = upI (s.x.items.take i) ++ [x16] from filt_in hy16 (decide_eq_true h21),← hv],hO25,hN25.le hP.1,hP25.pres hP hN⟩
theorem ac_spec_l9Copy (p : Option Addr) (t : List RV) (st : St) (hR : RdT st p t) (hs : szOk t.length) (hr : ∀ r ∈ t,szOk r.l.length) : C 63 [vS p t.length] st (fun v s => ∃ q u,v = vS q t.length ∧ u.map (·.l) = t.map (·.l) ∧ OwnP s (pcT q u) ∧ NewP st.next (pcT q u) ∧ Pres st s) := by
 have hs : t.length ≤ 1048576 := hs
 refine AC.enterX (i := ⟨[],[],[0,2,3,4,9],[]⟩) [] Tryd.func63 rfl rfl (by kernel_rfl) (by kernel_rfl) Tryd.ntmps63 (Lb rfl) rfl ?_
 refine Cu lo0 st [(0,vS p t.length),(2,Sn)] fun _ => ?_
 refine op_nilK (z := 1) (f := cRV) rfl rfl rfl rfl Nat.one_pos rfl ?_
 intro q0 s0 hO0 hP0 hN0
 refine cxs ?_
 refine Cu lo0 s0 [(0,vS p t.length),(2,Sn),(3,vS q0 0),(4,vI 0)] fun _ => ?_
 refine AW.loop0 (fun x : List RV × Option Addr => [(0,vS p t.length),(3,vS x.2 x.1.length),(4,vI (x.1.length : Int))]) (fun m (x : List RV × Option Addr) st' => m = t.length - x.1.length ∧ x.1.length ≤ t.length ∧ x.1.map (·.l) = (t.take x.1.length).map (·.l) ∧ OwnP st' (pcT x.2 x.1) ∧ NewP st.next (pcT x.2 x.1) ∧ Pres st st') ([],q0) _ ⟨rfl,rfl,rfl,trivial⟩ rfl ⟨rfl,Nat.zero_le _,rfl,OwnP.one (own_pc hO0),NewP.cons hN0 NewP.nil,hP0⟩ ?_
 rintro m x ρ0 st' ⟨rfl,hi,hl,hO,hN,hP⟩
 iterate 2 refine ⟨_,rfl,?_⟩
 rintro (_|_) h1
 ·replace h1 : ¬ ((x.1.length : Int) < (t.length : Int)) := of_decide_eq_false h1
  refine Cu lo0 st' [(0,vS p t.length),(3,vS x.2 x.1.length),(4,vI (x.1.length : Int)),(9,vB false)] fun _ => ?_
  refine cxs ?_
  refine cxs ?_
  have hil : x.1.length = t.length := by omega
  exact Rt ⟨x.2,x.1,congrArg (vS x.2) hil,by rw [hl,hil,List.take_length],hO,hN,hP⟩
 ·replace h1 : (x.1.length : Int) < (t.length : Int) := of_decide_eq_true h1
  refine Cu lo0 st' [(0,vS p t.length),(3,vS x.2 x.1.length),(4,vI (x.1.length : Int)),(9,vB true)] fun _ => ?_
  have h1' := Int.ofNat_lt.1 h1
  have hRd := hR.pres hP
  have ⟨b1,o1,k1,r,hpe,hr1,hm1,hc1,hb1⟩ := hRd.1.atB h1'
  have hmem := List.mem_of_getElem? hr1
  have hrs : r.l.length ≤ 1048576 := hr r hmem
  obtain ⟨d1,d2,d3⟩ := split_at hr1
  refine cxs ?_
  refine op_nilK (z := 1) (f := fI) rfl rfl rfl rfl Nat.one_pos rfl ?_
  intro q1 s1 hO1 hP1 hN1
  have hm1' := (hP1.2 b1 hb1).trans hm1
  refine ⟨_,op_idx (j := (x.1.length : Int)) (n := t.length) (q := ⟨b1,o1,none⟩) rfl (congrArg (fun u => vS u t.length) hpe) rfl rfl rfl (Int.natCast_nonneg _) h1,?_⟩
  refine ⟨_,op_ldc (i := 0) (v := vS r.p r.l.length) rfl rfl rfl rfl hm1' hc1 rfl rfl,?_⟩
  refine op_app (z := 1) (st := s1) (f := fI) (b := 8) (l := []) (l2 := r.l) rfl rfl rfl rfl rfl rfl rfl Nat.one_pos fI_len rfl rfl rfl rfl (by omega) (by unfold maxLen; omega) hO1 (hP1.rows (hRd.2 r hmem)) ?_
  intro q2 s2 hO2 hPr2 hN2
  refine op_one (z := 1) (a := (⟨q2,r.l⟩ : RV)) (f := cRV) rfl (congrArg (vS q2) (Nat.zero_add _)) rfl rfl rfl Nat.one_pos rfl (Lb rfl) rfl rfl rfl ?_
  have hP2 : Pres st' s2 := hPr2.pres hP1 hN1
  have hN2 : New st'.next q2 := by
   rcases hN2 with ⟨h,_,_⟩ | ⟨_,h⟩
   ·rw [h]; exact hN1
   ·exact h.le hP1.1
  refine op_add (z := 1) (st := s2) (f := cRV) (b := 24) (l := x.1) rfl rfl rfl rfl rfl rfl rfl Nat.one_pos cRV_len rfl rfl rfl (by omega) (by unfold maxLen; omega) (hP2.ownR hO.outer) ?_
  intro q4 s4 hO4 hP4 hN4
  refine Cu lo0 s4 [(0,vS p t.length),(3,vS q4 (x.1.length + 1)),(4,vI (x.1.length : Int)),(9,vB true)] fun _ => ?_
  have hA := OwnP.renew (l := []) (m := x.1.map pcRV ++ [pcRV ⟨q2,r.l⟩]) (c := pcR 1 cRV x.2 x.1) (OwnP.join (l := pcT x.2 x.1) (m := [pcRV ⟨q2,r.l⟩]) hO hP2 (OwnP.one (own_pc hO2)) (NewP.cons hN2 NewP.nil)) hP4 (own_pc hO4) hN4
  have hA : OwnP s4 (pcT q4 (x.1 ++ [⟨q2,r.l⟩])) := by simpa [pcT] using hA
  have e11 : IntKind.wrap .i64 ((x.1.length : Int) + 1) = ((x.1.length + 1 : Nat) : Int) := (wrap_i64 (by omega) (by omega)).trans (by omega)
  refine ⟨_,rfl,?_⟩
  refine ⟨(x.1 ++ [⟨q2,r.l⟩],q4),t.length - (x.1.length + 1),by omega,⟨rfl,?_,?_,trivial⟩,rfl,?_,?_,?_,hA,?_,?_⟩
  ·rw [List.length_append]; rfl
  ·rw [List.length_append]; exact congrArg (Value.int .i64) e11
  ·rw [List.length_append]; rfl
  ·rw [List.length_append]; exact h1'
  ·rw [List.map_append,hl,List.length_append,List.length_singleton,d2,List.map_append]; rfl
  ·refine NewP.cons (hN4.le (Nat.le_trans hP.1 hP2.1)) ?_
   rw [List.map_append]
   exact NewP.app (fun c hc => hN c (List.mem_cons_of_mem _ hc)) (NewP.cons (hN2.le hP.1) NewP.nil)
  ·exact hP4.pres (hP.trans hP2) (hN _ (List.mem_cons_self ..))
def addMarks (l : List Int) (ms : List Flr) : List Int := ms.foldl (fun r m => r.set m.id.toNat (max (r.getD m.id.toNat 0) m.inc)) l
theorem addMarks_len : ∀ (ms : List Flr) (l : List Int),(addMarks l ms).length = l.length
 | [],l => rfl
 | m :: ms,l => by
  have := addMarks_len ms (l.set m.id.toNat (max (l.getD m.id.toNat 0) m.inc))
  rw [List.length_set] at this
  exact this
theorem addMarks_snoc (l : List Int) (ms : List Flr) (m : Flr) : addMarks l (ms ++ [m]) = (addMarks l ms).set m.id.toNat (max ((addMarks l ms).getD m.id.toNat 0) m.inc) := by simp [addMarks]
def putT {α : Type} (t : List α) (K : Nat) (x : α) : List α := t.take K ++ x :: t.drop (K + 1)
open Classical in
noncomputable def tableAdd (t : List (List Int)) (k : Int) (ms : List Flr) : List (List Int) :=
 if (0 ≤ k ∧ k ≤ (t.length : Int) - 1) ∧ marksOk ms ∧ 5 ≤ (t.getD k.toNat []).length then putT t k.toNat (addMarks (t.getD k.toNat []) ms) else t
theorem putT_map {u : List RV} {K : Nat} {x : RV} : (putT u K x).map (·.l) = putT (u.map (·.l)) K x.l := by simp [putT,List.map_take,List.map_drop]
theorem putT_self {α : Type} {u : List α} {K : Nat} {x : α} (h : u[K]? = some x) : putT u K x = u := (split_at h).1.symm
theorem putT_get {α : Type} {u : List α} {K : Nat} {x : α} (h : K < u.length) : (putT u K x)[K]? = some x := by
 unfold putT
 rw [List.getElem?_append_right (by rw [List.length_take]; omega),List.length_take,show K - min K u.length = 0 by omega]
 rfl
theorem putT_len {α : Type} {u : List α} {K : Nat} {x : α} (h : K < u.length) : (putT u K x).length = u.length := by
 unfold putT
 rw [List.length_append,List.length_take,List.length_cons,List.length_drop]; omega
theorem OwnP.put {st st' : St} {q : Option Addr} {u : List RV} {K : Nat} {a : Option Addr} {l l' : List Int} (h : OwnP st (pcT q (putT u K ⟨a,l⟩))) (hp : Pr a st st') (ho : OwnR st' 1 fI a l') (hl : l'.length = l.length) : OwnP st' (pcT q (putT u K ⟨a,l'⟩)) := by
 have h1 : pcT q (putT u K ⟨a,l⟩) = (pcR 1 cRV q (putT u K ⟨a,l⟩) :: (u.take K).map pcRV) ++ pcRV ⟨a,l⟩ :: (u.drop (K + 1)).map pcRV := by simp [pcT,putT]
 have h2 : pcT q (putT u K ⟨a,l'⟩) = (pcR 1 cRV q (putT u K ⟨a,l⟩) :: (u.take K).map pcRV) ++ pcRV ⟨a,l'⟩ :: (u.drop (K + 1)).map pcRV := by simp [pcT,putT,pcR,hl]
 rw [h1] at h
 rw [h2]
 exact OwnP.update h hp (own_pc ho) rfl
theorem Frs.one {α : Type} {a b : St} {z : Nat} {f : α → List Value} {p : Option Addr} {l : List α} (hO : OwnR b z f p l) (hN : New a.next p) (hP : Pres a b) : Frs a b [pcR z f p l] := ⟨OwnP.one (own_pc hO),NewP.cons hN NewP.nil,hP⟩
theorem Frs.nil (a : St) : Frs a a [] := ⟨OwnP.nil,NewP.nil,Pres.refl _⟩
theorem Frs.later {a b c : St} {l : List Pc} (h : Frs a b l) (k : Pres b c) : Frs a c l := ⟨h.1.pres k,h.2.1,h.2.2.trans k⟩
theorem Frs.sooner {a b c : St} {l : List Pc} (h : Frs b c l) (k : Pres a b) : Frs a c l := ⟨h.1,h.2.1.le k.1,k.trans h.2.2⟩
theorem OwnP.swap {st st' : St} {a c d b : List Pc} (h : OwnP st (a ++ (c ++ b))) (hF : Frs st st' d) : OwnP st' (a ++ (d ++ b)) :=
 (OwnP.joinF (OwnP.right (OwnP.front1 h)) hF.2.2 hF.1 hF.2.1).front1
theorem NewP.left {n : Nat} {a b : List Pc} (h : NewP n (a ++ b)) : NewP n a := fun c hc => h c (List.mem_append_left _ hc)
theorem NewP.right {n : Nat} {a b : List Pc} (h : NewP n (a ++ b)) : NewP n b := fun c hc => h c (List.mem_append_right _ hc)
theorem Frs.swap {s0 st st' : St} {a c d b : List Pc} (h : Frs s0 st (a ++ (c ++ b))) (hF : Frs st st' d) : Frs s0 st' (a ++ (d ++ b)) :=
 ⟨h.1.swap hF,h.2.1.left.app ((hF.2.1.le h.2.2.1).app h.2.1.right.right),h.2.2.trans hF.2.2⟩
theorem Frs.sess {s0 st st' : St} {v : NW} {q : SesV} (h : Frs s0 st (pcNW v)) (hF : Frs st st' (pcSes q)) : Frs s0 st' (pcNW { v with sess := q }) := by
 have e : ∀ x : SesV,pcNW { v with sess := x } = (pcS v.s ++ (pcIs v.t.toRV ++ (pcLog v.g ++ (pcIs v.got ++ (pcIs v.acked ++ pcTT v.seen))))) ++ (pcSes x ++ pcRis v.rises) := fun x => by simp only [List.append_assoc]
 rw [e]
 exact Frs.swap (c := pcSes v.sess) (by rw [← e]; exact h) hF
def cmpI (a b : Int) : Int := if a < b then -1 else if a > b then 1 else 0
def firstNZ : List Int → Int
 | [] => 0
 | x :: l => if x = 0 then firstNZ l else x
def cmpB (a b : ByteArray) : Int := Lib.compareBytes a.data.toList b.data.toList
def entCmp (a b : Ent) : Int := firstNZ [cmpI a.inc b.inc,cmpI a.rank b.rank,cmpI a.beat b.beat,cmpI a.ver b.ver,cmpB a.data b.data]
def entMax (a b : Ent) : Ent := if entCmp a b < 0 then b else a
theorem compareBytes_less : ∀ (a b : List UInt8),Lib.compareBytes a b = if Op.bytesLess a b = true then -1 else if (a == b) = true then 0 else 1
 | [],[] => by simp [Lib.compareBytes,Op.bytesLess]
 | [],b :: bs => by simp [Lib.compareBytes,Op.bytesLess]
 | a :: l,[] => by simp [Lib.compareBytes,Op.bytesLess]
 | a :: l,b :: bs => by
  have ih := compareBytes_less l bs
  unfold Lib.compareBytes
  by_cases h1 : a < b
  ·simp [Op.bytesLess,h1]
  ·by_cases h2 : b < a
   ·have hne : ¬ a = b := fun h => by rw [h] at h2; exact UInt8.lt_irrefl _ h2
    simp [Op.bytesLess,h1,h2,hne]
   ·have he : a = b := UInt8.le_antisymm (UInt8.not_lt.1 h2) (UInt8.not_lt.1 h1)
    subst he
    simp only [h1,if_false,ih,Op.bytesLess,beq_self_eq_true,Bool.true_and,Bool.false_or,decide_false]
    simp
theorem ac_cmpstring (a b : ByteArray) (st : St) : C 90 [.string a,.string b] st (fun v s => v = vI (cmpB a b) ∧ s = st) :=
 AC.ext Tryd.func90 rfl rfl ⟨rfl,rfl⟩
theorem ac_bytealg_CompareString (a b : ByteArray) (st : St) : C 86 [.string a,.string b] st (fun v s => v = vI (cmpB a b) ∧ s = st) := by
 refine AC.enterX (i := ⟨[],[],[0,1,4],[]⟩) [] Tryd.func86 rfl rfl (by kernel_rfl) (by kernel_rfl) Tryd.ntmps86 (Lb rfl) rfl ?_
 refine Cu lo0 st [(0,.string a),(1,.string b),(4,vI 0)] fun _ => ?_
 refine ⟨_,rfl,(ac_cmpstring a b st).mono ?_⟩
 rintro _ st ⟨rfl,rfl⟩
 exact cxs (Rt ⟨rfl,rfl⟩)
theorem ac_strings_Compare (a b : ByteArray) (st : St) : C 80 [.string a,.string b] st (fun v s => v = vI (cmpB a b) ∧ s = st) := by
 refine AC.enterX (i := ⟨[],[],[0,1,4],[]⟩) [] Tryd.func80 rfl rfl (by kernel_rfl) (by kernel_rfl) Tryd.ntmps80 (Lb rfl) rfl ?_
 refine Cu lo0 st [(0,.string a),(1,.string b),(4,vI 0)] fun _ => ?_
 refine ⟨_,rfl,(ac_bytealg_CompareString a b st).mono ?_⟩
 rintro _ st ⟨rfl,rfl⟩
 exact cxs (Rt ⟨rfl,rfl⟩)
theorem ac_cmp_isNaN (a : Int) (st : St) : C 85 [vI a] st (fun v s => v = vB false ∧ s = st) := by
 refine AC.enterX (i := ⟨[],[],[0,2],[]⟩) [] Tryd.func85 rfl rfl (by kernel_rfl) (by kernel_rfl) Tryd.ntmps85 (Lb rfl) rfl ?_
 refine Cu lo0 st [(0,vI a),(2,vB false)] fun _ => ?_
 refine ⟨_,rfl,?_⟩
 rintro (_|_) h
 rotate_left
 ·exact absurd (rfl) (bne_iff_ne.1 h)
 exact cxs (Rt ⟨rfl,rfl⟩)
theorem ac_cmp_Compare (a b : Int) (st : St) : C 79 [vI a,vI b] st (fun v s => v = vI (cmpI a b) ∧ s = st) := by
 refine AC.enterX (i := ⟨[],[],[0,1,4,5,6,11,12,13,16,19],[]⟩) [] Tryd.func79 rfl rfl (by kernel_rfl) (by kernel_rfl) Tryd.ntmps79 (Lb rfl) rfl ?_
 refine Cu lo0 st [(0,vI a),(1,vI b),(4,vI 0)] fun _ => ?_
 refine ⟨_,rfl,(ac_cmp_isNaN a st).mono ?_⟩
 rintro _ st ⟨rfl,rfl⟩
 refine Cu lo0 st [(0,vI a),(1,vI b),(4,vI 0),(5,vB false)] fun _ => ?_
 refine ⟨_,rfl,(ac_cmp_isNaN b st).mono ?_⟩
 rintro _ st ⟨rfl,rfl⟩
 refine cxs ?_
 refine Cu lo0 st [(0,vI a),(1,vI b),(4,vI 0),(6,vB false),(11,vB false)] fun _ => ?_
 refine cxs ?_
 refine Cu lo0 st [(0,vI a),(1,vI b),(4,vI 0),(13,vB false)] fun _ => ?_
 refine cxs ?_
 refine ⟨_,rfl,?_⟩
 rintro (_|_) h1
 ·replace h1 : ¬ (a < b) := of_decide_eq_false h1
  refine Cu lo0 st [(0,vI a),(1,vI b),(4,vI 0),(16,vB false)] fun _ => ?_
  refine cxs ?_
  refine ⟨_,rfl,?_⟩
  rintro (_|_) h2
  ·replace h2 : ¬ (a > b) := of_decide_eq_false h2
   refine Cu lo0 st [(4,vI 0),(19,vB false)] fun _ => ?_
   refine cxs ?_
   exact cxs (Rt ⟨congrArg vI (by rw [cmpI,if_neg h1,if_neg h2]),rfl⟩)
  ·replace h2 : a > b := of_decide_eq_true h2
   refine Cu lo0 st [(4,vI 0),(19,vB true)] fun _ => ?_
   exact cxs (Rt ⟨congrArg vI (by rw [cmpI,if_neg h1,if_pos h2]),rfl⟩)
 ·replace h1 : a < b := of_decide_eq_true h1
  refine Cu lo0 st [(0,vI a),(1,vI b),(4,vI 0),(16,vB true)] fun _ => ?_
  exact cxs (Rt ⟨congrArg vI (by rw [cmpI,if_pos h1]),rfl⟩)
theorem ac_cmp_Or (p : Option Addr) (l : List Int) (st : St) (hR : Rows st 1 fI p l) (hs : szOk l.length) : C 78 [vS p l.length] st (fun v s => v = vI (firstNZ l) ∧ s = st) := by
 have hs : l.length ≤ 1048576 := hs
 refine AC.enterX (i := ⟨[],[],[0,2,3,5,6,7,8,9,14],[]⟩) [] Tryd.func78 rfl rfl (by kernel_rfl) (by kernel_rfl) Tryd.ntmps78 (Lb rfl) rfl ?_
 refine cxs ?_
 refine Cu lo0 st [(0,vS p l.length),(2,vI 0),(3,vI 0)] fun _ => ?_
 refine ⟨_,rfl,?_⟩
 refine Cu lo0 st [(2,vI 0),(3,vI 0),(6,vS p l.length),(7,vI (l.length)),(8,vI 0)] fun _ => ?_
 refine AW.loop0 (fun i : Nat => [(3,vI 0),(6,vS p l.length),(7,vI (l.length : Int)),(8,vI (i : Int))]) (fun m (i : Nat) st' => m = l.length - i ∧ i ≤ l.length ∧ firstNZ l = firstNZ (l.drop i) ∧ st = st') 0 _ ⟨rfl,rfl,rfl,rfl,trivial⟩ rfl ⟨rfl,Nat.zero_le _,rfl,rfl⟩ ?_
 rintro m i ρ0 st' ⟨rfl,hi,hf,rfl⟩
 refine ⟨_,rfl,?_⟩
 rintro (_|_) h1
 ·replace h1 : ¬ ((i : Int) < (l.length : Int)) := of_decide_eq_false h1
  refine Cu lo0 st [(3,vI 0),(6,vS p l.length),(7,vI (l.length : Int)),(8,vI (i : Int)),(9,vB false)] fun _ => ?_
  refine cxs ?_
  refine cxs ?_
  have hil : i = l.length := by omega
  exact Rt ⟨congrArg vI (by rw [hf,hil,List.drop_length]; rfl),rfl⟩
 ·replace h1 : (i : Int) < (l.length : Int) := of_decide_eq_true h1
  refine Cu lo0 st [(3,vI 0),(6,vS p l.length),(7,vI (l.length : Int)),(8,vI (i : Int)),(9,vB true)] fun _ => ?_
  have h1' := Int.ofNat_lt.1 h1
  have ⟨b1,o1,k1,x,hpe,hx,hm1,hc1,hb1⟩ := hR.atB h1'
  rw [(split_at' hx).2.2,firstNZ] at hf
  refine cxs ?_
  refine ⟨_,op_idx (j := (i : Int)) (n := l.length) (q := ⟨b1,o1,none⟩) rfl (congrArg (fun u => vS u l.length) hpe) rfl rfl rfl (Int.natCast_nonneg _) h1,?_⟩
  refine ⟨_,op_ldc (i := 0) rfl rfl rfl rfl hm1 hc1 rfl rfl,?_⟩
  refine Cu lo0 st [(3,vI 0),(5,vI x),(6,vS p l.length),(7,vI (l.length : Int)),(8,vI (i : Int)),(9,vB true)] fun _ => ?_
  refine ⟨_,rfl,?_⟩
  rintro (_|_) h2
  ·replace h2 : x = 0 := bne_eq_false_iff_eq.1 h2
   refine Cu lo0 st [(3,vI 0),(5,vI x),(6,vS p l.length),(7,vI (l.length : Int)),(8,vI (i : Int)),(9,vB true),(14,vB false)] fun _ => ?_
   refine cxs ?_
   have e16 : IntKind.wrap .i64 ((i : Int) + 1) = ((i + 1 : Nat) : Int) := (wrap_i64 (by omega) (by omega)).trans (by omega)
   refine ⟨_,rfl,?_⟩
   exact ⟨i + 1,l.length - (i + 1),by omega,⟨rfl,rfl,rfl,congrArg (Value.int .i64) e16,trivial⟩,rfl,rfl,h1',by rw [hf,if_pos h2],rfl⟩
  ·replace h2 : ¬ (x = 0) := bne_iff_ne.1 h2
   refine Cu lo0 st [(3,vI 0),(5,vI x),(6,vS p l.length),(7,vI (l.length : Int)),(8,vI (i : Int)),(9,vB true),(14,vB true)] fun _ => ?_
   exact cxs (Rt ⟨congrArg vI (by rw [hf,if_neg h2]),rfl⟩)
theorem ac_impl_EntryCmp (a b : Ent) (st : St) : C 68 [.agg #[vI a.inc,vI a.rank,vI a.beat,vI a.ver,.string a.data],.agg #[vI b.inc,vI b.rank,vI b.beat,vI b.ver,.string b.data]] st (fun v s => v = vI (entCmp a b) ∧ Pres st s) := by
 refine AC.enterX (i := ⟨[2,3],[2,3,5,7,10,12,15,17,20,22,25,27],[0,1,2,3,4],[]⟩) [(1,[4,9,14,19],[6,8,11,13,16,18,21,23])] Tryd.func68 rfl rfl (by kernel_rfl) (by kernel_rfl) Tryd.ntmps68 (Lb rfl) rfl ?_
 iterate 2 refine ⟨_,rfl,?_⟩
 refine Cm 2 st [Ml 2 0,Ml 3 1,(4,vI 0)] [(2,0,[vI a.inc,vI a.rank,vI a.beat,vI a.ver,.string a.data]),(3,1,[vI b.inc,vI b.rank,vI b.beat,vI b.ver,.string b.data])] fun _ _ => ?_
 iterate 4 refine ⟨_,rfl,?_⟩
 refine ⟨_,rfl,(ac_cmp_Compare a.inc b.inc st).mono ?_⟩
 rintro _ st ⟨rfl,rfl⟩
 refine ⟨fun _ _ => rfl,?_⟩
 iterate 2 refine ⟨_,rfl,?_⟩
 refine ⟨ld_own rfl rfl rfl,?_⟩
 iterate 2 refine ⟨_,rfl,?_⟩
 refine ⟨ld_own rfl rfl rfl,?_⟩
 refine ⟨_,rfl,(ac_cmp_Compare a.rank b.rank st).mono ?_⟩
 rintro _ st ⟨rfl,rfl⟩
 refine ⟨fun _ _ => rfl,?_⟩
 iterate 2 refine ⟨_,rfl,?_⟩
 refine ⟨ld_own rfl rfl rfl,?_⟩
 iterate 2 refine ⟨_,rfl,?_⟩
 refine ⟨ld_own rfl rfl rfl,?_⟩
 refine ⟨_,rfl,(ac_cmp_Compare a.beat b.beat st).mono ?_⟩
 rintro _ st ⟨rfl,rfl⟩
 refine ⟨fun _ _ => rfl,?_⟩
 iterate 2 refine ⟨_,rfl,?_⟩
 refine ⟨ld_own rfl rfl rfl,?_⟩
 iterate 2 refine ⟨_,rfl,?_⟩
 refine ⟨ld_own rfl rfl rfl,?_⟩
 refine ⟨_,rfl,(ac_cmp_Compare a.ver b.ver st).mono ?_⟩
 rintro _ st ⟨rfl,rfl⟩
 refine ⟨fun _ _ => rfl,?_⟩
 iterate 2 refine ⟨_,rfl,?_⟩
 refine ⟨ld_own rfl rfl rfl,?_⟩
 iterate 2 refine ⟨_,rfl,?_⟩
 refine ⟨ld_own rfl rfl rfl,?_⟩
 refine ⟨_,rfl,(ac_strings_Compare a.data b.data st).mono ?_⟩
 rintro _ st ⟨rfl,rfl⟩
 refine op_litI (k := .i64) (l := [cmpI a.inc b.inc,cmpI a.rank b.rank,cmpI a.beat b.beat,cmpI a.ver b.ver,cmpB a.data b.data]) rfl rfl rfl rfl rfl rfl (Lb rfl) ?_
 intro q s1 hO1 hP1 hN1
 refine ⟨_,rfl,(ac_cmp_Or q [cmpI a.inc b.inc,cmpI a.rank b.rank,cmpI a.beat b.beat,cmpI a.ver b.ver,cmpB a.data b.data] s1 (hO1.rows fI_len) (show 5 ≤ 1048576 by decide)).mono ?_⟩
 rintro _ s1 ⟨rfl,rfl⟩
 exact cxs (Rt ⟨rfl,hP1⟩)
theorem ac_impl_EntryMax (a b : Ent) (st : St) : C 51 [.agg #[vI a.inc,vI a.rank,vI a.beat,vI a.ver,.string a.data],.agg #[vI b.inc,vI b.rank,vI b.beat,vI b.ver,.string b.data]] st (fun v s => ∃ e,v = .agg #[vI e.inc,vI e.rank,vI e.beat,vI e.ver,.string e.data] ∧ e = entMax a b ∧ Pres st s) := by
 refine AC.enterX (i := ⟨[2,3,4],[2,3,4],[0,1,2,3,4,8],[]⟩) [] Tryd.func51 rfl rfl (by kernel_rfl) (by kernel_rfl) Tryd.ntmps51 (Lb rfl) rfl ?_
 iterate 3 refine ⟨_,rfl,?_⟩
 refine Cm 3 st [Ml 2 0,Ml 3 1,Ml 4 2] [(2,0,[vI a.inc,vI a.rank,vI a.beat,vI a.ver,.string a.data]),(3,1,[vI b.inc,vI b.rank,vI b.beat,vI b.ver,.string b.data]),(4,2,[vI 0,vI 0,vI 0,vI 0,.string ⟨#[]⟩])] fun _ _ => ?_
 iterate 2 refine ⟨_,rfl,?_⟩
 refine ⟨_,rfl,(ac_impl_EntryCmp a b st).mono ?_⟩
 rintro _ s1 ⟨rfl,hP1⟩
 refine ⟨_,rfl,?_⟩
 rintro (_|_) h1
 ·replace h1 : ¬ (entCmp a b < 0) := of_decide_eq_false h1
  refine Cm 3 s1 [Ml 2 0,Ml 3 1,Ml 4 2,(8,vB false)] [(2,0,[vI a.inc,vI a.rank,vI a.beat,vI a.ver,.string a.data]),(3,1,[vI b.inc,vI b.rank,vI b.beat,vI b.ver,.string b.data]),(4,2,[vI 0,vI 0,vI 0,vI 0,.string ⟨#[]⟩])] fun _ _ => ?_
  refine cxs ?_
  iterate 2 refine ⟨_,rfl,?_⟩
  exact cxs (Rt ⟨a,rfl,by rw [entMax,if_neg h1],hP1⟩)
 ·replace h1 : entCmp a b < 0 := of_decide_eq_true h1
  refine Cm 3 s1 [Ml 2 0,Ml 3 1,Ml 4 2,(8,vB true)] [(2,0,[vI a.inc,vI a.rank,vI a.beat,vI a.ver,.string a.data]),(3,1,[vI b.inc,vI b.rank,vI b.beat,vI b.ver,.string b.data]),(4,2,[vI 0,vI 0,vI 0,vI 0,.string ⟨#[]⟩])] fun _ _ => ?_
  iterate 2 refine ⟨_,rfl,?_⟩
  exact cxs (Rt ⟨b,rfl,by rw [entMax,if_pos h1],hP1⟩)
theorem ac_spec_l1BitT (st : St) : C 70 [vB true] st (fun v s => v = vI 1 ∧ s = st) := by
 refine AC.enterX (i := ⟨[],[],[0,2,3],[]⟩) [] Tryd.func70 rfl rfl (by kernel_rfl) (by kernel_rfl) Tryd.ntmps70 (Lb rfl) rfl ?_
 refine cxs ?_
 refine Cu lo0 st [(2,vI 0),(3,vB true)] fun _ => ?_
 exact cxs (Rt ⟨rfl,rfl⟩)
theorem ac_spec_l1BitF (st : St) : C 70 [vB false] st (fun v s => v = vI 0 ∧ s = st) := by
 refine AC.enterX (i := ⟨[],[],[0,2,3],[]⟩) [] Tryd.func70 rfl rfl (by kernel_rfl) (by kernel_rfl) Tryd.ntmps70 (Lb rfl) rfl ?_
 refine cxs ?_
 refine Cu lo0 st [(2,vI 0),(3,vB false)] fun _ => ?_
 refine cxs ?_
 exact cxs (Rt ⟨rfl,rfl⟩)
theorem ac_spec_l2Cmp (a b : Int) (st : St) : C 69 [vI a,vI b] st (fun v s => v = vI (cmpI a b) ∧ s = st) := by
 refine AC.enterX (i := ⟨[],[],[0,1,4,7],[]⟩) [] Tryd.func69 rfl rfl (by kernel_rfl) (by kernel_rfl) Tryd.ntmps69 (Lb rfl) rfl ?_
 refine Cu lo0 st [(0,vI a),(1,vI b),(4,vI 0)] fun _ => ?_
 refine ⟨_,rfl,?_⟩
 rintro (_|_) h1
 ·replace h1 : ¬ (a < b) := of_decide_eq_false h1
  refine Cu lo0 st [(0,vI a),(1,vI b),(4,vI 0),(7,vB false)] fun _ => ?_
  refine cxs ?_
  refine ⟨_,rfl,?_⟩
  rintro (_|_) h2
  ·replace h2 : ¬ (a > b) := of_decide_eq_false h2
   refine ⟨_,rfl,(ac_spec_l1BitF st).mono ?_⟩
   rintro _ st ⟨rfl,rfl⟩
   exact cxs (Rt ⟨congrArg vI (by rw [cmpI,if_neg h1,if_neg h2]),rfl⟩)
  ·replace h2 : a > b := of_decide_eq_true h2
   refine ⟨_,rfl,(ac_spec_l1BitT st).mono ?_⟩
   rintro _ st ⟨rfl,rfl⟩
   exact cxs (Rt ⟨congrArg vI (by rw [cmpI,if_neg h1,if_pos h2]),rfl⟩)
 ·replace h1 : a < b := of_decide_eq_true h1
  refine Cu lo0 st [(0,vI a),(1,vI b),(4,vI 0),(7,vB true)] fun _ => ?_
  exact cxs (Rt ⟨congrArg vI (by rw [cmpI,if_pos h1]),rfl⟩)
abbrev four (a b : Ent) : List Int := [cmpI a.inc b.inc,cmpI a.rank b.rank,cmpI a.beat b.beat,cmpI a.ver b.ver]
theorem ac_spec_EntryCmp (a b : Ent) (st : St) : C 54 [.agg #[vI a.inc,vI a.rank,vI a.beat,vI a.ver,.string a.data],.agg #[vI b.inc,vI b.rank,vI b.beat,vI b.ver,.string b.data]] st (fun v s => v = vI (entCmp a b) ∧ Pres st s) := by
 refine AC.enterX (i := ⟨[2,3],[2,3,7,9,12,14,17,19,22,24,43,45,48,50],[0,1,2,3,4,5,6,31,38,47],[]⟩) [(1,[4,9,14],[6,8,11,13,16,18])] Tryd.func54 rfl rfl (by kernel_rfl) (by kernel_rfl) Tryd.ntmps54 (Lb rfl) rfl ?_
 iterate 2 refine ⟨_,rfl,?_⟩
 refine Cm 2 st [Ml 2 0,Ml 3 1,(4,vI 0)] [(2,0,[vI a.inc,vI a.rank,vI a.beat,vI a.ver,.string a.data]),(3,1,[vI b.inc,vI b.rank,vI b.beat,vI b.ver,.string b.data])] fun _ _ => ?_
 iterate 4 refine ⟨_,rfl,?_⟩
 refine ⟨_,rfl,(ac_spec_l2Cmp a.inc b.inc st).mono ?_⟩
 rintro _ st ⟨rfl,rfl⟩
 refine ⟨fun _ _ => rfl,?_⟩
 iterate 2 refine ⟨_,rfl,?_⟩
 refine ⟨ld_own rfl rfl rfl,?_⟩
 iterate 2 refine ⟨_,rfl,?_⟩
 refine ⟨ld_own rfl rfl rfl,?_⟩
 refine ⟨_,rfl,(ac_spec_l2Cmp a.rank b.rank st).mono ?_⟩
 rintro _ st ⟨rfl,rfl⟩
 refine ⟨fun _ _ => rfl,?_⟩
 iterate 2 refine ⟨_,rfl,?_⟩
 refine ⟨ld_own rfl rfl rfl,?_⟩
 iterate 2 refine ⟨_,rfl,?_⟩
 refine ⟨ld_own rfl rfl rfl,?_⟩
 refine ⟨_,rfl,(ac_spec_l2Cmp a.beat b.beat st).mono ?_⟩
 rintro _ st ⟨rfl,rfl⟩
 refine ⟨fun _ _ => rfl,?_⟩
 iterate 2 refine ⟨_,rfl,?_⟩
 refine ⟨ld_own rfl rfl rfl,?_⟩
 iterate 2 refine ⟨_,rfl,?_⟩
 refine ⟨ld_own rfl rfl rfl,?_⟩
 refine ⟨_,rfl,(ac_spec_l2Cmp a.ver b.ver st).mono ?_⟩
 rintro _ st ⟨rfl,rfl⟩
 refine op_litI (k := .i64) (l := four a b) rfl rfl rfl rfl rfl rfl (Lb rfl) ?_
 intro q s1 hO1 hP1 hN1
 refine cxs ?_
 refine Cm 2 s1 [Ml 2 0,Ml 3 1,(4,vI 0),(5,vS q 4),(6,vI 0)] [(2,0,[vI a.inc,vI a.rank,vI a.beat,vI a.ver,.string a.data]),(3,1,[vI b.inc,vI b.rank,vI b.beat,vI b.ver,.string b.data])] fun _ _ => ?_
 refine AW.loopM (fun i : Nat => [(2,vL 2 0 (0)),(3,vL 3 0 (1)),(5,vS q 4),(6,vI (i : Int))]) (fun i : Nat => [(2,0,[vI a.inc,vI a.rank,vI a.beat,vI a.ver,.string a.data]),(3,1,[vI b.inc,vI b.rank,vI b.beat,vI b.ver,.string b.data])]) (fun m (i : Nat) st' => m = 4 - i ∧ i ≤ 4 ∧ entCmp a b = firstNZ ((four a b).drop i ++ [cmpB a.data b.data]) ∧ s1 = st') 0 _ ⟨rfl,rfl,rfl,rfl,trivial⟩ ⟨rfl,rfl,trivial⟩ ⟨rfl,Nat.zero_le _,rfl,rfl⟩ ?_
 rintro m i ρ0 ff gg st' ⟨rfl,hi,hf,rfl⟩
 iterate 2 refine ⟨_,rfl,?_⟩
 rintro (_|_) h1
 ·replace h1 : ¬ ((i : Int) < 4) := of_decide_eq_false h1
  refine Cm gg s1 [Ml 2 0,Ml 3 1,(5,vS q 4),(6,vI (i : Int)),(31,vB false)] [(2,0,[vI a.inc,vI a.rank,vI a.beat,vI a.ver,.string a.data]),(3,1,[vI b.inc,vI b.rank,vI b.beat,vI b.ver,.string b.data])] fun _ _ => ?_
  have hil : i = 4 := by omega
  have hf : entCmp a b = firstNZ [cmpB a.data b.data] := by rw [hf,hil]; rfl
  have hf : entCmp a b = cmpB a.data b.data := by rw [hf,firstNZ,firstNZ]; split <;> simp [*]
  have hcb := compareBytes_less a.data.data.toList b.data.data.toList
  have hcb : cmpB a.data b.data = if Op.bytesLess a.data.toList b.data.toList = true then -1 else if (a.data.toList == b.data.toList) = true then 0 else 1 := by rw [ByteArray.toList_eq,ByteArray.toList_eq]; exact hcb
  refine cxs ?_
  refine ⟨_,rfl,?_⟩
  refine ⟨_,Od rfl,?_⟩
  refine ⟨_,rfl,?_⟩
  refine ⟨_,Od rfl,?_⟩
  refine ⟨_,rfl,?_⟩
  rintro (_|_) h3
  ·refine Cm gg s1 [Ml 2 0,Ml 3 1,(47,vB false)] [(2,0,[vI a.inc,vI a.rank,vI a.beat,vI a.ver,.string a.data]),(3,1,[vI b.inc,vI b.rank,vI b.beat,vI b.ver,.string b.data])] fun _ _ => ?_
   refine cxs ?_
   refine ⟨_,rfl,?_⟩
   refine ⟨_,Od rfl,?_⟩
   refine ⟨_,rfl,?_⟩
   refine ⟨_,Od rfl,?_⟩
   refine ⟨_,rfl,?_⟩
   rintro (_|_) h4
   ·refine ⟨_,rfl,(ac_spec_l1BitF s1).mono ?_⟩
    rintro _ s1 ⟨rfl,rfl⟩
    refine cxs ?_
    have h3 : Op.bytesLess a.data.toList b.data.toList = false := h3
    have h4 : (!(Op.bytesLess a.data.toList b.data.toList || a.data.toList == b.data.toList)) = false := h4
    have h5 : (a.data.toList == b.data.toList) = true := by rw [h3,Bool.false_or] at h4; simpa using h4
    exact Rt ⟨congrArg vI (by rw [hf,hcb,h3,h5]; rfl),hP1⟩
   ·refine ⟨_,rfl,(ac_spec_l1BitT s1).mono ?_⟩
    rintro _ s1 ⟨rfl,rfl⟩
    refine cxs ?_
    have h3 : Op.bytesLess a.data.toList b.data.toList = false := h3
    have h4 : (!(Op.bytesLess a.data.toList b.data.toList || a.data.toList == b.data.toList)) = true := h4
    have h5 : (a.data.toList == b.data.toList) = false := by rw [h3,Bool.false_or] at h4; simpa using h4
    exact Rt ⟨congrArg vI (by rw [hf,hcb,h3,h5]; rfl),hP1⟩
  ·refine Cm gg s1 [Ml 2 0,Ml 3 1,(47,vB true)] [(2,0,[vI a.inc,vI a.rank,vI a.beat,vI a.ver,.string a.data]),(3,1,[vI b.inc,vI b.rank,vI b.beat,vI b.ver,.string b.data])] fun _ _ => ?_
   refine cxs ?_
   have h3 : Op.bytesLess a.data.toList b.data.toList = true := h3
   exact Rt ⟨congrArg vI (by rw [hf,hcb,if_pos h3]),hP1⟩
 ·replace h1 : (i : Int) < 4 := of_decide_eq_true h1
  refine Cm gg s1 [Ml 2 0,Ml 3 1,(5,vS q 4),(6,vI (i : Int)),(31,vB true)] [(2,0,[vI a.inc,vI a.rank,vI a.beat,vI a.ver,.string a.data]),(3,1,[vI b.inc,vI b.rank,vI b.beat,vI b.ver,.string b.data])] fun _ _ => ?_
  have h1' : i < (four a b).length := by simp only [List.length_cons,List.length_nil]; omega
  have ⟨b1,o1,k1,x,hpe,hx,hm1,hc1,hb1⟩ := (hO1.rows fI_len).atB h1'
  rw [(split_at' hx).2.2,List.cons_append,firstNZ] at hf
  refine cxs ?_
  refine ⟨_,op_idx (j := (i : Int)) (n := 4) (q := ⟨b1,o1,none⟩) rfl (congrArg (fun u => vS u 4) hpe) rfl rfl rfl (Int.natCast_nonneg _) h1,?_⟩
  refine ⟨_,op_ldc (i := 0) rfl rfl rfl rfl hm1 hc1 rfl rfl,?_⟩
  refine ⟨_,rfl,?_⟩
  rintro (_|_) h2
  ·replace h2 : x = 0 := bne_eq_false_iff_eq.1 h2
   refine Cm gg s1 [Ml 2 0,Ml 3 1,(5,vS q 4),(6,vI (i : Int)),(31,vB true),(38,vB false)] [(2,0,[vI a.inc,vI a.rank,vI a.beat,vI a.ver,.string a.data]),(3,1,[vI b.inc,vI b.rank,vI b.beat,vI b.ver,.string b.data])] fun _ _ => ?_
   refine cxs ?_
   have e33 : IntKind.wrap .i64 ((i : Int) + 1) = ((i + 1 : Nat) : Int) := (wrap_i64 (by omega) (by omega)).trans (by omega)
   refine ⟨_,rfl,?_⟩
   exact ⟨i + 1,4 - (i + 1),by omega,⟨rfl,rfl,rfl,congrArg (Value.int .i64) e33,trivial⟩,⟨rfl,rfl,trivial⟩,rfl,by omega,by rw [hf,if_pos h2],rfl⟩
  ·replace h2 : ¬ (x = 0) := bne_iff_ne.1 h2
   refine Cm gg s1 [Ml 2 0,Ml 3 1,(5,vS q 4),(6,vI (i : Int)),(31,vB true),(38,vB true)] [(2,0,[vI a.inc,vI a.rank,vI a.beat,vI a.ver,.string a.data]),(3,1,[vI b.inc,vI b.rank,vI b.beat,vI b.ver,.string b.data])] fun _ _ => ?_
   refine ⟨_,op_idx (j := (i : Int)) (n := 4) (q := ⟨b1,o1,none⟩) rfl (congrArg (fun u => vS u 4) hpe) rfl rfl rfl (Int.natCast_nonneg _) h1,?_⟩
   refine ⟨_,op_ldc (i := 0) rfl rfl rfl rfl hm1 hc1 rfl rfl,?_⟩
   exact cxs (Rt ⟨congrArg vI (by rw [hf,if_neg h2]),hP1⟩)
abbrev topF (a b : Sta) (id : Int) : Int := max (floorOf a.floors id) (floorOf b.floors id)
abbrev topE (a b : Sta) (id : Int) : Ent := entMax (entP a.items id).1 (entP b.items id).1
def joinF (a b : Sta) (n : Nat) : Sta := ⟨(List.range n).filterMap fun (j : Nat) => if (topE a b (j : Int)).inc > topF a b (j : Int) then some ⟨(j : Int),topE a b (j : Int)⟩ else none,
 (List.range n).filterMap fun (j : Nat) => if topF a b (j : Int) > 0 then some ⟨(j : Int),topF a b (j : Int)⟩ else none⟩
theorem joinF_items (a b : Sta) (n : Nat) : (joinF a b (n + 1)).items = if (topE a b (n : Int)).inc > topF a b (n : Int) then (joinF a b n).items ++ [⟨(n : Int),topE a b (n : Int)⟩] else (joinF a b n).items := by
 unfold joinF
 simp only [List.range_succ,List.filterMap_append]
 split <;> simp [*]
theorem joinF_floors (a b : Sta) (n : Nat) : (joinF a b (n + 1)).floors = if topF a b (n : Int) > 0 then (joinF a b n).floors ++ [⟨(n : Int),topF a b (n : Int)⟩] else (joinF a b n).floors := by
 unfold joinF
 simp only [List.range_succ,List.filterMap_append]
 split <;> simp [*]
theorem joinF_len (a b : Sta) : ∀ n,(joinF a b n).items.length ≤ n ∧ (joinF a b n).floors.length ≤ n
 | 0 => by simp [joinF]
 | n + 1 => by
  have := joinF_len a b n
  rw [joinF_items,joinF_floors]
  refine ⟨?_,?_⟩ <;> split <;> (try rw [List.length_append,List.length_singleton]) <;> omega
theorem pcS_items {st st' : St} {q1 q2 q : Option Addr} {l1 l1' : List Itm} {l2 : List Flr} (h : OwnP st [pcR 6 cItm q1 l1,pcR 2 cFlr q2 l2]) (hp : Pr q1 st st') (ho : OwnR st' 6 cItm q l1') (hn : New st.next q) : OwnP st' [pcR 6 cItm q l1',pcR 2 cFlr q2 l2] :=
 OwnP.renew (l := []) (m := [pcR 2 cFlr q2 l2]) h hp (own_pc ho) hn
theorem pcS_floors {st st' : St} {q1 q2 q : Option Addr} {l1 : List Itm} {l2 l2' : List Flr} (h : OwnP st [pcR 6 cItm q1 l1,pcR 2 cFlr q2 l2]) (hp : Pr q2 st st') (ho : OwnR st' 2 cFlr q l2') (hn : New st.next q) : OwnP st' [pcR 6 cItm q1 l1,pcR 2 cFlr q l2'] :=
 OwnP.renew (l := [pcR 6 cItm q1 l1]) (m := []) h hp (own_pc ho) hn
theorem pcS_i {st : St} {q1 q2 : Option Addr} {l1 : List Itm} {l2 : List Flr} (h : OwnP st [pcR 6 cItm q1 l1,pcR 2 cFlr q2 l2]) : OwnR st 6 cItm q1 l1 := pc_own (by decide) len_cItm (h.1 _ (List.mem_cons_self ..))
theorem pcS_f {st : St} {q1 q2 : Option Addr} {l1 : List Itm} {l2 : List Flr} (h : OwnP st [pcR 6 cItm q1 l1,pcR 2 cFlr q2 l2]) : OwnR st 2 cFlr q2 l2 := pc_own (by decide) len_cFlr (h.1 _ (List.mem_cons_of_mem _ (List.mem_cons_self ..)))
theorem ac_impl_stateJoin (A B : SV) (st : St) (hA : RdS st A) (hB : RdS st B) (ha : bigS A.x) (hb : bigS B.x) : C 26 [.agg #[vS A.p A.x.items.length,vS A.q A.x.floors.length],.agg #[vS B.p B.x.items.length,vS B.q B.x.floors.length]] st (fun v s => ∃ u : SV,v = .agg #[vS u.p u.x.items.length,vS u.q u.x.floors.length] ∧ u.x = joinF A.x B.x 5 ∧ OwnP s (pcS u) ∧ NewP st.next (pcS u) ∧ Pres st s) := by
 refine AC.enterX (i := ⟨[2,3,4,5,7,9,11],[2,3,4,5,7,9,11,40,44,51,54,61],[0,1,2,3,4,5,6,7,9,11,12,15,43,53],[]⟩) [(8,[2],[3])] Tryd.func26 rfl rfl (by kernel_rfl) (by kernel_rfl) Tryd.ntmps26 (Lb rfl) rfl ?_
 iterate 3 refine ⟨_,rfl,?_⟩
 refine Cm 3 st [Ml 2 0,Ml 3 1,Ml 4 2] [(2,0,cSV A),(3,1,cSV B),(4,2,[Sn,Sn])] fun _ _ => ?_
 iterate 3 refine ⟨_,rfl,?_⟩
 refine cxs ?_
 refine Cm 4 st [Ml 2 0,Ml 3 1,Ml 4 2,Ml 5 3,(6,vI 0)] [(2,0,cSV A),(3,1,cSV B),(4,2,[Sn,Sn]),(5,3,[Sn,Sn])] fun _ _ => ?_
 refine AW.loopM (fun x : Nat × Option Addr × Option Addr => [(2,vL 2 0 (0)),(3,vL 3 0 (1)),(4,vL 4 0 (2)),(5,vL 5 0 (3)),(6,vI (x.1 : Int))]) (fun x : Nat × Option Addr × Option Addr => [(2,0,[vS A.p A.x.items.length,vS A.q A.x.floors.length]),(3,1,[vS B.p B.x.items.length,vS B.q B.x.floors.length]),(4,2,[.slice none 0 0,.slice none 0 0]),(5,3,[vS x.2.1 (joinF A.x B.x x.1).items.length,vS x.2.2 (joinF A.x B.x x.1).floors.length])]) (fun m (x : Nat × Option Addr × Option Addr) st' => m = 5 - x.1 ∧ x.1 ≤ 5 ∧ OwnP st' [pcR 6 cItm x.2.1 (joinF A.x B.x x.1).items,pcR 2 cFlr x.2.2 (joinF A.x B.x x.1).floors] ∧ New st.next x.2.1 ∧ New st.next x.2.2 ∧ Pres st st') (0,none,none) _ ⟨rfl,rfl,rfl,rfl,rfl,trivial⟩ ⟨rfl,rfl,rfl,rfl,trivial⟩ ⟨rfl,Nat.zero_le _,pcS_nil,New.none,New.none,Pres.refl _⟩ ?_
 rintro m ⟨i,q1,q2⟩ ρ0 ff gg st' ⟨rfl,hi,hO,hN1,hN2,hP⟩
 simp only at hi hO hN1 hN2
 have hJ := joinF_len A.x B.x i
 have hJi := joinF_items A.x B.x i
 have hJf := joinF_floors A.x B.x i
 refine ⟨_,rfl,?_⟩
 rintro (_|_) h1
 ·replace h1 : ¬ ((i : Int) < 5) := of_decide_eq_false h1
  refine Cm gg st' [Ml 2 0,Ml 3 1,Ml 4 2,Ml 5 3,(6,vI (i : Int)),(15,vB false)] [(2,0,cSV A),(3,1,cSV B),(4,2,[Sn,Sn]),(5,3,[vS q1 (joinF A.x B.x i).items.length,vS q2 (joinF A.x B.x i).floors.length])] fun _ _ => ?_
  refine cxs ?_
  refine ⟨_,Od rfl,?_⟩
  refine ⟨_,Os rfl,?_⟩
  refine cxs ?_
  have hil : i = 5 := by omega
  subst hil
  exact Rt ⟨⟨q1,q2,joinF A.x B.x 5⟩,rfl,rfl,hO,NewP.cons hN1 (NewP.cons hN2 NewP.nil),hP⟩
 ·replace h1 : (i : Int) < 5 := of_decide_eq_true h1
  refine Cm gg st' [Ml 2 0,Ml 3 1,Ml 4 2,Ml 5 3,(6,vI (i : Int)),(15,vB true)] [(2,0,cSV A),(3,1,cSV B),(4,2,[Sn,Sn]),(5,3,[vS q1 (joinF A.x B.x i).items.length,vS q2 (joinF A.x B.x i).floors.length])] fun _ _ => ?_
  refine cxs ?_
  refine ⟨_,Od rfl,?_⟩
  refine ⟨_,rfl,(ac_impl_EntryOf A i st' (hA.pres hP) ha).mono ?_⟩
  rintro _ st' ⟨e1,b1,rfl,he1,rfl⟩
  iterate 3 refine ⟨_,rfl,?_⟩
  refine ⟨_,Os rfl,?_⟩
  refine Cm (gg + 1) st' [Ml 2 0,Ml 3 1,Ml 4 2,Ml 5 3,(6,vI (i : Int)),Ml 7 gg,(15,vB true)] [(2,0,cSV A),(3,1,cSV B),(4,2,[Sn,Sn]),(5,3,[vS q1 (joinF A.x B.x i).items.length,vS q2 (joinF A.x B.x i).floors.length]),(7,gg,[vI e1.inc,vI e1.rank,vI e1.beat,vI e1.ver,.string e1.data])] fun _ _ => ?_
  refine ⟨_,Od rfl,?_⟩
  refine ⟨_,rfl,(ac_impl_EntryOf B i st' (hB.pres hP) hb).mono ?_⟩
  rintro _ st' ⟨e2,b2,rfl,he2,rfl⟩
  iterate 3 refine ⟨_,rfl,?_⟩
  refine ⟨_,Os rfl,?_⟩
  refine Cm (gg + 2) st' [Ml 2 0,Ml 3 1,Ml 4 2,Ml 5 3,(6,vI (i : Int)),Ml 7 gg,(9,vL 9 0 (gg + 1)),(15,vB true)] [(2,0,cSV A),(3,1,cSV B),(4,2,[Sn,Sn]),(5,3,[vS q1 (joinF A.x B.x i).items.length,vS q2 (joinF A.x B.x i).floors.length]),(7,gg,[vI e1.inc,vI e1.rank,vI e1.beat,vI e1.ver,.string e1.data]),(9,gg + 1,[vI e2.inc,vI e2.rank,vI e2.beat,vI e2.ver,.string e2.data])] fun _ _ => ?_
  refine ⟨_,Od rfl,?_⟩
  refine ⟨_,Od rfl,?_⟩
  refine ⟨_,rfl,(ac_impl_EntryMax e1 e2 st').mono ?_⟩
  rintro _ s1 ⟨e,rfl,hem,hP1⟩
  refine ⟨_,rfl,?_⟩
  refine ⟨_,Os rfl,?_⟩
  refine Cm (gg + 3) s1 [Ml 2 0,Ml 3 1,Ml 4 2,Ml 5 3,(6,vI (i : Int)),Ml 7 gg,(9,vL 9 0 (gg + 1)),(11,vL 11 0 (gg + 2)),(15,vB true)] [(2,0,cSV A),(3,1,cSV B),(4,2,[Sn,Sn]),(5,3,[vS q1 (joinF A.x B.x i).items.length,vS q2 (joinF A.x B.x i).floors.length]),(7,gg,[vI e1.inc,vI e1.rank,vI e1.beat,vI e1.ver,.string e1.data]),(9,gg + 1,[vI e2.inc,vI e2.rank,vI e2.beat,vI e2.ver,.string e2.data]),(11,gg + 2,[vI e.inc,vI e.rank,vI e.beat,vI e.ver,.string e.data])] fun _ _ => ?_
  have hE : topE A.x B.x (i : Int) = e := by rw [topE,← he1,← he2,hem]
  have hO1 := hO.pres hP1
  have hP' := hP.trans hP1
  rw [hE] at hJi
  refine ⟨_,Od rfl,?_⟩
  refine ⟨_,rfl,(ac_impl_FloorOf A i s1 (hA.pres hP') ha).mono ?_⟩
  rintro _ s1 ⟨rfl,rfl⟩
  refine ⟨fun _ _ => rfl,?_⟩
  refine ⟨_,Od rfl,?_⟩
  refine ⟨ld_own rfl rfl rfl,?_⟩
  refine ⟨_,rfl,(ac_impl_FloorOf B i s1 (hB.pres hP') hb).mono ?_⟩
  rintro _ s1 ⟨rfl,rfl⟩
  refine ⟨.int .i64 (max (floorOf A.x.floors (i : Int)) (floorOf B.x.floors (i : Int))),ammL_max _ _,?_⟩
  refine Cm (gg + 3) s1 [Ml 2 0,Ml 3 1,Ml 4 2,Ml 5 3,(6,vI (i : Int)),Ml 7 gg,(9,vL 9 0 (gg + 1)),(11,vL 11 0 (gg + 2)),(12,vI (topF A.x B.x (i : Int))),(15,vB true)] [(2,0,cSV A),(3,1,cSV B),(4,2,[Sn,Sn]),(5,3,[vS q1 (joinF A.x B.x i).items.length,vS q2 (joinF A.x B.x i).floors.length]),(7,gg,[vI e1.inc,vI e1.rank,vI e1.beat,vI e1.ver,.string e1.data]),(9,gg + 1,[vI e2.inc,vI e2.rank,vI e2.beat,vI e2.ver,.string e2.data]),(11,gg + 2,[vI e.inc,vI e.rank,vI e.beat,vI e.ver,.string e.data])] fun _ _ => ?_
  refine ⟨_,rfl,?_⟩
  refine ⟨_,Od rfl,?_⟩
  refine ⟨_,rfl,?_⟩
  rintro (_|_) h2
  ·replace h2 : ¬ (e.inc > topF A.x B.x (i : Int)) := of_decide_eq_false h2
   refine Cm (gg + 3) s1 [Ml 2 0,Ml 3 1,Ml 4 2,Ml 5 3,(6,vI (i : Int)),Ml 7 gg,(9,vL 9 0 (gg + 1)),(11,vL 11 0 (gg + 2)),(12,vI (topF A.x B.x (i : Int))),(15,vB true),(43,vB false)] [(2,0,cSV A),(3,1,cSV B),(4,2,[Sn,Sn]),(5,3,[vS q1 (joinF A.x B.x i).items.length,vS q2 (joinF A.x B.x i).floors.length]),(7,gg,[vI e1.inc,vI e1.rank,vI e1.beat,vI e1.ver,.string e1.data]),(9,gg + 1,[vI e2.inc,vI e2.rank,vI e2.beat,vI e2.ver,.string e2.data]),(11,gg + 2,[vI e.inc,vI e.rank,vI e.beat,vI e.ver,.string e.data])] fun _ _ => ?_
   refine cxs ?_
   refine ⟨_,rfl,?_⟩
   rintro (_|_) h3
   ·replace h3 : ¬ (topF A.x B.x (i : Int) > 0) := of_decide_eq_false h3
    refine Cm (gg + 3) s1 [Ml 2 0,Ml 3 1,Ml 4 2,Ml 5 3,(6,vI (i : Int)),Ml 7 gg,(9,vL 9 0 (gg + 1)),(11,vL 11 0 (gg + 2)),(12,vI (topF A.x B.x (i : Int))),(15,vB true),(43,vB false),(53,vB false)] [(2,0,cSV A),(3,1,cSV B),(4,2,[Sn,Sn]),(5,3,[vS q1 (joinF A.x B.x i).items.length,vS q2 (joinF A.x B.x i).floors.length]),(7,gg,[vI e1.inc,vI e1.rank,vI e1.beat,vI e1.ver,.string e1.data]),(9,gg + 1,[vI e2.inc,vI e2.rank,vI e2.beat,vI e2.ver,.string e2.data]),(11,gg + 2,[vI e.inc,vI e.rank,vI e.beat,vI e.ver,.string e.data])] fun _ _ => ?_
    refine cxs ?_
    have e17 : IntKind.wrap .i64 ((i : Int) + 1) = ((i + 1 : Nat) : Int) := (wrap_i64 (by omega) (by omega)).trans (by omega)
    refine ⟨_,rfl,?_⟩
    rw [if_neg h2] at hJi
    rw [if_neg h3] at hJf
    exact ⟨(i + 1,q1,q2),5 - (i + 1),by omega,⟨rfl,rfl,rfl,rfl,congrArg (Value.int .i64) e17,trivial⟩,⟨rfl,rfl,rfl,(show some (3,[vS q1 (joinF A.x B.x i).items.length,vS q2 (joinF A.x B.x i).floors.length]) = some (3,[vS q1 (joinF A.x B.x (i + 1)).items.length,vS q2 (joinF A.x B.x (i + 1)).floors.length]) by rw [hJi,hJf]),trivial⟩,rfl,by omega,by rw [hJi,hJf]; exact hO1,hN1,hN2,hP'⟩
   ·replace h3 : topF A.x B.x (i : Int) > 0 := of_decide_eq_true h3
    refine Cm (gg + 3) s1 [Ml 2 0,Ml 3 1,Ml 4 2,Ml 5 3,(6,vI (i : Int)),Ml 7 gg,(9,vL 9 0 (gg + 1)),(11,vL 11 0 (gg + 2)),(12,vI (topF A.x B.x (i : Int))),(15,vB true),(43,vB false),(53,vB true)] [(2,0,cSV A),(3,1,cSV B),(4,2,[Sn,Sn]),(5,3,[vS q1 (joinF A.x B.x i).items.length,vS q2 (joinF A.x B.x i).floors.length]),(7,gg,[vI e1.inc,vI e1.rank,vI e1.beat,vI e1.ver,.string e1.data]),(9,gg + 1,[vI e2.inc,vI e2.rank,vI e2.beat,vI e2.ver,.string e2.data]),(11,gg + 2,[vI e.inc,vI e.rank,vI e.beat,vI e.ver,.string e.data])] fun _ _ => ?_
    refine ⟨_,rfl,?_⟩
    refine ⟨_,Od rfl,?_⟩
    refine ⟨_,rfl,?_⟩
    refine op_one (z := 2) (a := (⟨(i : Int),topF A.x B.x (i : Int)⟩ : Flr)) (f := cFlr) rfl rfl rfl rfl rfl (by decide) rfl (Lb rfl) rfl rfl rfl ?_
    refine op_add (z := 2) (st := s1) (f := cFlr) (b := 16) (l := (joinF A.x B.x i).floors) rfl rfl rfl rfl rfl rfl rfl (by decide) len_cFlr rfl rfl rfl (by omega) (by unfold maxLen; omega) (pcS_f hO1) ?_
    intro q6 s6 hO6 hP6 hN6
    refine ⟨_,rfl,?_⟩
    refine ⟨_,Os rfl,?_⟩
    refine Cm (gg + 3) s6 [Ml 2 0,Ml 3 1,Ml 4 2,Ml 5 3,(6,vI (i : Int)),Ml 7 gg,(9,vL 9 0 (gg + 1)),(11,vL 11 0 (gg + 2)),(12,vI (topF A.x B.x (i : Int))),(15,vB true),(43,vB false),(53,vB true)] [(2,0,cSV A),(3,1,cSV B),(4,2,[Sn,Sn]),(5,3,[vS q1 (joinF A.x B.x i).items.length,vS q6 ((joinF A.x B.x i).floors.length + 1)]),(7,gg,[vI e1.inc,vI e1.rank,vI e1.beat,vI e1.ver,.string e1.data]),(9,gg + 1,[vI e2.inc,vI e2.rank,vI e2.beat,vI e2.ver,.string e2.data]),(11,gg + 2,[vI e.inc,vI e.rank,vI e.beat,vI e.ver,.string e.data])] fun _ _ => ?_
    have e17 : IntKind.wrap .i64 ((i : Int) + 1) = ((i + 1 : Nat) : Int) := (wrap_i64 (by omega) (by omega)).trans (by omega)
    refine ⟨_,rfl,?_⟩
    rw [if_neg h2] at hJi
    rw [if_pos h3] at hJf
    exact ⟨(i + 1,q1,q6),5 - (i + 1),by omega,⟨rfl,rfl,rfl,rfl,congrArg (Value.int .i64) e17,trivial⟩,⟨rfl,rfl,rfl,(show some (3,[vS q1 (joinF A.x B.x i).items.length,vS q6 ((joinF A.x B.x i).floors.length + 1)]) = some (3,[vS q1 (joinF A.x B.x (i + 1)).items.length,vS q6 (joinF A.x B.x (i + 1)).floors.length]) by rw [hJi,hJf,List.length_append]; rfl),trivial⟩,rfl,by omega,by rw [hJi,hJf]; exact pcS_floors hO1 hP6 hO6 hN6,hN1,hN6.le hP'.1,hP6.pres hP' hN2⟩
  ·replace h2 : e.inc > topF A.x B.x (i : Int) := of_decide_eq_true h2
   refine Cm (gg + 3) s1 [Ml 2 0,Ml 3 1,Ml 4 2,Ml 5 3,(6,vI (i : Int)),Ml 7 gg,(9,vL 9 0 (gg + 1)),(11,vL 11 0 (gg + 2)),(12,vI (topF A.x B.x (i : Int))),(15,vB true),(43,vB true)] [(2,0,cSV A),(3,1,cSV B),(4,2,[Sn,Sn]),(5,3,[vS q1 (joinF A.x B.x i).items.length,vS q2 (joinF A.x B.x i).floors.length]),(7,gg,[vI e1.inc,vI e1.rank,vI e1.beat,vI e1.ver,.string e1.data]),(9,gg + 1,[vI e2.inc,vI e2.rank,vI e2.beat,vI e2.ver,.string e2.data]),(11,gg + 2,[vI e.inc,vI e.rank,vI e.beat,vI e.ver,.string e.data])] fun _ _ => ?_
   refine ⟨_,rfl,?_⟩
   refine ⟨_,Od rfl,?_⟩
   refine ⟨_,Od rfl,?_⟩
   refine ⟨_,rfl,?_⟩
   refine op_one (z := 6) (a := (⟨(i : Int),e⟩ : Itm)) (f := cItm) rfl rfl rfl rfl rfl (by decide) rfl (Lb rfl) rfl rfl rfl ?_
   refine op_add (z := 6) (st := s1) (f := cItm) (b := 56) (l := (joinF A.x B.x i).items) rfl rfl rfl rfl rfl rfl rfl (by decide) len_cItm rfl rfl rfl (by omega) (by unfold maxLen; omega) (pcS_i hO1) ?_
   intro q4 s4 hO4 hP4 hN4
   refine ⟨_,rfl,?_⟩
   refine ⟨_,Os rfl,?_⟩
   refine Cm (gg + 3) s4 [Ml 2 0,Ml 3 1,Ml 4 2,Ml 5 3,(6,vI (i : Int)),Ml 7 gg,(9,vL 9 0 (gg + 1)),(11,vL 11 0 (gg + 2)),(12,vI (topF A.x B.x (i : Int))),(15,vB true),(43,vB true)] [(2,0,cSV A),(3,1,cSV B),(4,2,[Sn,Sn]),(5,3,[vS q4 ((joinF A.x B.x i).items.length + 1),vS q2 (joinF A.x B.x i).floors.length]),(7,gg,[vI e1.inc,vI e1.rank,vI e1.beat,vI e1.ver,.string e1.data]),(9,gg + 1,[vI e2.inc,vI e2.rank,vI e2.beat,vI e2.ver,.string e2.data]),(11,gg + 2,[vI e.inc,vI e.rank,vI e.beat,vI e.ver,.string e.data])] fun _ _ => ?_
   have hO5 := pcS_items hO1 hP4 hO4 hN4
   have hP5 := hP4.pres hP' hN1
   refine ⟨_,rfl,?_⟩
   rintro (_|_) h3
   ·replace h3 : ¬ (topF A.x B.x (i : Int) > 0) := of_decide_eq_false h3
    refine Cm (gg + 3) s4 [Ml 2 0,Ml 3 1,Ml 4 2,Ml 5 3,(6,vI (i : Int)),Ml 7 gg,(9,vL 9 0 (gg + 1)),(11,vL 11 0 (gg + 2)),(12,vI (topF A.x B.x (i : Int))),(15,vB true),(43,vB true),(53,vB false)] [(2,0,cSV A),(3,1,cSV B),(4,2,[Sn,Sn]),(5,3,[vS q4 ((joinF A.x B.x i).items.length + 1),vS q2 (joinF A.x B.x i).floors.length]),(7,gg,[vI e1.inc,vI e1.rank,vI e1.beat,vI e1.ver,.string e1.data]),(9,gg + 1,[vI e2.inc,vI e2.rank,vI e2.beat,vI e2.ver,.string e2.data]),(11,gg + 2,[vI e.inc,vI e.rank,vI e.beat,vI e.ver,.string e.data])] fun _ _ => ?_
    refine cxs ?_
    have e17 : IntKind.wrap .i64 ((i : Int) + 1) = ((i + 1 : Nat) : Int) := (wrap_i64 (by omega) (by omega)).trans (by omega)
    refine ⟨_,rfl,?_⟩
    rw [if_pos h2] at hJi
    rw [if_neg h3] at hJf
    exact ⟨(i + 1,q4,q2),5 - (i + 1),by omega,⟨rfl,rfl,rfl,rfl,congrArg (Value.int .i64) e17,trivial⟩,⟨rfl,rfl,rfl,(show some (3,[vS q4 ((joinF A.x B.x i).items.length + 1),vS q2 (joinF A.x B.x i).floors.length]) = some (3,[vS q4 (joinF A.x B.x (i + 1)).items.length,vS q2 (joinF A.x B.x (i + 1)).floors.length]) by rw [hJi,hJf,List.length_append]; rfl),trivial⟩,rfl,by omega,by rw [hJi,hJf]; exact hO5,hN4.le hP'.1,hN2,hP5⟩
   ·replace h3 : topF A.x B.x (i : Int) > 0 := of_decide_eq_true h3
    refine Cm (gg + 3) s4 [Ml 2 0,Ml 3 1,Ml 4 2,Ml 5 3,(6,vI (i : Int)),Ml 7 gg,(9,vL 9 0 (gg + 1)),(11,vL 11 0 (gg + 2)),(12,vI (topF A.x B.x (i : Int))),(15,vB true),(43,vB true),(53,vB true)] [(2,0,cSV A),(3,1,cSV B),(4,2,[Sn,Sn]),(5,3,[vS q4 ((joinF A.x B.x i).items.length + 1),vS q2 (joinF A.x B.x i).floors.length]),(7,gg,[vI e1.inc,vI e1.rank,vI e1.beat,vI e1.ver,.string e1.data]),(9,gg + 1,[vI e2.inc,vI e2.rank,vI e2.beat,vI e2.ver,.string e2.data]),(11,gg + 2,[vI e.inc,vI e.rank,vI e.beat,vI e.ver,.string e.data])] fun _ _ => ?_
    refine ⟨_,rfl,?_⟩
    refine ⟨_,Od rfl,?_⟩
    refine ⟨_,rfl,?_⟩
    refine op_one (z := 2) (a := (⟨(i : Int),topF A.x B.x (i : Int)⟩ : Flr)) (f := cFlr) rfl rfl rfl rfl rfl (by decide) rfl (Lb rfl) rfl rfl rfl ?_
    refine op_add (z := 2) (st := s4) (f := cFlr) (b := 16) (l := (joinF A.x B.x i).floors) rfl rfl rfl rfl rfl rfl rfl (by decide) len_cFlr rfl rfl rfl (by omega) (by unfold maxLen; omega) (pcS_f hO5) ?_
    intro q6 s6 hO6 hP6 hN6
    refine ⟨_,rfl,?_⟩
    refine ⟨_,Os rfl,?_⟩
    refine Cm (gg + 3) s6 [Ml 2 0,Ml 3 1,Ml 4 2,Ml 5 3,(6,vI (i : Int)),Ml 7 gg,(9,vL 9 0 (gg + 1)),(11,vL 11 0 (gg + 2)),(12,vI (topF A.x B.x (i : Int))),(15,vB true),(43,vB true),(53,vB true)] [(2,0,cSV A),(3,1,cSV B),(4,2,[Sn,Sn]),(5,3,[vS q4 ((joinF A.x B.x i).items.length + 1),vS q6 ((joinF A.x B.x i).floors.length + 1)]),(7,gg,[vI e1.inc,vI e1.rank,vI e1.beat,vI e1.ver,.string e1.data]),(9,gg + 1,[vI e2.inc,vI e2.rank,vI e2.beat,vI e2.ver,.string e2.data]),(11,gg + 2,[vI e.inc,vI e.rank,vI e.beat,vI e.ver,.string e.data])] fun _ _ => ?_
    have e17 : IntKind.wrap .i64 ((i : Int) + 1) = ((i + 1 : Nat) : Int) := (wrap_i64 (by omega) (by omega)).trans (by omega)
    refine ⟨_,rfl,?_⟩
    rw [if_pos h2] at hJi
    rw [if_pos h3] at hJf
    exact ⟨(i + 1,q4,q6),5 - (i + 1),by omega,⟨rfl,rfl,rfl,rfl,congrArg (Value.int .i64) e17,trivial⟩,⟨rfl,rfl,rfl,(show some (3,[vS q4 ((joinF A.x B.x i).items.length + 1),vS q6 ((joinF A.x B.x i).floors.length + 1)]) = some (3,[vS q4 (joinF A.x B.x (i + 1)).items.length,vS q6 (joinF A.x B.x (i + 1)).floors.length]) by rw [hJi,hJf,List.length_append,List.length_append]; rfl),trivial⟩,rfl,by omega,by rw [hJi,hJf]; exact pcS_floors hO5 hP6 hO6 hN6,hN4.le hP'.1,hN6.le hP5.1,hP6.pres hP5 hN2⟩
theorem firstNZ_neg : ∀ l : List Int,firstNZ (l.map fun x => -x) = - firstNZ l
 | [] => rfl
 | x :: l => by
  have ih := firstNZ_neg l
  rw [List.map_cons,firstNZ,firstNZ]
  by_cases h : x = 0
  ·rw [if_pos h,if_pos (by omega),ih]
  ·rw [if_neg h,if_neg (by omega)]
theorem cmpI_neg (a b : Int) : cmpI b a = - cmpI a b := by
 unfold cmpI
 split <;> split <;> (try split) <;> omega
theorem compareBytes_neg : ∀ a b : List UInt8,Lib.compareBytes b a = - Lib.compareBytes a b
 | [],[] => by simp [Lib.compareBytes]
 | [],b :: bs => by simp [Lib.compareBytes]
 | a :: l,[] => by simp [Lib.compareBytes]
 | a :: l,b :: bs => by
  have ih := compareBytes_neg l bs
  unfold Lib.compareBytes
  by_cases h1 : a < b
  ·have h2 : ¬ b < a := fun h => UInt8.lt_irrefl _ (UInt8.lt_trans h h1)
   simp [h1,h2]
  ·by_cases h2 : b < a
   ·simp [h1,h2]
   ·simp [h1,h2,ih]
theorem entCmp_neg (a b : Ent) : entCmp b a = - entCmp a b := by
 unfold entCmp
 rw [← firstNZ_neg]
 simp only [List.map_cons,List.map_nil,cmpB,cmpI_neg a.inc b.inc,cmpI_neg a.rank b.rank,cmpI_neg a.beat b.beat,cmpI_neg a.ver b.ver,compareBytes_neg a.data.data.toList b.data.data.toList]
theorem entMax_zero {a : Ent} (h : 1 ≤ a.inc) : entMax a zEnt = a ∧ entMax zEnt a = a := by
 have h1 : entCmp a zEnt = 1 := by
  unfold entCmp firstNZ
  have : cmpI a.inc zEnt.inc = 1 := by unfold cmpI zEnt; simp only; rw [if_neg (by omega),if_pos (by omega)]
  rw [this]; rfl
 have h2 : entCmp zEnt a = -1 := by rw [entCmp_neg,h1]
 exact ⟨by rw [entMax,h1]; rfl,by rw [entMax,h2]; rfl⟩
theorem entMax_zz : entMax zEnt zEnt = zEnt := by unfold entMax; split <;> rfl
theorem floorOf_pos {l : List Flr} (h : marksOk l) (id : Int) : 0 ≤ floorOf l id ∧ floorOf l id ≤ 1000 := by
 have key : ∀ m : List Flr,(∀ x ∈ m,1 ≤ x.inc ∧ x.inc ≤ 1000) → 0 ≤ floorOf m id ∧ floorOf m id ≤ 1000 := by
  intro m
  induction m with
  | nil => intro _; simp [floorOf]
  | cons x m ih =>
   intro h
   have hx := h x (List.mem_cons_self ..)
   rw [floorOf]
   split
   ·omega
   ·exact ih fun y hy => h y (List.mem_cons_of_mem _ hy)
 refine key l fun x hx => ?_
 obtain ⟨i,hi⟩ := List.getElem?_of_mem hx
 exact (h i x hi).2.1
theorem entP_none {l : List Itm} {id : Int} {e : Ent} (h : (e,false) = entP l id) : e = zEnt := by
 induction l with
 | nil => rw [entP] at h; injection h
 | cons x l ih =>
  rw [entP] at h
  split at h
  ·injection h with _ h; cases h
  ·exact ih h
theorem ac_spec_l3Join (A B : SV) (st : St) (hA : RdS st A) (hB : RdS st B) (ha : bigS A.x) (hb : bigS B.x) (oa : stateOk A.x) (ob : stateOk B.x) : C 27 [.agg #[vS A.p A.x.items.length,vS A.q A.x.floors.length],.agg #[vS B.p B.x.items.length,vS B.q B.x.floors.length]] st (fun v s => ∃ u : SV,v = .agg #[vS u.p u.x.items.length,vS u.q u.x.floors.length] ∧ u.x = joinF A.x B.x 5 ∧ OwnP s (pcS u) ∧ NewP st.next (pcS u) ∧ Pres st s) := by
 refine AC.enterX (i := ⟨[2,3,4,5,8,10,12],[2,3,4,5,8,10,12,27,34,66,70,77],[0,1,2,3,4,5,6,7,8,9,10,11,12,15,26,52,64,69],[]⟩) [(5,[2],[3])] Tryd.func27 rfl rfl (by kernel_rfl) (by kernel_rfl) Tryd.ntmps27 (Lb rfl) rfl ?_
 iterate 3 refine ⟨_,rfl,?_⟩
 refine Cm 3 st [Ml 2 0,Ml 3 1,Ml 4 2] [(2,0,cSV A),(3,1,cSV B),(4,2,[Sn,Sn])] fun _ _ => ?_
 iterate 3 refine ⟨_,rfl,?_⟩
 refine cxs ?_
 refine Cm 4 st [Ml 2 0,Ml 3 1,Ml 4 2,Ml 5 3,(6,vI 0)] [(2,0,cSV A),(3,1,cSV B),(4,2,[Sn,Sn]),(5,3,[Sn,Sn])] fun _ _ => ?_
 refine AW.loopM (fun x : Nat × Option Addr × Option Addr => [(2,vL 2 0 (0)),(3,vL 3 0 (1)),(4,vL 4 0 (2)),(5,vL 5 0 (3)),(6,vI (x.1 : Int))]) (fun x : Nat × Option Addr × Option Addr => [(2,0,[vS A.p A.x.items.length,vS A.q A.x.floors.length]),(3,1,[vS B.p B.x.items.length,vS B.q B.x.floors.length]),(4,2,[.slice none 0 0,.slice none 0 0]),(5,3,[vS x.2.1 (joinF A.x B.x x.1).items.length,vS x.2.2 (joinF A.x B.x x.1).floors.length])]) (fun m (x : Nat × Option Addr × Option Addr) st' => m = 5 - x.1 ∧ x.1 ≤ 5 ∧ OwnP st' [pcR 6 cItm x.2.1 (joinF A.x B.x x.1).items,pcR 2 cFlr x.2.2 (joinF A.x B.x x.1).floors] ∧ New st.next x.2.1 ∧ New st.next x.2.2 ∧ Pres st st') (0,none,none) _ ⟨rfl,rfl,rfl,rfl,rfl,trivial⟩ ⟨rfl,rfl,rfl,rfl,trivial⟩ ⟨rfl,Nat.zero_le _,pcS_nil,New.none,New.none,Pres.refl _⟩ ?_
 rintro m ⟨i,q1,q2⟩ ρ0 ff gg st' ⟨rfl,hi,hO,hN1,hN2,hP⟩
 simp only at hi hO hN1 hN2
 have hJ := joinF_len A.x B.x i
 have hJi := joinF_items A.x B.x i
 have hJf := joinF_floors A.x B.x i
 refine ⟨_,rfl,?_⟩
 rintro (_|_) h1
 ·replace h1 : ¬ ((i : Int) < 5) := of_decide_eq_false h1
  refine Cm gg st' [Ml 2 0,Ml 3 1,Ml 4 2,Ml 5 3,(6,vI (i : Int)),(15,vB false)] [(2,0,cSV A),(3,1,cSV B),(4,2,[Sn,Sn]),(5,3,[vS q1 (joinF A.x B.x i).items.length,vS q2 (joinF A.x B.x i).floors.length])] fun _ _ => ?_
  refine cxs ?_
  refine ⟨_,Od rfl,?_⟩
  refine ⟨_,Os rfl,?_⟩
  refine cxs ?_
  have hil : i = 5 := by omega
  subst hil
  exact Rt ⟨⟨q1,q2,joinF A.x B.x 5⟩,rfl,rfl,hO,NewP.cons hN1 (NewP.cons hN2 NewP.nil),hP⟩
 ·replace h1 : (i : Int) < 5 := of_decide_eq_true h1
  refine Cm gg st' [Ml 2 0,Ml 3 1,Ml 4 2,Ml 5 3,(6,vI (i : Int)),(15,vB true)] [(2,0,cSV A),(3,1,cSV B),(4,2,[Sn,Sn]),(5,3,[vS q1 (joinF A.x B.x i).items.length,vS q2 (joinF A.x B.x i).floors.length])] fun _ _ => ?_
  refine cxs ?_
  refine ⟨_,Od rfl,?_⟩
  refine ⟨_,rfl,(ac_spec_FloorOf A i st' (hA.pres hP) ha).mono ?_⟩
  rintro _ st' ⟨rfl,rfl⟩
  refine ⟨fun _ _ => rfl,?_⟩
  refine ⟨_,Od rfl,?_⟩
  refine ⟨ld_own rfl rfl rfl,?_⟩
  refine ⟨_,rfl,(ac_spec_FloorOf B i st' (hB.pres hP) hb).mono ?_⟩
  rintro _ st' ⟨rfl,rfl⟩
  refine ⟨_,rfl,(ac_spec_l1Max (floorOf A.x.floors (i : Int)) (floorOf B.x.floors (i : Int)) st').mono ?_⟩
  rintro _ st' ⟨rfl,rfl⟩
  refine AX.meet 5 (fun x : Option Addr × Ent × Nat => [(2,vL 2 0 (0)),(3,vL 3 0 (1)),(4,vL 4 0 (2)),(5,vL 5 0 (3)),(6,vI (i : Int)),(7,vI (topF A.x B.x (i : Int))),(12,vL 12 0 (x.2.2)),(15,vB true)]) (fun x : Option Addr × Ent × Nat => [(2,0,[vS A.p A.x.items.length,vS A.q A.x.floors.length]),(3,1,[vS B.p B.x.items.length,vS B.q B.x.floors.length]),(4,2,[.slice none 0 0,.slice none 0 0]),(5,3,[vS q1 (joinF A.x B.x i).items.length,vS x.1 (joinF A.x B.x (i + 1)).floors.length]),(12,x.2.2,[vI x.2.1.inc,vI x.2.1.rank,vI x.2.1.beat,vI x.2.1.ver,.string x.2.1.data])]) (fun (x : Option Addr × Ent × Nat) st' => (joinF A.x B.x (i + 1)).items = (if x.2.1.inc > topF A.x B.x (i : Int) then (joinF A.x B.x i).items ++ [⟨(i : Int),x.2.1⟩] else (joinF A.x B.x i).items) ∧ OwnP st' [pcR 6 cItm q1 (joinF A.x B.x i).items,pcR 2 cFlr x.1 (joinF A.x B.x (i + 1)).floors] ∧ New st.next x.1 ∧ Pres st st') ?_ ?_
  ·refine AX.meet 0 (fun q6 : Option Addr => [(2,vL 2 0 (0)),(3,vL 3 0 (1)),(4,vL 4 0 (2)),(5,vL 5 0 (3)),(6,vI (i : Int)),(7,vI (topF A.x B.x (i : Int))),(15,vB true)]) (fun q6 : Option Addr => [(2,0,[vS A.p A.x.items.length,vS A.q A.x.floors.length]),(3,1,[vS B.p B.x.items.length,vS B.q B.x.floors.length]),(4,2,[.slice none 0 0,.slice none 0 0]),(5,3,[vS q1 (joinF A.x B.x i).items.length,vS q6 (joinF A.x B.x (i + 1)).floors.length])]) (fun (q6 : Option Addr) st' => OwnP st' [pcR 6 cItm q1 (joinF A.x B.x i).items,pcR 2 cFlr q6 (joinF A.x B.x (i + 1)).floors] ∧ New st.next q6 ∧ Pres st st') ?_ ?_
   ·refine Cm gg st' [Ml 2 0,Ml 3 1,Ml 4 2,Ml 5 3,(6,vI (i : Int)),(7,vI (topF A.x B.x (i : Int))),(15,vB true)] [(2,0,cSV A),(3,1,cSV B),(4,2,[Sn,Sn]),(5,3,[vS q1 (joinF A.x B.x i).items.length,vS q2 (joinF A.x B.x i).floors.length])] fun _ _ => ?_
    refine ⟨_,rfl,?_⟩
    rintro (_|_) h2
    ·replace h2 : ¬ (topF A.x B.x (i : Int) > 0) := of_decide_eq_false h2
     refine Cm gg st' [Ml 2 0,Ml 3 1,Ml 4 2,Ml 5 3,(6,vI (i : Int)),(7,vI (topF A.x B.x (i : Int))),(15,vB true),(26,vB false)] [(2,0,cSV A),(3,1,cSV B),(4,2,[Sn,Sn]),(5,3,[vS q1 (joinF A.x B.x i).items.length,vS q2 (joinF A.x B.x i).floors.length])] fun _ _ => ?_
     have hfe : (joinF A.x B.x (i + 1)).floors = (joinF A.x B.x i).floors := by rw [hJf,if_neg h2]
     exact ⟨q2,⟨rfl,rfl,rfl,rfl,rfl,rfl,rfl,trivial⟩,⟨rfl,rfl,rfl,(show some (3,[vS q1 (joinF A.x B.x i).items.length,vS q2 (joinF A.x B.x i).floors.length]) = _ by rw [hfe]),trivial⟩,by rw [hfe]; exact hO,hN2,hP⟩
    ·replace h2 : topF A.x B.x (i : Int) > 0 := of_decide_eq_true h2
     refine Cm gg st' [Ml 2 0,Ml 3 1,Ml 4 2,Ml 5 3,(6,vI (i : Int)),(7,vI (topF A.x B.x (i : Int))),(15,vB true),(26,vB true)] [(2,0,cSV A),(3,1,cSV B),(4,2,[Sn,Sn]),(5,3,[vS q1 (joinF A.x B.x i).items.length,vS q2 (joinF A.x B.x i).floors.length])] fun _ _ => ?_
     refine ⟨_,rfl,?_⟩
     refine ⟨_,Od rfl,?_⟩
     refine ⟨_,rfl,?_⟩
     refine op_one (z := 2) (a := (⟨(i : Int),topF A.x B.x (i : Int)⟩ : Flr)) (f := cFlr) rfl rfl rfl rfl rfl (by decide) rfl (Lb rfl) rfl rfl rfl ?_
     refine op_add (z := 2) (st := st') (f := cFlr) (b := 16) (l := (joinF A.x B.x i).floors) rfl rfl rfl rfl rfl rfl rfl (by decide) len_cFlr rfl rfl rfl (by omega) (by unfold maxLen; omega) (pcS_f hO) ?_
     intro q6 s6 hO6 hP6 hN6
     refine ⟨_,rfl,?_⟩
     refine ⟨_,Os rfl,?_⟩
     have hfe : (joinF A.x B.x (i + 1)).floors = (joinF A.x B.x i).floors ++ [⟨(i : Int),topF A.x B.x (i : Int)⟩] := by rw [hJf,if_pos h2]
     exact ⟨q6,⟨rfl,rfl,rfl,rfl,rfl,rfl,rfl,trivial⟩,⟨rfl,rfl,rfl,(show some (3,[vS q1 (joinF A.x B.x i).items.length,vS q6 ((joinF A.x B.x i).floors.length + 1)]) = _ by rw [hfe,List.length_append]; rfl),trivial⟩,by rw [hfe]; exact pcS_floors hO hP6 hO6 hN6,hN6.le hP.1,hP6.pres hP hN2⟩
   ·rintro q6 ρ0 ff gg st' ⟨hO6,hN6,hP6⟩
    refine ⟨_,Od rfl,?_⟩
    refine ⟨_,rfl,(ac_spec_EntryOf A i st' (hA.pres hP6) ha).mono ?_⟩
    rintro _ st' ⟨e1,b1,rfl,he1,rfl⟩
    rcases b1 with _|_
    ·iterate 3 refine ⟨_,rfl,?_⟩
     refine ⟨_,Os rfl,?_⟩
     refine Cm (gg + 1) st' [Ml 2 0,Ml 3 1,Ml 4 2,Ml 5 3,(6,vI (i : Int)),(7,vI (topF A.x B.x (i : Int))),Ml 8 gg,(9,vB false),(15,vB true)] [(2,0,cSV A),(3,1,cSV B),(4,2,[Sn,Sn]),(5,3,[vS q1 (joinF A.x B.x i).items.length,vS q6 (joinF A.x B.x (i + 1)).floors.length]),(8,gg,[vI e1.inc,vI e1.rank,vI e1.beat,vI e1.ver,.string e1.data])] fun _ _ => ?_
     refine ⟨_,Od rfl,?_⟩
     refine ⟨_,rfl,(ac_spec_EntryOf B i st' (hB.pres hP6) hb).mono ?_⟩
     rintro _ st' ⟨e2,b2,rfl,he2,rfl⟩
     rcases b2 with _|_
     ·iterate 3 refine ⟨_,rfl,?_⟩
      refine ⟨_,Os rfl,?_⟩
      refine Cm (gg + 2) st' [Ml 2 0,Ml 3 1,Ml 4 2,Ml 5 3,(6,vI (i : Int)),(7,vI (topF A.x B.x (i : Int))),Ml 8 gg,(9,vB false),(10,vL 10 0 (gg + 1)),(11,vB false),(15,vB true)] [(2,0,cSV A),(3,1,cSV B),(4,2,[Sn,Sn]),(5,3,[vS q1 (joinF A.x B.x i).items.length,vS q6 (joinF A.x B.x (i + 1)).floors.length]),(8,gg,[vI e1.inc,vI e1.rank,vI e1.beat,vI e1.ver,.string e1.data]),(10,gg + 1,[vI e2.inc,vI e2.rank,vI e2.beat,vI e2.ver,.string e2.data])] fun _ _ => ?_
      have hE : topE A.x B.x (i : Int) = zEnt := by rw [topE,← he1,← he2,entP_none he1,entP_none he2]; exact entMax_zz
      have hfa := (floorOf_pos oa.2 (i : Int)).1
      have hle : ¬ (topE A.x B.x (i : Int)).inc > topF A.x B.x (i : Int) := by rw [hE]; unfold topF zEnt; simp only; omega
      rw [if_neg hle] at hJi
      iterate 3 refine ⟨_,rfl,?_⟩
      refine Cm (gg + 2) st' [Ml 2 0,Ml 3 1,Ml 4 2,Ml 5 3,(6,vI (i : Int)),(7,vI (topF A.x B.x (i : Int))),Ml 8 gg,(9,vB false),(10,vL 10 0 (gg + 1)),(11,vB false),(15,vB true),(52,vB true)] [(2,0,cSV A),(3,1,cSV B),(4,2,[Sn,Sn]),(5,3,[vS q1 (joinF A.x B.x i).items.length,vS q6 (joinF A.x B.x (i + 1)).floors.length]),(8,gg,[vI e1.inc,vI e1.rank,vI e1.beat,vI e1.ver,.string e1.data]),(10,gg + 1,[vI e2.inc,vI e2.rank,vI e2.beat,vI e2.ver,.string e2.data])] fun _ _ => ?_
      refine cxs ?_
      have e17 : IntKind.wrap .i64 ((i : Int) + 1) = ((i + 1 : Nat) : Int) := (wrap_i64 (by omega) (by omega)).trans (by omega)
      refine ⟨_,rfl,?_⟩
      rw [← hJi] at hO6
      exact ⟨(i + 1,q1,q6),5 - (i + 1),by omega,⟨rfl,rfl,rfl,rfl,congrArg (Value.int .i64) e17,trivial⟩,⟨rfl,rfl,rfl,(show some (3,[vS q1 (joinF A.x B.x i).items.length,vS q6 (joinF A.x B.x (i + 1)).floors.length]) = _ by rw [hJi]),trivial⟩,rfl,by omega,hO6,hN1,hN6,hP6⟩
     ·iterate 3 refine ⟨_,rfl,?_⟩
      refine ⟨_,Os rfl,?_⟩
      refine Cm (gg + 2) st' [Ml 2 0,Ml 3 1,Ml 4 2,Ml 5 3,(6,vI (i : Int)),(7,vI (topF A.x B.x (i : Int))),Ml 8 gg,(9,vB false),(10,vL 10 0 (gg + 1)),(11,vB true),(15,vB true)] [(2,0,cSV A),(3,1,cSV B),(4,2,[Sn,Sn]),(5,3,[vS q1 (joinF A.x B.x i).items.length,vS q6 (joinF A.x B.x (i + 1)).floors.length]),(8,gg,[vI e1.inc,vI e1.rank,vI e1.beat,vI e1.ver,.string e1.data]),(10,gg + 1,[vI e2.inc,vI e2.rank,vI e2.beat,vI e2.ver,.string e2.data])] fun _ _ => ?_
      have hE : topE A.x B.x (i : Int) = entMax e1 e2 := by rw [topE,← he1,← he2]
      have hfa := (floorOf_pos oa.2 (i : Int)).1
      rw [hE] at hJi
      iterate 3 refine ⟨_,rfl,?_⟩
      refine Cm (gg + 2) st' [Ml 2 0,Ml 3 1,Ml 4 2,Ml 5 3,(6,vI (i : Int)),(7,vI (topF A.x B.x (i : Int))),Ml 8 gg,(9,vB false),(10,vL 10 0 (gg + 1)),(11,vB true),(15,vB true),(52,vB false)] [(2,0,cSV A),(3,1,cSV B),(4,2,[Sn,Sn]),(5,3,[vS q1 (joinF A.x B.x i).items.length,vS q6 (joinF A.x B.x (i + 1)).floors.length]),(8,gg,[vI e1.inc,vI e1.rank,vI e1.beat,vI e1.ver,.string e1.data]),(10,gg + 1,[vI e2.inc,vI e2.rank,vI e2.beat,vI e2.ver,.string e2.data])] fun _ _ => ?_
      refine cxs ?_
      refine ⟨_,Od rfl,?_⟩
      refine ⟨_,rfl,?_⟩
      refine ⟨_,Os rfl,?_⟩
      refine Cm (gg + 3) st' [Ml 2 0,Ml 3 1,Ml 4 2,Ml 5 3,(6,vI (i : Int)),(7,vI (topF A.x B.x (i : Int))),Ml 8 gg,(9,vB false),(10,vL 10 0 (gg + 1)),(11,vB true),(12,vL 12 0 (gg + 2)),(15,vB true),(52,vB false)] [(2,0,cSV A),(3,1,cSV B),(4,2,[Sn,Sn]),(5,3,[vS q1 (joinF A.x B.x i).items.length,vS q6 (joinF A.x B.x (i + 1)).floors.length]),(8,gg,[vI e1.inc,vI e1.rank,vI e1.beat,vI e1.ver,.string e1.data]),(10,gg + 1,[vI e2.inc,vI e2.rank,vI e2.beat,vI e2.ver,.string e2.data]),(12,gg + 2,[vI e1.inc,vI e1.rank,vI e1.beat,vI e1.ver,.string e1.data])] fun _ _ => ?_
      iterate 2 refine ⟨_,rfl,?_⟩
      refine Cm (gg + 3) st' [Ml 2 0,Ml 3 1,Ml 4 2,Ml 5 3,(6,vI (i : Int)),(7,vI (topF A.x B.x (i : Int))),Ml 8 gg,(9,vB false),(10,vL 10 0 (gg + 1)),(11,vB true),(12,vL 12 0 (gg + 2)),(15,vB true),(52,vB false),(64,vB true)] [(2,0,cSV A),(3,1,cSV B),(4,2,[Sn,Sn]),(5,3,[vS q1 (joinF A.x B.x i).items.length,vS q6 (joinF A.x B.x (i + 1)).floors.length]),(8,gg,[vI e1.inc,vI e1.rank,vI e1.beat,vI e1.ver,.string e1.data]),(10,gg + 1,[vI e2.inc,vI e2.rank,vI e2.beat,vI e2.ver,.string e2.data]),(12,gg + 2,[vI e1.inc,vI e1.rank,vI e1.beat,vI e1.ver,.string e1.data])] fun _ _ => ?_
      have hm : entMax e1 e2 = e2 := by rw [entP_none he1]; exact (entMax_zero (ent_ok ob he2).1.1).2
      rw [hm] at hJi
      have hO7 := hO6
      have hP8 := hP6
      refine ⟨_,Od rfl,?_⟩
      refine ⟨_,Os rfl,?_⟩
      exact ⟨(q6,e2,_),⟨rfl,rfl,rfl,rfl,rfl,rfl,rfl,rfl,trivial⟩,⟨rfl,rfl,rfl,rfl,rfl,trivial⟩,hJi,hO7,hN6,hP8⟩
    ·iterate 3 refine ⟨_,rfl,?_⟩
     refine ⟨_,Os rfl,?_⟩
     refine Cm (gg + 1) st' [Ml 2 0,Ml 3 1,Ml 4 2,Ml 5 3,(6,vI (i : Int)),(7,vI (topF A.x B.x (i : Int))),Ml 8 gg,(9,vB true),(15,vB true)] [(2,0,cSV A),(3,1,cSV B),(4,2,[Sn,Sn]),(5,3,[vS q1 (joinF A.x B.x i).items.length,vS q6 (joinF A.x B.x (i + 1)).floors.length]),(8,gg,[vI e1.inc,vI e1.rank,vI e1.beat,vI e1.ver,.string e1.data])] fun _ _ => ?_
     refine ⟨_,Od rfl,?_⟩
     refine ⟨_,rfl,(ac_spec_EntryOf B i st' (hB.pres hP6) hb).mono ?_⟩
     rintro _ st' ⟨e2,b2,rfl,he2,rfl⟩
     rcases b2 with _|_
     ·iterate 3 refine ⟨_,rfl,?_⟩
      refine ⟨_,Os rfl,?_⟩
      refine Cm (gg + 2) st' [Ml 2 0,Ml 3 1,Ml 4 2,Ml 5 3,(6,vI (i : Int)),(7,vI (topF A.x B.x (i : Int))),Ml 8 gg,(9,vB true),(10,vL 10 0 (gg + 1)),(11,vB false),(15,vB true)] [(2,0,cSV A),(3,1,cSV B),(4,2,[Sn,Sn]),(5,3,[vS q1 (joinF A.x B.x i).items.length,vS q6 (joinF A.x B.x (i + 1)).floors.length]),(8,gg,[vI e1.inc,vI e1.rank,vI e1.beat,vI e1.ver,.string e1.data]),(10,gg + 1,[vI e2.inc,vI e2.rank,vI e2.beat,vI e2.ver,.string e2.data])] fun _ _ => ?_
      have hE : topE A.x B.x (i : Int) = entMax e1 e2 := by rw [topE,← he1,← he2]
      have hfa := (floorOf_pos oa.2 (i : Int)).1
      rw [hE] at hJi
      iterate 2 refine ⟨_,rfl,?_⟩
      refine Cm (gg + 2) st' [Ml 2 0,Ml 3 1,Ml 4 2,Ml 5 3,(6,vI (i : Int)),(7,vI (topF A.x B.x (i : Int))),Ml 8 gg,(9,vB true),(10,vL 10 0 (gg + 1)),(11,vB false),(15,vB true),(52,vB false)] [(2,0,cSV A),(3,1,cSV B),(4,2,[Sn,Sn]),(5,3,[vS q1 (joinF A.x B.x i).items.length,vS q6 (joinF A.x B.x (i + 1)).floors.length]),(8,gg,[vI e1.inc,vI e1.rank,vI e1.beat,vI e1.ver,.string e1.data]),(10,gg + 1,[vI e2.inc,vI e2.rank,vI e2.beat,vI e2.ver,.string e2.data])] fun _ _ => ?_
      refine cxs ?_
      refine ⟨_,Od rfl,?_⟩
      refine ⟨_,rfl,?_⟩
      refine ⟨_,Os rfl,?_⟩
      refine Cm (gg + 3) st' [Ml 2 0,Ml 3 1,Ml 4 2,Ml 5 3,(6,vI (i : Int)),(7,vI (topF A.x B.x (i : Int))),Ml 8 gg,(9,vB true),(10,vL 10 0 (gg + 1)),(11,vB false),(12,vL 12 0 (gg + 2)),(15,vB true),(52,vB false)] [(2,0,cSV A),(3,1,cSV B),(4,2,[Sn,Sn]),(5,3,[vS q1 (joinF A.x B.x i).items.length,vS q6 (joinF A.x B.x (i + 1)).floors.length]),(8,gg,[vI e1.inc,vI e1.rank,vI e1.beat,vI e1.ver,.string e1.data]),(10,gg + 1,[vI e2.inc,vI e2.rank,vI e2.beat,vI e2.ver,.string e2.data]),(12,gg + 2,[vI e1.inc,vI e1.rank,vI e1.beat,vI e1.ver,.string e1.data])] fun _ _ => ?_
      iterate 3 refine ⟨_,rfl,?_⟩
      refine Cm (gg + 3) st' [Ml 2 0,Ml 3 1,Ml 4 2,Ml 5 3,(6,vI (i : Int)),(7,vI (topF A.x B.x (i : Int))),Ml 8 gg,(9,vB true),(10,vL 10 0 (gg + 1)),(11,vB false),(12,vL 12 0 (gg + 2)),(15,vB true),(52,vB false),(64,vB false)] [(2,0,cSV A),(3,1,cSV B),(4,2,[Sn,Sn]),(5,3,[vS q1 (joinF A.x B.x i).items.length,vS q6 (joinF A.x B.x (i + 1)).floors.length]),(8,gg,[vI e1.inc,vI e1.rank,vI e1.beat,vI e1.ver,.string e1.data]),(10,gg + 1,[vI e2.inc,vI e2.rank,vI e2.beat,vI e2.ver,.string e2.data]),(12,gg + 2,[vI e1.inc,vI e1.rank,vI e1.beat,vI e1.ver,.string e1.data])] fun _ _ => ?_
      have hm : entMax e1 e2 = e1 := by rw [entP_none he2]; exact (entMax_zero (ent_ok oa he1).1.1).1
      rw [hm] at hJi
      have hO7 := hO6
      have hP8 := hP6
      exact ⟨(q6,e1,_),⟨rfl,rfl,rfl,rfl,rfl,rfl,rfl,rfl,trivial⟩,⟨rfl,rfl,rfl,rfl,rfl,trivial⟩,hJi,hO7,hN6,hP8⟩
     ·iterate 3 refine ⟨_,rfl,?_⟩
      refine ⟨_,Os rfl,?_⟩
      refine Cm (gg + 2) st' [Ml 2 0,Ml 3 1,Ml 4 2,Ml 5 3,(6,vI (i : Int)),(7,vI (topF A.x B.x (i : Int))),Ml 8 gg,(9,vB true),(10,vL 10 0 (gg + 1)),(11,vB true),(15,vB true)] [(2,0,cSV A),(3,1,cSV B),(4,2,[Sn,Sn]),(5,3,[vS q1 (joinF A.x B.x i).items.length,vS q6 (joinF A.x B.x (i + 1)).floors.length]),(8,gg,[vI e1.inc,vI e1.rank,vI e1.beat,vI e1.ver,.string e1.data]),(10,gg + 1,[vI e2.inc,vI e2.rank,vI e2.beat,vI e2.ver,.string e2.data])] fun _ _ => ?_
      have hE : topE A.x B.x (i : Int) = entMax e1 e2 := by rw [topE,← he1,← he2]
      have hfa := (floorOf_pos oa.2 (i : Int)).1
      rw [hE] at hJi
      iterate 2 refine ⟨_,rfl,?_⟩
      refine Cm (gg + 2) st' [Ml 2 0,Ml 3 1,Ml 4 2,Ml 5 3,(6,vI (i : Int)),(7,vI (topF A.x B.x (i : Int))),Ml 8 gg,(9,vB true),(10,vL 10 0 (gg + 1)),(11,vB true),(15,vB true),(52,vB false)] [(2,0,cSV A),(3,1,cSV B),(4,2,[Sn,Sn]),(5,3,[vS q1 (joinF A.x B.x i).items.length,vS q6 (joinF A.x B.x (i + 1)).floors.length]),(8,gg,[vI e1.inc,vI e1.rank,vI e1.beat,vI e1.ver,.string e1.data]),(10,gg + 1,[vI e2.inc,vI e2.rank,vI e2.beat,vI e2.ver,.string e2.data])] fun _ _ => ?_
      refine cxs ?_
      refine ⟨_,Od rfl,?_⟩
      refine ⟨_,rfl,?_⟩
      refine ⟨_,Os rfl,?_⟩
      refine Cm (gg + 3) st' [Ml 2 0,Ml 3 1,Ml 4 2,Ml 5 3,(6,vI (i : Int)),(7,vI (topF A.x B.x (i : Int))),Ml 8 gg,(9,vB true),(10,vL 10 0 (gg + 1)),(11,vB true),(12,vL 12 0 (gg + 2)),(15,vB true),(52,vB false)] [(2,0,cSV A),(3,1,cSV B),(4,2,[Sn,Sn]),(5,3,[vS q1 (joinF A.x B.x i).items.length,vS q6 (joinF A.x B.x (i + 1)).floors.length]),(8,gg,[vI e1.inc,vI e1.rank,vI e1.beat,vI e1.ver,.string e1.data]),(10,gg + 1,[vI e2.inc,vI e2.rank,vI e2.beat,vI e2.ver,.string e2.data]),(12,gg + 2,[vI e1.inc,vI e1.rank,vI e1.beat,vI e1.ver,.string e1.data])] fun _ _ => ?_
      refine ⟨_,rfl,?_⟩
      refine ⟨_,Od rfl,?_⟩
      refine ⟨_,Od rfl,?_⟩
      refine ⟨_,rfl,(ac_spec_EntryCmp e2 e1 st').mono ?_⟩
      rintro _ s7 ⟨rfl,hP7⟩
      refine ⟨_,rfl,?_⟩
      rintro (_|_) h3
      ·replace h3 : ¬ (entCmp e2 e1 > 0) := of_decide_eq_false h3
       iterate 2 refine ⟨_,rfl,?_⟩
       refine Cm (gg + 3) s7 [Ml 2 0,Ml 3 1,Ml 4 2,Ml 5 3,(6,vI (i : Int)),(7,vI (topF A.x B.x (i : Int))),Ml 8 gg,(9,vB true),(10,vL 10 0 (gg + 1)),(11,vB true),(12,vL 12 0 (gg + 2)),(15,vB true),(52,vB false),(64,vB false)] [(2,0,cSV A),(3,1,cSV B),(4,2,[Sn,Sn]),(5,3,[vS q1 (joinF A.x B.x i).items.length,vS q6 (joinF A.x B.x (i + 1)).floors.length]),(8,gg,[vI e1.inc,vI e1.rank,vI e1.beat,vI e1.ver,.string e1.data]),(10,gg + 1,[vI e2.inc,vI e2.rank,vI e2.beat,vI e2.ver,.string e2.data]),(12,gg + 2,[vI e1.inc,vI e1.rank,vI e1.beat,vI e1.ver,.string e1.data])] fun _ _ => ?_
       have hm : entMax e1 e2 = e1 := by rw [entMax,if_neg (by have := entCmp_neg e1 e2; omega)]
       rw [hm] at hJi
       have hO7 := hO6.pres hP7
       have hP8 := hP6.trans hP7
       exact ⟨(q6,e1,_),⟨rfl,rfl,rfl,rfl,rfl,rfl,rfl,rfl,trivial⟩,⟨rfl,rfl,rfl,rfl,rfl,trivial⟩,hJi,hO7,hN6,hP8⟩
      ·replace h3 : entCmp e2 e1 > 0 := of_decide_eq_true h3
       iterate 2 refine ⟨_,rfl,?_⟩
       refine Cm (gg + 3) s7 [Ml 2 0,Ml 3 1,Ml 4 2,Ml 5 3,(6,vI (i : Int)),(7,vI (topF A.x B.x (i : Int))),Ml 8 gg,(9,vB true),(10,vL 10 0 (gg + 1)),(11,vB true),(12,vL 12 0 (gg + 2)),(15,vB true),(52,vB false),(64,vB true)] [(2,0,cSV A),(3,1,cSV B),(4,2,[Sn,Sn]),(5,3,[vS q1 (joinF A.x B.x i).items.length,vS q6 (joinF A.x B.x (i + 1)).floors.length]),(8,gg,[vI e1.inc,vI e1.rank,vI e1.beat,vI e1.ver,.string e1.data]),(10,gg + 1,[vI e2.inc,vI e2.rank,vI e2.beat,vI e2.ver,.string e2.data]),(12,gg + 2,[vI e1.inc,vI e1.rank,vI e1.beat,vI e1.ver,.string e1.data])] fun _ _ => ?_
       have hm : entMax e1 e2 = e2 := by rw [entMax,if_pos (by have := entCmp_neg e1 e2; omega)]
       rw [hm] at hJi
       have hO7 := hO6.pres hP7
       have hP8 := hP6.trans hP7
       refine ⟨_,Od rfl,?_⟩
       refine ⟨_,Os rfl,?_⟩
       exact ⟨(q6,e2,_),⟨rfl,rfl,rfl,rfl,rfl,rfl,rfl,rfl,trivial⟩,⟨rfl,rfl,rfl,rfl,rfl,trivial⟩,hJi,hO7,hN6,hP8⟩
  ·rintro ⟨q6,e,g12⟩ ρ0 ff gg st' ⟨hJi2,hO7,hN6,hP8⟩
   simp only at hJi2 hO7 hN6
   refine ⟨_,rfl,?_⟩
   refine ⟨_,Od rfl,?_⟩
   refine ⟨_,rfl,?_⟩
   rintro (_|_) h4
   ·replace h4 : ¬ (e.inc > topF A.x B.x (i : Int)) := of_decide_eq_false h4
    refine Cm gg st' [Ml 2 0,Ml 3 1,Ml 4 2,Ml 5 3,(6,vI (i : Int)),(7,vI (topF A.x B.x (i : Int))),Ml 12 g12,(15,vB true),(69,vB false)] [(2,0,cSV A),(3,1,cSV B),(4,2,[Sn,Sn]),(5,3,[vS q1 (joinF A.x B.x i).items.length,vS q6 (joinF A.x B.x (i + 1)).floors.length]),(12,g12,[vI e.inc,vI e.rank,vI e.beat,vI e.ver,.string e.data])] fun _ _ => ?_
    refine cxs ?_
    have e17 : IntKind.wrap .i64 ((i : Int) + 1) = ((i + 1 : Nat) : Int) := (wrap_i64 (by omega) (by omega)).trans (by omega)
    refine ⟨_,rfl,?_⟩
    rw [if_neg h4] at hJi2
    exact ⟨(i + 1,q1,q6),5 - (i + 1),by omega,⟨rfl,rfl,rfl,rfl,congrArg (Value.int .i64) e17,trivial⟩,⟨rfl,rfl,rfl,(show some (3,[vS q1 (joinF A.x B.x i).items.length,vS q6 (joinF A.x B.x (i + 1)).floors.length]) = _ by rw [hJi2]),trivial⟩,rfl,by omega,by rw [hJi2]; exact hO7,hN1,hN6,hP8⟩
   ·replace h4 : e.inc > topF A.x B.x (i : Int) := of_decide_eq_true h4
    refine Cm gg st' [Ml 2 0,Ml 3 1,Ml 4 2,Ml 5 3,(6,vI (i : Int)),(7,vI (topF A.x B.x (i : Int))),Ml 12 g12,(15,vB true),(69,vB true)] [(2,0,cSV A),(3,1,cSV B),(4,2,[Sn,Sn]),(5,3,[vS q1 (joinF A.x B.x i).items.length,vS q6 (joinF A.x B.x (i + 1)).floors.length]),(12,g12,[vI e.inc,vI e.rank,vI e.beat,vI e.ver,.string e.data])] fun _ _ => ?_
    refine ⟨_,rfl,?_⟩
    refine ⟨_,Od rfl,?_⟩
    refine ⟨_,Od rfl,?_⟩
    refine ⟨_,rfl,?_⟩
    refine op_one (z := 6) (a := (⟨(i : Int),e⟩ : Itm)) (f := cItm) rfl rfl rfl rfl rfl (by decide) rfl (Lb rfl) rfl rfl rfl ?_
    refine op_add (z := 6) (st := st') (f := cItm) (b := 56) (l := (joinF A.x B.x i).items) rfl rfl rfl rfl rfl rfl rfl (by decide) len_cItm rfl rfl rfl (by omega) (by unfold maxLen; omega) (pcS_i hO7) ?_
    intro q8 s8 hO8 hP9 hN8
    refine ⟨_,rfl,?_⟩
    refine ⟨_,Os rfl,?_⟩
    refine Cm gg s8 [Ml 2 0,Ml 3 1,Ml 4 2,Ml 5 3,(6,vI (i : Int)),(7,vI (topF A.x B.x (i : Int))),Ml 12 g12,(15,vB true),(69,vB true)] [(2,0,cSV A),(3,1,cSV B),(4,2,[Sn,Sn]),(5,3,[vS q8 ((joinF A.x B.x i).items.length + 1),vS q6 (joinF A.x B.x (i + 1)).floors.length]),(12,g12,[vI e.inc,vI e.rank,vI e.beat,vI e.ver,.string e.data])] fun _ _ => ?_
    have e17 : IntKind.wrap .i64 ((i : Int) + 1) = ((i + 1 : Nat) : Int) := (wrap_i64 (by omega) (by omega)).trans (by omega)
    refine ⟨_,rfl,?_⟩
    rw [if_pos h4] at hJi2
    exact ⟨(i + 1,q8,q6),5 - (i + 1),by omega,⟨rfl,rfl,rfl,rfl,congrArg (Value.int .i64) e17,trivial⟩,⟨rfl,rfl,rfl,(show some (3,[vS q8 ((joinF A.x B.x i).items.length + 1),vS q6 (joinF A.x B.x (i + 1)).floors.length]) = _ by rw [hJi2,List.length_append]; rfl),trivial⟩,rfl,by omega,by rw [hJi2]; exact pcS_items hO7 hP9 hO8 hN8,hN8.le hP8.1,hN6,hP9.pres hP8 hN1⟩
theorem pick_get {β : Type} {f : Nat → Option β} {n i : Nat} {x : β} (h : ((List.range n).filterMap f)[i]? = some x) : ∃ j,j < n ∧ f j = some x := by
 obtain ⟨j,hj,hf⟩ := List.mem_filterMap.1 (List.mem_of_getElem? h)
 exact ⟨j,List.mem_range.1 hj,hf⟩
theorem pick_lt {β : Type} {f : Nat → Option β} {id : β → Int} (hid : ∀ j x,f j = some x → id x = (j : Int)) {n i : Nat} {x y : β} (h : ((List.range n).filterMap f)[i]? = some x) (h0 : 0 < i) (hy : ((List.range n).filterMap f)[i - 1]? = some y) : id y < id x := by
 have hp : ((List.range n).filterMap f).Pairwise fun a b => id a < id b := by
  rw [List.pairwise_filterMap]
  refine List.Pairwise.imp ?_ List.pairwise_lt_range
  intro a b hab u hu v hv
  rw [hid a u hu,hid b v hv]
  omega
 rw [List.pairwise_iff_getElem] at hp
 obtain ⟨h1,h2⟩ := List.getElem?_eq_some_iff.1 h
 obtain ⟨h3,h4⟩ := List.getElem?_eq_some_iff.1 hy
 rw [← h2,← h4]
 exact hp _ _ h3 h1 (by omega)
theorem floorOf_snoc (l : List Flr) (x : Flr) (id : Int) : floorOf (l ++ [x]) id = if (∃ y ∈ l,y.id = id) then floorOf l id else if x.id = id then x.inc else 0 := by
 induction l with
 | nil => simp [floorOf]
 | cons y l ih =>
  rw [List.cons_append,floorOf,floorOf,ih]
  by_cases h : y.id = id
  ·simp [h]
  ·simp [h]
theorem floorOf_pick (t : Int → Int) (id : Nat) : ∀ n,floorOf ((List.range n).filterMap fun (j : Nat) => if t (j : Int) > 0 then some (⟨(j : Int),t (j : Int)⟩ : Flr) else none) (id : Int) = if id < n ∧ t (id : Int) > 0 then t (id : Int) else 0
 | 0 => by simp [floorOf]
 | n + 1 => by
  have ih := floorOf_pick t id n
  rw [List.range_succ,List.filterMap_append]
  have hex : (∃ y ∈ (List.range n).filterMap (fun (j : Nat) => if t (j : Int) > 0 then some (⟨(j : Int),t (j : Int)⟩ : Flr) else none),y.id = (id : Int)) ↔ id < n ∧ t (id : Int) > 0 := by
   constructor
   ·rintro ⟨y,hy,hid⟩
    obtain ⟨j,hj,hf⟩ := List.mem_filterMap.1 hy
    split at hf
    ·rename_i ht
     injection hf with hf
     rw [← hf] at hid
     have hid : (j : Int) = (id : Int) := hid
     have : j = id := by omega
     exact ⟨by rw [← this]; exact List.mem_range.1 hj,by rw [← this]; exact ht⟩
    ·cases hf
   ·rintro ⟨h1,h2⟩
    exact ⟨⟨(id : Int),t (id : Int)⟩,List.mem_filterMap.2 ⟨id,List.mem_range.2 h1,by rw [if_pos h2]⟩,rfl⟩
  by_cases hn : t (n : Int) > 0
  ·simp only [List.filterMap_cons,List.filterMap_nil,hn,if_true]
   rw [floorOf_snoc]
   by_cases h1 : id < n ∧ t (id : Int) > 0
   ·rw [if_pos (hex.2 h1),ih,if_pos h1,if_pos ⟨by omega,h1.2⟩]
   ·rw [if_neg (fun h => h1 (hex.1 h))]
    by_cases h2 : n = id
    ·subst h2; rw [if_pos rfl,if_pos ⟨Nat.lt_succ_self _,hn⟩]
    ·rw [if_neg (by simp only; omega),if_neg (fun h => h1 ⟨by omega,h.2⟩)]
  ·simp only [List.filterMap_cons,List.filterMap_nil,hn,if_false,List.append_nil]
   rw [ih]
   by_cases h1 : id < n ∧ t (id : Int) > 0
   ·rw [if_pos h1,if_pos ⟨by omega,h1.2⟩]
   ·rw [if_neg h1,if_neg (fun h => h1 ⟨by
     rcases Nat.lt_or_ge id n with h3 | h3
     ·exact h3
     ·have : id = n := by omega
      subst this; exact absurd h.2 hn,h.2⟩)]
theorem topF_pos {a b : Sta} (ha : marksOk a.floors) (hb : marksOk b.floors) (id : Int) : 0 ≤ topF a b id ∧ topF a b id ≤ 1000 := by
 have h1 := floorOf_pos ha id
 have h2 := floorOf_pos hb id
 unfold topF
 omega
theorem floorOf_join {a b : Sta} (ha : marksOk a.floors) (hb : marksOk b.floors) {n id : Nat} (h : id < n) : floorOf (joinF a b n).floors (id : Int) = topF a b (id : Int) := by
 have h1 := (topF_pos ha hb (id : Int)).1
 show floorOf ((List.range n).filterMap fun (j : Nat) => if topF a b (j : Int) > 0 then some (⟨(j : Int),topF a b (j : Int)⟩ : Flr) else none) (id : Int) = _
 rw [floorOf_pick (fun i => topF a b i) id n]
 by_cases h2 : topF a b (id : Int) > 0
 ·rw [if_pos ⟨h,h2⟩]
 ·rw [if_neg (fun h => h2 h.2)]; omega
theorem entP_cases {s : Sta} (h : ∀ (j : Nat) x,s.items[j]? = some x → itemOk s j x) (id : Int) : (entP s.items id).1 = zEnt ∨ entOk (entP s.items id).1 := by
 rcases hb : (entP s.items id) with ⟨e,b⟩
 cases b with
 | false => exact .inl (entP_none (e := e) (id := id) hb.symm)
 | true =>
  obtain ⟨j,x,h1,h2,_⟩ := entP_mem (e := e) (id := id) hb.symm
  exact .inr (h2 ▸ (h j x h1).2.1)
theorem stateOk_join {a b : Sta} (ha : stateOk a) (hb : stateOk b) : stateOk (joinF a b 5) := by
 refine ⟨fun i x hx => ?_,fun i x hx => ?_⟩
 ·have hx' : ((List.range 5).filterMap fun (j : Nat) => if (topE a b (j : Int)).inc > topF a b (j : Int) then some (⟨(j : Int),topE a b (j : Int)⟩ : Itm) else none)[i]? = some x := hx
  obtain ⟨j,hj,hf⟩ := pick_get hx'
  split at hf
  ·rename_i ht
   injection hf with hf
   have hfl := floorOf_join ha.2 hb.2 hj
   have htp := (topF_pos ha.2 hb.2 (j : Int)).1
   have he : entOk (topE a b (j : Int)) := by
    have key : topE a b (j : Int) = (entP a.items (j : Int)).1 ∨ topE a b (j : Int) = (entP b.items (j : Int)).1 := by unfold topE entMax; split; exact .inr rfl; exact .inl rfl
    rcases key with h | h
    ·rcases entP_cases ha.1 (j : Int) with h2 | h2
     ·rw [h,h2] at ht; simp only [zEnt] at ht; omega
     ·rw [h]; exact h2
    ·rcases entP_cases hb.1 (j : Int) with h2 | h2
     ·rw [h,h2] at ht; simp only [zEnt] at ht; omega
     ·rw [h]; exact h2
   rw [← hf]
   refine ⟨⟨by simp only; omega,by simp only; omega⟩,he,by simp only; rw [hfl]; exact ht,fun y h0 hy => ?_⟩
   have := pick_lt (id := Itm.id) (fun j x hx => by
    split at hx
    ·injection hx with hx; rw [← hx]
    ·cases hx) hx' h0 hy
   rw [← hf] at this
   exact this
  ·cases hf
 ·have hx' : ((List.range 5).filterMap fun (j : Nat) => if topF a b (j : Int) > 0 then some (⟨(j : Int),topF a b (j : Int)⟩ : Flr) else none)[i]? = some x := hx
  obtain ⟨j,hj,hf⟩ := pick_get hx'
  split at hf
  ·rename_i ht
   injection hf with hf
   have htp := (topF_pos ha.2 hb.2 (j : Int))
   rw [← hf]
   refine ⟨⟨by simp only; omega,by simp only; omega⟩,⟨by simp only; omega,htp.2⟩,fun y h0 hy => ?_⟩
   have := pick_lt (id := Flr.id) (fun j x hx => by
    split at hx
    ·injection hx with hx; rw [← hx]
    ·cases hx) hx' h0 hy
   rw [← hf] at this
   exact this
  ·cases hf
theorem stateOk_nil : stateOk ⟨[],[]⟩ := ⟨fun j x h => (by cases h),fun j x h => (by cases h)⟩
noncomputable abbrev pruneG (s : Sta) (t : List (List Int)) (id : Int) : Int := min (common t id) (goneAt s id)
open Classical in
noncomputable def pruneF (s : Sta) (t : List (List Int)) : Sta := if stateOk s then joinF s ⟨[],marksF (pruneG s t) 5⟩ 5 else s
theorem goneAt_le {s : Sta} (h : stateOk s) (id : Int) : 0 ≤ goneAt s id ∧ goneAt s id ≤ 1000 := by
 rw [goneAt,if_pos h]
 rcases hb : entP s.items id with ⟨e,b⟩
 cases b with
 | false => simpa using floorOf_pos h.2 id
 | true =>
  have he := (ent_ok h hb.symm).1
  simp only [if_true]
  split <;> omega
theorem marksOk_F {g : Int → Int} (h : ∀ i,g i ≤ 1000) : marksOk (marksF g 5) := by
 intro j x hx
 have hx' : ((List.range 5).filterMap fun (j : Nat) => if g (j : Int) > 0 then some (⟨(j : Int),g (j : Int)⟩ : Flr) else none)[j]? = some x := hx
 obtain ⟨k,hk,hf⟩ := pick_get hx'
 split at hf
 ·rename_i hp
  injection hf with hf
  have h1 := h (k : Int)
  rw [← hf]
  refine ⟨⟨by simp only; omega,by simp only; omega⟩,⟨by simp only; omega,h1⟩,fun y h0 hy => ?_⟩
  have := pick_lt (id := Flr.id) (fun j x hx => by
   split at hx
   ·injection hx with hx; rw [← hx]
   ·cases hx) hx' h0 hy
  rw [← hf] at this
  exact this
 ·cases hf
theorem big_floors {l : List Flr} (h : l.length ≤ 5) : bigS ⟨[],l⟩ := ⟨Nat.zero_le _,by show l.length ≤ 1048576; omega,fun x hx => (nomatch hx)⟩
theorem stateOk_floors {l : List Flr} (h : marksOk l) : stateOk ⟨[],l⟩ := ⟨fun j x hx => (nomatch hx),h⟩
theorem ac_spec_l1Min (a b : Int) (st : St) : C 40 [vI a,vI b] st (fun v s => v = vI (min a b) ∧ s = st) := by
 refine AC.enterX (i := ⟨[],[],[0,1,4,7],[]⟩) [] Tryd.func40 rfl rfl (by kernel_rfl) (by kernel_rfl) Tryd.ntmps40 (Lb rfl) rfl ?_
 refine Cu lo0 st [(0,vI a),(1,vI b),(4,vI 0)] fun _ => ?_
 refine ⟨_,rfl,?_⟩
 rintro (_|_) h7
 ·replace h7 : ¬ (a < b) := of_decide_eq_false h7
  refine Cu lo0 st [(0,vI a),(1,vI b),(4,vI 0),(7,vB false)] fun _ => ?_
  refine cxs ?_
  exact cxs (Rt ⟨congrArg vI (by omega),rfl⟩)
 ·replace h7 : a < b := of_decide_eq_true h7
  refine Cu lo0 st [(0,vI a),(1,vI b),(4,vI 0),(7,vB true)] fun _ => ?_
  exact cxs (Rt ⟨congrArg vI (by omega),rfl⟩)
theorem ac_impl_Prune (s : SV) (p : Option Addr) (t : List RV) (st : St) (hR : RdS st s) (hT : RdT st p t) (hb : bigS s.x) (hs : szOk t.length) (hr : ∀ r ∈ t,szOk r.l.length) : C 12 [.agg #[vS s.p s.x.items.length,vS s.q s.x.floors.length],vS p t.length] st (fun v s' => ∃ u : SV,v = .agg #[vS u.p u.x.items.length,vS u.q u.x.floors.length] ∧ u.x = pruneF s.x (rls t) ∧ OwnP s' (pcS u) ∧ NewP st.next (pcS u) ∧ Pres st s') := by
 refine AC.enterX (i := ⟨[2,4,5],[2,4,5,27,34],[0,1,2,4,5,6,7,10,15,26],[]⟩) [(7,[2],[3])] Tryd.func12 rfl rfl (by kernel_rfl) (by kernel_rfl) Tryd.ntmps12 (Lb rfl) rfl ?_
 iterate 2 refine ⟨_,rfl,?_⟩
 refine Cm 2 st [(1,vS p t.length),Ml 2 0,Ml 4 1] [(2,0,cSV s),(4,1,[Sn,Sn])] fun _ _ => ?_
 refine ⟨_,Od rfl,?_⟩
 refine ⟨_,rfl,(ac_impl_StateOk s st hR (by first | assumption | omega)).mono ?_⟩
 rintro _ st ⟨x9,rfl,h9,rfl⟩
 rcases x9 with _|_
 ·replace h9 := fun k => Bool.false_ne_true (h9.2 k)
  refine ⟨_,rfl,?_⟩
  refine Cm 2 st [(1,vS p t.length),Ml 2 0,Ml 4 1,(10,vB true)] [(2,0,cSV s),(4,1,[Sn,Sn])] fun _ _ => ?_
  refine ⟨_,Od rfl,?_⟩
  refine ⟨_,rfl,(ac_impl_copyState s st hR (by first | assumption | omega)).mono ?_⟩
  rintro _ s12 ⟨u12,rfl,h12,hO12,hN12,hP12⟩
  refine ⟨_,Os rfl,?_⟩
  exact cxs (Rt ⟨u12,rfl,h12.trans (by rw [pruneF,if_neg h9]),hO12,hN12,hP12⟩)
 ·replace h9 := h9.1 rfl
  refine ⟨_,rfl,?_⟩
  refine Cm 2 st [(1,vS p t.length),Ml 2 0,Ml 4 1,(10,vB false)] [(2,0,cSV s),(4,1,[Sn,Sn])] fun _ _ => ?_
  refine cxs ?_
  iterate 2 refine ⟨_,rfl,?_⟩
  refine ⟨_,Os rfl,?_⟩
  refine cxs ?_
  refine Cm 3 st [(1,vS p t.length),Ml 2 0,Ml 4 1,Ml 5 2,(6,vI 0)] [(2,0,cSV s),(4,1,[Sn,Sn]),(5,2,[Sn,Sn])] fun _ _ => ?_
  refine AW.loopM (fun x : Nat × Option Addr => [(1,vS p t.length),(2,vL 2 0 (0)),(4,vL 4 0 (1)),(5,vL 5 0 (2)),(6,vI (x.1 : Int))]) (fun x : Nat × Option Addr => [(2,0,[vS s.p s.x.items.length,vS s.q s.x.floors.length]),(4,1,[.slice none 0 0,.slice none 0 0]),(5,2,[.slice none 0 0,vS x.2 (marksF (pruneG s.x (rls t)) x.1).length])]) (fun m (x : Nat × Option Addr) st' => m = 5 - x.1 ∧ x.1 ≤ 5 ∧ OwnR st' 2 cFlr x.2 (marksF (pruneG s.x (rls t)) x.1) ∧ New st.next x.2 ∧ Pres st st') (0,none) _ ⟨rfl,rfl,rfl,rfl,rfl,trivial⟩ ⟨rfl,rfl,rfl,trivial⟩ ⟨rfl,Nat.zero_le _,OwnR.nil,New.none,Pres.refl _⟩ ?_
  rintro m ⟨i,q⟩ ρ0 ff gg st' ⟨rfl,hi,hO,hN,hP⟩
  simp only at hi hO hN
  have hml := marksF_len (pruneG s.x (rls t)) i
  have hm := marksF_succ (pruneG s.x (rls t)) i
  refine ⟨_,rfl,?_⟩
  rintro (_|_) h15
  ·replace h15 : ¬ ((i : Int) < (5)) := of_decide_eq_false h15
   refine Cm gg st' [(1,vS p t.length),Ml 2 0,Ml 4 1,Ml 5 2,(6,vI (i : Int)),(15,vB false)] [(2,0,cSV s),(4,1,[Sn,Sn]),(5,2,[Sn,vS q (marksF (pruneG s.x (rls t)) i).length])] fun _ _ => ?_
   have hil : i = 5 := by omega
   subst hil
   refine cxs ?_
   refine ⟨_,Od rfl,?_⟩
   refine ⟨_,Od rfl,?_⟩
   refine ⟨_,rfl,(ac_impl_stateJoin s ⟨none,q,⟨[],marksF (pruneG s.x (rls t)) 5⟩⟩ st' (hR.pres hP) ⟨Rows.nil,hO.rows len_cFlr⟩ hb (big_floors hml)).mono ?_⟩
   rintro _ s37 ⟨u,rfl,hu,hO37,hN37,hP37⟩
   refine ⟨_,Os rfl,?_⟩
   exact cxs (Rt ⟨u,rfl,by rw [hu,pruneF,if_pos h9],hO37,hN37.le hP.1,hP.trans hP37⟩)
  ·replace h15 : (i : Int) < (5) := of_decide_eq_true h15
   refine Cm gg st' [(1,vS p t.length),Ml 2 0,Ml 4 1,Ml 5 2,(6,vI (i : Int)),(15,vB true)] [(2,0,cSV s),(4,1,[Sn,Sn]),(5,2,[Sn,vS q (marksF (pruneG s.x (rls t)) i).length])] fun _ _ => ?_
   refine cxs ?_
   refine ⟨_,rfl,(ac_impl_Common p t (i : Int) st' (hT.pres hP) (by first | assumption | omega) (by first | assumption | omega)).mono ?_⟩
   rintro _ st' ⟨rfl,rfl⟩
   refine ⟨fun _ _ => rfl,?_⟩
   refine ⟨_,Od rfl,?_⟩
   refine ⟨ld_own rfl rfl rfl,?_⟩
   refine ⟨_,rfl,(ac_impl_GoneAt s (i : Int) st' (hR.pres hP) (by first | assumption | omega)).mono ?_⟩
   rintro _ st' ⟨rfl,rfl⟩
   refine ⟨.int .i64 (min (common (rls t) (i : Int)) (goneAt s.x (i : Int))),ammL_min _ _,?_⟩
   refine Cm gg st' [(1,vS p t.length),Ml 2 0,Ml 4 1,Ml 5 2,(6,vI (i : Int)),(7,vI (min (common (rls t) (i : Int)) (goneAt s.x (i : Int)))),(15,vB true)] [(2,0,cSV s),(4,1,[Sn,Sn]),(5,2,[Sn,vS q (marksF (pruneG s.x (rls t)) i).length])] fun _ _ => ?_
   refine ⟨_,rfl,?_⟩
   rintro (_|_) h26
   ·replace h26 : ¬ ((min (common (rls t) (i : Int)) (goneAt s.x (i : Int))) > (0)) := of_decide_eq_false h26
    refine Cm gg st' [(1,vS p t.length),Ml 2 0,Ml 4 1,Ml 5 2,(6,vI (i : Int)),(7,vI (min (common (rls t) (i : Int)) (goneAt s.x (i : Int)))),(15,vB true),(26,vB false)] [(2,0,cSV s),(4,1,[Sn,Sn]),(5,2,[Sn,vS q (marksF (pruneG s.x (rls t)) i).length])] fun _ _ => ?_
    refine cxs ?_
    have ew17 : IntKind.wrap .i64 ((i : Int) + (1)) = ((i + 1 : Nat) : Int) := (wrap_i64 (by omega) (by omega)).trans (by omega)
    refine ⟨_,rfl,?_⟩
    rw [if_neg h26] at hm
    exact ⟨(i + 1,q),5 - (i + 1),by omega,⟨rfl,rfl,rfl,rfl,congrArg (Value.int .i64) ew17,trivial⟩,⟨rfl,rfl,(show some (2,[.slice none 0 0,vS q (marksF (pruneG s.x (rls t)) i).length]) = some (2,[.slice none 0 0,vS q (marksF (pruneG s.x (rls t)) (i + 1)).length]) by rw [hm]),trivial⟩,rfl,by omega,by rw [hm]; exact hO,hN,hP⟩
   ·replace h26 : (min (common (rls t) (i : Int)) (goneAt s.x (i : Int))) > (0) := of_decide_eq_true h26
    refine Cm gg st' [(1,vS p t.length),Ml 2 0,Ml 4 1,Ml 5 2,(6,vI (i : Int)),(7,vI (min (common (rls t) (i : Int)) (goneAt s.x (i : Int)))),(15,vB true),(26,vB true)] [(2,0,cSV s),(4,1,[Sn,Sn]),(5,2,[Sn,vS q (marksF (pruneG s.x (rls t)) i).length])] fun _ _ => ?_
    refine ⟨_,rfl,?_⟩
    refine ⟨_,Od rfl,?_⟩
    refine ⟨_,rfl,?_⟩
    refine op_one (z := 2) (a := (⟨(i : Int),pruneG s.x (rls t) i⟩ : Flr)) (f := cFlr) rfl rfl rfl rfl rfl (by decide) rfl (Lb rfl) rfl rfl rfl ?_
    refine op_add (z := 2) (st := st') (f := cFlr) (b := 16) (l := marksF (pruneG s.x (rls t)) i) rfl rfl rfl rfl rfl rfl rfl (by decide) len_cFlr rfl rfl rfl (by omega) (by unfold maxLen; omega) hO ?_
    intro q33 s33 hO33 hP33 hN33
    refine ⟨_,rfl,?_⟩
    refine ⟨_,Os rfl,?_⟩
    refine Cm gg s33 [(1,vS p t.length),Ml 2 0,Ml 4 1,Ml 5 2,(6,vI (i : Int)),(7,vI (min (common (rls t) (i : Int)) (goneAt s.x (i : Int)))),(15,vB true),(26,vB true)] [(2,0,cSV s),(4,1,[Sn,Sn]),(5,2,[Sn,vS q33 ((marksF (pruneG s.x (rls t)) i).length + 1)])] fun _ _ => ?_
    have ew17 : IntKind.wrap .i64 ((i : Int) + (1)) = ((i + 1 : Nat) : Int) := (wrap_i64 (by omega) (by omega)).trans (by omega)
    refine ⟨_,rfl,?_⟩
    rw [if_pos h26] at hm
    exact ⟨(i + 1,q33),5 - (i + 1),by omega,⟨rfl,rfl,rfl,rfl,congrArg (Value.int .i64) ew17,trivial⟩,⟨rfl,rfl,(show some (2,[.slice none 0 0,vS q33 ((marksF (pruneG s.x (rls t)) i).length + 1)]) = some (2,[.slice none 0 0,vS q33 (marksF (pruneG s.x (rls t)) (i + 1)).length]) by rw [hm,List.length_append]; rfl),trivial⟩,rfl,by omega,by rw [hm]; exact hO33,hN33.le hP.1,hP33.pres hP hN⟩
theorem ac_spec_Prune (s : SV) (p : Option Addr) (t : List RV) (st : St) (hR : RdS st s) (hT : RdT st p t) (hb : bigS s.x) (hs : szOk t.length) (hr : ∀ r ∈ t,szOk r.l.length) : C 16 [.agg #[vS s.p s.x.items.length,vS s.q s.x.floors.length],vS p t.length] st (fun v s' => ∃ u : SV,v = .agg #[vS u.p u.x.items.length,vS u.q u.x.floors.length] ∧ u.x = pruneF s.x (rls t) ∧ OwnP s' (pcS u) ∧ NewP st.next (pcS u) ∧ Pres st s') := by
 refine AC.enterX (i := ⟨[2,4,5],[2,4,5,27,34],[0,1,2,4,5,6,7,10,15,26],[]⟩) [(7,[2],[3])] Tryd.func16 rfl rfl (by kernel_rfl) (by kernel_rfl) Tryd.ntmps16 (Lb rfl) rfl ?_
 iterate 2 refine ⟨_,rfl,?_⟩
 refine Cm 2 st [(1,vS p t.length),Ml 2 0,Ml 4 1] [(2,0,cSV s),(4,1,[Sn,Sn])] fun _ _ => ?_
 refine ⟨_,Od rfl,?_⟩
 refine ⟨_,rfl,(ac_spec_StateOk s st hR (by first | assumption | omega)).mono ?_⟩
 rintro _ st ⟨x9,rfl,h9,rfl⟩
 rcases x9 with _|_
 ·replace h9 := fun k => Bool.false_ne_true (h9.2 k)
  refine ⟨_,rfl,?_⟩
  refine Cm 2 st [(1,vS p t.length),Ml 2 0,Ml 4 1,(10,vB true)] [(2,0,cSV s),(4,1,[Sn,Sn])] fun _ _ => ?_
  refine ⟨_,Od rfl,?_⟩
  refine ⟨_,rfl,(ac_spec_l3Copy s st hR (by first | assumption | omega)).mono ?_⟩
  rintro _ s12 ⟨u12,rfl,h12,hO12,hN12,hP12⟩
  refine ⟨_,Os rfl,?_⟩
  exact cxs (Rt ⟨u12,rfl,h12.trans (by rw [pruneF,if_neg h9]),hO12,hN12,hP12⟩)
 ·replace h9 := h9.1 rfl
  refine ⟨_,rfl,?_⟩
  refine Cm 2 st [(1,vS p t.length),Ml 2 0,Ml 4 1,(10,vB false)] [(2,0,cSV s),(4,1,[Sn,Sn])] fun _ _ => ?_
  refine cxs ?_
  iterate 2 refine ⟨_,rfl,?_⟩
  refine ⟨_,Os rfl,?_⟩
  refine cxs ?_
  refine Cm 3 st [(1,vS p t.length),Ml 2 0,Ml 4 1,Ml 5 2,(6,vI 0)] [(2,0,cSV s),(4,1,[Sn,Sn]),(5,2,[Sn,Sn])] fun _ _ => ?_
  refine AW.loopM (fun x : Nat × Option Addr => [(1,vS p t.length),(2,vL 2 0 (0)),(4,vL 4 0 (1)),(5,vL 5 0 (2)),(6,vI (x.1 : Int))]) (fun x : Nat × Option Addr => [(2,0,[vS s.p s.x.items.length,vS s.q s.x.floors.length]),(4,1,[.slice none 0 0,.slice none 0 0]),(5,2,[.slice none 0 0,vS x.2 (marksF (pruneG s.x (rls t)) x.1).length])]) (fun m (x : Nat × Option Addr) st' => m = 5 - x.1 ∧ x.1 ≤ 5 ∧ OwnR st' 2 cFlr x.2 (marksF (pruneG s.x (rls t)) x.1) ∧ New st.next x.2 ∧ Pres st st') (0,none) _ ⟨rfl,rfl,rfl,rfl,rfl,trivial⟩ ⟨rfl,rfl,rfl,trivial⟩ ⟨rfl,Nat.zero_le _,OwnR.nil,New.none,Pres.refl _⟩ ?_
  rintro m ⟨i,q⟩ ρ0 ff gg st' ⟨rfl,hi,hO,hN,hP⟩
  simp only at hi hO hN
  have hml := marksF_len (pruneG s.x (rls t)) i
  have hm := marksF_succ (pruneG s.x (rls t)) i
  refine ⟨_,rfl,?_⟩
  rintro (_|_) h15
  ·replace h15 : ¬ ((i : Int) < (5)) := of_decide_eq_false h15
   refine Cm gg st' [(1,vS p t.length),Ml 2 0,Ml 4 1,Ml 5 2,(6,vI (i : Int)),(15,vB false)] [(2,0,cSV s),(4,1,[Sn,Sn]),(5,2,[Sn,vS q (marksF (pruneG s.x (rls t)) i).length])] fun _ _ => ?_
   have hil : i = 5 := by omega
   subst hil
   refine cxs ?_
   refine ⟨_,Od rfl,?_⟩
   refine ⟨_,Od rfl,?_⟩
   refine ⟨_,rfl,(ac_spec_l3Join s ⟨none,q,⟨[],marksF (pruneG s.x (rls t)) 5⟩⟩ st' (hR.pres hP) ⟨Rows.nil,hO.rows len_cFlr⟩ hb (big_floors hml) h9 (stateOk_floors (marksOk_F fun i => by have := goneAt_le h9 i; unfold pruneG; omega))).mono ?_⟩
   rintro _ s37 ⟨u,rfl,hu,hO37,hN37,hP37⟩
   refine ⟨_,Os rfl,?_⟩
   exact cxs (Rt ⟨u,rfl,by rw [hu,pruneF,if_pos h9],hO37,hN37.le hP.1,hP.trans hP37⟩)
  ·replace h15 : (i : Int) < (5) := of_decide_eq_true h15
   refine Cm gg st' [(1,vS p t.length),Ml 2 0,Ml 4 1,Ml 5 2,(6,vI (i : Int)),(15,vB true)] [(2,0,cSV s),(4,1,[Sn,Sn]),(5,2,[Sn,vS q (marksF (pruneG s.x (rls t)) i).length])] fun _ _ => ?_
   refine cxs ?_
   refine ⟨_,rfl,(ac_spec_Common p t (i : Int) st' (hT.pres hP) (by first | assumption | omega) (by first | assumption | omega)).mono ?_⟩
   rintro _ st' ⟨rfl,rfl⟩
   refine ⟨fun _ _ => rfl,?_⟩
   refine ⟨_,Od rfl,?_⟩
   refine ⟨ld_own rfl rfl rfl,?_⟩
   refine ⟨_,rfl,(ac_spec_GoneAt s (i : Int) st' (hR.pres hP) (by first | assumption | omega)).mono ?_⟩
   rintro _ st' ⟨rfl,rfl⟩
   refine ⟨_,rfl,(ac_spec_l1Min (common (rls t) (i : Int)) (goneAt s.x (i : Int)) st').mono ?_⟩
   rintro _ st' ⟨rfl,rfl⟩
   refine Cm gg st' [(1,vS p t.length),Ml 2 0,Ml 4 1,Ml 5 2,(6,vI (i : Int)),(7,vI (min (common (rls t) (i : Int)) (goneAt s.x (i : Int)))),(15,vB true)] [(2,0,cSV s),(4,1,[Sn,Sn]),(5,2,[Sn,vS q (marksF (pruneG s.x (rls t)) i).length])] fun _ _ => ?_
   refine ⟨_,rfl,?_⟩
   rintro (_|_) h26
   ·replace h26 : ¬ ((min (common (rls t) (i : Int)) (goneAt s.x (i : Int))) > (0)) := of_decide_eq_false h26
    refine Cm gg st' [(1,vS p t.length),Ml 2 0,Ml 4 1,Ml 5 2,(6,vI (i : Int)),(7,vI (min (common (rls t) (i : Int)) (goneAt s.x (i : Int)))),(15,vB true),(26,vB false)] [(2,0,cSV s),(4,1,[Sn,Sn]),(5,2,[Sn,vS q (marksF (pruneG s.x (rls t)) i).length])] fun _ _ => ?_
    refine cxs ?_
    have ew17 : IntKind.wrap .i64 ((i : Int) + (1)) = ((i + 1 : Nat) : Int) := (wrap_i64 (by omega) (by omega)).trans (by omega)
    refine ⟨_,rfl,?_⟩
    rw [if_neg h26] at hm
    exact ⟨(i + 1,q),5 - (i + 1),by omega,⟨rfl,rfl,rfl,rfl,congrArg (Value.int .i64) ew17,trivial⟩,⟨rfl,rfl,(show some (2,[.slice none 0 0,vS q (marksF (pruneG s.x (rls t)) i).length]) = some (2,[.slice none 0 0,vS q (marksF (pruneG s.x (rls t)) (i + 1)).length]) by rw [hm]),trivial⟩,rfl,by omega,by rw [hm]; exact hO,hN,hP⟩
   ·replace h26 : (min (common (rls t) (i : Int)) (goneAt s.x (i : Int))) > (0) := of_decide_eq_true h26
    refine Cm gg st' [(1,vS p t.length),Ml 2 0,Ml 4 1,Ml 5 2,(6,vI (i : Int)),(7,vI (min (common (rls t) (i : Int)) (goneAt s.x (i : Int)))),(15,vB true),(26,vB true)] [(2,0,cSV s),(4,1,[Sn,Sn]),(5,2,[Sn,vS q (marksF (pruneG s.x (rls t)) i).length])] fun _ _ => ?_
    refine ⟨_,rfl,?_⟩
    refine ⟨_,Od rfl,?_⟩
    refine ⟨_,rfl,?_⟩
    refine op_one (z := 2) (a := (⟨(i : Int),pruneG s.x (rls t) i⟩ : Flr)) (f := cFlr) rfl rfl rfl rfl rfl (by decide) rfl (Lb rfl) rfl rfl rfl ?_
    refine op_add (z := 2) (st := st') (f := cFlr) (b := 16) (l := marksF (pruneG s.x (rls t)) i) rfl rfl rfl rfl rfl rfl rfl (by decide) len_cFlr rfl rfl rfl (by omega) (by unfold maxLen; omega) hO ?_
    intro q33 s33 hO33 hP33 hN33
    refine ⟨_,rfl,?_⟩
    refine ⟨_,Os rfl,?_⟩
    refine Cm gg s33 [(1,vS p t.length),Ml 2 0,Ml 4 1,Ml 5 2,(6,vI (i : Int)),(7,vI (min (common (rls t) (i : Int)) (goneAt s.x (i : Int)))),(15,vB true),(26,vB true)] [(2,0,cSV s),(4,1,[Sn,Sn]),(5,2,[Sn,vS q33 ((marksF (pruneG s.x (rls t)) i).length + 1)])] fun _ _ => ?_
    have ew17 : IntKind.wrap .i64 ((i : Int) + (1)) = ((i + 1 : Nat) : Int) := (wrap_i64 (by omega) (by omega)).trans (by omega)
    refine ⟨_,rfl,?_⟩
    rw [if_pos h26] at hm
    exact ⟨(i + 1,q33),5 - (i + 1),by omega,⟨rfl,rfl,rfl,rfl,congrArg (Value.int .i64) ew17,trivial⟩,⟨rfl,rfl,(show some (2,[.slice none 0 0,vS q33 ((marksF (pruneG s.x (rls t)) i).length + 1)]) = some (2,[.slice none 0 0,vS q33 (marksF (pruneG s.x (rls t)) (i + 1)).length]) by rw [hm,List.length_append]; rfl),trivial⟩,rfl,by omega,by rw [hm]; exact hO33,hN33.le hP.1,hP33.pres hP hN⟩
theorem entP_sz {l : List Itm} (h : ∀ x ∈ l,szOk x.e.data.size) (id : Int) : szOk (entP l id).1.data.size := by
 induction l with
 | nil => exact Nat.zero_le _
 | cons x l ih =>
  rw [entP]
  split
  ·exact h x (List.mem_cons_self ..)
  ·exact ih fun y hy => h y (List.mem_cons_of_mem _ hy)
theorem bigS_join {a b : Sta} (ha : bigS a) (hb : bigS b) : bigS (joinF a b 5) := by
 have hl := joinF_len a b 5
 refine ⟨by unfold szOk; omega,by unfold szOk; omega,fun x hx => ?_⟩
 have hx : x ∈ (List.range 5).filterMap fun (j : Nat) => if (topE a b (j : Int)).inc > topF a b (j : Int) then some (⟨(j : Int),topE a b (j : Int)⟩ : Itm) else none := hx
 obtain ⟨j,_,hj⟩ := List.mem_filterMap.1 hx
 split at hj
 ·injection hj with hj
  rw [← hj]
  show szOk (entMax (entP a.items j).1 (entP b.items j).1).data.size
  unfold entMax
  split
  ·exact entP_sz hb.2.2 _
  ·exact entP_sz ha.2.2 _
 ·cases hj
end Go.Proofs.YteabadoaeadcgaaDoor.AM
