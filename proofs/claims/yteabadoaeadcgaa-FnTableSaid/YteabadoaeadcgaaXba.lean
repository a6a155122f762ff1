/- Part 1 of the texts on which the law's proof rests. -/
import Derived.Test.YteabadoaeadcgaaXad
namespace Go.Proofs.Yteabadoaeadcgaa.AM
open Go Go.Proofs
set_option linter.unusedVariables false
set_option linter.unusedSimpArgs false
set_option maxRecDepth 100000
set_option maxHeartbeats 4000000
def rowOk (l : List Int) : Prop := l.length = 5 ∧ ∀ (j : Nat) x,l[j]? = some x → 0 ≤ x ∧ x ≤ 1000
def tableOk (t : List (List Int)) (n : Int) : Prop := (1 ≤ n ∧ n ≤ 5) ∧ (t.length : Int) = n ∧ ∀ l ∈ t,rowOk l
theorem rows_of {t : List RV} {n : Int} (h : tableOk (t.map (·.l)) n) {i : Nat} {r : RV} (hr : t[i]? = some r) : rowOk r.l := h.2.2 _ (List.mem_map_of_mem (List.mem_of_getElem? hr))
theorem rows_to {t : List RV} (h : ∀ (j : Nat) r,t[j]? = some r → rowOk r.l) : ∀ l ∈ t.map (·.l),rowOk l := fun l hl => by
 obtain ⟨r,hr,rfl⟩ := List.mem_map.1 hl
 obtain ⟨i,hi⟩ := List.getElem?_of_mem hr
 exact h i r hi
theorem ac_spec_TableOk (p : Option Addr) (t : List RV) (n : Int) (st : St) (hR : RdT st p t) (hs : szOk t.length) (hr : ∀ r ∈ t,szOk r.l.length) : C 22 [vS p t.length,vI n] st (fun v s => ∃ x,v = .bool x ∧ (x = true ↔ tableOk (t.map (·.l)) n) ∧ s = st) := by
 have hs : t.length ≤ 1048576 := hs
 refine AC.enterX (i := ⟨[],[],[0,1,4,5,6,15,18,26,33,44],[]⟩) [] Try.func22 rfl rfl (by kernel_rfl) (by kernel_rfl) Try.ntmps22 (Nat.le_of_ble_eq_true rfl) rfl ?_
 refine AW.cut lo0 st [(0,vS p t.length),(1,vI n),(4,vB false)] ⟨rfl,rfl,rfl,trivial⟩ fun ρ0 => ?_
 refine ⟨_,rfl,(ac_spec_l1In n 1 5 st).mono ?_⟩
 rintro _ st ⟨y,rfl,hy,rfl⟩
 rcases y with _|_
 ·replace hy := of_decide_eq_false hy.symm
  iterate 2 refine ⟨_,rfl,?_⟩
  refine AW.cut lo0 st [(0,vS p t.length),(1,vI n),(4,vB false),(15,vB true)] ⟨rfl,rfl,rfl,rfl,trivial⟩ fun ρ0 => ?_
  refine cxs ?_
  exact ⟨.inl rfl,_,rfl,false,rfl,⟨fun h => absurd h Bool.false_ne_true,fun h => absurd h.1 hy⟩,rfl⟩
 ·replace hy := of_decide_eq_true hy.symm
  iterate 3 refine ⟨_,rfl,?_⟩
  rintro (_|_) h0
  ·replace h0 : (t.length : Int) = n := bne_eq_false_iff_eq.1 h0
   refine ⟨_,rfl,?_⟩
   refine AW.cut lo0 st [(0,vS p t.length),(1,vI n),(4,vB false),(15,vB false)] ⟨rfl,rfl,rfl,rfl,trivial⟩ fun ρ0 => ?_
   refine cxs ?_
   refine AW.cut lo0 st [(0,vS p t.length),(1,vI n),(4,vB false),(5,vI (0))] ⟨rfl,rfl,rfl,rfl,trivial⟩ fun ρ0 => ?_
   refine AW.loop0 (fun i : Nat => [(0,vS p t.length),(1,vI n),(5,vI (i : Int))]) (fun m (i : Nat) st' => m = t.length - i ∧ i ≤ t.length ∧ (∀ (j : Nat) r,j < i → t[j]? = some r → rowOk r.l) ∧ st = st') 0 _ ⟨rfl,rfl,rfl,trivial⟩ rfl ⟨rfl,Nat.zero_le _,fun j r h => absurd h (Nat.not_lt_zero _),rfl⟩ ?_
   rintro m i ρ0 st' ⟨rfl,hi,hok,rfl⟩
   refine ⟨_,rfl,?_⟩
   rintro (_|_) h1
   ·replace h1 : ¬ ((i : Int) < n) := of_decide_eq_false h1
    refine AW.cut lo0 st [(0,vS p t.length),(1,vI n),(5,vI (i : Int)),(18,vB false)] ⟨rfl,rfl,rfl,rfl,trivial⟩ fun ρ0 => ?_
    refine cxs ?_
    refine cxs ?_
    exact ⟨.inl rfl,_,rfl,true,rfl,⟨fun _ => ⟨hy,by rw [List.length_map]; exact h0,rows_to fun j r hr => hok j r (by have := (List.getElem?_eq_some_iff.1 hr).1; omega) hr⟩,fun _ => rfl⟩,rfl⟩
   ·replace h1 : (i : Int) < n := of_decide_eq_true h1
    refine AW.cut lo0 st [(0,vS p t.length),(1,vI n),(5,vI (i : Int)),(18,vB true)] ⟨rfl,rfl,rfl,rfl,trivial⟩ fun ρ0 => ?_
    have h1' : i < t.length := by omega
    have ⟨b1,o1,k1,r,hpe,hr1,hm1,hc1⟩ := hR.1.at h1'
    have hmem := List.mem_of_getElem? hr1
    have hrs : r.l.length ≤ 1048576 := hr r hmem
    refine cxs ?_
    refine ⟨_,op_idx (j := (i : Int)) (n := t.length) (q := ⟨b1,o1,none⟩) rfl (congrArg (fun u => vS u t.length) hpe) rfl rfl rfl (Int.natCast_nonneg _) (Int.ofNat_lt.2 h1'),?_⟩
    refine ⟨_,op_ldc (i := 0) (v := vS r.p r.l.length) rfl rfl rfl rfl hm1 hc1 rfl rfl,?_⟩
    iterate 2 refine ⟨_,rfl,?_⟩
    rintro (_|_) h2
    ·replace h2 : (r.l.length : Int) = 5 := bne_eq_false_iff_eq.1 h2
     refine AW.cut lo0 st [(0,vS p t.length),(1,vI n),(5,vI (i : Int)),(18,vB true),(26,vB false)] ⟨rfl,rfl,rfl,rfl,rfl,trivial⟩ fun ρ0 => ?_
     refine cxs ?_
     refine AW.cut lo0 st [(0,vS p t.length),(1,vI n),(5,vI (i : Int)),(6,vI (0)),(18,vB true),(26,vB false)] ⟨rfl,rfl,rfl,rfl,rfl,rfl,trivial⟩ fun ρ0 => ?_
     refine AW.loop0 (fun j : Nat => [(0,vS p t.length),(1,vI n),(5,vI (i : Int)),(6,vI (j : Int))]) (fun m (j : Nat) st' => m = r.l.length - j ∧ j ≤ r.l.length ∧ (∀ (u : Nat) x,u < j → r.l[u]? = some x → 0 ≤ x ∧ x ≤ 1000) ∧ st = st') 0 _ ⟨rfl,rfl,rfl,rfl,trivial⟩ rfl ⟨rfl,Nat.zero_le _,fun u x h => absurd h (Nat.not_lt_zero _),rfl⟩ ?_
     rintro m j ρ0 st' ⟨rfl,hj,hel,rfl⟩
     refine ⟨_,op_idx (j := (i : Int)) (n := t.length) (q := ⟨b1,o1,none⟩) rfl (congrArg (fun u => vS u t.length) hpe) rfl rfl rfl (Int.natCast_nonneg _) (Int.ofNat_lt.2 h1'),?_⟩
     refine ⟨_,op_ldc (i := 0) (v := vS r.p r.l.length) rfl rfl rfl rfl hm1 hc1 rfl rfl,?_⟩
     iterate 2 refine ⟨_,rfl,?_⟩
     rintro (_|_) h3
     ·replace h3 : ¬ ((j : Int) < (r.l.length : Int)) := of_decide_eq_false h3
      refine AW.cut lo0 st [(0,vS p t.length),(1,vI n),(5,vI (i : Int)),(6,vI (j : Int)),(33,vB false)] ⟨rfl,rfl,rfl,rfl,rfl,trivial⟩ fun ρ0 => ?_
      refine cxs ?_
      have e20 : IntKind.wrap .i64 ((i : Int) + 1) = ((i + 1 : Nat) : Int) := (wrap_i64 (by omega) (by omega)).trans (by omega)
      refine ⟨_,rfl,?_⟩
      refine ⟨i + 1,t.length - (i + 1),by omega,⟨rfl,rfl,congrArg (Value.int .i64) e20,trivial⟩,rfl,rfl,h1',fun u x hu hx => ?_,rfl⟩
      rcases Nat.lt_or_ge u i with h | h
      ·exact hok u x h hx
      ·obtain rfl : u = i := by omega
       rw [hr1] at hx
       injection hx with hx
       rw [← hx]
       exact ⟨by omega,fun v y hy => hel v y (by have := (List.getElem?_eq_some_iff.1 hy).1; omega) hy⟩
     ·replace h3 : (j : Int) < (r.l.length : Int) := of_decide_eq_true h3
      refine AW.cut lo0 st [(0,vS p t.length),(1,vI n),(5,vI (i : Int)),(6,vI (j : Int)),(33,vB true)] ⟨rfl,rfl,rfl,rfl,rfl,trivial⟩ fun ρ0 => ?_
      have h3' := Int.ofNat_lt.1 h3
      have ⟨b2,o2,k2,z,hqe,hz,hm2,hc2⟩ := (hR.2 r hmem).at h3'
      refine cxs ?_
      refine ⟨_,op_idx (j := (i : Int)) (n := t.length) (q := ⟨b1,o1,none⟩) rfl (congrArg (fun u => vS u t.length) hpe) rfl rfl rfl (Int.natCast_nonneg _) (Int.ofNat_lt.2 h1'),?_⟩
      refine ⟨_,op_ldc (i := 0) (v := vS r.p r.l.length) rfl rfl rfl rfl hm1 hc1 rfl rfl,?_⟩
      refine ⟨_,op_idx (j := (j : Int)) (n := r.l.length) (q := ⟨b2,o2,none⟩) rfl (congrArg (fun u => vS u r.l.length) hqe) rfl rfl rfl (Int.natCast_nonneg _) h3,?_⟩
      refine ⟨_,op_ldc (i := 0) (v := vI z) rfl rfl rfl rfl hm2 hc2 rfl rfl,?_⟩
      refine ⟨_,rfl,(ac_spec_l1In z 0 1000 st).mono ?_⟩
      rintro _ st ⟨c,rfl,h4,rfl⟩
      rcases c with _|_
      ·replace h4 := of_decide_eq_false h4.symm
       refine ⟨_,rfl,?_⟩
       refine AW.cut lo0 st [(0,vS p t.length),(1,vI n),(5,vI (i : Int)),(6,vI (j : Int)),(33,vB true),(44,vB true)] ⟨rfl,rfl,rfl,rfl,rfl,rfl,trivial⟩ fun ρ0 => ?_
       refine cxs ?_
       exact ⟨.inl rfl,_,rfl,false,rfl,⟨fun h => absurd h Bool.false_ne_true,fun h => absurd ((rows_of h hr1).2 j z hz) h4⟩,rfl⟩
      ·replace h4 := of_decide_eq_true h4.symm
       refine ⟨_,rfl,?_⟩
       refine AW.cut lo0 st [(0,vS p t.length),(1,vI n),(5,vI (i : Int)),(6,vI (j : Int)),(33,vB true),(44,vB false)] ⟨rfl,rfl,rfl,rfl,rfl,rfl,trivial⟩ fun ρ0 => ?_
       refine cxs ?_
       have e35 : IntKind.wrap .i64 ((j : Int) + 1) = ((j + 1 : Nat) : Int) := (wrap_i64 (by omega) (by omega)).trans (by omega)
       refine ⟨_,rfl,?_⟩
       refine ⟨j + 1,r.l.length - (j + 1),by omega,⟨rfl,rfl,rfl,congrArg (Value.int .i64) e35,trivial⟩,rfl,rfl,h3',fun u x hu hx => ?_,rfl⟩
       rcases Nat.lt_or_ge u j with h | h
       ·exact hel u x h hx
       ·obtain rfl : u = j := by omega
        rw [hz] at hx
        injection hx with hx
        rw [← hx]; exact h4
    ·replace h2 : ¬ ((r.l.length : Int) = 5) := bne_iff_ne.1 h2
     refine AW.cut lo0 st [(0,vS p t.length),(1,vI n),(5,vI (i : Int)),(18,vB true),(26,vB true)] ⟨rfl,rfl,rfl,rfl,rfl,trivial⟩ fun ρ0 => ?_
     refine cxs ?_
     exact ⟨.inl rfl,_,rfl,false,rfl,⟨fun h => absurd h Bool.false_ne_true,fun h => absurd (by have := (rows_of h hr1).1; omega) h2⟩,rfl⟩
  ·replace h0 : ¬ ((t.length : Int) = n) := bne_iff_ne.1 h0
   refine ⟨_,rfl,?_⟩
   refine AW.cut lo0 st [(0,vS p t.length),(1,vI n),(4,vB false),(15,vB true)] ⟨rfl,rfl,rfl,rfl,trivial⟩ fun ρ0 => ?_
   refine cxs ?_
   exact ⟨.inl rfl,_,rfl,false,rfl,⟨fun h => absurd h Bool.false_ne_true,fun h => absurd (by have := h.2.1; rwa [List.length_map] at this) h0⟩,rfl⟩
theorem ac_impl_TableOk (p : Option Addr) (t : List RV) (n : Int) (st : St) (hR : RdT st p t) (hs : szOk t.length) (hr : ∀ r ∈ t,szOk r.l.length) : C 21 [vS p t.length,vI n] st (fun v s => ∃ x,v = .bool x ∧ (x = true ↔ tableOk (t.map (·.l)) n) ∧ s = st) := by
 have hs : t.length ≤ 1048576 := hs
 refine AC.enterX (i := ⟨[],[],[0,1,4,6,8,9,10,11,12,15,16,17,18,23,27],[]⟩) [] Try.func21 rfl rfl (by kernel_rfl) (by kernel_rfl) Try.ntmps21 (Nat.le_of_ble_eq_true rfl) rfl ?_
 refine AW.cut lo0 st [(0,vS p t.length),(1,vI n),(4,vB false)] ⟨rfl,rfl,rfl,trivial⟩ fun ρ0 => ?_
 refine ⟨_,rfl,?_⟩
 refine AW.cut lo0 st [(0,vS p t.length),(1,vI n),(4,vB false),(9,vS p t.length),(10,vI (t.length)),(11,vI (0))] ⟨rfl,rfl,rfl,rfl,rfl,rfl,trivial⟩ fun ρ0 => ?_
 refine AW.loop0 (fun i : Nat => [(0,vS p t.length),(1,vI n),(9,vS p t.length),(10,vI (t.length : Int)),(11,vI (i : Int))]) (fun m (i : Nat) st' => m = t.length - i ∧ i ≤ t.length ∧ (∀ (j : Nat) r,j < i → t[j]? = some r → rowOk r.l) ∧ st = st') 0 _ ⟨rfl,rfl,rfl,rfl,rfl,trivial⟩ rfl ⟨rfl,Nat.zero_le _,fun j r h => absurd h (Nat.not_lt_zero _),rfl⟩ ?_
 rintro m i ρ0 st' ⟨rfl,hi,hok,rfl⟩
 refine ⟨_,rfl,?_⟩
 rintro (_|_) h1
 ·replace h1 : ¬ ((i : Int) < (t.length : Int)) := of_decide_eq_false h1
  refine AW.cut lo0 st [(0,vS p t.length),(1,vI n),(9,vS p t.length),(10,vI (t.length : Int)),(11,vI (i : Int)),(12,vB false)] ⟨rfl,rfl,rfl,rfl,rfl,rfl,trivial⟩ fun ρ0 => ?_
  refine cxs ?_
  refine ⟨_,rfl,(ac_impl_within n 1 5 st).mono ?_⟩
  rintro _ st ⟨y,rfl,hy,rfl⟩
  rcases y with _|_
  ·replace hy := of_decide_eq_false hy.symm
   refine ⟨_,rfl,?_⟩
   refine cxs ?_
   exact ⟨.inl rfl,_,rfl,false,rfl,⟨fun h => absurd h Bool.false_ne_true,fun h => absurd h.1 hy⟩,rfl⟩
  ·replace hy := of_decide_eq_true hy.symm
   iterate 2 refine ⟨_,rfl,?_⟩
   rintro (_|_) h0
   ·replace h0 : ¬ ((t.length : Int) = n) := beq_eq_false_iff_ne.1 h0
    refine ⟨_,rfl,?_⟩
    refine cxs ?_
    exact ⟨.inl rfl,_,rfl,false,rfl,⟨fun h => absurd h Bool.false_ne_true,fun h => absurd (by have := h.2.1; rwa [List.length_map] at this) h0⟩,rfl⟩
   ·replace h0 : (t.length : Int) = n := beq_iff_eq.1 h0
    refine ⟨_,rfl,?_⟩
    refine cxs ?_
    exact ⟨.inl rfl,_,rfl,true,rfl,⟨fun _ => ⟨hy,by rw [List.length_map]; exact h0,rows_to fun j r hr => hok j r (by have := (List.getElem?_eq_some_iff.1 hr).1; omega) hr⟩,fun _ => rfl⟩,rfl⟩
 ·replace h1 : (i : Int) < (t.length : Int) := of_decide_eq_true h1
  refine AW.cut lo0 st [(0,vS p t.length),(1,vI n),(9,vS p t.length),(10,vI (t.length : Int)),(11,vI (i : Int)),(12,vB true)] ⟨rfl,rfl,rfl,rfl,rfl,rfl,trivial⟩ fun ρ0 => ?_
  have h1' : i < t.length := by omega
  have ⟨b1,o1,k1,r,hpe,hr1,hm1,hc1⟩ := hR.1.at h1'
  have hmem := List.mem_of_getElem? hr1
  have hrs : r.l.length ≤ 1048576 := hr r hmem
  refine cxs ?_
  refine ⟨_,op_idx (j := (i : Int)) (n := t.length) (q := ⟨b1,o1,none⟩) rfl (congrArg (fun u => vS u t.length) hpe) rfl rfl rfl (Int.natCast_nonneg _) (Int.ofNat_lt.2 h1'),?_⟩
  refine ⟨_,op_ldc (i := 0) (v := vS r.p r.l.length) rfl rfl rfl rfl hm1 hc1 rfl rfl,?_⟩
  refine AW.cut lo0 st [(0,vS p t.length),(1,vI n),(6,vS r.p r.l.length),(9,vS p t.length),(10,vI (t.length : Int)),(11,vI (i : Int)),(12,vB true)] ⟨rfl,rfl,rfl,rfl,rfl,rfl,rfl,trivial⟩ fun ρ0 => ?_
  refine ⟨_,rfl,?_⟩
  refine AW.cut lo0 st [(0,vS p t.length),(1,vI n),(6,vS r.p r.l.length),(9,vS p t.length),(10,vI (t.length : Int)),(11,vI (i : Int)),(12,vB true),(15,vS r.p r.l.length),(16,vI (r.l.length)),(17,vI (0))] ⟨rfl,rfl,rfl,rfl,rfl,rfl,rfl,rfl,rfl,rfl,trivial⟩ fun ρ0 => ?_
  refine AW.loop0 (fun j : Nat => [(0,vS p t.length),(1,vI n),(6,vS r.p r.l.length),(9,vS p t.length),(10,vI (t.length : Int)),(11,vI (i : Int)),(15,vS r.p r.l.length),(16,vI (r.l.length : Int)),(17,vI (j : Int))]) (fun m (j : Nat) st' => m = r.l.length - j ∧ j ≤ r.l.length ∧ (∀ (u : Nat) x,u < j → r.l[u]? = some x → 0 ≤ x ∧ x ≤ 1000) ∧ st = st') 0 _ ⟨rfl,rfl,rfl,rfl,rfl,rfl,rfl,rfl,rfl,trivial⟩ rfl ⟨rfl,Nat.zero_le _,fun u x h => absurd h (Nat.not_lt_zero _),rfl⟩ ?_
  rintro m j ρ0 st' ⟨rfl,hj,hel,rfl⟩
  refine ⟨_,rfl,?_⟩
  rintro (_|_) h3
  ·replace h3 : ¬ ((j : Int) < (r.l.length : Int)) := of_decide_eq_false h3
   refine AW.cut lo0 st [(0,vS p t.length),(1,vI n),(6,vS r.p r.l.length),(9,vS p t.length),(10,vI (t.length : Int)),(11,vI (i : Int)),(15,vS r.p r.l.length),(16,vI (r.l.length : Int)),(17,vI (j : Int)),(18,vB false)] ⟨rfl,rfl,rfl,rfl,rfl,rfl,rfl,rfl,rfl,rfl,trivial⟩ fun ρ0 => ?_
   refine cxs ?_
   iterate 2 refine ⟨_,rfl,?_⟩
   rintro (_|_) h2
   ·replace h2 : (r.l.length : Int) = 5 := bne_eq_false_iff_eq.1 h2
    refine AW.cut lo0 st [(0,vS p t.length),(1,vI n),(6,vS r.p r.l.length),(9,vS p t.length),(10,vI (t.length : Int)),(11,vI (i : Int)),(15,vS r.p r.l.length),(16,vI (r.l.length : Int)),(17,vI (j : Int)),(18,vB false),(27,vB false)] ⟨rfl,rfl,rfl,rfl,rfl,rfl,rfl,rfl,rfl,rfl,rfl,trivial⟩ fun ρ0 => ?_
    refine cxs ?_
    have e28 : IntKind.wrap .i64 ((i : Int) + 1) = ((i + 1 : Nat) : Int) := (wrap_i64 (by omega) (by omega)).trans (by omega)
    refine ⟨_,rfl,?_⟩
    refine ⟨i + 1,t.length - (i + 1),by omega,⟨rfl,rfl,rfl,rfl,congrArg (Value.int .i64) e28,trivial⟩,rfl,rfl,h1',fun u x hu hx => ?_,rfl⟩
    rcases Nat.lt_or_ge u i with h | h
    ·exact hok u x h hx
    ·obtain rfl : u = i := by omega
     rw [hr1] at hx
     injection hx with hx
     rw [← hx]
     exact ⟨by omega,fun v y hy => hel v y (by have := (List.getElem?_eq_some_iff.1 hy).1; omega) hy⟩
   ·replace h2 : ¬ ((r.l.length : Int) = 5) := bne_iff_ne.1 h2
    refine AW.cut lo0 st [(0,vS p t.length),(1,vI n),(6,vS r.p r.l.length),(9,vS p t.length),(10,vI (t.length : Int)),(11,vI (i : Int)),(15,vS r.p r.l.length),(16,vI (r.l.length : Int)),(17,vI (j : Int)),(18,vB false),(27,vB true)] ⟨rfl,rfl,rfl,rfl,rfl,rfl,rfl,rfl,rfl,rfl,rfl,trivial⟩ fun ρ0 => ?_
    refine cxs ?_
    exact ⟨.inl rfl,_,rfl,false,rfl,⟨fun h => absurd h Bool.false_ne_true,fun h => absurd (by have := (rows_of h hr1).1; omega) h2⟩,rfl⟩
  ·replace h3 : (j : Int) < (r.l.length : Int) := of_decide_eq_true h3
   refine AW.cut lo0 st [(0,vS p t.length),(1,vI n),(6,vS r.p r.l.length),(9,vS p t.length),(10,vI (t.length : Int)),(11,vI (i : Int)),(15,vS r.p r.l.length),(16,vI (r.l.length : Int)),(17,vI (j : Int)),(18,vB true)] ⟨rfl,rfl,rfl,rfl,rfl,rfl,rfl,rfl,rfl,rfl,trivial⟩ fun ρ0 => ?_
   have h3' := Int.ofNat_lt.1 h3
   have ⟨b2,o2,k2,z,hqe,hz,hm2,hc2⟩ := (hR.2 r hmem).at h3'
   refine cxs ?_
   refine ⟨_,op_idx (j := (j : Int)) (n := r.l.length) (q := ⟨b2,o2,none⟩) rfl (congrArg (fun u => vS u r.l.length) hqe) rfl rfl rfl (Int.natCast_nonneg _) h3,?_⟩
   refine ⟨_,op_ldc (i := 0) (v := vI z) rfl rfl rfl rfl hm2 hc2 rfl rfl,?_⟩
   refine AW.cut lo0 st [(0,vS p t.length),(1,vI n),(6,vS r.p r.l.length),(8,vI z),(9,vS p t.length),(10,vI (t.length : Int)),(11,vI (i : Int)),(15,vS r.p r.l.length),(16,vI (r.l.length : Int)),(17,vI (j : Int)),(18,vB true)] ⟨rfl,rfl,rfl,rfl,rfl,rfl,rfl,rfl,rfl,rfl,rfl,trivial⟩ fun ρ0 => ?_
   refine ⟨_,rfl,(ac_impl_within z 0 1000 st).mono ?_⟩
   rintro _ st ⟨c,rfl,h4,rfl⟩
   rcases c with _|_
   ·replace h4 := of_decide_eq_false h4.symm
    refine ⟨_,rfl,?_⟩
    refine AW.cut lo0 st [(0,vS p t.length),(1,vI n),(6,vS r.p r.l.length),(8,vI z),(9,vS p t.length),(10,vI (t.length : Int)),(11,vI (i : Int)),(15,vS r.p r.l.length),(16,vI (r.l.length : Int)),(17,vI (j : Int)),(18,vB true),(23,vB true)] ⟨rfl,rfl,rfl,rfl,rfl,rfl,rfl,rfl,rfl,rfl,rfl,rfl,trivial⟩ fun ρ0 => ?_
    refine cxs ?_
    exact ⟨.inl rfl,_,rfl,false,rfl,⟨fun h => absurd h Bool.false_ne_true,fun h => absurd ((rows_of h hr1).2 j z hz) h4⟩,rfl⟩
   ·replace h4 := of_decide_eq_true h4.symm
    refine ⟨_,rfl,?_⟩
    refine AW.cut lo0 st [(0,vS p t.length),(1,vI n),(6,vS r.p r.l.length),(8,vI z),(9,vS p t.length),(10,vI (t.length : Int)),(11,vI (i : Int)),(15,vS r.p r.l.length),(16,vI (r.l.length : Int)),(17,vI (j : Int)),(18,vB true),(23,vB false)] ⟨rfl,rfl,rfl,rfl,rfl,rfl,rfl,rfl,rfl,rfl,rfl,rfl,trivial⟩ fun ρ0 => ?_
    refine cxs ?_
    have e24 : IntKind.wrap .i64 ((j : Int) + 1) = ((j + 1 : Nat) : Int) := (wrap_i64 (by omega) (by omega)).trans (by omega)
    refine ⟨_,rfl,?_⟩
    refine ⟨j + 1,r.l.length - (j + 1),by omega,⟨rfl,rfl,rfl,rfl,rfl,rfl,rfl,rfl,congrArg (Value.int .i64) e24,trivial⟩,rfl,rfl,h3',fun u x hu hx => ?_,rfl⟩
    rcases Nat.lt_or_ge u j with h | h
    ·exact hel u x h hx
    ·obtain rfl : u = j := by omega
     rw [hz] at hx
     injection hx with hx
     rw [← hx]; exact h4
theorem map_len {t u : List RV} (h : u.map (·.l) = t.map (·.l)) (hr : ∀ r ∈ t,szOk r.l.length) : u.length = t.length ∧ ∀ r ∈ u,szOk r.l.length := by
 have hl := congrArg List.length h
 simp only [List.length_map] at hl
 refine ⟨hl,fun r hm => ?_⟩
 have h2 : r.l ∈ t.map (·.l) := by rw [← h]; exact List.mem_map_of_mem hm
 obtain ⟨x,hx,he⟩ := List.mem_map.1 h2
 rw [← he]; exact hr x hx
theorem ac_spec_l9Copy (p : Option Addr) (t : List RV) (st : St) (hR : RdT st p t) (hs : szOk t.length) (hr : ∀ r ∈ t,szOk r.l.length) : C 75 [vS p t.length] st (fun v s => ∃ q u,v = vS q t.length ∧ u.map (·.l) = t.map (·.l) ∧ OwnP s (pcT q u) ∧ NewP st.next (pcT q u) ∧ Pres st s) := by
 have hs : t.length ≤ 1048576 := hs
 refine AC.enterX (i := ⟨[],[],[0,2,3,4,9],[]⟩) [] Try.func75 rfl rfl (by kernel_rfl) (by kernel_rfl) Try.ntmps75 (Nat.le_of_ble_eq_true rfl) rfl ?_
 refine AW.cut lo0 st [(0,vS p t.length),(2,.slice none 0 0)] ⟨rfl,rfl,trivial⟩ fun ρ0 => ?_
 refine op_nilK (z := 1) (f := cRV) rfl rfl rfl rfl Nat.one_pos rfl ?_
 intro q0 s0 hO0 hP0 hN0
 refine cxs ?_
 refine AW.cut lo0 s0 [(0,vS p t.length),(2,.slice none 0 0),(3,vS q0 0),(4,vI (0))] ⟨rfl,rfl,rfl,rfl,trivial⟩ fun ρ0 => ?_
 refine AW.loop0 (fun x : List RV × Option Addr => [(0,vS p t.length),(3,vS x.2 x.1.length),(4,vI (x.1.length : Int))]) (fun m (x : List RV × Option Addr) st' => m = t.length - x.1.length ∧ x.1.length ≤ t.length ∧ x.1.map (·.l) = (t.take x.1.length).map (·.l) ∧ OwnP st' (pcT x.2 x.1) ∧ NewP st.next (pcT x.2 x.1) ∧ Pres st st') ([],q0) _ ⟨rfl,rfl,rfl,trivial⟩ rfl ⟨rfl,Nat.zero_le _,rfl,OwnP.one (own_pc hO0),NewP.cons hN0 NewP.nil,hP0⟩ ?_
 rintro m x ρ0 st' ⟨rfl,hi,hl,hO,hN,hP⟩
 iterate 2 refine ⟨_,rfl,?_⟩
 rintro (_|_) h1
 ·replace h1 : ¬ ((x.1.length : Int) < (t.length : Int)) := of_decide_eq_false h1
  refine AW.cut lo0 st' [(0,vS p t.length),(3,vS x.2 x.1.length),(4,vI (x.1.length : Int)),(9,vB false)] ⟨rfl,rfl,rfl,rfl,trivial⟩ fun ρ0 => ?_
  refine cxs ?_
  refine cxs ?_
  have hil : x.1.length = t.length := by omega
  exact ⟨.inl rfl,_,rfl,x.2,x.1,congrArg (vS x.2) hil,by rw [hl,hil,List.take_length],hO,hN,hP⟩
 ·replace h1 : (x.1.length : Int) < (t.length : Int) := of_decide_eq_true h1
  refine AW.cut lo0 st' [(0,vS p t.length),(3,vS x.2 x.1.length),(4,vI (x.1.length : Int)),(9,vB true)] ⟨rfl,rfl,rfl,rfl,trivial⟩ fun ρ0 => ?_
  have h1' := Int.ofNat_lt.1 h1
  have hRd := hR.pres hP
  have ⟨b1,o1,k1,r,hpe,hr1,hm1,hc1,hb1⟩ := hRd.1.atB h1'
  have hmem := List.mem_of_getElem? hr1
  have hrs : r.l.length ≤ 1048576 := hr r hmem
  obtain ⟨d1,d2,d3⟩ := split_at hr1
  refine cxs ?_
  refine op_nilK (z := 1) (f := fI) rfl rfl rfl rfl Nat.one_pos rfl ?_
  intro q1 s1 hO1 hP1 hN1
  have hm1' := (hP1.2 b1 hb1).trans hm1
  refine ⟨_,op_idx (j := (x.1.length : Int)) (n := t.length) (q := ⟨b1,o1,none⟩) rfl (congrArg (fun u => vS u t.length) hpe) rfl rfl rfl (Int.natCast_nonneg _) h1,?_⟩
  refine ⟨_,op_ldc (i := 0) (v := vS r.p r.l.length) rfl rfl rfl rfl hm1' hc1 rfl rfl,?_⟩
  refine op_app (z := 1) (st := s1) (f := fI) (b := 8) (l := []) (l2 := r.l) rfl rfl rfl rfl rfl rfl rfl Nat.one_pos fI_len rfl rfl rfl rfl (by omega) (by unfold maxLen; omega) hO1 (hP1.rows (hRd.2 r hmem)) ?_
  intro q2 s2 hO2 hPr2 hN2
  refine op_one (z := 1) (a := (⟨q2,r.l⟩ : RV)) (f := cRV) rfl (congrArg (vS q2) (Nat.zero_add _)) rfl rfl rfl Nat.one_pos rfl (Nat.le_of_ble_eq_true rfl) rfl rfl rfl ?_
  have hP2 : Pres st' s2 := hPr2.pres hP1 hN1
  have hN2 : New st'.next q2 := by
   rcases hN2 with ⟨h,_,_⟩ | ⟨_,h⟩
   ·rw [h]; exact hN1
   ·exact h.le hP1.1
  refine op_add (z := 1) (st := s2) (f := cRV) (b := 24) (l := x.1) rfl rfl rfl rfl rfl rfl rfl Nat.one_pos cRV_len rfl rfl rfl (by omega) (by unfold maxLen; omega) (hP2.ownR hO.outer) ?_
  intro q4 s4 hO4 hP4 hN4
  refine AW.cut lo0 s4 [(0,vS p t.length),(3,vS q4 (x.1.length + 1)),(4,vI (x.1.length : Int)),(9,vB true)] ⟨rfl,rfl,rfl,rfl,trivial⟩ fun ρ0 => ?_
  have hA := OwnP.renew (l := []) (m := x.1.map pcRV ++ [pcRV ⟨q2,r.l⟩]) (c := pcR 1 cRV x.2 x.1) (OwnP.join (l := pcT x.2 x.1) (m := [pcRV ⟨q2,r.l⟩]) hO hP2 (OwnP.one (own_pc hO2)) (NewP.cons hN2 NewP.nil)) hP4 (own_pc hO4) hN4
  have hA : OwnP s4 (pcT q4 (x.1 ++ [⟨q2,r.l⟩])) := by simpa [pcT] using hA
  have e11 : IntKind.wrap .i64 ((x.1.length : Int) + 1) = ((x.1.length + 1 : Nat) : Int) := (wrap_i64 (by omega) (by omega)).trans (by omega)
  refine ⟨_,rfl,?_⟩
  refine ⟨(x.1 ++ [⟨q2,r.l⟩],q4),t.length - (x.1.length + 1),by omega,⟨rfl,?_,?_,trivial⟩,rfl,?_,?_,?_,hA,?_,?_⟩
  ·rw [List.length_append]; rfl
  ·rw [List.length_append]; exact congrArg (Value.int .i64) e11
  ·rw [List.length_append]; rfl
  ·rw [List.length_append]; exact h1'
  ·rw [List.map_append,hl,List.length_append,List.length_singleton,d2,List.map_append]; rfl
  ·refine NewP.cons (hN4.le (Nat.le_trans hP.1 hP2.1)) ?_
   rw [List.map_append]
   exact NewP.app (fun c hc => hN c (List.mem_cons_of_mem _ hc)) (NewP.cons (hN2.le hP.1) NewP.nil)
  ·exact hP4.pres (hP.trans hP2) (hN _ (List.mem_cons_self ..))
theorem ac_impl_copyTable (p : Option Addr) (t : List RV) (st : St) (hR : RdT st p t) (hs : szOk t.length) (hr : ∀ r ∈ t,szOk r.l.length) : C 72 [vS p t.length] st (fun v s => ∃ q u,v = vS q t.length ∧ u.map (·.l) = t.map (·.l) ∧ OwnP s (pcT q u) ∧ NewP st.next (pcT q u) ∧ Pres st s) := by
 have hs : t.length ≤ 1048576 := hs
 refine AC.enterX (i := ⟨[],[],[0,2,3,5,7,8,9,10],[]⟩) [] Try.func72 rfl rfl (by kernel_rfl) (by kernel_rfl) Try.ntmps72 (Nat.le_of_ble_eq_true rfl) rfl ?_
 refine AW.cut lo0 st [(0,vS p t.length),(2,.slice none 0 0)] ⟨rfl,rfl,trivial⟩ fun ρ0 => ?_
 refine op_nilK (z := 1) (f := cRV) rfl rfl rfl rfl Nat.one_pos rfl ?_
 intro q0 s0 hO0 hP0 hN0
 refine AW.cut lo0 s0 [(0,vS p t.length),(2,.slice none 0 0),(3,vS q0 0)] ⟨rfl,rfl,rfl,trivial⟩ fun ρ0 => ?_
 refine ⟨_,rfl,?_⟩
 refine AW.cut lo0 s0 [(0,vS p t.length),(2,.slice none 0 0),(3,vS q0 0),(7,vS p t.length),(8,vI (t.length)),(9,vI (0))] ⟨rfl,rfl,rfl,rfl,rfl,rfl,trivial⟩ fun ρ0 => ?_
 refine AW.loop0 (fun x : List RV × Option Addr => [(0,vS p t.length),(3,vS x.2 x.1.length),(7,vS p t.length),(8,vI (t.length : Int)),(9,vI (x.1.length : Int))]) (fun m (x : List RV × Option Addr) st' => m = t.length - x.1.length ∧ x.1.length ≤ t.length ∧ x.1.map (·.l) = (t.take x.1.length).map (·.l) ∧ OwnP st' (pcT x.2 x.1) ∧ NewP st.next (pcT x.2 x.1) ∧ Pres st st') ([],q0) _ ⟨rfl,rfl,rfl,rfl,rfl,trivial⟩ rfl ⟨rfl,Nat.zero_le _,rfl,OwnP.one (own_pc hO0),NewP.cons hN0 NewP.nil,hP0⟩ ?_
 rintro m x ρ0 st' ⟨rfl,hi,hl,hO,hN,hP⟩
 refine ⟨_,rfl,?_⟩
 rintro (_|_) h1
 ·replace h1 : ¬ ((x.1.length : Int) < (t.length : Int)) := of_decide_eq_false h1
  refine AW.cut lo0 st' [(0,vS p t.length),(3,vS x.2 x.1.length),(7,vS p t.length),(8,vI (t.length : Int)),(9,vI (x.1.length : Int)),(10,vB false)] ⟨rfl,rfl,rfl,rfl,rfl,rfl,trivial⟩ fun ρ0 => ?_
  refine cxs ?_
  refine cxs ?_
  have hil : x.1.length = t.length := by omega
  exact ⟨.inl rfl,_,rfl,x.2,x.1,congrArg (vS x.2) hil,by rw [hl,hil,List.take_length],hO,hN,hP⟩
 ·replace h1 : (x.1.length : Int) < (t.length : Int) := of_decide_eq_true h1
  refine AW.cut lo0 st' [(0,vS p t.length),(3,vS x.2 x.1.length),(7,vS p t.length),(8,vI (t.length : Int)),(9,vI (x.1.length : Int)),(10,vB true)] ⟨rfl,rfl,rfl,rfl,rfl,rfl,trivial⟩ fun ρ0 => ?_
  have h1' := Int.ofNat_lt.1 h1
  have hRd := hR.pres hP
  have ⟨b1,o1,k1,r,hpe,hr1,hm1,hc1,hb1⟩ := hRd.1.atB h1'
  have hmem := List.mem_of_getElem? hr1
  have hrs : r.l.length ≤ 1048576 := hr r hmem
  obtain ⟨d1,d2,d3⟩ := split_at hr1
  refine cxs ?_
  refine ⟨_,op_idx (j := (x.1.length : Int)) (n := t.length) (q := ⟨b1,o1,none⟩) rfl (congrArg (fun u => vS u t.length) hpe) rfl rfl rfl (Int.natCast_nonneg _) h1,?_⟩
  refine ⟨_,op_ldc (i := 0) (v := vS r.p r.l.length) rfl rfl rfl rfl hm1 hc1 rfl rfl,?_⟩
  refine AW.cut lo0 st' [(0,vS p t.length),(3,vS x.2 x.1.length),(5,vS r.p r.l.length),(7,vS p t.length),(8,vI (t.length : Int)),(9,vI (x.1.length : Int)),(10,vB true)] ⟨rfl,rfl,rfl,rfl,rfl,rfl,rfl,trivial⟩ fun ρ0 => ?_
  refine ⟨_,rfl,(ac_impl_copyInts r.p r.l st' (hRd.2 r hmem).ints (by omega)).mono ?_⟩
  rintro _ s2 ⟨q2,rfl,hO2,hP2,hN2⟩
  have hO2 : OwnR s2 1 fI q2 r.l := Own.r.1 hO2
  refine op_one (z := 1) (a := (⟨q2,r.l⟩ : RV)) (f := cRV) rfl rfl rfl rfl rfl Nat.one_pos rfl (Nat.le_of_ble_eq_true rfl) rfl rfl rfl ?_
  refine op_add (z := 1) (st := s2) (f := cRV) (b := 24) (l := x.1) rfl rfl rfl rfl rfl rfl rfl Nat.one_pos cRV_len rfl rfl rfl (by omega) (by unfold maxLen; omega) (hP2.ownR hO.outer) ?_
  intro q4 s4 hO4 hP4 hN4
  refine AW.cut lo0 s4 [(0,vS p t.length),(3,vS q4 (x.1.length + 1)),(5,vS r.p r.l.length),(7,vS p t.length),(8,vI (t.length : Int)),(9,vI (x.1.length : Int)),(10,vB true)] ⟨rfl,rfl,rfl,rfl,rfl,rfl,rfl,trivial⟩ fun ρ0 => ?_
  have hA := OwnP.renew (l := []) (m := x.1.map pcRV ++ [pcRV ⟨q2,r.l⟩]) (c := pcR 1 cRV x.2 x.1) (OwnP.join (l := pcT x.2 x.1) (m := [pcRV ⟨q2,r.l⟩]) hO hP2 (OwnP.one (own_pc hO2)) (NewP.cons hN2 NewP.nil)) hP4 (own_pc hO4) hN4
  have hA : OwnP s4 (pcT q4 (x.1 ++ [⟨q2,r.l⟩])) := by simpa [pcT] using hA
  have e18 : IntKind.wrap .i64 ((x.1.length : Int) + 1) = ((x.1.length + 1 : Nat) : Int) := (wrap_i64 (by omega) (by omega)).trans (by omega)
  refine ⟨_,rfl,?_⟩
  refine ⟨(x.1 ++ [⟨q2,r.l⟩],q4),t.length - (x.1.length + 1),by omega,⟨rfl,?_,rfl,rfl,?_,trivial⟩,rfl,?_,?_,?_,hA,?_,?_⟩
  ·rw [List.length_append]; rfl
  ·rw [List.length_append]; exact congrArg (Value.int .i64) e18
  ·rw [List.length_append]; rfl
  ·rw [List.length_append]; exact h1'
  ·rw [List.map_append,hl,List.length_append,List.length_singleton,d2,List.map_append]; rfl
  ·refine NewP.cons (hN4.le (Nat.le_trans hP.1 hP2.1)) ?_
   rw [List.map_append]
   exact NewP.app (fun c hc => hN c (List.mem_cons_of_mem _ hc)) (NewP.cons (hN2.le hP.1) NewP.nil)
  ·exact hP4.pres (hP.trans hP2) (hN _ (List.mem_cons_self ..))
def addMarks (l : List Int) (ms : List Flr) : List Int := ms.foldl (fun r m => r.set m.id.toNat (max (r.getD m.id.toNat 0) m.inc)) l
theorem addMarks_len : ∀ (ms : List Flr) (l : List Int),(addMarks l ms).length = l.length
 | [],l => rfl
 | m :: ms,l => by
  have := addMarks_len ms (l.set m.id.toNat (max (l.getD m.id.toNat 0) m.inc))
  rw [List.length_set] at this
  exact this
theorem addMarks_snoc (l : List Int) (ms : List Flr) (m : Flr) : addMarks l (ms ++ [m]) = (addMarks l ms).set m.id.toNat (max ((addMarks l ms).getD m.id.toNat 0) m.inc) := by simp [addMarks]
def putT {α : Type} (t : List α) (K : Nat) (x : α) : List α := t.take K ++ x :: t.drop (K + 1)
open Classical in
noncomputable def tableAdd (t : List (List Int)) (k : Int) (ms : List Flr) : List (List Int) :=
 if (0 ≤ k ∧ k ≤ (t.length : Int) - 1) ∧ marksOk ms ∧ 5 ≤ (t.getD k.toNat []).length then putT t k.toNat (addMarks (t.getD k.toNat []) ms) else t
theorem putT_map {u : List RV} {K : Nat} {x : RV} : (putT u K x).map (·.l) = putT (u.map (·.l)) K x.l := by simp [putT,List.map_take,List.map_drop]
theorem putT_self {α : Type} {u : List α} {K : Nat} {x : α} (h : u[K]? = some x) : putT u K x = u := (split_at h).1.symm
theorem putT_get {α : Type} {u : List α} {K : Nat} {x : α} (h : K < u.length) : (putT u K x)[K]? = some x := by
 unfold putT
 rw [List.getElem?_append_right (by rw [List.length_take]; omega),List.length_take,show K - min K u.length = 0 by omega]
 rfl
theorem putT_len {α : Type} {u : List α} {K : Nat} {x : α} (h : K < u.length) : (putT u K x).length = u.length := by
 unfold putT
 rw [List.length_append,List.length_take,List.length_cons,List.length_drop]; omega
theorem OwnP.put {st st' : St} {q : Option Addr} {u : List RV} {K : Nat} {a : Option Addr} {l l' : List Int} (h : OwnP st (pcT q (putT u K ⟨a,l⟩))) (hp : Pr a st st') (ho : OwnR st' 1 fI a l') (hl : l'.length = l.length) : OwnP st' (pcT q (putT u K ⟨a,l'⟩)) := by
 have h1 : pcT q (putT u K ⟨a,l⟩) = (pcR 1 cRV q (putT u K ⟨a,l⟩) :: (u.take K).map pcRV) ++ pcRV ⟨a,l⟩ :: (u.drop (K + 1)).map pcRV := by simp [pcT,putT]
 have h2 : pcT q (putT u K ⟨a,l'⟩) = (pcR 1 cRV q (putT u K ⟨a,l⟩) :: (u.take K).map pcRV) ++ pcRV ⟨a,l'⟩ :: (u.drop (K + 1)).map pcRV := by simp [pcT,putT,pcR,hl]
 rw [h1] at h
 rw [h2]
 exact OwnP.update h hp (own_pc ho) rfl
theorem tableAdd_pos {t : List RV} {k : Int} {ms : List Flr} {r : RV} (h : t[k.toNat]? = some r) (hk : 0 ≤ k ∧ k ≤ (t.length : Int) - 1) (hm : marksOk ms) (h5 : 5 ≤ r.l.length) : tableAdd (t.map (·.l)) k ms = putT (t.map (·.l)) k.toNat (addMarks r.l ms) := by
 have hg : (t.map (·.l)).getD k.toNat [] = r.l := by rw [List.getD_eq_getElem?_getD,List.getElem?_map,h]; rfl
 rw [tableAdd,hg,if_pos ⟨by rw [List.length_map]; exact hk,hm,h5⟩]
theorem tableAdd_neg {t : List RV} {k : Int} {ms : List Flr} (h : ¬ (0 ≤ k ∧ k ≤ (t.length : Int) - 1) ∨ ¬ marksOk ms ∨ ∃ r,t[k.toNat]? = some r ∧ r.l.length < 5) : tableAdd (t.map (·.l)) k ms = t.map (·.l) := by
 rw [tableAdd,if_neg]
 rintro ⟨h1,h2,h3⟩
 rw [List.length_map] at h1
 rcases h with h | h | ⟨r,hr,h⟩
 ·exact h h1
 ·exact h h2
 ·rw [List.getD_eq_getElem?_getD,List.getElem?_map,hr] at h3
  exact absurd h3 (Nat.not_le.2 h)
theorem row_l {t u : List RV} {i : Nat} {r : RV} (h : u.map (·.l) = t.map (·.l)) (hr : t[i]? = some r) : ∃ a,u[i]? = some ⟨a,r.l⟩ := by
 have h1 : (u.map (·.l))[i]? = some r.l := by rw [h,List.getElem?_map,hr]; rfl
 rw [List.getElem?_map] at h1
 obtain ⟨y,hy,he⟩ := Option.map_eq_some_iff.1 h1
 exact ⟨y.p,by rw [hy,← he]⟩
theorem ac_spec_TableAdd (p pm : Option Addr) (t : List RV) (k : Int) (ms : List Flr) (st : St) (hR : RdT st p t) (hM : Rows st 2 cFlr pm ms) (hs : szOk t.length) (hr : ∀ r ∈ t,szOk r.l.length) (hms : szOk ms.length) : C 16 [vS p t.length,vI k,vS pm ms.length] st (fun v s => ∃ q u,v = vS q t.length ∧ u.length = t.length ∧ u.map (·.l) = tableAdd (t.map (·.l)) k ms ∧ OwnP s (pcT q u) ∧ NewP st.next (pcT q u) ∧ Pres st s) := by
 have hs : t.length ≤ 1048576 := hs
 have hms' : ms.length ≤ 1048576 := hms
 refine AC.enterX (i := ⟨[],[],[0,1,2,6,7,8,29,34],[]⟩) [(7,[25],[3,8])] Try.func16 rfl rfl (by kernel_rfl) (by kernel_rfl) Try.ntmps16 (Nat.le_of_ble_eq_true rfl) rfl ?_
 refine AW.cut lo0 st [(0,vS p t.length),(1,vI k),(2,vS pm ms.length),(6,.slice none 0 0)] ⟨rfl,rfl,rfl,rfl,trivial⟩ fun ρ0 => ?_
 refine ⟨_,rfl,(ac_spec_l9Copy p t st hR hs hr).mono ?_⟩
 rintro _ s1 ⟨q,u0,rfl,hu,hO,hN,hP⟩
 refine AW.cut lo0 s1 [(0,vS p t.length),(1,vI k),(2,vS pm ms.length),(6,.slice none 0 0),(7,vS q t.length)] ⟨rfl,rfl,rfl,rfl,rfl,trivial⟩ fun ρ0 => ?_
 have e14 : IntKind.wrap .i64 ((t.length : Int) - 1) = (t.length : Int) - 1 := wrap_i64 (by omega) (by omega)
 have hul : u0.length = t.length := (map_len hu hr).1
 iterate 2 refine ⟨_,rfl,?_⟩
 refine ⟨_,rfl,(ac_spec_l1In k 0 _ s1).mono ?_⟩
 rintro _ s1 ⟨y,rfl,hk,rfl⟩
 rcases y with _|_
 ·replace hk := of_decide_eq_false hk.symm
  iterate 3 refine ⟨_,rfl,?_⟩
  refine AW.cut lo0 s1 [(1,vI k),(2,vS pm ms.length),(6,.slice none 0 0),(7,vS q t.length),(29,vB true)] ⟨rfl,rfl,rfl,rfl,rfl,trivial⟩ fun ρ0 => ?_
  refine cxs ?_
  exact ⟨.inl rfl,_,rfl,q,u0,rfl,hul,by rw [tableAdd_neg (.inl fun h => hk (by rw [e14]; exact h))]; exact hu,hO,hN,hP⟩
 ·replace hk := of_decide_eq_true hk.symm
  refine ⟨_,rfl,?_⟩
  replace hk : 0 ≤ k ∧ k ≤ IntKind.wrap .i64 ((t.length : Int) - 1) := hk
  rw [e14] at hk
  refine ⟨_,rfl,(ac_spec_MarksOk pm ms s1 (hP.rows hM) hms).mono ?_⟩
  rintro _ s1 ⟨y2,rfl,hmk,rfl⟩
  rcases y2 with _|_
  ·replace hmk := fun k => Bool.false_ne_true (hmk.2 k)
   iterate 3 refine ⟨_,rfl,?_⟩
   refine AW.cut lo0 s1 [(1,vI k),(2,vS pm ms.length),(6,.slice none 0 0),(7,vS q t.length),(29,vB true)] ⟨rfl,rfl,rfl,rfl,rfl,trivial⟩ fun ρ0 => ?_
   refine cxs ?_
   exact ⟨.inl rfl,_,rfl,q,u0,rfl,hul,by rw [tableAdd_neg (.inr (.inl hmk))]; exact hu,hO,hN,hP⟩
  ·replace hmk := hmk.1 rfl
   iterate 2 refine ⟨_,rfl,?_⟩
   have ⟨b1,o1,k1,r,hpe,hr1,hm1,hc1,hb1⟩ := (hR.pres hP).1.atB (j := k.toNat) (by omega)
   refine ⟨_,op_idx (j := k) (n := t.length) (q := ⟨b1,o1,none⟩) rfl (congrArg (fun u => vS u t.length) hpe) rfl rfl rfl hk.1 (by omega),?_⟩
   refine ⟨_,op_ldc (i := 0) (v := vS r.p r.l.length) rfl rfl rfl rfl hm1 hc1 rfl rfl,?_⟩
   iterate 2 refine ⟨_,rfl,?_⟩
   rintro (_|_) h5
   ·replace h5 : ¬ ((r.l.length : Int) < 5) := of_decide_eq_false h5
    refine ⟨_,rfl,?_⟩
    refine AW.cut lo0 s1 [(1,vI k),(2,vS pm ms.length),(6,.slice none 0 0),(7,vS q t.length),(29,vB false)] ⟨rfl,rfl,rfl,rfl,rfl,trivial⟩ fun ρ0 => ?_
    have ⟨qK,hqK⟩ := row_l hu hr1
    have hKu : k.toNat < u0.length := (List.getElem?_eq_some_iff.1 hqK).1
    have hself := putT_self hqK
    have hrs : r.l.length ≤ 1048576 := hr r (List.mem_of_getElem? hr1)
    refine cxs ?_
    refine AW.cut lo0 s1 [(1,vI k),(2,vS pm ms.length),(6,.slice none 0 0),(7,vS q t.length),(8,vI (0))] ⟨rfl,rfl,rfl,rfl,rfl,trivial⟩ fun ρ0 => ?_
    refine AW.loop0 (fun i : Nat => [(1,vI k),(2,vS pm ms.length),(7,vS q t.length),(8,vI (i : Int))]) (fun m (i : Nat) st' => m = ms.length - i ∧ i ≤ ms.length ∧ OwnP st' (pcT q (putT u0 k.toNat ⟨qK,addMarks r.l (ms.take i)⟩)) ∧ NewP st.next (pcT q (putT u0 k.toNat ⟨qK,addMarks r.l (ms.take i)⟩)) ∧ Pres st st') 0 _ ⟨rfl,rfl,rfl,rfl,trivial⟩ rfl ⟨rfl,Nat.zero_le _,(show OwnP s1 (pcT q (putT u0 k.toNat ⟨qK,r.l⟩)) by rw [hself]; exact hO),(show NewP st.next (pcT q (putT u0 k.toNat ⟨qK,r.l⟩)) by rw [hself]; exact hN),hP⟩ ?_
    rintro m i ρ0 st' ⟨rfl,hi,hO',hN',hP'⟩
    iterate 2 refine ⟨_,rfl,?_⟩
    rintro (_|_) h6
    ·replace h6 : ¬ ((i : Int) < (ms.length : Int)) := of_decide_eq_false h6
     refine AW.cut lo0 st' [(1,vI k),(2,vS pm ms.length),(7,vS q t.length),(8,vI (i : Int)),(34,vB false)] ⟨rfl,rfl,rfl,rfl,rfl,trivial⟩ fun ρ0 => ?_
     refine cxs ?_
     refine cxs ?_
     have hil : i = ms.length := by omega
     rw [hil,List.take_length] at hO' hN'
     exact ⟨.inl rfl,_,rfl,q,_,rfl,by rw [putT_len hKu]; exact hul,by rw [putT_map,hu,tableAdd_pos hr1 hk hmk (by omega)],hO',hN',hP'⟩
    ·replace h6 : (i : Int) < (ms.length : Int) := of_decide_eq_true h6
     refine AW.cut lo0 st' [(1,vI k),(2,vS pm ms.length),(7,vS q t.length),(8,vI (i : Int)),(34,vB true)] ⟨rfl,rfl,rfl,rfl,rfl,trivial⟩ fun ρ0 => ?_
     have h6' := Int.ofNat_lt.1 h6
     have hcl := addMarks_len (ms.take i) r.l
     have hKt : k.toNat < (putT u0 k.toNat (⟨qK,addMarks r.l (ms.take i)⟩ : RV)).length := by rw [putT_len hKu]; exact hKu
     have hgt := putT_get (x := (⟨qK,addMarks r.l (ms.take i)⟩ : RV)) hKu
     have ⟨b2,o2,k2,x,hpe2,hx,hm2,hc2,hb2⟩ := (hO'.outer.rows cRV_len).atB hKt
     have hxe : x = ⟨qK,addMarks r.l (ms.take i)⟩ := by rw [hgt] at hx; injection hx with hx; exact hx.symm
     have hc2 : (k2.cells.drop (o2 + k.toNat * 1)).take 1 = cRV ⟨qK,addMarks r.l (ms.take i)⟩ := by rw [hc2,hxe]
     have hrow := hO'.row (List.mem_of_getElem? hgt)
     have ⟨b3,o3,k3,mk,hpe3,hmk3,hm3,hc3,hb3⟩ := (hP'.rows hM).atB h6'
     have hid := (hmk i mk hmk3).1
     have ⟨b4,o4,k4,z,hpe4,hz,hm4,hc4,hb4⟩ := (hrow.rows fI_len).atB (j := mk.id.toNat) (by simp only; omega)
     have ⟨a,ha⟩ := hrow.some (by simp only; omega)
     simp only at hpe4 ha
     refine cxs ?_
     refine ⟨_,op_idx (j := k) (n := t.length) (q := ⟨b2,o2,none⟩) rfl (congrArg (fun u => vS u t.length) hpe2) rfl rfl rfl hk.1 (by omega),?_⟩
     refine ⟨_,op_ldc (i := 0) rfl rfl rfl rfl hm2 hc2 rfl rfl,?_⟩
     refine ⟨ld_lt rfl rfl hb2,?_⟩
     refine ⟨_,op_idx (j := (i : Int)) (n := ms.length) (q := ⟨b3,o3,none⟩) rfl (congrArg (fun u => vS u ms.length) hpe3) rfl rfl rfl (Int.natCast_nonneg _) h6,?_⟩
     refine ⟨_,rfl,?_⟩
     refine ⟨_,op_ldc (i := 0) rfl rfl rfl rfl hm3 hc3 rfl rfl,?_⟩
     refine ⟨ld_lt rfl rfl hb3,?_⟩
     refine ⟨_,op_idx (j := k) (n := t.length) (q := ⟨b2,o2,none⟩) rfl (congrArg (fun u => vS u t.length) hpe2) rfl rfl rfl hk.1 (by omega),?_⟩
     refine ⟨_,op_ldc (i := 0) rfl rfl rfl rfl hm2 hc2 rfl rfl,?_⟩
     refine ⟨_,op_idx (j := (i : Int)) (n := ms.length) (q := ⟨b3,o3,none⟩) rfl (congrArg (fun u => vS u ms.length) hpe3) rfl rfl rfl (Int.natCast_nonneg _) h6,?_⟩
     refine ⟨_,rfl,?_⟩
     refine ⟨_,op_ldc (i := 0) rfl rfl rfl rfl hm3 hc3 rfl rfl,?_⟩
     refine ⟨_,op_idx (j := mk.id) (n := (addMarks r.l (ms.take i)).length) (q := ⟨b4,o4,none⟩) rfl (congrArg (fun u => vS u (addMarks r.l (ms.take i)).length) hpe4) rfl rfl rfl hid.1 (by omega),?_⟩
     refine ⟨_,op_ldc (i := 0) rfl rfl rfl rfl hm4 hc4 rfl rfl,?_⟩
     refine ⟨_,op_idx (j := (i : Int)) (n := ms.length) (q := ⟨b3,o3,none⟩) rfl (congrArg (fun u => vS u ms.length) hpe3) rfl rfl rfl (Int.natCast_nonneg _) h6,?_⟩
     refine ⟨_,rfl,?_⟩
     refine ⟨_,op_ldc (i := 1) rfl rfl rfl rfl hm3 hc3 rfl rfl,?_⟩
     refine ⟨_,rfl,(ac_spec_l1Max z mk.inc st').mono ?_⟩
     rintro _ st' ⟨rfl,rfl⟩
     refine ⟨fun _ _ => rfl,?_⟩
     refine ⟨_,op_idx (j := mk.id) (n := (addMarks r.l (ms.take i)).length) (q := ⟨a,0,none⟩) rfl (congrArg (fun u => vS u (addMarks r.l (ms.take i)).length) ha) rfl rfl rfl hid.1 (by omega),?_⟩
     refine op_put (z := 1) (st := st') (f := fI) (j := mk.id.toNat) (l := addMarks r.l (ms.take i)) (y := max z mk.inc) (p := qK) (d := 0 + mk.id.toNat * 1) rfl rfl (Nat.zero_add _) rfl rfl fI_len rfl rfl (by omega) hrow ha ?_
     intro s5 hO5 hP5 hn5
     refine AW.cut lo0 s5 [(1,vI k),(2,vS pm ms.length),(7,vS q t.length),(8,vI (i : Int)),(34,vB true)] ⟨rfl,rfl,rfl,rfl,rfl,trivial⟩ fun ρ0 => ?_
     have hstep : (addMarks r.l (ms.take i)).set mk.id.toNat (max z mk.inc) = addMarks r.l (ms.take (i + 1)) := by rw [(split_at hmk3).2.1,addMarks_snoc,getD_of hz]
     rw [hstep] at hO5
     have hN5 : New st.next qK := hN' (pcRV ⟨qK,addMarks r.l (ms.take i)⟩) (List.mem_cons_of_mem _ (List.mem_map_of_mem (List.mem_of_getElem? hgt)))
     have hOP := hO'.put hP5 hO5 (by rw [addMarks_len,addMarks_len])
     have e36 : IntKind.wrap .i64 ((i : Int) + 1) = ((i + 1 : Nat) : Int) := (wrap_i64 (by omega) (by omega)).trans (by omega)
     refine ⟨_,rfl,?_⟩
     refine ⟨i + 1,ms.length - (i + 1),by omega,⟨rfl,rfl,rfl,congrArg (Value.int .i64) e36,trivial⟩,rfl,rfl,h6',hOP,fun c hc => ?_,hP5.pres hP' hN5⟩
     rcases List.mem_cons.1 hc with rfl | hc
     ·exact (hN' (pcR 1 cRV q (putT u0 k.toNat ⟨qK,addMarks r.l (ms.take i)⟩)) (List.mem_cons_self ..) : New st.next q)
     ·obtain ⟨y,hy,rfl⟩ := List.mem_map.1 hc
      rcases List.mem_append.1 hy with hy | hy
      ·exact hN' (pcRV y) (List.mem_cons_of_mem _ (List.mem_map_of_mem (List.mem_append_left _ hy)))
      ·rcases List.mem_cons.1 hy with rfl | hy
       ·exact hN5
       ·exact hN' (pcRV y) (List.mem_cons_of_mem _ (List.mem_map_of_mem (List.mem_append_right _ (List.mem_cons_of_mem _ hy))))
   ·replace h5 : (r.l.length : Int) < 5 := of_decide_eq_true h5
    refine ⟨_,rfl,?_⟩
    refine AW.cut lo0 s1 [(1,vI k),(2,vS pm ms.length),(6,.slice none 0 0),(7,vS q t.length),(29,vB true)] ⟨rfl,rfl,rfl,rfl,rfl,trivial⟩ fun ρ0 => ?_
    refine cxs ?_
    exact ⟨.inl rfl,_,rfl,q,u0,rfl,hul,by rw [tableAdd_neg (.inr (.inr ⟨r,hr1,by omega⟩))]; exact hu,hO,hN,hP⟩
theorem ac_impl_TableAdd (p pm : Option Addr) (t : List RV) (k : Int) (ms : List Flr) (st : St) (hR : RdT st p t) (hM : Rows st 2 cFlr pm ms) (hs : szOk t.length) (hr : ∀ r ∈ t,szOk r.l.length) (hms : szOk ms.length) : C 15 [vS p t.length,vI k,vS pm ms.length] st (fun v s => ∃ q u,v = vS q t.length ∧ u.length = t.length ∧ u.map (·.l) = tableAdd (t.map (·.l)) k ms ∧ OwnP s (pcT q u) ∧ NewP st.next (pcT q u) ∧ Pres st s) := by
 have hs : t.length ≤ 1048576 := hs
 have hms' : ms.length ≤ 1048576 := hms
 refine AC.enterX (i := ⟨[9],[9,42,48,52],[0,1,2,6,7,9,30,32,33,34,35],[]⟩) [(7,[],[])] Try.func15 rfl rfl (by kernel_rfl) (by kernel_rfl) Try.ntmps15 (Nat.le_of_ble_eq_true rfl) rfl ?_
 refine AW.cutM (0) st [(0,vS p t.length),(1,vI k),(2,vS pm ms.length),(6,.slice none 0 0)] [] ⟨rfl,rfl,rfl,rfl,trivial⟩ trivial rfl fun ρ0 ff => ?_
 refine ⟨_,rfl,(ac_impl_copyTable p t st hR hs hr).mono ?_⟩
 rintro _ s1 ⟨q,u0,rfl,hu,hO,hN,hP⟩
 refine AW.cutM (0) s1 [(0,vS p t.length),(1,vI k),(2,vS pm ms.length),(6,.slice none 0 0),(7,vS q t.length)] [] ⟨rfl,rfl,rfl,rfl,rfl,trivial⟩ trivial rfl fun ρ0 ff => ?_
 have e15 : IntKind.wrap .i64 ((t.length : Int) - 1) = (t.length : Int) - 1 := wrap_i64 (by omega) (by omega)
 have hul : u0.length = t.length := (map_len hu hr).1
 iterate 2 refine ⟨_,rfl,?_⟩
 refine ⟨_,rfl,(ac_impl_within k 0 _ s1).mono ?_⟩
 rintro _ s1 ⟨y,rfl,hk,rfl⟩
 rcases y with _|_
 ·replace hk := of_decide_eq_false hk.symm
  iterate 3 refine ⟨_,rfl,?_⟩
  refine AW.cutM (0) s1 [(1,vI k),(2,vS pm ms.length),(6,.slice none 0 0),(7,vS q t.length),(30,vB true)] [] ⟨rfl,rfl,rfl,rfl,rfl,trivial⟩ trivial rfl fun ρ0 ff => ?_
  refine cxs ?_
  exact ⟨.inl rfl,_,rfl,q,u0,rfl,hul,by rw [tableAdd_neg (.inl fun h => hk (by rw [e15]; exact h))]; exact hu,hO,hN,hP⟩
 ·replace hk := of_decide_eq_true hk.symm
  refine ⟨_,rfl,?_⟩
  replace hk : 0 ≤ k ∧ k ≤ IntKind.wrap .i64 ((t.length : Int) - 1) := hk
  rw [e15] at hk
  refine ⟨_,rfl,(ac_impl_MarksOk pm ms s1 (hP.rows hM) hms).mono ?_⟩
  rintro _ s1 ⟨y2,rfl,hmk,rfl⟩
  rcases y2 with _|_
  ·replace hmk := fun k => Bool.false_ne_true (hmk.2 k)
   iterate 3 refine ⟨_,rfl,?_⟩
   refine AW.cutM (0) s1 [(1,vI k),(2,vS pm ms.length),(6,.slice none 0 0),(7,vS q t.length),(30,vB true)] [] ⟨rfl,rfl,rfl,rfl,rfl,trivial⟩ trivial rfl fun ρ0 ff => ?_
   refine cxs ?_
   exact ⟨.inl rfl,_,rfl,q,u0,rfl,hul,by rw [tableAdd_neg (.inr (.inl hmk))]; exact hu,hO,hN,hP⟩
  ·replace hmk := hmk.1 rfl
   iterate 2 refine ⟨_,rfl,?_⟩
   have ⟨b1,o1,k1,r,hpe,hr1,hm1,hc1,hb1⟩ := (hR.pres hP).1.atB (j := k.toNat) (by omega)
   refine ⟨_,op_idx (j := k) (n := t.length) (q := ⟨b1,o1,none⟩) rfl (congrArg (fun u => vS u t.length) hpe) rfl rfl rfl hk.1 (by omega),?_⟩
   refine ⟨_,op_ldc (i := 0) (v := vS r.p r.l.length) rfl rfl rfl rfl hm1 hc1 rfl rfl,?_⟩
   iterate 2 refine ⟨_,rfl,?_⟩
   rintro (_|_) h5
   ·replace h5 : ¬ ((r.l.length : Int) < 5) := of_decide_eq_false h5
    refine ⟨_,rfl,?_⟩
    refine AW.cutM (0) s1 [(1,vI k),(2,vS pm ms.length),(6,.slice none 0 0),(7,vS q t.length),(30,vB false)] [] ⟨rfl,rfl,rfl,rfl,rfl,trivial⟩ trivial rfl fun ρ0 ff => ?_
    have ⟨qK,hqK⟩ := row_l hu hr1
    have hKu : k.toNat < u0.length := (List.getElem?_eq_some_iff.1 hqK).1
    have hself := putT_self hqK
    have hrs : r.l.length ≤ 1048576 := hr r (List.mem_of_getElem? hr1)
    refine cxs ?_
    refine ⟨_,rfl,?_⟩
    refine AW.cutM (0) s1 [(1,vI k),(6,.slice none 0 0),(7,vS q t.length),(32,vS pm ms.length),(33,vI (ms.length)),(34,vI (0))] [] ⟨rfl,rfl,rfl,rfl,rfl,rfl,trivial⟩ trivial rfl fun ρ0 ff => ?_
    refine AW.loopM (fun i : Nat => [(1,vI k),(7,vS q t.length),(32,vS pm ms.length),(33,vI (ms.length : Int)),(34,vI (i : Int))]) (fun i : Nat => []) (fun m (i : Nat) st' => m = ms.length - i ∧ i ≤ ms.length ∧ OwnP st' (pcT q (putT u0 k.toNat ⟨qK,addMarks r.l (ms.take i)⟩)) ∧ NewP st.next (pcT q (putT u0 k.toNat ⟨qK,addMarks r.l (ms.take i)⟩)) ∧ Pres st st') 0 _ ⟨rfl,rfl,rfl,rfl,rfl,trivial⟩ trivial ⟨rfl,Nat.zero_le _,(show OwnP s1 (pcT q (putT u0 k.toNat ⟨qK,r.l⟩)) by rw [hself]; exact hO),(show NewP st.next (pcT q (putT u0 k.toNat ⟨qK,r.l⟩)) by rw [hself]; exact hN),hP⟩ ?_
    rintro m i ρ0 ff gg st' ⟨rfl,hi,hO',hN',hP'⟩
    refine ⟨_,rfl,?_⟩
    rintro (_|_) h6
    ·replace h6 : ¬ ((i : Int) < (ms.length : Int)) := of_decide_eq_false h6
     refine AW.cutM (gg) st' [(1,vI k),(7,vS q t.length),(32,vS pm ms.length),(33,vI (ms.length : Int)),(34,vI (i : Int)),(35,vB false)] [] ⟨rfl,rfl,rfl,rfl,rfl,rfl,trivial⟩ trivial rfl fun ρ0 ff => ?_
     refine cxs ?_
     refine cxs ?_
     have hil : i = ms.length := by omega
     rw [hil,List.take_length] at hO' hN'
     exact ⟨.inl rfl,_,rfl,q,_,rfl,by rw [putT_len hKu]; exact hul,by rw [putT_map,hu,tableAdd_pos hr1 hk hmk (by omega)],hO',hN',hP'⟩
    ·replace h6 : (i : Int) < (ms.length : Int) := of_decide_eq_true h6
     refine AW.cutM (gg) st' [(1,vI k),(7,vS q t.length),(32,vS pm ms.length),(33,vI (ms.length : Int)),(34,vI (i : Int)),(35,vB true)] [] ⟨rfl,rfl,rfl,rfl,rfl,rfl,trivial⟩ trivial rfl fun ρ0 ff => ?_
     have h6' := Int.ofNat_lt.1 h6
     have hcl := addMarks_len (ms.take i) r.l
     have hKt : k.toNat < (putT u0 k.toNat (⟨qK,addMarks r.l (ms.take i)⟩ : RV)).length := by rw [putT_len hKu]; exact hKu
     have hgt := putT_get (x := (⟨qK,addMarks r.l (ms.take i)⟩ : RV)) hKu
     have ⟨b2,o2,k2,x,hpe2,hx,hm2,hc2,hb2⟩ := (hO'.outer.rows cRV_len).atB hKt
     have hxe : x = ⟨qK,addMarks r.l (ms.take i)⟩ := by rw [hgt] at hx; injection hx with hx; exact hx.symm
     have hc2 : (k2.cells.drop (o2 + k.toNat * 1)).take 1 = cRV ⟨qK,addMarks r.l (ms.take i)⟩ := by rw [hc2,hxe]
     have hrow := hO'.row (List.mem_of_getElem? hgt)
     have ⟨b3,o3,k3,mk,hpe3,hmk3,hm3,hc3,hb3⟩ := (hP'.rows hM).atB h6'
     have hid := (hmk i mk hmk3).1
     have ⟨b4,o4,k4,z,hpe4,hz,hm4,hc4,hb4⟩ := (hrow.rows fI_len).atB (j := mk.id.toNat) (by simp only; omega)
     have ⟨a,ha⟩ := hrow.some (by simp only; omega)
     simp only at hpe4 ha
     refine cxs ?_
     refine ⟨_,op_idx (j := (i : Int)) (n := ms.length) (q := ⟨b3,o3,none⟩) rfl (congrArg (fun u => vS u ms.length) hpe3) rfl rfl rfl (Int.natCast_nonneg _) h6,?_⟩
     refine ⟨_,op_lda rfl rfl rfl rfl rfl hm3 hc3 rfl,?_⟩
     refine ⟨_,rfl,?_⟩
     refine ⟨_,op_sto rfl rfl rfl rfl rfl rfl rfl,?_⟩
     refine AW.cutM (gg + 1) st' [(1,vI k),(7,vS q t.length),(9,vL 9 0 (gg)),(32,vS pm ms.length),(33,vI (ms.length : Int)),(34,vI (i : Int)),(35,vB true)] [(9,gg,[vI mk.id,vI mk.inc])] ⟨rfl,rfl,rfl,rfl,rfl,rfl,rfl,trivial⟩ ⟨rfl,trivial⟩ rfl fun ρ0 ff => ?_
     refine ⟨_,op_idx (j := k) (n := t.length) (q := ⟨b2,o2,none⟩) rfl (congrArg (fun u => vS u t.length) hpe2) rfl rfl rfl hk.1 (by omega),?_⟩
     refine ⟨_,op_ldc (i := 0) rfl rfl rfl rfl hm2 hc2 rfl rfl,?_⟩
     refine ⟨_,rfl,?_⟩
     refine ⟨_,op_ldo rfl rfl rfl rfl,?_⟩
     refine ⟨_,op_idx (j := k) (n := t.length) (q := ⟨b2,o2,none⟩) rfl (congrArg (fun u => vS u t.length) hpe2) rfl rfl rfl hk.1 (by omega),?_⟩
     refine ⟨_,op_ldc (i := 0) rfl rfl rfl rfl hm2 hc2 rfl rfl,?_⟩
     refine ⟨_,rfl,?_⟩
     refine ⟨_,op_ldo rfl rfl rfl rfl,?_⟩
     refine ⟨_,op_idx (j := mk.id) (n := (addMarks r.l (ms.take i)).length) (q := ⟨b4,o4,none⟩) rfl (congrArg (fun u => vS u (addMarks r.l (ms.take i)).length) hpe4) rfl rfl rfl hid.1 (by omega),?_⟩
     refine ⟨_,op_ldc (i := 0) rfl rfl rfl rfl hm4 hc4 rfl rfl,?_⟩
     refine ⟨_,rfl,?_⟩
     refine ⟨_,op_ldo rfl rfl rfl rfl,?_⟩
     refine ⟨.int .i64 (max z mk.inc),ammL_max _ _,?_⟩
     refine ⟨_,op_idx (j := mk.id) (n := (addMarks r.l (ms.take i)).length) (q := ⟨a,0,none⟩) rfl (congrArg (fun u => vS u (addMarks r.l (ms.take i)).length) ha) rfl rfl rfl hid.1 (by omega),?_⟩
     refine op_put (z := 1) (st := st') (f := fI) (j := mk.id.toNat) (l := addMarks r.l (ms.take i)) (y := max z mk.inc) (p := qK) (d := 0 + mk.id.toNat * 1) rfl rfl (Nat.zero_add _) rfl rfl fI_len rfl rfl (by omega) hrow ha ?_
     intro s5 hO5 hP5 hn5
     refine AW.cutM (gg + 1) s5 [(1,vI k),(7,vS q t.length),(9,vL 9 0 (gg)),(32,vS pm ms.length),(33,vI (ms.length : Int)),(34,vI (i : Int)),(35,vB true)] [(9,gg,[vI mk.id,vI mk.inc])] ⟨rfl,rfl,rfl,rfl,rfl,rfl,rfl,trivial⟩ ⟨rfl,trivial⟩ rfl fun ρ0 ff => ?_
     have hstep : (addMarks r.l (ms.take i)).set mk.id.toNat (max z mk.inc) = addMarks r.l (ms.take (i + 1)) := by rw [(split_at hmk3).2.1,addMarks_snoc,getD_of hz]
     rw [hstep] at hO5
     have hN5 : New st.next qK := hN' (pcRV ⟨qK,addMarks r.l (ms.take i)⟩) (List.mem_cons_of_mem _ (List.mem_map_of_mem (List.mem_of_getElem? hgt)))
     have hOP := hO'.put hP5 hO5 (by rw [addMarks_len,addMarks_len])
     have e56 : IntKind.wrap .i64 ((i : Int) + 1) = ((i + 1 : Nat) : Int) := (wrap_i64 (by omega) (by omega)).trans (by omega)
     refine ⟨_,rfl,?_⟩
     refine ⟨i + 1,ms.length - (i + 1),by omega,⟨rfl,rfl,rfl,rfl,congrArg (Value.int .i64) e56,trivial⟩,trivial,rfl,h6',hOP,fun c hc => ?_,hP5.pres hP' hN5⟩
     rcases List.mem_cons.1 hc with rfl | hc
     ·exact (hN' (pcR 1 cRV q (putT u0 k.toNat ⟨qK,addMarks r.l (ms.take i)⟩)) (List.mem_cons_self ..) : New st.next q)
     ·obtain ⟨y,hy,rfl⟩ := List.mem_map.1 hc
      rcases List.mem_append.1 hy with hy | hy
      ·exact hN' (pcRV y) (List.mem_cons_of_mem _ (List.mem_map_of_mem (List.mem_append_left _ hy)))
      ·rcases List.mem_cons.1 hy with rfl | hy
       ·exact hN5
       ·exact hN' (pcRV y) (List.mem_cons_of_mem _ (List.mem_map_of_mem (List.mem_append_right _ (List.mem_cons_of_mem _ hy))))
   ·replace h5 : (r.l.length : Int) < 5 := of_decide_eq_true h5
    refine ⟨_,rfl,?_⟩
    refine AW.cutM (0) s1 [(1,vI k),(2,vS pm ms.length),(6,.slice none 0 0),(7,vS q t.length),(30,vB true)] [] ⟨rfl,rfl,rfl,rfl,rfl,trivial⟩ trivial rfl fun ρ0 ff => ?_
    refine cxs ?_
    exact ⟨.inl rfl,_,rfl,q,u0,rfl,hul,by rw [tableAdd_neg (.inr (.inr ⟨r,hr1,by omega⟩))]; exact hu,hO,hN,hP⟩
theorem mem_ps {q : Option Addr} {t : List RV} {p : Option Addr} (h : p ∈ t.map (·.p)) : ∃ c ∈ pcT q t,c.p = p := by
 obtain ⟨r,hr,rfl⟩ := List.mem_map.1 h
 exact ⟨pcRV r,List.mem_cons_of_mem _ (List.mem_map_of_mem hr),rfl⟩
theorem OwnP.after {st0 s s' : St} {l : List Pc} {q : Option Addr} {t : List RV} {n : Nat} (h : OwnP s l) (h0 : OwnP st0 l) (hn : st0.next ≤ n) (hN : NewP n (pcT q t)) (hL : PrL (t.map (·.p)) s s') : OwnP s' l :=
 h.prl hL fun c hc p hp => by
  obtain ⟨d,hd,rfl⟩ := mem_ps (q := q) hp
  exact (Dis.of (((h0.1 c hc).old).le hn) (hN d hd)).symm
theorem OwnP.before {st0 s s' : St} {l : List Pc} {q : Option Addr} {t : List RV} {n : Nat} (h : OwnP s l) (hN : NewP n l) (h0 : OwnP st0 (pcT q t)) (hn : st0.next ≤ n) (hL : PrL (t.map (·.p)) s s') : OwnP s' l :=
 h.prl hL fun c hc p hp => by
  obtain ⟨d,hd,rfl⟩ := mem_ps (q := q) hp
  exact Dis.of (((h0.1 d hd).old).le hn) (hN c hc)
theorem tableAdd_lens (T : List (List Int)) (k : Int) (ms : List Flr) : (tableAdd T k ms).map List.length = T.map List.length := by
 unfold tableAdd
 split
 ·rename_i h
  have hK : k.toNat < T.length := by omega
  have hg : T.getD k.toNat [] = T[k.toNat] := by rw [List.getD_eq_getElem?_getD,List.getElem?_eq_getElem hK]; rfl
  conv => rhs; rw [(split_at (List.getElem?_eq_getElem hK)).1]
  rw [putT,hg,List.map_append,List.map_append,List.map_cons,List.map_cons,addMarks_len]
 ·rfl
theorem rows_lens {t u : List RV} (h : (u.map (·.l)).map List.length = (t.map (·.l)).map List.length) (hr : ∀ r ∈ t,szOk r.l.length) : ∀ r ∈ u,szOk r.l.length := fun r hm => by
 have h2 : r.l.length ∈ (u.map (·.l)).map List.length := List.mem_map_of_mem (List.mem_map_of_mem hm)
 rw [h] at h2
 obtain ⟨l,hl,he⟩ := List.mem_map.1 h2
 obtain ⟨x,hx,rfl⟩ := List.mem_map.1 hl
 rw [← he]; exact hr x hx
theorem FrC.oneF {c : Nat} {a b : St} {z : Nat} {α : Type} {f : α → List Value} {q : Option Addr} {l : List α} (hO : OwnR b z f q l) (hN : New a.next q) (hP : Pres a b) (hc : c < a.next) : FrC c a b [pcR z f q l] := ⟨OwnP.one (own_pc hO),NewP.cons hN NewP.nil,hP.c,hc⟩
theorem FrC.renew1 {c : Nat} {a b d : St} {z : Nat} {α : Type} {f : α → List Value} {p q : Option Addr} {l m : List α} (h : FrC c a b [pcR z f p l]) (hp : Pr p b d) (ho : OwnR d z f q m) (hn : New b.next q) : FrC c a d [pcR z f q m] ∧ PresC c a d :=
 have hP := PresC.thenNew h.2.2.1 hp (h.2.1 _ (List.mem_cons_self ..))
 ⟨⟨OwnP.one (own_pc ho),NewP.cons (hn.le h.2.2.1.1) NewP.nil,hP,h.2.2.2⟩,hP⟩
theorem ac_d_l9Marks {p : Option Addr} {bs : List Int} (c : Nat) (st : St) (hc : Cur st c p bs) (hs : bs.length < 1099511627776) : C 71 [vP c 0] st (fun v s => ∃ (q : Option Addr) (l : List Flr),v = vS q l.length ∧ l.length ≤ 6 ∧ FrC c st s [pcR 2 cFlr q l] ∧ Cur s c p bs) := by
 refine AC.enterX (i := ⟨[],[],[0,2,3,8],[]⟩) [] Try.func71 rfl rfl (by kernel_rfl) (by kernel_rfl) Try.ntmps71 (Nat.le_of_ble_eq_true rfl) rfl ?_
 refine AW.cut lo0 st [(0,vP c 0),(2,.slice none 0 0)] ⟨rfl,rfl,trivial⟩ fun ρ0 => ?_
 refine ⟨_,rfl,(ac_d_l3Right c st hc (by first | assumption | omega)).mono ?_⟩
 rintro _ s5 ⟨u5,rfl,h5,hF5,hC5⟩
 have hb5 := big_ok h5
 refine ⟨_,rfl,(ac_spec_MarksOf u5 s5 (hF5.1.rdS) (by first | assumption | omega)).mono ?_⟩
 rintro _ s6 ⟨q6,rfl,hO6,hP6,hN6⟩
 refine AW.cut lo0 s6 [(0,vP c 0),(2,.slice none 0 0),(3,vS q6 (marksF (goneAt u5.x) 5).length)] ⟨rfl,rfl,rfl,trivial⟩ fun ρ0 => ?_
 have hF6 : FrC c st s6 [pcR 2 cFlr q6 (marksF (goneAt u5.x) 5)] := (FrC.oneF hO6 hN6 hP6 hF5.lt).sooner hF5.2.2.1 hc.lt
 have hC6 := hC5.pres hP6
 have hl := marksF_len (goneAt u5.x) 5
 refine ⟨_,rfl,(ac_d_l1Once c 10 s6 hC6 (by first | assumption | omega)).mono ?_⟩
 rintro _ s8 ⟨b8,rfl,hC8,hL8⟩
 rcases b8 with _|_
 ·refine AW.cut lo0 s8 [(0,vP c 0),(2,.slice none 0 0),(3,vS q6 (marksF (goneAt u5.x) 5).length),(8,vB false)] ⟨rfl,rfl,rfl,rfl,trivial⟩ fun ρ0 => ?_
  refine cxs ?_
  refine cxs ?_
  exact ⟨.inl rfl,_,rfl,q6,_,rfl,by omega,hF6.later hL8,hC8⟩
 ·refine AW.cut lo0 s8 [(0,vP c 0),(2,.slice none 0 0),(3,vS q6 (marksF (goneAt u5.x) 5).length),(8,vB true)] ⟨rfl,rfl,rfl,rfl,trivial⟩ fun ρ0 => ?_
  refine ⟨_,rfl,(ac_d_l1Below c 7 s8 hC8 (by first | assumption | omega)).mono ?_⟩
  rintro _ s11 ⟨r11,rfl,h11,h11',h11'',hC11,hL11⟩
  have ew12 : IntKind.wrap .i64 (r11 - (1)) = r11 - (1) := wrap_i64 (by omega) (by omega)
  refine ⟨_,rfl,?_⟩
  refine op_litI (k := .i64) (l := [0,1,1001]) rfl rfl rfl rfl rfl rfl (Nat.le_of_ble_eq_true rfl) ?_
  intro q14 s14 hO14 hP14 hN14
  refine ⟨_,rfl,(ac_d_l1PickInt c q14 ([0,1,1001]) s14 (hC11.pres hP14) (by first | assumption | omega) (by first | assumption | omega | decide) (by first | assumption | omega) (by first | assumption | exact NC.new (by assumption) (Cur.lt (by assumption)))).mono ?_⟩
  rintro _ s15 ⟨r15,rfl,h15,hC15,hL15⟩
  refine ⟨_,rfl,?_⟩
  refine op_one (z := 2) (a := ((⟨IntKind.wrap .i64 (r11 - 1),r15⟩ : Flr) : Flr)) (f := cFlr) rfl rfl rfl rfl rfl (by decide) rfl (Nat.le_of_ble_eq_true rfl) rfl rfl rfl ?_
  have hF15 := (((hF6.later hL8).later hL11).step hP14).later hL15
  have hO15 : OwnR s15 2 cFlr q6 (marksF (goneAt u5.x) 5) := own_one (by decide) len_cFlr hF15.1
  refine op_snoc (z := 2) (st := s15) (f := cFlr) (b := 16) (l := marksF (goneAt u5.x) 5) (x := (⟨IntKind.wrap .i64 (r11 - 1),r15⟩ : Flr)) rfl rfl rfl rfl rfl rfl rfl (by decide) len_cFlr rfl rfl rfl (by omega) (by unfold maxLen; omega) hO15 ?_
  intro q18 s18 hO18 hP18 hN18
  refine cxs ?_
  refine cxs ?_
  have hF18 := hF15.renew1 hP18 hO18 hN18
  exact ⟨.inl rfl,_,rfl,q18,_,rfl,by rw [List.length_append,List.length_singleton]; omega,hF18.1,hC15.thenNew hc hF15.2.2.1 hP18 (hF15.2.1 _ (List.mem_cons_self ..))⟩
theorem lens_all {t u : List RV} (h : (u.map (·.l)).map List.length = (t.map (·.l)).map List.length) (k : ∀ r ∈ t,r.l.length = 5) : ∀ r ∈ u,r.l.length = 5 := fun r hr => by
 have h1 : r.l.length ∈ (u.map (·.l)).map List.length := List.mem_map_of_mem (List.mem_map_of_mem hr)
 rw [h] at h1
 obtain ⟨l,hl,h2⟩ := List.mem_map.1 h1
 obtain ⟨r',hr',rfl⟩ := List.mem_map.1 hl
 rw [← h2]; exact k r' hr'
theorem Frs.toT {a b : St} {q : Option Addr} {t : List RV} (hO : OwnP b (pcT q t)) (hN : NewP a.next (pcT q t)) (hP : Pres a b) : Frs a b (pcT q t) := ⟨hO,hN,hP⟩
theorem ac_d_l9Right {p : Option Addr} {bs : List Int} (c : Nat) (st : St) (hc : Cur st c p bs) (hs : bs.length < 1099511627776) : C 148 [vP c 0] st (fun v s => ∃ (q : Option Addr) (t : List RV),v = vS q t.length ∧ (0 < t.length ∧ t.length ≤ 4) ∧ (∀ r ∈ t,r.l.length = 5) ∧ FrC c st s (pcT q t) ∧ Cur s c p bs) := by
 refine AC.enterX (i := ⟨[],[],[0,2,3,4,5,13],[]⟩) [] Try.func148 rfl rfl (by kernel_rfl) (by kernel_rfl) Try.ntmps148 (Nat.le_of_ble_eq_true rfl) rfl ?_
 refine AW.cut lo0 st [(0,vP c 0),(2,.slice none 0 0)] ⟨rfl,rfl,trivial⟩ fun ρ0 => ?_
 refine ⟨_,rfl,(ac_d_l1Below c 4 st hc (by first | assumption | omega)).mono ?_⟩
 rintro _ s7 ⟨r7,rfl,h7,h7',h7'',hC7,hL7⟩
 have ew8 : IntKind.wrap .i64 ((1) + r7) = (1) + r7 := wrap_i64 (by omega) (by omega)
 refine ⟨_,rfl,?_⟩
 refine AW.cut lo0 s7 [(0,vP c 0),(2,.slice none 0 0),(3,vI ((1) + r7))] ⟨rfl,rfl,congrArg (Value.int .i64) ew8,trivial⟩ fun ρ0 => ?_
 refine ⟨_,rfl,(ac_spec_TableNew ((1) + r7) s7).mono ?_⟩
 rintro _ s10 ⟨p10,t10,rfl,hO10,hN10,hP10,h10⟩
 refine cxs ?_
 have hF10 : FrC c st s10 (pcT p10 t10) := ((Frs.toT hO10 hN10 hP10).toC hC7.lt).sooner hL7 hc.lt
 have hC10 := hC7.pres hP10
 have hr10 := (tnew_rows h10).2.1
 have hl10 : (t10.length : Int) = 1 + r7 := by
  have := congrArg List.length h10
  rw [List.length_map,tnew,if_pos (by omega),List.length_replicate] at this
  omega
 refine AW.cut lo0 s10 [(0,vP c 0),(2,.slice none 0 0),(3,vI ((1) + r7)),(4,vS p10 t10.length),(5,vI (0))] ⟨rfl,rfl,rfl,rfl,rfl,trivial⟩ fun ρ0 => ?_
 refine AW.loop0 (fun x : Nat × Option Addr × List RV => [(0,vP c 0),(2,.slice none 0 0),(3,vI ((1) + r7)),(4,vS x.2.1 x.2.2.length),(5,vI (x.1 : Int))]) (fun m (x : Nat × Option Addr × List RV) st' => m = (1 + r7).toNat - x.1 ∧ (x.1 : Int) ≤ 1 + r7 ∧ (x.2.2.length : Int) = 1 + r7 ∧ (∀ r ∈ x.2.2,r.l.length = 5) ∧ FrC c st st' (pcT x.2.1 x.2.2) ∧ Cur st' c p bs) (0,p10,t10) _ ⟨rfl,rfl,rfl,rfl,rfl,trivial⟩ rfl ⟨rfl,by simp only; omega,hl10,hr10,hF10,hC10⟩ ?_
 rintro m ⟨i,q,t⟩ ρ0 st' ⟨rfl,hi,hl,hr,hF,hC⟩
 simp only at hi hl hr hF
 refine ⟨_,rfl,?_⟩
 rintro (_|_) h13
 ·replace h13 : ¬ ((i : Int) < ((1) + r7)) := of_decide_eq_false h13
  refine AW.cut lo0 st' [(0,vP c 0),(2,.slice none 0 0),(3,vI ((1) + r7)),(4,vS q t.length),(5,vI (i : Int)),(13,vB false)] ⟨rfl,rfl,rfl,rfl,rfl,rfl,trivial⟩ fun ρ0 => ?_
  refine cxs ?_
  refine cxs ?_
  exact ⟨.inl rfl,_,rfl,q,t,rfl,⟨by omega,by omega⟩,hr,hF,hC⟩
 ·replace h13 : (i : Int) < ((1) + r7) := of_decide_eq_true h13
  refine AW.cut lo0 st' [(0,vP c 0),(2,.slice none 0 0),(3,vI ((1) + r7)),(4,vS q t.length),(5,vI (i : Int)),(13,vB true)] ⟨rfl,rfl,rfl,rfl,rfl,rfl,trivial⟩ fun ρ0 => ?_
  refine cxs ?_
  refine ⟨_,rfl,(ac_d_l3Right c st' hC (by first | assumption | omega)).mono ?_⟩
  rintro _ s19 ⟨u19,rfl,h19,hF19,hC19⟩
  have hb19 := big_ok h19
  refine ⟨_,rfl,(ac_spec_MarksOf u19 s19 (hF19.1.rdS) (by first | assumption | omega)).mono ?_⟩
  rintro _ s20 ⟨q20,rfl,hO20,hP20,hN20⟩
  have hF20 := (hF.join hF19).step hP20
  have hst : szOk t.length := by unfold szOk; omega
  have hsr : ∀ r ∈ t,szOk r.l.length := fun r hr' => by rw [hr r hr']; unfold szOk; omega
  refine ⟨_,rfl,(ac_spec_TableAdd q q20 t (i : Int) (marksF (goneAt u19.x) 5) s20 hF20.left.1.rdT (hO20.rows len_cFlr) hst hsr (szm _)).mono ?_⟩
  rintro _ s21 ⟨q21,u21,rfl,h21,h21',hO21,hN21,hP21⟩
  refine AW.cut lo0 s21 [(0,vP c 0),(2,.slice none 0 0),(3,vI ((1) + r7)),(4,vS q21 u21.length),(5,vI (i : Int)),(13,vB true)] ⟨rfl,rfl,rfl,congrArg (vS q21) h21.symm,rfl,rfl,trivial⟩ fun ρ0 => ?_
  have hF21 : FrC c st s21 (pcT q21 u21) := ((Frs.toT hO21 hN21 hP21).toC hF20.lt).sooner hF20.2.2.1 hc.lt
  have hC21 := (hC19.pres hP20).pres hP21
  have ew15 : IntKind.wrap .i64 ((i : Int) + (1)) = ((i + 1 : Nat) : Int) := (wrap_i64 (by omega) (by omega)).trans (by omega)
  refine ⟨_,rfl,?_⟩
  exact ⟨(i + 1,q21,u21),(1 + r7).toNat - (i + 1),by omega,⟨rfl,rfl,rfl,rfl,congrArg (Value.int .i64) ew15,trivial⟩,rfl,rfl,by simp only; omega,by simp only; rw [h21]; exact hl,lens_all (by rw [h21']; exact tableAdd_lens _ _ _) hr,hF21,hC21⟩
abbrev Hold (L : List Pc) (R : St → Prop) : Prop := ∀ s,OwnP s L → R s
section
variable {P : Program} {ls : List Tmp} {call : ACallT} {o : Oper} {e : Operand → Value} {lo : Lo} {st : St}
theorem op_slH {t el : TypeId} {x w : Operand} {p : Option Addr} {n j z : Nat} {b : Int} (ho : o.op = .slice t x none (some w) none) (hx : e x = .slice p n n) (hw : e w = vI b) (hb : b = (j : Int)) (he : telem P t = some el) (hz : tsize P el = some z) (h1 : j ≤ n) : aoper P ls call o e lo st = some (.slice p j j,lo,st) := by
 obtain ⟨d,op,ty,pos,after,gd⟩ := o
 simp only at ho
 subst ho hb
 have hp : (p.map fun q => (⟨q.block,q.off + 0 * z,q.spot⟩ : Addr)) = p := by cases p <;> simp
 simp only [aoper,rop,hx,hw,aslice,he,hz,Option.bind_some,Option.map_none,Option.map_some,abound,Option.bind]
 rw [if_pos (Int.natCast_nonneg j)]
 simp only [Int.toNat_natCast]
 rw [if_pos ⟨Nat.zero_le _,h1⟩,hp]
 rfl
end
theorem hold_cut {q : Option Addr} {t : List RV} {r : RV} (h0 : t[0]? = some r) (k : Nat) : Hold (pcR 1 cRV q (t.set 0 ⟨r.p,r.l.take k⟩) :: t.map pcRV) fun s => RdT s q (t.set 0 ⟨r.p,r.l.take k⟩) := fun s h => by
 have hrow : ∀ x ∈ t,Rows s 1 fI x.p x.l := fun x hx => (pc_own (f := fI) Nat.one_pos fI_len (h.1 (pcRV x) (List.mem_cons_of_mem _ (List.mem_map_of_mem hx)))).rows fI_len
 refine ⟨(pc_own (f := cRV) Nat.one_pos cRV_len (h.1 _ (List.mem_cons_self ..))).rows cRV_len,fun x hx => ?_⟩
 rcases List.mem_or_eq_of_mem_set hx with hx | rfl
 ·exact hrow x hx
 ·exact (hrow r (List.mem_of_getElem? h0)).take k
theorem ac_d_l9Draw {p : Option Addr} {bs : List Int} (c : Nat) (st : St) (hc : Cur st c p bs) (hs : bs.length < 1099511627776) : C 69 [vP c 0] st (fun v s => ∃ (q : Option Addr) (t : List RV) (L : List Pc),v = vS q t.length ∧ (t.length ≤ 4 ∧ ∀ r ∈ t,r.l.length ≤ 5) ∧ FrC c st s L ∧ Hold L (fun s' => RdT s' q t) ∧ Cur s c p bs) := by
 refine AC.enterX (i := ⟨[],[],[0,2,3,7,8,16,25],[]⟩) [(2006,[],[1]),(6,[4,5],[2])] Try.func69 rfl rfl (by kernel_rfl) (by kernel_rfl) Try.ntmps69 (Nat.le_of_ble_eq_true rfl) rfl ?_
 refine AW.cut lo0 st [(0,vP c 0),(2,.slice none 0 0)] ⟨rfl,rfl,trivial⟩ fun ρ0 => ?_
 refine ⟨_,rfl,(ac_d_l9Right c st hc (by first | assumption | omega)).mono ?_⟩
 rintro _ s5 ⟨q5,t5,rfl,h5,h5',hF5,hC5⟩
 refine AW.cut lo0 s5 [(0,vP c 0),(2,.slice none 0 0),(3,vS q5 t5.length)] ⟨rfl,rfl,rfl,trivial⟩ fun ρ0 => ?_
 refine ⟨_,rfl,(ac_d_l1Below c 12 s5 hC5 (by first | assumption | omega)).mono ?_⟩
 rintro _ s7 ⟨r7,rfl,h7,h7',h7'',hC7,hL7⟩
 refine AW.cut lo0 s7 [(0,vP c 0),(2,.slice none 0 0),(3,vS q5 t5.length),(7,vI r7)] ⟨rfl,rfl,rfl,rfl,trivial⟩ fun ρ0 => ?_
 have hF7 := hF5.later hL7
 have hR7 := hF7.1.rdT
 have hsz : t5.length ≤ 4 ∧ ∀ r ∈ t5,r.l.length ≤ 5 := ⟨h5.2,fun r hr => Nat.le_of_eq (h5' r hr)⟩
 have hl0 : 0 < t5.length := h5.1
 refine ⟨_,rfl,?_⟩
 rintro (_|_) h9
 ·replace h9 : ¬ (r7 = (0)) := beq_eq_false_iff_ne.1 h9
  refine AW.cut lo0 s7 [(0,vP c 0),(2,.slice none 0 0),(3,vS q5 t5.length),(7,vI r7),(8,vB false)] ⟨rfl,rfl,rfl,rfl,rfl,trivial⟩ fun ρ0 => ?_
  refine ⟨_,rfl,?_⟩
  rintro (_|_) h17
  ·replace h17 : ¬ (r7 = (1)) := beq_eq_false_iff_ne.1 h17
   refine AW.cut lo0 s7 [(0,vP c 0),(2,.slice none 0 0),(3,vS q5 t5.length),(7,vI r7),(16,vB false)] ⟨rfl,rfl,rfl,rfl,rfl,trivial⟩ fun ρ0 => ?_
   refine ⟨_,rfl,?_⟩
   rintro (_|_) h26
   ·replace h26 : ¬ (r7 = (2)) := beq_eq_false_iff_ne.1 h26
    refine AW.cut lo0 s7 [(2,.slice none 0 0),(3,vS q5 t5.length),(25,vB false)] ⟨rfl,rfl,rfl,trivial⟩ fun ρ0 => ?_
    refine cxs ?_
    refine cxs ?_
    exact ⟨.inl rfl,_,rfl,q5,t5,_,rfl,hsz,hF7,fun s' hO => hO.rdT,hC7⟩
   ·replace h26 : r7 = (2) := beq_iff_eq.1 h26
    refine AW.cut lo0 s7 [(2,.slice none 0 0),(3,vS q5 t5.length),(25,vB true)] ⟨rfl,rfl,rfl,trivial⟩ fun ρ0 => ?_
    refine cxs ?_
    refine cxs ?_
    exact ⟨.inl rfl,_,rfl,none,[],[],rfl,⟨Nat.zero_le _,fun r hr => (nomatch hr)⟩,⟨OwnP.nil,NewP.nil,hF7.2.2⟩,fun s' _ => ⟨Rows.nil,fun r hr => (nomatch hr)⟩,hC7⟩
  ·replace h17 : r7 = (1) := beq_iff_eq.1 h17
   refine AW.cut lo0 s7 [(0,vP c 0),(2,.slice none 0 0),(3,vS q5 t5.length),(7,vI r7),(16,vB true)] ⟨rfl,rfl,rfl,rfl,rfl,trivial⟩ fun ρ0 => ?_
   refine ⟨(fun a => a < s7.next ∧ a ≠ c),?_⟩
   refine op_at 0 hR7.1 (by omega) rfl rfl rfl rfl rfl rfl rfl ?_
   intro x19 b19 d19 k19 hy19 hb19 hm19 hc19 ho19
   have hm20 : x19 ∈ t5 := List.mem_of_getElem? hy19
   have hx5 : x19.l.length = 5 := h5' _ hm20
   have hne : b19 ≠ c := by
    obtain ⟨a,ha⟩ := (hF7.1.outer).some hl0
    obtain ⟨o,ho⟩ := ho19
    have := hF7.2.1 _ (List.mem_cons_self ..) ⟨b19,o,none⟩ ho
    exact Nat.ne_of_gt (Nat.lt_of_lt_of_le hc.lt this)
   refine ⟨_,op_ldc (i := 0) rfl rfl rfl rfl hm19 hc19 rfl rfl,?_⟩
   refine ⟨ld_lt rfl rfl ⟨hb19,hne⟩,?_⟩
   refine op_litI (k := .i64) (l := [-1,1001]) rfl rfl rfl rfl rfl rfl (Nat.le_of_ble_eq_true rfl) ?_
   intro q22 s22 hO22 hP22 hN22
   refine ⟨fun a ha => hP22.2 a ha.1,?_⟩
   refine ⟨_,rfl,(ac_d_l1PickInt c q22 [-1,1001] s22 (hC7.pres hP22) hs (by decide) hO22 (NC.new hN22 hC7.lt)).mono ?_⟩
   rintro _ s23 ⟨r23,rfl,h23,hC23,hL23⟩
   refine ⟨fun a ha => hL23.2 a (Nat.lt_of_lt_of_le ha.1 hP22.1) ha.2,?_⟩
   have hF23 := (hF7.step hP22).later hL23
   have hO23 : OwnR s23 1 fI x19.p x19.l := hF23.1.row hm20
   obtain ⟨a,ha⟩ := hO23.some (by omega)
   refine ⟨_,op_idx (j := 0) (n := x19.l.length) (q := ⟨a,0,none⟩) rfl (congrArg (fun v => vS v x19.l.length) ha) rfl rfl rfl (Int.le_refl 0) (by omega),?_⟩
   refine op_put (st := s23) (f := fI) (j := 0) (l := x19.l) (y := r23) (p := x19.p) (d := 0 + (0 : Int).toNat * 1) rfl rfl rfl rfl rfl fI_len rfl rfl (by omega) hO23 ha ?_
   intro s24 hO24 hP24 hn24
   refine cxs ?_
   refine cxs ?_
   have hNq : New st.next x19.p := hF23.2.1 (pcRV x19) (List.mem_cons_of_mem _ (List.mem_map_of_mem hm20))
   have hPC := PresC.thenNew hF23.2.2.1 hP24 hNq
   have hput : OwnP s24 (pcT q5 (putT t5 0 ⟨x19.p,x19.l.set 0 r23⟩)) := OwnP.put (l := x19.l) (by rw [show (⟨x19.p,x19.l⟩ : RV) = x19 from rfl,putT_self hy19]; exact hF23.1) hP24 hO24 List.length_set
   have hlen := putT_len (x := (⟨x19.p,x19.l.set 0 r23⟩ : RV)) hl0
   refine ⟨.inl rfl,_,rfl,q5,_,_,congrArg (vS q5) hlen.symm,⟨by rw [hlen]; exact h5.2,fun r hr => ?_⟩,⟨hput,fun x hx => ?_,hPC,hc.lt⟩,fun s' hO => hO.rdT,hC23.thenNew hc hF23.2.2.1 hP24 hNq⟩
   ·rcases List.mem_append.1 hr with hr | hr
    ·exact hsz.2 r (List.mem_of_mem_take hr)
    ·rcases List.mem_cons.1 hr with rfl | hr
     ·simp only [List.length_set]; omega
     ·exact hsz.2 r (List.mem_of_mem_drop hr)
   ·rcases List.mem_cons.1 hx with rfl | hx
    ·exact hF23.2.1 (pcR 1 cRV q5 t5) (List.mem_cons_self ..)
    ·obtain ⟨r,hr,rfl⟩ := List.mem_map.1 hx
     rcases List.mem_append.1 hr with hr | hr
     ·exact hF23.2.1 _ (List.mem_cons_of_mem _ (List.mem_map_of_mem (List.mem_of_mem_take hr)))
     ·rcases List.mem_cons.1 hr with rfl | hr
      ·exact hNq
      ·exact hF23.2.1 _ (List.mem_cons_of_mem _ (List.mem_map_of_mem (List.mem_of_mem_drop hr)))
 ·replace h9 : r7 = (0) := beq_iff_eq.1 h9
  refine AW.cut lo0 s7 [(0,vP c 0),(2,.slice none 0 0),(3,vS q5 t5.length),(7,vI r7),(8,vB true)] ⟨rfl,rfl,rfl,rfl,rfl,trivial⟩ fun ρ0 => ?_
  refine op_at 0 hR7.1 (by omega) rfl rfl rfl rfl rfl rfl rfl ?_
  intro x12 b12 d12 k12 hy12 hb12 hm12 hc12 ho12
  refine ⟨_,op_ldc (i := 0) rfl rfl rfl rfl hm12 hc12 rfl rfl,?_⟩
  have hx5 : x12.l.length = 5 := h5' _ (List.mem_of_getElem? hy12)
  refine ⟨_,op_slH (p := x12.p) (n := x12.l.length) (j := 3) rfl rfl rfl rfl rfl rfl (by omega),?_⟩
  have hO7 : OwnR s7 1 cRV q5 t5 := hF7.1.outer
  obtain ⟨a,ha⟩ := hO7.some hl0
  refine ⟨_,op_idx (j := 0) (n := t5.length) (q := ⟨a,0,none⟩) rfl (congrArg (fun v => vS v t5.length) ha) rfl rfl rfl (Int.le_refl 0) (by omega),?_⟩
  refine op_put (st := s7) (f := cRV) (j := 0) (l := t5) (y := (⟨x12.p,x12.l.take 3⟩ : RV)) (p := q5) (d := 0 + (0 : Int).toNat * 1) rfl rfl rfl rfl rfl cRV_len (congrArg (fun n => [vS x12.p n]) (show 3 = (x12.l.take 3).length by rw [List.length_take]; omega)) rfl hl0 hO7 ha ?_
  intro s15 hO15 hP15 hn15
  refine cxs ?_
  refine cxs ?_
  have hNq : New st.next q5 := hF7.2.1 _ (List.mem_cons_self ..)
  have hPC := PresC.thenNew hF7.2.2.1 hP15 hNq
  refine ⟨.inl rfl,_,rfl,q5,_,_,congrArg (vS q5) List.length_set.symm,⟨by rw [List.length_set]; exact h5.2,fun r hr => ?_⟩,⟨OwnP.update (l := []) (d := pcR 1 cRV q5 (t5.set 0 ⟨x12.p,x12.l.take 3⟩)) hF7.1 hP15 (own_pc hO15) rfl,NewP.cons hNq (fun x hx => hF7.2.1 x (List.mem_cons_of_mem _ hx)),hPC,hc.lt⟩,hold_cut hy12 3,hC7.thenNew hc hF7.2.2.1 hP15 hNq⟩
  rcases List.mem_or_eq_of_mem_set hr with hr | rfl
  ·exact hsz.2 r hr
  ·simp only [List.length_take]; omega
theorem ac_spec_DrawTableNew (p : Option Addr) (bs : List Int) (st : St) (hI : Ints st .u8 p bs) (hs : bs.length < 1099511627776) : C 19 [vS p bs.length] st (fun v s => ∃ n,v = vI n ∧ (-1 ≤ n ∧ n ≤ 6) ∧ Pres st s) := by
 refine AC.enterX (i := ⟨[],[],[0,2],[]⟩) [] Try.func19 rfl rfl (by kernel_rfl) (by kernel_rfl) Try.ntmps19 (Nat.le_of_ble_eq_true rfl) rfl ?_
 refine AW.cut lo0 st [(0,vS p bs.length),(2,vI (0))] ⟨rfl,rfl,trivial⟩ fun ρ0 => ?_
 refine ⟨_,rfl,(ac_spec_l1New p bs st hI (by first | assumption | omega)).mono ?_⟩
 rintro _ s4 ⟨rfl,hC4,hP4,h4⟩
 refine ⟨_,rfl,(ac_d_l1Below st.next 8 s4 hC4 (by first | assumption | omega)).mono ?_⟩
 rintro _ s5 ⟨r5,rfl,h5,h5',h5'',hC5,hL5⟩
 have ew6 : IntKind.wrap .i64 (r5 - (1)) = r5 - (1) := wrap_i64 (by omega) (by omega)
 refine ⟨_,rfl,?_⟩
 refine cxs ?_
 exact ⟨.inl rfl,_,rfl,IntKind.wrap .i64 (r5 - 1),rfl,by omega,PresC.pres hP4 hL5 (Nat.le_refl _)⟩
theorem ac_spec_DrawTableAdd (p : Option Addr) (bs : List Int) (st : St) (hI : Ints st .u8 p bs) (hs : bs.length < 1099511627776) : C 14 [vS p bs.length] st (fun v s => ∃ (q : Option Addr) (t : List RV) (n : Int) (q2 : Option Addr) (ms : List Flr),v = .tuple #[vS q t.length,vI n,vS q2 ms.length] ∧ (t.length ≤ 4 ∧ ∀ r ∈ t,r.l.length ≤ 5) ∧ ms.length ≤ 6 ∧ RdT s q t ∧ Rows s 2 cFlr q2 ms ∧ Pres st s) := by
 refine AC.enterX (i := ⟨[],[],[0,2,3,4,5,6,7],[]⟩) [] Try.func14 rfl rfl (by kernel_rfl) (by kernel_rfl) Try.ntmps14 (Nat.le_of_ble_eq_true rfl) rfl ?_
 refine AW.cut lo0 st [(0,vS p bs.length),(2,.slice none 0 0),(3,vI (0)),(4,.slice none 0 0)] ⟨rfl,rfl,rfl,rfl,trivial⟩ fun ρ0 => ?_
 refine ⟨_,rfl,(ac_spec_l1New p bs st hI (by first | assumption | omega)).mono ?_⟩
 rintro _ s9 ⟨rfl,hC9,hP9,h9⟩
 refine AW.cut lo0 s9 [(2,.slice none 0 0),(3,vI (0)),(4,.slice none 0 0),(5,vP st.next 0)] ⟨rfl,rfl,rfl,rfl,trivial⟩ fun ρ0 => ?_
 refine ⟨_,rfl,(ac_d_l9Draw st.next s9 hC9 (by first | assumption | omega)).mono ?_⟩
 rintro _ s11 ⟨q11,t11,L11,rfl,h11,hF11,h11',hC11⟩
 refine AW.cut lo0 s11 [(2,.slice none 0 0),(3,vI (0)),(4,.slice none 0 0),(5,vP st.next 0),(6,vS q11 t11.length)] ⟨rfl,rfl,rfl,rfl,rfl,trivial⟩ fun ρ0 => ?_
 have hl11 : t11.length ≤ 4 := h11.1
 refine ⟨_,rfl,?_⟩
 have ew15 : IntKind.wrap .i64 ((t11.length : Int) + (2)) = ((t11.length + 2 : Nat) : Int) := (wrap_i64 (by omega) (by omega)).trans (by omega)
 refine ⟨_,rfl,?_⟩
 refine ⟨_,rfl,(ac_d_l1Below st.next (IntKind.wrap .i64 ((t11.length : Int) + (2))) s11 hC11 (by first | assumption | omega)).mono ?_⟩
 rintro _ s16 ⟨r16,rfl,h16,h16',h16'',hC16,hL16⟩
 rw [ew15] at h16'
 rw [ew15] at h16''
 have ew17 : IntKind.wrap .i64 (r16 - (1)) = r16 - (1) := wrap_i64 (by omega) (by omega)
 refine ⟨_,rfl,?_⟩
 refine AW.cut lo0 s16 [(2,.slice none 0 0),(3,vI (0)),(4,.slice none 0 0),(5,vP st.next 0),(6,vS q11 t11.length),(7,vI (r16 - (1)))] ⟨rfl,rfl,rfl,rfl,rfl,congrArg (Value.int .i64) ew17,trivial⟩ fun ρ0 => ?_
 refine ⟨_,rfl,(ac_d_l9Marks st.next s16 hC16 (by first | assumption | omega)).mono ?_⟩
 rintro _ s21 ⟨q21,l21,rfl,h21,hF21,hC21⟩
 refine cxs ?_
 have hF := hF11.later hL16
 have hF2 := hF.join hF21
 exact ⟨.inl rfl,_,rfl,q11,t11,_,q21,l21,rfl,h11,h21,h11' _ hF2.left.1,(own_one (by decide) len_cFlr hF2.right.1).rows len_cFlr,(hF2.out hP9).2.2⟩
end Go.Proofs.Yteabadoaeadcgaa.AM
namespace Go.Proofs.Yteabadoaeadcgaa.AM
open Go Go.Proofs
set_option linter.unusedVariables false
set_option linter.unusedSimpArgs false
theorem go_le (id : Int) : ∀ (t : List (List Int)) (b : Bool) (v : Int),commonGo id t b v = 0 ∨ ((b = false → commonGo id t b v ≤ v) ∧ ∀ r ∈ t,commonGo id t b v ≤ r.getD id.toNat 0)
 | [],b,v => .inr ⟨fun _ => Int.le_refl _,fun r hr => by cases hr⟩
 | r :: t,b,v => by
  unfold commonGo
  split
  ·split
   ·rename_i hc
    rcases go_le id t false (r.getD id.toNat 0) with h | ⟨h1,h2⟩
    ·exact .inl h
    ·refine .inr ⟨fun hb => ?_,fun x hx => ?_⟩
     ·rcases hc with hc | hc
      ·rw [hb] at hc; cases hc
      ·have := h1 rfl; omega
     ·rcases List.mem_cons.1 hx with rfl | hx
      ·exact h1 rfl
      ·exact h2 x hx
   ·rename_i hc
    have hb : b = false := by cases b; rfl; exact absurd (Or.inl rfl) hc
    have hv : ¬ r.getD id.toNat 0 < v := fun h => hc (.inr h)
    rcases go_le id t false v with h | ⟨h1,h2⟩
    ·exact .inl h
    ·refine .inr ⟨fun _ => h1 rfl,fun x hx => ?_⟩
     rcases List.mem_cons.1 hx with rfl | hx
     ·have := h1 rfl; omega
     ·exact h2 x hx
  ·exact .inl rfl
theorem common_le {t : List (List Int)} {r : List Int} (id : Int) (hr : r ∈ t) (h0 : 0 ≤ r.getD id.toNat 0) : common t id ≤ r.getD id.toNat 0 := by
 rcases go_le id t true 0 with h | ⟨_,h⟩
 ·unfold common; rw [h]; exact h0
 ·exact h r hr
theorem addMarks_ge : ∀ (ms : List Flr) (l : List Int) (j : Nat),l.getD j 0 ≤ (addMarks l ms).getD j 0
 | [],l,j => Int.le_refl _
 | m :: ms,l,j => by
  refine Int.le_trans ?_ (addMarks_ge ms _ j)
  simp only [List.getD_eq_getElem?_getD]
  by_cases h : m.id.toNat = j
  ·subst h
   by_cases hl : m.id.toNat < l.length
   ·rw [List.getElem?_set_self hl]; exact Int.le_max_left ..
   ·rw [List.getElem?_eq_none (by omega),List.getElem?_eq_none (by rw [List.length_set]; omega)]; exact Int.le_refl _
  ·rw [List.getElem?_set_ne h]; exact Int.le_refl _
theorem tableAdd_row {T : List (List Int)} {k : Int} {ms : List Flr} {i : Nat} {l l' : List Int} (h : T[i]? = some l) (h' : (tableAdd T k ms)[i]? = some l') : l'.length = l.length ∧ ∀ j : Nat,l.getD j 0 ≤ l'.getD j 0 := by
 unfold tableAdd at h'
 split at h'
 ·rename_i hc
  have hK : k.toNat < T.length := by omega
  by_cases hi : i = k.toNat
  ·subst hi
   rw [putT_get hK] at h'
   injection h' with h'
   rw [← h',show T.getD k.toNat [] = l by rw [List.getD_eq_getElem?_getD,h]; rfl]
   exact ⟨addMarks_len _ _,addMarks_ge _ _⟩
  ·have : (putT T k.toNat (addMarks (T.getD k.toNat []) ms))[i]? = T[i]? := by
    unfold putT
    rcases Nat.lt_or_ge i k.toNat with h1 | h1
    ·rw [List.getElem?_append_left (by rw [List.length_take]; omega),List.getElem?_take,if_pos h1]
    ·rw [List.getElem?_append_right (by rw [List.length_take]; omega),List.length_take,show i - min k.toNat T.length = (i - k.toNat - 1) + 1 by omega,List.getElem?_cons_succ,List.getElem?_drop]
     congr 1; omega
   rw [this,h] at h'
   injection h' with h'
   rw [h']; exact ⟨rfl,fun _ => Int.le_refl _⟩
 ·rw [h] at h'
  injection h' with h'
  rw [h']; exact ⟨rfl,fun _ => Int.le_refl _⟩
theorem rls_get {t : List RV} {i : Nat} {r : RV} (h : t[i]? = some r) : (t.map (·.l))[i]? = some r.l := by rw [List.getElem?_map,h]; rfl
theorem tnew_tableOk {n : Int} : tableOk (tnew n) n ↔ 1 ≤ n ∧ n ≤ 5 := by
 unfold tnew
 constructor
 ·intro h; exact h.1
 ·intro h
  rw [if_pos h]
  refine ⟨h,by rw [List.length_replicate]; omega,fun l hl => ?_⟩
  rw [(List.mem_replicate.1 hl).2]
  refine ⟨rfl,fun j x hx => ?_⟩
  have := List.mem_of_getElem? hx
  simp only [List.mem_cons,List.not_mem_nil,or_false] at this
  omega
end Go.Proofs.Yteabadoaeadcgaa.AM
namespace Go.Proofs.Yteabadoaeadcgaa.AM
open Go Go.Proofs
set_option linter.unusedVariables false
set_option linter.unusedSimpArgs false
set_option maxRecDepth 100000
set_option maxHeartbeats 4000000
theorem ac_laws_sameInts (p q : Option Addr) (a b : List Int) (st : St) (hA : Rows st 1 fI p a) (hB : Rows st 1 fI q b) (hs : a.length ≤ 1048576) : C 17 [vS p a.length,vS q b.length] st (fun v s => ∃ x,v = .bool x ∧ (x = true ↔ a = b) ∧ s = st) := by
 refine AC.enterX (i := ⟨[],[],[0,1,4,5,10,14,25],[]⟩) [(6,[],[])] Try.func17 rfl rfl (by kernel_rfl) (by kernel_rfl) Try.ntmps17 (Nat.le_of_ble_eq_true rfl) rfl ?_
 refine AW.cut lo0 st [(0,vS p a.length),(1,vS q b.length),(4,vB false)] ⟨rfl,rfl,rfl,trivial⟩ fun ρ0 => ?_
 iterate 3 refine ⟨_,rfl,?_⟩
 rintro (_|_) h10
 ·replace h10 : (a.length : Int) = (b.length : Int) := bne_eq_false_iff_eq.1 h10
  refine AW.cut lo0 st [(0,vS p a.length),(1,vS q b.length),(4,vB false),(10,vB false)] ⟨rfl,rfl,rfl,rfl,trivial⟩ fun ρ0 => ?_
  refine cxs ?_
  refine AW.cut lo0 st [(0,vS p a.length),(1,vS q b.length),(4,vB false),(5,vI (0))] ⟨rfl,rfl,rfl,rfl,trivial⟩ fun ρ0 => ?_
  refine AW.loop0 (fun i : Nat => [(0,vS p a.length),(1,vS q b.length),(5,vI (i : Int))]) (fun m (i : Nat) st' => m = a.length - i ∧ i ≤ a.length ∧ (∀ (j : Nat) x y,j < i → a[j]? = some x → b[j]? = some y → x = y) ∧ st = st') 0 _ ⟨rfl,rfl,rfl,trivial⟩ rfl ⟨rfl,Nat.zero_le _,fun j x y h => absurd h (Nat.not_lt_zero _),rfl⟩ ?_
  rintro m i ρ0 st' ⟨rfl,hi,heq,rfl⟩
  iterate 2 refine ⟨_,rfl,?_⟩
  rintro (_|_) h14
  ·replace h14 : ¬ ((i : Int) < (a.length : Int)) := of_decide_eq_false h14
   refine AW.cut lo0 st [(0,vS p a.length),(1,vS q b.length),(5,vI (i : Int)),(14,vB false)] ⟨rfl,rfl,rfl,rfl,trivial⟩ fun ρ0 => ?_
   refine cxs ?_
   refine cxs ?_
   exact ⟨.inl rfl,_,rfl,true,rfl,⟨fun _ => iff_lists (by omega) (fun j u v hj hu hv => heq j u v (by omega) hu hv),fun _ => rfl⟩,rfl⟩
  ·replace h14 : (i : Int) < (a.length : Int) := of_decide_eq_true h14
   refine AW.cut lo0 st [(0,vS p a.length),(1,vS q b.length),(5,vI (i : Int)),(14,vB true)] ⟨rfl,rfl,rfl,rfl,trivial⟩ fun ρ0 => ?_
   refine cxs ?_
   refine op_at i hA (by omega) rfl rfl rfl rfl rfl rfl rfl ?_
   intro x19 b19 d19 k19 hy19 hb19 hm19 hc19 ho19
   refine ⟨_,op_ldc (i := 0) rfl rfl rfl rfl hm19 hc19 rfl rfl,?_⟩
   refine op_at i hB (by omega) rfl rfl rfl rfl rfl rfl rfl ?_
   intro x23 b23 d23 k23 hy23 hb23 hm23 hc23 ho23
   refine ⟨_,op_ldc (i := 0) rfl rfl rfl rfl hm23 hc23 rfl rfl,?_⟩
   refine ⟨_,rfl,?_⟩
   rintro (_|_) h25
   ·replace h25 : x19 = x23 := bne_eq_false_iff_eq.1 h25
    refine AW.cut lo0 st [(0,vS p a.length),(1,vS q b.length),(5,vI (i : Int)),(14,vB true),(25,vB false)] ⟨rfl,rfl,rfl,rfl,rfl,trivial⟩ fun ρ0 => ?_
    refine cxs ?_
    have ew16 : IntKind.wrap .i64 ((i : Int) + (1)) = ((i + 1 : Nat) : Int) := (wrap_i64 (by omega) (by omega)).trans (by omega)
    refine ⟨_,rfl,?_⟩
    refine ⟨i + 1,a.length - (i + 1),by omega,⟨rfl,rfl,congrArg (Value.int .i64) ew16,trivial⟩,rfl,rfl,by omega,fun j u v hj hu hv => ?_,rfl⟩
    rcases Nat.lt_or_ge j i with h | h
    ·exact heq j u v h hu hv
    ·obtain rfl : j = i := by omega
     rw [hy19] at hu
     rw [hy23] at hv
     injection hu with hu
     injection hv with hv
     rw [← hu,← hv]; exact h25
   ·replace h25 : ¬ (x19 = x23) := bne_iff_ne.1 h25
    refine AW.cut lo0 st [(0,vS p a.length),(1,vS q b.length),(5,vI (i : Int)),(14,vB true),(25,vB true)] ⟨rfl,rfl,rfl,rfl,rfl,trivial⟩ fun ρ0 => ?_
    refine cxs ?_
    exact ⟨.inl rfl,_,rfl,false,rfl,⟨fun h => absurd h Bool.false_ne_true,fun h => (show False from (h25 (by rw [h] at hy19; rw [hy19] at hy23; injection hy23))).elim⟩,rfl⟩
 ·replace h10 : ¬ ((a.length : Int) = (b.length : Int)) := bne_iff_ne.1 h10
  refine AW.cut lo0 st [(0,vS p a.length),(1,vS q b.length),(4,vB false),(10,vB true)] ⟨rfl,rfl,rfl,rfl,trivial⟩ fun ρ0 => ?_
  refine cxs ?_
  exact ⟨.inl rfl,_,rfl,false,rfl,⟨fun h => absurd h Bool.false_ne_true,fun h => (show False from (h10 (by rw [h]))).elim⟩,rfl⟩
theorem rls_one {t u : List RV} {i : Nat} {x y : RV} (h : t.map (·.l) = u.map (·.l)) (hx : t[i]? = some x) (hy : u[i]? = some y) : x.l = y.l := by
 have h1 := rls_get hx
 rw [h,rls_get hy] at h1
 injection h1 with h1
 exact h1.symm
theorem ac_laws_FnTable (p : Option Addr) (bs : List Int) (st : St) (hI : Ints st .u8 p bs) : C 3 [vS p bs.length] st (fun v s => v = vB true) := by
 refine AC.enterX (i := ⟨[],[],[0,2,3,4,5,6,7,8,9,10,11,13,32,36,61,68,116],[]⟩) [(11,[],[]),(16,[18],[22,25])] Try.func3 rfl rfl (by kernel_rfl) (by kernel_rfl) Try.ntmps3 (Nat.le_of_ble_eq_true rfl) rfl ?_
 refine AW.cut lo0 st [(0,vS p bs.length),(2,vB false)] ⟨rfl,rfl,trivial⟩ fun ρ0 => ?_
 refine ⟨_,rfl,(ac_laws_big p bs.length st).mono ?_⟩
 rintro _ st ⟨x13,rfl,h13,rfl⟩
 rcases x13 with _|_
 ·replace h13 := of_decide_eq_false h13.symm
  refine AW.cut lo0 st [(0,vS p bs.length),(2,vB false),(13,vB false)] ⟨rfl,rfl,rfl,trivial⟩ fun ρ0 => ?_
  refine cxs ?_
  refine ⟨_,rfl,(ac_spec_DrawTableAdd p bs st hI (by first | assumption | omega)).mono ?_⟩
  rintro _ s16 ⟨q16,t16,n16,q216,ms16,rfl,h16,h16',h16'',h16''',hP16⟩
  iterate 3 refine ⟨_,rfl,?_⟩
  refine AW.cut lo0 s16 [(0,vS p bs.length),(2,vB false),(3,vS q16 t16.length),(4,vI n16),(5,vS q216 ms16.length)] ⟨rfl,rfl,rfl,rfl,rfl,trivial⟩ fun ρ0 => ?_
  have hst : szOk t16.length := by unfold szOk; omega
  have hsr : ∀ r ∈ t16,szOk r.l.length := fun r hr => by have := h16.2 r hr; unfold szOk; omega
  have hms : szOk ms16.length := by unfold szOk; omega
  refine ⟨_,rfl,(ac_impl_TableAdd q16 q216 t16 n16 ms16 s16 h16'' h16''' hst hsr hms).mono ?_⟩
  rintro _ s23 ⟨q23,u23,rfl,h23,h23',hO23,hN23,hP23⟩
  refine AW.cut lo0 s23 [(0,vS p bs.length),(2,vB false),(3,vS q16 t16.length),(4,vI n16),(5,vS q216 ms16.length),(6,vS q23 u23.length)] ⟨rfl,rfl,rfl,rfl,rfl,congrArg (vS q23) h23.symm,trivial⟩ fun ρ0 => ?_
  refine ⟨_,rfl,(ac_spec_TableAdd q16 q216 t16 n16 ms16 s23 (h16''.pres hP23) (hP23.rows h16''') hst hsr hms).mono ?_⟩
  rintro _ s27 ⟨q27,u27,rfl,h27,h27',hO27,hN27,hP27⟩
  refine AW.cut lo0 s27 [(0,vS p bs.length),(2,vB false),(3,vS q16 t16.length),(6,vS q23 u23.length),(7,vS q27 u27.length)] ⟨rfl,rfl,rfl,rfl,congrArg (vS q27) h27.symm,trivial⟩ fun ρ0 => ?_
  have heq : u23.map (·.l) = u27.map (·.l) := h23'.trans h27'.symm
  have hs23 : szOk u23.length := by rw [h23]; exact hst
  have hr23 : ∀ r ∈ u23,szOk r.l.length := rows_lens (by rw [h23']; exact tableAdd_lens _ _ _) hsr
  have hR23 := hO23.rdT.pres hP27
  have hR27 := hO27.rdT
  have hR16 := (h16''.pres hP23).pres hP27
  iterate 3 refine ⟨_,rfl,?_⟩
  rintro (_|_) h32
  rotate_left
  ·exact absurd ((by rw [h23,h27])) (bne_iff_ne.1 h32)
  refine AW.cut lo0 s27 [(0,vS p bs.length),(2,vB false),(3,vS q16 t16.length),(6,vS q23 u23.length),(7,vS q27 u27.length),(32,vB false)] ⟨rfl,rfl,rfl,rfl,rfl,rfl,trivial⟩ fun ρ0 => ?_
  refine cxs ?_
  refine AW.cut lo0 s27 [(0,vS p bs.length),(2,vB false),(3,vS q16 t16.length),(6,vS q23 u23.length),(7,vS q27 u27.length),(8,vI (0))] ⟨rfl,rfl,rfl,rfl,rfl,rfl,trivial⟩ fun ρ0 => ?_
  refine AW.loop0 (fun i : Nat => [(0,vS p bs.length),(3,vS q16 t16.length),(6,vS q23 u23.length),(7,vS q27 u27.length),(8,vI (i : Int))]) (fun m (i : Nat) st' => m = u23.length - i ∧ i ≤ u23.length ∧ s27 = st') 0 _ ⟨rfl,rfl,rfl,rfl,rfl,trivial⟩ rfl ⟨rfl,Nat.zero_le _,rfl⟩ ?_
  rintro m i ρ0 st' ⟨rfl,hi,rfl⟩
  iterate 2 refine ⟨_,rfl,?_⟩
  rintro (_|_) h36
  ·replace h36 : ¬ ((i : Int) < (u23.length : Int)) := of_decide_eq_false h36
   refine AW.cut lo0 s27 [(0,vS p bs.length),(3,vS q16 t16.length),(6,vS q23 u23.length),(7,vS q27 u27.length),(8,vI (i : Int)),(36,vB false)] ⟨rfl,rfl,rfl,rfl,rfl,rfl,trivial⟩ fun ρ0 => ?_
   refine cxs ?_
   refine ⟨_,rfl,(ac_spec_DrawTableNew p bs s27 (((hP16.trans hP23).trans hP27).ints hI) (by first | assumption | omega)).mono ?_⟩
   rintro _ s118 ⟨n118,rfl,h118,hP118⟩
   refine AW.cut lo0 s118 [(3,vS q16 t16.length),(10,vI n118)] ⟨rfl,rfl,trivial⟩ fun ρ0 => ?_
   refine ⟨_,rfl,(ac_impl_TableNew n118 s118).mono ?_⟩
   rintro _ s120 ⟨p120,t120,rfl,hO120,hN120,hP120,h120⟩
   refine AW.cut lo0 s120 [(3,vS q16 t16.length),(10,vI n118),(11,vS p120 t120.length)] ⟨rfl,rfl,rfl,trivial⟩ fun ρ0 => ?_
   have hr120 : ∀ r ∈ t120,szOk r.l.length := fun r hr => by rw [(tnew_rows h120).2.1 r hr]; unfold szOk; omega
   have hs120 : szOk t120.length := Nat.le_trans (tnew_rows h120).1 (by decide)
   refine ⟨_,rfl,(ac_impl_TableOk p120 t120 n118 s120 (hO120.rdT) (by first | assumption | omega) (by first | assumption | omega)).mono ?_⟩
   rintro _ s120 ⟨x123,rfl,h123,rfl⟩
   refine ⟨_,rfl,?_⟩
   rintro (_|_) h125
   ·replace h125 : ¬ (n118 ≥ (1)) := of_decide_eq_false h125
    iterate 2 refine ⟨_,rfl,?_⟩
    rintro (_|_) h130
    ·exact absurd ((by cases x123; rfl; exact absurd (tnew_tableOk.1 (by rw [← h120]; exact h123.1 rfl)).1 h125)) (beq_eq_false_iff_ne.1 h130)
    refine ⟨_,rfl,?_⟩
    refine ⟨_,rfl,(ac_impl_TableOk q16 t16 (t16.length : Int) s120 (hR16.pres (hP118.trans hP120)) (by first | assumption | omega) (by first | assumption | omega)).mono ?_⟩
    rintro _ s120 ⟨x135,rfl,h135,rfl⟩
    refine ⟨_,rfl,?_⟩
    refine ⟨_,rfl,(ac_spec_TableOk q16 t16 (t16.length : Int) s120 (hR16.pres (hP118.trans hP120)) (by first | assumption | omega) (by first | assumption | omega)).mono ?_⟩
    rintro _ s120 ⟨x139,rfl,h139,rfl⟩
    refine ⟨_,rfl,?_⟩
    rintro (_|_) h140
    ·exact absurd ((bool_iff h135 h139)) (beq_eq_false_iff_ne.1 h140)
    refine ⟨_,rfl,?_⟩
    refine cxs ?_
    exact ⟨.inl rfl,_,rfl,rfl⟩
   ·replace h125 : n118 ≥ (1) := of_decide_eq_true h125
    refine ⟨_,rfl,?_⟩
    rintro (_|_) h128
    ·replace h128 : ¬ (n118 ≤ (5)) := of_decide_eq_false h128
     iterate 2 refine ⟨_,rfl,?_⟩
     rintro (_|_) h130
     ·exact absurd ((by cases x123; rfl; exact absurd (tnew_tableOk.1 (by rw [← h120]; exact h123.1 rfl)).2 h128)) (beq_eq_false_iff_ne.1 h130)
     refine ⟨_,rfl,?_⟩
     refine ⟨_,rfl,(ac_impl_TableOk q16 t16 (t16.length : Int) s120 (hR16.pres (hP118.trans hP120)) (by first | assumption | omega) (by first | assumption | omega)).mono ?_⟩
     rintro _ s120 ⟨x135,rfl,h135,rfl⟩
     refine ⟨_,rfl,?_⟩
     refine ⟨_,rfl,(ac_spec_TableOk q16 t16 (t16.length : Int) s120 (hR16.pres (hP118.trans hP120)) (by first | assumption | omega) (by first | assumption | omega)).mono ?_⟩
     rintro _ s120 ⟨x139,rfl,h139,rfl⟩
     refine ⟨_,rfl,?_⟩
     rintro (_|_) h140
     ·exact absurd ((bool_iff h135 h139)) (beq_eq_false_iff_ne.1 h140)
     refine ⟨_,rfl,?_⟩
     refine cxs ?_
     exact ⟨.inl rfl,_,rfl,rfl⟩
    ·replace h128 : n118 ≤ (5) := of_decide_eq_true h128
     iterate 2 refine ⟨_,rfl,?_⟩
     rintro (_|_) h130
     ·exact absurd ((h123.2 (by rw [h120]; exact tnew_tableOk.2 ⟨h125,h128⟩))) (beq_eq_false_iff_ne.1 h130)
     refine ⟨_,rfl,?_⟩
     refine ⟨_,rfl,(ac_impl_TableOk q16 t16 (t16.length : Int) s120 (hR16.pres (hP118.trans hP120)) (by first | assumption | omega) (by first | assumption | omega)).mono ?_⟩
     rintro _ s120 ⟨x135,rfl,h135,rfl⟩
     refine ⟨_,rfl,?_⟩
     refine ⟨_,rfl,(ac_spec_TableOk q16 t16 (t16.length : Int) s120 (hR16.pres (hP118.trans hP120)) (by first | assumption | omega) (by first | assumption | omega)).mono ?_⟩
     rintro _ s120 ⟨x139,rfl,h139,rfl⟩
     refine ⟨_,rfl,?_⟩
     rintro (_|_) h140
     ·exact absurd ((bool_iff h135 h139)) (beq_eq_false_iff_ne.1 h140)
     refine ⟨_,rfl,?_⟩
     refine cxs ?_
     exact ⟨.inl rfl,_,rfl,rfl⟩
  ·replace h36 : (i : Int) < (u23.length : Int) := of_decide_eq_true h36
   refine AW.cut lo0 s27 [(0,vS p bs.length),(3,vS q16 t16.length),(6,vS q23 u23.length),(7,vS q27 u27.length),(8,vI (i : Int)),(36,vB true)] ⟨rfl,rfl,rfl,rfl,rfl,rfl,trivial⟩ fun ρ0 => ?_
   refine cxs ?_
   refine op_at i hR23.1 (by omega) rfl rfl rfl rfl rfl rfl rfl ?_
   intro x41 b41 d41 k41 hy41 hb41 hm41 hc41 ho41
   refine ⟨_,op_ldc (i := 0) rfl rfl rfl rfl hm41 hc41 rfl rfl,?_⟩
   refine op_at i hR27.1 (by omega) rfl rfl rfl rfl rfl rfl rfl ?_
   intro x45 b45 d45 k45 hy45 hb45 hm45 hc45 ho45
   refine ⟨_,op_ldc (i := 0) rfl rfl rfl rfl hm45 hc45 rfl rfl,?_⟩
   have hb41 : x41.l.length ≤ 1048576 := hr23 _ (List.mem_of_getElem? hy41)
   refine ⟨_,rfl,(ac_laws_sameInts x41.p x45.p x41.l x45.l s27 (hR23.2 x41 (List.mem_of_getElem? hy41)) (hR27.2 x45 (List.mem_of_getElem? hy45)) (by first | assumption | omega)).mono ?_⟩
   rintro _ s27 ⟨x47,rfl,h47,rfl⟩
   rcases x47 with _|_
   ·replace h47 := fun k => Bool.false_ne_true (h47.2 k)
    iterate 2 refine ⟨_,rfl,?_⟩
    refine AW.cut lo0 s27 [(0,vS p bs.length),(3,vS q16 t16.length),(6,vS q23 u23.length),(7,vS q27 u27.length),(8,vI (i : Int)),(36,vB true),(61,vB true)] ⟨rfl,rfl,rfl,rfl,rfl,rfl,rfl,trivial⟩ fun ρ0 => ?_
    refine cxs ?_
    exact absurd (rls_one heq hy41 hy45) h47
   ·replace h47 := h47.1 rfl
    refine ⟨_,rfl,?_⟩
    refine op_el i hR23.1 hy41 rfl rfl rfl rfl rfl rfl rfl ?_
    intro b52 d52 k52 hb52 hm52 hc52 ho52
    refine ⟨_,op_ldc (i := 0) rfl rfl rfl rfl hm52 hc52 rfl rfl,?_⟩
    refine ⟨_,rfl,?_⟩
    refine op_at i hR16.1 (by omega) rfl rfl rfl rfl rfl rfl rfl ?_
    intro x57 b57 d57 k57 hy57 hb57 hm57 hc57 ho57
    refine ⟨_,op_ldc (i := 0) rfl rfl rfl rfl hm57 hc57 rfl rfl,?_⟩
    refine ⟨_,rfl,?_⟩
    have hrow := tableAdd_row (k := n16) (ms := ms16) (rls_get hy57) (by rw [← h23']; exact rls_get hy41)
    refine ⟨_,rfl,?_⟩
    rintro (_|_) h60
    rotate_left
    ·exact absurd ((congrArg Nat.cast hrow.1)) (bne_iff_ne.1 h60)
    refine ⟨_,rfl,?_⟩
    refine AW.cut lo0 s27 [(0,vS p bs.length),(3,vS q16 t16.length),(6,vS q23 u23.length),(7,vS q27 u27.length),(8,vI (i : Int)),(36,vB true),(61,vB false)] ⟨rfl,rfl,rfl,rfl,rfl,rfl,rfl,trivial⟩ fun ρ0 => ?_
    refine cxs ?_
    refine AW.cut lo0 s27 [(0,vS p bs.length),(3,vS q16 t16.length),(6,vS q23 u23.length),(7,vS q27 u27.length),(8,vI (i : Int)),(9,vI (0)),(36,vB true),(61,vB false)] ⟨rfl,rfl,rfl,rfl,rfl,rfl,rfl,rfl,trivial⟩ fun ρ0 => ?_
    refine AW.loop0 (fun j : Nat => [(0,vS p bs.length),(3,vS q16 t16.length),(6,vS q23 u23.length),(7,vS q27 u27.length),(8,vI (i : Int)),(9,vI (j : Int)),(36,vB true),(61,vB false)]) (fun m (j : Nat) st' => m = x41.l.length - j ∧ j ≤ x41.l.length ∧ s27 = st') 0 _ ⟨rfl,rfl,rfl,rfl,rfl,rfl,rfl,rfl,trivial⟩ rfl ⟨rfl,Nat.zero_le _,rfl⟩ ?_
    rintro m j ρ0 st' ⟨rfl,hj,rfl⟩
    refine op_at i hR23.1 (by omega) rfl rfl rfl rfl rfl rfl rfl ?_
    intro x65 b65 d65 k65 hy65 hb65 hm65 hc65 ho65
    refine ⟨_,op_ldc (i := 0) rfl rfl rfl rfl hm65 hc65 rfl rfl,?_⟩
    iterate 2 refine ⟨_,rfl,?_⟩
    rintro (_|_) h68
    ·replace h68 : ¬ ((j : Int) < (x65.l.length : Int)) := of_decide_eq_false h68
     refine AW.cut lo0 s27 [(0,vS p bs.length),(3,vS q16 t16.length),(6,vS q23 u23.length),(7,vS q27 u27.length),(8,vI (i : Int)),(9,vI (j : Int)),(36,vB true),(61,vB false),(68,vB false)] ⟨rfl,rfl,rfl,rfl,rfl,rfl,rfl,rfl,rfl,trivial⟩ fun ρ0 => ?_
     have e65 : x65.l.length = x41.l.length := by rw [Option.some.inj (hy65.symm.trans hy41)]
     refine cxs ?_
     have ew38 : IntKind.wrap .i64 ((i : Int) + (1)) = ((i + 1 : Nat) : Int) := (wrap_i64 (by omega) (by omega)).trans (by omega)
     refine ⟨_,rfl,?_⟩
     exact ⟨i + 1,u23.length - (i + 1),by omega,⟨rfl,rfl,rfl,rfl,congrArg (Value.int .i64) ew38,trivial⟩,rfl,rfl,by omega,rfl⟩
    ·replace h68 : (j : Int) < (x65.l.length : Int) := of_decide_eq_true h68
     refine AW.cut lo0 s27 [(0,vS p bs.length),(3,vS q16 t16.length),(6,vS q23 u23.length),(7,vS q27 u27.length),(8,vI (i : Int)),(9,vI (j : Int)),(36,vB true),(61,vB false),(68,vB true)] ⟨rfl,rfl,rfl,rfl,rfl,rfl,rfl,rfl,rfl,trivial⟩ fun ρ0 => ?_
     have e65 : x65.l.length = x41.l.length := by rw [Option.some.inj (hy65.symm.trans hy41)]
     refine cxs ?_
     refine op_el i hR23.1 hy65 rfl rfl rfl rfl rfl rfl rfl ?_
     intro b73 d73 k73 hb73 hm73 hc73 ho73
     refine ⟨_,op_ldc (i := 0) rfl rfl rfl rfl hm73 hc73 rfl rfl,?_⟩
     refine op_at j (hR23.2 x65 (List.mem_of_getElem? hy65)) (by omega) rfl rfl rfl rfl rfl rfl rfl ?_
     intro x76 b76 d76 k76 hy76 hb76 hm76 hc76 ho76
     refine ⟨_,op_ldc (i := 0) rfl rfl rfl rfl hm76 hc76 rfl rfl,?_⟩
     refine op_at i hR16.1 (by omega) rfl rfl rfl rfl rfl rfl rfl ?_
     intro x80 b80 d80 k80 hy80 hb80 hm80 hc80 ho80
     refine ⟨_,op_ldc (i := 0) rfl rfl rfl rfl hm80 hc80 rfl rfl,?_⟩
     have hrow2 := tableAdd_row (k := n16) (ms := ms16) (rls_get hy80) (by rw [← h23']; exact rls_get hy65)
     have hl80 : x65.l.length = x80.l.length := hrow2.1
     refine op_at j (hR16.2 x80 (List.mem_of_getElem? hy80)) (by omega) rfl rfl rfl rfl rfl rfl rfl ?_
     intro x83 b83 d83 k83 hy83 hb83 hm83 hc83 ho83
     refine ⟨_,op_ldc (i := 0) rfl rfl rfl rfl hm83 hc83 rfl rfl,?_⟩
     have hge : x83 ≤ x76 := by have := hrow2.2 j; rw [getD_of hy76,getD_of hy83] at this; exact this
     refine ⟨_,rfl,?_⟩
     rintro (_|_) h85
     rotate_left
     ·exact absurd (of_decide_eq_true h85) ((Int.not_lt.2 hge))
     refine ⟨_,rfl,(ac_impl_Common q23 u23 (j : Int) s27 hR23 (by first | assumption | omega) (by first | assumption | omega)).mono ?_⟩
     rintro _ s27 ⟨rfl,rfl⟩
     refine ⟨fun _ _ => rfl,?_⟩
     refine owE_cut [(0,vS p bs.length),(3,vS q16 t16.length),(6,vS q23 u23.length),(7,vS q27 u27.length),(8,vI (i : Int)),(9,vI (j : Int)),(36,vB true),(61,vB false),(68,vB true),(86,vB false),(89,vI (common (rls u23) (j : Int)))] ⟨rfl,rfl,rfl,rfl,rfl,rfl,rfl,rfl,rfl,rfl,rfl,trivial⟩ fun ρ0 => ?_
     refine op_el i hR23.1 hy65 rfl rfl rfl rfl rfl rfl rfl ?_
     intro b92 d92 k92 hb92 hm92 hc92 ho92
     refine ⟨_,op_ldc (i := 0) rfl rfl rfl rfl hm92 hc92 rfl rfl,?_⟩
     refine ⟨ld_lt rfl rfl hb92,?_⟩
     refine op_el j (hR23.2 x65 (List.mem_of_getElem? hy65)) hy76 rfl rfl rfl rfl rfl rfl rfl ?_
     intro b95 d95 k95 hb95 hm95 hc95 ho95
     refine ⟨_,op_ldc (i := 0) rfl rfl rfl rfl hm95 hc95 rfl rfl,?_⟩
     refine ⟨ld_lt rfl rfl hb95,?_⟩
     refine ⟨_,rfl,?_⟩
     rintro (_|_) h97
     ·replace h97 : ¬ ((common (rls u23) (j : Int)) > x76) := of_decide_eq_false h97
      refine ⟨_,rfl,?_⟩
      refine owE_cut [(0,vS p bs.length),(3,vS q16 t16.length),(6,vS q23 u23.length),(7,vS q27 u27.length),(8,vI (i : Int)),(9,vI (j : Int)),(36,vB true),(61,vB false),(68,vB true),(86,vB false),(107,vB false)] ⟨rfl,rfl,rfl,rfl,rfl,rfl,rfl,rfl,rfl,rfl,rfl,trivial⟩ fun ρ0 => ?_
      iterate 2 refine ⟨_,rfl,?_⟩
      refine AW.cut lo0 s27 [(0,vS p bs.length),(3,vS q16 t16.length),(6,vS q23 u23.length),(7,vS q27 u27.length),(8,vI (i : Int)),(9,vI (j : Int)),(36,vB true),(61,vB false),(68,vB true),(116,vB false)] ⟨rfl,rfl,rfl,rfl,rfl,rfl,rfl,rfl,rfl,rfl,trivial⟩ fun ρ0 => ?_
      refine cxs ?_
      have ew70 : IntKind.wrap .i64 ((j : Int) + (1)) = ((j + 1 : Nat) : Int) := (wrap_i64 (by omega) (by omega)).trans (by omega)
      refine ⟨_,rfl,?_⟩
      exact ⟨j + 1,x41.l.length - (j + 1),by omega,⟨rfl,rfl,rfl,rfl,rfl,congrArg (Value.int .i64) ew70,rfl,rfl,trivial⟩,rfl,rfl,by omega,rfl⟩
     ·replace h97 : (common (rls u23) (j : Int)) > x76 := of_decide_eq_true h97
      refine op_el i hR23.1 hy65 rfl rfl rfl rfl rfl rfl rfl ?_
      intro b101 d101 k101 hb101 hm101 hc101 ho101
      refine ⟨_,op_ldc (i := 0) rfl rfl rfl rfl hm101 hc101 rfl rfl,?_⟩
      refine op_el j (hR23.2 x65 (List.mem_of_getElem? hy65)) hy76 rfl rfl rfl rfl rfl rfl rfl ?_
      intro b104 d104 k104 hb104 hm104 hc104 ho104
      refine ⟨_,op_ldc (i := 0) rfl rfl rfl rfl hm104 hc104 rfl rfl,?_⟩
      refine ⟨_,rfl,?_⟩
      rintro (_|_) h106
      ·replace h106 : ¬ (x76 ≥ (0)) := of_decide_eq_false h106
       refine ⟨_,rfl,?_⟩
       refine owE_cut [(0,vS p bs.length),(3,vS q16 t16.length),(6,vS q23 u23.length),(7,vS q27 u27.length),(8,vI (i : Int)),(9,vI (j : Int)),(36,vB true),(61,vB false),(68,vB true),(86,vB false),(107,vB false)] ⟨rfl,rfl,rfl,rfl,rfl,rfl,rfl,rfl,rfl,rfl,rfl,trivial⟩ fun ρ0 => ?_
       iterate 2 refine ⟨_,rfl,?_⟩
       refine AW.cut lo0 s27 [(0,vS p bs.length),(3,vS q16 t16.length),(6,vS q23 u23.length),(7,vS q27 u27.length),(8,vI (i : Int)),(9,vI (j : Int)),(36,vB true),(61,vB false),(68,vB true),(116,vB false)] ⟨rfl,rfl,rfl,rfl,rfl,rfl,rfl,rfl,rfl,rfl,trivial⟩ fun ρ0 => ?_
       refine cxs ?_
       have ew70 : IntKind.wrap .i64 ((j : Int) + (1)) = ((j + 1 : Nat) : Int) := (wrap_i64 (by omega) (by omega)).trans (by omega)
       refine ⟨_,rfl,?_⟩
       exact ⟨j + 1,x41.l.length - (j + 1),by omega,⟨rfl,rfl,rfl,rfl,rfl,congrArg (Value.int .i64) ew70,rfl,rfl,trivial⟩,rfl,rfl,by omega,rfl⟩
      ·replace h106 : x76 ≥ (0) := of_decide_eq_true h106
       refine ⟨_,rfl,?_⟩
       refine owE_cut [(0,vS p bs.length),(3,vS q16 t16.length),(6,vS q23 u23.length),(7,vS q27 u27.length),(8,vI (i : Int)),(9,vI (j : Int)),(36,vB true),(61,vB false),(68,vB true),(86,vB false),(107,vB true)] ⟨rfl,rfl,rfl,rfl,rfl,rfl,rfl,rfl,rfl,rfl,rfl,trivial⟩ fun ρ0 => ?_
       refine op_el i hR23.1 hy65 rfl rfl rfl rfl rfl rfl rfl ?_
       intro b111 d111 k111 hb111 hm111 hc111 ho111
       refine ⟨_,op_ldc (i := 0) rfl rfl rfl rfl hm111 hc111 rfl rfl,?_⟩
       iterate 2 refine ⟨_,rfl,?_⟩
       rintro (_|_) h114
       ·replace h114 : ¬ ((x65.l.length : Int) = (5)) := beq_eq_false_iff_ne.1 h114
        iterate 2 refine ⟨_,rfl,?_⟩
        refine AW.cut lo0 s27 [(0,vS p bs.length),(3,vS q16 t16.length),(6,vS q23 u23.length),(7,vS q27 u27.length),(8,vI (i : Int)),(9,vI (j : Int)),(36,vB true),(61,vB false),(68,vB true),(116,vB false)] ⟨rfl,rfl,rfl,rfl,rfl,rfl,rfl,rfl,rfl,rfl,trivial⟩ fun ρ0 => ?_
        refine cxs ?_
        have ew70 : IntKind.wrap .i64 ((j : Int) + (1)) = ((j + 1 : Nat) : Int) := (wrap_i64 (by omega) (by omega)).trans (by omega)
        refine ⟨_,rfl,?_⟩
        exact ⟨j + 1,x41.l.length - (j + 1),by omega,⟨rfl,rfl,rfl,rfl,rfl,congrArg (Value.int .i64) ew70,rfl,rfl,trivial⟩,rfl,rfl,by omega,rfl⟩
       ·replace h114 : (x65.l.length : Int) = (5) := beq_iff_eq.1 h114
        iterate 2 refine ⟨_,rfl,?_⟩
        refine AW.cut lo0 s27 [(0,vS p bs.length),(3,vS q16 t16.length),(6,vS q23 u23.length),(7,vS q27 u27.length),(8,vI (i : Int)),(9,vI (j : Int)),(36,vB true),(61,vB false),(68,vB true),(116,vB true)] ⟨rfl,rfl,rfl,rfl,rfl,rfl,rfl,rfl,rfl,rfl,trivial⟩ fun ρ0 => ?_
        refine cxs ?_
        have := common_le (j : Int) (List.mem_of_getElem? (rls_get hy65)) (by rw [Int.toNat_natCast,getD_of hy76]; exact h106)
        rw [Int.toNat_natCast,getD_of hy76] at this
        exact absurd h97 (Int.not_lt.2 this)
 ·replace h13 := of_decide_eq_true h13.symm
  refine AW.cut lo0 st [(0,vS p bs.length),(2,vB false),(13,vB true)] ⟨rfl,rfl,rfl,trivial⟩ fun ρ0 => ?_
  refine cxs ?_
  exact ⟨.inl rfl,_,rfl,rfl⟩
end Go.Proofs.Yteabadoaeadcgaa.AM
