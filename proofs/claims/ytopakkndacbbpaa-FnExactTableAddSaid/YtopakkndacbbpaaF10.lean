/- Contracts of the tables' check; the laws of the common number and of the check on the abstract machine. -/
import Derived.Test.YtopakkndacbbpaaF9
namespace Go.Proofs.Ytopakkndacbbpaa.AM
open Go Go.Proofs
set_option linter.unusedVariables false
set_option linter.unusedSimpArgs false
set_option maxRecDepth 100000
set_option maxHeartbeats 4000000
def rowOk (l : List Int) : Prop := l.length = 5 ∧ ∀ (j : Nat) x, l[j]? = some x → 0 ≤ x ∧ x ≤ 1000
def tableOk (t : List (List Int)) (n : Int) : Prop := (1 ≤ n ∧ n ≤ 5) ∧ (t.length : Int) = n ∧ ∀ l ∈ t, rowOk l
theorem rows_of {t : List RV} {n : Int} (h : tableOk (t.map (·.l)) n) {i : Nat} {r : RV} (hr : t[i]? = some r) : rowOk r.l := h.2.2 _ (List.mem_map_of_mem (List.mem_of_getElem? hr))
theorem rows_to {t : List RV} (h : ∀ (j : Nat) r, t[j]? = some r → rowOk r.l) : ∀ l ∈ t.map (·.l), rowOk l := fun l hl => by
  obtain ⟨r, hr, rfl⟩ := List.mem_map.1 hl
  obtain ⟨i, hi⟩ := List.getElem?_of_mem hr
  exact h i r hi
theorem ac_spec_TableOk (p : Option Addr) (t : List RV) (n : Int) (st : St) (hR : RdT st p t) (hs : szOk t.length) (hr : ∀ r ∈ t, szOk r.l.length) : C 40 [vS p t.length, vI n] st (fun v s => ∃ x, v = .bool x ∧ (x = true ↔ tableOk (t.map (·.l)) n) ∧ s = st) := by
  have hs : t.length ≤ 1048576 := hs
  refine AC.enterX (i := ⟨[], [], [0, 1, 4, 5, 6, 15, 18, 26, 33, 44]⟩) [] Try.func40 rfl rfl (by kernel_rfl) (by kernel_rfl) Try.ntmps40 (Nat.le_of_ble_eq_true rfl) rfl ?_
  refine AW.cut lo0 st [(0, vS p t.length), (1, vI n), (4, vB false)] ⟨rfl, rfl, rfl, trivial⟩ fun ρ0 => ?_
  refine ⟨_, rfl, (ac_spec_l1In n 1 5 st).mono ?_⟩
  rintro _ st ⟨y, rfl, hy, rfl⟩
  rcases y with _|_
  · replace hy := of_decide_eq_false hy.symm
    iterate 2 refine ⟨_, rfl, ?_⟩
    refine AW.cut lo0 st [(0, vS p t.length), (1, vI n), (4, vB false), (15, vB true)] ⟨rfl, rfl, rfl, rfl, trivial⟩ fun ρ0 => ?_
    refine cx_sound _ _ _ _ _ ?_
    exact ⟨.inl rfl, _, rfl, false, rfl, ⟨fun h => absurd h Bool.false_ne_true, fun h => absurd h.1 hy⟩, rfl⟩
  · replace hy := of_decide_eq_true hy.symm
    iterate 3 refine ⟨_, rfl, ?_⟩
    rintro (_|_) h0
    · replace h0 : (t.length : Int) = n := bne_eq_false_iff_eq.1 h0
      refine ⟨_, rfl, ?_⟩
      refine AW.cut lo0 st [(0, vS p t.length), (1, vI n), (4, vB false), (15, vB false)] ⟨rfl, rfl, rfl, rfl, trivial⟩ fun ρ0 => ?_
      refine cx_sound _ _ _ _ _ ?_
      refine AW.cut lo0 st [(0, vS p t.length), (1, vI n), (4, vB false), (5, vI (0)), (15, vB false)] ⟨rfl, rfl, rfl, rfl, rfl, trivial⟩ fun ρ0 => ?_
      refine AW.loop0 (fun i : Nat => [(0, vS p t.length), (1, vI n), (5, vI (i : Int))]) (fun m (i : Nat) st' => m = t.length - i ∧ i ≤ t.length ∧ (∀ (j : Nat) r, j < i → t[j]? = some r → rowOk r.l) ∧ st = st') 0 _ ⟨rfl, rfl, rfl, trivial⟩ rfl ⟨rfl, Nat.zero_le _, fun j r h => absurd h (Nat.not_lt_zero _), rfl⟩ ?_
      rintro m i ρ0 st' ⟨rfl, hi, hok, rfl⟩
      refine ⟨_, rfl, ?_⟩
      rintro (_|_) h1
      · replace h1 : ¬ ((i : Int) < n) := of_decide_eq_false h1
        refine AW.cut lo0 st [(0, vS p t.length), (1, vI n), (5, vI (i : Int)), (18, vB false)] ⟨rfl, rfl, rfl, rfl, trivial⟩ fun ρ0 => ?_
        refine cx_sound _ _ _ _ _ ?_
        refine cx_sound _ _ _ _ _ ?_
        exact ⟨.inl rfl, _, rfl, true, rfl, ⟨fun _ => ⟨hy, by rw [List.length_map]; exact h0, rows_to fun j r hr => hok j r (by have := (List.getElem?_eq_some_iff.1 hr).1; omega) hr⟩, fun _ => rfl⟩, rfl⟩
      · replace h1 : (i : Int) < n := of_decide_eq_true h1
        refine AW.cut lo0 st [(0, vS p t.length), (1, vI n), (5, vI (i : Int)), (18, vB true)] ⟨rfl, rfl, rfl, rfl, trivial⟩ fun ρ0 => ?_
        have h1' : i < t.length := by omega
        have ⟨b1, o1, k1, r, hpe, hr1, hm1, hc1⟩ := hR.1.at h1'
        have hmem := List.mem_of_getElem? hr1
        have hrs : r.l.length ≤ 1048576 := hr r hmem
        refine cx_sound _ _ _ _ _ ?_
        refine ⟨_, op_idx (j := (i : Int)) (n := t.length) (q := ⟨b1, o1, none⟩) rfl (congrArg (fun u => vS u t.length) hpe) rfl rfl rfl (Int.natCast_nonneg _) (Int.ofNat_lt.2 h1'), ?_⟩
        refine ⟨_, op_ldc (i := 0) (v := vS r.p r.l.length) rfl rfl rfl rfl hm1 hc1 rfl rfl, ?_⟩
        iterate 2 refine ⟨_, rfl, ?_⟩
        rintro (_|_) h2
        · replace h2 : (r.l.length : Int) = 5 := bne_eq_false_iff_eq.1 h2
          refine AW.cut lo0 st [(0, vS p t.length), (1, vI n), (5, vI (i : Int)), (18, vB true), (26, vB false)] ⟨rfl, rfl, rfl, rfl, rfl, trivial⟩ fun ρ0 => ?_
          refine cx_sound _ _ _ _ _ ?_
          refine AW.cut lo0 st [(0, vS p t.length), (1, vI n), (5, vI (i : Int)), (6, vI (0)), (18, vB true), (26, vB false)] ⟨rfl, rfl, rfl, rfl, rfl, rfl, trivial⟩ fun ρ0 => ?_
          refine AW.loop0 (fun j : Nat => [(0, vS p t.length), (1, vI n), (5, vI (i : Int)), (6, vI (j : Int))]) (fun m (j : Nat) st' => m = r.l.length - j ∧ j ≤ r.l.length ∧ (∀ (u : Nat) x, u < j → r.l[u]? = some x → 0 ≤ x ∧ x ≤ 1000) ∧ st = st') 0 _ ⟨rfl, rfl, rfl, rfl, trivial⟩ rfl ⟨rfl, Nat.zero_le _, fun u x h => absurd h (Nat.not_lt_zero _), rfl⟩ ?_
          rintro m j ρ0 st' ⟨rfl, hj, hel, rfl⟩
          refine ⟨_, op_idx (j := (i : Int)) (n := t.length) (q := ⟨b1, o1, none⟩) rfl (congrArg (fun u => vS u t.length) hpe) rfl rfl rfl (Int.natCast_nonneg _) (Int.ofNat_lt.2 h1'), ?_⟩
          refine ⟨_, op_ldc (i := 0) (v := vS r.p r.l.length) rfl rfl rfl rfl hm1 hc1 rfl rfl, ?_⟩
          iterate 2 refine ⟨_, rfl, ?_⟩
          rintro (_|_) h3
          · replace h3 : ¬ ((j : Int) < (r.l.length : Int)) := of_decide_eq_false h3
            refine AW.cut lo0 st [(0, vS p t.length), (1, vI n), (5, vI (i : Int)), (6, vI (j : Int)), (33, vB false)] ⟨rfl, rfl, rfl, rfl, rfl, trivial⟩ fun ρ0 => ?_
            refine cx_sound _ _ _ _ _ ?_
            have e20 : IntKind.wrap .i64 ((i : Int) + 1) = ((i + 1 : Nat) : Int) := (wrap_i64 (by omega) (by omega)).trans (by omega)
            refine ⟨_, rfl, ?_⟩
            refine ⟨i + 1, t.length - (i + 1), by omega, ⟨rfl, rfl, congrArg (Value.int .i64) e20, trivial⟩, rfl, rfl, h1', fun u x hu hx => ?_, rfl⟩
            rcases Nat.lt_or_ge u i with h | h
            · exact hok u x h hx
            · obtain rfl : u = i := by omega
              rw [hr1] at hx
              injection hx with hx
              rw [← hx]
              exact ⟨by omega, fun v y hy => hel v y (by have := (List.getElem?_eq_some_iff.1 hy).1; omega) hy⟩
          · replace h3 : (j : Int) < (r.l.length : Int) := of_decide_eq_true h3
            refine AW.cut lo0 st [(0, vS p t.length), (1, vI n), (5, vI (i : Int)), (6, vI (j : Int)), (33, vB true)] ⟨rfl, rfl, rfl, rfl, rfl, trivial⟩ fun ρ0 => ?_
            have h3' := Int.ofNat_lt.1 h3
            have ⟨b2, o2, k2, z, hqe, hz, hm2, hc2⟩ := (hR.2 r hmem).at h3'
            refine cx_sound _ _ _ _ _ ?_
            refine ⟨_, op_idx (j := (i : Int)) (n := t.length) (q := ⟨b1, o1, none⟩) rfl (congrArg (fun u => vS u t.length) hpe) rfl rfl rfl (Int.natCast_nonneg _) (Int.ofNat_lt.2 h1'), ?_⟩
            refine ⟨_, op_ldc (i := 0) (v := vS r.p r.l.length) rfl rfl rfl rfl hm1 hc1 rfl rfl, ?_⟩
            refine ⟨_, op_idx (j := (j : Int)) (n := r.l.length) (q := ⟨b2, o2, none⟩) rfl (congrArg (fun u => vS u r.l.length) hqe) rfl rfl rfl (Int.natCast_nonneg _) h3, ?_⟩
            refine ⟨_, op_ldc (i := 0) (v := vI z) rfl rfl rfl rfl hm2 hc2 rfl rfl, ?_⟩
            refine ⟨_, rfl, (ac_spec_l1In z 0 1000 st).mono ?_⟩
            rintro _ st ⟨c, rfl, h4, rfl⟩
            rcases c with _|_
            · replace h4 := of_decide_eq_false h4.symm
              refine ⟨_, rfl, ?_⟩
              refine AW.cut lo0 st [(0, vS p t.length), (1, vI n), (5, vI (i : Int)), (6, vI (j : Int)), (33, vB true), (44, vB true)] ⟨rfl, rfl, rfl, rfl, rfl, rfl, trivial⟩ fun ρ0 => ?_
              refine cx_sound _ _ _ _ _ ?_
              exact ⟨.inl rfl, _, rfl, false, rfl, ⟨fun h => absurd h Bool.false_ne_true, fun h => absurd ((rows_of h hr1).2 j z hz) h4⟩, rfl⟩
            · replace h4 := of_decide_eq_true h4.symm
              refine ⟨_, rfl, ?_⟩
              refine AW.cut lo0 st [(0, vS p t.length), (1, vI n), (5, vI (i : Int)), (6, vI (j : Int)), (33, vB true), (44, vB false)] ⟨rfl, rfl, rfl, rfl, rfl, rfl, trivial⟩ fun ρ0 => ?_
              refine cx_sound _ _ _ _ _ ?_
              have e35 : IntKind.wrap .i64 ((j : Int) + 1) = ((j + 1 : Nat) : Int) := (wrap_i64 (by omega) (by omega)).trans (by omega)
              refine ⟨_, rfl, ?_⟩
              refine ⟨j + 1, r.l.length - (j + 1), by omega, ⟨rfl, rfl, rfl, congrArg (Value.int .i64) e35, trivial⟩, rfl, rfl, h3', fun u x hu hx => ?_, rfl⟩
              rcases Nat.lt_or_ge u j with h | h
              · exact hel u x h hx
              · obtain rfl : u = j := by omega
                rw [hz] at hx
                injection hx with hx
                rw [← hx]; exact h4
        · replace h2 : ¬ ((r.l.length : Int) = 5) := bne_iff_ne.1 h2
          refine AW.cut lo0 st [(0, vS p t.length), (1, vI n), (5, vI (i : Int)), (18, vB true), (26, vB true)] ⟨rfl, rfl, rfl, rfl, rfl, trivial⟩ fun ρ0 => ?_
          refine cx_sound _ _ _ _ _ ?_
          exact ⟨.inl rfl, _, rfl, false, rfl, ⟨fun h => absurd h Bool.false_ne_true, fun h => absurd (by have := (rows_of h hr1).1; omega) h2⟩, rfl⟩
    · replace h0 : ¬ ((t.length : Int) = n) := bne_iff_ne.1 h0
      refine ⟨_, rfl, ?_⟩
      refine AW.cut lo0 st [(0, vS p t.length), (1, vI n), (4, vB false), (15, vB true)] ⟨rfl, rfl, rfl, rfl, trivial⟩ fun ρ0 => ?_
      refine cx_sound _ _ _ _ _ ?_
      exact ⟨.inl rfl, _, rfl, false, rfl, ⟨fun h => absurd h Bool.false_ne_true, fun h => absurd (by have := h.2.1; rwa [List.length_map] at this) h0⟩, rfl⟩
theorem ac_impl_TableOk (p : Option Addr) (t : List RV) (n : Int) (st : St) (hR : RdT st p t) (hs : szOk t.length) (hr : ∀ r ∈ t, szOk r.l.length) : C 41 [vS p t.length, vI n] st (fun v s => ∃ x, v = .bool x ∧ (x = true ↔ tableOk (t.map (·.l)) n) ∧ s = st) := by
  have hs : t.length ≤ 1048576 := hs
  refine AC.enterX (i := ⟨[], [], [0, 1, 4, 6, 8, 9, 10, 11, 12, 15, 16, 17, 18, 23, 27]⟩) [] Try.func41 rfl rfl (by kernel_rfl) (by kernel_rfl) Try.ntmps41 (Nat.le_of_ble_eq_true rfl) rfl ?_
  refine AW.cut lo0 st [(0, vS p t.length), (1, vI n), (4, vB false)] ⟨rfl, rfl, rfl, trivial⟩ fun ρ0 => ?_
  refine ⟨_, rfl, ?_⟩
  refine AW.cut lo0 st [(0, vS p t.length), (1, vI n), (4, vB false), (9, vS p t.length), (10, vI (t.length)), (11, vI (0))] ⟨rfl, rfl, rfl, rfl, rfl, rfl, trivial⟩ fun ρ0 => ?_
  refine AW.loop0 (fun i : Nat => [(0, vS p t.length), (1, vI n), (9, vS p t.length), (10, vI (t.length : Int)), (11, vI (i : Int))]) (fun m (i : Nat) st' => m = t.length - i ∧ i ≤ t.length ∧ (∀ (j : Nat) r, j < i → t[j]? = some r → rowOk r.l) ∧ st = st') 0 _ ⟨rfl, rfl, rfl, rfl, rfl, trivial⟩ rfl ⟨rfl, Nat.zero_le _, fun j r h => absurd h (Nat.not_lt_zero _), rfl⟩ ?_
  rintro m i ρ0 st' ⟨rfl, hi, hok, rfl⟩
  refine ⟨_, rfl, ?_⟩
  rintro (_|_) h1
  · replace h1 : ¬ ((i : Int) < (t.length : Int)) := of_decide_eq_false h1
    refine AW.cut lo0 st [(0, vS p t.length), (1, vI n), (9, vS p t.length), (10, vI (t.length : Int)), (11, vI (i : Int)), (12, vB false)] ⟨rfl, rfl, rfl, rfl, rfl, rfl, trivial⟩ fun ρ0 => ?_
    refine cx_sound _ _ _ _ _ ?_
    refine ⟨_, rfl, (ac_impl_within n 1 5 st).mono ?_⟩
    rintro _ st ⟨y, rfl, hy, rfl⟩
    rcases y with _|_
    · replace hy := of_decide_eq_false hy.symm
      refine ⟨_, rfl, ?_⟩
      refine cx_sound _ _ _ _ _ ?_
      exact ⟨.inl rfl, _, rfl, false, rfl, ⟨fun h => absurd h Bool.false_ne_true, fun h => absurd h.1 hy⟩, rfl⟩
    · replace hy := of_decide_eq_true hy.symm
      iterate 2 refine ⟨_, rfl, ?_⟩
      rintro (_|_) h0
      · replace h0 : ¬ ((t.length : Int) = n) := beq_eq_false_iff_ne.1 h0
        refine ⟨_, rfl, ?_⟩
        refine cx_sound _ _ _ _ _ ?_
        exact ⟨.inl rfl, _, rfl, false, rfl, ⟨fun h => absurd h Bool.false_ne_true, fun h => absurd (by have := h.2.1; rwa [List.length_map] at this) h0⟩, rfl⟩
      · replace h0 : (t.length : Int) = n := beq_iff_eq.1 h0
        refine ⟨_, rfl, ?_⟩
        refine cx_sound _ _ _ _ _ ?_
        exact ⟨.inl rfl, _, rfl, true, rfl, ⟨fun _ => ⟨hy, by rw [List.length_map]; exact h0, rows_to fun j r hr => hok j r (by have := (List.getElem?_eq_some_iff.1 hr).1; omega) hr⟩, fun _ => rfl⟩, rfl⟩
  · replace h1 : (i : Int) < (t.length : Int) := of_decide_eq_true h1
    refine AW.cut lo0 st [(0, vS p t.length), (1, vI n), (9, vS p t.length), (10, vI (t.length : Int)), (11, vI (i : Int)), (12, vB true)] ⟨rfl, rfl, rfl, rfl, rfl, rfl, trivial⟩ fun ρ0 => ?_
    have h1' : i < t.length := by omega
    have ⟨b1, o1, k1, r, hpe, hr1, hm1, hc1⟩ := hR.1.at h1'
    have hmem := List.mem_of_getElem? hr1
    have hrs : r.l.length ≤ 1048576 := hr r hmem
    refine cx_sound _ _ _ _ _ ?_
    refine ⟨_, op_idx (j := (i : Int)) (n := t.length) (q := ⟨b1, o1, none⟩) rfl (congrArg (fun u => vS u t.length) hpe) rfl rfl rfl (Int.natCast_nonneg _) (Int.ofNat_lt.2 h1'), ?_⟩
    refine ⟨_, op_ldc (i := 0) (v := vS r.p r.l.length) rfl rfl rfl rfl hm1 hc1 rfl rfl, ?_⟩
    refine AW.cut lo0 st [(0, vS p t.length), (1, vI n), (6, vS r.p r.l.length), (9, vS p t.length), (10, vI (t.length : Int)), (11, vI (i : Int)), (12, vB true)] ⟨rfl, rfl, rfl, rfl, rfl, rfl, rfl, trivial⟩ fun ρ0 => ?_
    refine ⟨_, rfl, ?_⟩
    refine AW.cut lo0 st [(0, vS p t.length), (1, vI n), (6, vS r.p r.l.length), (9, vS p t.length), (10, vI (t.length : Int)), (11, vI (i : Int)), (12, vB true), (15, vS r.p r.l.length), (16, vI (r.l.length)), (17, vI (0))] ⟨rfl, rfl, rfl, rfl, rfl, rfl, rfl, rfl, rfl, rfl, trivial⟩ fun ρ0 => ?_
    refine AW.loop0 (fun j : Nat => [(0, vS p t.length), (1, vI n), (6, vS r.p r.l.length), (9, vS p t.length), (10, vI (t.length : Int)), (11, vI (i : Int)), (15, vS r.p r.l.length), (16, vI (r.l.length : Int)), (17, vI (j : Int))]) (fun m (j : Nat) st' => m = r.l.length - j ∧ j ≤ r.l.length ∧ (∀ (u : Nat) x, u < j → r.l[u]? = some x → 0 ≤ x ∧ x ≤ 1000) ∧ st = st') 0 _ ⟨rfl, rfl, rfl, rfl, rfl, rfl, rfl, rfl, rfl, trivial⟩ rfl ⟨rfl, Nat.zero_le _, fun u x h => absurd h (Nat.not_lt_zero _), rfl⟩ ?_
    rintro m j ρ0 st' ⟨rfl, hj, hel, rfl⟩
    refine ⟨_, rfl, ?_⟩
    rintro (_|_) h3
    · replace h3 : ¬ ((j : Int) < (r.l.length : Int)) := of_decide_eq_false h3
      refine AW.cut lo0 st [(0, vS p t.length), (1, vI n), (6, vS r.p r.l.length), (9, vS p t.length), (10, vI (t.length : Int)), (11, vI (i : Int)), (15, vS r.p r.l.length), (16, vI (r.l.length : Int)), (17, vI (j : Int)), (18, vB false)] ⟨rfl, rfl, rfl, rfl, rfl, rfl, rfl, rfl, rfl, rfl, trivial⟩ fun ρ0 => ?_
      refine cx_sound _ _ _ _ _ ?_
      iterate 2 refine ⟨_, rfl, ?_⟩
      rintro (_|_) h2
      · replace h2 : (r.l.length : Int) = 5 := bne_eq_false_iff_eq.1 h2
        refine AW.cut lo0 st [(0, vS p t.length), (1, vI n), (6, vS r.p r.l.length), (9, vS p t.length), (10, vI (t.length : Int)), (11, vI (i : Int)), (15, vS r.p r.l.length), (16, vI (r.l.length : Int)), (17, vI (j : Int)), (18, vB false), (27, vB false)] ⟨rfl, rfl, rfl, rfl, rfl, rfl, rfl, rfl, rfl, rfl, rfl, trivial⟩ fun ρ0 => ?_
        refine cx_sound _ _ _ _ _ ?_
        have e28 : IntKind.wrap .i64 ((i : Int) + 1) = ((i + 1 : Nat) : Int) := (wrap_i64 (by omega) (by omega)).trans (by omega)
        refine ⟨_, rfl, ?_⟩
        refine ⟨i + 1, t.length - (i + 1), by omega, ⟨rfl, rfl, rfl, rfl, congrArg (Value.int .i64) e28, trivial⟩, rfl, rfl, h1', fun u x hu hx => ?_, rfl⟩
        rcases Nat.lt_or_ge u i with h | h
        · exact hok u x h hx
        · obtain rfl : u = i := by omega
          rw [hr1] at hx
          injection hx with hx
          rw [← hx]
          exact ⟨by omega, fun v y hy => hel v y (by have := (List.getElem?_eq_some_iff.1 hy).1; omega) hy⟩
      · replace h2 : ¬ ((r.l.length : Int) = 5) := bne_iff_ne.1 h2
        refine AW.cut lo0 st [(0, vS p t.length), (1, vI n), (6, vS r.p r.l.length), (9, vS p t.length), (10, vI (t.length : Int)), (11, vI (i : Int)), (15, vS r.p r.l.length), (16, vI (r.l.length : Int)), (17, vI (j : Int)), (18, vB false), (27, vB true)] ⟨rfl, rfl, rfl, rfl, rfl, rfl, rfl, rfl, rfl, rfl, rfl, trivial⟩ fun ρ0 => ?_
        refine cx_sound _ _ _ _ _ ?_
        exact ⟨.inl rfl, _, rfl, false, rfl, ⟨fun h => absurd h Bool.false_ne_true, fun h => absurd (by have := (rows_of h hr1).1; omega) h2⟩, rfl⟩
    · replace h3 : (j : Int) < (r.l.length : Int) := of_decide_eq_true h3
      refine AW.cut lo0 st [(0, vS p t.length), (1, vI n), (6, vS r.p r.l.length), (9, vS p t.length), (10, vI (t.length : Int)), (11, vI (i : Int)), (15, vS r.p r.l.length), (16, vI (r.l.length : Int)), (17, vI (j : Int)), (18, vB true)] ⟨rfl, rfl, rfl, rfl, rfl, rfl, rfl, rfl, rfl, rfl, trivial⟩ fun ρ0 => ?_
      have h3' := Int.ofNat_lt.1 h3
      have ⟨b2, o2, k2, z, hqe, hz, hm2, hc2⟩ := (hR.2 r hmem).at h3'
      refine cx_sound _ _ _ _ _ ?_
      refine ⟨_, op_idx (j := (j : Int)) (n := r.l.length) (q := ⟨b2, o2, none⟩) rfl (congrArg (fun u => vS u r.l.length) hqe) rfl rfl rfl (Int.natCast_nonneg _) h3, ?_⟩
      refine ⟨_, op_ldc (i := 0) (v := vI z) rfl rfl rfl rfl hm2 hc2 rfl rfl, ?_⟩
      refine AW.cut lo0 st [(0, vS p t.length), (1, vI n), (6, vS r.p r.l.length), (8, vI z), (9, vS p t.length), (10, vI (t.length : Int)), (11, vI (i : Int)), (15, vS r.p r.l.length), (16, vI (r.l.length : Int)), (17, vI (j : Int)), (18, vB true)] ⟨rfl, rfl, rfl, rfl, rfl, rfl, rfl, rfl, rfl, rfl, rfl, trivial⟩ fun ρ0 => ?_
      refine ⟨_, rfl, (ac_impl_within z 0 1000 st).mono ?_⟩
      rintro _ st ⟨c, rfl, h4, rfl⟩
      rcases c with _|_
      · replace h4 := of_decide_eq_false h4.symm
        refine ⟨_, rfl, ?_⟩
        refine AW.cut lo0 st [(0, vS p t.length), (1, vI n), (6, vS r.p r.l.length), (8, vI z), (9, vS p t.length), (10, vI (t.length : Int)), (11, vI (i : Int)), (15, vS r.p r.l.length), (16, vI (r.l.length : Int)), (17, vI (j : Int)), (18, vB true), (23, vB true)] ⟨rfl, rfl, rfl, rfl, rfl, rfl, rfl, rfl, rfl, rfl, rfl, rfl, trivial⟩ fun ρ0 => ?_
        refine cx_sound _ _ _ _ _ ?_
        exact ⟨.inl rfl, _, rfl, false, rfl, ⟨fun h => absurd h Bool.false_ne_true, fun h => absurd ((rows_of h hr1).2 j z hz) h4⟩, rfl⟩
      · replace h4 := of_decide_eq_true h4.symm
        refine ⟨_, rfl, ?_⟩
        refine AW.cut lo0 st [(0, vS p t.length), (1, vI n), (6, vS r.p r.l.length), (8, vI z), (9, vS p t.length), (10, vI (t.length : Int)), (11, vI (i : Int)), (15, vS r.p r.l.length), (16, vI (r.l.length : Int)), (17, vI (j : Int)), (18, vB true), (23, vB false)] ⟨rfl, rfl, rfl, rfl, rfl, rfl, rfl, rfl, rfl, rfl, rfl, rfl, trivial⟩ fun ρ0 => ?_
        refine cx_sound _ _ _ _ _ ?_
        have e24 : IntKind.wrap .i64 ((j : Int) + 1) = ((j + 1 : Nat) : Int) := (wrap_i64 (by omega) (by omega)).trans (by omega)
        refine ⟨_, rfl, ?_⟩
        refine ⟨j + 1, r.l.length - (j + 1), by omega, ⟨rfl, rfl, rfl, rfl, rfl, rfl, rfl, rfl, congrArg (Value.int .i64) e24, trivial⟩, rfl, rfl, h3', fun u x hu hx => ?_, rfl⟩
        rcases Nat.lt_or_ge u j with h | h
        · exact hel u x h hx
        · obtain rfl : u = j := by omega
          rw [hz] at hx
          injection hx with hx
          rw [← hx]; exact h4
theorem map_len {t u : List RV} (h : u.map (·.l) = t.map (·.l)) (hr : ∀ r ∈ t, szOk r.l.length) : u.length = t.length ∧ ∀ r ∈ u, szOk r.l.length := by
  have hl := congrArg List.length h
  simp only [List.length_map] at hl
  refine ⟨hl, fun r hm => ?_⟩
  have h2 : r.l ∈ t.map (·.l) := by rw [← h]; exact List.mem_map_of_mem hm
  obtain ⟨x, hx, he⟩ := List.mem_map.1 h2
  rw [← he]; exact hr x hx
theorem ac_laws_FnExactCommon (p : Option Addr) (t : List RV) (id : Int) (st : St) (hR : RdT st p t) (hm : t.length ≤ maxLen ∧ ∀ r ∈ t, r.l.length ≤ maxLen) (hw : (Lit.int .i64 id).wf = true) : C 9 [vS p t.length, vI id] st (fun v s => v = vB true) := by
  refine AC.enterX (i := ⟨[], [], [0, 1, 4, 5, 6, 7, 8, 13, 25, 30]⟩) [] Try.func9 rfl rfl (by kernel_rfl) (by kernel_rfl) Try.ntmps9 (Nat.le_of_ble_eq_true rfl) rfl ?_
  refine cx_sound _ _ _ _ _ ?_
  refine AW.cut lo0 st [(0, vS p t.length), (1, vI id), (4, vB false), (5, vI (1048576))] ⟨rfl, rfl, rfl, rfl, trivial⟩ fun ρ0 => ?_
  refine ⟨_, rfl, (ac_laws_szIntSS p t 1048576 st hR (by decide) (by decide) hm.1 hm.2).mono ?_⟩
  rintro _ st ⟨r, rfl, hr, hz, rfl⟩
  refine AW.cut lo0 st [(0, vS p t.length), (1, vI id), (4, vB false), (5, vI r)] ⟨rfl, rfl, rfl, rfl, trivial⟩ fun ρ0 => ?_
  refine ⟨_, rfl, ?_⟩
  rintro (_|_) h1
  · replace h1 : ¬ (r < 0) := of_decide_eq_false h1
    refine AW.cut lo0 st [(0, vS p t.length), (1, vI id), (4, vB false), (5, vI r), (13, vB false)] ⟨rfl, rfl, rfl, rfl, rfl, trivial⟩ fun ρ0 => ?_
    have ⟨hs, hrs, hcn⟩ := sz_rows (hz (Int.not_lt.1 h1)) (Int.not_lt.1 h1)
    refine cx_sound _ _ _ _ _ ?_
    refine ⟨_, rfl, (ac_laws_toIntSS p t st hR hs hrs).mono ?_⟩
    rintro _ s1 ⟨q1, u1, rfl, e1, hO1, hN1, hP1⟩
    have ⟨l1, hr1⟩ := map_len e1 hrs
    have hc1 := ac_spec_Common q1 u1 id s1 hO1.rdT (l1 ▸ hs) hr1
    rw [l1] at hc1
    refine ⟨_, rfl, hc1.mono ?_⟩
    rintro _ s1 ⟨rfl, rfl⟩
    refine AW.cut lo0 s1 [(0, vS p t.length), (1, vI id), (4, vB false), (5, vI r), (6, vI (common (u1.map (·.l)) id)), (13, vB false)] ⟨rfl, rfl, rfl, rfl, rfl, rfl, trivial⟩ fun ρ0 => ?_
    refine ⟨_, rfl, (ac_laws_toIntSS p t s1 (hR.pres hP1) hs hrs).mono ?_⟩
    rintro _ s2 ⟨q2, u2, rfl, e2, hO2, hN2, hP2⟩
    refine AW.cut lo0 s2 [(0, vS p t.length), (1, vI id), (4, vB false), (5, vI r), (6, vI (common (u1.map (·.l)) id)), (7, vS q2 t.length), (13, vB false)] ⟨rfl, rfl, rfl, rfl, rfl, rfl, rfl, trivial⟩ fun ρ0 => ?_
    have ⟨l2, hr2⟩ := map_len e2 hrs
    have hc2 := ac_impl_Common q2 u2 id s2 hO2.rdT (l2 ▸ hs) hr2
    rw [l2] at hc2
    refine ⟨_, rfl, (hc2).mono ?_⟩
    rintro _ s2 ⟨rfl, rfl⟩
    refine AW.cut lo0 s2 [(0, vS p t.length), (1, vI id), (4, vB false), (5, vI r), (6, vI (common (u1.map (·.l)) id)), (7, vS q2 t.length), (8, vI (common (u2.map (·.l)) id)), (13, vB false)] ⟨rfl, rfl, rfl, rfl, rfl, rfl, rfl, rfl, trivial⟩ fun ρ0 => ?_
    refine ⟨_, rfl, ?_⟩
    rintro (_|_) h2
    rotate_left
    · exact absurd ((by rw [e1, e2])) (bne_iff_ne.1 h2)
    refine AW.cut lo0 s2 [(0, vS p t.length), (1, vI id), (4, vB false), (5, vI r), (6, vI (common (u1.map (·.l)) id)), (7, vS q2 t.length), (8, vI (common (u2.map (·.l)) id)), (13, vB false), (25, vB false)] ⟨rfl, rfl, rfl, rfl, rfl, rfl, rfl, rfl, rfl, trivial⟩ fun ρ0 => ?_
    refine cx_sound _ _ _ _ _ ?_
    refine ⟨_, rfl, (ac_laws_toIntSS p t s2 (hR.pres (hP1.trans hP2)) hs hrs).mono ?_⟩
    rintro _ s3 ⟨q3, u3, rfl, e3, hO3, hN3, hP3⟩
    have ⟨l3, hr3⟩ := map_len e3 hrs
    have hq := AC.tru (ac_laws_eqIntSS q2 q3 u2 u3 s3 (hO2.rdT.pres hP3) hO3.rdT (l2 ▸ hs) hr2) (e2.trans e3.symm)
    rw [l2, l3] at hq
    refine ⟨_, rfl, hq.mono ?_⟩
    rintro _ s3 ⟨rfl, rfl⟩
    refine ⟨_, rfl, ?_⟩
    refine AW.cut lo0 s3 [(0, vS p t.length), (1, vI id), (4, vB false), (5, vI r), (6, vI (common (u1.map (·.l)) id)), (7, vS q2 t.length), (8, vI (common (u2.map (·.l)) id)), (13, vB false), (25, vB false), (30, vB false)] ⟨rfl, rfl, rfl, rfl, rfl, rfl, rfl, rfl, rfl, rfl, trivial⟩ fun ρ0 => ?_
    refine cx_sound _ _ _ _ _ ?_
    refine cx_sound _ _ _ _ _ ?_
    exact ⟨.inl rfl, _, rfl, rfl⟩
  · replace h1 : r < 0 := of_decide_eq_true h1
    refine AW.cut lo0 st [(0, vS p t.length), (1, vI id), (4, vB false), (5, vI r), (13, vB true)] ⟨rfl, rfl, rfl, rfl, rfl, trivial⟩ fun ρ0 => ?_
    refine cx_sound _ _ _ _ _ ?_
    exact ⟨.inl rfl, _, rfl, rfl⟩
theorem ac_laws_FnExactTableOk (p : Option Addr) (t : List RV) (id : Int) (st : St) (hR : RdT st p t) (hm : t.length ≤ maxLen ∧ ∀ r ∈ t, r.l.length ≤ maxLen) (hw : (Lit.int .i64 id).wf = true) : C 10 [vS p t.length, vI id] st (fun v s => v = vB true) := by
  refine AC.enterX (i := ⟨[], [], [0, 1, 4, 5, 6, 7, 8, 13, 25, 30]⟩) [] Try.func10 rfl rfl (by kernel_rfl) (by kernel_rfl) Try.ntmps10 (Nat.le_of_ble_eq_true rfl) rfl ?_
  refine cx_sound _ _ _ _ _ ?_
  refine AW.cut lo0 st [(0, vS p t.length), (1, vI id), (4, vB false), (5, vI (1048576))] ⟨rfl, rfl, rfl, rfl, trivial⟩ fun ρ0 => ?_
  refine ⟨_, rfl, (ac_laws_szIntSS p t 1048576 st hR (by decide) (by decide) hm.1 hm.2).mono ?_⟩
  rintro _ st ⟨r, rfl, hr, hz, rfl⟩
  refine AW.cut lo0 st [(0, vS p t.length), (1, vI id), (4, vB false), (5, vI r)] ⟨rfl, rfl, rfl, rfl, trivial⟩ fun ρ0 => ?_
  refine ⟨_, rfl, ?_⟩
  rintro (_|_) h1
  · replace h1 : ¬ (r < 0) := of_decide_eq_false h1
    refine AW.cut lo0 st [(0, vS p t.length), (1, vI id), (4, vB false), (5, vI r), (13, vB false)] ⟨rfl, rfl, rfl, rfl, rfl, trivial⟩ fun ρ0 => ?_
    have ⟨hs, hrs, hcn⟩ := sz_rows (hz (Int.not_lt.1 h1)) (Int.not_lt.1 h1)
    refine cx_sound _ _ _ _ _ ?_
    refine ⟨_, rfl, (ac_laws_toIntSS p t st hR hs hrs).mono ?_⟩
    rintro _ s1 ⟨q1, u1, rfl, e1, hO1, hN1, hP1⟩
    have ⟨l1, hr1⟩ := map_len e1 hrs
    have hc1 := ac_spec_TableOk q1 u1 id s1 hO1.rdT (l1 ▸ hs) hr1
    rw [l1] at hc1
    refine ⟨_, rfl, hc1.mono ?_⟩
    rintro _ s1 ⟨y1, rfl, h3, rfl⟩
    refine AW.cut lo0 s1 [(0, vS p t.length), (1, vI id), (4, vB false), (5, vI r), (6, vB y1), (13, vB false)] ⟨rfl, rfl, rfl, rfl, rfl, rfl, trivial⟩ fun ρ0 => ?_
    refine ⟨_, rfl, (ac_laws_toIntSS p t s1 (hR.pres hP1) hs hrs).mono ?_⟩
    rintro _ s2 ⟨q2, u2, rfl, e2, hO2, hN2, hP2⟩
    refine AW.cut lo0 s2 [(0, vS p t.length), (1, vI id), (4, vB false), (5, vI r), (6, vB y1), (7, vS q2 t.length), (13, vB false)] ⟨rfl, rfl, rfl, rfl, rfl, rfl, rfl, trivial⟩ fun ρ0 => ?_
    have ⟨l2, hr2⟩ := map_len e2 hrs
    have hc2 := ac_impl_TableOk q2 u2 id s2 hO2.rdT (l2 ▸ hs) hr2
    rw [l2] at hc2
    refine ⟨_, rfl, (hc2).mono ?_⟩
    rintro _ s2 ⟨y2, rfl, h4, rfl⟩
    refine AW.cut lo0 s2 [(0, vS p t.length), (1, vI id), (4, vB false), (5, vI r), (6, vB y1), (7, vS q2 t.length), (8, vB y2), (13, vB false)] ⟨rfl, rfl, rfl, rfl, rfl, rfl, rfl, rfl, trivial⟩ fun ρ0 => ?_
    refine ⟨_, rfl, ?_⟩
    rintro (_|_) h2
    rotate_left
    · exact absurd ((bool_iff h4 (by rw [e2, ← e1]; exact h3))) (b_ne h2)
    refine AW.cut lo0 s2 [(0, vS p t.length), (1, vI id), (4, vB false), (5, vI r), (6, vB y1), (7, vS q2 t.length), (8, vB y2), (13, vB false), (25, vB false)] ⟨rfl, rfl, rfl, rfl, rfl, rfl, rfl, rfl, rfl, trivial⟩ fun ρ0 => ?_
    refine cx_sound _ _ _ _ _ ?_
    refine ⟨_, rfl, (ac_laws_toIntSS p t s2 (hR.pres (hP1.trans hP2)) hs hrs).mono ?_⟩
    rintro _ s3 ⟨q3, u3, rfl, e3, hO3, hN3, hP3⟩
    have ⟨l3, hr3⟩ := map_len e3 hrs
    have hq := AC.tru (ac_laws_eqIntSS q2 q3 u2 u3 s3 (hO2.rdT.pres hP3) hO3.rdT (l2 ▸ hs) hr2) (e2.trans e3.symm)
    rw [l2, l3] at hq
    refine ⟨_, rfl, hq.mono ?_⟩
    rintro _ s3 ⟨rfl, rfl⟩
    refine ⟨_, rfl, ?_⟩
    refine AW.cut lo0 s3 [(0, vS p t.length), (1, vI id), (4, vB false), (5, vI r), (6, vB y1), (7, vS q2 t.length), (8, vB y2), (13, vB false), (25, vB false), (30, vB false)] ⟨rfl, rfl, rfl, rfl, rfl, rfl, rfl, rfl, rfl, rfl, trivial⟩ fun ρ0 => ?_
    refine cx_sound _ _ _ _ _ ?_
    refine cx_sound _ _ _ _ _ ?_
    exact ⟨.inl rfl, _, rfl, rfl⟩
  · replace h1 : r < 0 := of_decide_eq_true h1
    refine AW.cut lo0 st [(0, vS p t.length), (1, vI id), (4, vB false), (5, vI r), (13, vB true)] ⟨rfl, rfl, rfl, rfl, rfl, trivial⟩ fun ρ0 => ?_
    refine cx_sound _ _ _ _ _ ?_
    exact ⟨.inl rfl, _, rfl, rfl⟩
end Go.Proofs.Ytopakkndacbbpaa.AM
