/- Contracts of the marks' check, and its law on the abstract machine. -/
import Derived.Test.YtopcpcoklgepnaaD1
import Derived.Test.YtopcpcoklgepnaaD2
namespace Go.Proofs.Ytopcpcoklgepnaa.AM
open Go Go.Proofs
set_option linter.unusedVariables false
set_option linter.unusedSimpArgs false
set_option maxRecDepth 100000
set_option maxHeartbeats 4000000
theorem ac_spec_l3Node (id : Int) (st : St) : C 98 [vI id] st (fun v s => ∃ x, v = .bool x ∧ x = decide (0 ≤ id ∧ id ≤ 4) ∧ s = st) := by
  refine AC.enterX (i := ⟨[], [], [0, 2]⟩) [] Try.func98 rfl rfl (by kernel_rfl) (by kernel_rfl) Try.ntmps98 (Nat.le_of_ble_eq_true rfl) rfl ?_
  refine AW.cut lo0 st [(0, vI id), (2, vB false)] ⟨rfl, rfl, trivial⟩ fun ρ0 => ?_
  refine ⟨_, rfl, (ac_spec_l1In id 0 4 st).mono ?_⟩
  rintro _ st ⟨x, rfl, hx, rfl⟩
  refine cx_sound _ _ _ _ _ ?_
  exact ⟨.inl rfl, _, rfl, x, rfl, hx, rfl⟩
theorem ac_impl_isNode (id : Int) (st : St) : C 103 [vI id] st (fun v s => ∃ x, v = .bool x ∧ x = decide (0 ≤ id ∧ id ≤ 4) ∧ s = st) := by
  refine AC.enterX (i := ⟨[], [], [0, 2]⟩) [] Try.func103 rfl rfl (by kernel_rfl) (by kernel_rfl) Try.ntmps103 (Nat.le_of_ble_eq_true rfl) rfl ?_
  refine AW.cut lo0 st [(0, vI id), (2, vB false)] ⟨rfl, rfl, trivial⟩ fun ρ0 => ?_
  refine ⟨_, rfl, (ac_impl_within id 0 4 st).mono ?_⟩
  rintro _ st ⟨x, rfl, hx, rfl⟩
  refine cx_sound _ _ _ _ _ ?_
  exact ⟨.inl rfl, _, rfl, x, rfl, hx, rfl⟩
/-- One mark of a right row. -/
def markOk (l : List Flr) (j : Nat) (x : Flr) : Prop := (0 ≤ x.id ∧ x.id ≤ 4) ∧ (1 ≤ x.inc ∧ x.inc ≤ 1000) ∧ ∀ y, 0 < j → l[j - 1]? = some y → y.id < x.id
def marksOk (l : List Flr) : Prop := ∀ (j : Nat) x, l[j]? = some x → markOk l j x
theorem ac_spec_MarksOk (p : Option Addr) (l : List Flr) (st : St) (hR : Rows st 2 cFlr p l) (hs : szOk l.length) : C 102 [vS p l.length] st (fun v s => ∃ x, v = .bool x ∧ (x = true ↔ marksOk l) ∧ s = st) := by
  have hs : l.length ≤ 1048576 := hs
  refine AC.enterX (i := ⟨[], [], [0, 2, 3, 7, 43]⟩) [(4, [], [])] Try.func102 rfl rfl (by kernel_rfl) (by kernel_rfl) Try.ntmps102 (Nat.le_of_ble_eq_true rfl) rfl ?_
  refine cx_sound _ _ _ _ _ ?_
  refine AW.cut lo0 st [(0, vS p l.length), (2, vB false), (3, vI (0))] ⟨rfl, rfl, rfl, trivial⟩ fun ρ0 => ?_
  refine AW.loop0 (fun i : Nat => [(0, vS p l.length), (3, vI (i : Int))]) (fun m (i : Nat) st' => m = l.length - i ∧ i ≤ l.length ∧ (∀ (j : Nat) x, j < i → l[j]? = some x → markOk l j x) ∧ st = st') 0 _ ⟨rfl, rfl, trivial⟩ rfl ⟨rfl, Nat.zero_le _, fun j x h => absurd h (Nat.not_lt_zero _), rfl⟩ ?_
  rintro m i ρ0 st' ⟨rfl, hi, hok, rfl⟩
  iterate 2 refine ⟨_, rfl, ?_⟩
  rintro (_|_) h1
  · replace h1 : ¬ ((i : Int) < (l.length : Int)) := of_decide_eq_false h1
    refine AW.cut lo0 st [(0, vS p l.length), (3, vI (i : Int)), (7, vB false)] ⟨rfl, rfl, rfl, trivial⟩ fun ρ0 => ?_
    refine cx_sound _ _ _ _ _ ?_
    refine cx_sound _ _ _ _ _ ?_
    exact ⟨.inl rfl, _, rfl, true, rfl, ⟨fun _ j x hx => hok j x (by have := (List.getElem?_eq_some_iff.1 hx).1; omega) hx, fun _ => rfl⟩, rfl⟩
  · replace h1 : (i : Int) < (l.length : Int) := of_decide_eq_true h1
    refine AW.cut lo0 st [(0, vS p l.length), (3, vI (i : Int)), (7, vB true)] ⟨rfl, rfl, rfl, trivial⟩ fun ρ0 => ?_
    have h1' := Int.ofNat_lt.1 h1
    have ⟨b1, o1, k1, x, hpe, hx, hm1, hc1, hb1⟩ := hR.atB h1'
    refine cx_sound _ _ _ _ _ ?_
    refine ⟨_, op_idx (j := (i : Int)) (n := l.length) (q := ⟨b1, o1, none⟩) rfl (congrArg (fun u => vS u l.length) hpe) rfl rfl rfl (Int.natCast_nonneg _) h1, ?_⟩
    refine ⟨_, rfl, ?_⟩
    refine ⟨_, op_ldc (i := 0) rfl rfl rfl rfl hm1 hc1 rfl rfl, ?_⟩
    refine ⟨_, rfl, (ac_spec_l3Node x.id st).mono ?_⟩
    rintro _ st ⟨c, rfl, h2, rfl⟩
    rcases c with _|_
    · replace h2 := of_decide_eq_false h2.symm
      iterate 3 refine ⟨_, rfl, ?_⟩
      refine AW.cut lo0 st [(0, vS p l.length), (3, vI (i : Int)), (7, vB true), (43, vB true)] ⟨rfl, rfl, rfl, rfl, trivial⟩ fun ρ0 => ?_
      refine cx_sound _ _ _ _ _ ?_
      exact ⟨.inl rfl, _, rfl, false, rfl, ⟨fun h => absurd h Bool.false_ne_true, fun h => absurd (h i x hx).1 h2⟩, rfl⟩
    · replace h2 := of_decide_eq_true h2.symm
      iterate 2 refine ⟨_, rfl, ?_⟩
      rintro (_|_) h3
      · replace h3 : ¬ (0 < (i : Int)) := of_decide_eq_false h3
        iterate 2 refine ⟨_, rfl, ?_⟩
        refine ⟨_, op_idx (j := (i : Int)) (n := l.length) (q := ⟨b1, o1, none⟩) rfl (congrArg (fun u => vS u l.length) hpe) rfl rfl rfl (Int.natCast_nonneg _) h1, ?_⟩
        refine ⟨_, rfl, ?_⟩
        refine ⟨_, op_ldc (i := 1) rfl rfl rfl rfl hm1 hc1 rfl rfl, ?_⟩
        refine ⟨_, rfl, (ac_spec_l1In x.inc 1 1000 st).mono ?_⟩
        rintro _ st ⟨d, rfl, h5, rfl⟩
        rcases d with _|_
        · replace h5 := of_decide_eq_false h5.symm
          iterate 2 refine ⟨_, rfl, ?_⟩
          refine AW.cut lo0 st [(0, vS p l.length), (3, vI (i : Int)), (7, vB true), (43, vB true)] ⟨rfl, rfl, rfl, rfl, trivial⟩ fun ρ0 => ?_
          refine cx_sound _ _ _ _ _ ?_
          exact ⟨.inl rfl, _, rfl, false, rfl, ⟨fun h => absurd h Bool.false_ne_true, fun h => absurd (h i x hx).2.1 h5⟩, rfl⟩
        · replace h5 := of_decide_eq_true h5.symm
          iterate 2 refine ⟨_, rfl, ?_⟩
          refine AW.cut lo0 st [(0, vS p l.length), (3, vI (i : Int)), (7, vB true), (43, vB false)] ⟨rfl, rfl, rfl, rfl, trivial⟩ fun ρ0 => ?_
          refine cx_sound _ _ _ _ _ ?_
          have e9 : IntKind.wrap .i64 ((i : Int) + 1) = ((i + 1 : Nat) : Int) := (wrap_i64 (by omega) (by omega)).trans (by omega)
          refine ⟨_, rfl, ?_⟩
          refine ⟨i + 1, l.length - (i + 1), by omega, ⟨rfl, congrArg (Value.int .i64) e9, trivial⟩, rfl, rfl, h1', fun j u hj hu => ?_, rfl⟩
          rcases Nat.lt_or_ge j i with h | h
          · exact hok j u h hu
          · obtain rfl : j = i := by omega
            rw [hx] at hu
            injection hu with hu
            subst hu
            exact ⟨h2, h5, fun y h0 hy => absurd h0 (by omega)⟩
      · replace h3 : 0 < (i : Int) := of_decide_eq_true h3
        have ⟨b2, o2, k2, y, hqe, hy, hm2, hc2, hb2⟩ := hR.atB (j := i - 1) (by omega)
        have e28 : IntKind.wrap .i64 ((i : Int) - 1) = ((i - 1 : Nat) : Int) := (wrap_i64 (by omega) (by omega)).trans (by omega)
        refine ⟨_, op_idx (j := (i : Int)) (n := l.length) (q := ⟨b1, o1, none⟩) rfl (congrArg (fun u => vS u l.length) hpe) rfl rfl rfl (Int.natCast_nonneg _) h1, ?_⟩
        refine ⟨_, rfl, ?_⟩
        refine ⟨_, op_ldc (i := 0) rfl rfl rfl rfl hm1 hc1 rfl rfl, ?_⟩
        refine ⟨_, rfl, ?_⟩
        refine ⟨_, op_idx (j := ((i - 1 : Nat) : Int)) (n := l.length) (q := ⟨b2, o2, none⟩) rfl (congrArg (fun u => vS u l.length) hqe) (congrArg (Value.int .i64) e28) rfl rfl (Int.natCast_nonneg _) (by omega), ?_⟩
        refine ⟨_, rfl, ?_⟩
        refine ⟨_, op_ldc (i := 0) rfl rfl rfl rfl hm2 hc2 rfl rfl, ?_⟩
        refine ⟨_, rfl, ?_⟩
        rintro (_|_) h4
        · replace h4 : ¬ (x.id ≤ y.id) := of_decide_eq_false h4
          iterate 2 refine ⟨_, rfl, ?_⟩
          refine ⟨_, op_idx (j := (i : Int)) (n := l.length) (q := ⟨b1, o1, none⟩) rfl (congrArg (fun u => vS u l.length) hpe) rfl rfl rfl (Int.natCast_nonneg _) h1, ?_⟩
          refine ⟨_, rfl, ?_⟩
          refine ⟨_, op_ldc (i := 1) rfl rfl rfl rfl hm1 hc1 rfl rfl, ?_⟩
          refine ⟨_, rfl, (ac_spec_l1In x.inc 1 1000 st).mono ?_⟩
          rintro _ st ⟨d, rfl, h5, rfl⟩
          rcases d with _|_
          · replace h5 := of_decide_eq_false h5.symm
            iterate 2 refine ⟨_, rfl, ?_⟩
            refine AW.cut lo0 st [(0, vS p l.length), (3, vI (i : Int)), (7, vB true), (43, vB true)] ⟨rfl, rfl, rfl, rfl, trivial⟩ fun ρ0 => ?_
            refine cx_sound _ _ _ _ _ ?_
            exact ⟨.inl rfl, _, rfl, false, rfl, ⟨fun h => absurd h Bool.false_ne_true, fun h => absurd (h i x hx).2.1 h5⟩, rfl⟩
          · replace h5 := of_decide_eq_true h5.symm
            iterate 2 refine ⟨_, rfl, ?_⟩
            refine AW.cut lo0 st [(0, vS p l.length), (3, vI (i : Int)), (7, vB true), (43, vB false)] ⟨rfl, rfl, rfl, rfl, trivial⟩ fun ρ0 => ?_
            refine cx_sound _ _ _ _ _ ?_
            have e9 : IntKind.wrap .i64 ((i : Int) + 1) = ((i + 1 : Nat) : Int) := (wrap_i64 (by omega) (by omega)).trans (by omega)
            refine ⟨_, rfl, ?_⟩
            refine ⟨i + 1, l.length - (i + 1), by omega, ⟨rfl, congrArg (Value.int .i64) e9, trivial⟩, rfl, rfl, h1', fun j u hj hu => ?_, rfl⟩
            rcases Nat.lt_or_ge j i with h | h
            · exact hok j u h hu
            · obtain rfl : j = i := by omega
              rw [hx] at hu
              injection hu with hu
              subst hu
              refine ⟨h2, h5, fun z h0 hz => ?_⟩
              rw [hy] at hz
              injection hz with hz
              subst hz
              exact Int.not_le.1 h4
        · replace h4 : x.id ≤ y.id := of_decide_eq_true h4
          iterate 3 refine ⟨_, rfl, ?_⟩
          refine AW.cut lo0 st [(0, vS p l.length), (3, vI (i : Int)), (7, vB true), (43, vB true)] ⟨rfl, rfl, rfl, rfl, trivial⟩ fun ρ0 => ?_
          refine cx_sound _ _ _ _ _ ?_
          exact ⟨.inl rfl, _, rfl, false, rfl, ⟨fun h => absurd h Bool.false_ne_true, fun h => absurd ((h i x hx).2.2 y (by omega) hy) (Int.not_lt.2 h4)⟩, rfl⟩
theorem ac_impl_MarksOk (p : Option Addr) (l : List Flr) (st : St) (hR : Rows st 2 cFlr p l) (hs : szOk l.length) : C 106 [vS p l.length] st (fun v s => ∃ x, v = .bool x ∧ (x = true ↔ marksOk l) ∧ s = st) := by
  have hs : l.length ≤ 1048576 := hs
  refine AC.enterX (i := ⟨[4], [4, 12, 17, 32], [0, 2, 3, 4, 5, 6, 7, 8, 36]⟩) [(4, [], [])] Try.func106 rfl rfl (by kernel_rfl) (by kernel_rfl) Try.ntmps106 (Nat.le_of_ble_eq_true rfl) rfl ?_
  refine AW.cutM (0) st [(0, vS p l.length), (2, vB false)] [] ⟨rfl, rfl, trivial⟩ trivial rfl fun ρ0 ff => ?_
  refine ⟨_, rfl, ?_⟩
  refine AW.cutM (0) st [(0, vS p l.length), (2, vB false), (5, vS p l.length), (6, vI (l.length)), (7, vI (0))] [] ⟨rfl, rfl, rfl, rfl, rfl, trivial⟩ trivial rfl fun ρ0 ff => ?_
  refine AW.loopM (fun i : Nat => [(0, vS p l.length), (5, vS p l.length), (6, vI (l.length : Int)), (7, vI (i : Int))]) (fun i : Nat => []) (fun m (i : Nat) st' => m = l.length - i ∧ i ≤ l.length ∧ (∀ (j : Nat) x, j < i → l[j]? = some x → markOk l j x) ∧ st = st') 0 _ ⟨rfl, rfl, rfl, rfl, trivial⟩ trivial ⟨rfl, Nat.zero_le _, fun j x h => absurd h (Nat.not_lt_zero _), rfl⟩ ?_
  rintro m i ρ0 ff gg st' ⟨rfl, hi, hok, rfl⟩
  refine ⟨_, rfl, ?_⟩
  rintro (_|_) h1
  · replace h1 : ¬ ((i : Int) < (l.length : Int)) := of_decide_eq_false h1
    refine AW.cutM (gg) st [(0, vS p l.length), (5, vS p l.length), (6, vI (l.length : Int)), (7, vI (i : Int)), (8, vB false)] [] ⟨rfl, rfl, rfl, rfl, rfl, trivial⟩ trivial rfl fun ρ0 ff => ?_
    refine cx_sound _ _ _ _ _ ?_
    refine cx_sound _ _ _ _ _ ?_
    exact ⟨.inl rfl, _, rfl, true, rfl, ⟨fun _ j x hx => hok j x (by have := (List.getElem?_eq_some_iff.1 hx).1; omega) hx, fun _ => rfl⟩, rfl⟩
  · replace h1 : (i : Int) < (l.length : Int) := of_decide_eq_true h1
    refine AW.cutM (gg) st [(0, vS p l.length), (5, vS p l.length), (6, vI (l.length : Int)), (7, vI (i : Int)), (8, vB true)] [] ⟨rfl, rfl, rfl, rfl, rfl, trivial⟩ trivial rfl fun ρ0 ff => ?_
    have h1' := Int.ofNat_lt.1 h1
    have ⟨b1, o1, k1, x, hpe, hx, hm1, hc1, hb1⟩ := hR.atB h1'
    refine cx_sound _ _ _ _ _ ?_
    refine ⟨_, op_idx (j := (i : Int)) (n := l.length) (q := ⟨b1, o1, none⟩) rfl (congrArg (fun u => vS u l.length) hpe) rfl rfl rfl (Int.natCast_nonneg _) h1, ?_⟩
    refine ⟨_, op_lda rfl rfl rfl rfl rfl hm1 hc1 rfl, ?_⟩
    refine ⟨_, rfl, ?_⟩
    refine ⟨_, op_sto rfl rfl rfl rfl rfl rfl rfl, ?_⟩
    refine AW.cutM (gg + 1) st [(0, vS p l.length), (3, vI (i : Int)), (4, vL 4 0 (gg)), (5, vS p l.length), (6, vI (l.length : Int)), (7, vI (i : Int)), (8, vB true)] [(4, gg, [vI x.id, vI x.inc])] ⟨rfl, rfl, rfl, rfl, rfl, rfl, rfl, trivial⟩ ⟨rfl, trivial⟩ rfl fun ρ0 ff => ?_
    refine ⟨_, rfl, ?_⟩
    refine ⟨_, op_ldo rfl rfl rfl rfl, ?_⟩
    refine ⟨_, rfl, (ac_impl_isNode x.id st).mono ?_⟩
    rintro _ st ⟨c, rfl, h2, rfl⟩
    rcases c with _|_
    · replace h2 := of_decide_eq_false h2.symm
      iterate 3 refine ⟨_, rfl, ?_⟩
      refine AW.cutM (gg + 1) st [(0, vS p l.length), (3, vI (i : Int)), (4, vL 4 0 (gg)), (5, vS p l.length), (6, vI (l.length : Int)), (7, vI (i : Int)), (8, vB true), (36, vB true)] [(4, gg, [vI x.id, vI x.inc])] ⟨rfl, rfl, rfl, rfl, rfl, rfl, rfl, rfl, trivial⟩ ⟨rfl, trivial⟩ rfl fun ρ0 ff => ?_
      refine cx_sound _ _ _ _ _ ?_
      exact ⟨.inl rfl, _, rfl, false, rfl, ⟨fun h => absurd h Bool.false_ne_true, fun h => absurd (h i x hx).1 h2⟩, rfl⟩
    · replace h2 := of_decide_eq_true h2.symm
      iterate 2 refine ⟨_, rfl, ?_⟩
      refine ⟨_, op_ldo rfl rfl rfl rfl, ?_⟩
      refine ⟨_, rfl, (ac_impl_within x.inc 1 1000 st).mono ?_⟩
      rintro _ st ⟨d, rfl, h5, rfl⟩
      rcases d with _|_
      · replace h5 := of_decide_eq_false h5.symm
        iterate 3 refine ⟨_, rfl, ?_⟩
        refine AW.cutM (gg + 1) st [(0, vS p l.length), (3, vI (i : Int)), (4, vL 4 0 (gg)), (5, vS p l.length), (6, vI (l.length : Int)), (7, vI (i : Int)), (8, vB true), (36, vB true)] [(4, gg, [vI x.id, vI x.inc])] ⟨rfl, rfl, rfl, rfl, rfl, rfl, rfl, rfl, trivial⟩ ⟨rfl, trivial⟩ rfl fun ρ0 ff => ?_
        refine cx_sound _ _ _ _ _ ?_
        exact ⟨.inl rfl, _, rfl, false, rfl, ⟨fun h => absurd h Bool.false_ne_true, fun h => absurd (h i x hx).2.1 h5⟩, rfl⟩
      · replace h5 := of_decide_eq_true h5.symm
        iterate 3 refine ⟨_, rfl, ?_⟩
        rintro (_|_) h3
        · replace h3 : ¬ (0 < (i : Int)) := of_decide_eq_false h3
          iterate 2 refine ⟨_, rfl, ?_⟩
          refine AW.cutM (gg + 1) st [(0, vS p l.length), (3, vI (i : Int)), (4, vL 4 0 (gg)), (5, vS p l.length), (6, vI (l.length : Int)), (7, vI (i : Int)), (8, vB true), (36, vB false)] [(4, gg, [vI x.id, vI x.inc])] ⟨rfl, rfl, rfl, rfl, rfl, rfl, rfl, rfl, trivial⟩ ⟨rfl, trivial⟩ rfl fun ρ0 ff => ?_
          refine cx_sound _ _ _ _ _ ?_
          have e37 : IntKind.wrap .i64 ((i : Int) + 1) = ((i + 1 : Nat) : Int) := (wrap_i64 (by omega) (by omega)).trans (by omega)
          refine ⟨_, rfl, ?_⟩
          refine ⟨i + 1, l.length - (i + 1), by omega, ⟨rfl, rfl, rfl, congrArg (Value.int .i64) e37, trivial⟩, trivial, rfl, h1', fun j u hj hu => ?_, rfl⟩
          rcases Nat.lt_or_ge j i with h | h
          · exact hok j u h hu
          · obtain rfl : j = i := by omega
            rw [hx] at hu
            injection hu with hu
            subst hu
            exact ⟨h2, h5, fun y h0 hy => absurd h0 (by omega)⟩
        · replace h3 : 0 < (i : Int) := of_decide_eq_true h3
          have ⟨b2, o2, k2, y, hqe, hy, hm2, hc2, hb2⟩ := hR.atB (j := i - 1) (by omega)
          have e28 : IntKind.wrap .i64 ((i : Int) - 1) = ((i - 1 : Nat) : Int) := (wrap_i64 (by omega) (by omega)).trans (by omega)
          refine ⟨_, rfl, ?_⟩
          refine ⟨_, op_idx (j := ((i - 1 : Nat) : Int)) (n := l.length) (q := ⟨b2, o2, none⟩) rfl (congrArg (fun u => vS u l.length) hqe) (congrArg (Value.int .i64) e28) rfl rfl (Int.natCast_nonneg _) (by omega), ?_⟩
          refine ⟨_, rfl, ?_⟩
          refine ⟨_, op_ldc (i := 0) rfl rfl rfl rfl hm2 hc2 rfl rfl, ?_⟩
          refine ⟨_, rfl, ?_⟩
          refine ⟨_, op_ldo rfl rfl rfl rfl, ?_⟩
          refine ⟨_, rfl, ?_⟩
          rintro (_|_) h4
          · replace h4 : ¬ (x.id ≤ y.id) := of_decide_eq_false h4
            iterate 2 refine ⟨_, rfl, ?_⟩
            refine AW.cutM (gg + 1) st [(0, vS p l.length), (3, vI (i : Int)), (4, vL 4 0 (gg)), (5, vS p l.length), (6, vI (l.length : Int)), (7, vI (i : Int)), (8, vB true), (36, vB false)] [(4, gg, [vI x.id, vI x.inc])] ⟨rfl, rfl, rfl, rfl, rfl, rfl, rfl, rfl, trivial⟩ ⟨rfl, trivial⟩ rfl fun ρ0 ff => ?_
            refine cx_sound _ _ _ _ _ ?_
            have e37 : IntKind.wrap .i64 ((i : Int) + 1) = ((i + 1 : Nat) : Int) := (wrap_i64 (by omega) (by omega)).trans (by omega)
            refine ⟨_, rfl, ?_⟩
            refine ⟨i + 1, l.length - (i + 1), by omega, ⟨rfl, rfl, rfl, congrArg (Value.int .i64) e37, trivial⟩, trivial, rfl, h1', fun j u hj hu => ?_, rfl⟩
            rcases Nat.lt_or_ge j i with h | h
            · exact hok j u h hu
            · obtain rfl : j = i := by omega
              rw [hx] at hu
              injection hu with hu
              subst hu
              refine ⟨h2, h5, fun z h0 hz => ?_⟩
              rw [hy] at hz
              injection hz with hz
              subst hz
              exact Int.not_le.1 h4
          · replace h4 : x.id ≤ y.id := of_decide_eq_true h4
            iterate 2 refine ⟨_, rfl, ?_⟩
            refine AW.cutM (gg + 1) st [(0, vS p l.length), (3, vI (i : Int)), (4, vL 4 0 (gg)), (5, vS p l.length), (6, vI (l.length : Int)), (7, vI (i : Int)), (8, vB true), (36, vB true)] [(4, gg, [vI x.id, vI x.inc])] ⟨rfl, rfl, rfl, rfl, rfl, rfl, rfl, rfl, trivial⟩ ⟨rfl, trivial⟩ rfl fun ρ0 ff => ?_
            refine cx_sound _ _ _ _ _ ?_
            exact ⟨.inl rfl, _, rfl, false, rfl, ⟨fun h => absurd h Bool.false_ne_true, fun h => absurd ((h i x hx).2.2 y (by omega) hy) (Int.not_lt.2 h4)⟩, rfl⟩
end Go.Proofs.Ytopcpcoklgepnaa.AM
