/- Contracts of trees' sizes, copies and comparison. -/
import Derived.Test.YtopcpcoklgepnaaV0
namespace Go.Proofs.Ytopcpcoklgepnaa.AM
open Go Go.Proofs
set_option linter.unusedVariables false
set_option linter.unusedSimpArgs false
set_option maxRecDepth 100000
set_option maxHeartbeats 4000000
theorem ac_laws_toIntSU (g : RV) (st : St) (hR : Rows st 1 fI g.p g.l) (hb : szOk g.l.length) : C 85 [vS g.p g.l.length] st (fun v s => ∃ u : RV, v = vS u.p u.l.length ∧ u.l = g.l ∧ Frs st s (pcIs u)) :=
  (uc_toIntS g st hR hb).mono fun v s ⟨u, h1, h2, h3, h4, h5⟩ => ⟨u, h1, h2, h3, h4, h5⟩
theorem ac_laws_eqIntSR (p q : Option Addr) (a b : List Int) (st : St) (hA : Rows st 1 fI p a) (hB : Rows st 1 fI q b) (hs : szOk a.length) : C 91 [vS p a.length, vS q b.length] st (fun v s => ∃ x, v = .bool x ∧ (x = true ↔ a = b) ∧ s = st) := by
  have hs : a.length ≤ 1048576 := hs
  refine AC.enterX (i := ⟨[], [], [0, 1, 4, 5, 10, 14, 25]⟩) [(6, [], [])] Try.func91 rfl rfl (by kernel_rfl) (by kernel_rfl) Try.ntmps91 (Nat.le_of_ble_eq_true rfl) rfl ?_
  refine AW.cut lo0 st [(0, vS p a.length), (1, vS q b.length), (4, vB false)] ⟨rfl, rfl, rfl, trivial⟩ fun ρ0 => ?_
  iterate 3 refine ⟨_, rfl, ?_⟩
  rintro (_|_) h10
  · replace h10 : (a.length : Int) = (b.length : Int) := bne_eq_false_iff_eq.1 h10
    refine AW.cut lo0 st [(0, vS p a.length), (1, vS q b.length), (4, vB false), (10, vB false)] ⟨rfl, rfl, rfl, rfl, trivial⟩ fun ρ0 => ?_
    refine cx_sound _ _ _ _ _ ?_
    refine AW.cut lo0 st [(0, vS p a.length), (1, vS q b.length), (4, vB false), (5, vI (0))] ⟨rfl, rfl, rfl, rfl, trivial⟩ fun ρ0 => ?_
    refine AW.loop0 (fun i : Nat => [(0, vS p a.length), (1, vS q b.length), (5, vI (i : Int))]) (fun m (i : Nat) st' => m = a.length - i ∧ i ≤ a.length ∧ (∀ (j : Nat) x y, j < i → a[j]? = some x → b[j]? = some y → x = y) ∧ st = st') 0 _ ⟨rfl, rfl, rfl, trivial⟩ rfl ⟨rfl, Nat.zero_le _, fun j x y h => absurd h (Nat.not_lt_zero _), rfl⟩ ?_
    rintro m i ρ0 st' ⟨rfl, hi, heq, rfl⟩
    iterate 2 refine ⟨_, rfl, ?_⟩
    rintro (_|_) h14
    · replace h14 : ¬ ((i : Int) < (a.length : Int)) := of_decide_eq_false h14
      refine AW.cut lo0 st [(0, vS p a.length), (1, vS q b.length), (5, vI (i : Int)), (14, vB false)] ⟨rfl, rfl, rfl, rfl, trivial⟩ fun ρ0 => ?_
      refine cx_sound _ _ _ _ _ ?_
      refine cx_sound _ _ _ _ _ ?_
      exact ⟨.inl rfl, _, rfl, true, rfl, ⟨fun _ => iff_lists (by omega) fun j x y hj hx hy => heq j x y (by omega) hx hy, fun _ => rfl⟩, rfl⟩
    · replace h14 : (i : Int) < (a.length : Int) := of_decide_eq_true h14
      refine AW.cut lo0 st [(0, vS p a.length), (1, vS q b.length), (5, vI (i : Int)), (14, vB true)] ⟨rfl, rfl, rfl, rfl, trivial⟩ fun ρ0 => ?_
      refine cx_sound _ _ _ _ _ ?_
      refine op_at i hA (by omega) rfl rfl rfl rfl rfl rfl rfl ?_
      intro x19 b19 d19 k19 hy19 hb19 hm19 hc19 ho19
      refine ⟨_, op_ldc (i := 0) rfl rfl rfl rfl hm19 hc19 rfl rfl, ?_⟩
      refine op_at i hB (by omega) rfl rfl rfl rfl rfl rfl rfl ?_
      intro x23 b23 d23 k23 hy23 hb23 hm23 hc23 ho23
      refine ⟨_, op_ldc (i := 0) rfl rfl rfl rfl hm23 hc23 rfl rfl, ?_⟩
      refine ⟨_, rfl, ?_⟩
      rintro (_|_) h25
      · replace h25 : x19 = x23 := bne_eq_false_iff_eq.1 h25
        refine AW.cut lo0 st [(0, vS p a.length), (1, vS q b.length), (5, vI (i : Int)), (14, vB true), (25, vB false)] ⟨rfl, rfl, rfl, rfl, rfl, trivial⟩ fun ρ0 => ?_
        refine cx_sound _ _ _ _ _ ?_
        have ew16 : IntKind.wrap .i64 ((i : Int) + (1)) = ((i + 1 : Nat) : Int) := (wrap_i64 (by omega) (by omega)).trans (by omega)
        refine ⟨_, rfl, ?_⟩
        refine ⟨i + 1, a.length - (i + 1), by omega, ⟨rfl, rfl, congrArg (Value.int .i64) ew16, trivial⟩, rfl, rfl, by omega, fun j u v hj hu hv => ?_, rfl⟩
        rcases Nat.lt_or_ge j i with h | h
        · exact heq j u v h hu hv
        · obtain rfl : j = i := by omega
          rw [hy19] at hu; rw [hy23] at hv
          injection hu with hu; injection hv with hv
          rw [← hu, ← hv]; exact h25
      · replace h25 : ¬ (x19 = x23) := bne_iff_ne.1 h25
        refine AW.cut lo0 st [(0, vS p a.length), (1, vS q b.length), (5, vI (i : Int)), (14, vB true), (25, vB true)] ⟨rfl, rfl, rfl, rfl, rfl, trivial⟩ fun ρ0 => ?_
        refine cx_sound _ _ _ _ _ ?_
        refine ⟨.inl rfl, _, rfl, false, rfl, ⟨fun h => absurd h Bool.false_ne_true, fun h => absurd ?_ h25⟩, rfl⟩
        rw [h, hy23] at hy19
        injection hy19 with h
        exact h.symm
  · replace h10 : ¬ ((a.length : Int) = (b.length : Int)) := bne_iff_ne.1 h10
    refine AW.cut lo0 st [(0, vS p a.length), (1, vS q b.length), (4, vB false), (10, vB true)] ⟨rfl, rfl, rfl, rfl, trivial⟩ fun ρ0 => ?_
    refine cx_sound _ _ _ _ _ ?_
    exact ⟨.inl rfl, _, rfl, false, rfl, ⟨fun h => absurd h Bool.false_ne_true, fun h => absurd (congrArg (fun l : List Int => (l.length : Int)) h) h10⟩, rfl⟩
theorem ac_laws_szTree (g : TV) (n : Int) (st : St) (h0 : 0 ≤ n) (hn : n ≤ 1048576) (hm : g.l.length ≤ maxLen) : C 57 [.agg #[vS g.p g.l.length, vI g.root], vI n] st (fun v s => ∃ r, v = vI r ∧ r ≤ n ∧ (0 ≤ r → r + (g.l.length : Int) = n) ∧ s = st) := by
  refine AC.enterX (i := ⟨[2], [2, 5], [0, 1, 2, 4, 10]⟩) [] Try.func57 rfl rfl (by kernel_rfl) (by kernel_rfl) Try.ntmps57 (Nat.le_of_ble_eq_true rfl) rfl ?_
  refine ⟨_, rfl, ?_⟩
  refine AW.cutM (1) st [(1, vI n), (2, vL 2 0 (0)), (4, vI (0))] [(2, 0, [vS g.p g.l.length, vI g.root])] ⟨rfl, rfl, rfl, trivial⟩ ⟨rfl, trivial⟩ rfl fun ρ0 ff => ?_
  refine ⟨_, rfl, ?_⟩
  refine ⟨_, op_ldo rfl rfl rfl rfl, ?_⟩
  refine ⟨_, rfl, (ac_laws_szIntS g.p g.l n st (by first | assumption | omega) (by first | assumption | omega) (by first | assumption | omega)).mono ?_⟩
  rintro _ st ⟨r8, rfl, h8, h8', rfl⟩
  refine AW.cutM (1) st [(1, vI r8), (4, vI (0))] [] ⟨rfl, rfl, trivial⟩ trivial rfl fun ρ0 ff => ?_
  refine ⟨_, rfl, ?_⟩
  rintro (_|_) h10
  · replace h10 : ¬ (r8 < (0)) := of_decide_eq_false h10
    refine AW.cutM (1) st [(1, vI r8), (4, vI (0)), (10, vB false)] [] ⟨rfl, rfl, rfl, trivial⟩ trivial rfl fun ρ0 ff => ?_
    refine cx_sound _ _ _ _ _ ?_
    refine cx_sound _ _ _ _ _ ?_
    exact ⟨.inl rfl, _, rfl, r8, rfl, by omega, fun h => by have i8 := h8' (by omega); omega, rfl⟩
  · replace h10 : r8 < (0) := of_decide_eq_true h10
    refine AW.cutM (1) st [(1, vI r8), (4, vI (0)), (10, vB true)] [] ⟨rfl, rfl, rfl, trivial⟩ trivial rfl fun ρ0 ff => ?_
    refine cx_sound _ _ _ _ _ ?_
    exact ⟨.inl rfl, _, rfl, -1, rfl, by omega, fun h => absurd h (by omega), rfl⟩
theorem ac_laws_toTree (g : TV) (st : St) (hR : Rows st 1 fI g.p g.l) (hb : szOk g.l.length) : C 59 [.agg #[vS g.p g.l.length, vI g.root]] st (fun v s => ∃ u : TV, v = .agg #[vS u.p u.l.length, vI u.root] ∧ u.x = g.x ∧ Frs st s (pcIs u.toRV)) := by
  refine AC.enterX (i := ⟨[1, 2, 3], [1, 2, 3, 4, 7, 8, 10], [0, 1, 2, 3]⟩) [] Try.func59 rfl rfl (by kernel_rfl) (by kernel_rfl) Try.ntmps59 (Nat.le_of_ble_eq_true rfl) rfl ?_
  iterate 2 refine ⟨_, rfl, ?_⟩
  refine AW.cutM (2) st [(1, vL 1 0 (0)), (2, vL 2 0 (1))] [(1, 0, [vS g.p g.l.length, vI g.root]), (2, 1, [.slice none 0 0, vI 0])] ⟨rfl, rfl, trivial⟩ ⟨rfl, rfl, trivial⟩ rfl fun ρ0 ff => ?_
  refine ⟨_, rfl, ?_⟩
  refine AW.cutM (3) st [(1, vL 1 0 (0)), (2, vL 2 0 (1)), (3, vL 3 0 (2))] [(1, 0, [vS g.p g.l.length, vI g.root]), (2, 1, [.slice none 0 0, vI 0]), (3, 2, [.slice none 0 0, vI 0])] ⟨rfl, rfl, rfl, trivial⟩ ⟨rfl, rfl, rfl, trivial⟩ rfl fun ρ0 ff => ?_
  refine ⟨_, rfl, ?_⟩
  refine ⟨_, op_ldo rfl rfl rfl rfl, ?_⟩
  refine ⟨_, rfl, (ac_laws_toIntSU g.toRV st hR hb).mono ?_⟩
  rintro _ s6 ⟨u6, rfl, h6, hF6⟩
  refine ⟨_, rfl, ?_⟩
  refine ⟨_, op_sto rfl rfl rfl rfl rfl rfl rfl, ?_⟩
  refine AW.cutM (3) s6 [(1, vL 1 0 (0)), (2, vL 2 0 (1)), (3, vL 3 0 (2))] [(1, 0, [vS g.p g.l.length, vI g.root]), (2, 1, [.slice none 0 0, vI 0]), (3, 2, [vS u6.p u6.l.length, vI 0])] ⟨rfl, rfl, rfl, trivial⟩ ⟨rfl, rfl, rfl, trivial⟩ rfl fun ρ0 ff => ?_
  refine ⟨_, rfl, ?_⟩
  refine ⟨_, op_ldo rfl rfl rfl rfl, ?_⟩
  refine ⟨_, rfl, ?_⟩
  refine ⟨_, op_sto rfl rfl rfl rfl rfl rfl rfl, ?_⟩
  refine AW.cutM (3) s6 [(2, vL 2 0 (1)), (3, vL 3 0 (2))] [(2, 1, [.slice none 0 0, vI 0]), (3, 2, [vS u6.p u6.l.length, vI g.root])] ⟨rfl, rfl, trivial⟩ ⟨rfl, rfl, trivial⟩ rfl fun ρ0 ff => ?_
  refine ⟨_, op_ldo rfl rfl rfl rfl, ?_⟩
  refine ⟨_, op_sto rfl rfl rfl rfl rfl rfl rfl, ?_⟩
  refine cx_sound _ _ _ _ _ ?_
  exact ⟨.inl rfl, _, rfl, ⟨u6, g.root⟩, rfl, by simp only [TV.x, h6], hF6⟩
theorem ac_laws_eqTree (a b : TV) (st : St) (hA : Rows st 1 fI a.p a.l) (hB : Rows st 1 fI b.p b.l) (hb : szOk a.l.length) : C 61 [.agg #[vS a.p a.l.length, vI a.root], .agg #[vS b.p b.l.length, vI b.root]] st (fun v s => ∃ x, v = .bool x ∧ (x = true ↔ a.x = b.x) ∧ s = st) := by
  refine AC.enterX (i := ⟨[2, 3], [2, 3, 5, 7, 11, 13], [0, 1, 2, 3, 4, 10, 15]⟩) [] Try.func61 rfl rfl (by kernel_rfl) (by kernel_rfl) Try.ntmps61 (Nat.le_of_ble_eq_true rfl) rfl ?_
  iterate 2 refine ⟨_, rfl, ?_⟩
  refine AW.cutM (2) st [(2, vL 2 0 (0)), (3, vL 3 0 (1)), (4, vB false)] [(2, 0, [vS a.p a.l.length, vI a.root]), (3, 1, [vS b.p b.l.length, vI b.root])] ⟨rfl, rfl, rfl, trivial⟩ ⟨rfl, rfl, trivial⟩ rfl fun ρ0 ff => ?_
  refine ⟨_, rfl, ?_⟩
  refine ⟨_, op_ldo rfl rfl rfl rfl, ?_⟩
  refine ⟨_, rfl, ?_⟩
  refine ⟨_, op_ldo rfl rfl rfl rfl, ?_⟩
  refine ⟨_, rfl, (ac_laws_eqIntSR a.p b.p a.l b.l st hA hB hb).mono ?_⟩
  rintro _ st ⟨x9, rfl, h9, rfl⟩
  rcases x9 with _|_
  · replace h9 := fun k => Bool.false_ne_true (h9.2 k)
    refine ⟨_, rfl, ?_⟩
    refine AW.cutM (2) st [(2, vL 2 0 (0)), (3, vL 3 0 (1)), (4, vB false), (10, vB true)] [(2, 0, [vS a.p a.l.length, vI a.root]), (3, 1, [vS b.p b.l.length, vI b.root])] ⟨rfl, rfl, rfl, rfl, trivial⟩ ⟨rfl, rfl, trivial⟩ rfl fun ρ0 ff => ?_
    refine cx_sound _ _ _ _ _ ?_
    exact ⟨.inl rfl, _, rfl, false, rfl, ⟨fun h => absurd h Bool.false_ne_true, fun h => (show False from (absurd (congrArg Tr.leaves h) h9)).elim⟩, rfl⟩
  · replace h9 := h9.1 rfl
    refine ⟨_, rfl, ?_⟩
    refine AW.cutM (2) st [(2, vL 2 0 (0)), (3, vL 3 0 (1)), (4, vB false), (10, vB false)] [(2, 0, [vS a.p a.l.length, vI a.root]), (3, 1, [vS b.p b.l.length, vI b.root])] ⟨rfl, rfl, rfl, rfl, trivial⟩ ⟨rfl, rfl, trivial⟩ rfl fun ρ0 ff => ?_
    refine cx_sound _ _ _ _ _ ?_
    refine ⟨_, rfl, ?_⟩
    refine ⟨_, op_ldo rfl rfl rfl rfl, ?_⟩
    refine ⟨_, rfl, ?_⟩
    refine ⟨_, op_ldo rfl rfl rfl rfl, ?_⟩
    refine ⟨_, rfl, ?_⟩
    rintro (_|_) h15
    · replace h15 : a.root = b.root := bne_eq_false_iff_eq.1 h15
      refine AW.cutM (2) st [(4, vB false), (15, vB false)] [] ⟨rfl, rfl, trivial⟩ trivial rfl fun ρ0 ff => ?_
      refine cx_sound _ _ _ _ _ ?_
      refine cx_sound _ _ _ _ _ ?_
      exact ⟨.inl rfl, _, rfl, true, rfl, ⟨fun _ => by simp only [TV.x, h9, h15], fun _ => rfl⟩, rfl⟩
    · replace h15 : ¬ (a.root = b.root) := bne_iff_ne.1 h15
      refine AW.cutM (2) st [(4, vB false), (15, vB true)] [] ⟨rfl, rfl, trivial⟩ trivial rfl fun ρ0 ff => ?_
      refine cx_sound _ _ _ _ _ ?_
      exact ⟨.inl rfl, _, rfl, false, rfl, ⟨fun h => absurd h Bool.false_ne_true, fun h => (show False from (absurd (congrArg Tr.root h) h15)).elim⟩, rfl⟩
end Go.Proofs.Ytopcpcoklgepnaa.AM
