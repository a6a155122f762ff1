/- Each two lists: the program's VecLeq answers as the reference's; lists at most 2^20 long (else the law answers at once). -/
import Derived.Test.YtopakkndacbbpaaPFnExactVecLeqx1
namespace Go.Proofs.Ytopakkndacbbpaa.Pure
open Go.RowKit Go.Proofs.Ytopakkndacbbpaa.PFnExactVecLeq Go.Proofs.YtopakkndacbbpaaW.PrintWords Go.Proofs.YtopakkndacbbpaaW.PrintLast Go.Proofs.YtopakkndacbbpaaW.PrintMore
set_option linter.unusedSimpArgs false

def Ev {α : Type} (g : Nat → Option α) (r : α) : Prop := ∃ k0, ∀ k, k0 ≤ k → g k = some r
theorem Ev.of {α : Type} (r : α) : Ev (fun _ => some r) r := ⟨0, fun _ _ => rfl⟩
theorem Ev.const {α : Type} {g : Option α} {r : α} (h : g = some r) : Ev (fun _ => g) r := ⟨0, fun _ _ => h⟩
theorem Ev.bind {α β : Type} {g : Nat → Option α} {h : Nat → α → Option β} {a : α} {r : β} (h1 : Ev g a) (h2 : Ev (fun k => h k a) r) : Ev (fun k => (g k).bind fun x => h k x) r := by
  obtain ⟨k1, h1⟩ := h1
  obtain ⟨k2, h2⟩ := h2
  refine ⟨max k1 k2, fun k hk => ?_⟩
  have e1 := h1 k (by omega)
  have e2 := h2 k (by omega)
  show (g k).bind _ = _
  rw [e1]; exact e2
theorem Ev.pos {α : Type} {c : Prop} [Decidable c] {g h : Nat → Option α} {r : α} (hc : c) (hg : Ev g r) : Ev (fun k => if c then g k else h k) r := by
  simp only [hc, if_true]; exact hg
theorem Ev.neg {α : Type} {c : Prop} [Decidable c] {g h : Nat → Option α} {r : α} (hc : ¬ c) (hg : Ev h r) : Ev (fun k => if c then g k else h k) r := by
  simp only [hc, if_false]; exact hg
theorem Ev.step {α : Type} {L G : Nat → Option α} {r : α} (h : ∀ k, L (k + 1) = G k) (hg : Ev G r) : Ev L r := by
  obtain ⟨k0, hk⟩ := hg
  refine ⟨k0 + 1, fun k hk' => ?_⟩
  obtain ⟨m, rfl⟩ : ∃ m, k = m + 1 := ⟨k - 1, by omega⟩
  rw [h]; exact hk m (by omega)
theorem Ev.get {α : Type} {g : Nat → Option α} {r : α} (h : Ev g r) : ∃ k, g k = some r := by
  obtain ⟨k, h⟩ := h
  exact ⟨k, h k (Nat.le_refl _)⟩
theorem w64 {n : Int} (h0 : -9223372036854775808 ≤ n) (h1 : n < 9223372036854775808) : wrap64 n = n := by
  unfold wrap64; omega
theorem rd_nat (xs : List Int) (i : Nat) (h : i < xs.length) : rd xs (i : Int) = xs[i] := by
  simp [rd, List.getD_eq_getElem?_getD, List.getElem?_eq_getElem h]

theorem toIntS_loop (x0 : List Int) (hx : x0.length ≤ 1048576) : ∀ (d i : Nat) (y : List Int), y.length = x0.length → i + d = x0.length → (∀ j, j < i → y[j]? = x0[j]?) →
    Ev (fun k => laws_toIntS.l0 k x0 y (i : Int)) x0 := by
  intro d
  induction d with
  | zero =>
    intro i y hl hi hj
    have e : y = x0 := by
      apply List.ext_getElem? ; intro j
      by_cases h : j < i
      · exact hj j h
      · rw [List.getElem?_eq_none (by omega), List.getElem?_eq_none (by omega)]
    subst e
    refine Ev.step (fun k => by rw [laws_toIntS.l0]) ?_
    exact Ev.neg (by omega) (Ev.of _)
  | succ d ih =>
    intro i y hl hi hj
    refine Ev.step (fun k => by rw [laws_toIntS.l0]) ?_
    refine Ev.pos (by omega) (Ev.pos (by omega) (Ev.pos (by omega) ?_))
    rw [w64 (by omega) (by omega)]
    refine ih (i + 1) _ (by simpa using hl) (by omega) (fun j hji => ?_)
    rw [Int.toNat_natCast, rd_nat x0 i (by omega)]
    by_cases h : j = i
    · subst h; rw [List.getElem?_set_self (by omega), List.getElem?_eq_getElem (by omega)]
    · rw [List.getElem?_set_ne (Ne.symm h)]; exact hj j (by omega)
theorem toIntS_ev (x0 : List Int) (hx : x0.length ≤ 1048576) : Ev (fun k => laws_toIntS.f k x0) x0 := by
  unfold laws_toIntS.f
  refine Ev.pos (by omega) (Ev.pos (by omega) ?_)
  exact toIntS_loop x0 hx x0.length 0 _ (by simp) (by omega) (fun j h => by omega)

theorem eqIntS_loop (x0 x1 : List Int) (hx : x0.length ≤ 1048576) (hl : x0.length = x1.length) : ∀ (d i : Nat), i + d = x0.length →
    Ev (fun k => laws_eqIntS.l0 k x0 x1 (i : Int)) (decide (x0.drop i = x1.drop i)) := by
  intro d
  induction d with
  | zero =>
    intro i hi
    refine Ev.step (fun k => by rw [laws_eqIntS.l0]) ?_
    rw [List.drop_eq_nil_of_le (by omega), List.drop_eq_nil_of_le (by omega)]
    exact Ev.neg (by omega) (Ev.of _)
  | succ d ih =>
    intro i hi
    refine Ev.step (fun k => by rw [laws_eqIntS.l0]) ?_
    refine Ev.pos (by omega) (Ev.pos (by omega) (Ev.pos (by omega) ?_))
    rw [List.drop_eq_getElem_cons (show i < x0.length by omega), List.drop_eq_getElem_cons (show i < x1.length by omega)]
    rw [rd_nat x0 i (by omega), rd_nat x1 i (by omega), w64 (by omega) (by omega)]
    by_cases h : x0[i]'(by omega) = x1[i]'(by omega)
    · refine Ev.pos h ?_
      have := ih (i + 1) (by omega)
      simp only [List.cons.injEq, h, true_and]
      exact this
    · refine Ev.neg h ?_
      simp only [List.cons.injEq, h, false_and, decide_false]
      exact Ev.of _
theorem eqIntS_ev (x0 x1 : List Int) (hx : x0.length ≤ 1048576) : Ev (fun k => laws_eqIntS.f k x0 x1) (decide (x0 = x1)) := by
  unfold laws_eqIntS.f
  by_cases hl : x0.length = x1.length
  · refine Ev.pos (by omega) ?_
    simpa using eqIntS_loop x0 x1 hx hl x0.length 0 (by omega)
  · refine Ev.neg (by omega) ?_
    have : x0 ≠ x1 := fun h => hl (by rw [h])
    simp only [this, decide_false]
    exact Ev.of _
theorem eqIntS_refl (x0 : List Int) (hx : x0.length ≤ 1048576) : Ev (fun k => laws_eqIntS.f k x0 x0) true := by
  simpa using eqIntS_ev x0 x0 hx

theorem within_eq (a b c : Int) : impl_within.f a b c = some (decide (b ≤ a ∧ a ≤ c)) := by
  unfold impl_within.f
  by_cases h : a ≥ b
  · rw [if_pos h]; have h' : b ≤ a := h; simp [h']
  · rw [if_neg h]; have h' : ¬ b ≤ a := h; simp [h']
def atv (v : List Int) (i : Nat) : Int := v.getD i 0
theorem rd_atv (v : List Int) (i : Nat) : rd v (i : Int) = atv v i := by simp [rd, atv]
theorem specAt_eq (v : List Int) (i : Nat) : spec_l8At.f v (i : Int) = some (atv v i) := by
  unfold spec_l8At.f
  by_cases h : (i : Int) < (v.length : Int)
  · rw [if_pos h, if_pos (by omega), rd_atv]
  · rw [if_neg h]; simp [atv, List.getD_eq_getElem?_getD, List.getElem?_eq_none (show v.length ≤ i by omega)]
theorem implAt_eq (v : List Int) (i : Nat) (hx : v.length ≤ 4194304) : impl_at.f v (i : Int) = some (atv v i) := by
  unfold impl_at.f
  rw [w64 (by omega) (by omega), within_eq, Option.bind_some]
  by_cases h : (i : Int) < (v.length : Int)
  · rw [if_pos (by simp; omega), if_pos (by omega), if_pos (by omega), rd_atv]
  · rw [if_neg (by simp; omega)]; simp [atv, List.getD_eq_getElem?_getD, List.getElem?_eq_none (show v.length ≤ i by omega)]

def leqFrom (a b : List Int) (i : Nat) : Nat → Bool
  | 0 => true
  | d + 1 => if atv a i > atv b i then false else leqFrom a b (i + 1) d
theorem specLeq_loop (a b : List Int) (hx : a.length ≤ 4194304) : ∀ (d i : Nat), i + d = a.length →
    Ev (fun k => spec_VecLeq.l0 k a b (i : Int)) (leqFrom a b i d) := by
  intro d
  induction d with
  | zero =>
    intro i hi
    refine Ev.step (fun k => by rw [spec_VecLeq.l0]) ?_
    exact Ev.neg (by omega) (Ev.of _)
  | succ d ih =>
    intro i hi
    refine Ev.step (fun k => by rw [spec_VecLeq.l0]) ?_
    refine Ev.pos (by omega) (Ev.pos (by omega) ?_)
    rw [specAt_eq, rd_atv]
    simp only [Option.bind_some]
    rw [leqFrom]
    by_cases h : atv a i > atv b i
    · rw [if_pos h]; exact Ev.pos h (Ev.of _)
    · rw [if_neg h]; refine Ev.neg h ?_
      rw [w64 (by omega) (by omega)]
      exact ih (i + 1) (by omega)
theorem specLeq_ev (a b : List Int) (hx : a.length ≤ 4194304) : Ev (fun k => spec_VecLeq.f k a b) (leqFrom a b 0 a.length) := by
  unfold spec_VecLeq.f
  exact specLeq_loop a b hx a.length 0 (by omega)

theorem implLeq_loop (a b : List Int) (hx : a.length ≤ 4194304) (hb : b.length ≤ 4194304) : ∀ (d i : Nat), i + d = a.length →
    Ev (fun k => impl_VecLeq.l0 k b a (a.length : Int) (i : Int)) (leqFrom a b i d) := by
  intro d
  induction d with
  | zero =>
    intro i hi
    refine Ev.step (fun k => by rw [impl_VecLeq.l0]) ?_
    exact Ev.neg (by omega) (Ev.of _)
  | succ d ih =>
    intro i hi
    refine Ev.step (fun k => by rw [impl_VecLeq.l0]) ?_
    refine Ev.pos (by omega) (Ev.pos (by omega) (Ev.pos (by omega) ?_))
    rw [implAt_eq b i hb, rd_atv]
    simp only [Option.bind_some]
    rw [leqFrom]
    by_cases h : atv a i > atv b i
    · rw [if_pos h]; exact Ev.pos h (Ev.of _)
    · rw [if_neg h]; refine Ev.neg h ?_
      rw [w64 (by omega) (by omega)]
      exact ih (i + 1) (by omega)
theorem implLeq_ev (a b : List Int) (hx : a.length ≤ 4194304) (hb : b.length ≤ 4194304) : Ev (fun k => impl_VecLeq.f k a b) (leqFrom a b 0 a.length) := by
  unfold impl_VecLeq.f
  exact implLeq_loop a b hx hb a.length 0 (by omega)

theorem FnExactVecLeq : laws_FnExactVecLeq.Pure := by
  intro l0 l1 _ _ _ _ _ _
  apply Ev.get
  unfold laws_FnExactVecLeq.f
  by_cases hx : (l0.length : Int) > 1048576
  · exact Ev.pos hx (Ev.of _)
  refine Ev.neg hx ?_
  by_cases hy : (l1.length : Int) > 1048576
  · exact Ev.pos hy (Ev.of _)
  refine Ev.neg hy ?_
  refine Ev.bind (toIntS_ev l0 (by omega)) ?_
  refine Ev.bind (toIntS_ev l1 (by omega)) ?_
  refine Ev.bind (specLeq_ev l0 l1 (by omega)) ?_
  refine Ev.bind (toIntS_ev l0 (by omega)) ?_
  refine Ev.bind (toIntS_ev l1 (by omega)) ?_
  refine Ev.bind (implLeq_ev l0 l1 (by omega) (by omega)) ?_
  refine Ev.neg (by simp) ?_
  refine Ev.bind (toIntS_ev l0 (by omega)) ?_
  refine Ev.bind (eqIntS_refl l0 (by omega)) ?_
  refine Ev.pos rfl ?_
  refine Ev.bind (toIntS_ev l1 (by omega)) ?_
  refine Ev.bind (eqIntS_refl l1 (by omega)) ?_
  exact Ev.pos rfl (Ev.of _)

end Go.Proofs.Ytopakkndacbbpaa.Pure
