/- Each list and number: the program's VecOk answers as the reference's; the list is at most 2^20 long (else the law answers at once). -/
import Derived.Test.YtopakkndacbbpaaPFnExactVecOkx1
namespace Go.Proofs.Ytopakkndacbbpaa.Pure
open Go.RowKit Go.Proofs.Ytopakkndacbbpaa.PFnExactVecOk Go.Proofs.YtopakkndacbbpaaW.PrintWords Go.Proofs.YtopakkndacbbpaaW.PrintLast Go.Proofs.YtopakkndacbbpaaW.PrintMore
set_option linter.unusedSimpArgs false

def Ev {α : Type} (g : Nat → Option α) (r : α) : Prop := ∃ k0, ∀ k, k0 ≤ k → g k = some r
theorem Ev.of {α : Type} (r : α) : Ev (fun _ => some r) r := ⟨0, fun _ _ => rfl⟩
theorem Ev.const {α : Type} {g : Option α} {r : α} (h : g = some r) : Ev (fun _ => g) r := ⟨0, fun _ _ => h⟩
theorem Ev.bind {α β : Type} {g : Nat → Option α} {h : Nat → α → Option β} {a : α} {r : β} (h1 : Ev g a) (h2 : Ev (fun k => h k a) r) : Ev (fun k => (g k).bind fun x => h k x) r := by
  obtain ⟨k1, h1⟩ := h1
  obtain ⟨k2, h2⟩ := h2
  refine ⟨max k1 k2, fun k hk => ?_⟩
  have e1 := h1 k (by omega)
  have e2 := h2 k (by omega)
  show (g k).bind _ = _
  rw [e1]; exact e2
theorem Ev.pos {α : Type} {c : Prop} [Decidable c] {g h : Nat → Option α} {r : α} (hc : c) (hg : Ev g r) : Ev (fun k => if c then g k else h k) r := by
  simp only [hc, if_true]; exact hg
theorem Ev.neg {α : Type} {c : Prop} [Decidable c] {g h : Nat → Option α} {r : α} (hc : ¬ c) (hg : Ev h r) : Ev (fun k => if c then g k else h k) r := by
  simp only [hc, if_false]; exact hg
theorem Ev.step {α : Type} {L G : Nat → Option α} {r : α} (h : ∀ k, L (k + 1) = G k) (hg : Ev G r) : Ev L r := by
  obtain ⟨k0, hk⟩ := hg
  refine ⟨k0 + 1, fun k hk' => ?_⟩
  obtain ⟨m, rfl⟩ : ∃ m, k = m + 1 := ⟨k - 1, by omega⟩
  rw [h]; exact hk m (by omega)
theorem Ev.get {α : Type} {g : Nat → Option α} {r : α} (h : Ev g r) : ∃ k, g k = some r := by
  obtain ⟨k, h⟩ := h
  exact ⟨k, h k (Nat.le_refl _)⟩
theorem w64 {n : Int} (h0 : -9223372036854775808 ≤ n) (h1 : n < 9223372036854775808) : wrap64 n = n := by
  unfold wrap64; omega
theorem rd_nat (xs : List Int) (i : Nat) (h : i < xs.length) : rd xs (i : Int) = xs[i] := by
  simp [rd, List.getD_eq_getElem?_getD, List.getElem?_eq_getElem h]

theorem toIntS_loop (x0 : List Int) (hx : x0.length ≤ 1048576) : ∀ (d i : Nat) (y : List Int), y.length = x0.length → i + d = x0.length → (∀ j, j < i → y[j]? = x0[j]?) →
    Ev (fun k => laws_toIntS.l0 k x0 y (i : Int)) x0 := by
  intro d
  induction d with
  | zero =>
    intro i y hl hi hj
    have e : y = x0 := by
      apply List.ext_getElem? ; intro j
      by_cases h : j < i
      · exact hj j h
      · rw [List.getElem?_eq_none (by omega), List.getElem?_eq_none (by omega)]
    subst e
    refine Ev.step (fun k => by rw [laws_toIntS.l0]) ?_
    exact Ev.neg (by omega) (Ev.of _)
  | succ d ih =>
    intro i y hl hi hj
    refine Ev.step (fun k => by rw [laws_toIntS.l0]) ?_
    refine Ev.pos (by omega) (Ev.pos (by omega) (Ev.pos (by omega) ?_))
    rw [w64 (by omega) (by omega)]
    refine ih (i + 1) _ (by simpa using hl) (by omega) (fun j hji => ?_)
    rw [Int.toNat_natCast, rd_nat x0 i (by omega)]
    by_cases h : j = i
    · subst h; rw [List.getElem?_set_self (by omega), List.getElem?_eq_getElem (by omega)]
    · rw [List.getElem?_set_ne (Ne.symm h)]; exact hj j (by omega)
theorem toIntS_ev (x0 : List Int) (hx : x0.length ≤ 1048576) : Ev (fun k => laws_toIntS.f k x0) x0 := by
  unfold laws_toIntS.f
  refine Ev.pos (by omega) (Ev.pos (by omega) ?_)
  exact toIntS_loop x0 hx x0.length 0 _ (by simp) (by omega) (fun j h => by omega)

theorem eqIntS_loop (x0 x1 : List Int) (hx : x0.length ≤ 1048576) (hl : x0.length = x1.length) : ∀ (d i : Nat), i + d = x0.length →
    Ev (fun k => laws_eqIntS.l0 k x0 x1 (i : Int)) (decide (x0.drop i = x1.drop i)) := by
  intro d
  induction d with
  | zero =>
    intro i hi
    refine Ev.step (fun k => by rw [laws_eqIntS.l0]) ?_
    rw [List.drop_eq_nil_of_le (by omega), List.drop_eq_nil_of_le (by omega)]
    exact Ev.neg (by omega) (Ev.of _)
  | succ d ih =>
    intro i hi
    refine Ev.step (fun k => by rw [laws_eqIntS.l0]) ?_
    refine Ev.pos (by omega) (Ev.pos (by omega) (Ev.pos (by omega) ?_))
    rw [List.drop_eq_getElem_cons (show i < x0.length by omega), List.drop_eq_getElem_cons (show i < x1.length by omega)]
    rw [rd_nat x0 i (by omega), rd_nat x1 i (by omega), w64 (by omega) (by omega)]
    by_cases h : x0[i]'(by omega) = x1[i]'(by omega)
    · refine Ev.pos h ?_
      have := ih (i + 1) (by omega)
      simp only [List.cons.injEq, h, true_and]
      exact this
    · refine Ev.neg h ?_
      simp only [List.cons.injEq, h, false_and, decide_false]
      exact Ev.of _
theorem eqIntS_ev (x0 x1 : List Int) (hx : x0.length ≤ 1048576) : Ev (fun k => laws_eqIntS.f k x0 x1) (decide (x0 = x1)) := by
  unfold laws_eqIntS.f
  by_cases hl : x0.length = x1.length
  · refine Ev.pos (by omega) ?_
    simpa using eqIntS_loop x0 x1 hx hl x0.length 0 (by omega)
  · refine Ev.neg (by omega) ?_
    have : x0 ≠ x1 := fun h => hl (by rw [h])
    simp only [this, decide_false]
    exact Ev.of _
theorem eqIntS_refl (x0 : List Int) (hx : x0.length ≤ 1048576) : Ev (fun k => laws_eqIntS.f k x0 x0) true := by
  simpa using eqIntS_ev x0 x0 hx

theorem specIn_eq (a b c : Int) : spec_l1In.f a b c = some (decide (b ≤ a ∧ a ≤ c)) := by
  unfold spec_l1In.f
  by_cases h : a ≥ b
  · rw [if_pos h]; have h' : b ≤ a := h; simp [h']
  · rw [if_neg h]; have h' : ¬ b ≤ a := h; simp [h']
theorem within_eq (a b c : Int) : impl_within.f a b c = some (decide (b ≤ a ∧ a ≤ c)) := by
  unfold impl_within.f
  by_cases h : a ≥ b
  · rw [if_pos h]; have h' : b ≤ a := h; simp [h']
  · rw [if_neg h]; have h' : ¬ b ≤ a := h; simp [h']
def vecAll (v : List Int) : Bool := v.all fun x => decide (0 ≤ x ∧ x ≤ 100000)
theorem vecAll_drop (v : List Int) (i : Nat) (h : i < v.length) : vecAll (v.drop i) = (decide (0 ≤ v[i] ∧ v[i] ≤ 100000) && vecAll (v.drop (i + 1))) := by
  unfold vecAll; rw [List.drop_eq_getElem_cons h, List.all_cons]
theorem specVecOk_loop (v : List Int) (hx : v.length ≤ 1048576) : ∀ (d i : Nat), i + d = v.length →
    Ev (fun k => spec_VecOk.l0 k v (v.length : Int) (i : Int)) (vecAll (v.drop i)) := by
  intro d
  induction d with
  | zero =>
    intro i hi
    refine Ev.step (fun k => by rw [spec_VecOk.l0]) ?_
    rw [List.drop_eq_nil_of_le (by omega)]
    exact Ev.neg (by omega) (Ev.of _)
  | succ d ih =>
    intro i hi
    refine Ev.step (fun k => by rw [spec_VecOk.l0]) ?_
    refine Ev.pos (by omega) (Ev.pos (by omega) (Ev.pos (by omega) ?_))
    rw [rd_nat v i (by omega), specIn_eq, vecAll_drop v i (by omega)]
    simp only [Option.bind_some]
    by_cases h : 0 ≤ v[i] ∧ v[i] ≤ 100000
    · refine Ev.pos (by simp [h]) ?_
      rw [w64 (by omega) (by omega)]
      have := ih (i + 1) (by omega)
      simpa [h] using this
    · refine Ev.neg (by simpa using h) ?_
      rw [decide_eq_false h, Bool.false_and]
      exact Ev.of _
def vecOkB (v : List Int) (n : Int) : Bool := decide (1 ≤ n ∧ n ≤ 5) && ((v.length : Int) == n) && vecAll v
theorem specVecOk_ev (v : List Int) (n : Int) (hx : v.length ≤ 1048576) : Ev (fun k => spec_VecOk.f k v n) (vecOkB v n) := by
  unfold spec_VecOk.f vecOkB
  rw [specIn_eq]
  simp only [Option.bind_some]
  by_cases h : 1 ≤ n ∧ n ≤ 5
  · refine Ev.pos (by simp [h]) ?_
    refine Ev.step (fun k => by rw [spec_VecOk.j0]) ?_
    by_cases e : (v.length : Int) = n
    · refine Ev.neg (by simp [e]) ?_
      subst e
      simpa [h] using specVecOk_loop v hx v.length 0 (by omega)
    · refine Ev.pos (by simpa using e) ?_
      have e2 : ((v.length : Int) == n) = false := by simpa using e
      rw [e2, Bool.and_false, Bool.false_and]; exact Ev.of _
  · refine Ev.neg (by simpa using h) ?_
    refine Ev.step (fun k => by rw [spec_VecOk.j0]) ?_
    refine Ev.pos rfl ?_
    rw [decide_eq_false h, Bool.false_and, Bool.false_and]
    exact Ev.of _
theorem implVecOk_loop (v : List Int) (n : Int) (hx : v.length ≤ 1048576) : ∀ (d i : Nat), i + d = v.length →
    Ev (fun k => impl_VecOk.l0 k v n v (v.length : Int) (i : Int)) (vecAll (v.drop i) && (decide (1 ≤ n ∧ n ≤ 5) && ((v.length : Int) == n))) := by
  intro d
  induction d with
  | zero =>
    intro i hi
    refine Ev.step (fun k => by rw [impl_VecOk.l0]) ?_
    rw [List.drop_eq_nil_of_le (by omega)]
    refine Ev.neg (by omega) ?_
    rw [within_eq]
    simp only [Option.bind_some]
    by_cases h : 1 ≤ n ∧ n ≤ 5
    · refine Ev.pos (by simp [h]) ?_
      simpa [h, vecAll] using Ev.of _
    · refine Ev.neg (by simpa using h) ?_
      rw [decide_eq_false h]
      simpa using Ev.of false
  | succ d ih =>
    intro i hi
    refine Ev.step (fun k => by rw [impl_VecOk.l0]) ?_
    refine Ev.pos (by omega) (Ev.pos (by omega) (Ev.pos (by omega) ?_))
    rw [rd_nat v i (by omega), within_eq, vecAll_drop v i (by omega)]
    simp only [Option.bind_some]
    by_cases h : 0 ≤ v[i] ∧ v[i] ≤ 100000
    · refine Ev.pos (by simp [h]) ?_
      rw [w64 (by omega) (by omega)]
      have := ih (i + 1) (by omega)
      simpa [h] using this
    · refine Ev.neg (by simpa using h) ?_
      rw [decide_eq_false h, Bool.false_and, Bool.false_and]
      exact Ev.of _
theorem implVecOk_ev (v : List Int) (n : Int) (hx : v.length ≤ 1048576) : Ev (fun k => impl_VecOk.f k v n) (vecOkB v n) := by
  unfold impl_VecOk.f vecOkB
  have := implVecOk_loop v n hx v.length 0 (by omega)
  rw [List.drop_zero, Bool.and_comm] at this
  exact this
theorem FnExactVecOk : laws_FnExactVecOk.Pure := by
  intro l0 a1 _ _ _ _
  apply Ev.get
  unfold laws_FnExactVecOk.f
  by_cases hx : (l0.length : Int) > 1048576
  · exact Ev.pos hx (Ev.of _)
  · have hx' : l0.length ≤ 1048576 := by omega
    refine Ev.neg hx ?_
    refine Ev.bind (toIntS_ev l0 hx') ?_
    refine Ev.bind (specVecOk_ev l0 a1 hx') ?_
    refine Ev.bind (toIntS_ev l0 hx') ?_
    refine Ev.bind (implVecOk_ev l0 a1 hx') ?_
    refine Ev.neg (by simp) ?_
    refine Ev.bind (toIntS_ev l0 hx') ?_
    refine Ev.bind (eqIntS_refl l0 hx') ?_
    exact Ev.pos rfl (Ev.of _)

end Go.Proofs.Ytopakkndacbbpaa.Pure
