/- Each list and two numbers: the program's VecRaise answers as the reference's and shares no memory; the list is at most 2^20 long (else the law answers at once). -/
import Derived.Test.YtopakkndacbbpaaPFnExactVecRaisex2
namespace Go.Proofs.Ytopakkndacbbpaa.Pure
open Go.RowKit Go.Proofs.Ytopakkndacbbpaa.PFnExactVecRaise Go.Proofs.YtopakkndacbbpaaW.PrintWords Go.Proofs.YtopakkndacbbpaaW.PrintLast Go.Proofs.YtopakkndacbbpaaW.PrintMore
set_option linter.unusedSimpArgs false

def Ev {α : Type} (g : Nat → Option α) (r : α) : Prop := ∃ k0, ∀ k, k0 ≤ k → g k = some r
theorem Ev.of {α : Type} (r : α) : Ev (fun _ => some r) r := ⟨0, fun _ _ => rfl⟩
theorem Ev.const {α : Type} {g : Option α} {r : α} (h : g = some r) : Ev (fun _ => g) r := ⟨0, fun _ _ => h⟩
theorem Ev.bind {α β : Type} {g : Nat → Option α} {h : Nat → α → Option β} {a : α} {r : β} (h1 : Ev g a) (h2 : Ev (fun k => h k a) r) : Ev (fun k => (g k).bind fun x => h k x) r := by
  obtain ⟨k1, h1⟩ := h1
  obtain ⟨k2, h2⟩ := h2
  refine ⟨max k1 k2, fun k hk => ?_⟩
  have e1 := h1 k (by omega)
  have e2 := h2 k (by omega)
  show (g k).bind _ = _
  rw [e1]; exact e2
theorem Ev.pos {α : Type} {c : Prop} [Decidable c] {g h : Nat → Option α} {r : α} (hc : c) (hg : Ev g r) : Ev (fun k => if c then g k else h k) r := by
  simp only [hc, if_true]; exact hg
theorem Ev.neg {α : Type} {c : Prop} [Decidable c] {g h : Nat → Option α} {r : α} (hc : ¬ c) (hg : Ev h r) : Ev (fun k => if c then g k else h k) r := by
  simp only [hc, if_false]; exact hg
theorem Ev.step {α : Type} {L G : Nat → Option α} {r : α} (h : ∀ k, L (k + 1) = G k) (hg : Ev G r) : Ev L r := by
  obtain ⟨k0, hk⟩ := hg
  refine ⟨k0 + 1, fun k hk' => ?_⟩
  obtain ⟨m, rfl⟩ : ∃ m, k = m + 1 := ⟨k - 1, by omega⟩
  rw [h]; exact hk m (by omega)
theorem Ev.get {α : Type} {g : Nat → Option α} {r : α} (h : Ev g r) : ∃ k, g k = some r := by
  obtain ⟨k, h⟩ := h
  exact ⟨k, h k (Nat.le_refl _)⟩
theorem w64 {n : Int} (h0 : -9223372036854775808 ≤ n) (h1 : n < 9223372036854775808) : wrap64 n = n := by
  unfold wrap64; omega
theorem rd_nat (xs : List Int) (i : Nat) (h : i < xs.length) : rd xs (i : Int) = xs[i] := by
  simp [rd, List.getD_eq_getElem?_getD, List.getElem?_eq_getElem h]

theorem toIntS_loop (x0 : List Int) (hx : x0.length ≤ 1048576) : ∀ (d i : Nat) (y : List Int), y.length = x0.length → i + d = x0.length → (∀ j, j < i → y[j]? = x0[j]?) →
    Ev (fun k => laws_toIntS.l0 k x0 y (i : Int)) x0 := by
  intro d
  induction d with
  | zero =>
    intro i y hl hi hj
    have e : y = x0 := by
      apply List.ext_getElem? ; intro j
      by_cases h : j < i
      · exact hj j h
      · rw [List.getElem?_eq_none (by omega), List.getElem?_eq_none (by omega)]
    subst e
    refine Ev.step (fun k => by rw [laws_toIntS.l0]) ?_
    exact Ev.neg (by omega) (Ev.of _)
  | succ d ih =>
    intro i y hl hi hj
    refine Ev.step (fun k => by rw [laws_toIntS.l0]) ?_
    refine Ev.pos (by omega) (Ev.pos (by omega) (Ev.pos (by omega) ?_))
    rw [w64 (by omega) (by omega)]
    refine ih (i + 1) _ (by simpa using hl) (by omega) (fun j hji => ?_)
    rw [Int.toNat_natCast, rd_nat x0 i (by omega)]
    by_cases h : j = i
    · subst h; rw [List.getElem?_set_self (by omega), List.getElem?_eq_getElem (by omega)]
    · rw [List.getElem?_set_ne (Ne.symm h)]; exact hj j (by omega)
theorem toIntS_ev (x0 : List Int) (hx : x0.length ≤ 1048576) : Ev (fun k => laws_toIntS.f k x0) x0 := by
  unfold laws_toIntS.f
  refine Ev.pos (by omega) (Ev.pos (by omega) ?_)
  exact toIntS_loop x0 hx x0.length 0 _ (by simp) (by omega) (fun j h => by omega)

theorem eqIntS_loop (x0 x1 : List Int) (hx : x0.length ≤ 1048576) (hl : x0.length = x1.length) : ∀ (d i : Nat), i + d = x0.length →
    Ev (fun k => laws_eqIntS.l0 k x0 x1 (i : Int)) (decide (x0.drop i = x1.drop i)) := by
  intro d
  induction d with
  | zero =>
    intro i hi
    refine Ev.step (fun k => by rw [laws_eqIntS.l0]) ?_
    rw [List.drop_eq_nil_of_le (by omega), List.drop_eq_nil_of_le (by omega)]
    exact Ev.neg (by omega) (Ev.of _)
  | succ d ih =>
    intro i hi
    refine Ev.step (fun k => by rw [laws_eqIntS.l0]) ?_
    refine Ev.pos (by omega) (Ev.pos (by omega) (Ev.pos (by omega) ?_))
    rw [List.drop_eq_getElem_cons (show i < x0.length by omega), List.drop_eq_getElem_cons (show i < x1.length by omega)]
    rw [rd_nat x0 i (by omega), rd_nat x1 i (by omega), w64 (by omega) (by omega)]
    by_cases h : x0[i]'(by omega) = x1[i]'(by omega)
    · refine Ev.pos h ?_
      have := ih (i + 1) (by omega)
      simp only [List.cons.injEq, h, true_and]
      exact this
    · refine Ev.neg h ?_
      simp only [List.cons.injEq, h, false_and, decide_false]
      exact Ev.of _
theorem eqIntS_ev (x0 x1 : List Int) (hx : x0.length ≤ 1048576) : Ev (fun k => laws_eqIntS.f k x0 x1) (decide (x0 = x1)) := by
  unfold laws_eqIntS.f
  by_cases hl : x0.length = x1.length
  · refine Ev.pos (by omega) ?_
    simpa using eqIntS_loop x0 x1 hx hl x0.length 0 (by omega)
  · refine Ev.neg (by omega) ?_
    have : x0 ≠ x1 := fun h => hl (by rw [h])
    simp only [this, decide_false]
    exact Ev.of _
theorem eqIntS_refl (x0 : List Int) (hx : x0.length ≤ 1048576) : Ev (fun k => laws_eqIntS.f k x0 x0) true := by
  simpa using eqIntS_ev x0 x0 hx

def mks (a : Int) (n : Nat) : List Int := (List.range n).map fun (j : Nat) => a + (j : Int)
theorem mks_length (a : Int) (n : Nat) : (mks a n).length = n := by simp [mks]
theorem mks_get (a : Int) (n i : Nat) (h : i < (mks a n).length) : (mks a n)[i] = a + (i : Int) := by simp [mks]
theorem markIntS_loop (n : Nat) (hn : n ≤ 4194304) (a : Int) (ha : 0 ≤ a) (ha2 : a ≤ 1099511627776) : ∀ (d i : Nat) (y : List Int), y.length = n → i + d = n → (∀ j, j < i → y[j]? = some (a + (j : Int))) →
    Ev (fun k => laws_markIntS.l0 k y (a + (i : Int)) (i : Int)) (a + (n : Int), mks a n) := by
  intro d
  induction d with
  | zero =>
    intro i y hl hi hj
    have e : y = mks a n := by
      apply List.ext_getElem? ; intro j
      by_cases h : j < i
      · rw [hj j h, List.getElem?_eq_getElem (by rw [mks_length]; omega), mks_get]
      · rw [List.getElem?_eq_none (by omega), List.getElem?_eq_none (by rw [mks_length]; omega)]
    subst e
    refine Ev.step (fun k => by rw [laws_markIntS.l0]) ?_
    obtain rfl : i = n := by omega
    exact Ev.neg (by omega) (Ev.of _)
  | succ d ih =>
    intro i y hl hi hj
    refine Ev.step (fun k => by rw [laws_markIntS.l0]) ?_
    refine Ev.pos (by omega) (Ev.pos (by omega) ?_)
    rw [w64 (n := (i : Int) + 1) (by omega) (by omega), w64 (by omega) (by omega), Int.add_assoc]
    refine ih (i + 1) _ (by simpa using hl) (by omega) (fun j hji => ?_)
    rw [Int.toNat_natCast]
    by_cases h : j = i
    · subst h; rw [List.getElem?_set_self (by omega)]
    · rw [List.getElem?_set_ne (Ne.symm h)]; exact hj j (by omega)
theorem markIntS_ev (y : List Int) (a : Int) (hn : y.length ≤ 4194304) (ha : 0 ≤ a) (ha2 : a ≤ 1099511627776) : Ev (fun k => laws_markIntS.f k y a) (a + (y.length : Int), mks a y.length) := by
  unfold laws_markIntS.f
  simpa using markIntS_loop y.length hn a ha ha2 y.length 0 y rfl (by omega) (fun j h => by omega)
theorem heldIntS_loop (n : Nat) (hn : n ≤ 4194304) (a : Int) (ha : 0 ≤ a) (ha2 : a ≤ 1099511627776) : ∀ (d i : Nat), i + d = n →
    Ev (fun k => laws_heldIntS.l0 k (mks a n) (a + (i : Int)) (i : Int)) (a + (n : Int)) := by
  intro d
  induction d with
  | zero =>
    intro i hi
    refine Ev.step (fun k => by rw [laws_heldIntS.l0]) ?_
    obtain rfl : i = n := by omega
    exact Ev.neg (by rw [mks_length]; omega) (Ev.of _)
  | succ d ih =>
    intro i hi
    refine Ev.step (fun k => by rw [laws_heldIntS.l0]) ?_
    refine Ev.pos (by rw [mks_length]; omega) (Ev.pos (by omega) ?_)
    rw [rd_nat _ i (by rw [mks_length]; omega), mks_get]
    refine Ev.pos rfl ?_
    rw [w64 (n := (i : Int) + 1) (by omega) (by omega), w64 (by omega) (by omega), Int.add_assoc]
    exact ih (i + 1) (by omega)
theorem heldIntS_ev (a : Int) (n : Nat) (hn : n ≤ 4194304) (ha : 0 ≤ a) (ha2 : a ≤ 1099511627776) : Ev (fun k => laws_heldIntS.f k (mks a n) a) (a + (n : Int)) := by
  unfold laws_heldIntS.f
  simpa using heldIntS_loop n hn a ha ha2 n 0 (by omega)

theorem specIn_eq (a b c : Int) : spec_l1In.f a b c = some (decide (b ≤ a ∧ a ≤ c)) := by
  unfold spec_l1In.f
  by_cases h : a ≥ b
  · rw [if_pos h]; have h' : b ≤ a := h; simp [h']
  · rw [if_neg h]; have h' : ¬ b ≤ a := h; simp [h']
theorem within_eq (a b c : Int) : impl_within.f a b c = some (decide (b ≤ a ∧ a ≤ c)) := by
  unfold impl_within.f
  by_cases h : a ≥ b
  · rw [if_pos h]; have h' : b ≤ a := h; simp [h']
  · rw [if_neg h]; have h' : ¬ b ≤ a := h; simp [h']
def raised (v : List Int) (p n : Int) : List Int := if 0 ≤ p ∧ p ≤ (v.length : Int) - 1 then v.set p.toNat (mx (rd v p) n) else v
theorem raised_length (v : List Int) (p n : Int) : (raised v p n).length = v.length := by unfold raised; split <;> simp
theorem set_rd (v : List Int) (p : Int) (h0 : 0 ≤ p) (h1 : p < (v.length : Int)) : v.set p.toNat (rd v p) = v := by
  apply List.ext_getElem?; intro j
  by_cases h : j = p.toNat
  · subst h; rw [List.getElem?_set_self (by omega)]; simp [rd, List.getD_eq_getElem?_getD, List.getElem?_eq_getElem (show p.toNat < v.length by omega)]
  · rw [List.getElem?_set_ne (Ne.symm h)]
theorem specRaise_eq (v : List Int) (p n : Int) (hx : v.length ≤ 1048576) : spec_VecRaise.f v p n = some (raised v p n) := by
  unfold spec_VecRaise.f raised
  simp only [Option.bind_some, List.nil_append, List.length_nil]
  rw [if_pos (by omega), w64 (by omega) (by omega), specIn_eq]
  simp only [Option.bind_some]
  by_cases h : 0 ≤ p ∧ p ≤ (v.length : Int) - 1
  · rw [if_pos h, if_pos (by simpa using h), if_pos h.1, if_pos (by omega)]
    by_cases g : n > rd v p
    · rw [if_pos g, if_pos (by omega)]; unfold mx; rw [if_pos g]
    · rw [if_neg g]; unfold mx; rw [if_neg g, set_rd v p h.1 (by omega)]
  · rw [if_neg h, if_neg (by simpa using h)]
theorem implRaise_eq (v : List Int) (p n : Int) (hx : v.length ≤ 1048576) : impl_VecRaise.f v p n = some (raised v p n) := by
  unfold impl_VecRaise.f raised impl_copyInts.f
  simp only [Option.bind_some, List.nil_append, List.length_nil]
  rw [if_pos (by omega), w64 (by omega) (by omega), within_eq]
  simp only [Option.bind_some]
  by_cases h : 0 ≤ p ∧ p ≤ (v.length : Int) - 1
  · rw [if_pos h, if_pos (by simpa using h), if_pos h.1, if_pos (by omega), if_pos (by omega)]
  · rw [if_neg h, if_neg (by simpa using h)]
theorem FnExactVecRaise : laws_FnExactVecRaise.Pure := by
  intro l0 a1 a2 _ _ _ _ _
  apply Ev.get
  unfold laws_FnExactVecRaise.f
  by_cases hx : (l0.length : Int) > 1048576
  · exact Ev.pos hx (Ev.of _)
  refine Ev.neg hx ?_
  have hl := raised_length l0 a1 a2
  refine Ev.bind (toIntS_ev l0 (by omega)) ?_
  refine Ev.bind (Ev.const (specRaise_eq l0 a1 a2 (by omega))) ?_
  refine Ev.bind (toIntS_ev l0 (by omega)) ?_
  refine Ev.bind (Ev.const (implRaise_eq l0 a1 a2 (by omega))) ?_
  refine Ev.bind (eqIntS_refl _ (by omega)) ?_
  refine Ev.pos rfl ?_
  refine Ev.bind (toIntS_ev l0 (by omega)) ?_
  refine Ev.bind (eqIntS_refl _ (by omega)) ?_
  refine Ev.pos rfl ?_
  refine Ev.bind (markIntS_ev l0 1 (by omega) (by omega) (by omega)) ?_
  refine Ev.neg (by simp; omega) ?_
  refine Ev.bind (eqIntS_refl _ (by omega)) ?_
  refine Ev.step (fun k => by rw [laws_FnExactVecRaise.j0]) ?_
  refine Ev.neg (by simp) ?_
  refine Ev.bind (markIntS_ev (raised l0 a1 a2) 1 (by omega) (by omega) (by omega)) ?_
  refine Ev.bind (heldIntS_ev 1 (raised l0 a1 a2).length (by omega) (by omega) (by omega)) ?_
  refine Ev.neg (by omega) (Ev.pos rfl ?_)
  refine Ev.bind (toIntS_ev l0 (by omega)) ?_
  refine Ev.bind (Ev.const (implRaise_eq l0 a1 a2 (by omega))) ?_
  refine Ev.bind (eqIntS_refl _ (by omega)) ?_
  refine Ev.pos rfl ?_
  refine Ev.bind (heldIntS_ev 1 (raised l0 a1 a2).length (by omega) (by omega) (by omega)) ?_
  refine Ev.neg (by omega) (Ev.pos rfl (Ev.of _))

end Go.Proofs.Ytopakkndacbbpaa.Pure
