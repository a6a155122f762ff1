/- Each two lists: the program's VecMax answers as the reference's and shares no memory; lists at most 2^20 long (else the law answers at once). -/
import Derived.Test.YtopakkndacbbpaaPFnExactVecMaxx2
namespace Go.Proofs.Ytopakkndacbbpaa.Pure
open Go.RowKit Go.Proofs.Ytopakkndacbbpaa.PFnExactVecMax Go.Proofs.YtopakkndacbbpaaW.PrintWords Go.Proofs.YtopakkndacbbpaaW.PrintLast Go.Proofs.YtopakkndacbbpaaW.PrintMore
set_option linter.unusedSimpArgs false

def Ev {α : Type} (g : Nat → Option α) (r : α) : Prop := ∃ k0, ∀ k, k0 ≤ k → g k = some r
theorem Ev.of {α : Type} (r : α) : Ev (fun _ => some r) r := ⟨0, fun _ _ => rfl⟩
theorem Ev.const {α : Type} {g : Option α} {r : α} (h : g = some r) : Ev (fun _ => g) r := ⟨0, fun _ _ => h⟩
theorem Ev.bind {α β : Type} {g : Nat → Option α} {h : Nat → α → Option β} {a : α} {r : β} (h1 : Ev g a) (h2 : Ev (fun k => h k a) r) : Ev (fun k => (g k).bind fun x => h k x) r := by
  obtain ⟨k1, h1⟩ := h1
  obtain ⟨k2, h2⟩ := h2
  refine ⟨max k1 k2, fun k hk => ?_⟩
  have e1 := h1 k (by omega)
  have e2 := h2 k (by omega)
  show (g k).bind _ = _
  rw [e1]; exact e2
theorem Ev.pos {α : Type} {c : Prop} [Decidable c] {g h : Nat → Option α} {r : α} (hc : c) (hg : Ev g r) : Ev (fun k => if c then g k else h k) r := by
  simp only [hc, if_true]; exact hg
theorem Ev.neg {α : Type} {c : Prop} [Decidable c] {g h : Nat → Option α} {r : α} (hc : ¬ c) (hg : Ev h r) : Ev (fun k => if c then g k else h k) r := by
  simp only [hc, if_false]; exact hg
theorem Ev.step {α : Type} {L G : Nat → Option α} {r : α} (h : ∀ k, L (k + 1) = G k) (hg : Ev G r) : Ev L r := by
  obtain ⟨k0, hk⟩ := hg
  refine ⟨k0 + 1, fun k hk' => ?_⟩
  obtain ⟨m, rfl⟩ : ∃ m, k = m + 1 := ⟨k - 1, by omega⟩
  rw [h]; exact hk m (by omega)
theorem Ev.get {α : Type} {g : Nat → Option α} {r : α} (h : Ev g r) : ∃ k, g k = some r := by
  obtain ⟨k, h⟩ := h
  exact ⟨k, h k (Nat.le_refl _)⟩
theorem w64 {n : Int} (h0 : -9223372036854775808 ≤ n) (h1 : n < 9223372036854775808) : wrap64 n = n := by
  unfold wrap64; omega
theorem rd_nat (xs : List Int) (i : Nat) (h : i < xs.length) : rd xs (i : Int) = xs[i] := by
  simp [rd, List.getD_eq_getElem?_getD, List.getElem?_eq_getElem h]

theorem toIntS_loop (x0 : List Int) (hx : x0.length ≤ 1048576) : ∀ (d i : Nat) (y : List Int), y.length = x0.length → i + d = x0.length → (∀ j, j < i → y[j]? = x0[j]?) →
    Ev (fun k => laws_toIntS.l0 k x0 y (i : Int)) x0 := by
  intro d
  induction d with
  | zero =>
    intro i y hl hi hj
    have e : y = x0 := by
      apply List.ext_getElem? ; intro j
      by_cases h : j < i
      · exact hj j h
      · rw [List.getElem?_eq_none (by omega), List.getElem?_eq_none (by omega)]
    subst e
    refine Ev.step (fun k => by rw [laws_toIntS.l0]) ?_
    exact Ev.neg (by omega) (Ev.of _)
  | succ d ih =>
    intro i y hl hi hj
    refine Ev.step (fun k => by rw [laws_toIntS.l0]) ?_
    refine Ev.pos (by omega) (Ev.pos (by omega) (Ev.pos (by omega) ?_))
    rw [w64 (by omega) (by omega)]
    refine ih (i + 1) _ (by simpa using hl) (by omega) (fun j hji => ?_)
    rw [Int.toNat_natCast, rd_nat x0 i (by omega)]
    by_cases h : j = i
    · subst h; rw [List.getElem?_set_self (by omega), List.getElem?_eq_getElem (by omega)]
    · rw [List.getElem?_set_ne (Ne.symm h)]; exact hj j (by omega)
theorem toIntS_ev (x0 : List Int) (hx : x0.length ≤ 1048576) : Ev (fun k => laws_toIntS.f k x0) x0 := by
  unfold laws_toIntS.f
  refine Ev.pos (by omega) (Ev.pos (by omega) ?_)
  exact toIntS_loop x0 hx x0.length 0 _ (by simp) (by omega) (fun j h => by omega)

theorem eqIntS_loop (x0 x1 : List Int) (hx : x0.length ≤ 1048576) (hl : x0.length = x1.length) : ∀ (d i : Nat), i + d = x0.length →
    Ev (fun k => laws_eqIntS.l0 k x0 x1 (i : Int)) (decide (x0.drop i = x1.drop i)) := by
  intro d
  induction d with
  | zero =>
    intro i hi
    refine Ev.step (fun k => by rw [laws_eqIntS.l0]) ?_
    rw [List.drop_eq_nil_of_le (by omega), List.drop_eq_nil_of_le (by omega)]
    exact Ev.neg (by omega) (Ev.of _)
  | succ d ih =>
    intro i hi
    refine Ev.step (fun k => by rw [laws_eqIntS.l0]) ?_
    refine Ev.pos (by omega) (Ev.pos (by omega) (Ev.pos (by omega) ?_))
    rw [List.drop_eq_getElem_cons (show i < x0.length by omega), List.drop_eq_getElem_cons (show i < x1.length by omega)]
    rw [rd_nat x0 i (by omega), rd_nat x1 i (by omega), w64 (by omega) (by omega)]
    by_cases h : x0[i]'(by omega) = x1[i]'(by omega)
    · refine Ev.pos h ?_
      have := ih (i + 1) (by omega)
      simp only [List.cons.injEq, h, true_and]
      exact this
    · refine Ev.neg h ?_
      simp only [List.cons.injEq, h, false_and, decide_false]
      exact Ev.of _
theorem eqIntS_ev (x0 x1 : List Int) (hx : x0.length ≤ 1048576) : Ev (fun k => laws_eqIntS.f k x0 x1) (decide (x0 = x1)) := by
  unfold laws_eqIntS.f
  by_cases hl : x0.length = x1.length
  · refine Ev.pos (by omega) ?_
    simpa using eqIntS_loop x0 x1 hx hl x0.length 0 (by omega)
  · refine Ev.neg (by omega) ?_
    have : x0 ≠ x1 := fun h => hl (by rw [h])
    simp only [this, decide_false]
    exact Ev.of _
theorem eqIntS_refl (x0 : List Int) (hx : x0.length ≤ 1048576) : Ev (fun k => laws_eqIntS.f k x0 x0) true := by
  simpa using eqIntS_ev x0 x0 hx

def mks (a : Int) (n : Nat) : List Int := (List.range n).map fun (j : Nat) => a + (j : Int)
theorem mks_length (a : Int) (n : Nat) : (mks a n).length = n := by simp [mks]
theorem mks_get (a : Int) (n i : Nat) (h : i < (mks a n).length) : (mks a n)[i] = a + (i : Int) := by simp [mks]
theorem markIntS_loop (n : Nat) (hn : n ≤ 4194304) (a : Int) (ha : 0 ≤ a) (ha2 : a ≤ 1099511627776) : ∀ (d i : Nat) (y : List Int), y.length = n → i + d = n → (∀ j, j < i → y[j]? = some (a + (j : Int))) →
    Ev (fun k => laws_markIntS.l0 k y (a + (i : Int)) (i : Int)) (a + (n : Int), mks a n) := by
  intro d
  induction d with
  | zero =>
    intro i y hl hi hj
    have e : y = mks a n := by
      apply List.ext_getElem? ; intro j
      by_cases h : j < i
      · rw [hj j h, List.getElem?_eq_getElem (by rw [mks_length]; omega), mks_get]
      · rw [List.getElem?_eq_none (by omega), List.getElem?_eq_none (by rw [mks_length]; omega)]
    subst e
    refine Ev.step (fun k => by rw [laws_markIntS.l0]) ?_
    obtain rfl : i = n := by omega
    exact Ev.neg (by omega) (Ev.of _)
  | succ d ih =>
    intro i y hl hi hj
    refine Ev.step (fun k => by rw [laws_markIntS.l0]) ?_
    refine Ev.pos (by omega) (Ev.pos (by omega) ?_)
    rw [w64 (n := (i : Int) + 1) (by omega) (by omega), w64 (by omega) (by omega), Int.add_assoc]
    refine ih (i + 1) _ (by simpa using hl) (by omega) (fun j hji => ?_)
    rw [Int.toNat_natCast]
    by_cases h : j = i
    · subst h; rw [List.getElem?_set_self (by omega)]
    · rw [List.getElem?_set_ne (Ne.symm h)]; exact hj j (by omega)
theorem markIntS_ev (y : List Int) (a : Int) (hn : y.length ≤ 4194304) (ha : 0 ≤ a) (ha2 : a ≤ 1099511627776) : Ev (fun k => laws_markIntS.f k y a) (a + (y.length : Int), mks a y.length) := by
  unfold laws_markIntS.f
  simpa using markIntS_loop y.length hn a ha ha2 y.length 0 y rfl (by omega) (fun j h => by omega)
theorem heldIntS_loop (n : Nat) (hn : n ≤ 4194304) (a : Int) (ha : 0 ≤ a) (ha2 : a ≤ 1099511627776) : ∀ (d i : Nat), i + d = n →
    Ev (fun k => laws_heldIntS.l0 k (mks a n) (a + (i : Int)) (i : Int)) (a + (n : Int)) := by
  intro d
  induction d with
  | zero =>
    intro i hi
    refine Ev.step (fun k => by rw [laws_heldIntS.l0]) ?_
    obtain rfl : i = n := by omega
    exact Ev.neg (by rw [mks_length]; omega) (Ev.of _)
  | succ d ih =>
    intro i hi
    refine Ev.step (fun k => by rw [laws_heldIntS.l0]) ?_
    refine Ev.pos (by rw [mks_length]; omega) (Ev.pos (by omega) ?_)
    rw [rd_nat _ i (by rw [mks_length]; omega), mks_get]
    refine Ev.pos rfl ?_
    rw [w64 (n := (i : Int) + 1) (by omega) (by omega), w64 (by omega) (by omega), Int.add_assoc]
    exact ih (i + 1) (by omega)
theorem heldIntS_ev (a : Int) (n : Nat) (hn : n ≤ 4194304) (ha : 0 ≤ a) (ha2 : a ≤ 1099511627776) : Ev (fun k => laws_heldIntS.f k (mks a n) a) (a + (n : Int)) := by
  unfold laws_heldIntS.f
  simpa using heldIntS_loop n hn a ha ha2 n 0 (by omega)

theorem within_eq (a b c : Int) : impl_within.f a b c = some (decide (b ≤ a ∧ a ≤ c)) := by
  unfold impl_within.f
  by_cases h : a ≥ b
  · rw [if_pos h]; have h' : b ≤ a := h; simp [h']
  · rw [if_neg h]; have h' : ¬ b ≤ a := h; simp [h']
def atv (v : List Int) (i : Nat) : Int := v.getD i 0
theorem rd_atv (v : List Int) (i : Nat) : rd v (i : Int) = atv v i := by simp [rd, atv]
theorem specAt_eq (v : List Int) (i : Nat) : spec_l8At.f v (i : Int) = some (atv v i) := by
  unfold spec_l8At.f
  by_cases h : (i : Int) < (v.length : Int)
  · rw [if_pos h, if_pos (by omega), rd_atv]
  · rw [if_neg h]; simp [atv, List.getD_eq_getElem?_getD, List.getElem?_eq_none (show v.length ≤ i by omega)]
theorem implAt_eq (v : List Int) (i : Nat) (hx : v.length ≤ 4194304) : impl_at.f v (i : Int) = some (atv v i) := by
  unfold impl_at.f
  rw [w64 (by omega) (by omega), within_eq, Option.bind_some]
  by_cases h : (i : Int) < (v.length : Int)
  · rw [if_pos (by simp; omega), if_pos (by omega), if_pos (by omega), rd_atv]
  · rw [if_neg (by simp; omega)]; simp [atv, List.getD_eq_getElem?_getD, List.getElem?_eq_none (show v.length ≤ i by omega)]

theorem specMax_eq (a b : Int) : spec_l1Max.f a b = some (mx a b) := by
  unfold spec_l1Max.f mx
  by_cases h : a > b
  · rw [if_pos h, if_neg (by omega)]
  · rw [if_neg h]; split
    · rfl
    · congr 1; omega
def maxFrom (a b : List Int) (i : Nat) : Nat → List Int
  | 0 => []
  | d + 1 => mx (atv a i) (atv b i) :: maxFrom a b (i + 1) d
theorem maxFrom_length (a b : List Int) : ∀ (d i : Nat), (maxFrom a b i d).length = d
  | 0, _ => rfl
  | d + 1, i => by rw [maxFrom, List.length_cons, maxFrom_length a b d]
theorem specVecMax_loop (a b : List Int) (ha : a.length ≤ 1048576) (hb : b.length ≤ 1048576) : ∀ (d i : Nat) (acc : List Int), i + d = max a.length b.length → acc.length = i →
    Ev (fun k => spec_VecMax.l0 k a b acc (i : Int)) (acc ++ maxFrom a b i d) := by
  intro d
  induction d with
  | zero =>
    intro i acc hi hl
    refine Ev.step (fun k => by rw [spec_VecMax.l0]) ?_
    refine Ev.neg (by omega) ?_
    refine Ev.step (fun k => by rw [spec_VecMax.j1]) ?_
    refine Ev.neg (by simp; omega) ?_
    rw [maxFrom, List.append_nil]; exact Ev.of _
  | succ d ih =>
    intro i acc hi hl
    refine Ev.step (fun k => by rw [spec_VecMax.l0]) ?_
    have key : Ev (fun k => spec_VecMax.j1 k a b acc (i : Int) true) (acc ++ maxFrom a b i (d + 1)) := by
      refine Ev.step (fun k => by rw [spec_VecMax.j1]) ?_
      refine Ev.pos rfl ?_
      rw [specAt_eq, specAt_eq, maxFrom]
      simp only [Option.bind_some, specMax_eq]
      refine Ev.pos (by omega) ?_
      rw [w64 (by omega) (by omega)]
      have := ih (i + 1) (acc ++ [mx (atv a i) (atv b i)]) (by omega) (by simp [hl])
      rw [List.append_assoc] at this
      exact this
    by_cases h : (i : Int) < (a.length : Int)
    · exact Ev.pos h key
    · refine Ev.neg h ?_
      rw [decide_eq_true (show (i : Int) < (b.length : Int) by omega)]
      exact key
theorem implVecMax_loop (a b : List Int) (ha : a.length ≤ 1048576) (hb : b.length ≤ 1048576) : ∀ (d i : Nat) (acc : List Int), i + d = max a.length b.length → acc.length = i →
    Ev (fun k => impl_VecMax.l0 k a b acc (i : Int)) (acc ++ maxFrom a b i d) := by
  intro d
  induction d with
  | zero =>
    intro i acc hi hl
    refine Ev.step (fun k => by rw [impl_VecMax.l0]) ?_
    refine Ev.neg (by omega) ?_
    refine Ev.step (fun k => by rw [impl_VecMax.j1]) ?_
    refine Ev.neg (by simp; omega) ?_
    rw [maxFrom, List.append_nil]; exact Ev.of _
  | succ d ih =>
    intro i acc hi hl
    refine Ev.step (fun k => by rw [impl_VecMax.l0]) ?_
    have key : Ev (fun k => impl_VecMax.j1 k a b acc (i : Int) true) (acc ++ maxFrom a b i (d + 1)) := by
      refine Ev.step (fun k => by rw [impl_VecMax.j1]) ?_
      refine Ev.pos rfl ?_
      rw [implAt_eq a i (by omega), implAt_eq b i (by omega), maxFrom]
      simp only [Option.bind_some]
      refine Ev.pos (by omega) ?_
      rw [w64 (by omega) (by omega)]
      have := ih (i + 1) (acc ++ [mx (atv a i) (atv b i)]) (by omega) (by simp [hl])
      rw [List.append_assoc] at this
      exact this
    by_cases h : (i : Int) < (a.length : Int)
    · exact Ev.pos h key
    · refine Ev.neg h ?_
      rw [decide_eq_true (show (i : Int) < (b.length : Int) by omega)]
      exact key
def vmax (a b : List Int) : List Int := maxFrom a b 0 (max a.length b.length)
theorem vmax_length (a b : List Int) : (vmax a b).length = max a.length b.length := maxFrom_length a b _ _
theorem specVecMax_ev (a b : List Int) (ha : a.length ≤ 1048576) (hb : b.length ≤ 1048576) : Ev (fun k => spec_VecMax.f k a b) (vmax a b) := by
  unfold spec_VecMax.f vmax
  simpa using specVecMax_loop a b ha hb _ 0 [] (by rw [Nat.zero_add]) rfl
theorem implVecMax_ev (a b : List Int) (ha : a.length ≤ 1048576) (hb : b.length ≤ 1048576) : Ev (fun k => impl_VecMax.f k a b) (vmax a b) := by
  unfold impl_VecMax.f vmax
  simpa using implVecMax_loop a b ha hb _ 0 [] (by rw [Nat.zero_add]) rfl
theorem FnExactVecMax : laws_FnExactVecMax.Pure := by
  intro l0 l1 _ _ _ _ _ _
  apply Ev.get
  unfold laws_FnExactVecMax.f
  by_cases hx : (l0.length : Int) > 1048576
  · exact Ev.pos hx (Ev.of _)
  refine Ev.neg hx ?_
  by_cases hy : (l1.length : Int) > 1048576
  · exact Ev.pos hy (Ev.of _)
  refine Ev.neg hy ?_
  have hl := vmax_length l0 l1
  refine Ev.bind (toIntS_ev l0 (by omega)) ?_
  refine Ev.bind (toIntS_ev l1 (by omega)) ?_
  refine Ev.bind (specVecMax_ev l0 l1 (by omega) (by omega)) ?_
  refine Ev.bind (toIntS_ev l0 (by omega)) ?_
  refine Ev.bind (toIntS_ev l1 (by omega)) ?_
  refine Ev.bind (implVecMax_ev l0 l1 (by omega) (by omega)) ?_
  refine Ev.bind (eqIntS_refl _ (by omega)) ?_
  refine Ev.pos rfl ?_
  refine Ev.bind (toIntS_ev l0 (by omega)) ?_
  refine Ev.bind (eqIntS_refl _ (by omega)) ?_
  refine Ev.pos rfl ?_
  refine Ev.bind (toIntS_ev l1 (by omega)) ?_
  refine Ev.bind (eqIntS_refl _ (by omega)) ?_
  refine Ev.pos rfl ?_
  refine Ev.bind (markIntS_ev l0 1 (by omega) (by omega) (by omega)) ?_
  refine Ev.bind (markIntS_ev l1 (1 + (l0.length : Int)) (by omega) (by omega) (by omega)) ?_
  refine Ev.neg (by simp; omega) ?_
  refine Ev.bind (eqIntS_refl _ (by omega)) ?_
  refine Ev.step (fun k => by rw [laws_FnExactVecMax.j0]) ?_
  refine Ev.neg (by simp) ?_
  refine Ev.bind (markIntS_ev (vmax l0 l1) 1 (by omega) (by omega) (by omega)) ?_
  refine Ev.bind (heldIntS_ev 1 (vmax l0 l1).length (by omega) (by omega) (by omega)) ?_
  refine Ev.neg (by omega) (Ev.pos rfl ?_)
  refine Ev.bind (toIntS_ev l0 (by omega)) ?_
  refine Ev.bind (toIntS_ev l1 (by omega)) ?_
  refine Ev.bind (implVecMax_ev l0 l1 (by omega) (by omega)) ?_
  refine Ev.bind (eqIntS_refl _ (by omega)) ?_
  refine Ev.pos rfl ?_
  refine Ev.bind (heldIntS_ev 1 (vmax l0 l1).length (by omega) (by omega) (by omega)) ?_
  refine Ev.neg (by omega) (Ev.pos rfl (Ev.of _))

end Go.Proofs.Ytopakkndacbbpaa.Pure
