/- A part of the machine on which the law's proof rests. -/
import Derived.Test.YtbogbnjnjjhnbaaXnA13
import Derived.ChangeArms
import Derived.ChangeShapes
import Derived.WideShapes
import Derived.ChangeSlices
import Derived.DataElems
namespace Go.Proofs.Ytbogbnjnjjhnbaa.AM
open Go Go.RowKit
set_option linter.unusedVariables false
set_option linter.unusedSimpArgs false
abbrev LL := List (Nat × Nat × List Value)
def WT (P : Program) (G : Nat) : Nat → TypeId → LL → List Value → Prop
  | 0, _, _, _ => False
  | k + 1, t, L, us => match P.underlying t with
    | some .bool => ∃ b, us = [.bool b]
    | some (.int i) => ∃ n, us = [.int i n] ∧ (Lit.int i n).wf = true
    | some .string => ∃ s : ByteArray, us = [.string s] ∧ s.size ≤ maxLen
    | some (.slice e) => us = [.slice none 0 0] ∨ ∃ i n b o cells, us = [.slice (some ⟨G + i, 0, none⟩) n n] ∧ L[i]? = some (b, o, cells) ∧ n ≤ maxLen ∧ cells.length = n * P.cellsOf e ∧ ∀ j < n, WT P G k e L ((cells.drop (j * P.cellsOf e)).take (P.cellsOf e))
    | some (.struct fs) => us.length = P.cellsOf t ∧ ∀ (i : Nat) (f : Field), fs[i]? = some f → WT P G k f.type L ((us.drop f.offset).take (P.cellsOf f.type))
    | _ => False
theorem get_app {α : Type} {L M : List α} {i : Nat} {x : α} (h : L[i]? = some x) : (L ++ M)[i]? = some x := by
  rw [List.getElem?_append_left (List.getElem?_eq_some_iff.1 h).1]; exact h
theorem WT.mono {P : Program} {G : Nat} {L M : LL} : ∀ {k : Nat} {t : TypeId} {us : List Value}, WT P G k t L us → WT P G k t (L ++ M) us := by
  intro k
  induction k with
  | zero => intro t us h; exact h
  | succ k ih =>
    intro t us h
    unfold WT at h ⊢
    split at h
    · exact h
    · exact h
    · exact h
    · rcases h with h | ⟨i, n, b, o, cells, h1, h2, h3, h4, h5⟩
      · exact .inl h
      · exact .inr ⟨i, n, b, o, cells, h1, get_app h2, h3, h4, fun j hj => ih (h5 j hj)⟩
    · exact ⟨h.1, fun i f hf => ih (h.2 i f hf)⟩
    · exact h
theorem extL {G : Nat} {L M : LL} : Ext (ιL G L) (ιL G (L ++ M)) := by
  refine ⟨?_, Nat.le_refl _, fun a ha => ?_, fun _ _ => rfl, fun _ _ _ => rfl⟩
  · show G + L.length ≤ G + (L ++ M).length
    rw [List.length_append]; omega
  · have ha : a < G + L.length := ha
    simp only [ιL]
    by_cases hG : a < G
    · rw [if_pos hG, if_pos hG]
    · rw [if_neg hG, if_neg hG, List.getElem?_append_left (by omega)]
def Good (G : Nat) (w : World) (L : LL) : Prop := ∀ x ∈ L, x.1 < w.heap.size ∧ ∀ (j : Nat) (u : Value), x.2.2[j]? = some u → ∃ y : Value, w.cell? ⟨x.1, x.2.1 + j, none⟩ = some y ∧ VR0 (ιL G L) u y
def Sim (G : Nat) (L : LL) (us cs : List Value) : Prop := us.length = cs.length ∧ ∀ (i : Nat) (u : Value), us[i]? = some u → ∃ y : Value, cs[i]? = some y ∧ VR0 (ιL G L) u y
theorem Sim.mono {G : Nat} {L M : LL} {us cs : List Value} (h : Sim G L us cs) : Sim G (L ++ M) us cs := ⟨h.1, fun i u hu => by obtain ⟨y, h1, h2⟩ := h.2 i u hu; exact ⟨y, h1, VR0_mono extL h2⟩⟩
theorem Good.nil {G : Nat} {w : World} : Good G w [] := fun x hx => by cases hx
section
variable {H : Type} {enc : TypeId × Value → H} {P : Program} {w : World} {G : Nat}
end
theorem pick_list {α : Type} {Q : Nat → α → Prop} : ∀ (n : Nat), (∀ j < n, ∃ x, Q j x) → ∃ l : List α, l.length = n ∧ ∀ (j : Nat) x, l[j]? = some x → Q j x
  | 0, _ => ⟨[], rfl, fun j x h => by simp at h⟩
  | n + 1, h => by
    obtain ⟨l, h1, h2⟩ := pick_list n fun j hj => h j (by omega)
    obtain ⟨x, hx⟩ := h n (by omega)
    refine ⟨l ++ [x], by simp [h1], fun j y hy => ?_⟩
    by_cases hj : j < l.length
    · rw [List.getElem?_append_left hj] at hy; exact h2 j y hy
    · rw [List.getElem?_append_right (by omega)] at hy
      have : j = n := by have := (List.getElem?_eq_some_iff.1 hy).1; simp at this; omega
      subst this
      simp [h1] at hy
      rw [← hy]; exact hx
theorem WT.rows {P : Program} {G k : Nat} {t e : TypeId} {L : LL} {us : List Value} {α : Type} {f : α → List Value} {Q : α → Prop} {z : Nat} (ht : P.underlying t = some (.slice e)) (hz : P.cellsOf e = z) (hf : ∀ us, WT P G k e L us → ∃ x, us = f x ∧ Q x) (h : WT P G (k + 1) t L us) :
    ∃ p l, us = [vS p l.length] ∧ Rows (stL G L) z f p l ∧ l.length ≤ maxLen ∧ ∀ x ∈ l, Q x := by
  unfold WT at h
  rw [ht] at h
  rcases h with rfl | ⟨i, n, b, o, cells, rfl, h2, h3, h4, h5⟩
  · exact ⟨none, [], rfl, .inl rfl, Nat.zero_le _, fun x hx => by cases hx⟩
  · obtain ⟨l, hl, hq⟩ := pick_list (Q := fun j x => (cells.drop (j * P.cellsOf e)).take (P.cellsOf e) = f x ∧ Q x) n fun j hj => hf _ (h5 j hj)
    refine ⟨_, l, by rw [hl], .inr ⟨G + i, 0, ⟨false, 0, cells⟩, rfl, ?_, ?_, fun j x hx => ?_⟩, by omega, fun x hx => ?_⟩
    · simp only [stL]
      rw [if_neg (by omega), show G + i - G = i by omega, h2]
      rfl
    · show G + i < G + L.length
      have := (List.getElem?_eq_some_iff.1 h2).1
      omega
    · rw [Nat.zero_add, ← hz]; exact (hq j x hx).1
    · obtain ⟨j, hj⟩ := List.getElem?_of_mem hx
      exact (hq j x hj).2
theorem WT.int {P : Program} {G k : Nat} {t : TypeId} {i : IntKind} {L : LL} {us : List Value} (ht : P.underlying t = some (.int i)) (h : WT P G (k + 1) t L us) : ∃ n, us = [.int i n] ∧ (Lit.int i n).wf = true := by
  unfold WT at h
  rw [ht] at h
  exact h
def AR (ι : Inj) : List Value → List Value → Prop
  | [], [] => True
  | a :: as, c :: cs => VR ι a c ∧ AR ι as cs
  | _, _ => False
theorem AR.get {ι : Inj} : ∀ {as cs : List Value}, AR ι as cs → as.length = cs.length ∧ ∀ (i : Nat) (x : Value), as[i]? = some x → ∃ y : Value, cs[i]? = some y ∧ VR ι x y
  | [], [], _ => ⟨rfl, fun i x h => by simp at h⟩
  | [], c :: cs, h => h.elim
  | a :: as, [], h => h.elim
  | a :: as, c :: cs, h => by
    obtain ⟨h1, h2⟩ := AR.get h.2
    refine ⟨by simp [h1], fun i x hx => ?_⟩
    cases i with
    | zero => simp at hx; exact ⟨c, rfl, hx ▸ h.1⟩
    | succ i => obtain ⟨y, h3, h4⟩ := h2 i x (by simpa using hx); exact ⟨y, by simpa using h3, h4⟩
theorem law_run {P : Program} {LT : FuncId → FInfo} {ext : String → List Value → St → Option (Value × St)} (hext : ExtOK P ext) {f : FuncId} {L : LL} {args cs : List Value} {w : World} (hG : Good P.globals.size w L)
    (h : AC P LT ext f args (stL P.globals.size L) (fun v s => v = .bool true)) (hA : AR (ιL P.globals.size L) args cs) {fn : Func} {c : Code} (hf : P.funcs[f]? = some fn) (hb : fn.body = some c) : Calls P f cs.toArray w (fun e w' => e = .returned (.bool true) ∧ Below w.heap.size w w') := by
  obtain ⟨h1, h2⟩ := hA.get
  exact law_link hext h (fun v s h => h) (fun x hx => (hG x hx).1) (fun x hx => (hG x hx).2) (by simpa using h1.symm) (fun i x hx => by obtain ⟨y, h3, h4⟩ := h2 i x hx; exact ⟨y, by simpa using h3, h4⟩) hf hb
theorem AC.ext {P : Program} {LT : FuncId → FInfo} {ext : String → List Value → St → Option (Value × St)} {f : FuncId} {args : List Value} {st st' : St} {R : Value → St → Prop} {fn : Func} {v : Value} (hf : P.funcs[f]? = some fn) (hb : fn.body = none) (he : ext fn.name args st = some (v, st')) (hR : R v st') : AC P LT ext f args st R :=
  ⟨1, v, st', by simp [acall, hf, hb, he], hR⟩
end Go.Proofs.Ytbogbnjnjjhnbaa.AM
