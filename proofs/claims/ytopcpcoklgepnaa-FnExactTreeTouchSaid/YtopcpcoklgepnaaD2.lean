/- What was laid out of a world's data, as plain Lean data. -/
import Derived.Test.YtopcpcoklgepnaaP0
import Derived.KernelRfl
namespace Go.Proofs.Ytopcpcoklgepnaa.AM
open Go Go.Proofs
set_option linter.unusedVariables false
set_option linter.unusedSimpArgs false
set_option maxRecDepth 100000
set_option maxHeartbeats 4000000
theorem c_int : Try.prog.cellsOf 3 = 1 := by kernel_rfl
theorem c_str : Try.prog.cellsOf 9 = 1 := by kernel_rfl
theorem wt_Mark {k : Nat} {L : LL} {us : List Value} (h : WT Try.prog Try.prog.globals.size (k + 2) 162 L us) : ∃ x : Flr, us = cFlr x ∧ True := by
  obtain ⟨h1, h2⟩ := WT.fields Try.underlying162 h
  have h1 : us.length = 2 := h1.trans (by kernel_rfl)
  match us, h1, h2 with
  | [a, b], _, h2 =>
    obtain ⟨n0, e0, _⟩ := WT.int Try.underlying3 (h2 0 _ rfl)
    obtain ⟨n1, e1, _⟩ := WT.int Try.underlying3 (h2 1 _ rfl)
    simp [c_int] at e0 e1
    exact ⟨⟨n0, n1⟩, by rw [e0, e1], trivial⟩
theorem wt_marks {L : LL} {us : List Value} (h : WT Try.prog Try.prog.globals.size 12 53 L us) : ∃ p l, us = [vS p l.length] ∧ Rows (stL Try.prog.globals.size L) 2 cFlr p l ∧ l.length ≤ maxLen := by
  obtain ⟨p, l, h1, h2, h3, _⟩ := WT.rows (f := cFlr) (Q := fun _ => True) Try.underlying53 (z := 2) (by kernel_rfl) (fun us h => wt_Mark h) h
  exact ⟨p, l, h1, h2, h3⟩
theorem wt_ints' {k : Nat} {L : LL} {us : List Value} (h : WT Try.prog Try.prog.globals.size (k + 2) 50 L us) : ∃ p l, us = [vS p l.length] ∧ Rows (stL Try.prog.globals.size L) 1 fI p l ∧ l.length ≤ maxLen := by
  obtain ⟨p, l, h1, h2, h3, _⟩ := WT.rows (f := fI) (Q := fun _ => True) Try.underlying50 (z := 1) (by kernel_rfl) (fun us h => by
    obtain ⟨n, h, _⟩ := WT.int Try.underlying3 h
    exact ⟨n, h, trivial⟩) h
  exact ⟨p, l, h1, h2, h3⟩
theorem wt_table {L : LL} {us : List Value} (h : WT Try.prog Try.prog.globals.size 12 71 L us) : ∃ p l, us = [vS p l.length] ∧ RdT (stL Try.prog.globals.size L) p l ∧ (l.length ≤ maxLen ∧ ∀ r ∈ l, r.l.length ≤ maxLen) := by
  obtain ⟨p, l, h1, h2, h3, h4⟩ := WT.rows (f := cRV) (Q := fun r => Rows (stL Try.prog.globals.size L) 1 fI r.p r.l ∧ r.l.length ≤ maxLen) Try.underlying71 (z := 1) (by kernel_rfl) (fun us h => by
    obtain ⟨p, l, h5, h6, h7⟩ := wt_ints' h
    exact ⟨⟨p, l⟩, h5, h6, h7⟩) h
  exact ⟨p, l, h1, ⟨h2, fun r hr => (h4 r hr).1⟩, h3, fun r hr => (h4 r hr).2⟩
end Go.Proofs.Ytopcpcoklgepnaa.AM
