/- What was laid out of a world's states and logs, as plain Lean data. -/
import Derived.Test.YtopcpcoklgepnaaS3
namespace Go.Proofs.Ytopcpcoklgepnaa.AM
open Go Go.Proofs
set_option linter.unusedVariables false
set_option linter.unusedSimpArgs false
set_option maxRecDepth 100000
set_option maxHeartbeats 4000000
theorem wt_Entry {k : Nat} {L : LL} {us : List Value} (h : WT Try.prog Try.prog.globals.size (k + 2) 147 L us) : ∃ x : Ent, us = cEnt x ∧ x.data.size ≤ maxLen := by
  obtain ⟨h1, h2⟩ := WT.fields Try.underlying147 h
  have h1 : us.length = 5 := h1.trans (by kernel_rfl)
  match us, h1, h2 with
  | [a, b, c, d, e], _, h2 =>
    obtain ⟨n0, e0, _⟩ := WT.int Try.underlying3 (h2 0 _ rfl)
    obtain ⟨n1, e1, _⟩ := WT.int Try.underlying3 (h2 1 _ rfl)
    obtain ⟨n2, e2, _⟩ := WT.int Try.underlying3 (h2 2 _ rfl)
    obtain ⟨n3, e3, _⟩ := WT.int Try.underlying3 (h2 3 _ rfl)
    obtain ⟨n4, e4, hs⟩ := WT.str Try.underlying9 (h2 4 _ rfl)
    simp [c_int, c_str] at e0 e1 e2 e3 e4
    exact ⟨⟨n0, n1, n2, n3, n4⟩, by rw [e0, e1, e2, e3, e4], hs⟩
theorem wt_Item {k : Nat} {L : LL} {us : List Value} (h : WT Try.prog Try.prog.globals.size (k + 3) 149 L us) : ∃ x : Itm, us = cItm x ∧ x.e.data.size ≤ maxLen := by
  obtain ⟨h1, h2⟩ := WT.fields Try.underlying149 h
  have h1 : us.length = 6 := h1.trans (by kernel_rfl)
  have hc : Try.prog.cellsOf 147 = 5 := by kernel_rfl
  match us, h1, h2 with
  | [a, b, c, d, e, f], _, h2 =>
    obtain ⟨n0, e0, _⟩ := WT.int Try.underlying3 (h2 0 _ rfl)
    obtain ⟨x, e1, hs⟩ := wt_Entry (h2 1 _ rfl)
    simp [c_int] at e0
    simp [hc] at e1
    exact ⟨⟨n0, x⟩, by rw [e0]; simp [e1], hs⟩
theorem wt_Floor {k : Nat} {L : LL} {us : List Value} (h : WT Try.prog Try.prog.globals.size (k + 2) 157 L us) : ∃ x : Flr, us = cFlr x ∧ True := by
  obtain ⟨h1, h2⟩ := WT.fields Try.underlying157 h
  have h1 : us.length = 2 := h1.trans (by kernel_rfl)
  match us, h1, h2 with
  | [a, b], _, h2 =>
    obtain ⟨n0, e0, _⟩ := WT.int Try.underlying3 (h2 0 _ rfl)
    obtain ⟨n1, e1, _⟩ := WT.int Try.underlying3 (h2 1 _ rfl)
    simp [c_int] at e0 e1
    exact ⟨⟨n0, n1⟩, by rw [e0, e1], trivial⟩
theorem wt_State' {k : Nat} {L : LL} {us : List Value} (h : WT Try.prog Try.prog.globals.size (k + 5) 36 L us) : ∃ x : SV, us = cSV x ∧ RdS (stL Try.prog.globals.size L) x ∧ maxS x.x := by
  obtain ⟨h1, h2⟩ := WT.fields Try.underlying36 h
  have h1 : us.length = 2 := h1.trans (by kernel_rfl)
  have hc1 : Try.prog.cellsOf 33 = 1 := by kernel_rfl
  have hc2 : Try.prog.cellsOf 34 = 1 := by kernel_rfl
  match us, h1, h2 with
  | [a, b], _, h2 =>
    obtain ⟨p, l, e0, hR, hm, hq⟩ := WT.rows (f := cItm) (Q := fun x => x.e.data.size ≤ maxLen) (z := 6) Try.underlying33 (by kernel_rfl) (fun us h => wt_Item h) (h2 0 _ rfl)
    obtain ⟨q, m, e1, hR2, hm2, _⟩ := WT.rows (f := cFlr) (Q := fun _ => True) (z := 2) Try.underlying34 (by kernel_rfl) (fun us h => wt_Floor h) (h2 1 _ rfl)
    simp [hc1] at e0
    simp [hc2] at e1
    exact ⟨⟨p, q, ⟨l, m⟩⟩, by rw [e0, e1], ⟨hR, hR2⟩, hm, hm2, hq⟩
theorem wt_State {L : LL} {us : List Value} (h : WT Try.prog Try.prog.globals.size 12 36 L us) : ∃ x : SV, us = cSV x ∧ RdS (stL Try.prog.globals.size L) x ∧ maxS x.x := wt_State' h
theorem wt_Log' {k : Nat} {L : LL} {us : List Value} (h : WT Try.prog Try.prog.globals.size (k + 7) 24 L us) : ∃ x : LV, us = cLV x ∧ RdL (stL Try.prog.globals.size L) x.p x.l ∧ maxL x.l := by
  obtain ⟨h1, h2⟩ := WT.fields Try.underlying24 h
  have h1 : us.length = 3 := h1.trans (by kernel_rfl)
  have hc1 : Try.prog.cellsOf 22 = 1 := by kernel_rfl
  match us, h1, h2 with
  | [a, b, c], _, h2 =>
    obtain ⟨n0, e0, _⟩ := WT.int Try.underlying3 (h2 0 _ rfl)
    obtain ⟨n1, e1, _⟩ := WT.int Try.underlying3 (h2 1 _ rfl)
    obtain ⟨p, l, e2, hR, hm, hq⟩ := WT.rows (f := cSV) (Q := fun x => RdS (stL Try.prog.globals.size L) x ∧ maxS x.x) (z := 2) Try.underlying22 (by kernel_rfl) (fun us h => wt_State' h) (h2 2 _ rfl)
    simp [c_int] at e0 e1
    simp [hc1] at e2
    exact ⟨⟨n0, n1, p, l⟩, by rw [e0, e1, e2], ⟨hR, fun s hs => (hq s hs).1⟩, hm, fun s hs => (hq s hs).2⟩
theorem wt_Log {L : LL} {us : List Value} (h : WT Try.prog Try.prog.globals.size 12 24 L us) : ∃ x : LV, us = cLV x ∧ RdL (stL Try.prog.globals.size L) x.p x.l ∧ maxL x.l := wt_Log' h
end Go.Proofs.Ytopcpcoklgepnaa.AM
