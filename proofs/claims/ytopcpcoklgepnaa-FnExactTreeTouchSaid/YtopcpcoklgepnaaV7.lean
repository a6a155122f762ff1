/- What was laid out of a world's trees, messages and nodes, as plain Lean data. -/
import Derived.Test.YtopcpcoklgepnaaD3
import Derived.Test.YtopcpcoklgepnaaV0
namespace Go.Proofs.Ytopcpcoklgepnaa.AM
open Go Go.Proofs
set_option linter.unusedVariables false
set_option linter.unusedSimpArgs false
set_option maxRecDepth 100000
set_option maxHeartbeats 4000000
theorem c_bool : Try.prog.cellsOf 4 = 1 := by kernel_rfl
theorem wt_table' {k : Nat} {L : LL} {us : List Value} (h : WT Try.prog Try.prog.globals.size (k + 4) 71 L us) : ∃ p l, us = [vS p l.length] ∧ RdT (stL Try.prog.globals.size L) p l ∧ maxT l := by
  obtain ⟨p, l, h1, h2, h3, h4⟩ := WT.rows (f := cRV) (Q := fun r => Rows (stL Try.prog.globals.size L) 1 fI r.p r.l ∧ r.l.length ≤ maxLen) Try.underlying71 (z := 1) (by kernel_rfl) (fun us h => by
    obtain ⟨p, l, h5, h6, h7⟩ := wt_ints' h
    exact ⟨⟨p, l⟩, h5, h6, h7⟩) h
  exact ⟨p, l, h1, ⟨h2, fun r hr => (h4 r hr).1⟩, h3, fun r hr => (h4 r hr).2⟩
theorem wt_marks' {k : Nat} {L : LL} {us : List Value} (h : WT Try.prog Try.prog.globals.size (k + 3) 53 L us) : ∃ p l, us = [vS p l.length] ∧ Rows (stL Try.prog.globals.size L) 2 cFlr p l ∧ l.length ≤ maxLen := by
  obtain ⟨p, l, h1, h2, h3, _⟩ := WT.rows (f := cFlr) (Q := fun _ => True) Try.underlying53 (z := 2) (by kernel_rfl) (fun us h => wt_Mark h) h
  exact ⟨p, l, h1, h2, h3⟩
theorem wt_Tree' {k : Nat} {L : LL} {us : List Value} (h : WT Try.prog Try.prog.globals.size (k + 4) 52 L us) : ∃ x : TV, us = cTV x ∧ Rows (stL Try.prog.globals.size L) 1 fI x.p x.l ∧ x.l.length ≤ maxLen := by
  obtain ⟨h1, h2⟩ := WT.fields Try.underlying52 h
  have h1 : us.length = 2 := h1.trans (by kernel_rfl)
  have hc0 : Try.prog.cellsOf 50 = 1 := by kernel_rfl
  match us, h1, h2 with
  | [a0, a1], _, h2 =>
    obtain ⟨p0, l0, e0, R0, M0⟩ := wt_ints' (h2 0 _ rfl)
    simp [c_int, hc0] at e0
    obtain ⟨n1, e1, _⟩ := WT.int Try.underlying3 (h2 1 _ rfl)
    simp [c_int, hc0] at e1
    exact ⟨⟨⟨p0, l0⟩, n1⟩, by simp [e0, e1], R0, M0⟩
theorem wt_Sess' {k : Nat} {L : LL} {us : List Value} (h : WT Try.prog Try.prog.globals.size (k + 2) 165 L us) : ∃ x : Ses, us = cSess x ∧ True := by
  obtain ⟨h1, h2⟩ := WT.fields Try.underlying165 h
  have h1 : us.length = 4 := h1.trans (by kernel_rfl)
  match us, h1, h2 with
  | [a0, a1, a2, a3], _, h2 =>
    obtain ⟨n0, e0, _⟩ := WT.int Try.underlying3 (h2 0 _ rfl)
    simp [c_int, c_bool] at e0
    obtain ⟨n1, e1, _⟩ := WT.int Try.underlying3 (h2 1 _ rfl)
    simp [c_int, c_bool] at e1
    obtain ⟨n2, e2⟩ := WT.boolean Try.underlying4 (h2 2 _ rfl)
    simp [c_int, c_bool] at e2
    obtain ⟨n3, e3, _⟩ := WT.int Try.underlying3 (h2 3 _ rfl)
    simp [c_int, c_bool] at e3
    exact ⟨⟨n0, n1, n2, n3⟩, by simp [e0, e1, e2, e3], trivial⟩
theorem wt_Rise' {k : Nat} {L : LL} {us : List Value} (h : WT Try.prog Try.prog.globals.size (k + 2) 167 L us) : ∃ x : Ris, us = cRise x ∧ True := by
  obtain ⟨h1, h2⟩ := WT.fields Try.underlying167 h
  have h1 : us.length = 3 := h1.trans (by kernel_rfl)
  match us, h1, h2 with
  | [a0, a1, a2], _, h2 =>
    obtain ⟨n0, e0, _⟩ := WT.int Try.underlying3 (h2 0 _ rfl)
    simp [c_int] at e0
    obtain ⟨n1, e1, _⟩ := WT.int Try.underlying3 (h2 1 _ rfl)
    simp [c_int] at e1
    obtain ⟨n2, e2, _⟩ := WT.int Try.underlying3 (h2 2 _ rfl)
    simp [c_int] at e2
    exact ⟨⟨n0, n1, n2⟩, by simp [e0, e1, e2], trivial⟩
theorem wt_Msg' {k : Nat} {L : LL} {us : List Value} (h : WT Try.prog Try.prog.globals.size (k + 8) 55 L us) : ∃ x : MV, us = cMV x ∧ RdM (stL Try.prog.globals.size L) x ∧ maxM x.x := by
  obtain ⟨h1, h2⟩ := WT.fields Try.underlying55 h
  have h1 : us.length = 12 := h1.trans (by kernel_rfl)
  have hc5 : Try.prog.cellsOf 52 = 2 := by kernel_rfl
  have hc6 : Try.prog.cellsOf 50 = 1 := by kernel_rfl
  have hc7 : Try.prog.cellsOf 50 = 1 := by kernel_rfl
  have hc8 : Try.prog.cellsOf 36 = 2 := by kernel_rfl
  have hc9 : Try.prog.cellsOf 53 = 1 := by kernel_rfl
  match us, h1, h2 with
  | [a0, a1, a2, a3, a4, a5, a6, a7, a8, a9, a10, a11], _, h2 =>
    obtain ⟨n0, e0, _⟩ := WT.int Try.underlying3 (h2 0 _ rfl)
    simp [c_int] at e0
    obtain ⟨n1, e1, _⟩ := WT.int Try.underlying3 (h2 1 _ rfl)
    simp [c_int] at e1
    obtain ⟨n2, e2, _⟩ := WT.int Try.underlying3 (h2 2 _ rfl)
    simp [c_int] at e2
    obtain ⟨n3, e3, _⟩ := WT.int Try.underlying3 (h2 3 _ rfl)
    simp [c_int] at e3
    obtain ⟨n4, e4, _⟩ := WT.int Try.underlying3 (h2 4 _ rfl)
    simp [c_int] at e4
    obtain ⟨x5, e5, R5, M5⟩ := wt_Tree' (h2 5 _ rfl)
    simp [c_int, hc5] at e5
    obtain ⟨p6, l6, e6, R6, M6⟩ := wt_ints' (h2 6 _ rfl)
    simp [c_int, hc5, hc6] at e6
    obtain ⟨p7, l7, e7, R7, M7⟩ := wt_ints' (h2 7 _ rfl)
    simp [c_int, hc5, hc6, hc7] at e7
    obtain ⟨x8, e8, R8, M8⟩ := wt_State' (h2 8 _ rfl)
    simp [c_int, hc5, hc6, hc7, hc8] at e8
    obtain ⟨p9, l9, e9, R9, M9⟩ := wt_marks' (h2 9 _ rfl)
    simp [c_int, hc5, hc6, hc7, hc8, hc9] at e9
    exact ⟨⟨n0, n1, n2, n3, n4, x5, ⟨p6, l6⟩, ⟨p7, l7⟩, x8, ⟨p9, l9⟩⟩, by simp [e0, e1, e2, e3, e4, e5, e6, e7, e8, e9], ⟨R5, R6, R7, R8, R9⟩, ⟨M5, M6, M7, M8, M9⟩⟩
theorem wt_Node' {k : Nat} {L : LL} {us : List Value} (h : WT Try.prog Try.prog.globals.size (k + 10) 75 L us) : ∃ x : NV, us = cNV x ∧ RdN (stL Try.prog.globals.size L) x ∧ maxN x := by
  obtain ⟨h1, h2⟩ := WT.fields Try.underlying75 h
  have h1 : us.length = 19 := h1.trans (by kernel_rfl)
  have hc2 : Try.prog.cellsOf 36 = 2 := by kernel_rfl
  have hc3 : Try.prog.cellsOf 52 = 2 := by kernel_rfl
  have hc4 : Try.prog.cellsOf 24 = 3 := by kernel_rfl
  have hc5 : Try.prog.cellsOf 50 = 1 := by kernel_rfl
  have hc6 : Try.prog.cellsOf 50 = 1 := by kernel_rfl
  have hc7 : Try.prog.cellsOf 71 = 1 := by kernel_rfl
  have hc10 : Try.prog.cellsOf 72 = 1 := by kernel_rfl
  have hc14 : Try.prog.cellsOf 73 = 1 := by kernel_rfl
  match us, h1, h2 with
  | [a0, a1, a2, a3, a4, a5, a6, a7, a8, a9, a10, a11, a12, a13, a14, a15, a16, a17, a18], _, h2 =>
    obtain ⟨n0, e0, _⟩ := WT.int Try.underlying3 (h2 0 _ rfl)
    simp [c_int] at e0
    obtain ⟨n1, e1, _⟩ := WT.int Try.underlying3 (h2 1 _ rfl)
    simp [c_int] at e1
    obtain ⟨x2, e2, R2, M2⟩ := wt_State' (h2 2 _ rfl)
    simp [c_int, hc2] at e2
    obtain ⟨x3, e3, R3, M3⟩ := wt_Tree' (h2 3 _ rfl)
    simp [c_int, hc2, hc3] at e3
    obtain ⟨x4, e4, R4, M4⟩ := wt_Log' (h2 4 _ rfl)
    simp [c_int, hc2, hc3, hc4] at e4
    obtain ⟨p5, l5, e5, R5, M5⟩ := wt_ints' (h2 5 _ rfl)
    simp [c_int, hc2, hc3, hc4, hc5] at e5
    obtain ⟨p6, l6, e6, R6, M6⟩ := wt_ints' (h2 6 _ rfl)
    simp [c_int, hc2, hc3, hc4, hc5, hc6] at e6
    obtain ⟨p7, l7, e7, R7, M7⟩ := wt_table' (h2 7 _ rfl)
    simp [c_int, hc2, hc3, hc4, hc5, hc6, hc7] at e7
    obtain ⟨n8, e8, _⟩ := WT.int Try.underlying3 (h2 8 _ rfl)
    simp [c_int, hc2, hc3, hc4, hc5, hc6, hc7] at e8
    obtain ⟨n9, e9, _⟩ := WT.int Try.underlying3 (h2 9 _ rfl)
    simp [c_int, hc2, hc3, hc4, hc5, hc6, hc7] at e9
    obtain ⟨p10, l10, e10, R10, M10, _⟩ := WT.rows (f := cSess) (Q := fun _ => True) (z := 4) Try.underlying72 (by kernel_rfl) (fun us h => wt_Sess' h) (h2 10 _ rfl)
    simp [c_int, hc2, hc3, hc4, hc5, hc6, hc7, hc10] at e10
    obtain ⟨n11, e11, _⟩ := WT.int Try.underlying3 (h2 11 _ rfl)
    simp [c_int, hc2, hc3, hc4, hc5, hc6, hc7, hc10] at e11
    obtain ⟨n12, e12, _⟩ := WT.int Try.underlying3 (h2 12 _ rfl)
    simp [c_int, hc2, hc3, hc4, hc5, hc6, hc7, hc10] at e12
    obtain ⟨n13, e13, _⟩ := WT.int Try.underlying3 (h2 13 _ rfl)
    simp [c_int, hc2, hc3, hc4, hc5, hc6, hc7, hc10] at e13
    obtain ⟨p14, l14, e14, R14, M14, _⟩ := WT.rows (f := cRise) (Q := fun _ => True) (z := 3) Try.underlying73 (by kernel_rfl) (fun us h => wt_Rise' h) (h2 14 _ rfl)
    simp [c_int, hc2, hc3, hc4, hc5, hc6, hc7, hc10, hc14] at e14
    exact ⟨⟨n0, n1, x2, x3, x4, ⟨p5, l5⟩, ⟨p6, l6⟩, ⟨p7, l7⟩, n8, n9, ⟨p10, l10⟩, n11, n12, n13, ⟨p14, l14⟩⟩, by simp [e0, e1, e2, e3, e4, e5, e6, e7, e8, e9, e10, e11, e12, e13, e14], ⟨R2, R3, R4, R5, R6, R7, R10, R14⟩, ⟨M2, M3, M4, M5, M6, M7, M10, M14⟩⟩
theorem wt_Msg {L : LL} {us : List Value} (h : WT Try.prog Try.prog.globals.size 12 55 L us) : ∃ x : MV, us = cMV x ∧ RdM (stL Try.prog.globals.size L) x ∧ maxM x.x := wt_Msg' h
theorem wt_Node {L : LL} {us : List Value} (h : WT Try.prog Try.prog.globals.size 12 75 L us) : ∃ x : NV, us = cNV x ∧ RdN (stL Try.prog.globals.size L) x ∧ maxN x := wt_Node' h
theorem wt_Tree {L : LL} {us : List Value} (h : WT Try.prog Try.prog.globals.size 12 52 L us) : ∃ x : TV, us = cTV x ∧ Rows (stL Try.prog.globals.size L) 1 fI x.p x.l ∧ x.l.length ≤ maxLen := wt_Tree' h
end Go.Proofs.Ytopcpcoklgepnaa.AM
