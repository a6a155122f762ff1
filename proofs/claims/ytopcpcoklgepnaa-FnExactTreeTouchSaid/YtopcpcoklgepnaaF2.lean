/- Contracts of the vectors' functions. -/
import Derived.Test.YtopcpcoklgepnaaF1
namespace Go.Proofs.Ytopcpcoklgepnaa.AM
open Go Go.Proofs
set_option linter.unusedVariables false
set_option linter.unusedSimpArgs false
set_option maxRecDepth 100000
set_option maxHeartbeats 4000000
def vleq (a b : List Int) : Prop := ∀ i < a.length, a.getD i 0 ≤ b.getD i 0
/-- The result of a maximum. -/
def vmax (a b m : List Int) : Prop := m.length = max a.length b.length ∧ ∀ i < m.length, m.getD i 0 = max (a.getD i 0) (b.getD i 0)
theorem ac_impl_copyInts (p : Option Addr) (a : List Int) (st : St) (ha : Ints st .i64 p a) (hs : a.length < 1099511627776) : C 166 [.slice p a.length a.length] st (fun v s => ∃ r, v = .slice r a.length a.length ∧ Own s .i64 r a ∧ Pres st s ∧ New st.next r) := by
  refine AC.enter' (i := ⟨[], [], [0, 2]⟩) Try.func166 rfl rfl (by kernel_rfl) Try.ntmps166 (Nat.le_of_ble_eq_true rfl) rfl (cw_sound _ _ _ _ _ ?_)
  refine op_lit0 rfl rfl rfl rfl Nat.one_pos rfl ?_
  refine op_appN (b := 8) (l := []) (l2 := a) rfl rfl rfl rfl rfl rfl rfl rfl rfl rfl rfl (show (0 + a.length) * 8 ≤ 140737488355328 by omega) (show 0 + a.length ≤ maxLen by unfold maxLen; omega) (.inl ⟨rfl, rfl⟩) ha (Pres.refl _) New.none ?_
  intro q st' hO hP hN
  refine ⟨.inl rfl, _, rfl, q, ?_, hO, hP, hN⟩
  show Value.slice q (0 + a.length) (0 + a.length) = _
  rw [Nat.zero_add]
end Go.Proofs.Ytopcpcoklgepnaa.AM
