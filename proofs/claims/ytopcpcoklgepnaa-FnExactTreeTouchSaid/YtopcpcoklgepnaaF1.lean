/- Contracts of the numbers' and the vectors' functions. -/
import Derived.Test.YtopcpcoklgepnaaT0
namespace Go.Proofs.Ytopcpcoklgepnaa.AM
open Go Go.Proofs
set_option linter.unusedVariables false
set_option linter.unusedSimpArgs false
set_option maxRecDepth 100000
set_option maxHeartbeats 4000000
theorem ac_spec_l1In (a lo hi : Int) (st : St) : C 93 [.int .i64 a, .int .i64 lo, .int .i64 hi] st (fun v s => ∃ x, v = .bool x ∧ x = decide (lo ≤ a ∧ a ≤ hi) ∧ s = st) := by
  refine AC.enter' (i := ⟨[], [], [0, 1, 2, 6]⟩) Try.func93 rfl rfl (by kernel_rfl) Try.ntmps93 (Nat.le_of_ble_eq_true rfl) rfl (cw_sound _ _ _ _ _ ?_)
  repeat' first
    | refine ⟨.inr rfl, _, rfl, ?_⟩
    | refine ⟨.inl rfl, _, rfl, ?_⟩
    | refine ⟨_, rfl, ?_⟩
    | rintro (_|_) h
  all_goals exact ⟨by simp_all <;> omega, rfl⟩
theorem ac_impl_within (a lo hi : Int) (st : St) : C 95 [.int .i64 a, .int .i64 lo, .int .i64 hi] st (fun v s => ∃ x, v = .bool x ∧ x = decide (lo ≤ a ∧ a ≤ hi) ∧ s = st) := by
  refine AC.enter' (i := ⟨[], [], [0, 1, 2, 6]⟩) Try.func95 rfl rfl (by kernel_rfl) Try.ntmps95 (Nat.le_of_ble_eq_true rfl) rfl (cw_sound _ _ _ _ _ ?_)
  repeat' first
    | refine ⟨.inr rfl, _, rfl, ?_⟩
    | refine ⟨.inl rfl, _, rfl, ?_⟩
    | refine ⟨_, rfl, ?_⟩
    | rintro (_|_) h
  all_goals exact ⟨by simp_all <;> omega, rfl⟩
theorem ac_spec_l1Max (a b : Int) (st : St) : C 159 [.int .i64 a, .int .i64 b] st (fun v s => v = .int .i64 (max a b) ∧ s = st) := by
  refine AC.enter' (i := ⟨[], [], [0, 1, 4, 7]⟩) Try.func159 rfl rfl (by kernel_rfl) Try.ntmps159 (Nat.le_of_ble_eq_true rfl) rfl (cw_sound _ _ _ _ _ ?_)
  repeat' first
    | refine ⟨.inr rfl, _, rfl, ?_⟩
    | refine ⟨.inl rfl, _, rfl, ?_⟩
    | refine ⟨_, rfl, ?_⟩
    | rintro (_|_) h
  all_goals exact ⟨congrArg (Value.int .i64) (by simp at h; simp only [Int.max_def]; split <;> omega), rfl⟩
theorem ac_laws_eqIntS (p q : Option Addr) (a b : List Int) (st : St) (ha : Ints st .i64 p a) (hb : Ints st .i64 q b) (hs : a.length < 9223372036854775808) : C 91 [.slice p a.length a.length, .slice q b.length b.length] st (fun v s => ∃ x, v = .bool x ∧ x = decide (a = b) ∧ s = st) := by
  refine AC.enter' (i := ⟨[], [], [0, 1, 4, 5, 10, 14, 25]⟩) Try.func91 rfl rfl (by kernel_rfl) Try.ntmps91 (Nat.le_of_ble_eq_true rfl) rfl (cw_sound _ _ _ _ _ ?_)
  refine ⟨_, rfl, ?_⟩
  refine ⟨_, rfl, ?_⟩
  refine ⟨_, rfl, ?_⟩
  rintro (_|_) hne
  · have hl : a.length = b.length := by simp at hne; omega
    refine AW.loopK (fun j : Nat => [(0, .slice p a.length a.length), (1, .slice q b.length b.length), (5, .int .i64 j)]) (fun m j lo' st' => m = a.length - j ∧ j ≤ a.length ∧ (∀ i < j, a.getD i 0 = b.getD i 0) ∧ st' = st) 0 _ ⟨rfl, rfl, rfl, trivial⟩ ⟨rfl, Nat.zero_le _, fun i hi => absurd hi (Nat.not_lt_zero _), rfl⟩ ?_
    rintro m j ρ0 lo st' ⟨rfl, hj, heq, rfl⟩
    refine cw_sound _ _ _ _ _ ?_
    refine ⟨_, rfl, ?_⟩
    refine ⟨_, rfl, ?_⟩
    rintro (_|_) hlt
    · -- out
      refine ⟨.inl rfl, _, rfl, ?_⟩
      refine ⟨_, rfl, ?_, rfl⟩
      have : j = a.length := by simp at hlt; omega
      subst this
      simp [eq_of_getD hl heq]
    · have hlt : j < a.length := by simpa using hlt
      obtain ⟨b1, o1, k1, rfl, hm1, hc1⟩ := ha.at hlt
      obtain ⟨b2, o2, k2, rfl, hm2, hc2⟩ := hb.at (hl ▸ hlt)
      refine ⟨_, op_idx rfl rfl rfl rfl rfl (by omega) (by omega), ?_⟩
      refine ⟨_, op_ld rfl rfl rfl rfl hm1 hc1, ?_⟩
      refine ⟨_, op_idx rfl rfl rfl rfl rfl (by omega) (by omega), ?_⟩
      refine ⟨_, op_ld rfl rfl rfl rfl hm2 hc2, ?_⟩
      refine ⟨_, rfl, ?_⟩
      rintro (_|_) hd
      · refine ⟨_, rfl, ?_⟩
        refine ⟨j + 1, _, ?_, ⟨rfl, rfl, ?_, trivial⟩, rfl, hlt, ?_, rfl⟩
        · omega
        · exact congrArg (Value.int .i64) (wrap_i64 (by omega) (by omega))
        · intro i hi
          rcases Nat.lt_or_ge i j with h | h
          · exact heq i h
          · have : i = j := by omega
            subst this
            simpa using hd
      · refine ⟨.inl rfl, _, rfl, ?_⟩
        refine ⟨_, rfl, ?_, rfl⟩
        have : a ≠ b := fun h => by subst h; simp at hd
        simp [this]
  · refine ⟨.inl rfl, _, rfl, ?_⟩
    refine ⟨_, rfl, ?_, rfl⟩
    have : a ≠ b := fun h => by subst h; simp at hne
    simp [this]
end Go.Proofs.Ytopcpcoklgepnaa.AM
