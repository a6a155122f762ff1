/- Contracts of the vectors' functions. -/
import Derived.Test.YtopakkndacbbpaaF1
namespace Go.Proofs.Ytopakkndacbbpaa.AM
open Go Go.Proofs
set_option linter.unusedVariables false
set_option linter.unusedSimpArgs false
set_option maxRecDepth 100000
set_option maxHeartbeats 4000000
def vleq (a b : List Int) : Prop := ∀ i < a.length, a.getD i 0 ≤ b.getD i 0
theorem ac_impl_VecLeq (p q : Option Addr) (a b : List Int) (st : St) (ha : Ints st .i64 p a) (hb : Ints st .i64 q b) (hs : a.length < 9223372036854775808) (hs2 : b.length < 9223372036854775808) : C 19 [.slice p a.length a.length, .slice q b.length b.length] st (fun v s => ∃ x, v = .bool x ∧ (x = true ↔ vleq a b) ∧ s = st) := by
  refine AC.enter' (i := ⟨[], [], [0, 1, 4, 5, 6, 7, 8, 9, 10, 18]⟩) Try.func19 rfl rfl (by kernel_rfl) Try.ntmps19 (Nat.le_of_ble_eq_true rfl) rfl (cw_sound _ _ _ _ _ ?_)
  refine ⟨_, rfl, ?_⟩
  refine AW.loopK (fun j : Nat => [(0, .slice p a.length a.length), (1, .slice q b.length b.length), (7, .slice p a.length a.length), (8, .int .i64 a.length), (9, .int .i64 j)]) (fun m j lo' st' => m = a.length - j ∧ j ≤ a.length ∧ (∀ i < j, a.getD i 0 ≤ b.getD i 0) ∧ st' = st) 0 _ ⟨rfl, rfl, rfl, rfl, rfl, trivial⟩ ⟨rfl, Nat.zero_le _, fun i hi => absurd hi (Nat.not_lt_zero _), rfl⟩ ?_
  rintro m j ρ0 lo st' ⟨rfl, hj, hle, rfl⟩
  refine cw_sound _ _ _ _ _ ?_
  refine ⟨_, rfl, ?_⟩
  rintro (_|_) hlt
  · refine ⟨.inl rfl, _, rfl, ?_⟩
    refine ⟨_, rfl, ?_, rfl⟩
    have : j = a.length := by simp at hlt; omega
    subst this
    exact ⟨fun _ => hle, fun _ => rfl⟩
  · have hlt : j < a.length := by simpa using hlt
    obtain ⟨b1, o1, k1, rfl, hm1, hc1⟩ := ha.at hlt
    refine ⟨_, op_idx rfl rfl rfl rfl rfl (by omega) (by omega), ?_⟩
    refine ⟨_, op_ld rfl rfl rfl rfl hm1 hc1, ?_⟩
    refine ⟨_, rfl, (ac_impl_at _ _ j _ hb hs2).mono ?_⟩
    rintro _ _ ⟨rfl, rfl⟩
    refine ⟨_, rfl, ?_⟩
    rintro (_|_) hd
    · refine ⟨_, rfl, ?_⟩
      refine ⟨j + 1, _, ?_, ⟨rfl, rfl, rfl, rfl, ?_, trivial⟩, rfl, hlt, ?_, rfl⟩
      · omega
      · exact congrArg (Value.int .i64) (wrap_i64 (by omega) (by omega))
      · intro i hi
        rcases Nat.lt_or_ge i j with h | h
        · exact hle i h
        · have : i = j := by omega
          subst this
          simpa using hd
    · refine ⟨.inl rfl, _, rfl, ?_⟩
      refine ⟨_, rfl, ⟨fun h => (by cases h), fun h => ?_⟩, rfl⟩
      have := h j hlt
      have hd : b.getD j 0 < a.getD j 0 := by simpa using hd
      omega
/-- The result of a maximum. -/
def vmax (a b m : List Int) : Prop := m.length = max a.length b.length ∧ ∀ i < m.length, m.getD i 0 = max (a.getD i 0) (b.getD i 0)
theorem ac_impl_VecMax (p q : Option Addr) (a b : List Int) (st : St) (ha : Ints st .i64 p a) (hb : Ints st .i64 q b) (hs : a.length < 1099511627776) (hs2 : b.length < 1099511627776) : C 30 [.slice p a.length a.length, .slice q b.length b.length] st (fun v s => ∃ r m, v = .slice r m.length m.length ∧ vmax a b m ∧ Own s .i64 r m ∧ Pres st s ∧ New st.next r) := by
  refine AC.enter' (i := ⟨[], [], [0, 1, 4, 5, 6, 17]⟩) Try.func30 rfl rfl (by kernel_rfl) Try.ntmps30 (Nat.le_of_ble_eq_true rfl) rfl (cw_sound _ _ _ _ _ ?_)
  refine op_lit0 rfl rfl rfl rfl Nat.one_pos rfl ?_
  refine AW.loopK (fun x : List Int × Option Addr => [(0, .slice p a.length a.length), (1, .slice q b.length b.length), (5, .slice x.2 x.1.length x.1.length), (6, .int .i64 x.1.length)]) (fun m x lo' st' => m = max a.length b.length - x.1.length ∧ x.1.length ≤ max a.length b.length ∧ (∀ i < x.1.length, x.1.getD i 0 = max (a.getD i 0) (b.getD i 0)) ∧ Own st' .i64 x.2 x.1 ∧ Pres st st' ∧ New st.next x.2) ([], some ⟨st.next, 0, none⟩) _ ⟨rfl, rfl, rfl, rfl, trivial⟩ ⟨rfl, Nat.zero_le _, fun i hi => absurd hi (Nat.not_lt_zero _), Own.push, Pres.push, New.self⟩ ?_
  rintro m ⟨l, p1⟩ ρ0 lo st' ⟨rfl, hj, hv, hO, hP, hN⟩
  simp only at hj hv hO hN
  refine cw_sound _ _ _ _ _ ?_
  refine ⟨_, rfl, ?_⟩
  refine ⟨_, rfl, ?_⟩
  rintro (_|_) h1
  · refine ⟨_, rfl, ?_⟩
    refine ⟨_, rfl, ?_⟩
    rintro (_|_) h2
    · have h1 : ¬ l.length < a.length := by simpa using h1
      have h2 : ¬ l.length < b.length := by simpa using h2
      refine ⟨_, rfl, ?_⟩
      exact ⟨.inl rfl, _, rfl, p1, l, rfl, ⟨by omega, hv⟩, hO, hP, hN⟩
    · have hlt : l.length < max a.length b.length := by simp at h2; omega
      refine ⟨_, rfl, ?_⟩
      refine ⟨_, rfl, (ac_impl_at _ _ l.length _ (hP.ints ha) (by omega)).mono ?_⟩
      rintro _ _ ⟨rfl, rfl⟩
      refine ⟨_, rfl, (ac_impl_at _ _ l.length _ (hP.ints hb) (by omega)).mono ?_⟩
      rintro _ _ ⟨rfl, rfl⟩
      refine ⟨.int .i64 (max (a.getD l.length 0) (b.getD l.length 0)), ?_, ?_⟩
      · refine (show ammL true [.int .i64 (a.getD l.length 0), .int .i64 (b.getD l.length 0)] = _ from ?_)
        simp only [ammL, ammF, amm, Int.max_def, if_true, Option.bind_some]
        congr 2
        split <;> split <;> omega
      refine op_lit1 rfl rfl rfl rfl rfl ?_
      refine op_grow (b := 8) rfl rfl rfl rfl rfl rfl rfl rfl rfl rfl (show (l.length + 1) * 8 ≤ 140737488355328 by omega) (show l.length + 1 ≤ maxLen by unfold maxLen; omega) hO hP hN ?_
      intro q1 st1 hO1 hP1 hN1
      refine ⟨_, rfl, ?_⟩
      refine ⟨(l ++ [max (a.getD l.length 0) (b.getD l.length 0)], q1), _, ?_, ⟨rfl, rfl, ?_, ?_, trivial⟩, rfl, ?_, ?_, hO1, hP1, hN1⟩
      · simp only [List.length_append, List.length_singleton]; omega
      · simp only [List.length_append, List.length_singleton]; rfl
      · simp only [List.length_append, List.length_singleton]; exact congrArg (Value.int .i64) (wrap_i64 (by omega) (by omega))
      · simp only [List.length_append, List.length_singleton]; omega
      · intro i hi
        rw [getD_snoc]
        split
        · rename_i h; rw [h]
        · exact hv i (by simp only [List.length_append, List.length_singleton] at hi; omega)
  · have hlt : l.length < max a.length b.length := by simp at h1; omega
    refine ⟨_, rfl, ?_⟩
    refine ⟨_, rfl, (ac_impl_at _ _ l.length _ (hP.ints ha) (by omega)).mono ?_⟩
    rintro _ _ ⟨rfl, rfl⟩
    refine ⟨_, rfl, (ac_impl_at _ _ l.length _ (hP.ints hb) (by omega)).mono ?_⟩
    rintro _ _ ⟨rfl, rfl⟩
    refine ⟨.int .i64 (max (a.getD l.length 0) (b.getD l.length 0)), ?_, ?_⟩
    · refine (show ammL true [.int .i64 (a.getD l.length 0), .int .i64 (b.getD l.length 0)] = _ from ?_)
      simp only [ammL, ammF, amm, Int.max_def, if_true, Option.bind_some]
      congr 2
      split <;> split <;> omega
    refine op_lit1 rfl rfl rfl rfl rfl ?_
    refine op_grow (b := 8) rfl rfl rfl rfl rfl rfl rfl rfl rfl rfl (show (l.length + 1) * 8 ≤ 140737488355328 by omega) (show l.length + 1 ≤ maxLen by unfold maxLen; omega) hO hP hN ?_
    intro q1 st1 hO1 hP1 hN1
    refine ⟨_, rfl, ?_⟩
    refine ⟨(l ++ [max (a.getD l.length 0) (b.getD l.length 0)], q1), _, ?_, ⟨rfl, rfl, ?_, ?_, trivial⟩, rfl, ?_, ?_, hO1, hP1, hN1⟩
    · simp only [List.length_append, List.length_singleton]; omega
    · simp only [List.length_append, List.length_singleton]; rfl
    · simp only [List.length_append, List.length_singleton]; exact congrArg (Value.int .i64) (wrap_i64 (by omega) (by omega))
    · simp only [List.length_append, List.length_singleton]; omega
    · intro i hi
      rw [getD_snoc]
      split
      · rename_i h; rw [h]
      · exact hv i (by simp only [List.length_append, List.length_singleton] at hi; omega)
theorem ac_spec_VecMax (p q : Option Addr) (a b : List Int) (st : St) (ha : Ints st .i64 p a) (hb : Ints st .i64 q b) (hs : a.length < 1099511627776) (hs2 : b.length < 1099511627776) : C 29 [.slice p a.length a.length, .slice q b.length b.length] st (fun v s => ∃ r m, v = .slice r m.length m.length ∧ vmax a b m ∧ Own s .i64 r m ∧ Pres st s ∧ New st.next r) := by
  refine AC.enter' (i := ⟨[], [], [0, 1, 4, 5, 6, 17]⟩) Try.func29 rfl rfl (by kernel_rfl) Try.ntmps29 (Nat.le_of_ble_eq_true rfl) rfl (cw_sound _ _ _ _ _ ?_)
  refine op_lit0 rfl rfl rfl rfl Nat.one_pos rfl ?_
  refine AW.loopK (fun x : List Int × Option Addr => [(0, .slice p a.length a.length), (1, .slice q b.length b.length), (5, .slice x.2 x.1.length x.1.length), (6, .int .i64 x.1.length)]) (fun m x lo' st' => m = max a.length b.length - x.1.length ∧ x.1.length ≤ max a.length b.length ∧ (∀ i < x.1.length, x.1.getD i 0 = max (a.getD i 0) (b.getD i 0)) ∧ Own st' .i64 x.2 x.1 ∧ Pres st st' ∧ New st.next x.2) ([], some ⟨st.next, 0, none⟩) _ ⟨rfl, rfl, rfl, rfl, trivial⟩ ⟨rfl, Nat.zero_le _, fun i hi => absurd hi (Nat.not_lt_zero _), Own.push, Pres.push, New.self⟩ ?_
  rintro m ⟨l, p1⟩ ρ0 lo st' ⟨rfl, hj, hv, hO, hP, hN⟩
  simp only at hj hv hO hN
  refine cw_sound _ _ _ _ _ ?_
  refine ⟨_, rfl, ?_⟩
  refine ⟨_, rfl, ?_⟩
  rintro (_|_) h1
  · refine ⟨_, rfl, ?_⟩
    refine ⟨_, rfl, ?_⟩
    rintro (_|_) h2
    · have h1 : ¬ l.length < a.length := by simpa using h1
      have h2 : ¬ l.length < b.length := by simpa using h2
      refine ⟨_, rfl, ?_⟩
      exact ⟨.inl rfl, _, rfl, p1, l, rfl, ⟨by omega, hv⟩, hO, hP, hN⟩
    · have hlt : l.length < max a.length b.length := by simp at h2; omega
      refine ⟨_, rfl, ?_⟩
      refine ⟨_, rfl, (ac_spec_l8At _ _ l.length _ (hP.ints ha)).mono ?_⟩
      rintro _ _ ⟨rfl, rfl⟩
      refine ⟨_, rfl, (ac_spec_l8At _ _ l.length _ (hP.ints hb)).mono ?_⟩
      rintro _ _ ⟨rfl, rfl⟩
      refine ⟨_, rfl, (ac_spec_l1Max _ _ _).mono ?_⟩
      rintro _ _ ⟨rfl, rfl⟩
      refine op_lit1 rfl rfl rfl rfl rfl ?_
      refine op_grow (b := 8) rfl rfl rfl rfl rfl rfl rfl rfl rfl rfl (show (l.length + 1) * 8 ≤ 140737488355328 by omega) (show l.length + 1 ≤ maxLen by unfold maxLen; omega) hO hP hN ?_
      intro q1 st1 hO1 hP1 hN1
      refine ⟨_, rfl, ?_⟩
      refine ⟨(l ++ [max (a.getD l.length 0) (b.getD l.length 0)], q1), _, ?_, ⟨rfl, rfl, ?_, ?_, trivial⟩, rfl, ?_, ?_, hO1, hP1, hN1⟩
      · simp only [List.length_append, List.length_singleton]; omega
      · simp only [List.length_append, List.length_singleton]; rfl
      · simp only [List.length_append, List.length_singleton]; exact congrArg (Value.int .i64) (wrap_i64 (by omega) (by omega))
      · simp only [List.length_append, List.length_singleton]; omega
      · intro i hi
        rw [getD_snoc]
        split
        · rename_i h; rw [h]
        · exact hv i (by simp only [List.length_append, List.length_singleton] at hi; omega)
  · have hlt : l.length < max a.length b.length := by simp at h1; omega
    refine ⟨_, rfl, ?_⟩
    refine ⟨_, rfl, (ac_spec_l8At _ _ l.length _ (hP.ints ha)).mono ?_⟩
    rintro _ _ ⟨rfl, rfl⟩
    refine ⟨_, rfl, (ac_spec_l8At _ _ l.length _ (hP.ints hb)).mono ?_⟩
    rintro _ _ ⟨rfl, rfl⟩
    refine ⟨_, rfl, (ac_spec_l1Max _ _ _).mono ?_⟩
    rintro _ _ ⟨rfl, rfl⟩
    refine op_lit1 rfl rfl rfl rfl rfl ?_
    refine op_grow (b := 8) rfl rfl rfl rfl rfl rfl rfl rfl rfl rfl (show (l.length + 1) * 8 ≤ 140737488355328 by omega) (show l.length + 1 ≤ maxLen by unfold maxLen; omega) hO hP hN ?_
    intro q1 st1 hO1 hP1 hN1
    refine ⟨_, rfl, ?_⟩
    refine ⟨(l ++ [max (a.getD l.length 0) (b.getD l.length 0)], q1), _, ?_, ⟨rfl, rfl, ?_, ?_, trivial⟩, rfl, ?_, ?_, hO1, hP1, hN1⟩
    · simp only [List.length_append, List.length_singleton]; omega
    · simp only [List.length_append, List.length_singleton]; rfl
    · simp only [List.length_append, List.length_singleton]; exact congrArg (Value.int .i64) (wrap_i64 (by omega) (by omega))
    · simp only [List.length_append, List.length_singleton]; omega
    · intro i hi
      rw [getD_snoc]
      split
      · rename_i h; rw [h]
      · exact hv i (by simp only [List.length_append, List.length_singleton] at hi; omega)
theorem ac_impl_copyInts (p : Option Addr) (a : List Int) (st : St) (ha : Ints st .i64 p a) (hs : a.length < 1099511627776) : C 57 [.slice p a.length a.length] st (fun v s => ∃ r, v = .slice r a.length a.length ∧ Own s .i64 r a ∧ Pres st s ∧ New st.next r) := by
  refine AC.enter' (i := ⟨[], [], [0, 2]⟩) Try.func57 rfl rfl (by kernel_rfl) Try.ntmps57 (Nat.le_of_ble_eq_true rfl) rfl (cw_sound _ _ _ _ _ ?_)
  refine op_lit0 rfl rfl rfl rfl Nat.one_pos rfl ?_
  refine op_appN (b := 8) (l := []) (l2 := a) rfl rfl rfl rfl rfl rfl rfl rfl rfl rfl rfl (show (0 + a.length) * 8 ≤ 140737488355328 by omega) (show 0 + a.length ≤ maxLen by unfold maxLen; omega) Own.push (Pres.push.ints ha) Pres.push New.self ?_
  intro q st' hO hP hN
  refine ⟨.inl rfl, _, rfl, q, ?_, hO, hP, hN⟩
  show Value.slice q (0 + a.length) (0 + a.length) = _
  rw [Nat.zero_add]
end Go.Proofs.Ytopakkndacbbpaa.AM
