/- The law of vectors on the abstract machine. -/
import Derived.Test.YtopakkndacbbpaaF4
namespace Go.Proofs.Ytopakkndacbbpaa.AM
open Go Go.Proofs
set_option linter.unusedVariables false
set_option linter.unusedSimpArgs false
set_option maxRecDepth 100000
set_option maxHeartbeats 4000000
theorem vmax_left {a b m : List Int} (h : vmax a b m) : vleq a m := fun i hi => by
  have := h.2 i (by have := h.1; omega)
  omega
theorem vmax_right {a b m : List Int} (h : vmax a b m) : vleq b m := fun i hi => by
  have := h.2 i (by have := h.1; omega)
  omega
theorem vmax_comm {a b m m' : List Int} (h : vmax a b m) (h' : vmax b a m') : vleq m' m := fun i hi => by
  have h1 := h.2 i (by have := h.1; have := h'.1; omega)
  have h2 := h'.2 i hi
  omega
theorem vraise_spec (l : List Int) (i n : Int) : (vraise l i n).length = l.length ∧ (0 ≤ i → i < l.length → n ≤ (vraise l i n).getD i.toNat 0) := by
  unfold vraise
  split
  · refine ⟨List.length_set .., fun h1 h2 => ?_⟩
    rw [List.getD_eq_getElem?_getD, List.getElem?_set_self (by omega)]
    exact Int.le_max_right _ _
  · exact ⟨rfl, fun h1 h2 => by omega⟩
theorem ac_leqT (p q : Option Addr) (a b : List Int) (st : St) (ha : Ints st .i64 p a) (hb : Ints st .i64 q b) (hs : a.length < 9223372036854775808) (hs2 : b.length < 9223372036854775808) (h : vleq a b) : C 19 [.slice p a.length a.length, .slice q b.length b.length] st (fun v s => v = vB true ∧ s = st) :=
  (ac_impl_VecLeq p q a b st ha hb hs hs2).mono fun v s ⟨x, h1, h2, h3⟩ => ⟨by rw [h1, h2.2 h], h3⟩
theorem ac_laws_FnVectors (p : Option Addr) (bs : List Int) (st : St) (hI : Ints st .u8 p bs) : C 11 [vS p bs.length] st (fun v s => v = vB true) := by
  refine AC.enterX (i := ⟨[], [], [0, 2, 3, 4, 5, 6, 7, 8, 9, 10, 11, 12, 14, 29, 33, 47, 58, 91]⟩) Try.func11 rfl rfl (by kernel_rfl) Try.ntmps11 (Nat.le_of_ble_eq_true rfl) rfl ?_
  refine AW.cut lo0 st [(0, vS p bs.length), (2, vB false)] ⟨rfl, rfl, trivial⟩ fun ρ0 => ?_
  refine ⟨_, rfl, (ac_laws_big p bs.length st).mono ?_⟩
  rintro _ st ⟨y, rfl, hb, rfl⟩
  rcases y with _|_
  · replace hb := of_decide_eq_false hb.symm
    refine AW.cut lo0 st [(0, vS p bs.length), (2, vB false), (14, vB false)] ⟨rfl, rfl, rfl, trivial⟩ fun ρ0 => ?_
    refine cx_sound _ _ _ _ _ ?_
    refine ⟨_, rfl, (ac_spec_DrawVecMax p bs st hI (by omega)).mono ?_⟩
    rintro _ s1 ⟨q1, q2, a, b, rfl, ha, hb', la, lb, hP1⟩
    iterate 2 refine ⟨_, rfl, ?_⟩
    refine AW.cut lo0 s1 [(0, vS p bs.length), (2, vB false), (3, vS q1 a.length), (4, vS q2 b.length), (14, vB false)] ⟨rfl, rfl, rfl, rfl, rfl, trivial⟩ fun ρ0 => ?_
    refine ⟨_, rfl, (ac_impl_VecMax q1 q2 a b s1 ha hb' (by omega) (by omega)).mono ?_⟩
    rintro _ s2 ⟨q3, m, rfl, hm, hO3, hP2, hN2⟩
    refine AW.cut lo0 s2 [(0, vS p bs.length), (2, vB false), (3, vS q1 a.length), (4, vS q2 b.length), (5, vS q3 m.length), (14, vB false)] ⟨rfl, rfl, rfl, rfl, rfl, rfl, trivial⟩ fun ρ0 => ?_
    refine ⟨_, rfl, ?_⟩
    refine ⟨_, rfl, (ac_spec_VecMax q1 q2 a b s2 (hP2.ints ha) (hP2.ints hb') (by omega) (by omega)).mono ?_⟩
    rintro _ s3 ⟨q4, m4, rfl, hm4, hO4, hP3, hN3⟩
    iterate 2 refine ⟨_, rfl, ?_⟩
    rintro (_|_) h5
    rotate_left
    · exact absurd (congrArg Nat.cast (hm.1.trans hm4.1.symm)) (bne_iff_ne.1 h5)
    refine AW.cut lo0 s3 [(0, vS p bs.length), (2, vB false), (3, vS q1 a.length), (4, vS q2 b.length), (5, vS q3 m.length), (14, vB false), (29, vB false)] ⟨rfl, rfl, rfl, rfl, rfl, rfl, rfl, trivial⟩ fun ρ0 => ?_
    have ha3 := (hP2.trans hP3).ints ha
    have hb3 := (hP2.trans hP3).ints hb'
    have hm3 := hP3.ints hO3.ints
    have hI3 := ((hP1.trans hP2).trans hP3).ints hI
    have lm : m.length < 7 := by have := hm.1; omega
    refine cx_sound _ _ _ _ _ ?_
    refine cx_sound _ _ _ _ _ ?_
    refine AW.cut lo0 s3 [(0, vS p bs.length), (2, vB false), (3, vS q1 a.length), (4, vS q2 b.length), (5, vS q3 m.length), (6, vB false), (7, vI (0)), (14, vB false), (29, vB false)] ⟨rfl, rfl, rfl, rfl, rfl, rfl, rfl, rfl, rfl, trivial⟩ fun ρ0 => ?_
    refine AW.loop0 (fun x : Bool × Nat => [(0, vS p bs.length), (2, vB false), (3, vS q1 a.length), (4, vS q2 b.length), (5, vS q3 m.length), (6, vB x.1), (7, vI x.2)]) (fun m (x : Bool × Nat) st' => m = a.length - x.2 ∧ x.2 ≤ a.length ∧ s3 = st') (false, 0) _ ⟨rfl, rfl, rfl, rfl, rfl, rfl, rfl, trivial⟩ rfl ⟨rfl, Nat.zero_le _, rfl⟩ ?_
    rintro m ⟨y, j⟩ ρ0 st' ⟨rfl, hj, rfl⟩
    rcases y with _|_
    · iterate 2 refine ⟨_, rfl, ?_⟩
      rintro (_|_) h6
      · replace h6 : ¬ ((j : Int) < (a.length : Int)) := of_decide_eq_false h6
        refine AW.cut lo0 s3 [(0, vS p bs.length), (2, vB false), (3, vS q1 a.length), (4, vS q2 b.length), (5, vS q3 m.length), (6, vB false), (7, vI j), (33, vB false)] ⟨rfl, rfl, rfl, rfl, rfl, rfl, rfl, rfl, trivial⟩ fun ρ0 => ?_
        refine cx_sound _ _ _ _ _ ?_
        refine AW.cut lo0 s3 [(0, vS p bs.length), (2, vB false), (3, vS q1 a.length), (4, vS q2 b.length), (5, vS q3 m.length), (6, vB false), (7, vI j), (8, vI (0)), (33, vB false)] ⟨rfl, rfl, rfl, rfl, rfl, rfl, rfl, rfl, rfl, trivial⟩ fun ρ0 => ?_
        refine AW.loop0 (fun x : Bool × Nat => [(0, vS p bs.length), (2, vB false), (3, vS q1 a.length), (4, vS q2 b.length), (5, vS q3 m.length), (6, vB x.1), (8, vI x.2)]) (fun m (x : Bool × Nat) st' => m = b.length - x.2 ∧ x.2 ≤ b.length ∧ s3 = st') (_, 0) _ ⟨rfl, rfl, rfl, rfl, rfl, rfl, rfl, trivial⟩ rfl ⟨rfl, Nat.zero_le _, rfl⟩ ?_
        rintro m ⟨y, j⟩ ρ0 st' ⟨rfl, hj, rfl⟩
        rcases y with _|_
        · iterate 2 refine ⟨_, rfl, ?_⟩
          rintro (_|_) h8
          · replace h8 : ¬ ((j : Int) < (b.length : Int)) := of_decide_eq_false h8
            refine AW.cut lo0 s3 [(0, vS p bs.length), (2, vB false), (3, vS q1 a.length), (4, vS q2 b.length), (5, vS q3 m.length), (6, vB false), (8, vI j), (47, vB false)] ⟨rfl, rfl, rfl, rfl, rfl, rfl, rfl, rfl, trivial⟩ fun ρ0 => ?_
            refine cx_sound _ _ _ _ _ ?_
            refine AW.cut lo0 s3 [(0, vS p bs.length), (2, vB false), (3, vS q1 a.length), (4, vS q2 b.length), (5, vS q3 m.length), (6, vB false), (8, vI j), (47, vB false), (58, vB false)] ⟨rfl, rfl, rfl, rfl, rfl, rfl, rfl, rfl, rfl, trivial⟩ fun ρ0 => ?_
            refine cx_sound _ _ _ _ _ ?_
            refine ⟨_, rfl, (ac_spec_DrawVecRaise p bs s3 hI3 (by omega)).mono ?_⟩
            rintro _ s5 ⟨q5, v, i, n, rfl, hv, lv, hP5⟩
            iterate 3 refine ⟨_, rfl, ?_⟩
            refine AW.cut lo0 s5 [(0, vS p bs.length), (2, vB false), (3, vS q1 a.length), (4, vS q2 b.length), (5, vS q3 m.length), (6, vB false), (8, vI j), (9, vS q5 v.length), (10, vI i), (11, vI n), (47, vB false), (58, vB false)] ⟨rfl, rfl, rfl, rfl, rfl, rfl, rfl, rfl, rfl, rfl, rfl, rfl, trivial⟩ fun ρ0 => ?_
            refine ⟨_, rfl, (ac_impl_VecRaise q5 v i n s5 hv (by omega)).mono ?_⟩
            rintro _ s6 ⟨q6, rfl, hO6, hP6, hN6⟩
            refine AW.cut lo0 s6 [(0, vS p bs.length), (2, vB false), (3, vS q1 a.length), (4, vS q2 b.length), (5, vS q3 m.length), (6, vB false), (8, vI j), (9, vS q5 v.length), (10, vI i), (11, vI n), (12, vS q6 v.length), (47, vB false), (58, vB false)] ⟨rfl, rfl, rfl, rfl, rfl, rfl, rfl, rfl, rfl, rfl, rfl, rfl, rfl, trivial⟩ fun ρ0 => ?_
            have ha6 := (hP5.trans hP6).ints ha3
            have hb6 := (hP5.trans hP6).ints hb3
            have hm6 := (hP5.trans hP6).ints hm3
            have hR := hO6.ints
            have ⟨hr1, hr2⟩ := vraise_spec v i n
            iterate 3 refine ⟨_, rfl, ?_⟩
            rintro (_|_) h10
            rotate_left
            · exact absurd (rfl) (bne_iff_ne.1 h10)
            refine ⟨_, rfl, ?_⟩
            rintro (_|_) h11
            · replace h11 : ¬ (0 ≤ i) := of_decide_eq_false h11
              iterate 3 refine ⟨_, rfl, ?_⟩
              refine AW.cut lo0 s6 [(0, vS p bs.length), (2, vB false), (3, vS q1 a.length), (4, vS q2 b.length), (5, vS q3 m.length), (6, vB false), (8, vI j), (9, vS q5 v.length), (10, vI i), (11, vI n), (12, vS q6 v.length), (47, vB false), (58, vB false), (91, vB false)] ⟨rfl, rfl, rfl, rfl, rfl, rfl, rfl, rfl, rfl, rfl, rfl, rfl, rfl, rfl, trivial⟩ fun ρ0 => ?_
              refine cx_sound _ _ _ _ _ ?_
              refine ⟨_, rfl, (ac_leqT q1 q3 a m s6 ha6 hm6 (by omega) (by omega) (vmax_left hm)).mono ?_⟩
              rintro _ s6 ⟨rfl, rfl⟩
              refine ⟨_, rfl, (ac_leqT q2 q3 b m s6 hb6 hm6 (by omega) (by omega) (vmax_right hm)).mono ?_⟩
              rintro _ s6 ⟨rfl, rfl⟩
              refine ⟨_, rfl, ?_⟩
              refine ⟨_, rfl, (ac_impl_VecMax q3 q1 m a s6 hm6 ha6 (by omega) (by omega)).mono ?_⟩
              rintro _ s7 ⟨q7, m7, rfl, hm7, hO7, hP7, hN7⟩
              refine ⟨_, rfl, (ac_leqT q3 q7 m m7 s7 (hP7.ints hm6) hO7.ints (by omega) (by have := hm7.1; omega) (vmax_left hm7)).mono ?_⟩
              rintro _ s7 ⟨rfl, rfl⟩
              refine ⟨_, rfl, ?_⟩
              refine ⟨_, rfl, (ac_impl_VecMax q2 q1 b a s7 (hP7.ints hb6) (hP7.ints ha6) (by omega) (by omega)).mono ?_⟩
              rintro _ s8 ⟨q8, m8, rfl, hm8, hO8, hP8, hN8⟩
              refine ⟨_, rfl, (ac_leqT q8 q3 m8 m s8 hO8.ints (hP8.ints (hP7.ints hm6)) (by have := hm8.1; omega) (by omega) (vmax_comm hm hm8)).mono ?_⟩
              rintro _ s8 ⟨rfl, rfl⟩
              refine ⟨_, rfl, ?_⟩
              refine cx_sound _ _ _ _ _ ?_
              exact ⟨.inl rfl, _, rfl, rfl⟩
            · replace h11 : 0 ≤ i := of_decide_eq_true h11
              iterate 2 refine ⟨_, rfl, ?_⟩
              rintro (_|_) h12
              · replace h12 : ¬ (i < (v.length : Int)) := of_decide_eq_false h12
                iterate 3 refine ⟨_, rfl, ?_⟩
                refine AW.cut lo0 s6 [(0, vS p bs.length), (2, vB false), (3, vS q1 a.length), (4, vS q2 b.length), (5, vS q3 m.length), (6, vB false), (8, vI j), (9, vS q5 v.length), (10, vI i), (11, vI n), (12, vS q6 v.length), (47, vB false), (58, vB false), (91, vB false)] ⟨rfl, rfl, rfl, rfl, rfl, rfl, rfl, rfl, rfl, rfl, rfl, rfl, rfl, rfl, trivial⟩ fun ρ0 => ?_
                refine cx_sound _ _ _ _ _ ?_
                refine ⟨_, rfl, (ac_leqT q1 q3 a m s6 ha6 hm6 (by omega) (by omega) (vmax_left hm)).mono ?_⟩
                rintro _ s6 ⟨rfl, rfl⟩
                refine ⟨_, rfl, (ac_leqT q2 q3 b m s6 hb6 hm6 (by omega) (by omega) (vmax_right hm)).mono ?_⟩
                rintro _ s6 ⟨rfl, rfl⟩
                refine ⟨_, rfl, ?_⟩
                refine ⟨_, rfl, (ac_impl_VecMax q3 q1 m a s6 hm6 ha6 (by omega) (by omega)).mono ?_⟩
                rintro _ s7 ⟨q7, m7, rfl, hm7, hO7, hP7, hN7⟩
                refine ⟨_, rfl, (ac_leqT q3 q7 m m7 s7 (hP7.ints hm6) hO7.ints (by omega) (by have := hm7.1; omega) (vmax_left hm7)).mono ?_⟩
                rintro _ s7 ⟨rfl, rfl⟩
                refine ⟨_, rfl, ?_⟩
                refine ⟨_, rfl, (ac_impl_VecMax q2 q1 b a s7 (hP7.ints hb6) (hP7.ints ha6) (by omega) (by omega)).mono ?_⟩
                rintro _ s8 ⟨q8, m8, rfl, hm8, hO8, hP8, hN8⟩
                refine ⟨_, rfl, (ac_leqT q8 q3 m8 m s8 hO8.ints (hP8.ints (hP7.ints hm6)) (by have := hm8.1; omega) (by omega) (vmax_comm hm hm8)).mono ?_⟩
                rintro _ s8 ⟨rfl, rfl⟩
                refine ⟨_, rfl, ?_⟩
                refine cx_sound _ _ _ _ _ ?_
                exact ⟨.inl rfl, _, rfl, rfl⟩
              · replace h12 : i < (v.length : Int) := of_decide_eq_true h12
                refine ⟨_, rfl, ?_⟩
                have ⟨b1, o1, k1, hpe, hb1, hc1⟩ := hR.at (j := i.toNat) (by rw [hr1]; omega)
                refine ⟨_, op_idx (j := i) (n := v.length) (q := ⟨b1, o1, none⟩) rfl (congrArg (fun u => vS u v.length) hpe) rfl rfl rfl h11 h12, ?_⟩
                refine ⟨_, op_ld rfl rfl rfl rfl hb1 hc1, ?_⟩
                refine ⟨_, rfl, ?_⟩
                rintro (_|_) h13
                rotate_left
                · exact absurd (of_decide_eq_true h13) (Int.not_lt.2 (hr2 h11 h12))
                iterate 2 refine ⟨_, rfl, ?_⟩
                refine AW.cut lo0 s6 [(0, vS p bs.length), (2, vB false), (3, vS q1 a.length), (4, vS q2 b.length), (5, vS q3 m.length), (6, vB false), (8, vI j), (9, vS q5 v.length), (10, vI i), (11, vI n), (12, vS q6 v.length), (47, vB false), (58, vB false), (91, vB false)] ⟨rfl, rfl, rfl, rfl, rfl, rfl, rfl, rfl, rfl, rfl, rfl, rfl, rfl, rfl, trivial⟩ fun ρ0 => ?_
                refine cx_sound _ _ _ _ _ ?_
                refine ⟨_, rfl, (ac_leqT q1 q3 a m s6 ha6 hm6 (by omega) (by omega) (vmax_left hm)).mono ?_⟩
                rintro _ s6 ⟨rfl, rfl⟩
                refine ⟨_, rfl, (ac_leqT q2 q3 b m s6 hb6 hm6 (by omega) (by omega) (vmax_right hm)).mono ?_⟩
                rintro _ s6 ⟨rfl, rfl⟩
                refine ⟨_, rfl, ?_⟩
                refine ⟨_, rfl, (ac_impl_VecMax q3 q1 m a s6 hm6 ha6 (by omega) (by omega)).mono ?_⟩
                rintro _ s7 ⟨q7, m7, rfl, hm7, hO7, hP7, hN7⟩
                refine ⟨_, rfl, (ac_leqT q3 q7 m m7 s7 (hP7.ints hm6) hO7.ints (by omega) (by have := hm7.1; omega) (vmax_left hm7)).mono ?_⟩
                rintro _ s7 ⟨rfl, rfl⟩
                refine ⟨_, rfl, ?_⟩
                refine ⟨_, rfl, (ac_impl_VecMax q2 q1 b a s7 (hP7.ints hb6) (hP7.ints ha6) (by omega) (by omega)).mono ?_⟩
                rintro _ s8 ⟨q8, m8, rfl, hm8, hO8, hP8, hN8⟩
                refine ⟨_, rfl, (ac_leqT q8 q3 m8 m s8 hO8.ints (hP8.ints (hP7.ints hm6)) (by have := hm8.1; omega) (by omega) (vmax_comm hm hm8)).mono ?_⟩
                rintro _ s8 ⟨rfl, rfl⟩
                refine ⟨_, rfl, ?_⟩
                refine cx_sound _ _ _ _ _ ?_
                exact ⟨.inl rfl, _, rfl, rfl⟩
          · replace h8 : (j : Int) < (b.length : Int) := of_decide_eq_true h8
            refine AW.cut lo0 s3 [(0, vS p bs.length), (2, vB false), (3, vS q1 a.length), (4, vS q2 b.length), (5, vS q3 m.length), (6, vB false), (8, vI j), (47, vB true)] ⟨rfl, rfl, rfl, rfl, rfl, rfl, rfl, rfl, trivial⟩ fun ρ0 => ?_
            have ⟨b1, o1, k1, hpe, hb1, hc1⟩ := hb3.at (Int.ofNat_lt.1 h8)
            have e1 : IntKind.wrap .i64 ((j : Int) + 1) = ((j + 1 : Nat) : Int) := wrap_i64 (by omega) (by omega)
            refine cx_sound _ _ _ _ _ ?_
            refine ⟨_, op_idx (j := (j : Int)) (n := b.length) rfl (congrArg (fun u => vS u b.length) hpe) rfl rfl rfl (Int.natCast_nonneg _) h8, ?_⟩
            refine ⟨_, op_ld rfl rfl rfl rfl hb1 hc1, ?_⟩
            refine ⟨_, rfl, ?_⟩
            rintro (_|_) h9
            · refine ⟨_, rfl, ?_⟩
              refine AW.cut lo0 s3 [(0, vS p bs.length), (2, vB false), (3, vS q1 a.length), (4, vS q2 b.length), (5, vS q3 m.length), (6, vB false), (8, vI j), (47, vB true)] ⟨rfl, rfl, rfl, rfl, rfl, rfl, rfl, rfl, trivial⟩ fun ρ0 => ?_
              refine ⟨_, rfl, ?_⟩
              exact ⟨(_, j + 1), b.length - (j + 1), by simp only at hj; omega, ⟨rfl, rfl, rfl, rfl, rfl, rfl, congrArg (Value.int .i64) e1, trivial⟩, rfl, rfl, Int.ofNat_lt.1 h8, rfl⟩
            · refine ⟨_, rfl, ?_⟩
              refine AW.cut lo0 s3 [(0, vS p bs.length), (2, vB false), (3, vS q1 a.length), (4, vS q2 b.length), (5, vS q3 m.length), (6, vB true), (8, vI j), (47, vB true)] ⟨rfl, rfl, rfl, rfl, rfl, rfl, rfl, rfl, trivial⟩ fun ρ0 => ?_
              refine ⟨_, rfl, ?_⟩
              exact ⟨(_, j + 1), b.length - (j + 1), by simp only at hj; omega, ⟨rfl, rfl, rfl, rfl, rfl, rfl, congrArg (Value.int .i64) e1, trivial⟩, rfl, rfl, Int.ofNat_lt.1 h8, rfl⟩
        · iterate 2 refine ⟨_, rfl, ?_⟩
          rintro (_|_) h8
          · replace h8 : ¬ ((j : Int) < (b.length : Int)) := of_decide_eq_false h8
            refine AW.cut lo0 s3 [(0, vS p bs.length), (2, vB false), (3, vS q1 a.length), (4, vS q2 b.length), (5, vS q3 m.length), (6, vB true), (8, vI j), (47, vB false)] ⟨rfl, rfl, rfl, rfl, rfl, rfl, rfl, rfl, trivial⟩ fun ρ0 => ?_
            refine cx_sound _ _ _ _ _ ?_
            refine AW.cut lo0 s3 [(0, vS p bs.length), (2, vB false), (3, vS q1 a.length), (4, vS q2 b.length), (5, vS q3 m.length), (6, vB true), (8, vI j), (47, vB false), (58, vB true)] ⟨rfl, rfl, rfl, rfl, rfl, rfl, rfl, rfl, rfl, trivial⟩ fun ρ0 => ?_
            refine cx_sound _ _ _ _ _ ?_
            exact ⟨.inl rfl, _, rfl, rfl⟩
          · replace h8 : (j : Int) < (b.length : Int) := of_decide_eq_true h8
            refine AW.cut lo0 s3 [(0, vS p bs.length), (2, vB false), (3, vS q1 a.length), (4, vS q2 b.length), (5, vS q3 m.length), (6, vB true), (8, vI j), (47, vB true)] ⟨rfl, rfl, rfl, rfl, rfl, rfl, rfl, rfl, trivial⟩ fun ρ0 => ?_
            have ⟨b1, o1, k1, hpe, hb1, hc1⟩ := hb3.at (Int.ofNat_lt.1 h8)
            have e1 : IntKind.wrap .i64 ((j : Int) + 1) = ((j + 1 : Nat) : Int) := wrap_i64 (by omega) (by omega)
            refine cx_sound _ _ _ _ _ ?_
            refine ⟨_, rfl, ?_⟩
            refine AW.cut lo0 s3 [(0, vS p bs.length), (2, vB false), (3, vS q1 a.length), (4, vS q2 b.length), (5, vS q3 m.length), (6, vB true), (8, vI j), (47, vB true)] ⟨rfl, rfl, rfl, rfl, rfl, rfl, rfl, rfl, trivial⟩ fun ρ0 => ?_
            refine ⟨_, rfl, ?_⟩
            exact ⟨(_, j + 1), b.length - (j + 1), by simp only at hj; omega, ⟨rfl, rfl, rfl, rfl, rfl, rfl, congrArg (Value.int .i64) e1, trivial⟩, rfl, rfl, Int.ofNat_lt.1 h8, rfl⟩
      · replace h6 : (j : Int) < (a.length : Int) := of_decide_eq_true h6
        refine AW.cut lo0 s3 [(0, vS p bs.length), (2, vB false), (3, vS q1 a.length), (4, vS q2 b.length), (5, vS q3 m.length), (6, vB false), (7, vI j), (33, vB true)] ⟨rfl, rfl, rfl, rfl, rfl, rfl, rfl, rfl, trivial⟩ fun ρ0 => ?_
        have ⟨b1, o1, k1, hpe, hb1, hc1⟩ := ha3.at (Int.ofNat_lt.1 h6)
        have e1 : IntKind.wrap .i64 ((j : Int) + 1) = ((j + 1 : Nat) : Int) := wrap_i64 (by omega) (by omega)
        refine cx_sound _ _ _ _ _ ?_
        refine ⟨_, op_idx (j := (j : Int)) (n := a.length) rfl (congrArg (fun u => vS u a.length) hpe) rfl rfl rfl (Int.natCast_nonneg _) h6, ?_⟩
        refine ⟨_, op_ld rfl rfl rfl rfl hb1 hc1, ?_⟩
        refine ⟨_, rfl, ?_⟩
        rintro (_|_) h7
        · refine ⟨_, rfl, ?_⟩
          refine AW.cut lo0 s3 [(0, vS p bs.length), (2, vB false), (3, vS q1 a.length), (4, vS q2 b.length), (5, vS q3 m.length), (6, vB false), (7, vI j), (33, vB true)] ⟨rfl, rfl, rfl, rfl, rfl, rfl, rfl, rfl, trivial⟩ fun ρ0 => ?_
          refine ⟨_, rfl, ?_⟩
          exact ⟨(_, j + 1), a.length - (j + 1), by simp only at hj; omega, ⟨rfl, rfl, rfl, rfl, rfl, rfl, congrArg (Value.int .i64) e1, trivial⟩, rfl, rfl, Int.ofNat_lt.1 h6, rfl⟩
        · refine ⟨_, rfl, ?_⟩
          refine AW.cut lo0 s3 [(0, vS p bs.length), (2, vB false), (3, vS q1 a.length), (4, vS q2 b.length), (5, vS q3 m.length), (6, vB true), (7, vI j), (33, vB true)] ⟨rfl, rfl, rfl, rfl, rfl, rfl, rfl, rfl, trivial⟩ fun ρ0 => ?_
          refine ⟨_, rfl, ?_⟩
          exact ⟨(_, j + 1), a.length - (j + 1), by simp only at hj; omega, ⟨rfl, rfl, rfl, rfl, rfl, rfl, congrArg (Value.int .i64) e1, trivial⟩, rfl, rfl, Int.ofNat_lt.1 h6, rfl⟩
    · iterate 2 refine ⟨_, rfl, ?_⟩
      rintro (_|_) h6
      · replace h6 : ¬ ((j : Int) < (a.length : Int)) := of_decide_eq_false h6
        refine AW.cut lo0 s3 [(0, vS p bs.length), (2, vB false), (3, vS q1 a.length), (4, vS q2 b.length), (5, vS q3 m.length), (6, vB true), (7, vI j), (33, vB false)] ⟨rfl, rfl, rfl, rfl, rfl, rfl, rfl, rfl, trivial⟩ fun ρ0 => ?_
        refine cx_sound _ _ _ _ _ ?_
        refine AW.cut lo0 s3 [(0, vS p bs.length), (2, vB false), (3, vS q1 a.length), (4, vS q2 b.length), (5, vS q3 m.length), (6, vB true), (7, vI j), (8, vI (0)), (33, vB false)] ⟨rfl, rfl, rfl, rfl, rfl, rfl, rfl, rfl, rfl, trivial⟩ fun ρ0 => ?_
        refine AW.loop0 (fun x : Bool × Nat => [(0, vS p bs.length), (2, vB false), (3, vS q1 a.length), (4, vS q2 b.length), (5, vS q3 m.length), (6, vB x.1), (8, vI x.2)]) (fun m (x : Bool × Nat) st' => m = b.length - x.2 ∧ x.2 ≤ b.length ∧ s3 = st') (_, 0) _ ⟨rfl, rfl, rfl, rfl, rfl, rfl, rfl, trivial⟩ rfl ⟨rfl, Nat.zero_le _, rfl⟩ ?_
        rintro m ⟨y, j⟩ ρ0 st' ⟨rfl, hj, rfl⟩
        rcases y with _|_
        · iterate 2 refine ⟨_, rfl, ?_⟩
          rintro (_|_) h8
          · replace h8 : ¬ ((j : Int) < (b.length : Int)) := of_decide_eq_false h8
            refine AW.cut lo0 s3 [(0, vS p bs.length), (2, vB false), (3, vS q1 a.length), (4, vS q2 b.length), (5, vS q3 m.length), (6, vB false), (8, vI j), (47, vB false)] ⟨rfl, rfl, rfl, rfl, rfl, rfl, rfl, rfl, trivial⟩ fun ρ0 => ?_
            refine cx_sound _ _ _ _ _ ?_
            refine AW.cut lo0 s3 [(0, vS p bs.length), (2, vB false), (3, vS q1 a.length), (4, vS q2 b.length), (5, vS q3 m.length), (6, vB false), (8, vI j), (47, vB false), (58, vB false)] ⟨rfl, rfl, rfl, rfl, rfl, rfl, rfl, rfl, rfl, trivial⟩ fun ρ0 => ?_
            refine cx_sound _ _ _ _ _ ?_
            refine ⟨_, rfl, (ac_spec_DrawVecRaise p bs s3 hI3 (by omega)).mono ?_⟩
            rintro _ s5 ⟨q5, v, i, n, rfl, hv, lv, hP5⟩
            iterate 3 refine ⟨_, rfl, ?_⟩
            refine AW.cut lo0 s5 [(0, vS p bs.length), (2, vB false), (3, vS q1 a.length), (4, vS q2 b.length), (5, vS q3 m.length), (6, vB false), (8, vI j), (9, vS q5 v.length), (10, vI i), (11, vI n), (47, vB false), (58, vB false)] ⟨rfl, rfl, rfl, rfl, rfl, rfl, rfl, rfl, rfl, rfl, rfl, rfl, trivial⟩ fun ρ0 => ?_
            refine ⟨_, rfl, (ac_impl_VecRaise q5 v i n s5 hv (by omega)).mono ?_⟩
            rintro _ s6 ⟨q6, rfl, hO6, hP6, hN6⟩
            refine AW.cut lo0 s6 [(0, vS p bs.length), (2, vB false), (3, vS q1 a.length), (4, vS q2 b.length), (5, vS q3 m.length), (6, vB false), (8, vI j), (9, vS q5 v.length), (10, vI i), (11, vI n), (12, vS q6 v.length), (47, vB false), (58, vB false)] ⟨rfl, rfl, rfl, rfl, rfl, rfl, rfl, rfl, rfl, rfl, rfl, rfl, rfl, trivial⟩ fun ρ0 => ?_
            have ha6 := (hP5.trans hP6).ints ha3
            have hb6 := (hP5.trans hP6).ints hb3
            have hm6 := (hP5.trans hP6).ints hm3
            have hR := hO6.ints
            have ⟨hr1, hr2⟩ := vraise_spec v i n
            iterate 3 refine ⟨_, rfl, ?_⟩
            rintro (_|_) h10
            rotate_left
            · exact absurd (rfl) (bne_iff_ne.1 h10)
            refine ⟨_, rfl, ?_⟩
            rintro (_|_) h11
            · replace h11 : ¬ (0 ≤ i) := of_decide_eq_false h11
              iterate 3 refine ⟨_, rfl, ?_⟩
              refine AW.cut lo0 s6 [(0, vS p bs.length), (2, vB false), (3, vS q1 a.length), (4, vS q2 b.length), (5, vS q3 m.length), (6, vB false), (8, vI j), (9, vS q5 v.length), (10, vI i), (11, vI n), (12, vS q6 v.length), (47, vB false), (58, vB false), (91, vB false)] ⟨rfl, rfl, rfl, rfl, rfl, rfl, rfl, rfl, rfl, rfl, rfl, rfl, rfl, rfl, trivial⟩ fun ρ0 => ?_
              refine cx_sound _ _ _ _ _ ?_
              refine ⟨_, rfl, (ac_leqT q1 q3 a m s6 ha6 hm6 (by omega) (by omega) (vmax_left hm)).mono ?_⟩
              rintro _ s6 ⟨rfl, rfl⟩
              refine ⟨_, rfl, (ac_leqT q2 q3 b m s6 hb6 hm6 (by omega) (by omega) (vmax_right hm)).mono ?_⟩
              rintro _ s6 ⟨rfl, rfl⟩
              refine ⟨_, rfl, ?_⟩
              refine ⟨_, rfl, (ac_impl_VecMax q3 q1 m a s6 hm6 ha6 (by omega) (by omega)).mono ?_⟩
              rintro _ s7 ⟨q7, m7, rfl, hm7, hO7, hP7, hN7⟩
              refine ⟨_, rfl, (ac_leqT q3 q7 m m7 s7 (hP7.ints hm6) hO7.ints (by omega) (by have := hm7.1; omega) (vmax_left hm7)).mono ?_⟩
              rintro _ s7 ⟨rfl, rfl⟩
              refine ⟨_, rfl, ?_⟩
              refine ⟨_, rfl, (ac_impl_VecMax q2 q1 b a s7 (hP7.ints hb6) (hP7.ints ha6) (by omega) (by omega)).mono ?_⟩
              rintro _ s8 ⟨q8, m8, rfl, hm8, hO8, hP8, hN8⟩
              refine ⟨_, rfl, (ac_leqT q8 q3 m8 m s8 hO8.ints (hP8.ints (hP7.ints hm6)) (by have := hm8.1; omega) (by omega) (vmax_comm hm hm8)).mono ?_⟩
              rintro _ s8 ⟨rfl, rfl⟩
              refine ⟨_, rfl, ?_⟩
              refine cx_sound _ _ _ _ _ ?_
              exact ⟨.inl rfl, _, rfl, rfl⟩
            · replace h11 : 0 ≤ i := of_decide_eq_true h11
              iterate 2 refine ⟨_, rfl, ?_⟩
              rintro (_|_) h12
              · replace h12 : ¬ (i < (v.length : Int)) := of_decide_eq_false h12
                iterate 3 refine ⟨_, rfl, ?_⟩
                refine AW.cut lo0 s6 [(0, vS p bs.length), (2, vB false), (3, vS q1 a.length), (4, vS q2 b.length), (5, vS q3 m.length), (6, vB false), (8, vI j), (9, vS q5 v.length), (10, vI i), (11, vI n), (12, vS q6 v.length), (47, vB false), (58, vB false), (91, vB false)] ⟨rfl, rfl, rfl, rfl, rfl, rfl, rfl, rfl, rfl, rfl, rfl, rfl, rfl, rfl, trivial⟩ fun ρ0 => ?_
                refine cx_sound _ _ _ _ _ ?_
                refine ⟨_, rfl, (ac_leqT q1 q3 a m s6 ha6 hm6 (by omega) (by omega) (vmax_left hm)).mono ?_⟩
                rintro _ s6 ⟨rfl, rfl⟩
                refine ⟨_, rfl, (ac_leqT q2 q3 b m s6 hb6 hm6 (by omega) (by omega) (vmax_right hm)).mono ?_⟩
                rintro _ s6 ⟨rfl, rfl⟩
                refine ⟨_, rfl, ?_⟩
                refine ⟨_, rfl, (ac_impl_VecMax q3 q1 m a s6 hm6 ha6 (by omega) (by omega)).mono ?_⟩
                rintro _ s7 ⟨q7, m7, rfl, hm7, hO7, hP7, hN7⟩
                refine ⟨_, rfl, (ac_leqT q3 q7 m m7 s7 (hP7.ints hm6) hO7.ints (by omega) (by have := hm7.1; omega) (vmax_left hm7)).mono ?_⟩
                rintro _ s7 ⟨rfl, rfl⟩
                refine ⟨_, rfl, ?_⟩
                refine ⟨_, rfl, (ac_impl_VecMax q2 q1 b a s7 (hP7.ints hb6) (hP7.ints ha6) (by omega) (by omega)).mono ?_⟩
                rintro _ s8 ⟨q8, m8, rfl, hm8, hO8, hP8, hN8⟩
                refine ⟨_, rfl, (ac_leqT q8 q3 m8 m s8 hO8.ints (hP8.ints (hP7.ints hm6)) (by have := hm8.1; omega) (by omega) (vmax_comm hm hm8)).mono ?_⟩
                rintro _ s8 ⟨rfl, rfl⟩
                refine ⟨_, rfl, ?_⟩
                refine cx_sound _ _ _ _ _ ?_
                exact ⟨.inl rfl, _, rfl, rfl⟩
              · replace h12 : i < (v.length : Int) := of_decide_eq_true h12
                refine ⟨_, rfl, ?_⟩
                have ⟨b1, o1, k1, hpe, hb1, hc1⟩ := hR.at (j := i.toNat) (by rw [hr1]; omega)
                refine ⟨_, op_idx (j := i) (n := v.length) (q := ⟨b1, o1, none⟩) rfl (congrArg (fun u => vS u v.length) hpe) rfl rfl rfl h11 h12, ?_⟩
                refine ⟨_, op_ld rfl rfl rfl rfl hb1 hc1, ?_⟩
                refine ⟨_, rfl, ?_⟩
                rintro (_|_) h13
                rotate_left
                · exact absurd (of_decide_eq_true h13) (Int.not_lt.2 (hr2 h11 h12))
                iterate 2 refine ⟨_, rfl, ?_⟩
                refine AW.cut lo0 s6 [(0, vS p bs.length), (2, vB false), (3, vS q1 a.length), (4, vS q2 b.length), (5, vS q3 m.length), (6, vB false), (8, vI j), (9, vS q5 v.length), (10, vI i), (11, vI n), (12, vS q6 v.length), (47, vB false), (58, vB false), (91, vB false)] ⟨rfl, rfl, rfl, rfl, rfl, rfl, rfl, rfl, rfl, rfl, rfl, rfl, rfl, rfl, trivial⟩ fun ρ0 => ?_
                refine cx_sound _ _ _ _ _ ?_
                refine ⟨_, rfl, (ac_leqT q1 q3 a m s6 ha6 hm6 (by omega) (by omega) (vmax_left hm)).mono ?_⟩
                rintro _ s6 ⟨rfl, rfl⟩
                refine ⟨_, rfl, (ac_leqT q2 q3 b m s6 hb6 hm6 (by omega) (by omega) (vmax_right hm)).mono ?_⟩
                rintro _ s6 ⟨rfl, rfl⟩
                refine ⟨_, rfl, ?_⟩
                refine ⟨_, rfl, (ac_impl_VecMax q3 q1 m a s6 hm6 ha6 (by omega) (by omega)).mono ?_⟩
                rintro _ s7 ⟨q7, m7, rfl, hm7, hO7, hP7, hN7⟩
                refine ⟨_, rfl, (ac_leqT q3 q7 m m7 s7 (hP7.ints hm6) hO7.ints (by omega) (by have := hm7.1; omega) (vmax_left hm7)).mono ?_⟩
                rintro _ s7 ⟨rfl, rfl⟩
                refine ⟨_, rfl, ?_⟩
                refine ⟨_, rfl, (ac_impl_VecMax q2 q1 b a s7 (hP7.ints hb6) (hP7.ints ha6) (by omega) (by omega)).mono ?_⟩
                rintro _ s8 ⟨q8, m8, rfl, hm8, hO8, hP8, hN8⟩
                refine ⟨_, rfl, (ac_leqT q8 q3 m8 m s8 hO8.ints (hP8.ints (hP7.ints hm6)) (by have := hm8.1; omega) (by omega) (vmax_comm hm hm8)).mono ?_⟩
                rintro _ s8 ⟨rfl, rfl⟩
                refine ⟨_, rfl, ?_⟩
                refine cx_sound _ _ _ _ _ ?_
                exact ⟨.inl rfl, _, rfl, rfl⟩
          · replace h8 : (j : Int) < (b.length : Int) := of_decide_eq_true h8
            refine AW.cut lo0 s3 [(0, vS p bs.length), (2, vB false), (3, vS q1 a.length), (4, vS q2 b.length), (5, vS q3 m.length), (6, vB false), (8, vI j), (47, vB true)] ⟨rfl, rfl, rfl, rfl, rfl, rfl, rfl, rfl, trivial⟩ fun ρ0 => ?_
            have ⟨b1, o1, k1, hpe, hb1, hc1⟩ := hb3.at (Int.ofNat_lt.1 h8)
            have e1 : IntKind.wrap .i64 ((j : Int) + 1) = ((j + 1 : Nat) : Int) := wrap_i64 (by omega) (by omega)
            refine cx_sound _ _ _ _ _ ?_
            refine ⟨_, op_idx (j := (j : Int)) (n := b.length) rfl (congrArg (fun u => vS u b.length) hpe) rfl rfl rfl (Int.natCast_nonneg _) h8, ?_⟩
            refine ⟨_, op_ld rfl rfl rfl rfl hb1 hc1, ?_⟩
            refine ⟨_, rfl, ?_⟩
            rintro (_|_) h9
            · refine ⟨_, rfl, ?_⟩
              refine AW.cut lo0 s3 [(0, vS p bs.length), (2, vB false), (3, vS q1 a.length), (4, vS q2 b.length), (5, vS q3 m.length), (6, vB false), (8, vI j), (47, vB true)] ⟨rfl, rfl, rfl, rfl, rfl, rfl, rfl, rfl, trivial⟩ fun ρ0 => ?_
              refine ⟨_, rfl, ?_⟩
              exact ⟨(_, j + 1), b.length - (j + 1), by simp only at hj; omega, ⟨rfl, rfl, rfl, rfl, rfl, rfl, congrArg (Value.int .i64) e1, trivial⟩, rfl, rfl, Int.ofNat_lt.1 h8, rfl⟩
            · refine ⟨_, rfl, ?_⟩
              refine AW.cut lo0 s3 [(0, vS p bs.length), (2, vB false), (3, vS q1 a.length), (4, vS q2 b.length), (5, vS q3 m.length), (6, vB true), (8, vI j), (47, vB true)] ⟨rfl, rfl, rfl, rfl, rfl, rfl, rfl, rfl, trivial⟩ fun ρ0 => ?_
              refine ⟨_, rfl, ?_⟩
              exact ⟨(_, j + 1), b.length - (j + 1), by simp only at hj; omega, ⟨rfl, rfl, rfl, rfl, rfl, rfl, congrArg (Value.int .i64) e1, trivial⟩, rfl, rfl, Int.ofNat_lt.1 h8, rfl⟩
        · iterate 2 refine ⟨_, rfl, ?_⟩
          rintro (_|_) h8
          · replace h8 : ¬ ((j : Int) < (b.length : Int)) := of_decide_eq_false h8
            refine AW.cut lo0 s3 [(0, vS p bs.length), (2, vB false), (3, vS q1 a.length), (4, vS q2 b.length), (5, vS q3 m.length), (6, vB true), (8, vI j), (47, vB false)] ⟨rfl, rfl, rfl, rfl, rfl, rfl, rfl, rfl, trivial⟩ fun ρ0 => ?_
            refine cx_sound _ _ _ _ _ ?_
            refine AW.cut lo0 s3 [(0, vS p bs.length), (2, vB false), (3, vS q1 a.length), (4, vS q2 b.length), (5, vS q3 m.length), (6, vB true), (8, vI j), (47, vB false), (58, vB true)] ⟨rfl, rfl, rfl, rfl, rfl, rfl, rfl, rfl, rfl, trivial⟩ fun ρ0 => ?_
            refine cx_sound _ _ _ _ _ ?_
            exact ⟨.inl rfl, _, rfl, rfl⟩
          · replace h8 : (j : Int) < (b.length : Int) := of_decide_eq_true h8
            refine AW.cut lo0 s3 [(0, vS p bs.length), (2, vB false), (3, vS q1 a.length), (4, vS q2 b.length), (5, vS q3 m.length), (6, vB true), (8, vI j), (47, vB true)] ⟨rfl, rfl, rfl, rfl, rfl, rfl, rfl, rfl, trivial⟩ fun ρ0 => ?_
            have ⟨b1, o1, k1, hpe, hb1, hc1⟩ := hb3.at (Int.ofNat_lt.1 h8)
            have e1 : IntKind.wrap .i64 ((j : Int) + 1) = ((j + 1 : Nat) : Int) := wrap_i64 (by omega) (by omega)
            refine cx_sound _ _ _ _ _ ?_
            refine ⟨_, rfl, ?_⟩
            refine AW.cut lo0 s3 [(0, vS p bs.length), (2, vB false), (3, vS q1 a.length), (4, vS q2 b.length), (5, vS q3 m.length), (6, vB true), (8, vI j), (47, vB true)] ⟨rfl, rfl, rfl, rfl, rfl, rfl, rfl, rfl, trivial⟩ fun ρ0 => ?_
            refine ⟨_, rfl, ?_⟩
            exact ⟨(_, j + 1), b.length - (j + 1), by simp only at hj; omega, ⟨rfl, rfl, rfl, rfl, rfl, rfl, congrArg (Value.int .i64) e1, trivial⟩, rfl, rfl, Int.ofNat_lt.1 h8, rfl⟩
      · replace h6 : (j : Int) < (a.length : Int) := of_decide_eq_true h6
        refine AW.cut lo0 s3 [(0, vS p bs.length), (2, vB false), (3, vS q1 a.length), (4, vS q2 b.length), (5, vS q3 m.length), (6, vB true), (7, vI j), (33, vB true)] ⟨rfl, rfl, rfl, rfl, rfl, rfl, rfl, rfl, trivial⟩ fun ρ0 => ?_
        have ⟨b1, o1, k1, hpe, hb1, hc1⟩ := ha3.at (Int.ofNat_lt.1 h6)
        have e1 : IntKind.wrap .i64 ((j : Int) + 1) = ((j + 1 : Nat) : Int) := wrap_i64 (by omega) (by omega)
        refine cx_sound _ _ _ _ _ ?_
        refine ⟨_, rfl, ?_⟩
        refine AW.cut lo0 s3 [(0, vS p bs.length), (2, vB false), (3, vS q1 a.length), (4, vS q2 b.length), (5, vS q3 m.length), (6, vB true), (7, vI j), (33, vB true)] ⟨rfl, rfl, rfl, rfl, rfl, rfl, rfl, rfl, trivial⟩ fun ρ0 => ?_
        refine ⟨_, rfl, ?_⟩
        exact ⟨(_, j + 1), a.length - (j + 1), by simp only at hj; omega, ⟨rfl, rfl, rfl, rfl, rfl, rfl, congrArg (Value.int .i64) e1, trivial⟩, rfl, rfl, Int.ofNat_lt.1 h6, rfl⟩
  · replace hb := of_decide_eq_true hb.symm
    refine AW.cut lo0 st [(0, vS p bs.length), (2, vB false), (14, vB true)] ⟨rfl, rfl, rfl, trivial⟩ fun ρ0 => ?_
    refine cx_sound _ _ _ _ _ ?_
    exact ⟨.inl rfl, _, rfl, rfl⟩
end Go.Proofs.Ytopakkndacbbpaa.AM
