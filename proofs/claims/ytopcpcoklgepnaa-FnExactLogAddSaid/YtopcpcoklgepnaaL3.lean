/- The laws of pruning, of logs that are cut and added to, on the abstract machine. -/
import Derived.Test.YtopcpcoklgepnaaN2
import Derived.Test.YtopcpcoklgepnaaN3
import Derived.Test.YtopcpcoklgepnaaN1
import Derived.Test.YtopcpcoklgepnaaU2
import Derived.Test.YtopcpcoklgepnaaD3
namespace Go.Proofs.Ytopcpcoklgepnaa.AM
open Go Go.Proofs
set_option linter.unusedVariables false
set_option linter.unusedSimpArgs false
set_option maxRecDepth 100000
set_option maxHeartbeats 4000000
theorem big_prune {s x : Sta} {t : List (List Int)} (h : x = pruneF s t) (hb : bigS s) : bigS x := by
  rw [h, pruneF]
  split
  · exact bigS_join hb (big_floors (marksF_len _ 5))
  · exact hb
theorem big_drop {g x : Lg} {n : Int} (h : x = dropL g n) (hb : bigLog g) : bigLog x := by
  rw [h, dropL]
  split
  · refine ⟨?_, fun s hs => hb.2 s (List.mem_of_mem_drop hs)⟩
    have := hb.1
    unfold szOk at this ⊢
    simp only [List.length_drop]
    omega
  · exact hb
theorem sumOf_sub {α : Type} {f : α → Nat} {a b : List α} (h : a.Sublist b) : sumOf f a ≤ sumOf f b := by
  unfold sumOf
  induction h with
  | slnil => exact Nat.le_refl _
  | cons a _ ih => simp only [List.map_cons, List.sum_cons]; omega
  | cons_cons a _ ih => simp only [List.map_cons, List.sum_cons]; omega
theorem cnt_drop {g x : Lg} {n : Int} (h : x = dropL g n) (hc : cntLog g ≤ 8388608) : cntLog x ≤ 8388608 := by
  rw [h, dropL]
  split
  · exact Nat.le_trans (sumOf_sub (List.drop_sublist _ _)) hc
  · exact hc
theorem big_add {g x : Lg} {d : Sta} {b : Bool} (h : (x, b) = addL g d) (hb : bigLog g) (hd : bigS d) : bigLog x := by
  have hx : x = (addL g d).1 := congrArg Prod.fst h
  have hall : ∀ s ∈ g.list ++ [d], bigS s := fun s hs => by
    rcases List.mem_append.1 hs with h | h
    · exact hb.2 s h
    · rw [List.mem_singleton.1 h]; exact hd
  rw [hx, addL]
  split
  · rename_i hk
    have h1 := hk.1.2.1
    have h2 := hk.1.1.2
    split
    · refine ⟨?_, fun s hs => hall s (List.mem_of_mem_drop hs)⟩
      unfold szOk
      simp only [List.length_drop, List.length_append, List.length_singleton]
      omega
    · refine ⟨?_, hall⟩
      unfold szOk
      simp only [List.length_append, List.length_singleton]
      omega
  · exact hb
theorem cnt_add {g x : Lg} {d : Sta} {b : Bool} (h : (x, b) = addL g d) (hc : cntLog g ≤ 8388608) (hd : cntState d ≤ 8388608) : cntLog x ≤ 16777216 := by
  have hx : x = (addL g d).1 := congrArg Prod.fst h
  have h1 : sumOf cntS (g.list ++ [d]) = sumOf cntS g.list + cntS d := by simp [sumOf]
  have h2 : sumOf cntS g.list ≤ 8388608 := hc
  have h3 : cntS d ≤ 8388608 := hd
  rw [hx, addL]
  split
  · split
    · exact Nat.le_trans (sumOf_sub (List.drop_sublist 1 (g.list ++ [d]))) (by omega)
    · show sumOf cntS (g.list ++ [d]) ≤ 16777216
      omega
  · show sumOf cntS g.list ≤ 16777216
    omega
theorem uc_impl_Prune (s : SV) (g : TT) (st : St) (hR : RdS st s) (hT : RdT st g.p g.t) (hb : bigS s.x) (hbt : bigT g.x) : C 51 [.agg #[vS s.p s.x.items.length, vS s.q s.x.floors.length], vS g.p g.t.length] st (fun v s' => ∃ u : SV, v = .agg #[vS u.p u.x.items.length, vS u.q u.x.floors.length] ∧ u.x = pruneF s.x g.x ∧ OwnP s' (pcS u) ∧ NewP st.next (pcS u) ∧ Pres st s') :=
  ac_impl_Prune s g.p g.t st hR hT hb (bigT_iff.1 hbt).1 (bigT_iff.1 hbt).2
theorem uc_spec_Prune (s : SV) (g : TT) (st : St) (hR : RdS st s) (hT : RdT st g.p g.t) (hb : bigS s.x) (hbt : bigT g.x) : C 49 [.agg #[vS s.p s.x.items.length, vS s.q s.x.floors.length], vS g.p g.t.length] st (fun v s' => ∃ u : SV, v = .agg #[vS u.p u.x.items.length, vS u.q u.x.floors.length] ∧ u.x = pruneF s.x g.x ∧ OwnP s' (pcS u) ∧ NewP st.next (pcS u) ∧ Pres st s') :=
  ac_spec_Prune s g.p g.t st hR hT hb (bigT_iff.1 hbt).1 (bigT_iff.1 hbt).2
theorem ac_laws_FnExactPrune (s : SV) (t : TT) (st : St) (hR_s : RdS st s ∧ maxS s.x) (hR_t : RdT st t.p t.t ∧ maxT t.t) : C 11 [.agg #[vS s.p s.x.items.length, vS s.q s.x.floors.length], vS t.p t.t.length] st (fun v s => v = vB true) := by
  refine AC.enterX (i := ⟨[2, 6, 7, 9, 13], [2, 6, 7, 9, 13], [0, 1, 2, 4, 5, 6, 7, 8, 9, 10, 11, 12, 13, 18, 23, 39, 44, 49, 63, 71, 74, 83, 88, 91]⟩) [(14, [2], [0])] Try.func11 rfl rfl (by kernel_rfl) (by kernel_rfl) Try.ntmps11 (Nat.le_of_ble_eq_true rfl) rfl ?_
  refine ⟨_, rfl, ?_⟩
  refine cx_sound _ _ _ _ _ ?_
  refine AW.cutM (1) st [(1, vS t.p t.t.length), (2, vL 2 0 (0)), (4, vB false), (5, vI (1048576))] [(2, 0, [vS s.p s.x.items.length, vS s.q s.x.floors.length])] ⟨rfl, rfl, rfl, rfl, trivial⟩ ⟨rfl, trivial⟩ rfl fun ρ0 ff => ?_
  refine ⟨_, rfl, ?_⟩
  refine ⟨_, rfl, (ac_laws_szState s 1048576 st hR_s.1 (by decide) (by decide) hR_s.2).mono ?_⟩
  rintro _ st ⟨z_s, rfl, hr_s, hz_s, rfl⟩
  refine AW.cutM (1) st [(1, vS t.p t.t.length), (2, vL 2 0 (0)), (4, vB false), (5, vI z_s)] [(2, 0, [vS s.p s.x.items.length, vS s.q s.x.floors.length])] ⟨rfl, rfl, rfl, rfl, trivial⟩ ⟨rfl, trivial⟩ rfl fun ρ0 ff => ?_
  refine ⟨_, rfl, ?_⟩
  rintro (_|_) hn_s
  · replace hn_s : ¬ (z_s < 0) := of_decide_eq_false hn_s
    refine AW.cutM (1) st [(1, vS t.p t.t.length), (2, vL 2 0 (0)), (4, vB false), (5, vI z_s), (18, vB false)] [(2, 0, [vS s.p s.x.items.length, vS s.q s.x.floors.length])] ⟨rfl, rfl, rfl, rfl, rfl, trivial⟩ ⟨rfl, trivial⟩ rfl fun ρ0 ff => ?_
    refine cx_sound _ _ _ _ _ ?_
    refine ⟨_, rfl, (uc_szIntSS t z_s st hR_t.1 (by omega) (by omega) hR_t.2).mono ?_⟩
    rintro _ st ⟨z_t, rfl, hr_t, hz_t, rfl⟩
    refine AW.cutM (1) st [(1, vS t.p t.t.length), (2, vL 2 0 (0)), (4, vB false), (5, vI z_t)] [(2, 0, [vS s.p s.x.items.length, vS s.q s.x.floors.length])] ⟨rfl, rfl, rfl, rfl, trivial⟩ ⟨rfl, trivial⟩ rfl fun ρ0 ff => ?_
    refine ⟨_, rfl, ?_⟩
    rintro (_|_) hn_t
    · replace hn_t : ¬ (z_t < 0) := of_decide_eq_false hn_t
      refine AW.cutM (1) st [(1, vS t.p t.t.length), (2, vL 2 0 (0)), (4, vB false), (23, vB false)] [(2, 0, [vS s.p s.x.items.length, vS s.q s.x.floors.length])] ⟨rfl, rfl, rfl, rfl, trivial⟩ ⟨rfl, trivial⟩ rfl fun ρ0 ff => ?_
      have hz_s' := hz_s (by omega)
      have hz_t' := hz_t (by omega)
      have hb_s := sz_bigS (s := s.x) (by omega)
      have hc_s : cntState s.x ≤ 8388608 := cnt_State (hb_s)
      have hb_t := sz_bigT (g := t) (by omega)
      have hc_t : cntTab t.x ≤ 8388608 := (show cntTab (rls t.t) ≤ 8388608 by have h1 := cntTab_t t.t; omega)
      refine cx_sound _ _ _ _ _ ?_
      refine ⟨_, rfl, ?_⟩
      refine ⟨_, rfl, (ac_laws_toState s st hR_s.1 hb_s).mono ?_⟩
      rintro _ s1 ⟨u1, rfl, hu1, hO1, hN1, hP1⟩
      refine ⟨_, rfl, (uc_toIntSS t s1 (hR_t.1.pres hP1) hb_t).mono ?_⟩
      rintro _ s2 ⟨u2, rfl, hu2, hO2, hN2, hP2⟩
      refine ⟨_, rfl, (uc_spec_Prune u1 u2 s2 (OwnP.rdS (OwnP.left (OwnP.right (OwnP.joinF (OwnP.joinF OwnP.nil hP1 hO1 hN1) hP2 hO2 hN2)))) (OwnP.rdT (OwnP.left (OwnP.joinF (OwnP.joinF OwnP.nil hP1 hO1 hN1) hP2 hO2 hN2))) (hu1 ▸ hb_s) (hu2 ▸ hb_t)).mono ?_⟩
      rintro _ s3 ⟨r3, rfl, hr3, hO3, hN3, hP3⟩
      iterate 2 refine ⟨_, rfl, ?_⟩
      refine AW.cutM (2) s3 [(1, vS t.p t.t.length), (2, vL 2 0 (0)), (4, vB false), (6, vL 6 0 (1))] [(2, 0, [vS s.p s.x.items.length, vS s.q s.x.floors.length]), (6, 1, [vS r3.p r3.x.items.length, vS r3.q r3.x.floors.length])] ⟨rfl, rfl, rfl, rfl, trivial⟩ ⟨rfl, rfl, trivial⟩ rfl fun ρ0 ff => ?_
      have hA8 : OwnP s3 (pcS r3 ++ (pcTT u2 ++ (pcS u1 ++ []))) := (OwnP.joinF (OwnP.joinF (OwnP.joinF OwnP.nil hP1 hO1 hN1) hP2 hO2 hN2) hP3 hO3 hN3)
      have hQ8 : Pres st s3 := ((hP1.trans hP2).trans hP3)
      refine ⟨_, rfl, ?_⟩
      refine ⟨_, rfl, (ac_laws_toState s s3 (hR_s.1.pres hQ8) hb_s).mono ?_⟩
      rintro _ s4 ⟨u4, rfl, hu4, hO4, hN4, hP4⟩
      iterate 2 refine ⟨_, rfl, ?_⟩
      refine AW.cutM (3) s4 [(1, vS t.p t.t.length), (2, vL 2 0 (0)), (4, vB false), (6, vL 6 0 (1)), (7, vL 7 0 (2))] [(2, 0, [vS s.p s.x.items.length, vS s.q s.x.floors.length]), (6, 1, [vS r3.p r3.x.items.length, vS r3.q r3.x.floors.length]), (7, 2, [vS u4.p u4.x.items.length, vS u4.q u4.x.floors.length])] ⟨rfl, rfl, rfl, rfl, rfl, trivial⟩ ⟨rfl, rfl, rfl, trivial⟩ rfl fun ρ0 ff => ?_
      have hA9 : OwnP s4 (pcS u4 ++ (pcS r3 ++ (pcTT u2 ++ (pcS u1 ++ [])))) := (OwnP.joinF hA8 hP4 hO4 hN4)
      have hQ9 : Pres st s4 := (hQ8.trans hP4)
      refine ⟨_, rfl, (uc_toIntSS t s4 (hR_t.1.pres hQ9) hb_t).mono ?_⟩
      rintro _ s5 ⟨u5, rfl, hu5, hO5, hN5, hP5⟩
      refine AW.cutM (3) s5 [(1, vS t.p t.t.length), (2, vL 2 0 (0)), (4, vB false), (6, vL 6 0 (1)), (7, vL 7 0 (2)), (8, vS u5.p u5.t.length)] [(2, 0, [vS s.p s.x.items.length, vS s.q s.x.floors.length]), (6, 1, [vS r3.p r3.x.items.length, vS r3.q r3.x.floors.length]), (7, 2, [vS u4.p u4.x.items.length, vS u4.q u4.x.floors.length])] ⟨rfl, rfl, rfl, rfl, rfl, rfl, trivial⟩ ⟨rfl, rfl, rfl, trivial⟩ rfl fun ρ0 ff => ?_
      have hA10 : OwnP s5 (pcTT u5 ++ (pcS u4 ++ (pcS r3 ++ (pcTT u2 ++ (pcS u1 ++ []))))) := (OwnP.joinF hA9 hP5 hO5 hN5)
      have hQ10 : Pres st s5 := (hQ9.trans hP5)
      refine ⟨_, rfl, ?_⟩
      refine ⟨_, rfl, (uc_impl_Prune u4 u5 s5 (OwnP.rdS (OwnP.left (OwnP.right hA10))) (OwnP.rdT (OwnP.left hA10)) (hu4 ▸ hb_s) (hu5 ▸ hb_t)).mono ?_⟩
      rintro _ s6 ⟨r6, rfl, hr6, hO6, hN6, hP6⟩
      iterate 2 refine ⟨_, rfl, ?_⟩
      refine AW.cutM (4) s6 [(1, vS t.p t.t.length), (2, vL 2 0 (0)), (4, vB false), (6, vL 6 0 (1)), (7, vL 7 0 (2)), (8, vS u5.p u5.t.length), (9, vL 9 0 (3))] [(2, 0, [vS s.p s.x.items.length, vS s.q s.x.floors.length]), (6, 1, [vS r3.p r3.x.items.length, vS r3.q r3.x.floors.length]), (7, 2, [vS u4.p u4.x.items.length, vS u4.q u4.x.floors.length]), (9, 3, [vS r6.p r6.x.items.length, vS r6.q r6.x.floors.length])] ⟨rfl, rfl, rfl, rfl, rfl, rfl, rfl, trivial⟩ ⟨rfl, rfl, rfl, rfl, trivial⟩ rfl fun ρ0 ff => ?_
      have hA11 : OwnP s6 (pcS r6 ++ (pcTT u5 ++ (pcS u4 ++ (pcS r3 ++ (pcTT u2 ++ (pcS u1 ++ [])))))) := (OwnP.joinF hA10 hP6 hO6 hN6)
      have hQ11 : Pres st s6 := (hQ10.trans hP6)
      have hE1 : r6.x = r3.x := by rw [hr6, hr3, hu4, hu5, hu1, hu2]
      iterate 2 refine ⟨_, rfl, ?_⟩
      refine ⟨_, rfl, (AC.tru (ac_laws_eqState r6 r3 s6 (OwnP.rdS (OwnP.left hA11)) (OwnP.rdS (OwnP.left (OwnP.right (OwnP.right (OwnP.right hA11))))) (big_prune hr6 (hu4 ▸ hb_s))) hE1).mono ?_⟩
      rintro _ s6 ⟨rfl, rfl⟩
      refine ⟨_, rfl, ?_⟩
      refine AW.cutM (4) s6 [(1, vS t.p t.t.length), (2, vL 2 0 (0)), (4, vB false), (6, vL 6 0 (1)), (7, vL 7 0 (2)), (8, vS u5.p u5.t.length), (9, vL 9 0 (3)), (39, vB false)] [(2, 0, [vS s.p s.x.items.length, vS s.q s.x.floors.length]), (6, 1, [vS r3.p r3.x.items.length, vS r3.q r3.x.floors.length]), (7, 2, [vS u4.p u4.x.items.length, vS u4.q u4.x.floors.length]), (9, 3, [vS r6.p r6.x.items.length, vS r6.q r6.x.floors.length])] ⟨rfl, rfl, rfl, rfl, rfl, rfl, rfl, rfl, trivial⟩ ⟨rfl, rfl, rfl, rfl, trivial⟩ rfl fun ρ0 ff => ?_
      refine cx_sound _ _ _ _ _ ?_
      refine ⟨_, rfl, ?_⟩
      refine ⟨ld_own rfl rfl rfl, ?_⟩
      refine ⟨_, rfl, ?_⟩
      refine ⟨_, rfl, (ac_laws_toState s s6 (hR_s.1.pres hQ11) hb_s).mono ?_⟩
      rintro _ s7 ⟨u7, rfl, hu7, hO7, hN7, hP7⟩
      refine ⟨hP7.2, ?_⟩
      refine ⟨_, rfl, (AC.tru (ac_laws_eqState u4 u7 s7 (OwnP.rdS (OwnP.left (OwnP.right (OwnP.right (OwnP.right (OwnP.joinF hA11 hP7 hO7 hN7)))))) (OwnP.rdS (OwnP.left (OwnP.joinF hA11 hP7 hO7 hN7))) (hu4 ▸ hb_s)) (hu4.trans hu7.symm)).mono ?_⟩
      rintro _ s7 ⟨rfl, rfl⟩
      refine ⟨_, rfl, ?_⟩
      refine AW.cutM (4) s7 [(1, vS t.p t.t.length), (2, vL 2 0 (0)), (4, vB false), (6, vL 6 0 (1)), (7, vL 7 0 (2)), (8, vS u5.p u5.t.length), (9, vL 9 0 (3)), (44, vB false)] [(2, 0, [vS s.p s.x.items.length, vS s.q s.x.floors.length]), (6, 1, [vS r3.p r3.x.items.length, vS r3.q r3.x.floors.length]), (7, 2, [vS u4.p u4.x.items.length, vS u4.q u4.x.floors.length]), (9, 3, [vS r6.p r6.x.items.length, vS r6.q r6.x.floors.length])] ⟨rfl, rfl, rfl, rfl, rfl, rfl, rfl, rfl, trivial⟩ ⟨rfl, rfl, rfl, rfl, trivial⟩ rfl fun ρ0 ff => ?_
      have hA14 : OwnP s7 (pcS u7 ++ (pcS r6 ++ (pcTT u5 ++ (pcS u4 ++ (pcS r3 ++ (pcTT u2 ++ (pcS u1 ++ []))))))) := (OwnP.joinF hA11 hP7 hO7 hN7)
      have hQ14 : Pres st s7 := (hQ11.trans hP7)
      refine cx_sound _ _ _ _ _ ?_
      refine ⟨_, rfl, (uc_toIntSS t s7 (hR_t.1.pres hQ14) hb_t).mono ?_⟩
      rintro _ s8 ⟨u8, rfl, hu8, hO8, hN8, hP8⟩
      refine ⟨_, rfl, (AC.tru (uc_eqIntSS u5 u8 s8 (OwnP.rdT (OwnP.left (OwnP.right (OwnP.right (OwnP.right (OwnP.joinF hA14 hP8 hO8 hN8)))))) (OwnP.rdT (OwnP.left (OwnP.joinF hA14 hP8 hO8 hN8))) (hu5 ▸ hb_t)) (hu5.trans hu8.symm)).mono ?_⟩
      rintro _ s8 ⟨rfl, rfl⟩
      refine ⟨_, rfl, ?_⟩
      refine AW.cutM (4) s8 [(1, vS t.p t.t.length), (2, vL 2 0 (0)), (4, vB false), (6, vL 6 0 (1)), (7, vL 7 0 (2)), (8, vS u5.p u5.t.length), (9, vL 9 0 (3)), (49, vB false)] [(2, 0, [vS s.p s.x.items.length, vS s.q s.x.floors.length]), (6, 1, [vS r3.p r3.x.items.length, vS r3.q r3.x.floors.length]), (7, 2, [vS u4.p u4.x.items.length, vS u4.q u4.x.floors.length]), (9, 3, [vS r6.p r6.x.items.length, vS r6.q r6.x.floors.length])] ⟨rfl, rfl, rfl, rfl, rfl, rfl, rfl, rfl, trivial⟩ ⟨rfl, rfl, rfl, rfl, trivial⟩ rfl fun ρ0 ff => ?_
      have hA16 : OwnP s8 (pcTT u8 ++ (pcS u7 ++ (pcS r6 ++ (pcTT u5 ++ (pcS u4 ++ (pcS r3 ++ (pcTT u2 ++ (pcS u1 ++ [])))))))) := (OwnP.joinF hA14 hP8 hO8 hN8)
      have hQ16 : Pres st s8 := (hQ14.trans hP8)
      refine cx_sound _ _ _ _ _ ?_
      refine AW.cutM (4) s8 [(1, vS t.p t.t.length), (2, vL 2 0 (0)), (4, vB false), (6, vL 6 0 (1)), (7, vL 7 0 (2)), (8, vS u5.p u5.t.length), (9, vL 9 0 (3)), (10, vI (1))] [(2, 0, [vS s.p s.x.items.length, vS s.q s.x.floors.length]), (6, 1, [vS r3.p r3.x.items.length, vS r3.q r3.x.floors.length]), (7, 2, [vS u4.p u4.x.items.length, vS u4.q u4.x.floors.length]), (9, 3, [vS r6.p r6.x.items.length, vS r6.q r6.x.floors.length])] ⟨rfl, rfl, rfl, rfl, rfl, rfl, rfl, rfl, trivial⟩ ⟨rfl, rfl, rfl, rfl, trivial⟩ rfl fun ρ0 ff => ?_
      refine ⟨_, rfl, ?_⟩
      have hM9 := (OwnP.front4 hA16)
      have hNw9 := newPs (hN4.le (((hP1.trans hP2).trans hP3)).1)
      have hcm9 : cntState u4.x ≤ 8388608 := by rw [hu4]; exact hc_s
      refine ⟨_, rfl, (uc_markState u4 1 s8 (OwnP.left hM9) (hu4 ▸ hb_s) (by omega) (by omega)).mono ?_⟩
      rintro _ s9 ⟨rfl, hO9, hL9⟩
      refine AW.cutM (4) s9 [(1, vS t.p t.t.length), (2, vL 2 0 (0)), (4, vB false), (6, vL 6 0 (1)), (8, vS u5.p u5.t.length), (9, vL 9 0 (3)), (10, vI (1 + (cntState u4.x : Int)))] [(2, 0, [vS s.p s.x.items.length, vS s.q s.x.floors.length]), (6, 1, [vS r3.p r3.x.items.length, vS r3.q r3.x.floors.length]), (9, 3, [vS r6.p r6.x.items.length, vS r6.q r6.x.floors.length])] ⟨rfl, rfl, rfl, rfl, rfl, rfl, rfl, trivial⟩ ⟨rfl, rfl, rfl, trivial⟩ rfl fun ρ0 ff => ?_
      have hA19 : OwnP s9 (pcS (mkState u4 1) ++ _) := OwnP.markG hM9 hO9 (mkp_State _ _) hL9
      have hQ19 : Pres st s9 := hL9.pres hQ16 hNw9
      have hM10 := (OwnP.front4 hA19)
      have hNw10 := newPs (hN5.le ((((hP1.trans hP2).trans hP3).trans hP4)).1)
      have hcm10 : cntTab u5.x ≤ 8388608 := by rw [hu5]; exact hc_t
      refine ⟨_, rfl, (uc_markIntSS u5 _ s9 (OwnP.left hM10) (hu5 ▸ hb_t) (by omega) (by omega)).mono ?_⟩
      rintro _ s10 ⟨rfl, hO10, hL10⟩
      refine AW.cutM (4) s10 [(1, vS t.p t.t.length), (2, vL 2 0 (0)), (4, vB false), (6, vL 6 0 (1)), (9, vL 9 0 (3)), (10, vI (1 + (cntState u4.x : Int) + (cntTab u5.x : Int)))] [(2, 0, [vS s.p s.x.items.length, vS s.q s.x.floors.length]), (6, 1, [vS r3.p r3.x.items.length, vS r3.q r3.x.floors.length]), (9, 3, [vS r6.p r6.x.items.length, vS r6.q r6.x.floors.length])] ⟨rfl, rfl, rfl, rfl, rfl, rfl, trivial⟩ ⟨rfl, rfl, rfl, trivial⟩ rfl fun ρ0 ff => ?_
      have hA20 : OwnP s10 (pcTT (mkTT u5 (1 + (cntState u4.x : Int))) ++ _) := OwnP.markG hM10 hO10 (mkp_TT _ _) hL10
      have hQ20 : Pres st s10 := hL10.pres hQ19 hNw10
      refine ⟨_, rfl, ?_⟩
      rintro (_|_) hg11
      rotate_left
      · exact absurd (of_decide_eq_true hg11) ((by omega))
      iterate 2 refine ⟨_, rfl, ?_⟩
      refine ⟨_, rfl, (AC.tru (ac_laws_eqState r6 r3 s10 (OwnP.rdS (OwnP.left (OwnP.right (OwnP.right (OwnP.right (OwnP.right hA20)))))) (OwnP.rdS (OwnP.left (OwnP.right (OwnP.right (OwnP.right (OwnP.right (OwnP.right hA20))))))) (big_prune hr6 (hu4 ▸ hb_s))) hE1).mono ?_⟩
      rintro _ s10 ⟨rfl, rfl⟩
      iterate 2 refine ⟨_, rfl, ?_⟩
      refine AW.cutM (4) s10 [(1, vS t.p t.t.length), (2, vL 2 0 (0)), (4, vB false), (6, vL 6 0 (1)), (9, vL 9 0 (3)), (63, vB false)] [(2, 0, [vS s.p s.x.items.length, vS s.q s.x.floors.length]), (6, 1, [vS r3.p r3.x.items.length, vS r3.q r3.x.floors.length]), (9, 3, [vS r6.p r6.x.items.length, vS r6.q r6.x.floors.length])] ⟨rfl, rfl, rfl, rfl, rfl, rfl, trivial⟩ ⟨rfl, rfl, rfl, trivial⟩ rfl fun ρ0 ff => ?_
      refine cx_sound _ _ _ _ _ ?_
      refine AW.cutM (4) s10 [(1, vS t.p t.t.length), (2, vL 2 0 (0)), (4, vB false), (6, vL 6 0 (1)), (9, vL 9 0 (3)), (11, vI (1))] [(2, 0, [vS s.p s.x.items.length, vS s.q s.x.floors.length]), (6, 1, [vS r3.p r3.x.items.length, vS r3.q r3.x.floors.length]), (9, 3, [vS r6.p r6.x.items.length, vS r6.q r6.x.floors.length])] ⟨rfl, rfl, rfl, rfl, rfl, rfl, trivial⟩ ⟨rfl, rfl, rfl, trivial⟩ rfl fun ρ0 ff => ?_
      refine ⟨_, rfl, ?_⟩
      have hM12 := (OwnP.front4 hA20)
      have hNw12 := newPs (hN6.le (((((hP1.trans hP2).trans hP3).trans hP4).trans hP5)).1)
      have hcm12 : cntState r6.x ≤ 8388608 := cnt_State (big_prune hr6 (hu4 ▸ hb_s))
      refine ⟨_, rfl, (uc_markState r6 1 s10 (OwnP.left hM12) (big_prune hr6 (hu4 ▸ hb_s)) (by omega) (by omega)).mono ?_⟩
      rintro _ s12 ⟨rfl, hO12, hL12⟩
      refine cx_sound _ _ _ _ _ ?_
      have hA24 : OwnP s12 (pcS (mkState r6 1) ++ _) := OwnP.markG hM12 hO12 (mkp_State _ _) hL12
      have hQ24 : Pres st s12 := hL12.pres hQ20 hNw12
      refine AW.cutM (4) s12 [(1, vS t.p t.t.length), (2, vL 2 0 (0)), (4, vB false), (6, vL 6 0 (1)), (9, vL 9 0 (3)), (11, vI (1 + (cntState r6.x : Int))), (12, vI (1))] [(2, 0, [vS s.p s.x.items.length, vS s.q s.x.floors.length]), (6, 1, [vS r3.p r3.x.items.length, vS r3.q r3.x.floors.length]), (9, 3, [vS r6.p r6.x.items.length, vS r6.q r6.x.floors.length])] ⟨rfl, rfl, rfl, rfl, rfl, rfl, rfl, trivial⟩ ⟨rfl, rfl, rfl, trivial⟩ rfl fun ρ0 ff => ?_
      refine ⟨_, rfl, ?_⟩
      refine ⟨_, rfl, (uc_heldState r6 1 s12 (OwnP.rdS (OwnP.left hA24)) (big_prune hr6 (hu4 ▸ hb_s)) (by decide) (by omega)).mono ?_⟩
      rintro _ s13 ⟨rfl, hP13⟩
      refine AW.cutM (4) s13 [(1, vS t.p t.t.length), (2, vL 2 0 (0)), (4, vB false), (6, vL 6 0 (1)), (9, vL 9 0 (3)), (11, vI (1 + (cntState r6.x : Int))), (12, vI (1 + (cntState r6.x : Int)))] [(2, 0, [vS s.p s.x.items.length, vS s.q s.x.floors.length]), (6, 1, [vS r3.p r3.x.items.length, vS r3.q r3.x.floors.length]), (9, 3, [vS r6.p r6.x.items.length, vS r6.q r6.x.floors.length])] ⟨rfl, rfl, rfl, rfl, rfl, rfl, rfl, trivial⟩ ⟨rfl, rfl, rfl, trivial⟩ rfl fun ρ0 ff => ?_
      have hA26 : OwnP s13 (pcS (mkState r6 1) ++ (pcTT (mkTT u5 (1 + (cntState u4.x : Int))) ++ (pcS (mkState u4 1) ++ (pcTT u8 ++ (pcS u7 ++ (pcS r3 ++ (pcTT u2 ++ (pcS u1 ++ [])))))))) := (OwnP.pres hA24 hP13)
      have hQ26 : Pres st s13 := (hQ24.trans hP13)
      refine ⟨_, rfl, ?_⟩
      rintro (_|_) hg14
      rotate_left
      · exact absurd (of_decide_eq_true hg14) ((by omega))
      refine AW.cutM (4) s13 [(1, vS t.p t.t.length), (2, vL 2 0 (0)), (4, vB false), (6, vL 6 0 (1)), (9, vL 9 0 (3)), (11, vI (1 + (cntState r6.x : Int))), (12, vI (1 + (cntState r6.x : Int))), (71, vB false)] [(2, 0, [vS s.p s.x.items.length, vS s.q s.x.floors.length]), (6, 1, [vS r3.p r3.x.items.length, vS r3.q r3.x.floors.length]), (9, 3, [vS r6.p r6.x.items.length, vS r6.q r6.x.floors.length])] ⟨rfl, rfl, rfl, rfl, rfl, rfl, rfl, rfl, trivial⟩ ⟨rfl, rfl, rfl, trivial⟩ rfl fun ρ0 ff => ?_
      refine cx_sound _ _ _ _ _ ?_
      refine ⟨_, rfl, ?_⟩
      rintro (_|_) hg15
      rotate_left
      · exact absurd (rfl) (bne_iff_ne.1 hg15)
      refine AW.cutM (4) s13 [(1, vS t.p t.t.length), (2, vL 2 0 (0)), (4, vB false), (6, vL 6 0 (1)), (9, vL 9 0 (3)), (11, vI (1 + (cntState r6.x : Int))), (12, vI (1 + (cntState r6.x : Int))), (74, vB false)] [(2, 0, [vS s.p s.x.items.length, vS s.q s.x.floors.length]), (6, 1, [vS r3.p r3.x.items.length, vS r3.q r3.x.floors.length]), (9, 3, [vS r6.p r6.x.items.length, vS r6.q r6.x.floors.length])] ⟨rfl, rfl, rfl, rfl, rfl, rfl, rfl, rfl, trivial⟩ ⟨rfl, rfl, rfl, trivial⟩ rfl fun ρ0 ff => ?_
      refine cx_sound _ _ _ _ _ ?_
      refine ⟨_, rfl, ?_⟩
      refine ⟨_, rfl, (ac_laws_toState s s13 (hR_s.1.pres hQ26) hb_s).mono ?_⟩
      rintro _ s16 ⟨u16, rfl, hu16, hO16, hN16, hP16⟩
      refine ⟨_, rfl, (uc_toIntSS t s16 (hR_t.1.pres (hQ26.trans hP16)) hb_t).mono ?_⟩
      rintro _ s17 ⟨u17, rfl, hu17, hO17, hN17, hP17⟩
      refine ⟨_, rfl, (uc_impl_Prune u16 u17 s17 (OwnP.rdS (OwnP.left (OwnP.right (OwnP.joinF (OwnP.joinF hA26 hP16 hO16 hN16) hP17 hO17 hN17)))) (OwnP.rdT (OwnP.left (OwnP.joinF (OwnP.joinF hA26 hP16 hO16 hN16) hP17 hO17 hN17))) (hu16 ▸ hb_s) (hu17 ▸ hb_t)).mono ?_⟩
      rintro _ s18 ⟨r18, rfl, hr18, hO18, hN18, hP18⟩
      iterate 2 refine ⟨_, rfl, ?_⟩
      refine AW.cutM (5) s18 [(4, vB false), (6, vL 6 0 (1)), (9, vL 9 0 (3)), (11, vI (1 + (cntState r6.x : Int))), (12, vI (1 + (cntState r6.x : Int))), (13, vL 13 0 (4))] [(6, 1, [vS r3.p r3.x.items.length, vS r3.q r3.x.floors.length]), (9, 3, [vS r6.p r6.x.items.length, vS r6.q r6.x.floors.length]), (13, 4, [vS r18.p r18.x.items.length, vS r18.q r18.x.floors.length])] ⟨rfl, rfl, rfl, rfl, rfl, rfl, trivial⟩ ⟨rfl, rfl, rfl, trivial⟩ rfl fun ρ0 ff => ?_
      have hA31 : OwnP s18 (pcS r18 ++ (pcTT u17 ++ (pcS u16 ++ (pcS (mkState r6 1) ++ (pcTT (mkTT u5 (1 + (cntState u4.x : Int))) ++ (pcS (mkState u4 1) ++ (pcTT u8 ++ (pcS u7 ++ (pcS r3 ++ (pcTT u2 ++ (pcS u1 ++ []))))))))))) := (OwnP.joinF (OwnP.joinF (OwnP.joinF hA26 hP16 hO16 hN16) hP17 hO17 hN17) hP18 hO18 hN18)
      have hQ31 : Pres st s18 := (((hQ26.trans hP16).trans hP17).trans hP18)
      have hE2 : r18.x = r3.x := by rw [hr18, hr3, hu16, hu17, hu1, hu2]
      iterate 2 refine ⟨_, rfl, ?_⟩
      refine ⟨_, rfl, (AC.tru (ac_laws_eqState r18 r3 s18 (OwnP.rdS (OwnP.left hA31)) (OwnP.rdS (OwnP.left (OwnP.right (OwnP.right (OwnP.right (OwnP.right (OwnP.right (OwnP.right (OwnP.right (OwnP.right hA31)))))))))) (big_prune hr18 (hu16 ▸ hb_s))) hE2).mono ?_⟩
      rintro _ s18 ⟨rfl, rfl⟩
      refine ⟨_, rfl, ?_⟩
      refine AW.cutM (5) s18 [(4, vB false), (9, vL 9 0 (3)), (11, vI (1 + (cntState r6.x : Int))), (12, vI (1 + (cntState r6.x : Int))), (83, vB false)] [(9, 3, [vS r6.p r6.x.items.length, vS r6.q r6.x.floors.length])] ⟨rfl, rfl, rfl, rfl, rfl, trivial⟩ ⟨rfl, trivial⟩ rfl fun ρ0 ff => ?_
      refine cx_sound _ _ _ _ _ ?_
      refine AW.cutM (5) s18 [(4, vB false), (9, vL 9 0 (3)), (11, vI (1 + (cntState r6.x : Int))), (12, vI (1))] [(9, 3, [vS r6.p r6.x.items.length, vS r6.q r6.x.floors.length])] ⟨rfl, rfl, rfl, rfl, trivial⟩ ⟨rfl, trivial⟩ rfl fun ρ0 ff => ?_
      refine ⟨_, rfl, ?_⟩
      refine ⟨_, rfl, (uc_heldState r6 1 s18 (OwnP.rdS (OwnP.left (OwnP.right (OwnP.right (OwnP.right hA31))))) (big_prune hr6 (hu4 ▸ hb_s)) (by decide) (by omega)).mono ?_⟩
      rintro _ s19 ⟨rfl, hP19⟩
      refine AW.cutM (5) s19 [(4, vB false), (11, vI (1 + (cntState r6.x : Int))), (12, vI (1 + (cntState r6.x : Int)))] [] ⟨rfl, rfl, rfl, trivial⟩ trivial rfl fun ρ0 ff => ?_
      have hA35 : OwnP s19 (pcS r18 ++ (pcTT u17 ++ (pcS u16 ++ (pcS (mkState r6 1) ++ (pcTT (mkTT u5 (1 + (cntState u4.x : Int))) ++ (pcS (mkState u4 1) ++ (pcTT u8 ++ (pcS u7 ++ (pcS r3 ++ (pcTT u2 ++ (pcS u1 ++ []))))))))))) := (OwnP.pres hA31 hP19)
      have hQ35 : Pres st s19 := (hQ31.trans hP19)
      refine ⟨_, rfl, ?_⟩
      rintro (_|_) hg20
      rotate_left
      · exact absurd (of_decide_eq_true hg20) ((by omega))
      refine AW.cutM (5) s19 [(4, vB false), (11, vI (1 + (cntState r6.x : Int))), (12, vI (1 + (cntState r6.x : Int))), (88, vB false)] [] ⟨rfl, rfl, rfl, rfl, trivial⟩ trivial rfl fun ρ0 ff => ?_
      refine cx_sound _ _ _ _ _ ?_
      refine ⟨_, rfl, ?_⟩
      rintro (_|_) hg21
      rotate_left
      · exact absurd (rfl) (bne_iff_ne.1 hg21)
      refine AW.cutM (5) s19 [(4, vB false), (91, vB false)] [] ⟨rfl, rfl, trivial⟩ trivial rfl fun ρ0 ff => ?_
      refine cx_sound _ _ _ _ _ ?_
      refine cx_sound _ _ _ _ _ ?_
      exact ⟨.inl rfl, _, rfl, rfl⟩
    · replace hn_t : z_t < 0 := of_decide_eq_true hn_t
      refine AW.cutM (1) st [(1, vS t.p t.t.length), (2, vL 2 0 (0)), (4, vB false), (23, vB true)] [(2, 0, [vS s.p s.x.items.length, vS s.q s.x.floors.length])] ⟨rfl, rfl, rfl, rfl, trivial⟩ ⟨rfl, trivial⟩ rfl fun ρ0 ff => ?_
      refine cx_sound _ _ _ _ _ ?_
      exact ⟨.inl rfl, _, rfl, rfl⟩
  · replace hn_s : z_s < 0 := of_decide_eq_true hn_s
    refine AW.cutM (1) st [(1, vS t.p t.t.length), (2, vL 2 0 (0)), (4, vB false), (5, vI z_s), (18, vB true)] [(2, 0, [vS s.p s.x.items.length, vS s.q s.x.floors.length])] ⟨rfl, rfl, rfl, rfl, rfl, trivial⟩ ⟨rfl, trivial⟩ rfl fun ρ0 ff => ?_
    refine cx_sound _ _ _ _ _ ?_
    exact ⟨.inl rfl, _, rfl, rfl⟩

theorem ac_laws_FnExactLogDrop (g : LV) (n : Int) (st : St) (hR_g : RdL st g.p g.l ∧ maxL g.l) (hw_n : (Lit.int .i64 n).wf = true) : C 6 [.agg #[vI g.cap, vI g.frm, vS g.p g.l.length], vI n] st (fun v s => v = vB true) := by
  refine AC.enterX (i := ⟨[2, 6, 7, 8, 12], [2, 6, 7, 8, 12], [0, 1, 2, 4, 5, 6, 7, 8, 9, 10, 11, 12, 17, 30, 35, 46, 54, 57, 65, 70, 73]⟩) [(10, [2], [0])] Try.func6 rfl rfl (by kernel_rfl) (by kernel_rfl) Try.ntmps6 (Nat.le_of_ble_eq_true rfl) rfl ?_
  refine ⟨_, rfl, ?_⟩
  refine cx_sound _ _ _ _ _ ?_
  refine AW.cutM (1) st [(1, vI n), (2, vL 2 0 (0)), (4, vB false), (5, vI (1048576))] [(2, 0, [vI g.cap, vI g.frm, vS g.p g.l.length])] ⟨rfl, rfl, rfl, rfl, trivial⟩ ⟨rfl, trivial⟩ rfl fun ρ0 ff => ?_
  refine ⟨_, rfl, ?_⟩
  refine ⟨_, rfl, (ac_laws_szLog g 1048576 st hR_g.1 (by decide) (by decide) hR_g.2).mono ?_⟩
  rintro _ st ⟨z_g, rfl, hr_g, hz_g, rfl⟩
  refine AW.cutM (1) st [(1, vI n), (2, vL 2 0 (0)), (4, vB false), (5, vI z_g)] [(2, 0, [vI g.cap, vI g.frm, vS g.p g.l.length])] ⟨rfl, rfl, rfl, rfl, trivial⟩ ⟨rfl, trivial⟩ rfl fun ρ0 ff => ?_
  refine ⟨_, rfl, ?_⟩
  rintro (_|_) hn_g
  · replace hn_g : ¬ (z_g < 0) := of_decide_eq_false hn_g
    refine AW.cutM (1) st [(1, vI n), (2, vL 2 0 (0)), (4, vB false), (17, vB false)] [(2, 0, [vI g.cap, vI g.frm, vS g.p g.l.length])] ⟨rfl, rfl, rfl, rfl, trivial⟩ ⟨rfl, trivial⟩ rfl fun ρ0 ff => ?_
    have hz_g' := hz_g (by omega)
    have hb_g := bigLog_iff.2 (sz_bigL (l := g.l) (by omega))
    have hc_g : cntLog g.x ≤ 8388608 := (show cntLog g.x ≤ 8388608 by have h1 := cntLog_l g; have h2 := cntL_le g.l; omega)
    refine cx_sound _ _ _ _ _ ?_
    refine ⟨_, rfl, ?_⟩
    refine ⟨_, rfl, (uc_toLog g st hR_g.1 hb_g).mono ?_⟩
    rintro _ s1 ⟨u1, rfl, hu1, hO1, hN1, hP1⟩
    refine ⟨_, rfl, (ac_spec_LogDrop u1.v n s1 (OwnP.rdLog (OwnP.left (OwnP.joinF OwnP.nil hP1 hO1 hN1))) (bigLog_iff.1 (hu1 ▸ hb_g))).mono ?_⟩
    rintro _ s2 ⟨r2, rfl, hr2, hO2, hN2, hP2⟩
    iterate 2 refine ⟨_, rfl, ?_⟩
    refine AW.cutM (2) s2 [(1, vI n), (2, vL 2 0 (0)), (4, vB false), (6, vL 6 0 (1))] [(2, 0, [vI g.cap, vI g.frm, vS g.p g.l.length]), (6, 1, [vI r2.cap, vI r2.frm, vS r2.p r2.l.length])] ⟨rfl, rfl, rfl, rfl, trivial⟩ ⟨rfl, rfl, trivial⟩ rfl fun ρ0 ff => ?_
    have hA5 : OwnP s2 (pcLog r2 ++ (pcLog u1 ++ [])) := (OwnP.joinF (OwnP.joinF OwnP.nil hP1 hO1 hN1) hP2 hO2 hN2)
    have hQ5 : Pres st s2 := (hP1.trans hP2)
    refine ⟨_, rfl, ?_⟩
    refine ⟨_, rfl, (uc_toLog g s2 (hR_g.1.pres hQ5) hb_g).mono ?_⟩
    rintro _ s3 ⟨u3, rfl, hu3, hO3, hN3, hP3⟩
    iterate 2 refine ⟨_, rfl, ?_⟩
    refine AW.cutM (3) s3 [(1, vI n), (2, vL 2 0 (0)), (4, vB false), (6, vL 6 0 (1)), (7, vL 7 0 (2))] [(2, 0, [vI g.cap, vI g.frm, vS g.p g.l.length]), (6, 1, [vI r2.cap, vI r2.frm, vS r2.p r2.l.length]), (7, 2, [vI u3.cap, vI u3.frm, vS u3.p u3.l.length])] ⟨rfl, rfl, rfl, rfl, rfl, trivial⟩ ⟨rfl, rfl, rfl, trivial⟩ rfl fun ρ0 ff => ?_
    have hA6 : OwnP s3 (pcLog u3 ++ (pcLog r2 ++ (pcLog u1 ++ []))) := (OwnP.joinF hA5 hP3 hO3 hN3)
    have hQ6 : Pres st s3 := (hQ5.trans hP3)
    refine ⟨_, rfl, ?_⟩
    refine ⟨_, rfl, (ac_impl_LogDrop u3.v n s3 (OwnP.rdLog (OwnP.left hA6)) (bigLog_iff.1 (hu3 ▸ hb_g))).mono ?_⟩
    rintro _ s4 ⟨r4, rfl, hr4, hO4, hN4, hP4⟩
    iterate 2 refine ⟨_, rfl, ?_⟩
    refine AW.cutM (4) s4 [(1, vI n), (2, vL 2 0 (0)), (4, vB false), (6, vL 6 0 (1)), (7, vL 7 0 (2)), (8, vL 8 0 (3))] [(2, 0, [vI g.cap, vI g.frm, vS g.p g.l.length]), (6, 1, [vI r2.cap, vI r2.frm, vS r2.p r2.l.length]), (7, 2, [vI u3.cap, vI u3.frm, vS u3.p u3.l.length]), (8, 3, [vI r4.cap, vI r4.frm, vS r4.p r4.l.length])] ⟨rfl, rfl, rfl, rfl, rfl, rfl, trivial⟩ ⟨rfl, rfl, rfl, rfl, trivial⟩ rfl fun ρ0 ff => ?_
    have hA7 : OwnP s4 (pcLog r4 ++ (pcLog u3 ++ (pcLog r2 ++ (pcLog u1 ++ [])))) := (OwnP.joinF hA6 hP4 hO4 hN4)
    have hQ7 : Pres st s4 := (hQ6.trans hP4)
    have hE1 : r4.v.x = r2.v.x := by rw [hr4, hr2, hu3, hu1]
    iterate 2 refine ⟨_, rfl, ?_⟩
    refine ⟨_, rfl, (AC.tru (uc_eqLog r4 r2 s4 (OwnP.rdLog (OwnP.left hA7)) (OwnP.rdLog (OwnP.left (OwnP.right (OwnP.right hA7)))) (big_drop hr4 (hu3 ▸ hb_g))) hE1).mono ?_⟩
    rintro _ s4 ⟨rfl, rfl⟩
    refine ⟨_, rfl, ?_⟩
    refine AW.cutM (4) s4 [(1, vI n), (2, vL 2 0 (0)), (4, vB false), (6, vL 6 0 (1)), (7, vL 7 0 (2)), (8, vL 8 0 (3)), (30, vB false)] [(2, 0, [vI g.cap, vI g.frm, vS g.p g.l.length]), (6, 1, [vI r2.cap, vI r2.frm, vS r2.p r2.l.length]), (7, 2, [vI u3.cap, vI u3.frm, vS u3.p u3.l.length]), (8, 3, [vI r4.cap, vI r4.frm, vS r4.p r4.l.length])] ⟨rfl, rfl, rfl, rfl, rfl, rfl, rfl, trivial⟩ ⟨rfl, rfl, rfl, rfl, trivial⟩ rfl fun ρ0 ff => ?_
    refine cx_sound _ _ _ _ _ ?_
    refine ⟨_, rfl, ?_⟩
    refine ⟨ld_own rfl rfl rfl, ?_⟩
    refine ⟨_, rfl, ?_⟩
    refine ⟨_, rfl, (uc_toLog g s4 (hR_g.1.pres hQ7) hb_g).mono ?_⟩
    rintro _ s5 ⟨u5, rfl, hu5, hO5, hN5, hP5⟩
    refine ⟨hP5.2, ?_⟩
    refine ⟨_, rfl, (AC.tru (uc_eqLog u3 u5 s5 (OwnP.rdLog (OwnP.left (OwnP.right (OwnP.right (OwnP.joinF hA7 hP5 hO5 hN5))))) (OwnP.rdLog (OwnP.left (OwnP.joinF hA7 hP5 hO5 hN5))) (hu3 ▸ hb_g)) (hu3.trans hu5.symm)).mono ?_⟩
    rintro _ s5 ⟨rfl, rfl⟩
    refine ⟨_, rfl, ?_⟩
    refine AW.cutM (4) s5 [(1, vI n), (2, vL 2 0 (0)), (4, vB false), (6, vL 6 0 (1)), (7, vL 7 0 (2)), (8, vL 8 0 (3)), (35, vB false)] [(2, 0, [vI g.cap, vI g.frm, vS g.p g.l.length]), (6, 1, [vI r2.cap, vI r2.frm, vS r2.p r2.l.length]), (7, 2, [vI u3.cap, vI u3.frm, vS u3.p u3.l.length]), (8, 3, [vI r4.cap, vI r4.frm, vS r4.p r4.l.length])] ⟨rfl, rfl, rfl, rfl, rfl, rfl, rfl, trivial⟩ ⟨rfl, rfl, rfl, rfl, trivial⟩ rfl fun ρ0 ff => ?_
    have hA10 : OwnP s5 (pcLog u5 ++ (pcLog r4 ++ (pcLog u3 ++ (pcLog r2 ++ (pcLog u1 ++ []))))) := (OwnP.joinF hA7 hP5 hO5 hN5)
    have hQ10 : Pres st s5 := (hQ7.trans hP5)
    refine cx_sound _ _ _ _ _ ?_
    refine AW.cutM (4) s5 [(1, vI n), (2, vL 2 0 (0)), (4, vB false), (6, vL 6 0 (1)), (7, vL 7 0 (2)), (8, vL 8 0 (3)), (9, vI (1))] [(2, 0, [vI g.cap, vI g.frm, vS g.p g.l.length]), (6, 1, [vI r2.cap, vI r2.frm, vS r2.p r2.l.length]), (7, 2, [vI u3.cap, vI u3.frm, vS u3.p u3.l.length]), (8, 3, [vI r4.cap, vI r4.frm, vS r4.p r4.l.length])] ⟨rfl, rfl, rfl, rfl, rfl, rfl, rfl, trivial⟩ ⟨rfl, rfl, rfl, rfl, trivial⟩ rfl fun ρ0 ff => ?_
    refine ⟨_, rfl, ?_⟩
    have hM6 := (OwnP.front2 hA10)
    have hNw6 := newPs (hN3.le ((hP1.trans hP2)).1)
    have hcm6 : cntLog u3.v.x ≤ 8388608 := by rw [hu3]; exact hc_g
    refine ⟨_, rfl, (uc_markLog u3 1 s5 (OwnP.left hM6) (hu3 ▸ hb_g) (by omega) (by omega)).mono ?_⟩
    rintro _ s6 ⟨rfl, hO6, hL6⟩
    refine AW.cutM (4) s6 [(1, vI n), (2, vL 2 0 (0)), (4, vB false), (6, vL 6 0 (1)), (8, vL 8 0 (3)), (9, vI (1 + (cntLog u3.v.x : Int)))] [(2, 0, [vI g.cap, vI g.frm, vS g.p g.l.length]), (6, 1, [vI r2.cap, vI r2.frm, vS r2.p r2.l.length]), (8, 3, [vI r4.cap, vI r4.frm, vS r4.p r4.l.length])] ⟨rfl, rfl, rfl, rfl, rfl, rfl, trivial⟩ ⟨rfl, rfl, rfl, trivial⟩ rfl fun ρ0 ff => ?_
    have hA13 : OwnP s6 (pcLog (mkLog u3 1) ++ _) := OwnP.markG hM6 hO6 (mkp_Log _ _) hL6
    have hQ13 : Pres st s6 := hL6.pres hQ10 hNw6
    refine ⟨_, rfl, ?_⟩
    rintro (_|_) hg7
    rotate_left
    · exact absurd (of_decide_eq_true hg7) ((by omega))
    iterate 2 refine ⟨_, rfl, ?_⟩
    refine ⟨_, rfl, (AC.tru (uc_eqLog r4 r2 s6 (OwnP.rdLog (OwnP.left (OwnP.right (OwnP.right hA13)))) (OwnP.rdLog (OwnP.left (OwnP.right (OwnP.right (OwnP.right hA13))))) (big_drop hr4 (hu3 ▸ hb_g))) hE1).mono ?_⟩
    rintro _ s6 ⟨rfl, rfl⟩
    iterate 2 refine ⟨_, rfl, ?_⟩
    refine AW.cutM (4) s6 [(1, vI n), (2, vL 2 0 (0)), (4, vB false), (6, vL 6 0 (1)), (8, vL 8 0 (3)), (46, vB false)] [(2, 0, [vI g.cap, vI g.frm, vS g.p g.l.length]), (6, 1, [vI r2.cap, vI r2.frm, vS r2.p r2.l.length]), (8, 3, [vI r4.cap, vI r4.frm, vS r4.p r4.l.length])] ⟨rfl, rfl, rfl, rfl, rfl, rfl, trivial⟩ ⟨rfl, rfl, rfl, trivial⟩ rfl fun ρ0 ff => ?_
    refine cx_sound _ _ _ _ _ ?_
    refine AW.cutM (4) s6 [(1, vI n), (2, vL 2 0 (0)), (4, vB false), (6, vL 6 0 (1)), (8, vL 8 0 (3)), (10, vI (1))] [(2, 0, [vI g.cap, vI g.frm, vS g.p g.l.length]), (6, 1, [vI r2.cap, vI r2.frm, vS r2.p r2.l.length]), (8, 3, [vI r4.cap, vI r4.frm, vS r4.p r4.l.length])] ⟨rfl, rfl, rfl, rfl, rfl, rfl, trivial⟩ ⟨rfl, rfl, rfl, trivial⟩ rfl fun ρ0 ff => ?_
    refine ⟨_, rfl, ?_⟩
    have hM8 := (OwnP.front2 hA13)
    have hNw8 := newPs (hN4.le (((hP1.trans hP2).trans hP3)).1)
    have hcm8 : cntLog r4.v.x ≤ 8388608 := cnt_drop hr4 (hu3 ▸ hc_g)
    refine ⟨_, rfl, (uc_markLog r4 1 s6 (OwnP.left hM8) (big_drop hr4 (hu3 ▸ hb_g)) (by omega) (by omega)).mono ?_⟩
    rintro _ s8 ⟨rfl, hO8, hL8⟩
    refine cx_sound _ _ _ _ _ ?_
    have hA17 : OwnP s8 (pcLog (mkLog r4 1) ++ _) := OwnP.markG hM8 hO8 (mkp_Log _ _) hL8
    have hQ17 : Pres st s8 := hL8.pres hQ13 hNw8
    refine AW.cutM (4) s8 [(1, vI n), (2, vL 2 0 (0)), (4, vB false), (6, vL 6 0 (1)), (8, vL 8 0 (3)), (10, vI (1 + (cntLog r4.v.x : Int))), (11, vI (1))] [(2, 0, [vI g.cap, vI g.frm, vS g.p g.l.length]), (6, 1, [vI r2.cap, vI r2.frm, vS r2.p r2.l.length]), (8, 3, [vI r4.cap, vI r4.frm, vS r4.p r4.l.length])] ⟨rfl, rfl, rfl, rfl, rfl, rfl, rfl, trivial⟩ ⟨rfl, rfl, rfl, trivial⟩ rfl fun ρ0 ff => ?_
    refine ⟨_, rfl, ?_⟩
    refine ⟨_, rfl, (uc_heldLog r4 1 s8 (OwnP.rdLog (OwnP.left hA17)) (LW.rows (((OwnP.left hA17)).1 _ (List.mem_cons_self ..))) (big_drop hr4 (hu3 ▸ hb_g)) (by decide) (by omega)).mono ?_⟩
    rintro _ s9 ⟨rfl, hP9⟩
    refine AW.cutM (4) s9 [(1, vI n), (2, vL 2 0 (0)), (4, vB false), (6, vL 6 0 (1)), (8, vL 8 0 (3)), (10, vI (1 + (cntLog r4.v.x : Int))), (11, vI (1 + (cntLog r4.v.x : Int)))] [(2, 0, [vI g.cap, vI g.frm, vS g.p g.l.length]), (6, 1, [vI r2.cap, vI r2.frm, vS r2.p r2.l.length]), (8, 3, [vI r4.cap, vI r4.frm, vS r4.p r4.l.length])] ⟨rfl, rfl, rfl, rfl, rfl, rfl, rfl, trivial⟩ ⟨rfl, rfl, rfl, trivial⟩ rfl fun ρ0 ff => ?_
    have hA19 : OwnP s9 (pcLog (mkLog r4 1) ++ (pcLog (mkLog u3 1) ++ (pcLog u5 ++ (pcLog r2 ++ (pcLog u1 ++ []))))) := (OwnP.pres hA17 hP9)
    have hQ19 : Pres st s9 := (hQ17.trans hP9)
    refine ⟨_, rfl, ?_⟩
    rintro (_|_) hg10
    rotate_left
    · exact absurd (of_decide_eq_true hg10) ((by omega))
    refine AW.cutM (4) s9 [(1, vI n), (2, vL 2 0 (0)), (4, vB false), (6, vL 6 0 (1)), (8, vL 8 0 (3)), (10, vI (1 + (cntLog r4.v.x : Int))), (11, vI (1 + (cntLog r4.v.x : Int))), (54, vB false)] [(2, 0, [vI g.cap, vI g.frm, vS g.p g.l.length]), (6, 1, [vI r2.cap, vI r2.frm, vS r2.p r2.l.length]), (8, 3, [vI r4.cap, vI r4.frm, vS r4.p r4.l.length])] ⟨rfl, rfl, rfl, rfl, rfl, rfl, rfl, rfl, trivial⟩ ⟨rfl, rfl, rfl, trivial⟩ rfl fun ρ0 ff => ?_
    refine cx_sound _ _ _ _ _ ?_
    refine ⟨_, rfl, ?_⟩
    rintro (_|_) hg11
    rotate_left
    · exact absurd (rfl) (bne_iff_ne.1 hg11)
    refine AW.cutM (4) s9 [(1, vI n), (2, vL 2 0 (0)), (4, vB false), (6, vL 6 0 (1)), (8, vL 8 0 (3)), (10, vI (1 + (cntLog r4.v.x : Int))), (11, vI (1 + (cntLog r4.v.x : Int))), (57, vB false)] [(2, 0, [vI g.cap, vI g.frm, vS g.p g.l.length]), (6, 1, [vI r2.cap, vI r2.frm, vS r2.p r2.l.length]), (8, 3, [vI r4.cap, vI r4.frm, vS r4.p r4.l.length])] ⟨rfl, rfl, rfl, rfl, rfl, rfl, rfl, rfl, trivial⟩ ⟨rfl, rfl, rfl, trivial⟩ rfl fun ρ0 ff => ?_
    refine cx_sound _ _ _ _ _ ?_
    refine ⟨_, rfl, ?_⟩
    refine ⟨_, rfl, (uc_toLog g s9 (hR_g.1.pres hQ19) hb_g).mono ?_⟩
    rintro _ s12 ⟨u12, rfl, hu12, hO12, hN12, hP12⟩
    refine ⟨_, rfl, (ac_impl_LogDrop u12.v n s12 (OwnP.rdLog (OwnP.left (OwnP.joinF hA19 hP12 hO12 hN12))) (bigLog_iff.1 (hu12 ▸ hb_g))).mono ?_⟩
    rintro _ s13 ⟨r13, rfl, hr13, hO13, hN13, hP13⟩
    iterate 2 refine ⟨_, rfl, ?_⟩
    refine AW.cutM (5) s13 [(4, vB false), (6, vL 6 0 (1)), (8, vL 8 0 (3)), (10, vI (1 + (cntLog r4.v.x : Int))), (11, vI (1 + (cntLog r4.v.x : Int))), (12, vL 12 0 (4))] [(6, 1, [vI r2.cap, vI r2.frm, vS r2.p r2.l.length]), (8, 3, [vI r4.cap, vI r4.frm, vS r4.p r4.l.length]), (12, 4, [vI r13.cap, vI r13.frm, vS r13.p r13.l.length])] ⟨rfl, rfl, rfl, rfl, rfl, rfl, trivial⟩ ⟨rfl, rfl, rfl, trivial⟩ rfl fun ρ0 ff => ?_
    have hA24 : OwnP s13 (pcLog r13 ++ (pcLog u12 ++ (pcLog (mkLog r4 1) ++ (pcLog (mkLog u3 1) ++ (pcLog u5 ++ (pcLog r2 ++ (pcLog u1 ++ []))))))) := (OwnP.joinF (OwnP.joinF hA19 hP12 hO12 hN12) hP13 hO13 hN13)
    have hQ24 : Pres st s13 := ((hQ19.trans hP12).trans hP13)
    have hE2 : r13.v.x = r2.v.x := by rw [hr13, hr2, hu12, hu1]
    iterate 2 refine ⟨_, rfl, ?_⟩
    refine ⟨_, rfl, (AC.tru (uc_eqLog r13 r2 s13 (OwnP.rdLog (OwnP.left hA24)) (OwnP.rdLog (OwnP.left (OwnP.right (OwnP.right (OwnP.right (OwnP.right (OwnP.right hA24))))))) (big_drop hr13 (hu12 ▸ hb_g))) hE2).mono ?_⟩
    rintro _ s13 ⟨rfl, rfl⟩
    refine ⟨_, rfl, ?_⟩
    refine AW.cutM (5) s13 [(4, vB false), (8, vL 8 0 (3)), (10, vI (1 + (cntLog r4.v.x : Int))), (11, vI (1 + (cntLog r4.v.x : Int))), (65, vB false)] [(8, 3, [vI r4.cap, vI r4.frm, vS r4.p r4.l.length])] ⟨rfl, rfl, rfl, rfl, rfl, trivial⟩ ⟨rfl, trivial⟩ rfl fun ρ0 ff => ?_
    refine cx_sound _ _ _ _ _ ?_
    refine AW.cutM (5) s13 [(4, vB false), (8, vL 8 0 (3)), (10, vI (1 + (cntLog r4.v.x : Int))), (11, vI (1))] [(8, 3, [vI r4.cap, vI r4.frm, vS r4.p r4.l.length])] ⟨rfl, rfl, rfl, rfl, trivial⟩ ⟨rfl, trivial⟩ rfl fun ρ0 ff => ?_
    refine ⟨_, rfl, ?_⟩
    refine ⟨_, rfl, (uc_heldLog r4 1 s13 (OwnP.rdLog (OwnP.left (OwnP.right (OwnP.right hA24)))) (LW.rows (((OwnP.left (OwnP.right (OwnP.right hA24)))).1 _ (List.mem_cons_self ..))) (big_drop hr4 (hu3 ▸ hb_g)) (by decide) (by omega)).mono ?_⟩
    rintro _ s14 ⟨rfl, hP14⟩
    refine AW.cutM (5) s14 [(4, vB false), (10, vI (1 + (cntLog r4.v.x : Int))), (11, vI (1 + (cntLog r4.v.x : Int)))] [] ⟨rfl, rfl, rfl, trivial⟩ trivial rfl fun ρ0 ff => ?_
    have hA28 : OwnP s14 (pcLog r13 ++ (pcLog u12 ++ (pcLog (mkLog r4 1) ++ (pcLog (mkLog u3 1) ++ (pcLog u5 ++ (pcLog r2 ++ (pcLog u1 ++ []))))))) := (OwnP.pres hA24 hP14)
    have hQ28 : Pres st s14 := (hQ24.trans hP14)
    refine ⟨_, rfl, ?_⟩
    rintro (_|_) hg15
    rotate_left
    · exact absurd (of_decide_eq_true hg15) ((by omega))
    refine AW.cutM (5) s14 [(4, vB false), (10, vI (1 + (cntLog r4.v.x : Int))), (11, vI (1 + (cntLog r4.v.x : Int))), (70, vB false)] [] ⟨rfl, rfl, rfl, rfl, trivial⟩ trivial rfl fun ρ0 ff => ?_
    refine cx_sound _ _ _ _ _ ?_
    refine ⟨_, rfl, ?_⟩
    rintro (_|_) hg16
    rotate_left
    · exact absurd (rfl) (bne_iff_ne.1 hg16)
    refine AW.cutM (5) s14 [(4, vB false), (73, vB false)] [] ⟨rfl, rfl, trivial⟩ trivial rfl fun ρ0 ff => ?_
    refine cx_sound _ _ _ _ _ ?_
    refine cx_sound _ _ _ _ _ ?_
    exact ⟨.inl rfl, _, rfl, rfl⟩
  · replace hn_g : z_g < 0 := of_decide_eq_true hn_g
    refine AW.cutM (1) st [(1, vI n), (2, vL 2 0 (0)), (4, vB false), (17, vB true)] [(2, 0, [vI g.cap, vI g.frm, vS g.p g.l.length])] ⟨rfl, rfl, rfl, rfl, trivial⟩ ⟨rfl, trivial⟩ rfl fun ρ0 ff => ?_
    refine cx_sound _ _ _ _ _ ?_
    exact ⟨.inl rfl, _, rfl, rfl⟩

end Go.Proofs.Ytopcpcoklgepnaa.AM
