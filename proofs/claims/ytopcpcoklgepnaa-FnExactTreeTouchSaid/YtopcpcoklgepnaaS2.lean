/- Contracts of the states' check. -/
import Derived.Test.YtopcpcoklgepnaaS1
namespace Go.Proofs.Ytopcpcoklgepnaa.AM
open Go Go.Proofs
set_option linter.unusedVariables false
set_option linter.unusedSimpArgs false
set_option maxRecDepth 100000
set_option maxHeartbeats 4000000
def itemOk (s : Sta) (j : Nat) (x : Itm) : Prop := (0 ≤ x.id ∧ x.id ≤ 4) ∧ entOk x.e ∧ floorOf s.floors x.id < x.e.inc ∧ ∀ y, 0 < j → s.items[j - 1]? = some y → y.id < x.id
def stateOk (s : Sta) : Prop := (∀ (j : Nat) x, s.items[j]? = some x → itemOk s j x) ∧ marksOk s.floors
theorem ac_spec_StateOk (s : SV) (st : St) (hR : RdS st s) (hb : bigS s.x) : C 101 [.agg #[vS s.p s.x.items.length, vS s.q s.x.floors.length]] st (fun v s' => ∃ x, v = .bool x ∧ (x = true ↔ stateOk s.x) ∧ s' = st) := by
  have hs1 : s.x.items.length ≤ 1048576 := hb.1
  have hs2 : s.x.floors.length ≤ 1048576 := hb.2.1
  refine AC.enterX (i := ⟨[1, 4, 6], [1, 4, 6, 8, 14, 19, 27, 29, 40, 46, 47, 50, 56, 62, 67, 75, 77, 88], [0, 1, 2, 3, 4, 5, 6, 11, 54, 59, 92]⟩) [(5, [33], [29]), (11, [], [])] Try.func101 rfl rfl (by kernel_rfl) (by kernel_rfl) Try.ntmps101 (Nat.le_of_ble_eq_true rfl) rfl ?_
  refine ⟨_, rfl, ?_⟩
  refine cx_sound _ _ _ _ _ ?_
  refine AW.cutM (1) st [(1, vL 1 0 (0)), (2, vB false), (3, vI (0))] [(1, 0, [vS s.p s.x.items.length, vS s.q s.x.floors.length])] ⟨rfl, rfl, rfl, trivial⟩ ⟨rfl, trivial⟩ rfl fun ρ0 ff => ?_
  refine AW.loopM (fun i : Nat => [(1, vL 1 0 (0)), (3, vI (i : Int))]) (fun i : Nat => [(1, 0, [vS s.p s.x.items.length, vS s.q s.x.floors.length])]) (fun m (i : Nat) st' => m = s.x.items.length - i ∧ i ≤ s.x.items.length ∧ (∀ (j : Nat) x, j < i → s.x.items[j]? = some x → itemOk s.x j x) ∧ st = st') 0 _ ⟨rfl, rfl, trivial⟩ ⟨rfl, trivial⟩ ⟨rfl, Nat.zero_le _, fun j x h => absurd h (Nat.not_lt_zero _), rfl⟩ ?_
  rintro m i ρ0 ff gg st' ⟨rfl, hi, hok, rfl⟩
  refine ⟨_, rfl, ?_⟩
  refine ⟨_, op_ldo rfl rfl rfl rfl, ?_⟩
  iterate 2 refine ⟨_, rfl, ?_⟩
  rintro (_|_) h1
  · replace h1 : ¬ ((i : Int) < (s.x.items.length : Int)) := of_decide_eq_false h1
    refine AW.cutM (gg) st [(1, vL 1 0 (0)), (3, vI (i : Int)), (11, vB false)] [(1, 0, [vS s.p s.x.items.length, vS s.q s.x.floors.length])] ⟨rfl, rfl, rfl, trivial⟩ ⟨rfl, trivial⟩ rfl fun ρ0 ff => ?_
    refine cx_sound _ _ _ _ _ ?_
    refine AW.cutM (gg) st [(1, vL 1 0 (0)), (5, vI (0))] [(1, 0, [vS s.p s.x.items.length, vS s.q s.x.floors.length])] ⟨rfl, rfl, trivial⟩ ⟨rfl, trivial⟩ rfl fun ρ0 ff => ?_
    refine AW.loopM (fun v : Nat => [(1, vL 1 0 (0)), (5, vI (v : Int))]) (fun v : Nat => [(1, 0, [vS s.p s.x.items.length, vS s.q s.x.floors.length])]) (fun m (v : Nat) st' => m = s.x.floors.length - v ∧ v ≤ s.x.floors.length ∧ (∀ (j : Nat) x, j < v → s.x.floors[j]? = some x → markOk s.x.floors j x) ∧ st = st') 0 _ ⟨rfl, rfl, trivial⟩ ⟨rfl, trivial⟩ ⟨rfl, Nat.zero_le _, fun j x h => absurd h (Nat.not_lt_zero _), rfl⟩ ?_
    rintro m v ρ0 ff gg st' ⟨rfl, hi2, hok2, rfl⟩
    refine ⟨_, rfl, ?_⟩
    refine ⟨_, op_ldo rfl rfl rfl rfl, ?_⟩
    iterate 2 refine ⟨_, rfl, ?_⟩
    rintro (_|_) h7
    · replace h7 : ¬ ((v : Int) < (s.x.floors.length : Int)) := of_decide_eq_false h7
      refine AW.cutM (gg) st [(1, vL 1 0 (0)), (5, vI (v : Int)), (59, vB false)] [(1, 0, [vS s.p s.x.items.length, vS s.q s.x.floors.length])] ⟨rfl, rfl, rfl, trivial⟩ ⟨rfl, trivial⟩ rfl fun ρ0 ff => ?_
      refine cx_sound _ _ _ _ _ ?_
      refine cx_sound _ _ _ _ _ ?_
      exact ⟨.inl rfl, _, rfl, true, rfl, ⟨fun _ => ⟨fun j x hx => hok j x (by have := (List.getElem?_eq_some_iff.1 hx).1; omega) hx, fun j x hx => hok2 j x (by have := (List.getElem?_eq_some_iff.1 hx).1; omega) hx⟩, fun _ => rfl⟩, rfl⟩
    · replace h7 : (v : Int) < (s.x.floors.length : Int) := of_decide_eq_true h7
      refine AW.cutM (gg) st [(1, vL 1 0 (0)), (5, vI (v : Int)), (59, vB true)] [(1, 0, [vS s.p s.x.items.length, vS s.q s.x.floors.length])] ⟨rfl, rfl, rfl, trivial⟩ ⟨rfl, trivial⟩ rfl fun ρ0 ff => ?_
      have h7' := Int.ofNat_lt.1 h7
      have ⟨b3, o3, k3, x, hpe, hx, hm1, hc1, hb1⟩ := hR.2.atB h7'
      refine cx_sound _ _ _ _ _ ?_
      refine ⟨_, rfl, ?_⟩
      refine ⟨_, op_ldo rfl rfl rfl rfl, ?_⟩
      refine ⟨_, op_idx (j := (v : Int)) (n := s.x.floors.length) (q := ⟨b3, o3, none⟩) rfl (congrArg (fun u => vS u s.x.floors.length) hpe) rfl rfl rfl (Int.natCast_nonneg _) h7, ?_⟩
      refine ⟨_, op_lda rfl rfl rfl rfl rfl hm1 hc1 rfl, ?_⟩
      refine ⟨_, rfl, ?_⟩
      refine ⟨_, op_sto rfl rfl rfl rfl rfl rfl rfl, ?_⟩
      refine AW.cutM (gg + 1) st [(1, vL 1 0 (0)), (5, vI (v : Int)), (6, vL 6 0 (gg)), (59, vB true)] [(1, 0, [vS s.p s.x.items.length, vS s.q s.x.floors.length]), (6, gg, [vI x.id, vI x.inc])] ⟨rfl, rfl, rfl, rfl, trivial⟩ ⟨rfl, rfl, trivial⟩ rfl fun ρ0 ff => ?_
      refine ⟨_, rfl, ?_⟩
      refine ⟨_, op_ldo rfl rfl rfl rfl, ?_⟩
      refine ⟨_, rfl, (ac_spec_l3Node x.id st).mono ?_⟩
      rintro _ st ⟨c, rfl, h8, rfl⟩
      rcases c with _|_
      · replace h8 := of_decide_eq_false h8.symm
        iterate 3 refine ⟨_, rfl, ?_⟩
        refine AW.cutM (gg + 1) st [(1, vL 1 0 (0)), (5, vI (v : Int)), (6, vL 6 0 (gg)), (59, vB true), (92, vB true)] [(1, 0, [vS s.p s.x.items.length, vS s.q s.x.floors.length]), (6, gg, [vI x.id, vI x.inc])] ⟨rfl, rfl, rfl, rfl, rfl, trivial⟩ ⟨rfl, rfl, trivial⟩ rfl fun ρ0 ff => ?_
        refine cx_sound _ _ _ _ _ ?_
        exact ⟨.inl rfl, _, rfl, false, rfl, ⟨fun h => absurd h Bool.false_ne_true, fun h => absurd (h.2 v x hx).1 h8⟩, rfl⟩
      · replace h8 := of_decide_eq_true h8.symm
        iterate 2 refine ⟨_, rfl, ?_⟩
        rintro (_|_) h9
        · replace h9 : ¬ (0 < (v : Int)) := of_decide_eq_false h9
          iterate 3 refine ⟨_, rfl, ?_⟩
          refine ⟨_, op_ldo rfl rfl rfl rfl, ?_⟩
          refine ⟨_, rfl, (ac_spec_l1In x.inc 1 1000 st).mono ?_⟩
          rintro _ st ⟨d, rfl, h11, rfl⟩
          rcases d with _|_
          · replace h11 := of_decide_eq_false h11.symm
            iterate 2 refine ⟨_, rfl, ?_⟩
            refine AW.cutM (gg + 1) st [(1, vL 1 0 (0)), (5, vI (v : Int)), (6, vL 6 0 (gg)), (59, vB true), (92, vB true)] [(1, 0, [vS s.p s.x.items.length, vS s.q s.x.floors.length]), (6, gg, [vI x.id, vI x.inc])] ⟨rfl, rfl, rfl, rfl, rfl, trivial⟩ ⟨rfl, rfl, trivial⟩ rfl fun ρ0 ff => ?_
            refine cx_sound _ _ _ _ _ ?_
            exact ⟨.inl rfl, _, rfl, false, rfl, ⟨fun h => absurd h Bool.false_ne_true, fun h => absurd (h.2 v x hx).2.1 h11⟩, rfl⟩
          · replace h11 := of_decide_eq_true h11.symm
            iterate 2 refine ⟨_, rfl, ?_⟩
            refine AW.cutM (gg + 1) st [(1, vL 1 0 (0)), (5, vI (v : Int)), (6, vL 6 0 (gg)), (59, vB true), (92, vB false)] [(1, 0, [vS s.p s.x.items.length, vS s.q s.x.floors.length]), (6, gg, [vI x.id, vI x.inc])] ⟨rfl, rfl, rfl, rfl, rfl, trivial⟩ ⟨rfl, rfl, trivial⟩ rfl fun ρ0 ff => ?_
            refine cx_sound _ _ _ _ _ ?_
            have e61 : IntKind.wrap .i64 ((v : Int) + 1) = ((v + 1 : Nat) : Int) := (wrap_i64 (by omega) (by omega)).trans (by omega)
            refine ⟨_, rfl, ?_⟩
            refine ⟨v + 1, s.x.floors.length - (v + 1), by omega, ⟨rfl, congrArg (Value.int .i64) e61, trivial⟩, ⟨rfl, trivial⟩, rfl, h7', fun j u hj hu => ?_, rfl⟩
            rcases Nat.lt_or_ge j v with h | h
            · exact hok2 j u h hu
            · obtain rfl : j = v := by omega
              rw [hx] at hu
              injection hu with hu
              subst hu
              exact ⟨h8, h11, fun y h0 hy => absurd h0 (by omega)⟩
        · replace h9 : 0 < (v : Int) := of_decide_eq_true h9
          refine ⟨_, rfl, ?_⟩
          refine ⟨_, op_ldo rfl rfl rfl rfl, ?_⟩
          refine ⟨_, rfl, ?_⟩
          refine ⟨_, op_ldo rfl rfl rfl rfl, ?_⟩
          have ⟨b2, o2, k2, y, hqe, hy, hm2, hc2, hb2⟩ := hR.2.atB (j := v - 1) (by omega)
          have e80 : IntKind.wrap .i64 ((v : Int) - 1) = ((v - 1 : Nat) : Int) := (wrap_i64 (by omega) (by omega)).trans (by omega)
          refine ⟨_, rfl, ?_⟩
          refine ⟨_, op_idx (j := ((v - 1 : Nat) : Int)) (n := s.x.floors.length) (q := ⟨b2, o2, none⟩) rfl (congrArg (fun u => vS u s.x.floors.length) hqe) (congrArg (Value.int .i64) e80) rfl rfl (Int.natCast_nonneg _) (by omega), ?_⟩
          refine ⟨_, rfl, ?_⟩
          refine ⟨_, op_ldc (i := 0) rfl rfl rfl rfl hm2 hc2 rfl rfl, ?_⟩
          refine ⟨_, rfl, ?_⟩
          rintro (_|_) h10
          · replace h10 : ¬ (x.id ≤ y.id) := of_decide_eq_false h10
            iterate 3 refine ⟨_, rfl, ?_⟩
            refine ⟨_, op_ldo rfl rfl rfl rfl, ?_⟩
            refine ⟨_, rfl, (ac_spec_l1In x.inc 1 1000 st).mono ?_⟩
            rintro _ st ⟨d, rfl, h11, rfl⟩
            rcases d with _|_
            · replace h11 := of_decide_eq_false h11.symm
              iterate 2 refine ⟨_, rfl, ?_⟩
              refine AW.cutM (gg + 1) st [(1, vL 1 0 (0)), (5, vI (v : Int)), (6, vL 6 0 (gg)), (59, vB true), (92, vB true)] [(1, 0, [vS s.p s.x.items.length, vS s.q s.x.floors.length]), (6, gg, [vI x.id, vI x.inc])] ⟨rfl, rfl, rfl, rfl, rfl, trivial⟩ ⟨rfl, rfl, trivial⟩ rfl fun ρ0 ff => ?_
              refine cx_sound _ _ _ _ _ ?_
              exact ⟨.inl rfl, _, rfl, false, rfl, ⟨fun h => absurd h Bool.false_ne_true, fun h => absurd (h.2 v x hx).2.1 h11⟩, rfl⟩
            · replace h11 := of_decide_eq_true h11.symm
              iterate 2 refine ⟨_, rfl, ?_⟩
              refine AW.cutM (gg + 1) st [(1, vL 1 0 (0)), (5, vI (v : Int)), (6, vL 6 0 (gg)), (59, vB true), (92, vB false)] [(1, 0, [vS s.p s.x.items.length, vS s.q s.x.floors.length]), (6, gg, [vI x.id, vI x.inc])] ⟨rfl, rfl, rfl, rfl, rfl, trivial⟩ ⟨rfl, rfl, trivial⟩ rfl fun ρ0 ff => ?_
              refine cx_sound _ _ _ _ _ ?_
              have e61 : IntKind.wrap .i64 ((v : Int) + 1) = ((v + 1 : Nat) : Int) := (wrap_i64 (by omega) (by omega)).trans (by omega)
              refine ⟨_, rfl, ?_⟩
              refine ⟨v + 1, s.x.floors.length - (v + 1), by omega, ⟨rfl, congrArg (Value.int .i64) e61, trivial⟩, ⟨rfl, trivial⟩, rfl, h7', fun j u hj hu => ?_, rfl⟩
              rcases Nat.lt_or_ge j v with h | h
              · exact hok2 j u h hu
              · obtain rfl : j = v := by omega
                rw [hx] at hu
                injection hu with hu
                subst hu
                refine ⟨h8, h11, fun z h0 hz => ?_⟩
                rw [hy] at hz
                injection hz with hz
                subst hz
                exact Int.not_le.1 h10
          · replace h10 : x.id ≤ y.id := of_decide_eq_true h10
            iterate 3 refine ⟨_, rfl, ?_⟩
            refine AW.cutM (gg + 1) st [(1, vL 1 0 (0)), (5, vI (v : Int)), (6, vL 6 0 (gg)), (59, vB true), (92, vB true)] [(1, 0, [vS s.p s.x.items.length, vS s.q s.x.floors.length]), (6, gg, [vI x.id, vI x.inc])] ⟨rfl, rfl, rfl, rfl, rfl, trivial⟩ ⟨rfl, rfl, trivial⟩ rfl fun ρ0 ff => ?_
            refine cx_sound _ _ _ _ _ ?_
            exact ⟨.inl rfl, _, rfl, false, rfl, ⟨fun h => absurd h Bool.false_ne_true, fun h => absurd ((h.2 v x hx).2.2 y (by omega) hy) (Int.not_lt.2 h10)⟩, rfl⟩
  · replace h1 : (i : Int) < (s.x.items.length : Int) := of_decide_eq_true h1
    refine AW.cutM (gg) st [(1, vL 1 0 (0)), (3, vI (i : Int)), (11, vB true)] [(1, 0, [vS s.p s.x.items.length, vS s.q s.x.floors.length])] ⟨rfl, rfl, rfl, trivial⟩ ⟨rfl, trivial⟩ rfl fun ρ0 ff => ?_
    have h1' := Int.ofNat_lt.1 h1
    have ⟨b1, o1, k1, x, hpe, hx, hm1, hc1, hb1⟩ := hR.1.atB h1'
    refine cx_sound _ _ _ _ _ ?_
    refine ⟨_, rfl, ?_⟩
    refine ⟨_, op_ldo rfl rfl rfl rfl, ?_⟩
    refine ⟨_, op_idx (j := (i : Int)) (n := s.x.items.length) (q := ⟨b1, o1, none⟩) rfl (congrArg (fun u => vS u s.x.items.length) hpe) rfl rfl rfl (Int.natCast_nonneg _) h1, ?_⟩
    refine ⟨_, op_lda rfl rfl rfl rfl rfl hm1 hc1 rfl, ?_⟩
    refine ⟨_, rfl, ?_⟩
    refine ⟨_, op_sto rfl rfl rfl rfl rfl rfl rfl, ?_⟩
    refine AW.cutM (gg + 1) st [(1, vL 1 0 (0)), (3, vI (i : Int)), (4, vL 4 0 (gg)), (11, vB true)] [(1, 0, [vS s.p s.x.items.length, vS s.q s.x.floors.length]), (4, gg, [vI x.id, vI x.e.inc, vI x.e.rank, vI x.e.beat, vI x.e.ver, .string x.e.data])] ⟨rfl, rfl, rfl, rfl, trivial⟩ ⟨rfl, rfl, trivial⟩ rfl fun ρ0 ff => ?_
    refine ⟨_, rfl, ?_⟩
    refine ⟨_, op_ldo rfl rfl rfl rfl, ?_⟩
    refine ⟨_, rfl, (ac_spec_l3Node x.id st).mono ?_⟩
    rintro _ st ⟨c, rfl, h2, rfl⟩
    rcases c with _|_
    · replace h2 := of_decide_eq_false h2.symm
      iterate 4 refine ⟨_, rfl, ?_⟩
      refine AW.cutM (gg + 1) st [(1, vL 1 0 (0)), (3, vI (i : Int)), (4, vL 4 0 (gg)), (11, vB true), (54, vB true)] [(1, 0, [vS s.p s.x.items.length, vS s.q s.x.floors.length]), (4, gg, [vI x.id, vI x.e.inc, vI x.e.rank, vI x.e.beat, vI x.e.ver, .string x.e.data])] ⟨rfl, rfl, rfl, rfl, rfl, trivial⟩ ⟨rfl, rfl, trivial⟩ rfl fun ρ0 ff => ?_
      refine cx_sound _ _ _ _ _ ?_
      exact ⟨.inl rfl, _, rfl, false, rfl, ⟨fun h => absurd h Bool.false_ne_true, fun h => absurd (h.1 i x hx).1 h2⟩, rfl⟩
    · replace h2 := of_decide_eq_true h2.symm
      iterate 2 refine ⟨_, rfl, ?_⟩
      rintro (_|_) h3
      · replace h3 : ¬ (0 < (i : Int)) := of_decide_eq_false h3
        iterate 3 refine ⟨_, rfl, ?_⟩
        refine ⟨_, op_ldo rfl rfl rfl rfl, ?_⟩
        refine ⟨_, rfl, (ac_spec_EntryOk x.e st).mono ?_⟩
        rintro _ st ⟨d, rfl, h5, rfl⟩
        rcases d with _|_
        · replace h5 := fun k => Bool.false_ne_true (h5.2 k)
          iterate 3 refine ⟨_, rfl, ?_⟩
          refine AW.cutM (gg + 1) st [(1, vL 1 0 (0)), (3, vI (i : Int)), (4, vL 4 0 (gg)), (11, vB true), (54, vB true)] [(1, 0, [vS s.p s.x.items.length, vS s.q s.x.floors.length]), (4, gg, [vI x.id, vI x.e.inc, vI x.e.rank, vI x.e.beat, vI x.e.ver, .string x.e.data])] ⟨rfl, rfl, rfl, rfl, rfl, trivial⟩ ⟨rfl, rfl, trivial⟩ rfl fun ρ0 ff => ?_
          refine cx_sound _ _ _ _ _ ?_
          exact ⟨.inl rfl, _, rfl, false, rfl, ⟨fun h => absurd h Bool.false_ne_true, fun h => absurd (h.1 i x hx).2.1 h5⟩, rfl⟩
        · replace h5 := h5.1 rfl
          iterate 4 refine ⟨_, rfl, ?_⟩
          refine ⟨_, op_ldo rfl rfl rfl rfl, ?_⟩
          refine ⟨ld_own rfl rfl rfl, ?_⟩
          refine ⟨_, op_ldo rfl rfl rfl rfl, ?_⟩
          refine ⟨_, rfl, ?_⟩
          refine ⟨_, op_ldo rfl rfl rfl rfl, ?_⟩
          refine ⟨_, rfl, (ac_spec_FloorOf s x.id st hR hb).mono ?_⟩
          rintro _ st ⟨rfl, rfl⟩
          refine ⟨fun _ _ => rfl, ?_⟩
          refine ⟨_, rfl, ?_⟩
          rintro (_|_) h6
          · replace h6 : ¬ (x.e.inc ≤ floorOf s.x.floors x.id) := of_decide_eq_false h6
            refine ⟨_, rfl, ?_⟩
            refine AW.cutM (gg + 1) st [(1, vL 1 0 (0)), (3, vI (i : Int)), (4, vL 4 0 (gg)), (11, vB true), (54, vB false)] [(1, 0, [vS s.p s.x.items.length, vS s.q s.x.floors.length]), (4, gg, [vI x.id, vI x.e.inc, vI x.e.rank, vI x.e.beat, vI x.e.ver, .string x.e.data])] ⟨rfl, rfl, rfl, rfl, rfl, trivial⟩ ⟨rfl, rfl, trivial⟩ rfl fun ρ0 ff => ?_
            refine cx_sound _ _ _ _ _ ?_
            have e13 : IntKind.wrap .i64 ((i : Int) + 1) = ((i + 1 : Nat) : Int) := (wrap_i64 (by omega) (by omega)).trans (by omega)
            refine ⟨_, rfl, ?_⟩
            refine ⟨i + 1, s.x.items.length - (i + 1), by omega, ⟨rfl, congrArg (Value.int .i64) e13, trivial⟩, ⟨rfl, trivial⟩, rfl, h1', fun j u hj hu => ?_, rfl⟩
            rcases Nat.lt_or_ge j i with h | h
            · exact hok j u h hu
            · obtain rfl : j = i := by omega
              rw [hx] at hu
              injection hu with hu
              subst hu
              exact ⟨h2, h5, Int.not_le.1 h6, fun y h0 hy => absurd h0 (by omega)⟩
          · replace h6 : x.e.inc ≤ floorOf s.x.floors x.id := of_decide_eq_true h6
            refine ⟨_, rfl, ?_⟩
            refine AW.cutM (gg + 1) st [(1, vL 1 0 (0)), (3, vI (i : Int)), (4, vL 4 0 (gg)), (11, vB true), (54, vB true)] [(1, 0, [vS s.p s.x.items.length, vS s.q s.x.floors.length]), (4, gg, [vI x.id, vI x.e.inc, vI x.e.rank, vI x.e.beat, vI x.e.ver, .string x.e.data])] ⟨rfl, rfl, rfl, rfl, rfl, trivial⟩ ⟨rfl, rfl, trivial⟩ rfl fun ρ0 ff => ?_
            refine cx_sound _ _ _ _ _ ?_
            exact ⟨.inl rfl, _, rfl, false, rfl, ⟨fun h => absurd h Bool.false_ne_true, fun h => absurd (h.1 i x hx).2.2.1 (Int.not_lt.2 h6)⟩, rfl⟩
      · replace h3 : 0 < (i : Int) := of_decide_eq_true h3
        refine ⟨_, rfl, ?_⟩
        refine ⟨_, op_ldo rfl rfl rfl rfl, ?_⟩
        refine ⟨_, rfl, ?_⟩
        refine ⟨_, op_ldo rfl rfl rfl rfl, ?_⟩
        have ⟨b2, o2, k2, y, hqe, hy, hm2, hc2, hb2⟩ := hR.1.atB (j := i - 1) (by omega)
        have e32 : IntKind.wrap .i64 ((i : Int) - 1) = ((i - 1 : Nat) : Int) := (wrap_i64 (by omega) (by omega)).trans (by omega)
        refine ⟨_, rfl, ?_⟩
        refine ⟨_, op_idx (j := ((i - 1 : Nat) : Int)) (n := s.x.items.length) (q := ⟨b2, o2, none⟩) rfl (congrArg (fun u => vS u s.x.items.length) hqe) (congrArg (Value.int .i64) e32) rfl rfl (Int.natCast_nonneg _) (by omega), ?_⟩
        refine ⟨_, rfl, ?_⟩
        refine ⟨_, op_ldc (i := 0) rfl rfl rfl rfl hm2 hc2 rfl rfl, ?_⟩
        refine ⟨_, rfl, ?_⟩
        rintro (_|_) h4
        · replace h4 : ¬ (x.id ≤ y.id) := of_decide_eq_false h4
          iterate 3 refine ⟨_, rfl, ?_⟩
          refine ⟨_, op_ldo rfl rfl rfl rfl, ?_⟩
          refine ⟨_, rfl, (ac_spec_EntryOk x.e st).mono ?_⟩
          rintro _ st ⟨d, rfl, h5, rfl⟩
          rcases d with _|_
          · replace h5 := fun k => Bool.false_ne_true (h5.2 k)
            iterate 3 refine ⟨_, rfl, ?_⟩
            refine AW.cutM (gg + 1) st [(1, vL 1 0 (0)), (3, vI (i : Int)), (4, vL 4 0 (gg)), (11, vB true), (54, vB true)] [(1, 0, [vS s.p s.x.items.length, vS s.q s.x.floors.length]), (4, gg, [vI x.id, vI x.e.inc, vI x.e.rank, vI x.e.beat, vI x.e.ver, .string x.e.data])] ⟨rfl, rfl, rfl, rfl, rfl, trivial⟩ ⟨rfl, rfl, trivial⟩ rfl fun ρ0 ff => ?_
            refine cx_sound _ _ _ _ _ ?_
            exact ⟨.inl rfl, _, rfl, false, rfl, ⟨fun h => absurd h Bool.false_ne_true, fun h => absurd (h.1 i x hx).2.1 h5⟩, rfl⟩
          · replace h5 := h5.1 rfl
            iterate 4 refine ⟨_, rfl, ?_⟩
            refine ⟨_, op_ldo rfl rfl rfl rfl, ?_⟩
            refine ⟨ld_own rfl rfl rfl, ?_⟩
            refine ⟨_, op_ldo rfl rfl rfl rfl, ?_⟩
            refine ⟨_, rfl, ?_⟩
            refine ⟨_, op_ldo rfl rfl rfl rfl, ?_⟩
            refine ⟨_, rfl, (ac_spec_FloorOf s x.id st hR hb).mono ?_⟩
            rintro _ st ⟨rfl, rfl⟩
            refine ⟨fun _ _ => rfl, ?_⟩
            refine ⟨_, rfl, ?_⟩
            rintro (_|_) h6
            · replace h6 : ¬ (x.e.inc ≤ floorOf s.x.floors x.id) := of_decide_eq_false h6
              refine ⟨_, rfl, ?_⟩
              refine AW.cutM (gg + 1) st [(1, vL 1 0 (0)), (3, vI (i : Int)), (4, vL 4 0 (gg)), (11, vB true), (54, vB false)] [(1, 0, [vS s.p s.x.items.length, vS s.q s.x.floors.length]), (4, gg, [vI x.id, vI x.e.inc, vI x.e.rank, vI x.e.beat, vI x.e.ver, .string x.e.data])] ⟨rfl, rfl, rfl, rfl, rfl, trivial⟩ ⟨rfl, rfl, trivial⟩ rfl fun ρ0 ff => ?_
              refine cx_sound _ _ _ _ _ ?_
              have e13 : IntKind.wrap .i64 ((i : Int) + 1) = ((i + 1 : Nat) : Int) := (wrap_i64 (by omega) (by omega)).trans (by omega)
              refine ⟨_, rfl, ?_⟩
              refine ⟨i + 1, s.x.items.length - (i + 1), by omega, ⟨rfl, congrArg (Value.int .i64) e13, trivial⟩, ⟨rfl, trivial⟩, rfl, h1', fun j u hj hu => ?_, rfl⟩
              rcases Nat.lt_or_ge j i with h | h
              · exact hok j u h hu
              · obtain rfl : j = i := by omega
                rw [hx] at hu
                injection hu with hu
                subst hu
                refine ⟨h2, h5, Int.not_le.1 h6, fun z h0 hz => ?_⟩
                rw [hy] at hz
                injection hz with hz
                subst hz
                exact Int.not_le.1 h4
            · replace h6 : x.e.inc ≤ floorOf s.x.floors x.id := of_decide_eq_true h6
              refine ⟨_, rfl, ?_⟩
              refine AW.cutM (gg + 1) st [(1, vL 1 0 (0)), (3, vI (i : Int)), (4, vL 4 0 (gg)), (11, vB true), (54, vB true)] [(1, 0, [vS s.p s.x.items.length, vS s.q s.x.floors.length]), (4, gg, [vI x.id, vI x.e.inc, vI x.e.rank, vI x.e.beat, vI x.e.ver, .string x.e.data])] ⟨rfl, rfl, rfl, rfl, rfl, trivial⟩ ⟨rfl, rfl, trivial⟩ rfl fun ρ0 ff => ?_
              refine cx_sound _ _ _ _ _ ?_
              exact ⟨.inl rfl, _, rfl, false, rfl, ⟨fun h => absurd h Bool.false_ne_true, fun h => absurd (h.1 i x hx).2.2.1 (Int.not_lt.2 h6)⟩, rfl⟩
        · replace h4 : x.id ≤ y.id := of_decide_eq_true h4
          iterate 4 refine ⟨_, rfl, ?_⟩
          refine AW.cutM (gg + 1) st [(1, vL 1 0 (0)), (3, vI (i : Int)), (4, vL 4 0 (gg)), (11, vB true), (54, vB true)] [(1, 0, [vS s.p s.x.items.length, vS s.q s.x.floors.length]), (4, gg, [vI x.id, vI x.e.inc, vI x.e.rank, vI x.e.beat, vI x.e.ver, .string x.e.data])] ⟨rfl, rfl, rfl, rfl, rfl, trivial⟩ ⟨rfl, rfl, trivial⟩ rfl fun ρ0 ff => ?_
          refine cx_sound _ _ _ _ _ ?_
          exact ⟨.inl rfl, _, rfl, false, rfl, ⟨fun h => absurd h Bool.false_ne_true, fun h => absurd ((h.1 i x hx).2.2.2 y (by omega) hy) (Int.not_lt.2 h4)⟩, rfl⟩
theorem ac_impl_StateOk (s : SV) (st : St) (hR : RdS st s) (hb : bigS s.x) : C 105 [.agg #[vS s.p s.x.items.length, vS s.q s.x.floors.length]] st (fun v s' => ∃ x, v = .bool x ∧ (x = true ↔ stateOk s.x) ∧ s' = st) := by
  have hs1 : s.x.items.length ≤ 1048576 := hb.1
  have hs2 : s.x.floors.length ≤ 1048576 := hb.2.1
  refine AC.enterX (i := ⟨[1, 4, 6], [1, 4, 6, 7, 15, 20, 29, 36, 42, 50, 55, 61, 62, 65, 74, 81], [0, 1, 2, 3, 4, 5, 6, 8, 9, 10, 11, 40, 43, 44, 45, 46, 85]⟩) [(4, [], []), (10, [17], [13])] Try.func105 rfl rfl (by kernel_rfl) (by kernel_rfl) Try.ntmps105 (Nat.le_of_ble_eq_true rfl) rfl ?_
  refine ⟨_, rfl, ?_⟩
  refine AW.cutM (1) st [(1, vL 1 0 (0)), (2, vB false)] [(1, 0, [vS s.p s.x.items.length, vS s.q s.x.floors.length])] ⟨rfl, rfl, trivial⟩ ⟨rfl, trivial⟩ rfl fun ρ0 ff => ?_
  iterate 3 refine ⟨_, rfl, ?_⟩
  refine AW.cutM (1) st [(1, vL 1 0 (0)), (2, vB false), (8, vS s.q s.x.floors.length), (9, vI (s.x.floors.length)), (10, vI (0))] [(1, 0, [vS s.p s.x.items.length, vS s.q s.x.floors.length])] ⟨rfl, rfl, rfl, rfl, rfl, trivial⟩ ⟨rfl, trivial⟩ rfl fun ρ0 ff => ?_
  refine AW.loopM (fun v : Nat => [(1, vL 1 0 (0)), (8, vS s.q s.x.floors.length), (9, vI (s.x.floors.length : Int)), (10, vI (v : Int))]) (fun v : Nat => [(1, 0, [vS s.p s.x.items.length, vS s.q s.x.floors.length])]) (fun m (v : Nat) st' => m = s.x.floors.length - v ∧ v ≤ s.x.floors.length ∧ (∀ (j : Nat) x, j < v → s.x.floors[j]? = some x → markOk s.x.floors j x) ∧ st = st') 0 _ ⟨rfl, rfl, rfl, rfl, trivial⟩ ⟨rfl, trivial⟩ ⟨rfl, Nat.zero_le _, fun j x h => absurd h (Nat.not_lt_zero _), rfl⟩ ?_
  rintro m v ρ0 ff gg st' ⟨rfl, hi2, hok2, rfl⟩
  refine ⟨_, rfl, ?_⟩
  rintro (_|_) h7
  · replace h7 : ¬ ((v : Int) < (s.x.floors.length : Int)) := of_decide_eq_false h7
    refine AW.cutM (gg) st [(1, vL 1 0 (0)), (8, vS s.q s.x.floors.length), (9, vI (s.x.floors.length : Int)), (10, vI (v : Int)), (11, vB false)] [(1, 0, [vS s.p s.x.items.length, vS s.q s.x.floors.length])] ⟨rfl, rfl, rfl, rfl, rfl, trivial⟩ ⟨rfl, trivial⟩ rfl fun ρ0 ff => ?_
    refine cx_sound _ _ _ _ _ ?_
    refine ⟨_, rfl, ?_⟩
    refine ⟨_, op_ldo rfl rfl rfl rfl, ?_⟩
    refine ⟨_, rfl, ?_⟩
    refine AW.cutM (gg) st [(1, vL 1 0 (0)), (43, vS s.p s.x.items.length), (44, vI (s.x.items.length)), (45, vI (0))] [(1, 0, [vS s.p s.x.items.length, vS s.q s.x.floors.length])] ⟨rfl, rfl, rfl, rfl, trivial⟩ ⟨rfl, trivial⟩ rfl fun ρ0 ff => ?_
    refine AW.loopM (fun i : Nat => [(1, vL 1 0 (0)), (43, vS s.p s.x.items.length), (44, vI (s.x.items.length : Int)), (45, vI (i : Int))]) (fun i : Nat => [(1, 0, [vS s.p s.x.items.length, vS s.q s.x.floors.length])]) (fun m (i : Nat) st' => m = s.x.items.length - i ∧ i ≤ s.x.items.length ∧ (∀ (j : Nat) x, j < i → s.x.items[j]? = some x → itemOk s.x j x) ∧ st = st') 0 _ ⟨rfl, rfl, rfl, rfl, trivial⟩ ⟨rfl, trivial⟩ ⟨rfl, Nat.zero_le _, fun j x h => absurd h (Nat.not_lt_zero _), rfl⟩ ?_
    rintro m i ρ0 ff gg st' ⟨rfl, hi, hok, rfl⟩
    refine ⟨_, rfl, ?_⟩
    rintro (_|_) h1
    · replace h1 : ¬ ((i : Int) < (s.x.items.length : Int)) := of_decide_eq_false h1
      refine AW.cutM (gg) st [(1, vL 1 0 (0)), (43, vS s.p s.x.items.length), (44, vI (s.x.items.length : Int)), (45, vI (i : Int)), (46, vB false)] [(1, 0, [vS s.p s.x.items.length, vS s.q s.x.floors.length])] ⟨rfl, rfl, rfl, rfl, rfl, trivial⟩ ⟨rfl, trivial⟩ rfl fun ρ0 ff => ?_
      refine cx_sound _ _ _ _ _ ?_
      refine cx_sound _ _ _ _ _ ?_
      exact ⟨.inl rfl, _, rfl, true, rfl, ⟨fun _ => ⟨fun j x hx => hok j x (by have := (List.getElem?_eq_some_iff.1 hx).1; omega) hx, fun j x hx => hok2 j x (by have := (List.getElem?_eq_some_iff.1 hx).1; omega) hx⟩, fun _ => rfl⟩, rfl⟩
    · replace h1 : (i : Int) < (s.x.items.length : Int) := of_decide_eq_true h1
      refine AW.cutM (gg) st [(1, vL 1 0 (0)), (43, vS s.p s.x.items.length), (44, vI (s.x.items.length : Int)), (45, vI (i : Int)), (46, vB true)] [(1, 0, [vS s.p s.x.items.length, vS s.q s.x.floors.length])] ⟨rfl, rfl, rfl, rfl, rfl, trivial⟩ ⟨rfl, trivial⟩ rfl fun ρ0 ff => ?_
      have h1' := Int.ofNat_lt.1 h1
      have ⟨b1, o1, k1, x, hpe, hx, hm1, hc1, hb1⟩ := hR.1.atB h1'
      refine cx_sound _ _ _ _ _ ?_
      refine ⟨_, op_idx (j := (i : Int)) (n := s.x.items.length) (q := ⟨b1, o1, none⟩) rfl (congrArg (fun u => vS u s.x.items.length) hpe) rfl rfl rfl (Int.natCast_nonneg _) h1, ?_⟩
      refine ⟨_, op_lda rfl rfl rfl rfl rfl hm1 hc1 rfl, ?_⟩
      refine ⟨_, rfl, ?_⟩
      refine ⟨_, op_sto rfl rfl rfl rfl rfl rfl rfl, ?_⟩
      refine AW.cutM (gg + 1) st [(1, vL 1 0 (0)), (5, vI (i : Int)), (6, vL 6 0 (gg)), (43, vS s.p s.x.items.length), (44, vI (s.x.items.length : Int)), (45, vI (i : Int)), (46, vB true)] [(1, 0, [vS s.p s.x.items.length, vS s.q s.x.floors.length]), (6, gg, [vI x.id, vI x.e.inc, vI x.e.rank, vI x.e.beat, vI x.e.ver, .string x.e.data])] ⟨rfl, rfl, rfl, rfl, rfl, rfl, rfl, trivial⟩ ⟨rfl, rfl, trivial⟩ rfl fun ρ0 ff => ?_
      refine ⟨_, rfl, ?_⟩
      refine ⟨_, op_ldo rfl rfl rfl rfl, ?_⟩
      refine ⟨_, rfl, (ac_impl_isNode x.id st).mono ?_⟩
      rintro _ st ⟨c, rfl, h2, rfl⟩
      rcases c with _|_
      · replace h2 := of_decide_eq_false h2.symm
        iterate 4 refine ⟨_, rfl, ?_⟩
        refine AW.cutM (gg + 1) st [(1, vL 1 0 (0)), (5, vI (i : Int)), (6, vL 6 0 (gg)), (43, vS s.p s.x.items.length), (44, vI (s.x.items.length : Int)), (45, vI (i : Int)), (46, vB true), (85, vB true)] [(1, 0, [vS s.p s.x.items.length, vS s.q s.x.floors.length]), (6, gg, [vI x.id, vI x.e.inc, vI x.e.rank, vI x.e.beat, vI x.e.ver, .string x.e.data])] ⟨rfl, rfl, rfl, rfl, rfl, rfl, rfl, rfl, trivial⟩ ⟨rfl, rfl, trivial⟩ rfl fun ρ0 ff => ?_
        refine cx_sound _ _ _ _ _ ?_
        exact ⟨.inl rfl, _, rfl, false, rfl, ⟨fun h => absurd h Bool.false_ne_true, fun h => absurd (h.1 i x hx).1 h2⟩, rfl⟩
      · replace h2 := of_decide_eq_true h2.symm
        iterate 2 refine ⟨_, rfl, ?_⟩
        refine ⟨_, op_ldo rfl rfl rfl rfl, ?_⟩
        refine ⟨_, rfl, (ac_impl_EntryOk x.e st).mono ?_⟩
        rintro _ st ⟨d, rfl, h5, rfl⟩
        rcases d with _|_
        · replace h5 := fun k => Bool.false_ne_true (h5.2 k)
          iterate 4 refine ⟨_, rfl, ?_⟩
          refine AW.cutM (gg + 1) st [(1, vL 1 0 (0)), (5, vI (i : Int)), (6, vL 6 0 (gg)), (43, vS s.p s.x.items.length), (44, vI (s.x.items.length : Int)), (45, vI (i : Int)), (46, vB true), (85, vB true)] [(1, 0, [vS s.p s.x.items.length, vS s.q s.x.floors.length]), (6, gg, [vI x.id, vI x.e.inc, vI x.e.rank, vI x.e.beat, vI x.e.ver, .string x.e.data])] ⟨rfl, rfl, rfl, rfl, rfl, rfl, rfl, rfl, trivial⟩ ⟨rfl, rfl, trivial⟩ rfl fun ρ0 ff => ?_
          refine cx_sound _ _ _ _ _ ?_
          exact ⟨.inl rfl, _, rfl, false, rfl, ⟨fun h => absurd h Bool.false_ne_true, fun h => absurd (h.1 i x hx).2.1 h5⟩, rfl⟩
        · replace h5 := h5.1 rfl
          iterate 4 refine ⟨_, rfl, ?_⟩
          refine ⟨_, op_ldo rfl rfl rfl rfl, ?_⟩
          refine ⟨ld_own rfl rfl rfl, ?_⟩
          refine ⟨_, op_ldo rfl rfl rfl rfl, ?_⟩
          refine ⟨_, rfl, ?_⟩
          refine ⟨_, op_ldo rfl rfl rfl rfl, ?_⟩
          refine ⟨_, rfl, (ac_impl_FloorOf s x.id st hR hb).mono ?_⟩
          rintro _ st ⟨rfl, rfl⟩
          refine ⟨fun _ _ => rfl, ?_⟩
          refine ⟨_, rfl, ?_⟩
          rintro (_|_) h6
          · replace h6 : ¬ (x.e.inc ≤ floorOf s.x.floors x.id) := of_decide_eq_false h6
            iterate 2 refine ⟨_, rfl, ?_⟩
            rintro (_|_) h3
            · replace h3 : ¬ (0 < (i : Int)) := of_decide_eq_false h3
              iterate 2 refine ⟨_, rfl, ?_⟩
              refine AW.cutM (gg + 1) st [(1, vL 1 0 (0)), (5, vI (i : Int)), (6, vL 6 0 (gg)), (43, vS s.p s.x.items.length), (44, vI (s.x.items.length : Int)), (45, vI (i : Int)), (46, vB true), (85, vB false)] [(1, 0, [vS s.p s.x.items.length, vS s.q s.x.floors.length]), (6, gg, [vI x.id, vI x.e.inc, vI x.e.rank, vI x.e.beat, vI x.e.ver, .string x.e.data])] ⟨rfl, rfl, rfl, rfl, rfl, rfl, rfl, rfl, trivial⟩ ⟨rfl, rfl, trivial⟩ rfl fun ρ0 ff => ?_
              refine cx_sound _ _ _ _ _ ?_
              have e86 : IntKind.wrap .i64 ((i : Int) + 1) = ((i + 1 : Nat) : Int) := (wrap_i64 (by omega) (by omega)).trans (by omega)
              refine ⟨_, rfl, ?_⟩
              refine ⟨i + 1, s.x.items.length - (i + 1), by omega, ⟨rfl, rfl, rfl, congrArg (Value.int .i64) e86, trivial⟩, ⟨rfl, trivial⟩, rfl, h1', fun j u hj hu => ?_, rfl⟩
              rcases Nat.lt_or_ge j i with h | h
              · exact hok j u h hu
              · obtain rfl : j = i := by omega
                rw [hx] at hu
                injection hu with hu
                subst hu
                exact ⟨h2, h5, Int.not_le.1 h6, fun y h0 hy => absurd h0 (by omega)⟩
            · replace h3 : 0 < (i : Int) := of_decide_eq_true h3
              refine ⟨_, rfl, ?_⟩
              refine ⟨_, op_ldo rfl rfl rfl rfl, ?_⟩
              have ⟨b2, o2, k2, y, hqe, hy, hm2, hc2, hb2⟩ := hR.1.atB (j := i - 1) (by omega)
              have e77 : IntKind.wrap .i64 ((i : Int) - 1) = ((i - 1 : Nat) : Int) := (wrap_i64 (by omega) (by omega)).trans (by omega)
              refine ⟨_, rfl, ?_⟩
              refine ⟨_, op_idx (j := ((i - 1 : Nat) : Int)) (n := s.x.items.length) (q := ⟨b2, o2, none⟩) rfl (congrArg (fun u => vS u s.x.items.length) hqe) (congrArg (Value.int .i64) e77) rfl rfl (Int.natCast_nonneg _) (by omega), ?_⟩
              refine ⟨_, rfl, ?_⟩
              refine ⟨_, op_ldc (i := 0) rfl rfl rfl rfl hm2 hc2 rfl rfl, ?_⟩
              refine ⟨_, rfl, ?_⟩
              refine ⟨_, op_ldo rfl rfl rfl rfl, ?_⟩
              refine ⟨_, rfl, ?_⟩
              rintro (_|_) h4
              · replace h4 : ¬ (x.id ≤ y.id) := of_decide_eq_false h4
                iterate 2 refine ⟨_, rfl, ?_⟩
                refine AW.cutM (gg + 1) st [(1, vL 1 0 (0)), (5, vI (i : Int)), (6, vL 6 0 (gg)), (43, vS s.p s.x.items.length), (44, vI (s.x.items.length : Int)), (45, vI (i : Int)), (46, vB true), (85, vB false)] [(1, 0, [vS s.p s.x.items.length, vS s.q s.x.floors.length]), (6, gg, [vI x.id, vI x.e.inc, vI x.e.rank, vI x.e.beat, vI x.e.ver, .string x.e.data])] ⟨rfl, rfl, rfl, rfl, rfl, rfl, rfl, rfl, trivial⟩ ⟨rfl, rfl, trivial⟩ rfl fun ρ0 ff => ?_
                refine cx_sound _ _ _ _ _ ?_
                have e86 : IntKind.wrap .i64 ((i : Int) + 1) = ((i + 1 : Nat) : Int) := (wrap_i64 (by omega) (by omega)).trans (by omega)
                refine ⟨_, rfl, ?_⟩
                refine ⟨i + 1, s.x.items.length - (i + 1), by omega, ⟨rfl, rfl, rfl, congrArg (Value.int .i64) e86, trivial⟩, ⟨rfl, trivial⟩, rfl, h1', fun j u hj hu => ?_, rfl⟩
                rcases Nat.lt_or_ge j i with h | h
                · exact hok j u h hu
                · obtain rfl : j = i := by omega
                  rw [hx] at hu
                  injection hu with hu
                  subst hu
                  refine ⟨h2, h5, Int.not_le.1 h6, fun z h0 hz => ?_⟩
                  rw [hy] at hz
                  injection hz with hz
                  subst hz
                  exact Int.not_le.1 h4
              · replace h4 : x.id ≤ y.id := of_decide_eq_true h4
                iterate 2 refine ⟨_, rfl, ?_⟩
                refine AW.cutM (gg + 1) st [(1, vL 1 0 (0)), (5, vI (i : Int)), (6, vL 6 0 (gg)), (43, vS s.p s.x.items.length), (44, vI (s.x.items.length : Int)), (45, vI (i : Int)), (46, vB true), (85, vB true)] [(1, 0, [vS s.p s.x.items.length, vS s.q s.x.floors.length]), (6, gg, [vI x.id, vI x.e.inc, vI x.e.rank, vI x.e.beat, vI x.e.ver, .string x.e.data])] ⟨rfl, rfl, rfl, rfl, rfl, rfl, rfl, rfl, trivial⟩ ⟨rfl, rfl, trivial⟩ rfl fun ρ0 ff => ?_
                refine cx_sound _ _ _ _ _ ?_
                exact ⟨.inl rfl, _, rfl, false, rfl, ⟨fun h => absurd h Bool.false_ne_true, fun h => absurd ((h.1 i x hx).2.2.2 y (by omega) hy) (Int.not_lt.2 h4)⟩, rfl⟩
          · replace h6 : x.e.inc ≤ floorOf s.x.floors x.id := of_decide_eq_true h6
            iterate 2 refine ⟨_, rfl, ?_⟩
            refine AW.cutM (gg + 1) st [(1, vL 1 0 (0)), (5, vI (i : Int)), (6, vL 6 0 (gg)), (43, vS s.p s.x.items.length), (44, vI (s.x.items.length : Int)), (45, vI (i : Int)), (46, vB true), (85, vB true)] [(1, 0, [vS s.p s.x.items.length, vS s.q s.x.floors.length]), (6, gg, [vI x.id, vI x.e.inc, vI x.e.rank, vI x.e.beat, vI x.e.ver, .string x.e.data])] ⟨rfl, rfl, rfl, rfl, rfl, rfl, rfl, rfl, trivial⟩ ⟨rfl, rfl, trivial⟩ rfl fun ρ0 ff => ?_
            refine cx_sound _ _ _ _ _ ?_
            exact ⟨.inl rfl, _, rfl, false, rfl, ⟨fun h => absurd h Bool.false_ne_true, fun h => absurd (h.1 i x hx).2.2.1 (Int.not_lt.2 h6)⟩, rfl⟩
  · replace h7 : (v : Int) < (s.x.floors.length : Int) := of_decide_eq_true h7
    refine AW.cutM (gg) st [(1, vL 1 0 (0)), (8, vS s.q s.x.floors.length), (9, vI (s.x.floors.length : Int)), (10, vI (v : Int)), (11, vB true)] [(1, 0, [vS s.p s.x.items.length, vS s.q s.x.floors.length])] ⟨rfl, rfl, rfl, rfl, rfl, trivial⟩ ⟨rfl, trivial⟩ rfl fun ρ0 ff => ?_
    have h7' := Int.ofNat_lt.1 h7
    have ⟨b3, o3, k3, x, hpe, hx, hm1, hc1, hb1⟩ := hR.2.atB h7'
    refine cx_sound _ _ _ _ _ ?_
    refine ⟨_, op_idx (j := (v : Int)) (n := s.x.floors.length) (q := ⟨b3, o3, none⟩) rfl (congrArg (fun u => vS u s.x.floors.length) hpe) rfl rfl rfl (Int.natCast_nonneg _) h7, ?_⟩
    refine ⟨_, op_lda rfl rfl rfl rfl rfl hm1 hc1 rfl, ?_⟩
    refine ⟨_, rfl, ?_⟩
    refine ⟨_, op_sto rfl rfl rfl rfl rfl rfl rfl, ?_⟩
    refine AW.cutM (gg + 1) st [(1, vL 1 0 (0)), (3, vI (v : Int)), (4, vL 4 0 (gg)), (8, vS s.q s.x.floors.length), (9, vI (s.x.floors.length : Int)), (10, vI (v : Int)), (11, vB true)] [(1, 0, [vS s.p s.x.items.length, vS s.q s.x.floors.length]), (4, gg, [vI x.id, vI x.inc])] ⟨rfl, rfl, rfl, rfl, rfl, rfl, rfl, trivial⟩ ⟨rfl, rfl, trivial⟩ rfl fun ρ0 ff => ?_
    refine ⟨_, rfl, ?_⟩
    refine ⟨_, op_ldo rfl rfl rfl rfl, ?_⟩
    refine ⟨_, rfl, (ac_impl_isNode x.id st).mono ?_⟩
    rintro _ st ⟨c, rfl, h8, rfl⟩
    rcases c with _|_
    · replace h8 := of_decide_eq_false h8.symm
      iterate 3 refine ⟨_, rfl, ?_⟩
      refine AW.cutM (gg + 1) st [(1, vL 1 0 (0)), (3, vI (v : Int)), (4, vL 4 0 (gg)), (8, vS s.q s.x.floors.length), (9, vI (s.x.floors.length : Int)), (10, vI (v : Int)), (11, vB true), (40, vB true)] [(1, 0, [vS s.p s.x.items.length, vS s.q s.x.floors.length]), (4, gg, [vI x.id, vI x.inc])] ⟨rfl, rfl, rfl, rfl, rfl, rfl, rfl, rfl, trivial⟩ ⟨rfl, rfl, trivial⟩ rfl fun ρ0 ff => ?_
      refine cx_sound _ _ _ _ _ ?_
      exact ⟨.inl rfl, _, rfl, false, rfl, ⟨fun h => absurd h Bool.false_ne_true, fun h => absurd (h.2 v x hx).1 h8⟩, rfl⟩
    · replace h8 := of_decide_eq_true h8.symm
      iterate 2 refine ⟨_, rfl, ?_⟩
      refine ⟨_, op_ldo rfl rfl rfl rfl, ?_⟩
      refine ⟨_, rfl, (ac_impl_within x.inc 1 1000 st).mono ?_⟩
      rintro _ st ⟨d, rfl, h11, rfl⟩
      rcases d with _|_
      · replace h11 := of_decide_eq_false h11.symm
        iterate 3 refine ⟨_, rfl, ?_⟩
        refine AW.cutM (gg + 1) st [(1, vL 1 0 (0)), (3, vI (v : Int)), (4, vL 4 0 (gg)), (8, vS s.q s.x.floors.length), (9, vI (s.x.floors.length : Int)), (10, vI (v : Int)), (11, vB true), (40, vB true)] [(1, 0, [vS s.p s.x.items.length, vS s.q s.x.floors.length]), (4, gg, [vI x.id, vI x.inc])] ⟨rfl, rfl, rfl, rfl, rfl, rfl, rfl, rfl, trivial⟩ ⟨rfl, rfl, trivial⟩ rfl fun ρ0 ff => ?_
        refine cx_sound _ _ _ _ _ ?_
        exact ⟨.inl rfl, _, rfl, false, rfl, ⟨fun h => absurd h Bool.false_ne_true, fun h => absurd (h.2 v x hx).2.1 h11⟩, rfl⟩
      · replace h11 := of_decide_eq_true h11.symm
        iterate 3 refine ⟨_, rfl, ?_⟩
        rintro (_|_) h9
        · replace h9 : ¬ (0 < (v : Int)) := of_decide_eq_false h9
          iterate 2 refine ⟨_, rfl, ?_⟩
          refine AW.cutM (gg + 1) st [(1, vL 1 0 (0)), (3, vI (v : Int)), (4, vL 4 0 (gg)), (8, vS s.q s.x.floors.length), (9, vI (s.x.floors.length : Int)), (10, vI (v : Int)), (11, vB true), (40, vB false)] [(1, 0, [vS s.p s.x.items.length, vS s.q s.x.floors.length]), (4, gg, [vI x.id, vI x.inc])] ⟨rfl, rfl, rfl, rfl, rfl, rfl, rfl, rfl, trivial⟩ ⟨rfl, rfl, trivial⟩ rfl fun ρ0 ff => ?_
          refine cx_sound _ _ _ _ _ ?_
          have e41 : IntKind.wrap .i64 ((v : Int) + 1) = ((v + 1 : Nat) : Int) := (wrap_i64 (by omega) (by omega)).trans (by omega)
          refine ⟨_, rfl, ?_⟩
          refine ⟨v + 1, s.x.floors.length - (v + 1), by omega, ⟨rfl, rfl, rfl, congrArg (Value.int .i64) e41, trivial⟩, ⟨rfl, trivial⟩, rfl, h7', fun j u hj hu => ?_, rfl⟩
          rcases Nat.lt_or_ge j v with h | h
          · exact hok2 j u h hu
          · obtain rfl : j = v := by omega
            rw [hx] at hu
            injection hu with hu
            subst hu
            exact ⟨h8, h11, fun y h0 hy => absurd h0 (by omega)⟩
        · replace h9 : 0 < (v : Int) := of_decide_eq_true h9
          refine ⟨_, rfl, ?_⟩
          refine ⟨_, op_ldo rfl rfl rfl rfl, ?_⟩
          have ⟨b2, o2, k2, y, hqe, hy, hm2, hc2, hb2⟩ := hR.2.atB (j := v - 1) (by omega)
          have e32 : IntKind.wrap .i64 ((v : Int) - 1) = ((v - 1 : Nat) : Int) := (wrap_i64 (by omega) (by omega)).trans (by omega)
          refine ⟨_, rfl, ?_⟩
          refine ⟨_, op_idx (j := ((v - 1 : Nat) : Int)) (n := s.x.floors.length) (q := ⟨b2, o2, none⟩) rfl (congrArg (fun u => vS u s.x.floors.length) hqe) (congrArg (Value.int .i64) e32) rfl rfl (Int.natCast_nonneg _) (by omega), ?_⟩
          refine ⟨_, rfl, ?_⟩
          refine ⟨_, op_ldc (i := 0) rfl rfl rfl rfl hm2 hc2 rfl rfl, ?_⟩
          refine ⟨_, rfl, ?_⟩
          refine ⟨_, op_ldo rfl rfl rfl rfl, ?_⟩
          refine ⟨_, rfl, ?_⟩
          rintro (_|_) h10
          · replace h10 : ¬ (x.id ≤ y.id) := of_decide_eq_false h10
            iterate 2 refine ⟨_, rfl, ?_⟩
            refine AW.cutM (gg + 1) st [(1, vL 1 0 (0)), (3, vI (v : Int)), (4, vL 4 0 (gg)), (8, vS s.q s.x.floors.length), (9, vI (s.x.floors.length : Int)), (10, vI (v : Int)), (11, vB true), (40, vB false)] [(1, 0, [vS s.p s.x.items.length, vS s.q s.x.floors.length]), (4, gg, [vI x.id, vI x.inc])] ⟨rfl, rfl, rfl, rfl, rfl, rfl, rfl, rfl, trivial⟩ ⟨rfl, rfl, trivial⟩ rfl fun ρ0 ff => ?_
            refine cx_sound _ _ _ _ _ ?_
            have e41 : IntKind.wrap .i64 ((v : Int) + 1) = ((v + 1 : Nat) : Int) := (wrap_i64 (by omega) (by omega)).trans (by omega)
            refine ⟨_, rfl, ?_⟩
            refine ⟨v + 1, s.x.floors.length - (v + 1), by omega, ⟨rfl, rfl, rfl, congrArg (Value.int .i64) e41, trivial⟩, ⟨rfl, trivial⟩, rfl, h7', fun j u hj hu => ?_, rfl⟩
            rcases Nat.lt_or_ge j v with h | h
            · exact hok2 j u h hu
            · obtain rfl : j = v := by omega
              rw [hx] at hu
              injection hu with hu
              subst hu
              refine ⟨h8, h11, fun z h0 hz => ?_⟩
              rw [hy] at hz
              injection hz with hz
              subst hz
              exact Int.not_le.1 h10
          · replace h10 : x.id ≤ y.id := of_decide_eq_true h10
            iterate 2 refine ⟨_, rfl, ?_⟩
            refine AW.cutM (gg + 1) st [(1, vL 1 0 (0)), (3, vI (v : Int)), (4, vL 4 0 (gg)), (8, vS s.q s.x.floors.length), (9, vI (s.x.floors.length : Int)), (10, vI (v : Int)), (11, vB true), (40, vB true)] [(1, 0, [vS s.p s.x.items.length, vS s.q s.x.floors.length]), (4, gg, [vI x.id, vI x.inc])] ⟨rfl, rfl, rfl, rfl, rfl, rfl, rfl, rfl, trivial⟩ ⟨rfl, rfl, trivial⟩ rfl fun ρ0 ff => ?_
            refine cx_sound _ _ _ _ _ ?_
            exact ⟨.inl rfl, _, rfl, false, rfl, ⟨fun h => absurd h Bool.false_ne_true, fun h => absurd ((h.2 v x hx).2.2 y (by omega) hy) (Int.not_lt.2 h10)⟩, rfl⟩
end Go.Proofs.Ytopcpcoklgepnaa.AM
