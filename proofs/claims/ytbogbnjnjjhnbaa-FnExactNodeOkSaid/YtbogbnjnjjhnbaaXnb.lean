/- Part 2 of the texts on which the law's proof rests. -/
import Derived.Test.YtbogbnjnjjhnbaaXna
namespace Go.Proofs.Ytbogbnjnjjhnbaa.AM
open Go Go.Proofs
set_option linter.unusedVariables false
set_option linter.unusedSimpArgs false
set_option maxRecDepth 100000
set_option maxHeartbeats 4000000
def itemOk (s : Sta) (j : Nat) (x : Itm) : Prop := (0 ≤ x.id ∧ x.id ≤ 4) ∧ entOk x.e ∧ floorOf s.floors x.id < x.e.inc ∧ ∀ y, 0 < j → s.items[j - 1]? = some y → y.id < x.id
def stateOk (s : Sta) : Prop := (∀ (j : Nat) x, s.items[j]? = some x → itemOk s j x) ∧ marksOk s.floors
theorem ac_spec_StateOk (s : SV) (st : St) (hR : RdS st s) (hb : bigS s.x) : C 38 [.agg #[vS s.p s.x.items.length, vS s.q s.x.floors.length]] st (fun v s' => ∃ x, v = .bool x ∧ (x = true ↔ stateOk s.x) ∧ s' = st) := by
 have hs1 : s.x.items.length ≤ 1048576 := hb.1
 have hs2 : s.x.floors.length ≤ 1048576 := hb.2.1
 refine AC.enterX (i := ⟨[1, 4, 6], [1, 4, 6, 8, 14, 19, 27, 29, 40, 46, 47, 50, 56, 62, 67, 75, 77, 88], [0, 1, 2, 3, 4, 5, 6, 11, 54, 59, 92]⟩) [(5, [33], [29]), (11, [], [])] Try.func38 rfl rfl (by kernel_rfl) (by kernel_rfl) Try.ntmps38 (Nat.le_of_ble_eq_true rfl) rfl ?_
 refine ⟨_, rfl, ?_⟩
 refine cxs ?_
 refine AW.cutM (1) st [(1, vL 1 0 (0)), (2, vB false), (3, vI (0))] [(1, 0, [vS s.p s.x.items.length, vS s.q s.x.floors.length])] ⟨rfl, rfl, rfl, trivial⟩ ⟨rfl, trivial⟩ rfl fun ρ0 ff => ?_
 refine AW.loopM (fun i : Nat => [(1, vL 1 0 (0)), (3, vI (i : Int))]) (fun i : Nat => [(1, 0, [vS s.p s.x.items.length, vS s.q s.x.floors.length])]) (fun m (i : Nat) st' => m = s.x.items.length - i ∧ i ≤ s.x.items.length ∧ (∀ (j : Nat) x, j < i → s.x.items[j]? = some x → itemOk s.x j x) ∧ st = st') 0 _ ⟨rfl, rfl, trivial⟩ ⟨rfl, trivial⟩ ⟨rfl, Nat.zero_le _, fun j x h => absurd h (Nat.not_lt_zero _), rfl⟩ ?_
 rintro m i ρ0 ff gg st' ⟨rfl, hi, hok, rfl⟩
 refine ⟨_, rfl, ?_⟩
 refine ⟨_, op_ldo rfl rfl rfl rfl, ?_⟩
 iterate 2 refine ⟨_, rfl, ?_⟩
 rintro (_|_) h1
 ·replace h1 : ¬ ((i : Int) < (s.x.items.length : Int)) := of_decide_eq_false h1
  refine AW.cutM (gg) st [(1, vL 1 0 (0)), (3, vI (i : Int)), (11, vB false)] [(1, 0, [vS s.p s.x.items.length, vS s.q s.x.floors.length])] ⟨rfl, rfl, rfl, trivial⟩ ⟨rfl, trivial⟩ rfl fun ρ0 ff => ?_
  refine cxs ?_
  refine AW.cutM (gg) st [(1, vL 1 0 (0)), (5, vI (0))] [(1, 0, [vS s.p s.x.items.length, vS s.q s.x.floors.length])] ⟨rfl, rfl, trivial⟩ ⟨rfl, trivial⟩ rfl fun ρ0 ff => ?_
  refine AW.loopM (fun v : Nat => [(1, vL 1 0 (0)), (5, vI (v : Int))]) (fun v : Nat => [(1, 0, [vS s.p s.x.items.length, vS s.q s.x.floors.length])]) (fun m (v : Nat) st' => m = s.x.floors.length - v ∧ v ≤ s.x.floors.length ∧ (∀ (j : Nat) x, j < v → s.x.floors[j]? = some x → markOk s.x.floors j x) ∧ st = st') 0 _ ⟨rfl, rfl, trivial⟩ ⟨rfl, trivial⟩ ⟨rfl, Nat.zero_le _, fun j x h => absurd h (Nat.not_lt_zero _), rfl⟩ ?_
  rintro m v ρ0 ff gg st' ⟨rfl, hi2, hok2, rfl⟩
  refine ⟨_, rfl, ?_⟩
  refine ⟨_, op_ldo rfl rfl rfl rfl, ?_⟩
  iterate 2 refine ⟨_, rfl, ?_⟩
  rintro (_|_) h7
  ·replace h7 : ¬ ((v : Int) < (s.x.floors.length : Int)) := of_decide_eq_false h7
   refine AW.cutM (gg) st [(1, vL 1 0 (0)), (5, vI (v : Int)), (59, vB false)] [(1, 0, [vS s.p s.x.items.length, vS s.q s.x.floors.length])] ⟨rfl, rfl, rfl, trivial⟩ ⟨rfl, trivial⟩ rfl fun ρ0 ff => ?_
   refine cxs ?_
   refine cxs ?_
   exact ⟨.inl rfl, _, rfl, true, rfl, ⟨fun _ => ⟨fun j x hx => hok j x (by have := (List.getElem?_eq_some_iff.1 hx).1; omega) hx, fun j x hx => hok2 j x (by have := (List.getElem?_eq_some_iff.1 hx).1; omega) hx⟩, fun _ => rfl⟩, rfl⟩
  ·replace h7 : (v : Int) < (s.x.floors.length : Int) := of_decide_eq_true h7
   refine AW.cutM (gg) st [(1, vL 1 0 (0)), (5, vI (v : Int)), (59, vB true)] [(1, 0, [vS s.p s.x.items.length, vS s.q s.x.floors.length])] ⟨rfl, rfl, rfl, trivial⟩ ⟨rfl, trivial⟩ rfl fun ρ0 ff => ?_
   have h7' := Int.ofNat_lt.1 h7
   have ⟨b3, o3, k3, x, hpe, hx, hm1, hc1, hb1⟩ := hR.2.atB h7'
   refine cxs ?_
   refine ⟨_, rfl, ?_⟩
   refine ⟨_, op_ldo rfl rfl rfl rfl, ?_⟩
   refine ⟨_, op_idx (j := (v : Int)) (n := s.x.floors.length) (q := ⟨b3, o3, none⟩) rfl (congrArg (fun u => vS u s.x.floors.length) hpe) rfl rfl rfl (Int.natCast_nonneg _) h7, ?_⟩
   refine ⟨_, op_lda rfl rfl rfl rfl rfl hm1 hc1 rfl, ?_⟩
   refine ⟨_, rfl, ?_⟩
   refine ⟨_, op_sto rfl rfl rfl rfl rfl rfl rfl, ?_⟩
   refine AW.cutM (gg + 1) st [(1, vL 1 0 (0)), (5, vI (v : Int)), (6, vL 6 0 (gg)), (59, vB true)] [(1, 0, [vS s.p s.x.items.length, vS s.q s.x.floors.length]), (6, gg, [vI x.id, vI x.inc])] ⟨rfl, rfl, rfl, rfl, trivial⟩ ⟨rfl, rfl, trivial⟩ rfl fun ρ0 ff => ?_
   refine ⟨_, rfl, ?_⟩
   refine ⟨_, op_ldo rfl rfl rfl rfl, ?_⟩
   refine ⟨_, rfl, (ac_spec_l3Node x.id st).mono ?_⟩
   rintro _ st ⟨c, rfl, h8, rfl⟩
   rcases c with _|_
   ·replace h8 := of_decide_eq_false h8.symm
    iterate 3 refine ⟨_, rfl, ?_⟩
    refine AW.cutM (gg + 1) st [(1, vL 1 0 (0)), (5, vI (v : Int)), (6, vL 6 0 (gg)), (59, vB true), (92, vB true)] [(1, 0, [vS s.p s.x.items.length, vS s.q s.x.floors.length]), (6, gg, [vI x.id, vI x.inc])] ⟨rfl, rfl, rfl, rfl, rfl, trivial⟩ ⟨rfl, rfl, trivial⟩ rfl fun ρ0 ff => ?_
    refine cxs ?_
    exact ⟨.inl rfl, _, rfl, false, rfl, ⟨fun h => absurd h Bool.false_ne_true, fun h => absurd (h.2 v x hx).1 h8⟩, rfl⟩
   ·replace h8 := of_decide_eq_true h8.symm
    iterate 2 refine ⟨_, rfl, ?_⟩
    rintro (_|_) h9
    ·replace h9 : ¬ (0 < (v : Int)) := of_decide_eq_false h9
     iterate 3 refine ⟨_, rfl, ?_⟩
     refine ⟨_, op_ldo rfl rfl rfl rfl, ?_⟩
     refine ⟨_, rfl, (ac_spec_l1In x.inc 1 1000 st).mono ?_⟩
     rintro _ st ⟨d, rfl, h11, rfl⟩
     rcases d with _|_
     ·replace h11 := of_decide_eq_false h11.symm
      iterate 2 refine ⟨_, rfl, ?_⟩
      refine AW.cutM (gg + 1) st [(1, vL 1 0 (0)), (5, vI (v : Int)), (6, vL 6 0 (gg)), (59, vB true), (92, vB true)] [(1, 0, [vS s.p s.x.items.length, vS s.q s.x.floors.length]), (6, gg, [vI x.id, vI x.inc])] ⟨rfl, rfl, rfl, rfl, rfl, trivial⟩ ⟨rfl, rfl, trivial⟩ rfl fun ρ0 ff => ?_
      refine cxs ?_
      exact ⟨.inl rfl, _, rfl, false, rfl, ⟨fun h => absurd h Bool.false_ne_true, fun h => absurd (h.2 v x hx).2.1 h11⟩, rfl⟩
     ·replace h11 := of_decide_eq_true h11.symm
      iterate 2 refine ⟨_, rfl, ?_⟩
      refine AW.cutM (gg + 1) st [(1, vL 1 0 (0)), (5, vI (v : Int)), (6, vL 6 0 (gg)), (59, vB true), (92, vB false)] [(1, 0, [vS s.p s.x.items.length, vS s.q s.x.floors.length]), (6, gg, [vI x.id, vI x.inc])] ⟨rfl, rfl, rfl, rfl, rfl, trivial⟩ ⟨rfl, rfl, trivial⟩ rfl fun ρ0 ff => ?_
      refine cxs ?_
      have e61 : IntKind.wrap .i64 ((v : Int) + 1) = ((v + 1 : Nat) : Int) := (wrap_i64 (by omega) (by omega)).trans (by omega)
      refine ⟨_, rfl, ?_⟩
      refine ⟨v + 1, s.x.floors.length - (v + 1), by omega, ⟨rfl, congrArg (Value.int .i64) e61, trivial⟩, ⟨rfl, trivial⟩, rfl, h7', fun j u hj hu => ?_, rfl⟩
      rcases Nat.lt_or_ge j v with h | h
      ·exact hok2 j u h hu
      ·obtain rfl : j = v := by omega
       rw [hx] at hu
       injection hu with hu
       subst hu
       exact ⟨h8, h11, fun y h0 hy => absurd h0 (by omega)⟩
    ·replace h9 : 0 < (v : Int) := of_decide_eq_true h9
     refine ⟨_, rfl, ?_⟩
     refine ⟨_, op_ldo rfl rfl rfl rfl, ?_⟩
     refine ⟨_, rfl, ?_⟩
     refine ⟨_, op_ldo rfl rfl rfl rfl, ?_⟩
     have ⟨b2, o2, k2, y, hqe, hy, hm2, hc2, hb2⟩ := hR.2.atB (j := v - 1) (by omega)
     have e80 : IntKind.wrap .i64 ((v : Int) - 1) = ((v - 1 : Nat) : Int) := (wrap_i64 (by omega) (by omega)).trans (by omega)
     refine ⟨_, rfl, ?_⟩
     refine ⟨_, op_idx (j := ((v - 1 : Nat) : Int)) (n := s.x.floors.length) (q := ⟨b2, o2, none⟩) rfl (congrArg (fun u => vS u s.x.floors.length) hqe) (congrArg (Value.int .i64) e80) rfl rfl (Int.natCast_nonneg _) (by omega), ?_⟩
     refine ⟨_, rfl, ?_⟩
     refine ⟨_, op_ldc (i := 0) rfl rfl rfl rfl hm2 hc2 rfl rfl, ?_⟩
     refine ⟨_, rfl, ?_⟩
     rintro (_|_) h10
     ·replace h10 : ¬ (x.id ≤ y.id) := of_decide_eq_false h10
      iterate 3 refine ⟨_, rfl, ?_⟩
      refine ⟨_, op_ldo rfl rfl rfl rfl, ?_⟩
      refine ⟨_, rfl, (ac_spec_l1In x.inc 1 1000 st).mono ?_⟩
      rintro _ st ⟨d, rfl, h11, rfl⟩
      rcases d with _|_
      ·replace h11 := of_decide_eq_false h11.symm
       iterate 2 refine ⟨_, rfl, ?_⟩
       refine AW.cutM (gg + 1) st [(1, vL 1 0 (0)), (5, vI (v : Int)), (6, vL 6 0 (gg)), (59, vB true), (92, vB true)] [(1, 0, [vS s.p s.x.items.length, vS s.q s.x.floors.length]), (6, gg, [vI x.id, vI x.inc])] ⟨rfl, rfl, rfl, rfl, rfl, trivial⟩ ⟨rfl, rfl, trivial⟩ rfl fun ρ0 ff => ?_
       refine cxs ?_
       exact ⟨.inl rfl, _, rfl, false, rfl, ⟨fun h => absurd h Bool.false_ne_true, fun h => absurd (h.2 v x hx).2.1 h11⟩, rfl⟩
      ·replace h11 := of_decide_eq_true h11.symm
       iterate 2 refine ⟨_, rfl, ?_⟩
       refine AW.cutM (gg + 1) st [(1, vL 1 0 (0)), (5, vI (v : Int)), (6, vL 6 0 (gg)), (59, vB true), (92, vB false)] [(1, 0, [vS s.p s.x.items.length, vS s.q s.x.floors.length]), (6, gg, [vI x.id, vI x.inc])] ⟨rfl, rfl, rfl, rfl, rfl, trivial⟩ ⟨rfl, rfl, trivial⟩ rfl fun ρ0 ff => ?_
       refine cxs ?_
       have e61 : IntKind.wrap .i64 ((v : Int) + 1) = ((v + 1 : Nat) : Int) := (wrap_i64 (by omega) (by omega)).trans (by omega)
       refine ⟨_, rfl, ?_⟩
       refine ⟨v + 1, s.x.floors.length - (v + 1), by omega, ⟨rfl, congrArg (Value.int .i64) e61, trivial⟩, ⟨rfl, trivial⟩, rfl, h7', fun j u hj hu => ?_, rfl⟩
       rcases Nat.lt_or_ge j v with h | h
       ·exact hok2 j u h hu
       ·obtain rfl : j = v := by omega
        rw [hx] at hu
        injection hu with hu
        subst hu
        refine ⟨h8, h11, fun z h0 hz => ?_⟩
        rw [hy] at hz
        injection hz with hz
        subst hz
        exact Int.not_le.1 h10
     ·replace h10 : x.id ≤ y.id := of_decide_eq_true h10
      iterate 3 refine ⟨_, rfl, ?_⟩
      refine AW.cutM (gg + 1) st [(1, vL 1 0 (0)), (5, vI (v : Int)), (6, vL 6 0 (gg)), (59, vB true), (92, vB true)] [(1, 0, [vS s.p s.x.items.length, vS s.q s.x.floors.length]), (6, gg, [vI x.id, vI x.inc])] ⟨rfl, rfl, rfl, rfl, rfl, trivial⟩ ⟨rfl, rfl, trivial⟩ rfl fun ρ0 ff => ?_
      refine cxs ?_
      exact ⟨.inl rfl, _, rfl, false, rfl, ⟨fun h => absurd h Bool.false_ne_true, fun h => absurd ((h.2 v x hx).2.2 y (by omega) hy) (Int.not_lt.2 h10)⟩, rfl⟩
 ·replace h1 : (i : Int) < (s.x.items.length : Int) := of_decide_eq_true h1
  refine AW.cutM (gg) st [(1, vL 1 0 (0)), (3, vI (i : Int)), (11, vB true)] [(1, 0, [vS s.p s.x.items.length, vS s.q s.x.floors.length])] ⟨rfl, rfl, rfl, trivial⟩ ⟨rfl, trivial⟩ rfl fun ρ0 ff => ?_
  have h1' := Int.ofNat_lt.1 h1
  have ⟨b1, o1, k1, x, hpe, hx, hm1, hc1, hb1⟩ := hR.1.atB h1'
  refine cxs ?_
  refine ⟨_, rfl, ?_⟩
  refine ⟨_, op_ldo rfl rfl rfl rfl, ?_⟩
  refine ⟨_, op_idx (j := (i : Int)) (n := s.x.items.length) (q := ⟨b1, o1, none⟩) rfl (congrArg (fun u => vS u s.x.items.length) hpe) rfl rfl rfl (Int.natCast_nonneg _) h1, ?_⟩
  refine ⟨_, op_lda rfl rfl rfl rfl rfl hm1 hc1 rfl, ?_⟩
  refine ⟨_, rfl, ?_⟩
  refine ⟨_, op_sto rfl rfl rfl rfl rfl rfl rfl, ?_⟩
  refine AW.cutM (gg + 1) st [(1, vL 1 0 (0)), (3, vI (i : Int)), (4, vL 4 0 (gg)), (11, vB true)] [(1, 0, [vS s.p s.x.items.length, vS s.q s.x.floors.length]), (4, gg, [vI x.id, vI x.e.inc, vI x.e.rank, vI x.e.beat, vI x.e.ver, .string x.e.data])] ⟨rfl, rfl, rfl, rfl, trivial⟩ ⟨rfl, rfl, trivial⟩ rfl fun ρ0 ff => ?_
  refine ⟨_, rfl, ?_⟩
  refine ⟨_, op_ldo rfl rfl rfl rfl, ?_⟩
  refine ⟨_, rfl, (ac_spec_l3Node x.id st).mono ?_⟩
  rintro _ st ⟨c, rfl, h2, rfl⟩
  rcases c with _|_
  ·replace h2 := of_decide_eq_false h2.symm
   iterate 4 refine ⟨_, rfl, ?_⟩
   refine AW.cutM (gg + 1) st [(1, vL 1 0 (0)), (3, vI (i : Int)), (4, vL 4 0 (gg)), (11, vB true), (54, vB true)] [(1, 0, [vS s.p s.x.items.length, vS s.q s.x.floors.length]), (4, gg, [vI x.id, vI x.e.inc, vI x.e.rank, vI x.e.beat, vI x.e.ver, .string x.e.data])] ⟨rfl, rfl, rfl, rfl, rfl, trivial⟩ ⟨rfl, rfl, trivial⟩ rfl fun ρ0 ff => ?_
   refine cxs ?_
   exact ⟨.inl rfl, _, rfl, false, rfl, ⟨fun h => absurd h Bool.false_ne_true, fun h => absurd (h.1 i x hx).1 h2⟩, rfl⟩
  ·replace h2 := of_decide_eq_true h2.symm
   iterate 2 refine ⟨_, rfl, ?_⟩
   rintro (_|_) h3
   ·replace h3 : ¬ (0 < (i : Int)) := of_decide_eq_false h3
    iterate 3 refine ⟨_, rfl, ?_⟩
    refine ⟨_, op_ldo rfl rfl rfl rfl, ?_⟩
    refine ⟨_, rfl, (ac_spec_EntryOk x.e st).mono ?_⟩
    rintro _ st ⟨d, rfl, h5, rfl⟩
    rcases d with _|_
    ·replace h5 := fun k => Bool.false_ne_true (h5.2 k)
     iterate 3 refine ⟨_, rfl, ?_⟩
     refine AW.cutM (gg + 1) st [(1, vL 1 0 (0)), (3, vI (i : Int)), (4, vL 4 0 (gg)), (11, vB true), (54, vB true)] [(1, 0, [vS s.p s.x.items.length, vS s.q s.x.floors.length]), (4, gg, [vI x.id, vI x.e.inc, vI x.e.rank, vI x.e.beat, vI x.e.ver, .string x.e.data])] ⟨rfl, rfl, rfl, rfl, rfl, trivial⟩ ⟨rfl, rfl, trivial⟩ rfl fun ρ0 ff => ?_
     refine cxs ?_
     exact ⟨.inl rfl, _, rfl, false, rfl, ⟨fun h => absurd h Bool.false_ne_true, fun h => absurd (h.1 i x hx).2.1 h5⟩, rfl⟩
    ·replace h5 := h5.1 rfl
     iterate 4 refine ⟨_, rfl, ?_⟩
     refine ⟨_, op_ldo rfl rfl rfl rfl, ?_⟩
     refine ⟨ld_own rfl rfl rfl, ?_⟩
     refine ⟨_, op_ldo rfl rfl rfl rfl, ?_⟩
     refine ⟨_, rfl, ?_⟩
     refine ⟨_, op_ldo rfl rfl rfl rfl, ?_⟩
     refine ⟨_, rfl, (ac_spec_FloorOf s x.id st hR hb).mono ?_⟩
     rintro _ st ⟨rfl, rfl⟩
     refine ⟨fun _ _ => rfl, ?_⟩
     refine ⟨_, rfl, ?_⟩
     rintro (_|_) h6
     ·replace h6 : ¬ (x.e.inc ≤ floorOf s.x.floors x.id) := of_decide_eq_false h6
      refine ⟨_, rfl, ?_⟩
      refine AW.cutM (gg + 1) st [(1, vL 1 0 (0)), (3, vI (i : Int)), (4, vL 4 0 (gg)), (11, vB true), (54, vB false)] [(1, 0, [vS s.p s.x.items.length, vS s.q s.x.floors.length]), (4, gg, [vI x.id, vI x.e.inc, vI x.e.rank, vI x.e.beat, vI x.e.ver, .string x.e.data])] ⟨rfl, rfl, rfl, rfl, rfl, trivial⟩ ⟨rfl, rfl, trivial⟩ rfl fun ρ0 ff => ?_
      refine cxs ?_
      have e13 : IntKind.wrap .i64 ((i : Int) + 1) = ((i + 1 : Nat) : Int) := (wrap_i64 (by omega) (by omega)).trans (by omega)
      refine ⟨_, rfl, ?_⟩
      refine ⟨i + 1, s.x.items.length - (i + 1), by omega, ⟨rfl, congrArg (Value.int .i64) e13, trivial⟩, ⟨rfl, trivial⟩, rfl, h1', fun j u hj hu => ?_, rfl⟩
      rcases Nat.lt_or_ge j i with h | h
      ·exact hok j u h hu
      ·obtain rfl : j = i := by omega
       rw [hx] at hu
       injection hu with hu
       subst hu
       exact ⟨h2, h5, Int.not_le.1 h6, fun y h0 hy => absurd h0 (by omega)⟩
     ·replace h6 : x.e.inc ≤ floorOf s.x.floors x.id := of_decide_eq_true h6
      refine ⟨_, rfl, ?_⟩
      refine AW.cutM (gg + 1) st [(1, vL 1 0 (0)), (3, vI (i : Int)), (4, vL 4 0 (gg)), (11, vB true), (54, vB true)] [(1, 0, [vS s.p s.x.items.length, vS s.q s.x.floors.length]), (4, gg, [vI x.id, vI x.e.inc, vI x.e.rank, vI x.e.beat, vI x.e.ver, .string x.e.data])] ⟨rfl, rfl, rfl, rfl, rfl, trivial⟩ ⟨rfl, rfl, trivial⟩ rfl fun ρ0 ff => ?_
      refine cxs ?_
      exact ⟨.inl rfl, _, rfl, false, rfl, ⟨fun h => absurd h Bool.false_ne_true, fun h => absurd (h.1 i x hx).2.2.1 (Int.not_lt.2 h6)⟩, rfl⟩
   ·replace h3 : 0 < (i : Int) := of_decide_eq_true h3
    refine ⟨_, rfl, ?_⟩
    refine ⟨_, op_ldo rfl rfl rfl rfl, ?_⟩
    refine ⟨_, rfl, ?_⟩
    refine ⟨_, op_ldo rfl rfl rfl rfl, ?_⟩
    have ⟨b2, o2, k2, y, hqe, hy, hm2, hc2, hb2⟩ := hR.1.atB (j := i - 1) (by omega)
    have e32 : IntKind.wrap .i64 ((i : Int) - 1) = ((i - 1 : Nat) : Int) := (wrap_i64 (by omega) (by omega)).trans (by omega)
    refine ⟨_, rfl, ?_⟩
    refine ⟨_, op_idx (j := ((i - 1 : Nat) : Int)) (n := s.x.items.length) (q := ⟨b2, o2, none⟩) rfl (congrArg (fun u => vS u s.x.items.length) hqe) (congrArg (Value.int .i64) e32) rfl rfl (Int.natCast_nonneg _) (by omega), ?_⟩
    refine ⟨_, rfl, ?_⟩
    refine ⟨_, op_ldc (i := 0) rfl rfl rfl rfl hm2 hc2 rfl rfl, ?_⟩
    refine ⟨_, rfl, ?_⟩
    rintro (_|_) h4
    ·replace h4 : ¬ (x.id ≤ y.id) := of_decide_eq_false h4
     iterate 3 refine ⟨_, rfl, ?_⟩
     refine ⟨_, op_ldo rfl rfl rfl rfl, ?_⟩
     refine ⟨_, rfl, (ac_spec_EntryOk x.e st).mono ?_⟩
     rintro _ st ⟨d, rfl, h5, rfl⟩
     rcases d with _|_
     ·replace h5 := fun k => Bool.false_ne_true (h5.2 k)
      iterate 3 refine ⟨_, rfl, ?_⟩
      refine AW.cutM (gg + 1) st [(1, vL 1 0 (0)), (3, vI (i : Int)), (4, vL 4 0 (gg)), (11, vB true), (54, vB true)] [(1, 0, [vS s.p s.x.items.length, vS s.q s.x.floors.length]), (4, gg, [vI x.id, vI x.e.inc, vI x.e.rank, vI x.e.beat, vI x.e.ver, .string x.e.data])] ⟨rfl, rfl, rfl, rfl, rfl, trivial⟩ ⟨rfl, rfl, trivial⟩ rfl fun ρ0 ff => ?_
      refine cxs ?_
      exact ⟨.inl rfl, _, rfl, false, rfl, ⟨fun h => absurd h Bool.false_ne_true, fun h => absurd (h.1 i x hx).2.1 h5⟩, rfl⟩
     ·replace h5 := h5.1 rfl
      iterate 4 refine ⟨_, rfl, ?_⟩
      refine ⟨_, op_ldo rfl rfl rfl rfl, ?_⟩
      refine ⟨ld_own rfl rfl rfl, ?_⟩
      refine ⟨_, op_ldo rfl rfl rfl rfl, ?_⟩
      refine ⟨_, rfl, ?_⟩
      refine ⟨_, op_ldo rfl rfl rfl rfl, ?_⟩
      refine ⟨_, rfl, (ac_spec_FloorOf s x.id st hR hb).mono ?_⟩
      rintro _ st ⟨rfl, rfl⟩
      refine ⟨fun _ _ => rfl, ?_⟩
      refine ⟨_, rfl, ?_⟩
      rintro (_|_) h6
      ·replace h6 : ¬ (x.e.inc ≤ floorOf s.x.floors x.id) := of_decide_eq_false h6
       refine ⟨_, rfl, ?_⟩
       refine AW.cutM (gg + 1) st [(1, vL 1 0 (0)), (3, vI (i : Int)), (4, vL 4 0 (gg)), (11, vB true), (54, vB false)] [(1, 0, [vS s.p s.x.items.length, vS s.q s.x.floors.length]), (4, gg, [vI x.id, vI x.e.inc, vI x.e.rank, vI x.e.beat, vI x.e.ver, .string x.e.data])] ⟨rfl, rfl, rfl, rfl, rfl, trivial⟩ ⟨rfl, rfl, trivial⟩ rfl fun ρ0 ff => ?_
       refine cxs ?_
       have e13 : IntKind.wrap .i64 ((i : Int) + 1) = ((i + 1 : Nat) : Int) := (wrap_i64 (by omega) (by omega)).trans (by omega)
       refine ⟨_, rfl, ?_⟩
       refine ⟨i + 1, s.x.items.length - (i + 1), by omega, ⟨rfl, congrArg (Value.int .i64) e13, trivial⟩, ⟨rfl, trivial⟩, rfl, h1', fun j u hj hu => ?_, rfl⟩
       rcases Nat.lt_or_ge j i with h | h
       ·exact hok j u h hu
       ·obtain rfl : j = i := by omega
        rw [hx] at hu
        injection hu with hu
        subst hu
        refine ⟨h2, h5, Int.not_le.1 h6, fun z h0 hz => ?_⟩
        rw [hy] at hz
        injection hz with hz
        subst hz
        exact Int.not_le.1 h4
      ·replace h6 : x.e.inc ≤ floorOf s.x.floors x.id := of_decide_eq_true h6
       refine ⟨_, rfl, ?_⟩
       refine AW.cutM (gg + 1) st [(1, vL 1 0 (0)), (3, vI (i : Int)), (4, vL 4 0 (gg)), (11, vB true), (54, vB true)] [(1, 0, [vS s.p s.x.items.length, vS s.q s.x.floors.length]), (4, gg, [vI x.id, vI x.e.inc, vI x.e.rank, vI x.e.beat, vI x.e.ver, .string x.e.data])] ⟨rfl, rfl, rfl, rfl, rfl, trivial⟩ ⟨rfl, rfl, trivial⟩ rfl fun ρ0 ff => ?_
       refine cxs ?_
       exact ⟨.inl rfl, _, rfl, false, rfl, ⟨fun h => absurd h Bool.false_ne_true, fun h => absurd (h.1 i x hx).2.2.1 (Int.not_lt.2 h6)⟩, rfl⟩
    ·replace h4 : x.id ≤ y.id := of_decide_eq_true h4
     iterate 4 refine ⟨_, rfl, ?_⟩
     refine AW.cutM (gg + 1) st [(1, vL 1 0 (0)), (3, vI (i : Int)), (4, vL 4 0 (gg)), (11, vB true), (54, vB true)] [(1, 0, [vS s.p s.x.items.length, vS s.q s.x.floors.length]), (4, gg, [vI x.id, vI x.e.inc, vI x.e.rank, vI x.e.beat, vI x.e.ver, .string x.e.data])] ⟨rfl, rfl, rfl, rfl, rfl, trivial⟩ ⟨rfl, rfl, trivial⟩ rfl fun ρ0 ff => ?_
     refine cxs ?_
     exact ⟨.inl rfl, _, rfl, false, rfl, ⟨fun h => absurd h Bool.false_ne_true, fun h => absurd ((h.1 i x hx).2.2.2 y (by omega) hy) (Int.not_lt.2 h4)⟩, rfl⟩
theorem ac_impl_StateOk (s : SV) (st : St) (hR : RdS st s) (hb : bigS s.x) : C 43 [.agg #[vS s.p s.x.items.length, vS s.q s.x.floors.length]] st (fun v s' => ∃ x, v = .bool x ∧ (x = true ↔ stateOk s.x) ∧ s' = st) := by
 have hs1 : s.x.items.length ≤ 1048576 := hb.1
 have hs2 : s.x.floors.length ≤ 1048576 := hb.2.1
 refine AC.enterX (i := ⟨[1, 4, 6], [1, 4, 6, 7, 15, 20, 29, 36, 42, 50, 55, 61, 62, 65, 74, 81], [0, 1, 2, 3, 4, 5, 6, 8, 9, 10, 11, 40, 43, 44, 45, 46, 85]⟩) [(4, [], []), (10, [17], [13])] Try.func43 rfl rfl (by kernel_rfl) (by kernel_rfl) Try.ntmps43 (Nat.le_of_ble_eq_true rfl) rfl ?_
 refine ⟨_, rfl, ?_⟩
 refine AW.cutM (1) st [(1, vL 1 0 (0)), (2, vB false)] [(1, 0, [vS s.p s.x.items.length, vS s.q s.x.floors.length])] ⟨rfl, rfl, trivial⟩ ⟨rfl, trivial⟩ rfl fun ρ0 ff => ?_
 iterate 3 refine ⟨_, rfl, ?_⟩
 refine AW.cutM (1) st [(1, vL 1 0 (0)), (2, vB false), (8, vS s.q s.x.floors.length), (9, vI (s.x.floors.length)), (10, vI (0))] [(1, 0, [vS s.p s.x.items.length, vS s.q s.x.floors.length])] ⟨rfl, rfl, rfl, rfl, rfl, trivial⟩ ⟨rfl, trivial⟩ rfl fun ρ0 ff => ?_
 refine AW.loopM (fun v : Nat => [(1, vL 1 0 (0)), (8, vS s.q s.x.floors.length), (9, vI (s.x.floors.length : Int)), (10, vI (v : Int))]) (fun v : Nat => [(1, 0, [vS s.p s.x.items.length, vS s.q s.x.floors.length])]) (fun m (v : Nat) st' => m = s.x.floors.length - v ∧ v ≤ s.x.floors.length ∧ (∀ (j : Nat) x, j < v → s.x.floors[j]? = some x → markOk s.x.floors j x) ∧ st = st') 0 _ ⟨rfl, rfl, rfl, rfl, trivial⟩ ⟨rfl, trivial⟩ ⟨rfl, Nat.zero_le _, fun j x h => absurd h (Nat.not_lt_zero _), rfl⟩ ?_
 rintro m v ρ0 ff gg st' ⟨rfl, hi2, hok2, rfl⟩
 refine ⟨_, rfl, ?_⟩
 rintro (_|_) h7
 ·replace h7 : ¬ ((v : Int) < (s.x.floors.length : Int)) := of_decide_eq_false h7
  refine AW.cutM (gg) st [(1, vL 1 0 (0)), (8, vS s.q s.x.floors.length), (9, vI (s.x.floors.length : Int)), (10, vI (v : Int)), (11, vB false)] [(1, 0, [vS s.p s.x.items.length, vS s.q s.x.floors.length])] ⟨rfl, rfl, rfl, rfl, rfl, trivial⟩ ⟨rfl, trivial⟩ rfl fun ρ0 ff => ?_
  refine cxs ?_
  refine ⟨_, rfl, ?_⟩
  refine ⟨_, op_ldo rfl rfl rfl rfl, ?_⟩
  refine ⟨_, rfl, ?_⟩
  refine AW.cutM (gg) st [(1, vL 1 0 (0)), (43, vS s.p s.x.items.length), (44, vI (s.x.items.length)), (45, vI (0))] [(1, 0, [vS s.p s.x.items.length, vS s.q s.x.floors.length])] ⟨rfl, rfl, rfl, rfl, trivial⟩ ⟨rfl, trivial⟩ rfl fun ρ0 ff => ?_
  refine AW.loopM (fun i : Nat => [(1, vL 1 0 (0)), (43, vS s.p s.x.items.length), (44, vI (s.x.items.length : Int)), (45, vI (i : Int))]) (fun i : Nat => [(1, 0, [vS s.p s.x.items.length, vS s.q s.x.floors.length])]) (fun m (i : Nat) st' => m = s.x.items.length - i ∧ i ≤ s.x.items.length ∧ (∀ (j : Nat) x, j < i → s.x.items[j]? = some x → itemOk s.x j x) ∧ st = st') 0 _ ⟨rfl, rfl, rfl, rfl, trivial⟩ ⟨rfl, trivial⟩ ⟨rfl, Nat.zero_le _, fun j x h => absurd h (Nat.not_lt_zero _), rfl⟩ ?_
  rintro m i ρ0 ff gg st' ⟨rfl, hi, hok, rfl⟩
  refine ⟨_, rfl, ?_⟩
  rintro (_|_) h1
  ·replace h1 : ¬ ((i : Int) < (s.x.items.length : Int)) := of_decide_eq_false h1
   refine AW.cutM (gg) st [(1, vL 1 0 (0)), (43, vS s.p s.x.items.length), (44, vI (s.x.items.length : Int)), (45, vI (i : Int)), (46, vB false)] [(1, 0, [vS s.p s.x.items.length, vS s.q s.x.floors.length])] ⟨rfl, rfl, rfl, rfl, rfl, trivial⟩ ⟨rfl, trivial⟩ rfl fun ρ0 ff => ?_
   refine cxs ?_
   refine cxs ?_
   exact ⟨.inl rfl, _, rfl, true, rfl, ⟨fun _ => ⟨fun j x hx => hok j x (by have := (List.getElem?_eq_some_iff.1 hx).1; omega) hx, fun j x hx => hok2 j x (by have := (List.getElem?_eq_some_iff.1 hx).1; omega) hx⟩, fun _ => rfl⟩, rfl⟩
  ·replace h1 : (i : Int) < (s.x.items.length : Int) := of_decide_eq_true h1
   refine AW.cutM (gg) st [(1, vL 1 0 (0)), (43, vS s.p s.x.items.length), (44, vI (s.x.items.length : Int)), (45, vI (i : Int)), (46, vB true)] [(1, 0, [vS s.p s.x.items.length, vS s.q s.x.floors.length])] ⟨rfl, rfl, rfl, rfl, rfl, trivial⟩ ⟨rfl, trivial⟩ rfl fun ρ0 ff => ?_
   have h1' := Int.ofNat_lt.1 h1
   have ⟨b1, o1, k1, x, hpe, hx, hm1, hc1, hb1⟩ := hR.1.atB h1'
   refine cxs ?_
   refine ⟨_, op_idx (j := (i : Int)) (n := s.x.items.length) (q := ⟨b1, o1, none⟩) rfl (congrArg (fun u => vS u s.x.items.length) hpe) rfl rfl rfl (Int.natCast_nonneg _) h1, ?_⟩
   refine ⟨_, op_lda rfl rfl rfl rfl rfl hm1 hc1 rfl, ?_⟩
   refine ⟨_, rfl, ?_⟩
   refine ⟨_, op_sto rfl rfl rfl rfl rfl rfl rfl, ?_⟩
   refine AW.cutM (gg + 1) st [(1, vL 1 0 (0)), (5, vI (i : Int)), (6, vL 6 0 (gg)), (43, vS s.p s.x.items.length), (44, vI (s.x.items.length : Int)), (45, vI (i : Int)), (46, vB true)] [(1, 0, [vS s.p s.x.items.length, vS s.q s.x.floors.length]), (6, gg, [vI x.id, vI x.e.inc, vI x.e.rank, vI x.e.beat, vI x.e.ver, .string x.e.data])] ⟨rfl, rfl, rfl, rfl, rfl, rfl, rfl, trivial⟩ ⟨rfl, rfl, trivial⟩ rfl fun ρ0 ff => ?_
   refine ⟨_, rfl, ?_⟩
   refine ⟨_, op_ldo rfl rfl rfl rfl, ?_⟩
   refine ⟨_, rfl, (ac_impl_isNode x.id st).mono ?_⟩
   rintro _ st ⟨c, rfl, h2, rfl⟩
   rcases c with _|_
   ·replace h2 := of_decide_eq_false h2.symm
    iterate 4 refine ⟨_, rfl, ?_⟩
    refine AW.cutM (gg + 1) st [(1, vL 1 0 (0)), (5, vI (i : Int)), (6, vL 6 0 (gg)), (43, vS s.p s.x.items.length), (44, vI (s.x.items.length : Int)), (45, vI (i : Int)), (46, vB true), (85, vB true)] [(1, 0, [vS s.p s.x.items.length, vS s.q s.x.floors.length]), (6, gg, [vI x.id, vI x.e.inc, vI x.e.rank, vI x.e.beat, vI x.e.ver, .string x.e.data])] ⟨rfl, rfl, rfl, rfl, rfl, rfl, rfl, rfl, trivial⟩ ⟨rfl, rfl, trivial⟩ rfl fun ρ0 ff => ?_
    refine cxs ?_
    exact ⟨.inl rfl, _, rfl, false, rfl, ⟨fun h => absurd h Bool.false_ne_true, fun h => absurd (h.1 i x hx).1 h2⟩, rfl⟩
   ·replace h2 := of_decide_eq_true h2.symm
    iterate 2 refine ⟨_, rfl, ?_⟩
    refine ⟨_, op_ldo rfl rfl rfl rfl, ?_⟩
    refine ⟨_, rfl, (ac_impl_EntryOk x.e st).mono ?_⟩
    rintro _ st ⟨d, rfl, h5, rfl⟩
    rcases d with _|_
    ·replace h5 := fun k => Bool.false_ne_true (h5.2 k)
     iterate 4 refine ⟨_, rfl, ?_⟩
     refine AW.cutM (gg + 1) st [(1, vL 1 0 (0)), (5, vI (i : Int)), (6, vL 6 0 (gg)), (43, vS s.p s.x.items.length), (44, vI (s.x.items.length : Int)), (45, vI (i : Int)), (46, vB true), (85, vB true)] [(1, 0, [vS s.p s.x.items.length, vS s.q s.x.floors.length]), (6, gg, [vI x.id, vI x.e.inc, vI x.e.rank, vI x.e.beat, vI x.e.ver, .string x.e.data])] ⟨rfl, rfl, rfl, rfl, rfl, rfl, rfl, rfl, trivial⟩ ⟨rfl, rfl, trivial⟩ rfl fun ρ0 ff => ?_
     refine cxs ?_
     exact ⟨.inl rfl, _, rfl, false, rfl, ⟨fun h => absurd h Bool.false_ne_true, fun h => absurd (h.1 i x hx).2.1 h5⟩, rfl⟩
    ·replace h5 := h5.1 rfl
     iterate 4 refine ⟨_, rfl, ?_⟩
     refine ⟨_, op_ldo rfl rfl rfl rfl, ?_⟩
     refine ⟨ld_own rfl rfl rfl, ?_⟩
     refine ⟨_, op_ldo rfl rfl rfl rfl, ?_⟩
     refine ⟨_, rfl, ?_⟩
     refine ⟨_, op_ldo rfl rfl rfl rfl, ?_⟩
     refine ⟨_, rfl, (ac_impl_FloorOf s x.id st hR hb).mono ?_⟩
     rintro _ st ⟨rfl, rfl⟩
     refine ⟨fun _ _ => rfl, ?_⟩
     refine ⟨_, rfl, ?_⟩
     rintro (_|_) h6
     ·replace h6 : ¬ (x.e.inc ≤ floorOf s.x.floors x.id) := of_decide_eq_false h6
      iterate 2 refine ⟨_, rfl, ?_⟩
      rintro (_|_) h3
      ·replace h3 : ¬ (0 < (i : Int)) := of_decide_eq_false h3
       iterate 2 refine ⟨_, rfl, ?_⟩
       refine AW.cutM (gg + 1) st [(1, vL 1 0 (0)), (5, vI (i : Int)), (6, vL 6 0 (gg)), (43, vS s.p s.x.items.length), (44, vI (s.x.items.length : Int)), (45, vI (i : Int)), (46, vB true), (85, vB false)] [(1, 0, [vS s.p s.x.items.length, vS s.q s.x.floors.length]), (6, gg, [vI x.id, vI x.e.inc, vI x.e.rank, vI x.e.beat, vI x.e.ver, .string x.e.data])] ⟨rfl, rfl, rfl, rfl, rfl, rfl, rfl, rfl, trivial⟩ ⟨rfl, rfl, trivial⟩ rfl fun ρ0 ff => ?_
       refine cxs ?_
       have e86 : IntKind.wrap .i64 ((i : Int) + 1) = ((i + 1 : Nat) : Int) := (wrap_i64 (by omega) (by omega)).trans (by omega)
       refine ⟨_, rfl, ?_⟩
       refine ⟨i + 1, s.x.items.length - (i + 1), by omega, ⟨rfl, rfl, rfl, congrArg (Value.int .i64) e86, trivial⟩, ⟨rfl, trivial⟩, rfl, h1', fun j u hj hu => ?_, rfl⟩
       rcases Nat.lt_or_ge j i with h | h
       ·exact hok j u h hu
       ·obtain rfl : j = i := by omega
        rw [hx] at hu
        injection hu with hu
        subst hu
        exact ⟨h2, h5, Int.not_le.1 h6, fun y h0 hy => absurd h0 (by omega)⟩
      ·replace h3 : 0 < (i : Int) := of_decide_eq_true h3
       refine ⟨_, rfl, ?_⟩
       refine ⟨_, op_ldo rfl rfl rfl rfl, ?_⟩
       have ⟨b2, o2, k2, y, hqe, hy, hm2, hc2, hb2⟩ := hR.1.atB (j := i - 1) (by omega)
       have e77 : IntKind.wrap .i64 ((i : Int) - 1) = ((i - 1 : Nat) : Int) := (wrap_i64 (by omega) (by omega)).trans (by omega)
       refine ⟨_, rfl, ?_⟩
       refine ⟨_, op_idx (j := ((i - 1 : Nat) : Int)) (n := s.x.items.length) (q := ⟨b2, o2, none⟩) rfl (congrArg (fun u => vS u s.x.items.length) hqe) (congrArg (Value.int .i64) e77) rfl rfl (Int.natCast_nonneg _) (by omega), ?_⟩
       refine ⟨_, rfl, ?_⟩
       refine ⟨_, op_ldc (i := 0) rfl rfl rfl rfl hm2 hc2 rfl rfl, ?_⟩
       refine ⟨_, rfl, ?_⟩
       refine ⟨_, op_ldo rfl rfl rfl rfl, ?_⟩
       refine ⟨_, rfl, ?_⟩
       rintro (_|_) h4
       ·replace h4 : ¬ (x.id ≤ y.id) := of_decide_eq_false h4
        iterate 2 refine ⟨_, rfl, ?_⟩
        refine AW.cutM (gg + 1) st [(1, vL 1 0 (0)), (5, vI (i : Int)), (6, vL 6 0 (gg)), (43, vS s.p s.x.items.length), (44, vI (s.x.items.length : Int)), (45, vI (i : Int)), (46, vB true), (85, vB false)] [(1, 0, [vS s.p s.x.items.length, vS s.q s.x.floors.length]), (6, gg, [vI x.id, vI x.e.inc, vI x.e.rank, vI x.e.beat, vI x.e.ver, .string x.e.data])] ⟨rfl, rfl, rfl, rfl, rfl, rfl, rfl, rfl, trivial⟩ ⟨rfl, rfl, trivial⟩ rfl fun ρ0 ff => ?_
        refine cxs ?_
        have e86 : IntKind.wrap .i64 ((i : Int) + 1) = ((i + 1 : Nat) : Int) := (wrap_i64 (by omega) (by omega)).trans (by omega)
        refine ⟨_, rfl, ?_⟩
        refine ⟨i + 1, s.x.items.length - (i + 1), by omega, ⟨rfl, rfl, rfl, congrArg (Value.int .i64) e86, trivial⟩, ⟨rfl, trivial⟩, rfl, h1', fun j u hj hu => ?_, rfl⟩
        rcases Nat.lt_or_ge j i with h | h
        ·exact hok j u h hu
        ·obtain rfl : j = i := by omega
         rw [hx] at hu
         injection hu with hu
         subst hu
         refine ⟨h2, h5, Int.not_le.1 h6, fun z h0 hz => ?_⟩
         rw [hy] at hz
         injection hz with hz
         subst hz
         exact Int.not_le.1 h4
       ·replace h4 : x.id ≤ y.id := of_decide_eq_true h4
        iterate 2 refine ⟨_, rfl, ?_⟩
        refine AW.cutM (gg + 1) st [(1, vL 1 0 (0)), (5, vI (i : Int)), (6, vL 6 0 (gg)), (43, vS s.p s.x.items.length), (44, vI (s.x.items.length : Int)), (45, vI (i : Int)), (46, vB true), (85, vB true)] [(1, 0, [vS s.p s.x.items.length, vS s.q s.x.floors.length]), (6, gg, [vI x.id, vI x.e.inc, vI x.e.rank, vI x.e.beat, vI x.e.ver, .string x.e.data])] ⟨rfl, rfl, rfl, rfl, rfl, rfl, rfl, rfl, trivial⟩ ⟨rfl, rfl, trivial⟩ rfl fun ρ0 ff => ?_
        refine cxs ?_
        exact ⟨.inl rfl, _, rfl, false, rfl, ⟨fun h => absurd h Bool.false_ne_true, fun h => absurd ((h.1 i x hx).2.2.2 y (by omega) hy) (Int.not_lt.2 h4)⟩, rfl⟩
     ·replace h6 : x.e.inc ≤ floorOf s.x.floors x.id := of_decide_eq_true h6
      iterate 2 refine ⟨_, rfl, ?_⟩
      refine AW.cutM (gg + 1) st [(1, vL 1 0 (0)), (5, vI (i : Int)), (6, vL 6 0 (gg)), (43, vS s.p s.x.items.length), (44, vI (s.x.items.length : Int)), (45, vI (i : Int)), (46, vB true), (85, vB true)] [(1, 0, [vS s.p s.x.items.length, vS s.q s.x.floors.length]), (6, gg, [vI x.id, vI x.e.inc, vI x.e.rank, vI x.e.beat, vI x.e.ver, .string x.e.data])] ⟨rfl, rfl, rfl, rfl, rfl, rfl, rfl, rfl, trivial⟩ ⟨rfl, rfl, trivial⟩ rfl fun ρ0 ff => ?_
      refine cxs ?_
      exact ⟨.inl rfl, _, rfl, false, rfl, ⟨fun h => absurd h Bool.false_ne_true, fun h => absurd (h.1 i x hx).2.2.1 (Int.not_lt.2 h6)⟩, rfl⟩
 ·replace h7 : (v : Int) < (s.x.floors.length : Int) := of_decide_eq_true h7
  refine AW.cutM (gg) st [(1, vL 1 0 (0)), (8, vS s.q s.x.floors.length), (9, vI (s.x.floors.length : Int)), (10, vI (v : Int)), (11, vB true)] [(1, 0, [vS s.p s.x.items.length, vS s.q s.x.floors.length])] ⟨rfl, rfl, rfl, rfl, rfl, trivial⟩ ⟨rfl, trivial⟩ rfl fun ρ0 ff => ?_
  have h7' := Int.ofNat_lt.1 h7
  have ⟨b3, o3, k3, x, hpe, hx, hm1, hc1, hb1⟩ := hR.2.atB h7'
  refine cxs ?_
  refine ⟨_, op_idx (j := (v : Int)) (n := s.x.floors.length) (q := ⟨b3, o3, none⟩) rfl (congrArg (fun u => vS u s.x.floors.length) hpe) rfl rfl rfl (Int.natCast_nonneg _) h7, ?_⟩
  refine ⟨_, op_lda rfl rfl rfl rfl rfl hm1 hc1 rfl, ?_⟩
  refine ⟨_, rfl, ?_⟩
  refine ⟨_, op_sto rfl rfl rfl rfl rfl rfl rfl, ?_⟩
  refine AW.cutM (gg + 1) st [(1, vL 1 0 (0)), (3, vI (v : Int)), (4, vL 4 0 (gg)), (8, vS s.q s.x.floors.length), (9, vI (s.x.floors.length : Int)), (10, vI (v : Int)), (11, vB true)] [(1, 0, [vS s.p s.x.items.length, vS s.q s.x.floors.length]), (4, gg, [vI x.id, vI x.inc])] ⟨rfl, rfl, rfl, rfl, rfl, rfl, rfl, trivial⟩ ⟨rfl, rfl, trivial⟩ rfl fun ρ0 ff => ?_
  refine ⟨_, rfl, ?_⟩
  refine ⟨_, op_ldo rfl rfl rfl rfl, ?_⟩
  refine ⟨_, rfl, (ac_impl_isNode x.id st).mono ?_⟩
  rintro _ st ⟨c, rfl, h8, rfl⟩
  rcases c with _|_
  ·replace h8 := of_decide_eq_false h8.symm
   iterate 3 refine ⟨_, rfl, ?_⟩
   refine AW.cutM (gg + 1) st [(1, vL 1 0 (0)), (3, vI (v : Int)), (4, vL 4 0 (gg)), (8, vS s.q s.x.floors.length), (9, vI (s.x.floors.length : Int)), (10, vI (v : Int)), (11, vB true), (40, vB true)] [(1, 0, [vS s.p s.x.items.length, vS s.q s.x.floors.length]), (4, gg, [vI x.id, vI x.inc])] ⟨rfl, rfl, rfl, rfl, rfl, rfl, rfl, rfl, trivial⟩ ⟨rfl, rfl, trivial⟩ rfl fun ρ0 ff => ?_
   refine cxs ?_
   exact ⟨.inl rfl, _, rfl, false, rfl, ⟨fun h => absurd h Bool.false_ne_true, fun h => absurd (h.2 v x hx).1 h8⟩, rfl⟩
  ·replace h8 := of_decide_eq_true h8.symm
   iterate 2 refine ⟨_, rfl, ?_⟩
   refine ⟨_, op_ldo rfl rfl rfl rfl, ?_⟩
   refine ⟨_, rfl, (ac_impl_within x.inc 1 1000 st).mono ?_⟩
   rintro _ st ⟨d, rfl, h11, rfl⟩
   rcases d with _|_
   ·replace h11 := of_decide_eq_false h11.symm
    iterate 3 refine ⟨_, rfl, ?_⟩
    refine AW.cutM (gg + 1) st [(1, vL 1 0 (0)), (3, vI (v : Int)), (4, vL 4 0 (gg)), (8, vS s.q s.x.floors.length), (9, vI (s.x.floors.length : Int)), (10, vI (v : Int)), (11, vB true), (40, vB true)] [(1, 0, [vS s.p s.x.items.length, vS s.q s.x.floors.length]), (4, gg, [vI x.id, vI x.inc])] ⟨rfl, rfl, rfl, rfl, rfl, rfl, rfl, rfl, trivial⟩ ⟨rfl, rfl, trivial⟩ rfl fun ρ0 ff => ?_
    refine cxs ?_
    exact ⟨.inl rfl, _, rfl, false, rfl, ⟨fun h => absurd h Bool.false_ne_true, fun h => absurd (h.2 v x hx).2.1 h11⟩, rfl⟩
   ·replace h11 := of_decide_eq_true h11.symm
    iterate 3 refine ⟨_, rfl, ?_⟩
    rintro (_|_) h9
    ·replace h9 : ¬ (0 < (v : Int)) := of_decide_eq_false h9
     iterate 2 refine ⟨_, rfl, ?_⟩
     refine AW.cutM (gg + 1) st [(1, vL 1 0 (0)), (3, vI (v : Int)), (4, vL 4 0 (gg)), (8, vS s.q s.x.floors.length), (9, vI (s.x.floors.length : Int)), (10, vI (v : Int)), (11, vB true), (40, vB false)] [(1, 0, [vS s.p s.x.items.length, vS s.q s.x.floors.length]), (4, gg, [vI x.id, vI x.inc])] ⟨rfl, rfl, rfl, rfl, rfl, rfl, rfl, rfl, trivial⟩ ⟨rfl, rfl, trivial⟩ rfl fun ρ0 ff => ?_
     refine cxs ?_
     have e41 : IntKind.wrap .i64 ((v : Int) + 1) = ((v + 1 : Nat) : Int) := (wrap_i64 (by omega) (by omega)).trans (by omega)
     refine ⟨_, rfl, ?_⟩
     refine ⟨v + 1, s.x.floors.length - (v + 1), by omega, ⟨rfl, rfl, rfl, congrArg (Value.int .i64) e41, trivial⟩, ⟨rfl, trivial⟩, rfl, h7', fun j u hj hu => ?_, rfl⟩
     rcases Nat.lt_or_ge j v with h | h
     ·exact hok2 j u h hu
     ·obtain rfl : j = v := by omega
      rw [hx] at hu
      injection hu with hu
      subst hu
      exact ⟨h8, h11, fun y h0 hy => absurd h0 (by omega)⟩
    ·replace h9 : 0 < (v : Int) := of_decide_eq_true h9
     refine ⟨_, rfl, ?_⟩
     refine ⟨_, op_ldo rfl rfl rfl rfl, ?_⟩
     have ⟨b2, o2, k2, y, hqe, hy, hm2, hc2, hb2⟩ := hR.2.atB (j := v - 1) (by omega)
     have e32 : IntKind.wrap .i64 ((v : Int) - 1) = ((v - 1 : Nat) : Int) := (wrap_i64 (by omega) (by omega)).trans (by omega)
     refine ⟨_, rfl, ?_⟩
     refine ⟨_, op_idx (j := ((v - 1 : Nat) : Int)) (n := s.x.floors.length) (q := ⟨b2, o2, none⟩) rfl (congrArg (fun u => vS u s.x.floors.length) hqe) (congrArg (Value.int .i64) e32) rfl rfl (Int.natCast_nonneg _) (by omega), ?_⟩
     refine ⟨_, rfl, ?_⟩
     refine ⟨_, op_ldc (i := 0) rfl rfl rfl rfl hm2 hc2 rfl rfl, ?_⟩
     refine ⟨_, rfl, ?_⟩
     refine ⟨_, op_ldo rfl rfl rfl rfl, ?_⟩
     refine ⟨_, rfl, ?_⟩
     rintro (_|_) h10
     ·replace h10 : ¬ (x.id ≤ y.id) := of_decide_eq_false h10
      iterate 2 refine ⟨_, rfl, ?_⟩
      refine AW.cutM (gg + 1) st [(1, vL 1 0 (0)), (3, vI (v : Int)), (4, vL 4 0 (gg)), (8, vS s.q s.x.floors.length), (9, vI (s.x.floors.length : Int)), (10, vI (v : Int)), (11, vB true), (40, vB false)] [(1, 0, [vS s.p s.x.items.length, vS s.q s.x.floors.length]), (4, gg, [vI x.id, vI x.inc])] ⟨rfl, rfl, rfl, rfl, rfl, rfl, rfl, rfl, trivial⟩ ⟨rfl, rfl, trivial⟩ rfl fun ρ0 ff => ?_
      refine cxs ?_
      have e41 : IntKind.wrap .i64 ((v : Int) + 1) = ((v + 1 : Nat) : Int) := (wrap_i64 (by omega) (by omega)).trans (by omega)
      refine ⟨_, rfl, ?_⟩
      refine ⟨v + 1, s.x.floors.length - (v + 1), by omega, ⟨rfl, rfl, rfl, congrArg (Value.int .i64) e41, trivial⟩, ⟨rfl, trivial⟩, rfl, h7', fun j u hj hu => ?_, rfl⟩
      rcases Nat.lt_or_ge j v with h | h
      ·exact hok2 j u h hu
      ·obtain rfl : j = v := by omega
       rw [hx] at hu
       injection hu with hu
       subst hu
       refine ⟨h8, h11, fun z h0 hz => ?_⟩
       rw [hy] at hz
       injection hz with hz
       subst hz
       exact Int.not_le.1 h10
     ·replace h10 : x.id ≤ y.id := of_decide_eq_true h10
      iterate 2 refine ⟨_, rfl, ?_⟩
      refine AW.cutM (gg + 1) st [(1, vL 1 0 (0)), (3, vI (v : Int)), (4, vL 4 0 (gg)), (8, vS s.q s.x.floors.length), (9, vI (s.x.floors.length : Int)), (10, vI (v : Int)), (11, vB true), (40, vB true)] [(1, 0, [vS s.p s.x.items.length, vS s.q s.x.floors.length]), (4, gg, [vI x.id, vI x.inc])] ⟨rfl, rfl, rfl, rfl, rfl, rfl, rfl, rfl, trivial⟩ ⟨rfl, rfl, trivial⟩ rfl fun ρ0 ff => ?_
      refine cxs ?_
      exact ⟨.inl rfl, _, rfl, false, rfl, ⟨fun h => absurd h Bool.false_ne_true, fun h => absurd ((h.2 v x hx).2.2 y (by omega) hy) (Int.not_lt.2 h10)⟩, rfl⟩
theorem Pr.low {p : Option Addr} {st0 s s' : St} (h : Pr p s s') (hP : Pres st0 s) (hN : New st0.next p) : ∀ a, a < st0.next → s'.mem a = s.mem a :=
 fun a ha => h.2 a (Nat.lt_of_lt_of_le ha hP.1) fun q hq e => by have := hN q hq; omega
theorem Pres.low {st0 s s' : St} (h : Pres s s') (hP : Pres st0 s) : ∀ a, a < st0.next → s'.mem a = s.mem a := fun a ha => h.2 a (Nat.lt_of_lt_of_le ha hP.1)
abbrev fB : Int → List Value := fun x => [.int .u8 x]
theorem fB_len (x : Int) : (fB x).length = 1 := rfl
section
variable {P : Program} {ls : List Tmp} {call : ACallT} {o : Oper} {e : Operand → Value} {lo : Lo} {st : St}
theorem op_quo {t ty : TypeId} {x y : Operand} {k : IntKind} {a b : Int} (ho : o.op = .binOp .quo t x y ty) (hx : e x = .int k a) (hy : e y = .int k b) (hb : b ≠ 0) : aoper P ls call o e lo st = some (.int k (k.wrap (a.tdiv b)), lo, st) := by
 obtain ⟨d, op, tt, pos, after, gd⟩ := o
 simp only at ho
 subst ho
 simp [aoper, rop, hx, hy, abin, aint, hb]
end
theorem wrap_u8 {i : Int} (h0 : 0 ≤ i) (h : i < 256) : IntKind.wrap .u8 i = i := by
 unfold IntKind.wrap; simp [IntKind.bits, IntKind.signed]; omega
theorem len_cSV (s : SV) : (cSV s).length = 2 := rfl
def RdL (st : St) (p : Option Addr) (l : List SV) : Prop := Rows st 2 cSV p l ∧ ∀ s ∈ l, RdS st s
abbrev pcL (p : Option Addr) (l : List SV) : List Pc := pcR 2 cSV p l :: l.flatMap pcS
theorem RdL.pres {st st' : St} {p : Option Addr} {l : List SV} (h : RdL st p l) (k : Pres st st') : RdL st' p l := ⟨k.rows h.1, fun s hs => (h.2 s hs).pres k⟩
theorem OwnP.louter {st : St} {p : Option Addr} {l : List SV} {m : List Pc} (h : OwnP st (pcR 2 cSV p l :: m)) : OwnR st 2 cSV p l := pc_own (by decide) len_cSV (h.1 _ (List.mem_cons_self ..))
theorem OwnP.sub {st : St} {l m : List Pc} (h : OwnP st l) (hs : m.Sublist l) : OwnP st m := ⟨fun c hc => h.1 c (hs.subset hc), h.2.sublist hs⟩
theorem OwnP.state {st : St} {l : List SV} {s : SV} (h : OwnP st (l.flatMap pcS)) (hs : s ∈ l) : OwnP st (pcS s) := by
 obtain ⟨i, hi⟩ := List.getElem?_of_mem hs
 rw [(split_at' hi).1, List.flatMap_append, List.flatMap_cons] at h
 exact OwnP.left (OwnP.right h)
def szL (l : List SV) : Nat := l.length + sumOf (fun s => szSta s.x) l
def bigL (l : List SV) : Prop := szOk l.length ∧ ∀ s ∈ l, bigS s.x
def maxL (l : List SV) : Prop := l.length ≤ maxLen ∧ ∀ s ∈ l, maxS s.x
theorem sz_bigL {l : List SV} (h : szL l ≤ 1048576) : bigL l := by
 unfold szL at h
 refine ⟨by unfold szOk; omega, fun s hs => sz_bigS ?_⟩
 have := sumOf_mem (f := fun s : SV => szSta s.x) hs
 omega
theorem ac_laws_szStateS (p : Option Addr) (l : List SV) (n : Int) (st : St) (hR : RdL st p l) (h0 : 0 ≤ n) (hn : n ≤ 1048576) (hm : maxL l) : C 147 [vS p l.length, vI n] st (fun v s => ∃ r, v = vI r ∧ r ≤ n ∧ (0 ≤ r → r + (szL l : Int) = n) ∧ s = st) := by
 have hm1 : l.length ≤ 9223372036854775807 := hm.1
 refine AC.enterX (i := ⟨[], [], [0, 1, 4, 5, 11, 15, 25]⟩) [] Try.func147 rfl rfl (by kernel_rfl) (by kernel_rfl) Try.ntmps147 (Nat.le_of_ble_eq_true rfl) rfl ?_
 refine AW.cut lo0 st [(0, vS p l.length), (1, vI n), (4, vI (0))] ⟨rfl, rfl, rfl, trivial⟩ fun ρ0 => ?_
 refine ⟨_, rfl, ?_⟩
 have e9 : IntKind.wrap .i64 (n - (l.length : Int)) = n - (l.length : Int) := wrap_i64 (by omega) (by omega)
 refine ⟨_, rfl, ?_⟩
 refine AW.cut lo0 st [(0, vS p l.length), (1, vI (n - (l.length : Int))), (4, vI (0))] ⟨rfl, congrArg (Value.int .i64) e9, rfl, trivial⟩ fun ρ0 => ?_
 refine ⟨_, rfl, ?_⟩
 rintro (_|_) h1
 ·replace h1 : ¬ (n - (l.length : Int) < 0) := of_decide_eq_false h1
  refine AW.cut lo0 st [(0, vS p l.length), (1, vI (n - (l.length : Int))), (4, vI (0)), (11, vB false)] ⟨rfl, rfl, rfl, rfl, trivial⟩ fun ρ0 => ?_
  refine cxs ?_
  refine AW.cut lo0 st [(0, vS p l.length), (1, vI (n - (l.length : Int))), (4, vI (0)), (5, vI (0))] ⟨rfl, rfl, rfl, rfl, trivial⟩ fun ρ0 => ?_
  refine AW.loop0 (fun x : Nat × Int => [(0, vS p l.length), (1, vI x.2), (5, vI (x.1 : Int))]) (fun m (x : Nat × Int) st' => m = l.length - x.1 ∧ x.1 ≤ l.length ∧ 0 ≤ x.2 ∧ x.2 + (l.length : Int) + (sumOf (fun s => szSta s.x) (l.take x.1) : Int) = n ∧ st = st') (0, n - (l.length : Int)) _ ⟨rfl, rfl, rfl, trivial⟩ rfl ⟨rfl, Nat.zero_le _, by omega, by simp [sumOf], rfl⟩ ?_
  rintro m x ρ0 st' ⟨rfl, hi, hx0, hx1, rfl⟩
  iterate 2 refine ⟨_, rfl, ?_⟩
  rintro (_|_) h2
  ·replace h2 : ¬ ((x.1 : Int) < (l.length : Int)) := of_decide_eq_false h2
   refine AW.cut lo0 st [(0, vS p l.length), (1, vI x.2), (5, vI (x.1 : Int)), (15, vB false)] ⟨rfl, rfl, rfl, rfl, trivial⟩ fun ρ0 => ?_
   refine cxs ?_
   refine cxs ?_
   have hil : x.1 = l.length := by omega
   exact ⟨.inl rfl, _, rfl, x.2, rfl, by omega, fun _ => by rw [hil, List.take_length] at hx1; unfold szL; omega, rfl⟩
  ·replace h2 : (x.1 : Int) < (l.length : Int) := of_decide_eq_true h2
   refine AW.cut lo0 st [(0, vS p l.length), (1, vI x.2), (5, vI (x.1 : Int)), (15, vB true)] ⟨rfl, rfl, rfl, rfl, trivial⟩ fun ρ0 => ?_
   have h2' := Int.ofNat_lt.1 h2
   have ⟨b1, o1, k1, r, hpe, hr1, hm1, hc1⟩ := hR.1.at h2'
   have hmem := List.mem_of_getElem? hr1
   have hct := sumOf_take (f := fun s : SV => szSta s.x) hr1
   refine cxs ?_
   refine ⟨_, op_idx (j := (x.1 : Int)) (n := l.length) (q := ⟨b1, o1, none⟩) rfl (congrArg (fun u => vS u l.length) hpe) rfl rfl rfl (Int.natCast_nonneg _) h2, ?_⟩
   refine ⟨_, op_lda rfl rfl rfl rfl rfl hm1 hc1 rfl, ?_⟩
   refine ⟨_, rfl, (ac_laws_szState r x.2 st (hR.2 r hmem) hx0 (by omega) (hm.2 r hmem)).mono ?_⟩
   rintro _ st ⟨y, rfl, hy, hz, rfl⟩
   refine AW.cut lo0 st [(0, vS p l.length), (1, vI y), (5, vI (x.1 : Int)), (15, vB true)] ⟨rfl, rfl, rfl, rfl, trivial⟩ fun ρ0 => ?_
   refine ⟨_, rfl, ?_⟩
   rintro (_|_) h3
   ·replace h3 : ¬ (y < 0) := of_decide_eq_false h3
    refine AW.cut lo0 st [(0, vS p l.length), (1, vI y), (5, vI (x.1 : Int)), (15, vB true), (25, vB false)] ⟨rfl, rfl, rfl, rfl, rfl, trivial⟩ fun ρ0 => ?_
    refine cxs ?_
    have e17 : IntKind.wrap .i64 ((x.1 : Int) + 1) = ((x.1 + 1 : Nat) : Int) := (wrap_i64 (by omega) (by omega)).trans (by omega)
    refine ⟨_, rfl, ?_⟩
    exact ⟨(x.1 + 1, y), l.length - (x.1 + 1), by omega, ⟨rfl, rfl, congrArg (Value.int .i64) e17, trivial⟩, rfl, rfl, h2', by omega, by have := hz (by omega); simp only; omega, rfl⟩
   ·replace h3 : y < 0 := of_decide_eq_true h3
    refine AW.cut lo0 st [(0, vS p l.length), (1, vI y), (5, vI (x.1 : Int)), (15, vB true), (25, vB true)] ⟨rfl, rfl, rfl, rfl, rfl, trivial⟩ fun ρ0 => ?_
    refine cxs ?_
    exact ⟨.inl rfl, _, rfl, -1, rfl, by omega, fun h => absurd h (by omega), rfl⟩
 ·replace h1 : n - (l.length : Int) < 0 := of_decide_eq_true h1
  refine AW.cut lo0 st [(0, vS p l.length), (1, vI (n - (l.length : Int))), (4, vI (0)), (11, vB true)] ⟨rfl, rfl, rfl, rfl, trivial⟩ fun ρ0 => ?_
  refine cxs ?_
  exact ⟨.inl rfl, _, rfl, -1, rfl, by omega, fun h => absurd h (by omega), rfl⟩
abbrev zSV : SV := ⟨none, none, ⟨[], []⟩⟩
theorem ac_laws_toStateS (p : Option Addr) (l : List SV) (st : St) (hR : RdL st p l) (hb : bigL l) : C 151 [vS p l.length] st (fun v s => ∃ q u, v = vS q l.length ∧ u.map (·.x) = l.map (·.x) ∧ OwnP s (pcL q u) ∧ NewP st.next (pcL q u) ∧ Pres st s) := by
 have hs : l.length ≤ 1048576 := hb.1
 refine AC.enterX (i := ⟨[], [], [0, 2, 3, 4, 11]⟩) [] Try.func151 rfl rfl (by kernel_rfl) (by kernel_rfl) Try.ntmps151 (Nat.le_of_ble_eq_true rfl) rfl ?_
 refine AW.cut lo0 st [(0, vS p l.length), (2, .slice none 0 0)] ⟨rfl, rfl, trivial⟩ fun ρ0 => ?_
 refine ⟨_, rfl, ?_⟩
 refine op_mkK (z := 2) (f := cSV) (a := zSV) (b := 48) (i := l.length) rfl rfl rfl rfl rfl rfl rfl rfl rfl (by decide) rfl rfl (by omega) (by omega) ?_
 intro q s1 hO hP hN
 have hO : OwnP s1 [pcR 2 cSV q (List.replicate l.length zSV)] := OwnP.one (own_pc hO)
 refine cxs ?_
 refine AW.cut lo0 s1 [(0, vS p l.length), (2, .slice none 0 0), (3, vS q l.length), (4, vI (0))] ⟨rfl, rfl, rfl, rfl, trivial⟩ fun ρ0 => ?_
 refine AW.loop0 (fun x : Nat × List SV => [(0, vS p l.length), (3, vS q l.length), (4, vI (x.1 : Int))]) (fun m (x : Nat × List SV) st' => m = l.length - x.1 ∧ x.1 ≤ l.length ∧ x.2.map (·.x) = (l.take x.1).map (·.x) ∧ OwnP st' (pcR 2 cSV q (x.2 ++ List.replicate (l.length - x.1) zSV) :: x.2.flatMap pcS) ∧ NewP st.next (pcL q x.2) ∧ Pres st st') (0, []) _ ⟨rfl, rfl, rfl, trivial⟩ rfl ⟨rfl, Nat.zero_le _, rfl, hO, NewP.cons hN NewP.nil, hP⟩ ?_
 rintro m x ρ0 st' ⟨rfl, hi, hl, hO', hN', hP'⟩
 iterate 2 refine ⟨_, rfl, ?_⟩
 rintro (_|_) h1
 ·replace h1 : ¬ ((x.1 : Int) < (l.length : Int)) := of_decide_eq_false h1
  refine AW.cut lo0 st' [(0, vS p l.length), (3, vS q l.length), (4, vI (x.1 : Int)), (11, vB false)] ⟨rfl, rfl, rfl, rfl, trivial⟩ fun ρ0 => ?_
  refine cxs ?_
  refine cxs ?_
  have hil : x.1 = l.length := by omega
  rw [hil, Nat.sub_self, List.replicate_zero, List.append_nil] at hO'
  exact ⟨.inl rfl, _, rfl, q, x.2, rfl, by rw [hl, hil, List.take_length], hO', hN', hP'⟩
 ·replace h1 : (x.1 : Int) < (l.length : Int) := of_decide_eq_true h1
  refine AW.cut lo0 st' [(0, vS p l.length), (3, vS q l.length), (4, vI (x.1 : Int)), (11, vB true)] ⟨rfl, rfl, rfl, rfl, trivial⟩ fun ρ0 => ?_
  have h1' := Int.ofNat_lt.1 h1
  have ⟨b1, o1, k1, r, hpe, hr1, hm1, hc1⟩ := (hR.pres hP').1.at h1'
  have hmem := List.mem_of_getElem? hr1
  obtain ⟨d1, d2, d3⟩ := split_at' hr1
  have hxl : x.2.length = x.1 := by have := congrArg List.length hl; simp at this; omega
  obtain ⟨n1, hn1⟩ : ∃ n1, l.length - x.1 = n1 + 1 := ⟨l.length - x.1 - 1, by omega⟩
  refine cxs ?_
  refine ⟨_, op_idx (j := (x.1 : Int)) (n := l.length) (q := ⟨b1, o1, none⟩) rfl (congrArg (fun u => vS u l.length) hpe) rfl rfl rfl (Int.natCast_nonneg _) h1, ?_⟩
  refine ⟨_, op_lda rfl rfl rfl rfl rfl hm1 hc1 rfl, ?_⟩
  refine ⟨_, rfl, (ac_laws_toState r st' ((hR.pres hP').2 r hmem) (hb.2 r hmem)).mono ?_⟩
  rintro _ s2 ⟨y, rfl, hy, hO2, hN2, hP2⟩
  have hA := OwnP.join hO' hP2 hO2 hN2
  have hlen : x.1 < (x.2 ++ List.replicate (l.length - x.1) zSV).length := by rw [List.length_append, List.length_replicate]; omega
  have hout : OwnR s2 2 cSV q (x.2 ++ List.replicate (l.length - x.1) zSV) := (hO'.pres hP2).louter
  have ⟨a, ha⟩ := hout.some (by omega)
  refine ⟨_, op_idx (j := (x.1 : Int)) (n := l.length) (q := ⟨a, 0, none⟩) rfl (congrArg (fun u => vS u l.length) ha) rfl rfl rfl (Int.natCast_nonneg _) h1, ?_⟩
  refine op_put (z := 2) (st := s2) (f := cSV) (j := x.1) (l := x.2 ++ List.replicate (l.length - x.1) zSV) (y := y) (p := q) (d := 0 + x.1 * 2) rfl rfl (Nat.zero_add _) rfl rfl len_cSV rfl rfl hlen hout ha ?_
  intro s5 hO5 hP5 hn5
  refine AW.cut lo0 s5 [(0, vS p l.length), (3, vS q l.length), (4, vI (x.1 : Int)), (11, vB true)] ⟨rfl, rfl, rfl, rfl, trivial⟩ fun ρ0 => ?_
  have hset : (x.2 ++ List.replicate (l.length - x.1) zSV).set x.1 y = (x.2 ++ [y]) ++ List.replicate (l.length - (x.1 + 1)) zSV := by
   rw [hn1, show l.length - (x.1 + 1) = n1 by omega, List.replicate_succ, List.set_append_right _ _ (by omega), show x.1 - x.2.length = 0 by omega, List.set_cons_zero]
   simp
  rw [hset] at hO5
  have hB : OwnP s5 (pcR 2 cSV q ((x.2 ++ [y]) ++ List.replicate (l.length - (x.1 + 1)) zSV) :: (x.2.flatMap pcS ++ pcS y)) :=
   OwnP.update (l := []) (m := x.2.flatMap pcS ++ pcS y) (c := pcR 2 cSV q (x.2 ++ List.replicate (l.length - x.1) zSV)) (d := pcR 2 cSV q ((x.2 ++ [y]) ++ List.replicate (l.length - (x.1 + 1)) zSV)) hA hP5 (own_pc hO5) rfl
  have hB : OwnP s5 (pcR 2 cSV q ((x.2 ++ [y]) ++ List.replicate (l.length - (x.1 + 1)) zSV) :: (x.2 ++ [y]).flatMap pcS) := by rw [List.flatMap_append, List.flatMap_singleton]; exact hB
  have e13 : IntKind.wrap .i64 ((x.1 : Int) + 1) = ((x.1 + 1 : Nat) : Int) := (wrap_i64 (by omega) (by omega)).trans (by omega)
  refine ⟨_, rfl, ?_⟩
  refine ⟨(x.1 + 1, x.2 ++ [y]), l.length - (x.1 + 1), by omega, ⟨rfl, rfl, congrArg (Value.int .i64) e13, trivial⟩, rfl, rfl, h1', ?_, hB, ?_, ?_⟩
  ·rw [List.map_append, hl, d2, List.map_append]; simp [hy]
  ·refine NewP.cons hN ?_
   rw [List.flatMap_append, List.flatMap_singleton]
   exact NewP.app (fun c hc => hN' c (List.mem_cons_of_mem _ hc)) (hN2.le hP'.1)
  ·exact hP5.pres (hP'.trans hP2) hN
theorem ac_laws_eqStateS (p q : Option Addr) (a b : List SV) (st : St) (hA : RdL st p a) (hB : RdL st q b) (hb : bigL a) : C 159 [vS p a.length, vS q b.length] st (fun v s => ∃ x, v = .bool x ∧ (x = true ↔ a.map (·.x) = b.map (·.x)) ∧ s = st) := by
 have hs : a.length ≤ 1048576 := hb.1
 refine AC.enterX (i := ⟨[], [], [0, 1, 4, 5, 10, 14, 26]⟩) [(6, [], [])] Try.func159 rfl rfl (by kernel_rfl) (by kernel_rfl) Try.ntmps159 (Nat.le_of_ble_eq_true rfl) rfl ?_
 refine AW.cut lo0 st [(0, vS p a.length), (1, vS q b.length), (4, vB false)] ⟨rfl, rfl, rfl, trivial⟩ fun ρ0 => ?_
 iterate 3 refine ⟨_, rfl, ?_⟩
 rintro (_|_) h1
 ·replace h1 : (a.length : Int) = (b.length : Int) := bne_eq_false_iff_eq.1 h1
  refine AW.cut lo0 st [(0, vS p a.length), (1, vS q b.length), (4, vB false), (10, vB false)] ⟨rfl, rfl, rfl, rfl, trivial⟩ fun ρ0 => ?_
  refine cxs ?_
  refine AW.cut lo0 st [(0, vS p a.length), (1, vS q b.length), (4, vB false), (5, vI (0))] ⟨rfl, rfl, rfl, rfl, trivial⟩ fun ρ0 => ?_
  refine AW.loop0 (fun i : Nat => [(0, vS p a.length), (1, vS q b.length), (4, vB false), (5, vI (i : Int))]) (fun m (i : Nat) st' => m = a.length - i ∧ i ≤ a.length ∧ (∀ (j : Nat) x y, j < i → a[j]? = some x → b[j]? = some y → x.x = y.x) ∧ st = st') 0 _ ⟨rfl, rfl, rfl, rfl, trivial⟩ rfl ⟨rfl, Nat.zero_le _, fun j x y h => absurd h (Nat.not_lt_zero _), rfl⟩ ?_
  rintro m i ρ0 st' ⟨rfl, hi, heq, rfl⟩
  iterate 2 refine ⟨_, rfl, ?_⟩
  rintro (_|_) h2
  ·replace h2 : ¬ ((i : Int) < (a.length : Int)) := of_decide_eq_false h2
   refine AW.cut lo0 st [(0, vS p a.length), (1, vS q b.length), (4, vB false), (5, vI (i : Int)), (14, vB false)] ⟨rfl, rfl, rfl, rfl, rfl, trivial⟩ fun ρ0 => ?_
   refine cxs ?_
   refine cxs ?_
   refine ⟨.inl rfl, _, rfl, true, rfl, ⟨fun _ => ?_, fun _ => rfl⟩, rfl⟩
   refine iff_lists (by simp; omega) fun j x y hj hx hy => ?_
   rw [List.getElem?_map] at hx hy
   obtain ⟨u, hu, rfl⟩ := Option.map_eq_some_iff.1 hx
   obtain ⟨v, hv, rfl⟩ := Option.map_eq_some_iff.1 hy
   exact heq j u v (by simp at hj; omega) hu hv
  ·replace h2 : (i : Int) < (a.length : Int) := of_decide_eq_true h2
   refine AW.cut lo0 st [(0, vS p a.length), (1, vS q b.length), (4, vB false), (5, vI (i : Int)), (14, vB true)] ⟨rfl, rfl, rfl, rfl, rfl, trivial⟩ fun ρ0 => ?_
   have h2' := Int.ofNat_lt.1 h2
   have ⟨b1, o1, k1, x, hpe, hx, hm1, hc1, hb1⟩ := hA.1.atB h2'
   have ⟨b2, o2, k2, y, hqe, hy, hm2, hc2, hb2⟩ := hB.1.atB (j := i) (by omega)
   have hxm := List.mem_of_getElem? hx
   have hym := List.mem_of_getElem? hy
   refine cxs ?_
   refine ⟨_, op_idx (j := (i : Int)) (n := a.length) (q := ⟨b1, o1, none⟩) rfl (congrArg (fun u => vS u a.length) hpe) rfl rfl rfl (Int.natCast_nonneg _) h2, ?_⟩
   refine ⟨_, op_lda rfl rfl rfl rfl rfl hm1 hc1 rfl, ?_⟩
   refine ⟨_, op_idx (j := (i : Int)) (n := b.length) (q := ⟨b2, o2, none⟩) rfl (congrArg (fun u => vS u b.length) hqe) rfl rfl rfl (Int.natCast_nonneg _) (h1 ▸ h2), ?_⟩
   refine ⟨_, op_lda rfl rfl rfl rfl rfl hm2 hc2 rfl, ?_⟩
   refine ⟨_, rfl, (ac_laws_eqState x y st (hA.2 x hxm) (hB.2 y hym) (hb.2 x hxm)).mono ?_⟩
   rintro _ st ⟨c, rfl, h3, rfl⟩
   rcases c with _|_
   ·replace h3 := fun k => Bool.false_ne_true (h3.2 k)
    refine ⟨_, rfl, ?_⟩
    refine AW.cut lo0 st [(0, vS p a.length), (1, vS q b.length), (4, vB false), (5, vI (i : Int)), (14, vB true), (26, vB true)] ⟨rfl, rfl, rfl, rfl, rfl, rfl, trivial⟩ fun ρ0 => ?_
    refine cxs ?_
    refine ⟨.inl rfl, _, rfl, false, rfl, ⟨fun h => absurd h Bool.false_ne_true, fun h => absurd ?_ h3⟩, rfl⟩
    have h4 : (a.map (·.x))[i]? = some x.x := by rw [List.getElem?_map, hx]; rfl
    rw [h, List.getElem?_map, hy] at h4
    injection h4 with h4
    exact h4.symm
   ·replace h3 := h3.1 rfl
    refine ⟨_, rfl, ?_⟩
    refine AW.cut lo0 st [(0, vS p a.length), (1, vS q b.length), (4, vB false), (5, vI (i : Int)), (14, vB true), (26, vB false)] ⟨rfl, rfl, rfl, rfl, rfl, rfl, trivial⟩ fun ρ0 => ?_
    refine cxs ?_
    have e16 : IntKind.wrap .i64 ((i : Int) + 1) = ((i + 1 : Nat) : Int) := (wrap_i64 (by omega) (by omega)).trans (by omega)
    refine ⟨_, rfl, ?_⟩
    refine ⟨i + 1, a.length - (i + 1), by omega, ⟨rfl, rfl, rfl, congrArg (Value.int .i64) e16, trivial⟩, rfl, rfl, h2', fun j u v hj hu hv => ?_, rfl⟩
    rcases Nat.lt_or_ge j i with h | h
    ·exact heq j u v h hu hv
    ·obtain rfl : j = i := by omega
     rw [hx] at hu; rw [hy] at hv
     injection hu with hu; injection hv with hv
     rw [← hu, ← hv]; exact h3
 ·replace h1 : ¬ ((a.length : Int) = (b.length : Int)) := bne_iff_ne.1 h1
  refine AW.cut lo0 st [(0, vS p a.length), (1, vS q b.length), (4, vB false), (10, vB true)] ⟨rfl, rfl, rfl, rfl, trivial⟩ fun ρ0 => ?_
  refine cxs ?_
  exact ⟨.inl rfl, _, rfl, false, rfl, ⟨fun h => absurd h Bool.false_ne_true, fun h => absurd (by have := congrArg List.length h; simp at this; exact congrArg Nat.cast this) h1⟩, rfl⟩
structure Lg where
 cap : Int
 frm : Int
 list : List Sta
structure LV where
 cap : Int
 frm : Int
 p : Option Addr
 l : List SV
abbrev LV.x (g : LV) : Lg := ⟨g.cap, g.frm, g.l.map (·.x)⟩
abbrev cLV (g : LV) : List Value := [vI g.cap, vI g.frm, vS g.p g.l.length]
theorem ac_laws_szLog (g : LV) (n : Int) (st : St) (hR : RdL st g.p g.l) (h0 : 0 ≤ n) (hn : n ≤ 1048576) (hm : maxL g.l) : C 78 [.agg #[vI g.cap, vI g.frm, vS g.p g.l.length], vI n] st (fun v s => ∃ r, v = vI r ∧ r ≤ n ∧ (0 ≤ r → r + (szL g.l : Int) = n) ∧ s = st) := by
 refine AC.enterX (i := ⟨[2], [2, 5], [0, 1, 2, 4, 10]⟩) [] Try.func78 rfl rfl (by kernel_rfl) (by kernel_rfl) Try.ntmps78 (Nat.le_of_ble_eq_true rfl) rfl ?_
 refine ⟨_, rfl, ?_⟩
 refine AW.cutM (1) st [(1, vI n), (2, vL 2 0 (0)), (4, vI (0))] [(2, 0, [vI g.cap, vI g.frm, vS g.p g.l.length])] ⟨rfl, rfl, rfl, trivial⟩ ⟨rfl, trivial⟩ rfl fun ρ0 ff => ?_
 iterate 2 refine ⟨_, rfl, ?_⟩
 refine ⟨_, rfl, (ac_laws_szStateS g.p g.l n st hR h0 hn hm).mono ?_⟩
 rintro _ st ⟨r, rfl, hr, hz, rfl⟩
 refine AW.cutM (1) st [(1, vI r), (4, vI (0))] [] ⟨rfl, rfl, trivial⟩ trivial rfl fun ρ0 ff => ?_
 refine ⟨_, rfl, ?_⟩
 rintro (_|_) h1
 ·replace h1 : ¬ (r < 0) := of_decide_eq_false h1
  refine AW.cutM (1) st [(1, vI r), (4, vI (0)), (10, vB false)] [] ⟨rfl, rfl, rfl, trivial⟩ trivial rfl fun ρ0 ff => ?_
  refine cxs ?_
  refine cxs ?_
  exact ⟨.inl rfl, _, rfl, r, rfl, hr, hz, rfl⟩
 ·replace h1 : r < 0 := of_decide_eq_true h1
  refine AW.cutM (1) st [(1, vI r), (4, vI (0)), (10, vB true)] [] ⟨rfl, rfl, rfl, trivial⟩ trivial rfl fun ρ0 ff => ?_
  refine cxs ?_
  exact ⟨.inl rfl, _, rfl, -1, rfl, by omega, fun h => absurd h (by omega), rfl⟩
theorem ac_laws_toLog (g : LV) (st : St) (hR : RdL st g.p g.l) (hb : bigL g.l) : C 90 [.agg #[vI g.cap, vI g.frm, vS g.p g.l.length]] st (fun v s => ∃ u : LV, v = .agg #[vI u.cap, vI u.frm, vS u.p u.l.length] ∧ u.x = g.x ∧ OwnP s (pcL u.p u.l) ∧ NewP st.next (pcL u.p u.l) ∧ Pres st s) := by
 refine AC.enterX (i := ⟨[1, 2, 3], [1, 2, 3, 4, 6, 7, 9, 10, 13], [0, 1, 2, 3]⟩) [] Try.func90 rfl rfl (by kernel_rfl) (by kernel_rfl) Try.ntmps90 (Nat.le_of_ble_eq_true rfl) rfl ?_
 iterate 2 refine ⟨_, rfl, ?_⟩
 refine AW.cutM (2) st [(1, vL 1 0 (0)), (2, vL 2 0 (1))] [(1, 0, [vI g.cap, vI g.frm, vS g.p g.l.length]), (2, 1, [vI 0, vI 0, .slice none 0 0])] ⟨rfl, rfl, trivial⟩ ⟨rfl, rfl, trivial⟩ rfl fun ρ0 ff => ?_
 refine ⟨_, rfl, ?_⟩
 refine AW.cutM (3) st [(1, vL 1 0 (0)), (2, vL 2 0 (1)), (3, vL 3 0 (2))] [(1, 0, [vI g.cap, vI g.frm, vS g.p g.l.length]), (2, 1, [vI 0, vI 0, .slice none 0 0]), (3, 2, [vI 0, vI 0, .slice none 0 0])] ⟨rfl, rfl, rfl, trivial⟩ ⟨rfl, rfl, rfl, trivial⟩ rfl fun ρ0 ff => ?_
 iterate 4 refine ⟨_, rfl, ?_⟩
 refine AW.cutM (3) st [(1, vL 1 0 (0)), (2, vL 2 0 (1)), (3, vL 3 0 (2))] [(1, 0, [vI g.cap, vI g.frm, vS g.p g.l.length]), (2, 1, [vI 0, vI 0, .slice none 0 0]), (3, 2, [vI g.cap, vI 0, .slice none 0 0])] ⟨rfl, rfl, rfl, trivial⟩ ⟨rfl, rfl, rfl, trivial⟩ rfl fun ρ0 ff => ?_
 iterate 4 refine ⟨_, rfl, ?_⟩
 refine AW.cutM (3) st [(1, vL 1 0 (0)), (2, vL 2 0 (1)), (3, vL 3 0 (2))] [(1, 0, [vI g.cap, vI g.frm, vS g.p g.l.length]), (2, 1, [vI 0, vI 0, .slice none 0 0]), (3, 2, [vI g.cap, vI g.frm, .slice none 0 0])] ⟨rfl, rfl, rfl, trivial⟩ ⟨rfl, rfl, rfl, trivial⟩ rfl fun ρ0 ff => ?_
 iterate 2 refine ⟨_, rfl, ?_⟩
 refine ⟨_, rfl, (ac_laws_toStateS g.p g.l st hR hb).mono ?_⟩
 rintro _ s1 ⟨q, u, rfl, hu, hO, hN, hP⟩
 iterate 2 refine ⟨_, rfl, ?_⟩
 refine AW.cutM (3) s1 [(2, vL 2 0 (1)), (3, vL 3 0 (2))] [(2, 1, [vI 0, vI 0, .slice none 0 0]), (3, 2, [vI g.cap, vI g.frm, vS q g.l.length])] ⟨rfl, rfl, trivial⟩ ⟨rfl, rfl, trivial⟩ rfl fun ρ0 ff => ?_
 iterate 2 refine ⟨_, rfl, ?_⟩
 refine cxs ?_
 have hul : u.length = g.l.length := by have := congrArg List.length hu; simpa using this
 exact ⟨.inl rfl, _, rfl, ⟨g.cap, g.frm, q, u⟩, congrArg (fun n => Value.agg #[vI g.cap, vI g.frm, vS q n]) hul.symm, by simp only [LV.x, hu], hO, hN, hP⟩
theorem ac_laws_eqLog (a b : LV) (st : St) (hA : RdL st a.p a.l) (hB : RdL st b.p b.l) (hb : bigL a.l) : C 104 [.agg #[vI a.cap, vI a.frm, vS a.p a.l.length], .agg #[vI b.cap, vI b.frm, vS b.p b.l.length]] st (fun v s => ∃ x, v = .bool x ∧ (x = true ↔ a.x = b.x) ∧ s = st) := by
 refine AC.enterX (i := ⟨[2, 3], [2, 3, 5, 7, 10, 12, 15, 17], [0, 1, 2, 3, 4, 9, 14, 20]⟩) [] Try.func104 rfl rfl (by kernel_rfl) (by kernel_rfl) Try.ntmps104 (Nat.le_of_ble_eq_true rfl) rfl ?_
 iterate 2 refine ⟨_, rfl, ?_⟩
 refine AW.cutM (2) st [(2, vL 2 0 (0)), (3, vL 3 0 (1)), (4, vB false)] [(2, 0, [vI a.cap, vI a.frm, vS a.p a.l.length]), (3, 1, [vI b.cap, vI b.frm, vS b.p b.l.length])] ⟨rfl, rfl, rfl, trivial⟩ ⟨rfl, rfl, trivial⟩ rfl fun ρ0 ff => ?_
 iterate 5 refine ⟨_, rfl, ?_⟩
 rintro (_|_) h1
 ·replace h1 : a.cap = b.cap := bne_eq_false_iff_eq.1 h1
  refine AW.cutM (2) st [(2, vL 2 0 (0)), (3, vL 3 0 (1)), (4, vB false), (9, vB false)] [(2, 0, [vI a.cap, vI a.frm, vS a.p a.l.length]), (3, 1, [vI b.cap, vI b.frm, vS b.p b.l.length])] ⟨rfl, rfl, rfl, rfl, trivial⟩ ⟨rfl, rfl, trivial⟩ rfl fun ρ0 ff => ?_
  refine cxs ?_
  iterate 5 refine ⟨_, rfl, ?_⟩
  rintro (_|_) h2
  ·replace h2 : a.frm = b.frm := bne_eq_false_iff_eq.1 h2
   refine AW.cutM (2) st [(2, vL 2 0 (0)), (3, vL 3 0 (1)), (4, vB false), (14, vB false)] [(2, 0, [vI a.cap, vI a.frm, vS a.p a.l.length]), (3, 1, [vI b.cap, vI b.frm, vS b.p b.l.length])] ⟨rfl, rfl, rfl, rfl, trivial⟩ ⟨rfl, rfl, trivial⟩ rfl fun ρ0 ff => ?_
   refine cxs ?_
   iterate 4 refine ⟨_, rfl, ?_⟩
   refine ⟨_, rfl, (ac_laws_eqStateS a.p b.p a.l b.l st hA hB hb).mono ?_⟩
   rintro _ st ⟨c, rfl, h3, rfl⟩
   rcases c with _|_
   ·replace h3 := fun k => Bool.false_ne_true (h3.2 k)
    refine ⟨_, rfl, ?_⟩
    refine AW.cutM (2) st [(4, vB false), (20, vB true)] [] ⟨rfl, rfl, trivial⟩ trivial rfl fun ρ0 ff => ?_
    refine cxs ?_
    exact ⟨.inl rfl, _, rfl, false, rfl, ⟨fun h => absurd h Bool.false_ne_true, fun h => absurd (congrArg Lg.list h) h3⟩, rfl⟩
   ·replace h3 := h3.1 rfl
    refine ⟨_, rfl, ?_⟩
    refine AW.cutM (2) st [(4, vB false), (20, vB false)] [] ⟨rfl, rfl, trivial⟩ trivial rfl fun ρ0 ff => ?_
    refine cxs ?_
    refine cxs ?_
    exact ⟨.inl rfl, _, rfl, true, rfl, ⟨fun _ => by simp only [LV.x, h1, h2, h3], fun _ => rfl⟩, rfl⟩
  ·replace h2 : ¬ (a.frm = b.frm) := bne_iff_ne.1 h2
   refine AW.cutM (2) st [(2, vL 2 0 (0)), (3, vL 3 0 (1)), (4, vB false), (14, vB true)] [(2, 0, [vI a.cap, vI a.frm, vS a.p a.l.length]), (3, 1, [vI b.cap, vI b.frm, vS b.p b.l.length])] ⟨rfl, rfl, rfl, rfl, trivial⟩ ⟨rfl, rfl, trivial⟩ rfl fun ρ0 ff => ?_
   refine cxs ?_
   exact ⟨.inl rfl, _, rfl, false, rfl, ⟨fun h => absurd h Bool.false_ne_true, fun h => absurd (congrArg Lg.frm h) h2⟩, rfl⟩
 ·replace h1 : ¬ (a.cap = b.cap) := bne_iff_ne.1 h1
  refine AW.cutM (2) st [(2, vL 2 0 (0)), (3, vL 3 0 (1)), (4, vB false), (9, vB true)] [(2, 0, [vI a.cap, vI a.frm, vS a.p a.l.length]), (3, 1, [vI b.cap, vI b.frm, vS b.p b.l.length])] ⟨rfl, rfl, rfl, rfl, trivial⟩ ⟨rfl, rfl, trivial⟩ rfl fun ρ0 ff => ?_
  refine cxs ?_
  exact ⟨.inl rfl, _, rfl, false, rfl, ⟨fun h => absurd h Bool.false_ne_true, fun h => absurd (congrArg Lg.cap h) h1⟩, rfl⟩
def logOk (g : Lg) : Prop := (1 ≤ g.cap ∧ g.cap ≤ 8) ∧ (g.list.length : Int) ≤ g.cap ∧ (0 ≤ g.frm ∧ g.frm ≤ 100000) ∧ g.frm + (g.list.length : Int) ≤ 100000 ∧ ∀ s ∈ g.list, stateOk s
theorem states_of {l : List SV} {P : Sta → Prop} (h : ∀ s ∈ l.map (·.x), P s) {i : Nat} {s : SV} (hs : l[i]? = some s) : P s.x := h _ (List.mem_map_of_mem (List.mem_of_getElem? hs))
theorem states_to {l : List SV} {P : Sta → Prop} (h : ∀ (j : Nat) s, l[j]? = some s → P s.x) : ∀ s ∈ l.map (·.x), P s := fun s hs => by
 obtain ⟨r, hr, rfl⟩ := List.mem_map.1 hs
 obtain ⟨i, hi⟩ := List.getElem?_of_mem hr
 exact h i r hi
theorem ac_spec_LogOk (g : LV) (st : St) (hR : RdL st g.p g.l) (hb : bigL g.l) : C 85 [.agg #[vI g.cap, vI g.frm, vS g.p g.l.length]] st (fun v s => ∃ x, v = .bool x ∧ (x = true ↔ logOk g.x) ∧ s = st) := by
 have hs : g.l.length ≤ 1048576 := hb.1
 have hgl : g.x.list.length = g.l.length := List.length_map _
 refine AC.enterX (i := ⟨[1], [1, 4, 9, 12, 17, 23, 25, 32, 38], [0, 1, 2, 3, 30, 35, 44]⟩) [] Try.func85 rfl rfl (by kernel_rfl) (by kernel_rfl) Try.ntmps85 (Nat.le_of_ble_eq_true rfl) rfl ?_
 refine ⟨_, rfl, ?_⟩
 refine AW.cutM (1) st [(1, vL 1 0 (0)), (2, vB false)] [(1, 0, [vI g.cap, vI g.frm, vS g.p g.l.length])] ⟨rfl, rfl, trivial⟩ ⟨rfl, trivial⟩ rfl fun ρ0 ff => ?_
 iterate 2 refine ⟨_, rfl, ?_⟩
 refine ⟨_, rfl, (ac_spec_l1In g.cap 1 8 st).mono ?_⟩
 rintro _ st ⟨a, rfl, h1, rfl⟩
 rcases a with _|_
 ·replace h1 := of_decide_eq_false h1.symm
  iterate 4 refine ⟨_, rfl, ?_⟩
  refine AW.cutM (1) st [(1, vL 1 0 (0)), (2, vB false), (30, vB true)] [(1, 0, [vI g.cap, vI g.frm, vS g.p g.l.length])] ⟨rfl, rfl, rfl, trivial⟩ ⟨rfl, trivial⟩ rfl fun ρ0 ff => ?_
  refine cxs ?_
  exact ⟨.inl rfl, _, rfl, false, rfl, ⟨fun h => absurd h Bool.false_ne_true, fun h => absurd h.1 h1⟩, rfl⟩
 ·replace h1 := of_decide_eq_true h1.symm
  iterate 7 refine ⟨_, rfl, ?_⟩
  rintro (_|_) h2
  ·replace h2 : ¬ ((g.l.length : Int) > g.cap) := of_decide_eq_false h2
   iterate 3 refine ⟨_, rfl, ?_⟩
   refine ⟨_, rfl, (ac_spec_l1In g.frm 0 100000 st).mono ?_⟩
   rintro _ st ⟨b, rfl, h3, rfl⟩
   rcases b with _|_
   ·replace h3 := of_decide_eq_false h3.symm
    iterate 3 refine ⟨_, rfl, ?_⟩
    refine AW.cutM (1) st [(1, vL 1 0 (0)), (2, vB false), (30, vB true)] [(1, 0, [vI g.cap, vI g.frm, vS g.p g.l.length])] ⟨rfl, rfl, rfl, trivial⟩ ⟨rfl, trivial⟩ rfl fun ρ0 ff => ?_
    refine cxs ?_
    exact ⟨.inl rfl, _, rfl, false, rfl, ⟨fun h => absurd h Bool.false_ne_true, fun h => absurd h.2.2.1 h3⟩, rfl⟩
   ·replace h3 := of_decide_eq_true h3.symm
    iterate 9 refine ⟨_, rfl, ?_⟩
    rintro (_|_) h4
    ·replace h4 : ¬ (IntKind.wrap .i64 (g.frm + (g.l.length : Int)) > 100000) := of_decide_eq_false h4
     refine ⟨_, rfl, ?_⟩
     refine AW.cutM (1) st [(1, vL 1 0 (0)), (2, vB false), (30, vB false)] [(1, 0, [vI g.cap, vI g.frm, vS g.p g.l.length])] ⟨rfl, rfl, rfl, trivial⟩ ⟨rfl, trivial⟩ rfl fun ρ0 ff => ?_
     have e28 : IntKind.wrap .i64 (g.frm + (g.l.length : Int)) = g.frm + (g.l.length : Int) := wrap_i64 (by omega) (by omega)
     rw [e28] at h4
     refine cxs ?_
     refine AW.cutM (1) st [(1, vL 1 0 (0)), (2, vB false), (3, vI (0))] [(1, 0, [vI g.cap, vI g.frm, vS g.p g.l.length])] ⟨rfl, rfl, rfl, trivial⟩ ⟨rfl, trivial⟩ rfl fun ρ0 ff => ?_
     refine AW.loopM (fun i : Nat => [(1, vL 1 0 (0)), (3, vI (i : Int))]) (fun i : Nat => [(1, 0, [vI g.cap, vI g.frm, vS g.p g.l.length])]) (fun m (i : Nat) st' => m = g.l.length - i ∧ i ≤ g.l.length ∧ (∀ (j : Nat) s, j < i → g.l[j]? = some s → stateOk s.x) ∧ st = st') 0 _ ⟨rfl, rfl, trivial⟩ ⟨rfl, trivial⟩ ⟨rfl, Nat.zero_le _, fun j s h => absurd h (Nat.not_lt_zero _), rfl⟩ ?_
     rintro m i ρ0 ff gg st' ⟨rfl, hi, hok, rfl⟩
     refine ⟨_, rfl, ?_⟩
     refine ⟨_, op_ldo rfl rfl rfl rfl, ?_⟩
     iterate 2 refine ⟨_, rfl, ?_⟩
     rintro (_|_) h5
     ·replace h5 : ¬ ((i : Int) < (g.l.length : Int)) := of_decide_eq_false h5
      refine AW.cutM (gg) st [(1, vL 1 0 (0)), (3, vI (i : Int)), (35, vB false)] [(1, 0, [vI g.cap, vI g.frm, vS g.p g.l.length])] ⟨rfl, rfl, rfl, trivial⟩ ⟨rfl, trivial⟩ rfl fun ρ0 ff => ?_
      refine cxs ?_
      refine cxs ?_
      refine ⟨.inl rfl, _, rfl, true, rfl, ⟨fun _ => ⟨h1, by rw [hgl]; show (g.l.length : Int) ≤ g.cap; omega, h3, by rw [hgl]; show g.frm + (g.l.length : Int) ≤ 100000; omega, states_to fun j s hs => hok j s (by have := (List.getElem?_eq_some_iff.1 hs).1; omega) hs⟩, fun _ => rfl⟩, rfl⟩
     ·replace h5 : (i : Int) < (g.l.length : Int) := of_decide_eq_true h5
      refine AW.cutM (gg) st [(1, vL 1 0 (0)), (3, vI (i : Int)), (35, vB true)] [(1, 0, [vI g.cap, vI g.frm, vS g.p g.l.length])] ⟨rfl, rfl, rfl, trivial⟩ ⟨rfl, trivial⟩ rfl fun ρ0 ff => ?_
      have h5' := Int.ofNat_lt.1 h5
      have ⟨b1, o1, k1, r, hpe, hr1, hm1, hc1⟩ := hR.1.at h5'
      have hmem := List.mem_of_getElem? hr1
      refine cxs ?_
      refine ⟨_, rfl, ?_⟩
      refine ⟨_, op_ldo rfl rfl rfl rfl, ?_⟩
      refine ⟨_, op_idx (j := (i : Int)) (n := g.l.length) (q := ⟨b1, o1, none⟩) rfl (congrArg (fun u => vS u g.l.length) hpe) rfl rfl rfl (Int.natCast_nonneg _) h5, ?_⟩
      refine ⟨_, op_lda rfl rfl rfl rfl rfl hm1 hc1 rfl, ?_⟩
      refine ⟨_, rfl, (ac_spec_StateOk r st (hR.2 r hmem) (hb.2 r hmem)).mono ?_⟩
      rintro _ st ⟨c, rfl, h6, rfl⟩
      rcases c with _|_
      ·replace h6 := fun k => Bool.false_ne_true (h6.2 k)
       refine ⟨_, rfl, ?_⟩
       refine AW.cutM (gg) st [(1, vL 1 0 (0)), (3, vI (i : Int)), (35, vB true), (44, vB true)] [(1, 0, [vI g.cap, vI g.frm, vS g.p g.l.length])] ⟨rfl, rfl, rfl, rfl, trivial⟩ ⟨rfl, trivial⟩ rfl fun ρ0 ff => ?_
       refine cxs ?_
       exact ⟨.inl rfl, _, rfl, false, rfl, ⟨fun h => absurd h Bool.false_ne_true, fun h => absurd (states_of h.2.2.2.2 hr1) h6⟩, rfl⟩
      ·replace h6 := h6.1 rfl
       refine ⟨_, rfl, ?_⟩
       refine AW.cutM (gg) st [(1, vL 1 0 (0)), (3, vI (i : Int)), (35, vB true), (44, vB false)] [(1, 0, [vI g.cap, vI g.frm, vS g.p g.l.length])] ⟨rfl, rfl, rfl, rfl, trivial⟩ ⟨rfl, trivial⟩ rfl fun ρ0 ff => ?_
       refine cxs ?_
       have e37 : IntKind.wrap .i64 ((i : Int) + 1) = ((i + 1 : Nat) : Int) := (wrap_i64 (by omega) (by omega)).trans (by omega)
       refine ⟨_, rfl, ?_⟩
       refine ⟨i + 1, g.l.length - (i + 1), by omega, ⟨rfl, congrArg (Value.int .i64) e37, trivial⟩, ⟨rfl, trivial⟩, rfl, h5', fun j s hj hs => ?_, rfl⟩
       rcases Nat.lt_or_ge j i with h | h
       ·exact hok j s h hs
       ·obtain rfl : j = i := by omega
        rw [hr1] at hs
        injection hs with hs
        rw [← hs]; exact h6
    ·replace h4 : IntKind.wrap .i64 (g.frm + (g.l.length : Int)) > 100000 := of_decide_eq_true h4
     refine ⟨_, rfl, ?_⟩
     refine AW.cutM (1) st [(1, vL 1 0 (0)), (2, vB false), (30, vB true)] [(1, 0, [vI g.cap, vI g.frm, vS g.p g.l.length])] ⟨rfl, rfl, rfl, trivial⟩ ⟨rfl, trivial⟩ rfl fun ρ0 ff => ?_
     have e28 : IntKind.wrap .i64 (g.frm + (g.l.length : Int)) = g.frm + (g.l.length : Int) := wrap_i64 (by omega) (by omega)
     rw [e28] at h4
     refine cxs ?_
     exact ⟨.inl rfl, _, rfl, false, rfl, ⟨fun h => absurd h Bool.false_ne_true, fun h => absurd h.2.2.2.1 (by rw [hgl]; show ¬ g.frm + (g.l.length : Int) ≤ 100000; omega)⟩, rfl⟩
  ·replace h2 : (g.l.length : Int) > g.cap := of_decide_eq_true h2
   iterate 3 refine ⟨_, rfl, ?_⟩
   refine AW.cutM (1) st [(1, vL 1 0 (0)), (2, vB false), (30, vB true)] [(1, 0, [vI g.cap, vI g.frm, vS g.p g.l.length])] ⟨rfl, rfl, rfl, trivial⟩ ⟨rfl, trivial⟩ rfl fun ρ0 ff => ?_
   refine cxs ?_
   exact ⟨.inl rfl, _, rfl, false, rfl, ⟨fun h => absurd h Bool.false_ne_true, fun h => absurd h.2.1 (by rw [hgl]; show ¬ (g.l.length : Int) ≤ g.cap; omega)⟩, rfl⟩
theorem ac_impl_LogOk (g : LV) (st : St) (hR : RdL st g.p g.l) (hb : bigL g.l) : C 98 [.agg #[vI g.cap, vI g.frm, vS g.p g.l.length]] st (fun v s => ∃ x, v = .bool x ∧ (x = true ↔ logOk g.x) ∧ s = st) := by
 have hs : g.l.length ≤ 1048576 := hb.1
 have hgl : g.x.list.length = g.l.length := List.length_map _
 refine AC.enterX (i := ⟨[1, 4], [1, 4, 5, 16, 20, 23, 28, 33, 35], [0, 1, 2, 4, 6, 7, 8, 9, 14]⟩) [] Try.func98 rfl rfl (by kernel_rfl) (by kernel_rfl) Try.ntmps98 (Nat.le_of_ble_eq_true rfl) rfl ?_
 refine ⟨_, rfl, ?_⟩
 refine AW.cutM (1) st [(1, vL 1 0 (0)), (2, vB false)] [(1, 0, [vI g.cap, vI g.frm, vS g.p g.l.length])] ⟨rfl, rfl, trivial⟩ ⟨rfl, trivial⟩ rfl fun ρ0 ff => ?_
 iterate 3 refine ⟨_, rfl, ?_⟩
 refine AW.cutM (1) st [(1, vL 1 0 (0)), (2, vB false), (6, vS g.p g.l.length), (7, vI (g.l.length)), (8, vI (0))] [(1, 0, [vI g.cap, vI g.frm, vS g.p g.l.length])] ⟨rfl, rfl, rfl, rfl, rfl, trivial⟩ ⟨rfl, trivial⟩ rfl fun ρ0 ff => ?_
 refine AW.loopM (fun i : Nat => [(1, vL 1 0 (0)), (6, vS g.p g.l.length), (7, vI (g.l.length : Int)), (8, vI (i : Int))]) (fun i : Nat => [(1, 0, [vI g.cap, vI g.frm, vS g.p g.l.length])]) (fun m (i : Nat) st' => m = g.l.length - i ∧ i ≤ g.l.length ∧ (∀ (j : Nat) s, j < i → g.l[j]? = some s → stateOk s.x) ∧ st = st') 0 _ ⟨rfl, rfl, rfl, rfl, trivial⟩ ⟨rfl, trivial⟩ ⟨rfl, Nat.zero_le _, fun j s h => absurd h (Nat.not_lt_zero _), rfl⟩ ?_
 rintro m i ρ0 ff gg st' ⟨rfl, hi, hok, rfl⟩
 refine ⟨_, rfl, ?_⟩
 rintro (_|_) h5
 ·replace h5 : ¬ ((i : Int) < (g.l.length : Int)) := of_decide_eq_false h5
  refine AW.cutM (gg) st [(1, vL 1 0 (0)), (6, vS g.p g.l.length), (7, vI (g.l.length : Int)), (8, vI (i : Int)), (9, vB false)] [(1, 0, [vI g.cap, vI g.frm, vS g.p g.l.length])] ⟨rfl, rfl, rfl, rfl, rfl, trivial⟩ ⟨rfl, trivial⟩ rfl fun ρ0 ff => ?_
  refine cxs ?_
  refine ⟨_, rfl, ?_⟩
  refine ⟨_, op_ldo rfl rfl rfl rfl, ?_⟩
  refine ⟨_, rfl, (ac_impl_within g.cap 1 8 st).mono ?_⟩
  rintro _ st ⟨a, rfl, h1, rfl⟩
  rcases a with _|_
  ·replace h1 := of_decide_eq_false h1.symm
   iterate 3 refine ⟨_, rfl, ?_⟩
   refine cxs ?_
   exact ⟨.inl rfl, _, rfl, false, rfl, ⟨fun h => absurd h Bool.false_ne_true, fun h => absurd h.1 h1⟩, rfl⟩
  ·replace h1 := of_decide_eq_true h1.symm
   refine ⟨_, rfl, ?_⟩
   refine ⟨_, op_ldo rfl rfl rfl rfl, ?_⟩
   iterate 2 refine ⟨_, rfl, ?_⟩
   refine ⟨_, op_ldo rfl rfl rfl rfl, ?_⟩
   refine ⟨_, rfl, ?_⟩
   rintro (_|_) h2
   ·replace h2 : ¬ ((g.l.length : Int) ≤ g.cap) := of_decide_eq_false h2
    iterate 3 refine ⟨_, rfl, ?_⟩
    refine cxs ?_
    exact ⟨.inl rfl, _, rfl, false, rfl, ⟨fun h => absurd h Bool.false_ne_true, fun h => absurd h.2.1 (by rw [hgl]; exact h2)⟩, rfl⟩
   ·replace h2 : (g.l.length : Int) ≤ g.cap := of_decide_eq_true h2
    iterate 2 refine ⟨_, rfl, ?_⟩
    refine ⟨_, op_ldo rfl rfl rfl rfl, ?_⟩
    refine ⟨_, rfl, (ac_impl_within g.frm 0 100000 st).mono ?_⟩
    rintro _ st ⟨b, rfl, h3, rfl⟩
    rcases b with _|_
    ·replace h3 := of_decide_eq_false h3.symm
     iterate 2 refine ⟨_, rfl, ?_⟩
     refine cxs ?_
     exact ⟨.inl rfl, _, rfl, false, rfl, ⟨fun h => absurd h Bool.false_ne_true, fun h => absurd h.2.2.1 h3⟩, rfl⟩
    ·replace h3 := of_decide_eq_true h3.symm
     iterate 2 refine ⟨_, rfl, ?_⟩
     refine ⟨_, op_ldo rfl rfl rfl rfl, ?_⟩
     refine ⟨_, rfl, ?_⟩
     refine ⟨_, op_ldo rfl rfl rfl rfl, ?_⟩
     refine ⟨_, rfl, ?_⟩
     have e38 : IntKind.wrap .i64 (g.frm + (g.l.length : Int)) = g.frm + (g.l.length : Int) := wrap_i64 (by omega) (by omega)
     iterate 2 refine ⟨_, rfl, ?_⟩
     rintro (_|_) h4
     ·replace h4 : ¬ (IntKind.wrap .i64 (g.frm + (g.l.length : Int)) ≤ 100000) := of_decide_eq_false h4
      refine ⟨_, rfl, ?_⟩
      refine cxs ?_
      exact ⟨.inl rfl, _, rfl, false, rfl, ⟨fun h => absurd h Bool.false_ne_true, fun h => absurd h.2.2.2.1 (by rw [hgl, ← e38]; exact h4)⟩, rfl⟩
     ·replace h4 : IntKind.wrap .i64 (g.frm + (g.l.length : Int)) ≤ 100000 := of_decide_eq_true h4
      refine ⟨_, rfl, ?_⟩
      refine cxs ?_
      exact ⟨.inl rfl, _, rfl, true, rfl, ⟨fun _ => ⟨h1, by rw [hgl]; exact h2, h3, by rw [hgl, ← e38]; exact h4, states_to fun j s hs => hok j s (by have := (List.getElem?_eq_some_iff.1 hs).1; omega) hs⟩, fun _ => rfl⟩, rfl⟩
 ·replace h5 : (i : Int) < (g.l.length : Int) := of_decide_eq_true h5
  refine AW.cutM (gg) st [(1, vL 1 0 (0)), (6, vS g.p g.l.length), (7, vI (g.l.length : Int)), (8, vI (i : Int)), (9, vB true)] [(1, 0, [vI g.cap, vI g.frm, vS g.p g.l.length])] ⟨rfl, rfl, rfl, rfl, rfl, trivial⟩ ⟨rfl, trivial⟩ rfl fun ρ0 ff => ?_
  have h5' := Int.ofNat_lt.1 h5
  have ⟨b1, o1, k1, r, hpe, hr1, hm1, hc1⟩ := hR.1.at h5'
  have hmem := List.mem_of_getElem? hr1
  refine cxs ?_
  refine ⟨_, op_idx (j := (i : Int)) (n := g.l.length) (q := ⟨b1, o1, none⟩) rfl (congrArg (fun u => vS u g.l.length) hpe) rfl rfl rfl (Int.natCast_nonneg _) h5, ?_⟩
  refine ⟨_, op_lda rfl rfl rfl rfl rfl hm1 hc1 rfl, ?_⟩
  refine ⟨_, rfl, ?_⟩
  refine ⟨_, op_sto rfl rfl rfl rfl rfl rfl rfl, ?_⟩
  refine AW.cutM (gg + 1) st [(1, vL 1 0 (0)), (4, vL 4 0 (gg)), (6, vS g.p g.l.length), (7, vI (g.l.length : Int)), (8, vI (i : Int)), (9, vB true)] [(1, 0, [vI g.cap, vI g.frm, vS g.p g.l.length]), (4, gg, [vS r.p r.x.items.length, vS r.q r.x.floors.length])] ⟨rfl, rfl, rfl, rfl, rfl, rfl, trivial⟩ ⟨rfl, rfl, trivial⟩ rfl fun ρ0 ff => ?_
  refine ⟨_, op_ldo rfl rfl rfl rfl, ?_⟩
  refine ⟨_, rfl, (ac_impl_StateOk r st (hR.2 r hmem) (hb.2 r hmem)).mono ?_⟩
  rintro _ st ⟨c, rfl, h6, rfl⟩
  rcases c with _|_
  ·replace h6 := fun k => Bool.false_ne_true (h6.2 k)
   refine ⟨_, rfl, ?_⟩
   refine AW.cutM (gg + 1) st [(1, vL 1 0 (0)), (4, vL 4 0 (gg)), (6, vS g.p g.l.length), (7, vI (g.l.length : Int)), (8, vI (i : Int)), (9, vB true), (14, vB true)] [(1, 0, [vI g.cap, vI g.frm, vS g.p g.l.length]), (4, gg, [vS r.p r.x.items.length, vS r.q r.x.floors.length])] ⟨rfl, rfl, rfl, rfl, rfl, rfl, rfl, trivial⟩ ⟨rfl, rfl, trivial⟩ rfl fun ρ0 ff => ?_
   refine cxs ?_
   exact ⟨.inl rfl, _, rfl, false, rfl, ⟨fun h => absurd h Bool.false_ne_true, fun h => absurd (states_of h.2.2.2.2 hr1) h6⟩, rfl⟩
  ·replace h6 := h6.1 rfl
   refine ⟨_, rfl, ?_⟩
   refine AW.cutM (gg + 1) st [(1, vL 1 0 (0)), (4, vL 4 0 (gg)), (6, vS g.p g.l.length), (7, vI (g.l.length : Int)), (8, vI (i : Int)), (9, vB true), (14, vB false)] [(1, 0, [vI g.cap, vI g.frm, vS g.p g.l.length]), (4, gg, [vS r.p r.x.items.length, vS r.q r.x.floors.length])] ⟨rfl, rfl, rfl, rfl, rfl, rfl, rfl, trivial⟩ ⟨rfl, rfl, trivial⟩ rfl fun ρ0 ff => ?_
   refine cxs ?_
   have e15 : IntKind.wrap .i64 ((i : Int) + 1) = ((i + 1 : Nat) : Int) := (wrap_i64 (by omega) (by omega)).trans (by omega)
   refine ⟨_, rfl, ?_⟩
   refine ⟨i + 1, g.l.length - (i + 1), by omega, ⟨rfl, rfl, rfl, congrArg (Value.int .i64) e15, trivial⟩, ⟨rfl, trivial⟩, rfl, h5', fun j s hj hs => ?_, rfl⟩
   rcases Nat.lt_or_ge j i with h | h
   ·exact hok j s h hs
   ·obtain rfl : j = i := by omega
    rw [hr1] at hs
    injection hs with hs
    rw [← hs]; exact h6
theorem wt_Entry {k : Nat} {L : LL} {us : List Value} (h : WT Try.prog Try.prog.globals.size (k + 2) 187 L us) : ∃ x : Ent, us = cEnt x ∧ x.data.size ≤ maxLen := by
 obtain ⟨h1, h2⟩ := WT.fields Try.underlying187 h
 have h1 : us.length = 5 := h1.trans (by kernel_rfl)
 match us, h1, h2 with
 | [a, b, c, d, e], _, h2 =>
  obtain ⟨n0, e0, _⟩ := WT.int Try.underlying3 (h2 0 _ rfl)
  obtain ⟨n1, e1, _⟩ := WT.int Try.underlying3 (h2 1 _ rfl)
  obtain ⟨n2, e2, _⟩ := WT.int Try.underlying3 (h2 2 _ rfl)
  obtain ⟨n3, e3, _⟩ := WT.int Try.underlying3 (h2 3 _ rfl)
  obtain ⟨n4, e4, hs⟩ := WT.str Try.underlying9 (h2 4 _ rfl)
  simp [c_int, c_str] at e0 e1 e2 e3 e4
  exact ⟨⟨n0, n1, n2, n3, n4⟩, by rw [e0, e1, e2, e3, e4], hs⟩
theorem wt_Item {k : Nat} {L : LL} {us : List Value} (h : WT Try.prog Try.prog.globals.size (k + 3) 189 L us) : ∃ x : Itm, us = cItm x ∧ x.e.data.size ≤ maxLen := by
 obtain ⟨h1, h2⟩ := WT.fields Try.underlying189 h
 have h1 : us.length = 6 := h1.trans (by kernel_rfl)
 have hc : Try.prog.cellsOf 187 = 5 := by kernel_rfl
 match us, h1, h2 with
 | [a, b, c, d, e, f], _, h2 =>
  obtain ⟨n0, e0, _⟩ := WT.int Try.underlying3 (h2 0 _ rfl)
  obtain ⟨x, e1, hs⟩ := wt_Entry (h2 1 _ rfl)
  simp [c_int] at e0
  simp [hc] at e1
  exact ⟨⟨n0, x⟩, by rw [e0]; simp [e1], hs⟩
theorem wt_Floor {k : Nat} {L : LL} {us : List Value} (h : WT Try.prog Try.prog.globals.size (k + 2) 192 L us) : ∃ x : Flr, us = cFlr x ∧ True := by
 obtain ⟨h1, h2⟩ := WT.fields Try.underlying192 h
 have h1 : us.length = 2 := h1.trans (by kernel_rfl)
 match us, h1, h2 with
 | [a, b], _, h2 =>
  obtain ⟨n0, e0, _⟩ := WT.int Try.underlying3 (h2 0 _ rfl)
  obtain ⟨n1, e1, _⟩ := WT.int Try.underlying3 (h2 1 _ rfl)
  simp [c_int] at e0 e1
  exact ⟨⟨n0, n1⟩, by rw [e0, e1], trivial⟩
theorem wt_State' {k : Nat} {L : LL} {us : List Value} (h : WT Try.prog Try.prog.globals.size (k + 5) 41 L us) : ∃ x : SV, us = cSV x ∧ RdS (stL Try.prog.globals.size L) x ∧ maxS x.x := by
 obtain ⟨h1, h2⟩ := WT.fields Try.underlying41 h
 have h1 : us.length = 2 := h1.trans (by kernel_rfl)
 have hc1 : Try.prog.cellsOf 38 = 1 := by kernel_rfl
 have hc2 : Try.prog.cellsOf 39 = 1 := by kernel_rfl
 match us, h1, h2 with
 | [a, b], _, h2 =>
  obtain ⟨p, l, e0, hR, hm, hq⟩ := WT.rows (f := cItm) (Q := fun x => x.e.data.size ≤ maxLen) (z := 6) Try.underlying38 (by kernel_rfl) (fun us h => wt_Item h) (h2 0 _ rfl)
  obtain ⟨q, m, e1, hR2, hm2, _⟩ := WT.rows (f := cFlr) (Q := fun _ => True) (z := 2) Try.underlying39 (by kernel_rfl) (fun us h => wt_Floor h) (h2 1 _ rfl)
  simp [hc1] at e0
  simp [hc2] at e1
  exact ⟨⟨p, q, ⟨l, m⟩⟩, by rw [e0, e1], ⟨hR, hR2⟩, hm, hm2, hq⟩
theorem wt_Log' {k : Nat} {L : LL} {us : List Value} (h : WT Try.prog Try.prog.globals.size (k + 7) 59 L us) : ∃ x : LV, us = cLV x ∧ RdL (stL Try.prog.globals.size L) x.p x.l ∧ maxL x.l := by
 obtain ⟨h1, h2⟩ := WT.fields Try.underlying59 h
 have h1 : us.length = 3 := h1.trans (by kernel_rfl)
 have hc1 : Try.prog.cellsOf 57 = 1 := by kernel_rfl
 match us, h1, h2 with
 | [a, b, c], _, h2 =>
  obtain ⟨n0, e0, _⟩ := WT.int Try.underlying3 (h2 0 _ rfl)
  obtain ⟨n1, e1, _⟩ := WT.int Try.underlying3 (h2 1 _ rfl)
  obtain ⟨p, l, e2, hR, hm, hq⟩ := WT.rows (f := cSV) (Q := fun x => RdS (stL Try.prog.globals.size L) x ∧ maxS x.x) (z := 2) Try.underlying57 (by kernel_rfl) (fun us h => wt_State' h) (h2 2 _ rfl)
  simp [c_int] at e0 e1
  simp [hc1] at e2
  exact ⟨⟨n0, n1, p, l⟩, by rw [e0, e1, e2], ⟨hR, fun s hs => (hq s hs).1⟩, hm, fun s hs => (hq s hs).2⟩
theorem PrL.ownR {α : Type} {st st' : St} {ps : List (Option Addr)} {z : Nat} {f : α → List Value} {q : Option Addr} {l : List α} (h0 : 0 < z) (hz : ∀ x, (f x).length = z) (h : PrL ps st st') (hO : OwnR st z f q l) (hd : ∀ p ∈ ps, Dis p q) : OwnR st' z f q l :=
 pc_own h0 hz ((OwnP.prl (OwnP.one (own_pc hO)) h fun c hc p hp => by rw [List.mem_singleton.1 hc]; exact hd p hp).1 _ (List.mem_singleton_self _))
section
variable {P : Program} {ls : List Tmp} {call : ACallT} {o : Oper} {e : Operand → Value} {lo : Lo} {st : St}
end
theorem PrL.rows {α : Type} {st st' : St} {ps : List (Option Addr)} {z : Nat} {f : α → List Value} {p : Option Addr} {l : List α} (h : PrL ps st st') (hR : Rows st z f p l) (hd : ∀ q ∈ ps, Dis p q) : Rows st' z f p l := by
 rcases hR with rfl | ⟨b, off, blk, rfl, hm, hb, hc⟩
 ·exact .inl rfl
 ·refine .inr ⟨b, off, blk, rfl, ?_, Nat.lt_of_lt_of_le hb h.1, hc⟩
  rw [h.2 b hb fun q hq r hr => hd q hq _ r rfl hr]
  exact hm
abbrev cntS (s : Sta) : Nat := 6 * s.items.length + 2 * s.floors.length
abbrev cntL (l : List SV) : Nat := sumOf (fun s => cntS s.x) l
theorem cntL_le (l : List SV) : cntL l ≤ 6 * szL l := by
 have h : ∀ l : List SV, sumOf (fun s => cntS s.x) l ≤ 6 * sumOf (fun s => szSta s.x) l := by
  intro l
  induction l with
  | nil => simp [sumOf]
  | cons s l ih =>
   simp only [sumOf, List.map_cons, List.sum_cons] at ih ⊢
   have : cntS s.x ≤ 6 * szSta s.x := by unfold cntS szSta szI; omega
   omega
 have := h l
 unfold cntL szL
 omega
def xr (a b : Int) : Int := bits .xor .i64 a b
theorem wrap_nat (n : Nat) (h : n < 9223372036854775808) : IntKind.wrap .i64 (n : Int) = (n : Int) := wrap_i64 (by omega) (by omega)
theorem xr_nat {a b : Nat} (ha : a < 4294967296) (hb : b < 4294967296) : xr a b = ((a ^^^ b : Nat) : Int) ∧ a ^^^ b < 4294967296 := by
 have h : a ^^^ b < 4294967296 := Nat.xor_lt_two_pow (n := 32) ha hb
 refine ⟨?_, h⟩
 have h1 : (BitVec.ofInt 64 (a : Int) ^^^ BitVec.ofInt 64 (b : Int)).toNat = a ^^^ b := by
  rw [BitVec.toNat_xor, BitVec.ofInt_natCast, BitVec.ofInt_natCast, BitVec.toNat_ofNat, BitVec.toNat_ofNat, Nat.mod_eq_of_lt (by omega), Nat.mod_eq_of_lt (by omega)]
 show IntKind.wrap .i64 (((BitVec.ofInt 64 (a : Int) ^^^ BitVec.ofInt 64 (b : Int)).toNat : Nat) : Int) = _
 rw [h1]
 exact wrap_nat _ (by omega)
def rng32 (x : Int) : Prop := 0 ≤ x ∧ x < 4294967296
theorem xr_rng {a b : Int} (ha : rng32 a) (hb : rng32 b) : rng32 (xr a b) := by
 obtain ⟨m, rfl⟩ := Int.eq_ofNat_of_zero_le ha.1
 obtain ⟨n, rfl⟩ := Int.eq_ofNat_of_zero_le hb.1
 have h := xr_nat (a := m) (b := n) (by have := ha.2; omega) (by have := hb.2; omega)
 rw [h.1]
 exact ⟨by omega, by omega⟩
def crc1 (x : Int) : Int := if x % 2 = 1 then xr (x / 2) 3988292384 else x / 2
def crcN : Nat → Int → Int
 | 0, x => x
 | n + 1, x => crc1 (crcN n x)
def crcS (x u : Int) : Int := crcN 8 (xr x u)
def crcP (l : List Int) (i : Nat) : Int := (l.take i).foldl crcS 4294967295
def crc (l : List Int) : Int := xr (crcP l l.length) 4294967295
def bytesOk (l : List Int) : Prop := ∀ x ∈ l, 0 ≤ x ∧ x < 256
theorem crc1_rng {x : Int} (h : rng32 x) : rng32 (crc1 x) := by
 have hd : rng32 (x / 2) := ⟨by have := h.1; omega, by have := h.1; have := h.2; omega⟩
 unfold crc1
 split
 ·exact xr_rng hd ⟨by decide, by decide⟩
 ·exact hd
theorem crcN_rng {x : Int} (h : rng32 x) : ∀ n, rng32 (crcN n x)
 | 0 => h
 | n + 1 => crc1_rng (crcN_rng h n)
theorem crcP_succ {l : List Int} {i : Nat} {u : Int} (h : l[i]? = some u) : crcP l (i + 1) = crcS (crcP l i) u := by
 unfold crcP
 rw [List.take_add_one, h, List.foldl_append]
 rfl
theorem bytesOk.at {l : List Int} (hl : bytesOk l) {i : Nat} {u : Int} (h : l[i]? = some u) : rng32 u := by
 have := hl u (List.mem_of_getElem? h)
 exact ⟨this.1, by omega⟩
theorem crcP_rng {l : List Int} (hl : bytesOk l) : ∀ i, rng32 (crcP l i)
 | 0 => ⟨by show (0 : Int) ≤ 4294967295; decide, by show (4294967295 : Int) < 4294967296; decide⟩
 | i + 1 => by
  cases h : l[i]? with
  | none =>
   have : crcP l (i + 1) = crcP l i := by
    unfold crcP
    rw [List.take_add_one, h]
    simp
   rw [this]; exact crcP_rng hl i
  | some u =>
   rw [crcP_succ h]
   exact crcN_rng (xr_rng (crcP_rng hl i) (hl.at h)) 8
theorem crc_rng {l : List Int} (hl : bytesOk l) : rng32 (crc l) := xr_rng (crcP_rng hl _) ⟨by decide, by decide⟩
section
variable {P : Program} {ls : List Tmp} {call : ACallT} {o : Oper} {e : Operand → Value} {lo : Lo} {st : St}
theorem op_xr {t ty : TypeId} {x y : Operand} {a b : Int} (ho : o.op = .binOp .xor t x y ty) (hx : e x = vI a) (hy : e y = vI b) : aoper P ls call o e lo st = some (vI (xr a b), lo, st) := by
 obtain ⟨d, op, tt, pos, after, gd⟩ := o
 simp only at ho
 subst ho
 simp [aoper, rop, hx, hy, abin, aint, xr]
theorem op_rm {t ty : TypeId} {x y : Operand} {a b r : Int} (ho : o.op = .binOp .rem t x y ty) (hx : e x = vI a) (hy : e y = vI b) (hb : b ≠ 0) (hr : a.tmod b = r) : aoper P ls call o e lo st = some (vI r, lo, st) := by
 subst hr
 exact op_rem ho hx hy hb
theorem op_qo {t ty : TypeId} {x y : Operand} {a b r : Int} (ho : o.op = .binOp .quo t x y ty) (hx : e x = vI a) (hy : e y = vI b) (hb : b ≠ 0) (hr : a.tdiv b = r) (h1 : -9223372036854775808 ≤ r) (h2 : r < 9223372036854775808) : aoper P ls call o e lo st = some (vI r, lo, st) := by
 subst hr
 rw [op_quo ho hx hy hb, wrap_i64 h1 h2]
theorem op_ofB {src dst : TypeId} {x : Operand} {b : Int} (ho : o.op = .convert src dst x) (hx : e x = .int .u8 b) (hd : telem P dst = none) (h1 : tint P src = some .u8) (h2 : tint P dst = some .i64) (hb : rng32 b) : aoper P ls call o e lo st = some (vI b, lo, st) := by
 obtain ⟨d, op, tt, pos, after, gd⟩ := o
 simp only at ho
 subst ho
 simp only [aoper, hd, rop, hx, aconv, h1, h2, Option.bind_some, Option.map_some]
 rw [wrap_i64 (by have := hb.1; omega) (by have := hb.2; omega)]
theorem op_toB {src dst : TypeId} {x : Operand} {b r : Int} (ho : o.op = .convert src dst x) (hx : e x = vI b) (hd : telem P dst = none) (h1 : tint P src = some .i64) (h2 : tint P dst = some .u8) (hb : b = r) (h3 : 0 ≤ r) (h4 : r < 256) : aoper P ls call o e lo st = some (.int .u8 r, lo, st) := by
 obtain ⟨d, op, tt, pos, after, gd⟩ := o
 simp only at ho
 subst ho hb
 simp only [aoper, hd, rop, hx, aconv, h1, h2, Option.bind_some, Option.map_some]
 rw [wrap_u8 h3 h4]
end
theorem tm_emod {a : Int} (b : Int) (h : 0 ≤ a) : a.tmod b = a % b := Int.tmod_eq_emod_of_nonneg h
theorem td_ediv {a : Int} (b : Int) (h : 0 ≤ a) : a.tdiv b = a / b := Int.tdiv_eq_ediv_of_nonneg h
theorem ac_spec_Crc (p : Option Addr) (l : List Int) (st : St) (hR : Rows st 1 fB p l) (hl : bytesOk l) (hs : l.length ≤ 1099511627776) : C 139 [vS p l.length] st (fun v s => v = vI (crc l) ∧ s = st) := by
 refine AC.enterX (i := ⟨[], [], [0, 2, 3, 4, 5, 6, 10, 21, 29]⟩) [] Try.func139 rfl rfl (by kernel_rfl) (by kernel_rfl) Try.ntmps139 (Nat.le_of_ble_eq_true rfl) rfl ?_
 refine cxs ?_
 refine cxs ?_
 refine AW.cut lo0 st [(0, vS p l.length), (2, vI (0)), (3, vI (4294967295)), (4, vI (0))] ⟨rfl, rfl, rfl, rfl, trivial⟩ fun ρ0 => ?_
 refine AW.loop0 (fun x : Nat × Int => [(0, vS p l.length), (2, vI (0)), (3, vI x.2), (4, vI (x.1 : Int))]) (fun m (x : Nat × Int) st' => m = l.length - x.1 ∧ x.1 ≤ l.length ∧ x.2 = crcP l x.1 ∧ st = st') (0, 4294967295) _ ⟨rfl, rfl, rfl, rfl, trivial⟩ rfl ⟨rfl, Nat.zero_le _, rfl, rfl⟩ ?_
 rintro m ⟨i, c⟩ ρ0 st' ⟨rfl, hi, hc, rfl⟩
 simp only at hi hc
 have hP : rng32 c := hc ▸ crcP_rng hl i
 iterate 2 refine ⟨_, rfl, ?_⟩
 rintro (_|_) h10
 ·replace h10 : ¬ ((i : Int) < (l.length : Int)) := of_decide_eq_false h10
  refine AW.cut lo0 st [(0, vS p l.length), (2, vI (0)), (3, vI c), (4, vI (i : Int)), (10, vB false)] ⟨rfl, rfl, rfl, rfl, rfl, trivial⟩ fun ρ0 => ?_
  refine cxs ?_
  refine ⟨_, op_xr rfl rfl rfl, ?_⟩
  refine cxs ?_
  exact ⟨.inl rfl, _, rfl, congrArg vI (by rw [hc, crc, show l.length = i by omega]), rfl⟩
 ·replace h10 : (i : Int) < (l.length : Int) := of_decide_eq_true h10
  refine AW.cut lo0 st [(0, vS p l.length), (2, vI (0)), (3, vI c), (4, vI (i : Int)), (10, vB true)] ⟨rfl, rfl, rfl, rfl, rfl, trivial⟩ fun ρ0 => ?_
  refine cxs ?_
  refine op_at i hR (by omega) rfl rfl rfl rfl rfl rfl rfl ?_
  intro x16 b16 d16 k16 hy16 hb16 hm16 hc16 ho16
  refine ⟨_, op_ldc (i := 0) rfl rfl rfl rfl hm16 hc16 rfl rfl, ?_⟩
  refine ⟨_, op_ofB rfl rfl rfl rfl rfl (hl.at hy16), ?_⟩
  refine ⟨_, op_xr rfl rfl rfl, ?_⟩
  refine cxs ?_
  refine AW.cut lo0 st [(0, vS p l.length), (2, vI (0)), (3, vI (xr c x16)), (4, vI (i : Int)), (5, vI (0)), (10, vB true)] ⟨rfl, rfl, rfl, rfl, rfl, rfl, trivial⟩ fun ρ0 => ?_
  refine AW.loop0 (fun y : Nat × Int => [(0, vS p l.length), (2, vI (0)), (3, vI y.2), (4, vI (i : Int)), (5, vI (y.1 : Int)), (10, vB true)]) (fun m (y : Nat × Int) st' => m = 8 - y.1 ∧ y.1 ≤ 8 ∧ y.2 = crcN y.1 (xr c x16) ∧ st = st') (0, xr c x16) _ ⟨rfl, rfl, rfl, rfl, rfl, rfl, trivial⟩ rfl ⟨rfl, Nat.zero_le _, rfl, rfl⟩ ?_
  rintro m ⟨k, d⟩ ρ0 st' ⟨rfl, hk, hd, rfl⟩
  simp only at hk hd
  have hX : rng32 d := hd ▸ crcN_rng (xr_rng hP (hl.at hy16)) k
  have hX0 := hX.1
  have hX1 := hX.2
  refine ⟨_, rfl, ?_⟩
  rintro (_|_) h21
  ·replace h21 : ¬ ((k : Int) < (8)) := of_decide_eq_false h21
   refine AW.cut lo0 st [(0, vS p l.length), (2, vI (0)), (3, vI d), (4, vI (i : Int)), (5, vI (k : Int)), (10, vB true), (21, vB false)] ⟨rfl, rfl, rfl, rfl, rfl, rfl, rfl, trivial⟩ fun ρ0 => ?_
   refine cxs ?_
   have ew12 : IntKind.wrap .i64 ((i : Int) + (1)) = ((i + 1 : Nat) : Int) := (wrap_i64 (by omega) (by omega)).trans (by omega)
   refine ⟨_, rfl, ?_⟩
   refine ⟨(i + 1, d), l.length - (i + 1), by omega, ⟨rfl, rfl, rfl, congrArg (Value.int .i64) ew12, trivial⟩, rfl, rfl, by omega, ?_, rfl⟩
   rw [crcP_succ hy16, ← hc, hd, show k = 8 by omega]
   rfl
  ·replace h21 : (k : Int) < (8) := of_decide_eq_true h21
   refine AW.cut lo0 st [(0, vS p l.length), (2, vI (0)), (3, vI d), (4, vI (i : Int)), (5, vI (k : Int)), (10, vB true), (21, vB true)] ⟨rfl, rfl, rfl, rfl, rfl, rfl, rfl, trivial⟩ fun ρ0 => ?_
   refine cxs ?_
   refine ⟨_, op_rm (r := d % 2) rfl rfl rfl (by decide) (tm_emod 2 hX0), ?_⟩
   refine ⟨_, rfl, ?_⟩
   rintro (_|_) h26
   ·replace h26 : ¬ ((d % 2) = (1)) := beq_eq_false_iff_ne.1 h26
    refine AW.cut lo0 st [(0, vS p l.length), (2, vI (0)), (3, vI d), (4, vI (i : Int)), (5, vI (k : Int)), (6, vB false), (10, vB true), (21, vB true)] ⟨rfl, rfl, rfl, rfl, rfl, rfl, rfl, rfl, trivial⟩ fun ρ0 => ?_
    refine ⟨_, op_qo (r := d / 2) rfl rfl rfl (by decide) (td_ediv 2 hX0) (by omega) (by omega), ?_⟩
    refine cxs ?_
    refine AW.cut lo0 st [(0, vS p l.length), (2, vI (0)), (3, vI (d / 2)), (4, vI (i : Int)), (5, vI (k : Int)), (6, vB false), (10, vB true), (21, vB true), (29, vB false)] ⟨rfl, rfl, rfl, rfl, rfl, rfl, rfl, rfl, rfl, trivial⟩ fun ρ0 => ?_
    refine cxs ?_
    have ew23 : IntKind.wrap .i64 ((k : Int) + (1)) = ((k + 1 : Nat) : Int) := (wrap_i64 (by omega) (by omega)).trans (by omega)
    refine ⟨_, rfl, ?_⟩
    refine ⟨(k + 1, d / 2), 8 - (k + 1), by omega, ⟨rfl, rfl, rfl, rfl, congrArg (Value.int .i64) ew23, rfl, trivial⟩, rfl, rfl, by omega, ?_, rfl⟩
    show d / 2 = crc1 _
    rw [← hd, crc1, if_neg h26]
   ·replace h26 : (d % 2) = (1) := beq_iff_eq.1 h26
    refine AW.cut lo0 st [(0, vS p l.length), (2, vI (0)), (3, vI d), (4, vI (i : Int)), (5, vI (k : Int)), (6, vB true), (10, vB true), (21, vB true)] ⟨rfl, rfl, rfl, rfl, rfl, rfl, rfl, rfl, trivial⟩ fun ρ0 => ?_
    refine ⟨_, op_qo (r := d / 2) rfl rfl rfl (by decide) (td_ediv 2 hX0) (by omega) (by omega), ?_⟩
    refine cxs ?_
    refine AW.cut lo0 st [(0, vS p l.length), (2, vI (0)), (3, vI (d / 2)), (4, vI (i : Int)), (5, vI (k : Int)), (6, vB true), (10, vB true), (21, vB true), (29, vB true)] ⟨rfl, rfl, rfl, rfl, rfl, rfl, rfl, rfl, rfl, trivial⟩ fun ρ0 => ?_
    refine ⟨_, op_xr rfl rfl rfl, ?_⟩
    refine AW.cut lo0 st [(0, vS p l.length), (2, vI (0)), (3, vI (xr (d / 2) 3988292384)), (4, vI (i : Int)), (5, vI (k : Int)), (6, vB true), (10, vB true), (21, vB true), (29, vB true)] ⟨rfl, rfl, rfl, rfl, rfl, rfl, rfl, rfl, rfl, trivial⟩ fun ρ0 => ?_
    have ew23 : IntKind.wrap .i64 ((k : Int) + (1)) = ((k + 1 : Nat) : Int) := (wrap_i64 (by omega) (by omega)).trans (by omega)
    refine ⟨_, rfl, ?_⟩
    refine ⟨(k + 1, xr (d / 2) 3988292384), 8 - (k + 1), by omega, ⟨rfl, rfl, rfl, rfl, congrArg (Value.int .i64) ew23, rfl, trivial⟩, rfl, rfl, by omega, ?_, rfl⟩
    show xr (d / 2) 3988292384 = crc1 _
    rw [← hd, crc1, if_pos h26]
theorem ac_impl_Crc (p : Option Addr) (l : List Int) (st : St) (hR : Rows st 1 fB p l) (hl : bytesOk l) (hs : l.length ≤ 1099511627776) : C 145 [vS p l.length] st (fun v s => v = vI (crc l) ∧ s = st) := by
 refine AC.enterX (i := ⟨[], [], [0, 2, 3, 5, 6, 7, 8, 9, 10, 17, 18, 24]⟩) [] Try.func145 rfl rfl (by kernel_rfl) (by kernel_rfl) Try.ntmps145 (Nat.le_of_ble_eq_true rfl) rfl ?_
 refine cxs ?_
 refine AW.cut lo0 st [(0, vS p l.length), (2, vI (0)), (3, vI (4294967295))] ⟨rfl, rfl, rfl, trivial⟩ fun ρ0 => ?_
 refine ⟨_, rfl, ?_⟩
 refine AW.cut lo0 st [(2, vI (0)), (3, vI (4294967295)), (7, vS p l.length), (8, vI (l.length : Int)), (9, vI (0))] ⟨rfl, rfl, rfl, rfl, rfl, trivial⟩ fun ρ0 => ?_
 refine AW.loop0 (fun x : Nat × Int => [(2, vI (0)), (3, vI x.2), (7, vS p l.length), (8, vI (l.length : Int)), (9, vI (x.1 : Int))]) (fun m (x : Nat × Int) st' => m = l.length - x.1 ∧ x.1 ≤ l.length ∧ x.2 = crcP l x.1 ∧ st = st') (0, 4294967295) _ ⟨rfl, rfl, rfl, rfl, rfl, trivial⟩ rfl ⟨rfl, Nat.zero_le _, rfl, rfl⟩ ?_
 rintro m ⟨i, c⟩ ρ0 st' ⟨rfl, hi, hc, rfl⟩
 simp only at hi hc
 have hP : rng32 c := hc ▸ crcP_rng hl i
 refine ⟨_, rfl, ?_⟩
 rintro (_|_) h10
 ·replace h10 : ¬ ((i : Int) < (l.length : Int)) := of_decide_eq_false h10
  refine AW.cut lo0 st [(2, vI (0)), (3, vI c), (7, vS p l.length), (8, vI (l.length : Int)), (9, vI (i : Int)), (10, vB false)] ⟨rfl, rfl, rfl, rfl, rfl, rfl, trivial⟩ fun ρ0 => ?_
  refine cxs ?_
  refine ⟨_, op_xr rfl rfl rfl, ?_⟩
  refine cxs ?_
  exact ⟨.inl rfl, _, rfl, congrArg vI (by rw [hc, crc, show l.length = i by omega]), rfl⟩
 ·replace h10 : (i : Int) < (l.length : Int) := of_decide_eq_true h10
  refine AW.cut lo0 st [(2, vI (0)), (3, vI c), (7, vS p l.length), (8, vI (l.length : Int)), (9, vI (i : Int)), (10, vB true)] ⟨rfl, rfl, rfl, rfl, rfl, rfl, trivial⟩ fun ρ0 => ?_
  refine cxs ?_
  refine op_at i hR (by omega) rfl rfl rfl rfl rfl rfl rfl ?_
  intro x11 b11 d11 k11 hy11 hb11 hm11 hc11 ho11
  refine ⟨_, op_ldc (i := 0) rfl rfl rfl rfl hm11 hc11 rfl rfl, ?_⟩
  refine AW.cut lo0 st [(2, vI (0)), (3, vI c), (5, .int .u8 x11), (7, vS p l.length), (8, vI (l.length : Int)), (9, vI (i : Int)), (10, vB true)] ⟨rfl, rfl, rfl, rfl, rfl, rfl, rfl, trivial⟩ fun ρ0 => ?_
  refine ⟨_, op_ofB rfl rfl rfl rfl rfl (hl.at hy11), ?_⟩
  refine ⟨_, op_xr rfl rfl rfl, ?_⟩
  refine cxs ?_
  refine AW.cut lo0 st [(2, vI (0)), (3, vI (xr c x11)), (5, .int .u8 x11), (7, vS p l.length), (8, vI (l.length : Int)), (9, vI (i : Int)), (10, vB true), (17, vI (0))] ⟨rfl, rfl, rfl, rfl, rfl, rfl, rfl, rfl, trivial⟩ fun ρ0 => ?_
  refine AW.loop0 (fun y : Nat × Int => [(2, vI (0)), (3, vI y.2), (5, .int .u8 x11), (7, vS p l.length), (8, vI (l.length : Int)), (9, vI (i : Int)), (10, vB true), (17, vI (y.1 : Int))]) (fun m (y : Nat × Int) st' => m = 8 - y.1 ∧ y.1 ≤ 8 ∧ y.2 = crcN y.1 (xr c x11) ∧ st = st') (0, xr c x11) _ ⟨rfl, rfl, rfl, rfl, rfl, rfl, rfl, rfl, trivial⟩ rfl ⟨rfl, Nat.zero_le _, rfl, rfl⟩ ?_
  rintro m ⟨k, d⟩ ρ0 st' ⟨rfl, hk, hd, rfl⟩
  simp only at hk hd
  have hX : rng32 d := hd ▸ crcN_rng (xr_rng hP (hl.at hy11)) k
  have hX0 := hX.1
  have hX1 := hX.2
  refine ⟨_, rfl, ?_⟩
  rintro (_|_) h18
  ·replace h18 : ¬ ((k : Int) < (8)) := of_decide_eq_false h18
   refine AW.cut lo0 st [(2, vI (0)), (3, vI d), (5, .int .u8 x11), (7, vS p l.length), (8, vI (l.length : Int)), (9, vI (i : Int)), (10, vB true), (17, vI (k : Int)), (18, vB false)] ⟨rfl, rfl, rfl, rfl, rfl, rfl, rfl, rfl, rfl, trivial⟩ fun ρ0 => ?_
   refine cxs ?_
   have ew28 : IntKind.wrap .i64 ((i : Int) + (1)) = ((i + 1 : Nat) : Int) := (wrap_i64 (by omega) (by omega)).trans (by omega)
   refine ⟨_, rfl, ?_⟩
   refine ⟨(i + 1, d), l.length - (i + 1), by omega, ⟨rfl, rfl, rfl, rfl, congrArg (Value.int .i64) ew28, trivial⟩, rfl, rfl, by omega, ?_, rfl⟩
   rw [crcP_succ hy11, ← hc, hd, show k = 8 by omega]
   rfl
  ·replace h18 : (k : Int) < (8) := of_decide_eq_true h18
   refine AW.cut lo0 st [(2, vI (0)), (3, vI d), (5, .int .u8 x11), (7, vS p l.length), (8, vI (l.length : Int)), (9, vI (i : Int)), (10, vB true), (17, vI (k : Int)), (18, vB true)] ⟨rfl, rfl, rfl, rfl, rfl, rfl, rfl, rfl, rfl, trivial⟩ fun ρ0 => ?_
   refine cxs ?_
   refine ⟨_, op_rm (r := d % 2) rfl rfl rfl (by decide) (tm_emod 2 hX0), ?_⟩
   refine ⟨_, rfl, ?_⟩
   rintro (_|_) h21
   ·replace h21 : ¬ ((d % 2) = (1)) := beq_eq_false_iff_ne.1 h21
    refine AW.cut lo0 st [(2, vI (0)), (3, vI d), (5, .int .u8 x11), (6, vB false), (7, vS p l.length), (8, vI (l.length : Int)), (9, vI (i : Int)), (10, vB true), (17, vI (k : Int)), (18, vB true)] ⟨rfl, rfl, rfl, rfl, rfl, rfl, rfl, rfl, rfl, rfl, trivial⟩ fun ρ0 => ?_
    refine ⟨_, op_qo (r := d / 2) rfl rfl rfl (by decide) (td_ediv 2 hX0) (by omega) (by omega), ?_⟩
    refine cxs ?_
    refine AW.cut lo0 st [(2, vI (0)), (3, vI (d / 2)), (5, .int .u8 x11), (6, vB false), (7, vS p l.length), (8, vI (l.length : Int)), (9, vI (i : Int)), (10, vB true), (17, vI (k : Int)), (18, vB true), (24, vB false)] ⟨rfl, rfl, rfl, rfl, rfl, rfl, rfl, rfl, rfl, rfl, rfl, trivial⟩ fun ρ0 => ?_
    refine cxs ?_
    have ew27 : IntKind.wrap .i64 ((k : Int) + (1)) = ((k + 1 : Nat) : Int) := (wrap_i64 (by omega) (by omega)).trans (by omega)
    refine ⟨_, rfl, ?_⟩
    refine ⟨(k + 1, d / 2), 8 - (k + 1), by omega, ⟨rfl, rfl, rfl, rfl, rfl, rfl, rfl, congrArg (Value.int .i64) ew27, trivial⟩, rfl, rfl, by omega, ?_, rfl⟩
    show d / 2 = crc1 _
    rw [← hd, crc1, if_neg h21]
   ·replace h21 : (d % 2) = (1) := beq_iff_eq.1 h21
    refine AW.cut lo0 st [(2, vI (0)), (3, vI d), (5, .int .u8 x11), (6, vB true), (7, vS p l.length), (8, vI (l.length : Int)), (9, vI (i : Int)), (10, vB true), (17, vI (k : Int)), (18, vB true)] ⟨rfl, rfl, rfl, rfl, rfl, rfl, rfl, rfl, rfl, rfl, trivial⟩ fun ρ0 => ?_
    refine ⟨_, op_qo (r := d / 2) rfl rfl rfl (by decide) (td_ediv 2 hX0) (by omega) (by omega), ?_⟩
    refine cxs ?_
    refine AW.cut lo0 st [(2, vI (0)), (3, vI (d / 2)), (5, .int .u8 x11), (6, vB true), (7, vS p l.length), (8, vI (l.length : Int)), (9, vI (i : Int)), (10, vB true), (17, vI (k : Int)), (18, vB true), (24, vB true)] ⟨rfl, rfl, rfl, rfl, rfl, rfl, rfl, rfl, rfl, rfl, rfl, trivial⟩ fun ρ0 => ?_
    refine ⟨_, op_xr rfl rfl rfl, ?_⟩
    refine AW.cut lo0 st [(2, vI (0)), (3, vI (xr (d / 2) 3988292384)), (5, .int .u8 x11), (6, vB true), (7, vS p l.length), (8, vI (l.length : Int)), (9, vI (i : Int)), (10, vB true), (17, vI (k : Int)), (18, vB true), (24, vB true)] ⟨rfl, rfl, rfl, rfl, rfl, rfl, rfl, rfl, rfl, rfl, rfl, trivial⟩ fun ρ0 => ?_
    have ew27 : IntKind.wrap .i64 ((k : Int) + (1)) = ((k + 1 : Nat) : Int) := (wrap_i64 (by omega) (by omega)).trans (by omega)
    refine ⟨_, rfl, ?_⟩
    refine ⟨(k + 1, xr (d / 2) 3988292384), 8 - (k + 1), by omega, ⟨rfl, rfl, rfl, rfl, rfl, rfl, rfl, congrArg (Value.int .i64) ew27, trivial⟩, rfl, rfl, by omega, ?_, rfl⟩
    show xr (d / 2) 3988292384 = crc1 _
    rw [← hd, crc1, if_pos h21]
def vlq (n : Nat) : List Int := if h : n < 128 then [(n : Int)] else ((n % 128 + 128 : Nat) : Int) :: vlq (n / 128)
termination_by n
decreasing_by omega
def putN (n : Int) : List Int := if 0 ≤ n ∧ n ≤ 2147483647 then vlq n.toNat else []
theorem vlq_lt {n : Nat} (h : n < 128) : vlq n = [(n : Int)] := by rw [vlq, dif_pos h]
theorem vlq_ge {n : Nat} (h : ¬ n < 128) : vlq n = ((n % 128 + 128 : Nat) : Int) :: vlq (n / 128) := by rw [vlq, dif_neg h]
theorem vlq_len : ∀ (f n : Nat), n < 128 ^ (f + 1) → (vlq n).length ≤ f + 1
 | 0, n, h => by rw [vlq_lt (by omega)]; exact Nat.le_refl _
 | f + 1, n, h => by
  by_cases h1 : n < 128
  ·rw [vlq_lt h1]; simp
  ·rw [vlq_ge h1, List.length_cons]
   have := vlq_len f (n / 128) (by rw [Nat.pow_succ] at h; omega)
   omega
theorem vlq_pos (n : Nat) : 0 < (vlq n).length := by
 by_cases h1 : n < 128
 ·rw [vlq_lt h1]; exact Nat.one_pos
 ·rw [vlq_ge h1, List.length_cons]; omega
theorem vlq_ok : ∀ (f n : Nat), n < 128 ^ (f + 1) → bytesOk (vlq n)
 | 0, n, h => by
  rw [vlq_lt (by omega)]
  intro x hx
  rw [List.mem_singleton.1 hx]
  omega
 | f + 1, n, h => by
  by_cases h1 : n < 128
  ·rw [vlq_lt h1]
   intro x hx
   rw [List.mem_singleton.1 hx]
   omega
  ·rw [vlq_ge h1]
   intro x hx
   rcases List.mem_cons.1 hx with rfl | hx
   ·omega
   ·exact vlq_ok f (n / 128) (by rw [Nat.pow_succ] at h; omega) x hx
theorem putN_len (n : Int) : (putN n).length ≤ 5 := by
 unfold putN
 split
 ·exact vlq_len 4 _ (by omega)
 ·exact Nat.zero_le _
theorem putN_ok (n : Int) : bytesOk (putN n) := by
 unfold putN
 split
 ·exact vlq_ok 4 _ (by omega)
 ·intro x hx; cases hx
theorem bytesOk.app {a b : List Int} (ha : bytesOk a) (hb : bytesOk b) : bytesOk (a ++ b) := fun x hx => by
 rcases List.mem_append.1 hx with h | h
 ·exact ha x h
 ·exact hb x h
theorem ac_spec_PutNum (n : Int) (st : St) : C 122 [vI n] st (fun v s => ∃ q, v = vS q (putN n).length ∧ OwnR s 1 fB q (putN n) ∧ New st.next q ∧ Pres st s) := by
 refine AC.enterX (i := ⟨[], [], [0, 2, 3, 7, 10]⟩) [] Try.func122 rfl rfl (by kernel_rfl) (by kernel_rfl) Try.ntmps122 (Nat.le_of_ble_eq_true rfl) rfl ?_
 refine AW.cut lo0 st [(0, vI n), (2, .slice none 0 0)] ⟨rfl, rfl, trivial⟩ fun ρ0 => ?_
 refine op_nilK (z := 1) (f := fB) rfl rfl rfl rfl (by decide) rfl ?_
 intro q4 s4 hO4 hP4 hN4
 refine AW.cut lo0 s4 [(0, vI n), (2, .slice none 0 0), (3, vS q4 0)] ⟨rfl, rfl, rfl, trivial⟩ fun ρ0 => ?_
 refine ⟨_, rfl, (ac_spec_l1In n 0 2147483647 s4).mono ?_⟩
 rintro _ s4 ⟨x6, rfl, h6, rfl⟩
 rcases x6 with _|_
 ·replace h6 := of_decide_eq_false h6.symm
  refine ⟨_, rfl, ?_⟩
  refine AW.cut lo0 s4 [(0, vI n), (2, .slice none 0 0), (3, vS q4 0), (7, vB true)] ⟨rfl, rfl, rfl, rfl, trivial⟩ fun ρ0 => ?_
  refine cxs ?_
  refine ⟨.inl rfl, _, rfl, ?_⟩
  rw [show putN n = [] from if_neg h6]
  exact ⟨q4, rfl, hO4, hN4, hP4⟩
 ·replace h6 := of_decide_eq_true h6.symm
  refine ⟨_, rfl, ?_⟩
  refine AW.cut lo0 s4 [(0, vI n), (2, .slice none 0 0), (3, vS q4 0), (7, vB false)] ⟨rfl, rfl, rfl, rfl, trivial⟩ fun ρ0 => ?_
  obtain ⟨n, rfl⟩ := Int.eq_ofNat_of_zero_le h6.1
  have hpn : vlq n = putN n := (if_pos h6).symm
  have hpl := putN_len n
  refine cxs ?_
  refine AW.loop0 (fun x : Nat × Option Addr × List Int => [(0, vI (x.1 : Int)), (2, .slice none 0 0), (3, vS x.2.1 x.2.2.length)]) (fun m (x : Nat × Option Addr × List Int) st' => m = x.1 ∧ x.1 ≤ n ∧ x.2.2 ++ vlq x.1 = putN n ∧ OwnR st' 1 fB x.2.1 x.2.2 ∧ New st.next x.2.1 ∧ Pres st st') (n, q4, []) _ ⟨rfl, rfl, rfl, trivial⟩ rfl ⟨rfl, Nat.le_refl _, hpn, hO4, hN4, hP4⟩ ?_
  rintro m ⟨k, q, l⟩ ρ0 st' ⟨hm, hk, hv, hO, hN, hP⟩
  simp only at hm hk hv hO hN
  have hvl := congrArg List.length hv
  rw [List.length_append] at hvl
  have hv1 := vlq_pos k
  refine ⟨_, rfl, ?_⟩
  rintro (_|_) h10
  ·replace h10 : ¬ ((k : Int) > (127)) := of_decide_eq_false h10
   refine AW.cut lo0 st' [(0, vI (k : Int)), (2, .slice none 0 0), (3, vS q l.length), (10, vB false)] ⟨rfl, rfl, rfl, rfl, trivial⟩ fun ρ0 => ?_
   refine cxs ?_
   refine ⟨_, op_toB (r := (k : Int)) rfl rfl rfl rfl rfl rfl (by omega) (by omega), ?_⟩
   refine op_one (z := 1) (a := ((k : Int) : Int)) (f := fB) rfl rfl rfl rfl rfl (by decide) rfl (Nat.le_of_ble_eq_true rfl) rfl rfl rfl ?_
   refine op_snoc (z := 1) (st := st') (f := fB) (b := 1) (l := l) (x := (k : Int)) rfl rfl rfl rfl rfl rfl rfl (by decide) fB_len rfl rfl rfl (by omega) (by unfold maxLen; omega) hO ?_
   intro q24 s24 hO24 hP24 hN24
   refine cxs ?_
   refine ⟨.inl rfl, _, rfl, q24, ?_⟩
   rw [← hv, vlq_lt (n := k) (by omega)]
   exact ⟨rfl, hO24, hN24.le hP.1, hP24.pres hP hN⟩
  ·replace h10 : (k : Int) > (127) := of_decide_eq_true h10
   refine AW.cut lo0 st' [(0, vI (k : Int)), (2, .slice none 0 0), (3, vS q l.length), (10, vB true)] ⟨rfl, rfl, rfl, rfl, trivial⟩ fun ρ0 => ?_
   refine cxs ?_
   refine ⟨_, op_rm (r := ((k % 128 : Nat) : Int)) rfl rfl rfl (by decide) ((tm_emod 128 (by omega)).trans (by omega)), ?_⟩
   have ew14 : IntKind.wrap .i64 (((k % 128 : Nat) : Int) + (128)) = ((k % 128 + 128 : Nat) : Int) := (wrap_i64 (by omega) (by omega)).trans (by omega)
   refine ⟨_, rfl, ?_⟩
   refine ⟨_, op_toB (r := ((k % 128 + 128 : Nat) : Int)) rfl rfl rfl rfl rfl (ew14.trans (by omega)) (by omega) (by omega), ?_⟩
   refine op_one (z := 1) (a := (((k % 128 + 128 : Nat) : Int) : Int)) (f := fB) rfl rfl rfl rfl rfl (by decide) rfl (Nat.le_of_ble_eq_true rfl) rfl rfl rfl ?_
   refine op_snoc (z := 1) (st := st') (f := fB) (b := 1) (l := l) (x := ((k % 128 + 128 : Nat) : Int)) rfl rfl rfl rfl rfl rfl rfl (by decide) fB_len rfl rfl rfl (by omega) (by unfold maxLen; omega) hO ?_
   intro q17 s17 hO17 hP17 hN17
   refine AW.cut lo0 s17 [(0, vI (k : Int)), (2, .slice none 0 0), (3, vS q17 (l ++ [((k % 128 + 128 : Nat) : Int)]).length), (10, vB true)] ⟨rfl, rfl, rfl, rfl, trivial⟩ fun ρ0 => ?_
   refine ⟨_, op_qo (r := ((k / 128 : Nat) : Int)) rfl rfl rfl (by decide) ((td_ediv 128 (by omega)).trans (by omega)) (by omega) (by omega), ?_⟩
   exact ⟨(k / 128, q17, l ++ [((k % 128 + 128 : Nat) : Int)]), k / 128, by omega, ⟨rfl, rfl, rfl, trivial⟩, rfl, rfl, by simp only; omega, by rw [← hv, vlq_ge (n := k) (by omega), List.append_assoc]; rfl, hO17, hN17.le hP.1, hP17.pres hP hN⟩
theorem ac_impl_PutNum (n : Int) (st : St) : C 65 [vI n] st (fun v s => ∃ q, v = vS q (putN n).length ∧ OwnR s 1 fB q (putN n) ∧ New st.next q ∧ Pres st s) := by
 refine AC.enterX (i := ⟨[], [], [0, 2, 3, 6, 9]⟩) [] Try.func65 rfl rfl (by kernel_rfl) (by kernel_rfl) Try.ntmps65 (Nat.le_of_ble_eq_true rfl) rfl ?_
 refine AW.cut lo0 st [(0, vI n), (2, .slice none 0 0)] ⟨rfl, rfl, trivial⟩ fun ρ0 => ?_
 refine ⟨_, rfl, (ac_impl_within n 0 2147483647 st).mono ?_⟩
 rintro _ st ⟨x5, rfl, h5, rfl⟩
 rcases x5 with _|_
 ·replace h5 := of_decide_eq_false h5.symm
  refine ⟨_, rfl, ?_⟩
  refine AW.cut lo0 st [(0, vI n), (2, .slice none 0 0), (6, vB true)] ⟨rfl, rfl, rfl, trivial⟩ fun ρ0 => ?_
  refine cxs ?_
  refine ⟨.inl rfl, _, rfl, ?_⟩
  rw [show putN n = [] from if_neg h5]
  exact ⟨none, rfl, OwnR.nil, New.none, Pres.refl _⟩
 ·replace h5 := of_decide_eq_true h5.symm
  refine ⟨_, rfl, ?_⟩
  refine AW.cut lo0 st [(0, vI n), (2, .slice none 0 0), (6, vB false)] ⟨rfl, rfl, rfl, trivial⟩ fun ρ0 => ?_
  obtain ⟨n, rfl⟩ := Int.eq_ofNat_of_zero_le h5.1
  have hpn : vlq n = putN n := (if_pos h5).symm
  have hpl := putN_len n
  refine cxs ?_
  refine op_nilK (z := 1) (f := fB) rfl rfl rfl rfl (by decide) rfl ?_
  intro q7 s7 hO7 hP7 hN7
  refine AW.cut lo0 s7 [(0, vI n), (2, .slice none 0 0), (3, vS q7 0)] ⟨rfl, rfl, rfl, trivial⟩ fun ρ0 => ?_
  refine AW.loop0 (fun x : Nat × Option Addr × List Int => [(0, vI (x.1 : Int)), (2, .slice none 0 0), (3, vS x.2.1 x.2.2.length)]) (fun m (x : Nat × Option Addr × List Int) st' => m = x.1 ∧ x.1 ≤ n ∧ x.2.2 ++ vlq x.1 = putN n ∧ OwnR st' 1 fB x.2.1 x.2.2 ∧ New st.next x.2.1 ∧ Pres st st') (n, q7, []) _ ⟨rfl, rfl, rfl, trivial⟩ rfl ⟨rfl, Nat.le_refl _, hpn, hO7, hN7, hP7⟩ ?_
  rintro m ⟨k, q, l⟩ ρ0 st' ⟨hm, hk, hv, hO, hN, hP⟩
  simp only at hm hk hv hO hN
  have hvl := congrArg List.length hv
  rw [List.length_append] at hvl
  have hv1 := vlq_pos k
  refine ⟨_, rfl, ?_⟩
  rintro (_|_) h9
  ·replace h9 : ¬ ((k : Int) ≥ (128)) := of_decide_eq_false h9
   refine AW.cut lo0 st' [(0, vI (k : Int)), (2, .slice none 0 0), (3, vS q l.length), (9, vB false)] ⟨rfl, rfl, rfl, rfl, trivial⟩ fun ρ0 => ?_
   refine cxs ?_
   refine ⟨_, op_toB (r := (k : Int)) rfl rfl rfl rfl rfl rfl (by omega) (by omega), ?_⟩
   refine op_one (z := 1) (a := ((k : Int) : Int)) (f := fB) rfl rfl rfl rfl rfl (by decide) rfl (Nat.le_of_ble_eq_true rfl) rfl rfl rfl ?_
   refine op_snoc (z := 1) (st := st') (f := fB) (b := 1) (l := l) (x := (k : Int)) rfl rfl rfl rfl rfl rfl rfl (by decide) fB_len rfl rfl rfl (by omega) (by unfold maxLen; omega) hO ?_
   intro q23 s23 hO23 hP23 hN23
   refine cxs ?_
   refine ⟨.inl rfl, _, rfl, q23, ?_⟩
   rw [← hv, vlq_lt (n := k) (by omega)]
   exact ⟨rfl, hO23, hN23.le hP.1, hP23.pres hP hN⟩
  ·replace h9 : (k : Int) ≥ (128) := of_decide_eq_true h9
   refine AW.cut lo0 st' [(0, vI (k : Int)), (2, .slice none 0 0), (3, vS q l.length), (9, vB true)] ⟨rfl, rfl, rfl, rfl, trivial⟩ fun ρ0 => ?_
   refine cxs ?_
   refine ⟨_, op_rm (r := ((k % 128 : Nat) : Int)) rfl rfl rfl (by decide) ((tm_emod 128 (by omega)).trans (by omega)), ?_⟩
   have ew13 : IntKind.wrap .i64 (((k % 128 : Nat) : Int) + (128)) = ((k % 128 + 128 : Nat) : Int) := (wrap_i64 (by omega) (by omega)).trans (by omega)
   refine ⟨_, rfl, ?_⟩
   refine ⟨_, op_toB (r := ((k % 128 + 128 : Nat) : Int)) rfl rfl rfl rfl rfl (ew13.trans (by omega)) (by omega) (by omega), ?_⟩
   refine op_one (z := 1) (a := (((k % 128 + 128 : Nat) : Int) : Int)) (f := fB) rfl rfl rfl rfl rfl (by decide) rfl (Nat.le_of_ble_eq_true rfl) rfl rfl rfl ?_
   refine op_snoc (z := 1) (st := st') (f := fB) (b := 1) (l := l) (x := ((k % 128 + 128 : Nat) : Int)) rfl rfl rfl rfl rfl rfl rfl (by decide) fB_len rfl rfl rfl (by omega) (by unfold maxLen; omega) hO ?_
   intro q16 s16 hO16 hP16 hN16
   refine AW.cut lo0 s16 [(0, vI (k : Int)), (2, .slice none 0 0), (3, vS q16 (l ++ [((k % 128 + 128 : Nat) : Int)]).length), (9, vB true)] ⟨rfl, rfl, rfl, rfl, trivial⟩ fun ρ0 => ?_
   refine ⟨_, op_qo (r := ((k / 128 : Nat) : Int)) rfl rfl rfl (by decide) ((td_ediv 128 (by omega)).trans (by omega)) (by omega) (by omega), ?_⟩
   exact ⟨(k / 128, q16, l ++ [((k % 128 + 128 : Nat) : Int)]), k / 128, by omega, ⟨rfl, rfl, rfl, trivial⟩, rfl, rfl, by simp only; omega, by rw [← hv, vlq_ge (n := k) (by omega), List.append_assoc]; rfl, hO16, hN16.le hP.1, hP16.pres hP hN⟩
def fl (t : List RV) : List Int := t.flatMap fun r => r.l
theorem fl_succ {t : List RV} {i : Nat} {r : RV} (h : t[i]? = some r) : fl (t.take (i + 1)) = fl (t.take i) ++ r.l := by
 unfold fl
 rw [List.take_add_one, h, List.flatMap_append]
 simp
theorem fl_le (t : List RV) (i : Nat) : (fl (t.take i)).length ≤ (fl t).length := by
 unfold fl
 conv => rhs; rw [← List.take_append_drop i t]
 rw [List.flatMap_append, List.length_append]
 omega
theorem ac_impl_joined (p : Option Addr) (t : List RV) (st : St) (hR : Rows st 1 cRV p t) (hB : ∀ r ∈ t, Rows st 1 fB r.p r.l) (hs : szOk t.length) (hl : (fl t).length ≤ 1073741824) : C 64 [vS p t.length] st (fun v s => ∃ q, v = vS q (fl t).length ∧ OwnR s 1 fB q (fl t) ∧ New st.next q ∧ Pres st s) := by
 have hs : t.length ≤ 1048576 := hs
 refine AC.enterX (i := ⟨[], [], [0, 2, 3, 5, 7, 8, 9, 10]⟩) [] Try.func64 rfl rfl (by kernel_rfl) (by kernel_rfl) Try.ntmps64 (Nat.le_of_ble_eq_true rfl) rfl ?_
 refine AW.cut lo0 st [(0, vS p t.length), (2, .slice none 0 0)] ⟨rfl, rfl, trivial⟩ fun ρ0 => ?_
 refine op_nilK (z := 1) (f := fB) rfl rfl rfl rfl (by decide) rfl ?_
 intro q6 s6 hO6 hP6 hN6
 refine AW.cut lo0 s6 [(0, vS p t.length), (2, .slice none 0 0), (3, vS q6 0)] ⟨rfl, rfl, rfl, trivial⟩ fun ρ0 => ?_
 refine ⟨_, rfl, ?_⟩
 refine AW.cut lo0 s6 [(2, .slice none 0 0), (3, vS q6 0), (7, vS p t.length), (8, vI (t.length : Int)), (9, vI (0))] ⟨rfl, rfl, rfl, rfl, rfl, trivial⟩ fun ρ0 => ?_
 refine AW.loop0 (fun x : Nat × Option Addr × List Int => [(2, .slice none 0 0), (3, vS x.2.1 x.2.2.length), (7, vS p t.length), (8, vI (t.length : Int)), (9, vI (x.1 : Int))]) (fun m (x : Nat × Option Addr × List Int) st' => m = t.length - x.1 ∧ x.1 ≤ t.length ∧ x.2.2 = fl (t.take x.1) ∧ OwnR st' 1 fB x.2.1 x.2.2 ∧ New st.next x.2.1 ∧ Pres st st') (0, q6, []) _ ⟨rfl, rfl, rfl, rfl, rfl, trivial⟩ rfl ⟨rfl, Nat.zero_le _, rfl, hO6, hN6, hP6⟩ ?_
 rintro m ⟨i, q, l⟩ ρ0 st' ⟨rfl, hi, hv, hO, hN, hP⟩
 simp only at hi hv hO hN
 refine ⟨_, rfl, ?_⟩
 rintro (_|_) h10
 ·replace h10 : ¬ ((i : Int) < (t.length : Int)) := of_decide_eq_false h10
  refine AW.cut lo0 st' [(2, .slice none 0 0), (3, vS q l.length), (7, vS p t.length), (8, vI (t.length : Int)), (9, vI (i : Int)), (10, vB false)] ⟨rfl, rfl, rfl, rfl, rfl, rfl, trivial⟩ fun ρ0 => ?_
  refine cxs ?_
  refine cxs ?_
  refine ⟨.inl rfl, _, rfl, q, ?_⟩
  rw [show fl t = l by rw [hv, show i = t.length by omega, List.take_length]]
  exact ⟨rfl, hO, hN, hP⟩
 ·replace h10 : (i : Int) < (t.length : Int) := of_decide_eq_true h10
  refine AW.cut lo0 st' [(2, .slice none 0 0), (3, vS q l.length), (7, vS p t.length), (8, vI (t.length : Int)), (9, vI (i : Int)), (10, vB true)] ⟨rfl, rfl, rfl, rfl, rfl, rfl, trivial⟩ fun ρ0 => ?_
  refine cxs ?_
  refine op_at i (hP.rows hR) (by omega) rfl rfl rfl rfl rfl rfl rfl ?_
  intro x11 b11 d11 k11 hy11 hb11 hm11 hc11 ho11
  refine ⟨_, op_ldc (i := 0) rfl rfl rfl rfl hm11 hc11 rfl rfl, ?_⟩
  refine AW.cut lo0 st' [(2, .slice none 0 0), (3, vS q l.length), (5, vS x11.p x11.l.length), (7, vS p t.length), (8, vI (t.length : Int)), (9, vI (i : Int)), (10, vB true)] ⟨rfl, rfl, rfl, rfl, rfl, rfl, rfl, trivial⟩ fun ρ0 => ?_
  have hsc := fl_succ hy11
  have hle := fl_le t (i + 1)
  have hll := congrArg List.length hsc
  rw [List.length_append, ← hv] at hll
  have hrb := hB _ (List.mem_of_getElem? hy11)
  refine op_cat' (z := 1) (st := st') (f := fB) (b := 1) (l := l) (l2 := x11.l) rfl rfl rfl rfl rfl rfl rfl (by decide) fB_len rfl rfl rfl rfl (by first | omega | (simp only [List.length_nil]; omega)) (by unfold maxLen; first | omega | (simp only [List.length_nil]; omega)) hO (hP.rows hrb) ?_
  intro q15 s15 hO15 hPr15 hN15
  refine AW.cut lo0 s15 [(2, .slice none 0 0), (3, vS q15 (l ++ x11.l).length), (5, vS x11.p x11.l.length), (7, vS p t.length), (8, vI (t.length : Int)), (9, vI (i : Int)), (10, vB true)] ⟨rfl, rfl, rfl, rfl, rfl, rfl, rfl, trivial⟩ fun ρ0 => ?_
  have ew16 : IntKind.wrap .i64 ((i : Int) + (1)) = ((i + 1 : Nat) : Int) := (wrap_i64 (by omega) (by omega)).trans (by omega)
  refine ⟨_, rfl, ?_⟩
  refine ⟨(i + 1, q15, l ++ x11.l), t.length - (i + 1), by omega, ⟨rfl, rfl, rfl, rfl, congrArg (Value.int .i64) ew16, trivial⟩, rfl, rfl, by omega, by rw [hsc, ← hv], hO15, ?_, hPr15.pres hP hN⟩
  rcases hN15 with ⟨h, _⟩ | ⟨_, h⟩
  ·rw [h]; exact hN
  ·exact h.le hP.1
theorem OwnP.joinF {st st' : St} {l m : List Pc} (h : OwnP st l) (hp : Pres st st') (k : OwnP st' m) (hn : NewP st.next m) : OwnP st' (m ++ l) :=
 OwnP.app k (h.pres hp) fun a ha b hb => (Dis.of (h.1 b hb).old (hn a ha)).symm
structure LW where
 cap : Int
 frm : Int
 p : Option Addr
 l : List SV
 C : Pc
 ok : l = [] ∨ ∃ a o, C.p = some ⟨a, 0, none⟩ ∧ p = some ⟨a, o, none⟩ ∧ ∀ (j : Nat) x, l[j]? = some x → (C.cs.drop (o + j * 2)).take 2 = cSV x
abbrev LW.v (g : LW) : LV := ⟨g.cap, g.frm, g.p, g.l⟩
abbrev LW.x (g : LW) : Lg := g.v.x
abbrev pcLog (g : LW) : List Pc := g.C :: g.l.flatMap pcS
theorem LW.rows {st : St} {g : LW} (h : g.C.own st) : Rows st 2 cSV g.p g.l := by
 rcases g.ok with h0 | ⟨a, o, h1, h2, h3⟩
 ·exact .inl h0
 ·rcases h with ⟨h4, _⟩ | ⟨b, h4, hb, hm⟩
  ·rw [h1] at h4; cases h4
  ·rw [h1] at h4
   injection h4 with h4
   injection h4 with h4
   subst h4
   exact .inr ⟨a, o, _, h2, hm, hb, h3⟩
theorem OwnP.rdLog {st : St} {g : LW} (h : OwnP st (pcLog g)) : RdL st g.p g.l := ⟨LW.rows (h.1 _ (List.mem_cons_self ..)), fun s hs => (h.tail.state hs).rdS⟩
theorem OwnP.lw {st : St} {u : LV} (h : OwnP st (pcL u.p u.l)) : ∃ g : LW, g.v = u ∧ OwnP st (pcLog g) ∧ g.C = pcR 2 cSV u.p u.l := by
 refine ⟨⟨u.cap, u.frm, u.p, u.l, pcR 2 cSV u.p u.l, ?_⟩, rfl, h, rfl⟩
 rcases h.louter with ⟨_, h2⟩ | ⟨a, h1, _⟩
 ·exact .inl h2
 ·exact .inr ⟨a, 0, h1, h1, fun j x hx => by rw [Nat.zero_add]; exact flat_at (l := u.l) len_cSV hx⟩
def bigLog (g : Lg) : Prop := szOk g.list.length ∧ ∀ s ∈ g.list, bigS s
theorem bigLog_iff {g : LV} : bigLog g.x ↔ bigL g.l := by
 refine ⟨fun h => ⟨by have := h.1; simpa [LV.x] using this, fun s hs => h.2 s.x (List.mem_map_of_mem hs)⟩, fun h => ⟨by have := h.1; simpa [LV.x] using this, fun s hs => ?_⟩⟩
 obtain ⟨r, hr, rfl⟩ := List.mem_map.1 hs
 exact h.2 r hr
def cntLog (g : Lg) : Nat := sumOf cntS g.list
theorem cntLog_l (g : LV) : cntLog g.x = cntL g.l := by simp [cntLog, cntL, sumOf, LV.x, Function.comp_def]
theorem uc_toLog (g : LV) (st : St) (hR : RdL st g.p g.l) (hb : bigLog g.x) : C 90 [.agg #[vI g.cap, vI g.frm, vS g.p g.l.length]] st (fun v s => ∃ u : LW, v = .agg #[vI u.cap, vI u.frm, vS u.p u.l.length] ∧ u.v.x = g.x ∧ OwnP s (pcLog u) ∧ NewP st.next (pcLog u) ∧ Pres st s) :=
 (ac_laws_toLog g st hR (bigLog_iff.1 hb)).mono fun v s ⟨u, h1, h2, h3, h4, h5⟩ => by
  obtain ⟨w, hw, hO, hC⟩ := h3.lw
  subst hw
  refine ⟨w, h1, h2, hO, ?_, h5⟩
  show NewP st.next (w.C :: w.l.flatMap pcS)
  rw [hC]; exact h4
def cntT (t : List RV) : Nat := (t.map fun r => r.l.length).sum
theorem cntT_app (a b : List RV) : cntT (a ++ b) = cntT a + cntT b := by simp [cntT]
theorem cntT_one (r : RV) : cntT [r] = r.l.length := by simp [cntT]
theorem split_at {α : Type} {l : List α} {i : Nat} {x : α} (h : l[i]? = some x) : l = l.take i ++ x :: l.drop (i + 1) ∧ l.take (i + 1) = l.take i ++ [x] ∧ l.drop i = x :: l.drop (i + 1) := by
 obtain ⟨hi, hx⟩ := List.getElem?_eq_some_iff.1 h
 have h3 : l.drop i = x :: l.drop (i + 1) := by rw [List.drop_eq_getElem_cons hi, hx]
 refine ⟨?_, ?_, h3⟩
 ·rw [← h3, List.take_append_drop]
 ·rw [List.take_add_one, h]; rfl
theorem cntT_take {t : List RV} {i : Nat} {r : RV} (h : t[i]? = some r) : cntT (t.take (i + 1)) = cntT (t.take i) + r.l.length ∧ cntT (t.take (i + 1)) ≤ cntT t := by
 obtain ⟨h1, h2, _⟩ := split_at h
 refine ⟨by rw [h2, cntT_app, cntT_one], ?_⟩
 conv => rhs; rw [h1]
 rw [h2, cntT_app, cntT_one, cntT_app, show r :: t.drop (i + 1) = [r] ++ t.drop (i + 1) from rfl, cntT_app, cntT_one]
 omega
theorem ac_laws_eqIntSS (p q : Option Addr) (a b : List RV) (st : St) (hA : RdT st p a) (hB : RdT st q b) (hs : szOk a.length) (hr : ∀ r ∈ a, szOk r.l.length) : C 105 [vS p a.length, vS q b.length] st (fun v s => ∃ x, v = .bool x ∧ (x = true ↔ a.map (·.l) = b.map (·.l)) ∧ s = st) := by
 have hs : a.length ≤ 1048576 := hs
 refine AC.enterX (i := ⟨[], [], [0, 1, 4, 5, 10, 14, 26]⟩) [(6, [], [])] Try.func105 rfl rfl (by kernel_rfl) (by kernel_rfl) Try.ntmps105 (Nat.le_of_ble_eq_true rfl) rfl ?_
 refine AW.cut lo0 st [(0, vS p a.length), (1, vS q b.length), (4, vB false)] ⟨rfl, rfl, rfl, trivial⟩ fun ρ0 => ?_
 iterate 3 refine ⟨_, rfl, ?_⟩
 rintro (_|_) h1
 ·replace h1 : (a.length : Int) = (b.length : Int) := bne_eq_false_iff_eq.1 h1
  refine AW.cut lo0 st [(0, vS p a.length), (1, vS q b.length), (4, vB false), (10, vB false)] ⟨rfl, rfl, rfl, rfl, trivial⟩ fun ρ0 => ?_
  refine cxs ?_
  refine AW.cut lo0 st [(0, vS p a.length), (1, vS q b.length), (4, vB false), (5, vI (0))] ⟨rfl, rfl, rfl, rfl, trivial⟩ fun ρ0 => ?_
  refine AW.loop0 (fun i : Nat => [(0, vS p a.length), (1, vS q b.length), (4, vB false), (5, vI (i : Int))]) (fun m (i : Nat) st' => m = a.length - i ∧ i ≤ a.length ∧ (∀ (j : Nat) x y, j < i → a[j]? = some x → b[j]? = some y → x.l = y.l) ∧ st = st') 0 _ ⟨rfl, rfl, rfl, rfl, trivial⟩ rfl ⟨rfl, Nat.zero_le _, fun j x y h => absurd h (Nat.not_lt_zero _), rfl⟩ ?_
  rintro m i ρ0 st' ⟨rfl, hi, heq, rfl⟩
  iterate 2 refine ⟨_, rfl, ?_⟩
  rintro (_|_) h2
  ·replace h2 : ¬ ((i : Int) < (a.length : Int)) := of_decide_eq_false h2
   refine AW.cut lo0 st [(0, vS p a.length), (1, vS q b.length), (4, vB false), (5, vI (i : Int)), (14, vB false)] ⟨rfl, rfl, rfl, rfl, rfl, trivial⟩ fun ρ0 => ?_
   refine cxs ?_
   refine cxs ?_
   refine ⟨.inl rfl, _, rfl, true, rfl, ⟨fun _ => ?_, fun _ => rfl⟩, rfl⟩
   refine iff_lists (by simp; omega) fun j x y hj hx hy => ?_
   rw [List.getElem?_map] at hx hy
   obtain ⟨u, hu, rfl⟩ := Option.map_eq_some_iff.1 hx
   obtain ⟨v, hv, rfl⟩ := Option.map_eq_some_iff.1 hy
   exact heq j u v (by simp at hj; omega) hu hv
  ·replace h2 : (i : Int) < (a.length : Int) := of_decide_eq_true h2
   refine AW.cut lo0 st [(0, vS p a.length), (1, vS q b.length), (4, vB false), (5, vI (i : Int)), (14, vB true)] ⟨rfl, rfl, rfl, rfl, rfl, trivial⟩ fun ρ0 => ?_
   have h2' := Int.ofNat_lt.1 h2
   have ⟨b1, o1, k1, x, hpe, hx, hm1, hc1, hb1⟩ := hA.1.atB h2'
   have ⟨b2, o2, k2, y, hqe, hy, hm2, hc2, hb2⟩ := hB.1.atB (j := i) (by omega)
   have hxm := List.mem_of_getElem? hx
   have hym := List.mem_of_getElem? hy
   have hxs : x.l.length ≤ 1048576 := hr x hxm
   refine cxs ?_
   refine ⟨_, op_idx (j := (i : Int)) (n := a.length) (q := ⟨b1, o1, none⟩) rfl (congrArg (fun u => vS u a.length) hpe) rfl rfl rfl (Int.natCast_nonneg _) h2, ?_⟩
   refine ⟨_, op_ldc (i := 0) rfl rfl rfl rfl hm1 hc1 rfl rfl, ?_⟩
   refine ⟨_, op_idx (j := (i : Int)) (n := b.length) (q := ⟨b2, o2, none⟩) rfl (congrArg (fun u => vS u b.length) hqe) rfl rfl rfl (Int.natCast_nonneg _) (h1 ▸ h2), ?_⟩
   refine ⟨_, op_ldc (i := 0) rfl rfl rfl rfl hm2 hc2 rfl rfl, ?_⟩
   refine ⟨_, rfl, (ac_laws_eqIntS x.p y.p x.l y.l st (hA.2 x hxm).ints (hB.2 y hym).ints (by omega)).mono ?_⟩
   rintro _ st ⟨c, rfl, h3, rfl⟩
   rcases c with _|_
   ·replace h3 := of_decide_eq_false h3.symm
    refine ⟨_, rfl, ?_⟩
    refine AW.cut lo0 st [(0, vS p a.length), (1, vS q b.length), (4, vB false), (5, vI (i : Int)), (14, vB true), (26, vB true)] ⟨rfl, rfl, rfl, rfl, rfl, rfl, trivial⟩ fun ρ0 => ?_
    refine cxs ?_
    refine ⟨.inl rfl, _, rfl, false, rfl, ⟨fun h => absurd h Bool.false_ne_true, fun h => absurd ?_ h3⟩, rfl⟩
    have h4 : (a.map (·.l))[i]? = some x.l := by rw [List.getElem?_map, hx]; rfl
    rw [h, List.getElem?_map, hy] at h4
    injection h4 with h4
    exact h4.symm
   ·replace h3 := of_decide_eq_true h3.symm
    refine ⟨_, rfl, ?_⟩
    refine AW.cut lo0 st [(0, vS p a.length), (1, vS q b.length), (4, vB false), (5, vI (i : Int)), (14, vB true), (26, vB false)] ⟨rfl, rfl, rfl, rfl, rfl, rfl, trivial⟩ fun ρ0 => ?_
    refine cxs ?_
    have e16 : IntKind.wrap .i64 ((i : Int) + 1) = ((i + 1 : Nat) : Int) := (wrap_i64 (by omega) (by omega)).trans (by omega)
    refine ⟨_, rfl, ?_⟩
    refine ⟨i + 1, a.length - (i + 1), by omega, ⟨rfl, rfl, rfl, congrArg (Value.int .i64) e16, trivial⟩, rfl, rfl, h2', fun j u v hj hu hv => ?_, rfl⟩
    rcases Nat.lt_or_ge j i with h | h
    ·exact heq j u v h hu hv
    ·obtain rfl : j = i := by omega
     rw [hx] at hu; rw [hy] at hv
     injection hu with hu; injection hv with hv
     rw [← hu, ← hv]; exact h3
 ·replace h1 : ¬ ((a.length : Int) = (b.length : Int)) := bne_iff_ne.1 h1
  refine AW.cut lo0 st [(0, vS p a.length), (1, vS q b.length), (4, vB false), (10, vB true)] ⟨rfl, rfl, rfl, rfl, trivial⟩ fun ρ0 => ?_
  refine cxs ?_
  exact ⟨.inl rfl, _, rfl, false, rfl, ⟨fun h => absurd h Bool.false_ne_true, fun h => absurd (by have := congrArg List.length h; simp at this; exact congrArg Nat.cast this) h1⟩, rfl⟩
theorem ac_laws_szIntSS (p : Option Addr) (t : List RV) (n : Int) (st : St) (hR : RdT st p t) (h0 : 0 ≤ n) (hn : n ≤ 1048576) (hm : t.length ≤ maxLen) (hr : ∀ r ∈ t, r.l.length ≤ maxLen) : C 79 [vS p t.length, vI n] st (fun v s => ∃ r, v = vI r ∧ r ≤ n ∧ (0 ≤ r → r + (t.length : Int) + (cntT t : Int) = n) ∧ s = st) := by
 have hm : t.length ≤ 9223372036854775807 := hm
 refine AC.enterX (i := ⟨[], [], [0, 1, 4, 5, 11, 15, 25]⟩) [] Try.func79 rfl rfl (by kernel_rfl) (by kernel_rfl) Try.ntmps79 (Nat.le_of_ble_eq_true rfl) rfl ?_
 refine AW.cut lo0 st [(0, vS p t.length), (1, vI n), (4, vI (0))] ⟨rfl, rfl, rfl, trivial⟩ fun ρ0 => ?_
 refine ⟨_, rfl, ?_⟩
 have e9 : IntKind.wrap .i64 (n - (t.length : Int)) = n - (t.length : Int) := wrap_i64 (by omega) (by omega)
 refine ⟨_, rfl, ?_⟩
 refine AW.cut lo0 st [(0, vS p t.length), (1, vI (n - (t.length : Int))), (4, vI (0))] ⟨rfl, congrArg (Value.int .i64) e9, rfl, trivial⟩ fun ρ0 => ?_
 refine ⟨_, rfl, ?_⟩
 rintro (_|_) h1
 ·replace h1 : ¬ (n - (t.length : Int) < 0) := of_decide_eq_false h1
  refine AW.cut lo0 st [(0, vS p t.length), (1, vI (n - (t.length : Int))), (4, vI (0)), (11, vB false)] ⟨rfl, rfl, rfl, rfl, trivial⟩ fun ρ0 => ?_
  refine cxs ?_
  refine AW.cut lo0 st [(0, vS p t.length), (1, vI (n - (t.length : Int))), (4, vI (0)), (5, vI (0))] ⟨rfl, rfl, rfl, rfl, trivial⟩ fun ρ0 => ?_
  refine AW.loop0 (fun x : Nat × Int => [(0, vS p t.length), (1, vI x.2), (5, vI (x.1 : Int))]) (fun m (x : Nat × Int) st' => m = t.length - x.1 ∧ x.1 ≤ t.length ∧ 0 ≤ x.2 ∧ x.2 + (t.length : Int) + (cntT (t.take x.1) : Int) = n ∧ st = st') (0, n - (t.length : Int)) _ ⟨rfl, rfl, rfl, trivial⟩ rfl ⟨rfl, Nat.zero_le _, by omega, by simp [cntT], rfl⟩ ?_
  rintro m x ρ0 st' ⟨rfl, hi, hx0, hx1, rfl⟩
  iterate 2 refine ⟨_, rfl, ?_⟩
  rintro (_|_) h2
  ·replace h2 : ¬ ((x.1 : Int) < (t.length : Int)) := of_decide_eq_false h2
   refine AW.cut lo0 st [(0, vS p t.length), (1, vI x.2), (5, vI (x.1 : Int)), (15, vB false)] ⟨rfl, rfl, rfl, rfl, trivial⟩ fun ρ0 => ?_
   refine cxs ?_
   refine cxs ?_
   have hil : x.1 = t.length := by omega
   exact ⟨.inl rfl, _, rfl, x.2, rfl, by omega, fun _ => by rw [hil, List.take_length] at hx1; exact hx1, rfl⟩
  ·replace h2 : (x.1 : Int) < (t.length : Int) := of_decide_eq_true h2
   refine AW.cut lo0 st [(0, vS p t.length), (1, vI x.2), (5, vI (x.1 : Int)), (15, vB true)] ⟨rfl, rfl, rfl, rfl, trivial⟩ fun ρ0 => ?_
   have h2' := Int.ofNat_lt.1 h2
   have ⟨b1, o1, k1, r, hpe, hr1, hm1, hc1⟩ := hR.1.at h2'
   have hmem := List.mem_of_getElem? hr1
   have hct := cntT_take hr1
   refine cxs ?_
   refine ⟨_, op_idx (j := (x.1 : Int)) (n := t.length) (q := ⟨b1, o1, none⟩) rfl (congrArg (fun u => vS u t.length) hpe) rfl rfl rfl (Int.natCast_nonneg _) h2, ?_⟩
   refine ⟨_, op_ldc (i := 0) (v := vS r.p r.l.length) rfl rfl rfl rfl hm1 hc1 rfl rfl, ?_⟩
   refine ⟨_, rfl, (ac_laws_szIntS r.p r.l x.2 st hx0 (by omega) (hr r hmem)).mono ?_⟩
   rintro _ st ⟨y, rfl, hy, hz, rfl⟩
   refine AW.cut lo0 st [(0, vS p t.length), (1, vI y), (5, vI (x.1 : Int)), (15, vB true)] ⟨rfl, rfl, rfl, rfl, trivial⟩ fun ρ0 => ?_
   refine ⟨_, rfl, ?_⟩
   rintro (_|_) h3
   ·replace h3 : ¬ (y < 0) := of_decide_eq_false h3
    refine AW.cut lo0 st [(0, vS p t.length), (1, vI y), (5, vI (x.1 : Int)), (15, vB true), (25, vB false)] ⟨rfl, rfl, rfl, rfl, rfl, trivial⟩ fun ρ0 => ?_
    refine cxs ?_
    have e17 : IntKind.wrap .i64 ((x.1 : Int) + 1) = ((x.1 + 1 : Nat) : Int) := (wrap_i64 (by omega) (by omega)).trans (by omega)
    refine ⟨_, rfl, ?_⟩
    exact ⟨(x.1 + 1, y), t.length - (x.1 + 1), by omega, ⟨rfl, rfl, congrArg (Value.int .i64) e17, trivial⟩, rfl, rfl, h2', by omega, by have := hz (by omega); simp only; omega, rfl⟩
   ·replace h3 : y < 0 := of_decide_eq_true h3
    refine AW.cut lo0 st [(0, vS p t.length), (1, vI y), (5, vI (x.1 : Int)), (15, vB true), (25, vB true)] ⟨rfl, rfl, rfl, rfl, rfl, trivial⟩ fun ρ0 => ?_
    refine cxs ?_
    exact ⟨.inl rfl, _, rfl, -1, rfl, by omega, fun h => absurd h (by omega), rfl⟩
 ·replace h1 : n - (t.length : Int) < 0 := of_decide_eq_true h1
  refine AW.cut lo0 st [(0, vS p t.length), (1, vI (n - (t.length : Int))), (4, vI (0)), (11, vB true)] ⟨rfl, rfl, rfl, rfl, trivial⟩ fun ρ0 => ?_
  refine cxs ?_
  exact ⟨.inl rfl, _, rfl, -1, rfl, by omega, fun h => absurd h (by omega), rfl⟩
abbrev zRV : RV := ⟨none, []⟩
theorem ac_laws_toIntSS (p : Option Addr) (t : List RV) (st : St) (hR : RdT st p t) (hs : szOk t.length) (hr : ∀ r ∈ t, szOk r.l.length) : C 91 [vS p t.length] st (fun v s => ∃ q u, v = vS q t.length ∧ u.map (·.l) = t.map (·.l) ∧ OwnP s (pcT q u) ∧ NewP st.next (pcT q u) ∧ Pres st s) := by
 have hs : t.length ≤ 1048576 := hs
 refine AC.enterX (i := ⟨[], [], [0, 2, 3, 4, 11]⟩) [] Try.func91 rfl rfl (by kernel_rfl) (by kernel_rfl) Try.ntmps91 (Nat.le_of_ble_eq_true rfl) rfl ?_
 refine AW.cut lo0 st [(0, vS p t.length), (2, .slice none 0 0)] ⟨rfl, rfl, trivial⟩ fun ρ0 => ?_
 refine ⟨_, rfl, ?_⟩
 refine op_mkK (z := 1) (f := cRV) (a := zRV) (b := 24) (i := t.length) rfl rfl rfl rfl rfl rfl rfl rfl rfl Nat.one_pos rfl rfl (by omega) (by omega) ?_
 intro q s1 hO hP hN
 have hO : OwnP s1 [pcR 1 cRV q (List.replicate t.length zRV)] := OwnP.one (own_pc hO)
 refine cxs ?_
 refine AW.cut lo0 s1 [(0, vS p t.length), (2, .slice none 0 0), (3, vS q t.length), (4, vI (0))] ⟨rfl, rfl, rfl, rfl, trivial⟩ fun ρ0 => ?_
 refine AW.loop0 (fun x : Nat × List RV => [(0, vS p t.length), (3, vS q t.length), (4, vI (x.1 : Int))]) (fun m (x : Nat × List RV) st' => m = t.length - x.1 ∧ x.1 ≤ t.length ∧ x.2.map (·.l) = (t.take x.1).map (·.l) ∧ OwnP st' (pcR 1 cRV q (x.2 ++ List.replicate (t.length - x.1) zRV) :: x.2.map pcRV) ∧ NewP st.next (pcT q x.2) ∧ Pres st st') (0, []) _ ⟨rfl, rfl, rfl, trivial⟩ rfl ⟨rfl, Nat.zero_le _, rfl, hO, NewP.cons hN NewP.nil, hP⟩ ?_
 rintro m x ρ0 st' ⟨rfl, hi, hl, hO', hN', hP'⟩
 iterate 2 refine ⟨_, rfl, ?_⟩
 rintro (_|_) h1
 ·replace h1 : ¬ ((x.1 : Int) < (t.length : Int)) := of_decide_eq_false h1
  refine AW.cut lo0 st' [(0, vS p t.length), (3, vS q t.length), (4, vI (x.1 : Int)), (11, vB false)] ⟨rfl, rfl, rfl, rfl, trivial⟩ fun ρ0 => ?_
  refine cxs ?_
  refine cxs ?_
  have hil : x.1 = t.length := by omega
  rw [hil, Nat.sub_self, List.replicate_zero, List.append_nil] at hO'
  exact ⟨.inl rfl, _, rfl, q, x.2, rfl, by rw [hl, hil, List.take_length], hO', hN', hP'⟩
 ·replace h1 : (x.1 : Int) < (t.length : Int) := of_decide_eq_true h1
  refine AW.cut lo0 st' [(0, vS p t.length), (3, vS q t.length), (4, vI (x.1 : Int)), (11, vB true)] ⟨rfl, rfl, rfl, rfl, trivial⟩ fun ρ0 => ?_
  have h1' := Int.ofNat_lt.1 h1
  have ⟨b1, o1, k1, r, hpe, hr1, hm1, hc1⟩ := (hR.pres hP').1.at h1'
  have hmem := List.mem_of_getElem? hr1
  obtain ⟨d1, d2, d3⟩ := split_at hr1
  have hxl : x.2.length = x.1 := by have := congrArg List.length hl; simp at this; omega
  obtain ⟨n1, hn1⟩ : ∃ n1, t.length - x.1 = n1 + 1 := ⟨t.length - x.1 - 1, by omega⟩
  refine cxs ?_
  refine ⟨_, op_idx (j := (x.1 : Int)) (n := t.length) (q := ⟨b1, o1, none⟩) rfl (congrArg (fun u => vS u t.length) hpe) rfl rfl rfl (Int.natCast_nonneg _) h1, ?_⟩
  refine ⟨_, op_ldc (i := 0) (v := vS r.p r.l.length) rfl rfl rfl rfl hm1 hc1 rfl rfl, ?_⟩
  refine ⟨_, rfl, (ac_laws_toIntS r.p r.l st' ((hR.pres hP').2 r hmem) (hr r hmem)).mono ?_⟩
  rintro _ s2 ⟨q2, rfl, hO2, hP2, hN2⟩
  have hA := OwnP.join hO' hP2 (OwnP.one (own_pc hO2)) (NewP.cons hN2 NewP.nil)
  have hlen : x.1 < (x.2 ++ List.replicate (t.length - x.1) zRV).length := by rw [List.length_append, List.length_replicate]; omega
  have hout : OwnR s2 1 cRV q (x.2 ++ List.replicate (t.length - x.1) zRV) := pc_own Nat.one_pos cRV_len ((hO'.pres hP2).1 _ (List.mem_cons_self ..))
  have ⟨a, ha⟩ := hout.some (by omega)
  refine ⟨_, op_idx (j := (x.1 : Int)) (n := t.length) (q := ⟨a, 0, none⟩) rfl (congrArg (fun u => vS u t.length) ha) rfl rfl rfl (Int.natCast_nonneg _) h1, ?_⟩
  refine op_put (z := 1) (st := s2) (f := cRV) (j := x.1) (l := x.2 ++ List.replicate (t.length - x.1) zRV) (y := (⟨q2, r.l⟩ : RV)) (p := q) (d := 0 + x.1 * 1) rfl rfl (Nat.zero_add _) rfl rfl cRV_len rfl rfl hlen hout ha ?_
  intro s5 hO5 hP5 hn5
  refine AW.cut lo0 s5 [(0, vS p t.length), (3, vS q t.length), (4, vI (x.1 : Int)), (11, vB true)] ⟨rfl, rfl, rfl, rfl, trivial⟩ fun ρ0 => ?_
  have hset : (x.2 ++ List.replicate (t.length - x.1) zRV).set x.1 ⟨q2, r.l⟩ = (x.2 ++ [⟨q2, r.l⟩]) ++ List.replicate (t.length - (x.1 + 1)) zRV := by
   rw [hn1, show t.length - (x.1 + 1) = n1 by omega, List.replicate_succ, List.set_append_right _ _ (by omega), show x.1 - x.2.length = 0 by omega, List.set_cons_zero]
   simp
  rw [hset] at hO5
  have hB : OwnP s5 (pcR 1 cRV q ((x.2 ++ [⟨q2, r.l⟩]) ++ List.replicate (t.length - (x.1 + 1)) zRV) :: (x.2.map pcRV ++ [pcRV ⟨q2, r.l⟩])) :=
   OwnP.update (l := []) (m := x.2.map pcRV ++ [pcRV ⟨q2, r.l⟩]) (c := pcR 1 cRV q (x.2 ++ List.replicate (t.length - x.1) zRV)) (d := pcR 1 cRV q ((x.2 ++ [(⟨q2, r.l⟩ : RV)]) ++ List.replicate (t.length - (x.1 + 1)) zRV)) hA hP5 (own_pc hO5) rfl
  have hB : OwnP s5 (pcR 1 cRV q ((x.2 ++ [⟨q2, r.l⟩]) ++ List.replicate (t.length - (x.1 + 1)) zRV) :: (x.2 ++ [(⟨q2, r.l⟩ : RV)]).map pcRV) := by rw [List.map_append]; exact hB
  have e13 : IntKind.wrap .i64 ((x.1 : Int) + 1) = ((x.1 + 1 : Nat) : Int) := (wrap_i64 (by omega) (by omega)).trans (by omega)
  refine ⟨_, rfl, ?_⟩
  refine ⟨(x.1 + 1, x.2 ++ [⟨q2, r.l⟩]), t.length - (x.1 + 1), by omega, ⟨rfl, rfl, congrArg (Value.int .i64) e13, trivial⟩, rfl, rfl, h1', ?_, hB, ?_, ?_⟩
  ·rw [List.map_append, hl, d2, List.map_append]; rfl
  ·refine NewP.cons hN ?_
   rw [List.map_append]
   exact NewP.app (fun c hc => hN' c (List.mem_cons_of_mem _ hc)) (NewP.cons (hN2.le hP'.1) NewP.nil)
  ·exact hP5.pres (hP'.trans hP2) hN
theorem own_one {α : Type} {st : St} {z : Nat} {f : α → List Value} {p : Option Addr} {l : List α} (h0 : 0 < z) (hz : ∀ x, (f x).length = z) (h : OwnP st [pcR z f p l]) : OwnR st z f p l := pc_own h0 hz (h.1 _ (List.mem_singleton_self _))
abbrev pcIs (g : RV) : List Pc := [pcRV g]
theorem OwnP.rdIs {st : St} {g : RV} (h : OwnP st (pcIs g)) : Rows st 1 fI g.p g.l := (own_one Nat.one_pos fI_len h).rows fI_len
theorem uc_toIntS (g : RV) (st : St) (hR : Rows st 1 fI g.p g.l) (hb : szOk g.l.length) : C 60 [vS g.p g.l.length] st (fun v s => ∃ u : RV, v = vS u.p u.l.length ∧ u.l = g.l ∧ OwnP s (pcIs u) ∧ NewP st.next (pcIs u) ∧ Pres st s) :=
 (ac_laws_toIntS g.p g.l st hR hb).mono fun v s ⟨q, h1, h2, h3, h4⟩ => ⟨⟨q, g.l⟩, h1, rfl, OwnP.one (own_pc h2), NewP.cons h4 NewP.nil, h3⟩
structure FV where
 p : Option Addr
 l : List Flr
structure TT where
 p : Option Addr
 t : List RV
abbrev TT.x (g : TT) : List (List Int) := rls g.t
abbrev pcTT (g : TT) : List Pc := pcT g.p g.t
def bigT (x : List (List Int)) : Prop := szOk x.length ∧ ∀ l ∈ x, szOk l.length
theorem bigT_iff {t : List RV} : bigT (rls t) ↔ szOk t.length ∧ ∀ r ∈ t, szOk r.l.length := by
 refine ⟨fun h => ⟨by have := h.1; rwa [List.length_map] at this, fun r hr => h.2 r.l (List.mem_map_of_mem hr)⟩, fun h => ⟨by rw [List.length_map]; exact h.1, fun l hl => ?_⟩⟩
 obtain ⟨r, hr, rfl⟩ := List.mem_map.1 hl
 exact h.2 r hr
def cntTab (x : List (List Int)) : Nat := (x.map List.length).sum
theorem cntTab_t (t : List RV) : cntTab (rls t) = cntT t := by simp [cntTab, cntT, rls, Function.comp_def]
theorem cntT_mem {t : List RV} {r : RV} (h : r ∈ t) : r.l.length ≤ cntT t := by
 obtain ⟨i, hi⟩ := List.getElem?_of_mem h
 have := cntT_take hi
 omega
theorem sz_bigT {g : TT} (h : g.t.length + cntT g.t ≤ 1048576) : bigT g.x := bigT_iff.2 ⟨by unfold szOk; omega, fun r hr => by have := cntT_mem hr; unfold szOk; omega⟩
def maxT (t : List RV) : Prop := t.length ≤ maxLen ∧ ∀ r ∈ t, r.l.length ≤ maxLen
theorem uc_toIntSS (g : TT) (st : St) (hR : RdT st g.p g.t) (hb : bigT g.x) : C 91 [vS g.p g.t.length] st (fun v s => ∃ u : TT, v = vS u.p u.t.length ∧ u.x = g.x ∧ OwnP s (pcTT u) ∧ NewP st.next (pcTT u) ∧ Pres st s) :=
 (ac_laws_toIntSS g.p g.t st hR (bigT_iff.1 hb).1 (bigT_iff.1 hb).2).mono fun v s ⟨q, u, h1, h2, h3, h4, h5⟩ => ⟨⟨q, u⟩, h1.trans (congrArg (vS q) (by have := congrArg List.length h2; simpa using this.symm)), h2, h3, h4, h5⟩
theorem uc_eqIntSS (a b : TT) (st : St) (hA : RdT st a.p a.t) (hB : RdT st b.p b.t) (hb : bigT a.x) : C 105 [vS a.p a.t.length, vS b.p b.t.length] st (fun v s => ∃ x, v = .bool x ∧ (x = true ↔ a.x = b.x) ∧ s = st) :=
 ac_laws_eqIntSS a.p b.p a.t b.t st hA hB (bigT_iff.1 hb).1 (bigT_iff.1 hb).2
end Go.Proofs.Ytbogbnjnjjhnbaa.AM
namespace Go.Proofs.Ytbogbnjnjjhnbaa.AM
open Go Go.Proofs
set_option linter.unusedVariables false
set_option linter.unusedSimpArgs false
def Frs (a b : St) (l : List Pc) : Prop := OwnP b l ∧ NewP a.next l ∧ Pres a b
theorem Frs.join {a b c : St} {l m : List Pc} (h : Frs a b l) (k : Frs b c m) : Frs a c (l ++ m) :=
 ⟨h.1.join k.2.2 k.1 k.2.1, h.2.1.app (k.2.1.le h.2.2.1), h.2.2.trans k.2.2⟩
theorem PrL.inl {a b : List Pc} {st st' : St} (h : PrL (a.map (·.p)) st st') : PrL ((a ++ b).map (·.p)) st st' := h.mono fun p hp => by rw [List.map_append]; exact List.mem_append_left _ hp
theorem PrL.inr {a b : List Pc} {st st' : St} (h : PrL (b.map (·.p)) st st') : PrL ((a ++ b).map (·.p)) st st' := h.mono fun p hp => by rw [List.map_append]; exact List.mem_append_right _ hp
structure Tr where
 leaves : List Int
 root : Int
structure TV extends RV where
 root : Int
abbrev TV.x (t : TV) : Tr := ⟨t.l, t.root⟩
abbrev cTV (t : TV) : List Value := [vS t.p t.l.length, vI t.root]
structure Ses where
 peer : Int
 num : Int
 inn : Bool
 age : Int
structure Ris where
 inc : Int
 beat : Int
 tick : Int
abbrev cSess (x : Ses) : List Value := [vI x.peer, vI x.num, vB x.inn, vI x.age]
abbrev cRise (x : Ris) : List Value := [vI x.inc, vI x.beat, vI x.tick]
theorem len_cSess (x : Ses) : (cSess x).length = 4 := rfl
theorem len_cRise (x : Ris) : (cRise x).length = 3 := rfl
def zSes : Ses := ⟨0, 0, false, 0⟩
def zRis : Ris := ⟨0, 0, 0⟩
structure SesV where
 p : Option Addr
 l : List Ses
structure RisV where
 p : Option Addr
 l : List Ris
abbrev pcSes (g : SesV) : List Pc := [pcR 4 cSess g.p g.l]
abbrev pcRis (g : RisV) : List Pc := [pcR 3 cRise g.p g.l]
theorem OwnP.rdSes {st : St} {g : SesV} (h : OwnP st (pcSes g)) : Rows st 4 cSess g.p g.l := (own_one (by decide) len_cSess h).rows len_cSess
theorem OwnP.rdRis {st : St} {g : RisV} (h : OwnP st (pcRis g)) : Rows st 3 cRise g.p g.l := (own_one (by decide) len_cRise h).rows len_cRise
structure Mg where
 kind : Int
 frm : Int
 to : Int
 num : Int
 hi : Int
 tree : Tr
 vec : List Int
 leaves : List Int
 part : Sta
 marks : List Flr
structure MV where
 kind : Int
 frm : Int
 to : Int
 num : Int
 hi : Int
 tree : TV
 vec : RV
 leaves : RV
 part : SV
 marks : FV
abbrev MV.x (m : MV) : Mg := ⟨m.kind, m.frm, m.to, m.num, m.hi, m.tree.x, m.vec.l, m.leaves.l, m.part.x, m.marks.l⟩
structure RdM (st : St) (m : MV) : Prop where
 tree : Rows st 1 fI m.tree.p m.tree.l
 vec : Rows st 1 fI m.vec.p m.vec.l
 leaves : Rows st 1 fI m.leaves.p m.leaves.l
 part : RdS st m.part
 marks : Rows st 2 cFlr m.marks.p m.marks.l
theorem RdM.pres {st st' : St} {m : MV} (h : RdM st m) (k : Pres st st') : RdM st' m := ⟨k.rows h.tree, k.rows h.vec, k.rows h.leaves, h.part.pres k, k.rows h.marks⟩
structure Nd where
 id : Int
 n : Int
 s : Sta
 t : Tr
 g : Lg
 got : List Int
 acked : List Int
 seen : List (List Int)
 num : Int
 slots : Int
 sess : List Ses
 wait : Int
 limit : Int
 clock : Int
 rises : List Ris
structure NV where
 id : Int
 n : Int
 s : SV
 t : TV
 g : LV
 got : RV
 acked : RV
 seen : TT
 num : Int
 slots : Int
 sess : SesV
 wait : Int
 limit : Int
 clock : Int
 rises : RisV
abbrev NV.x (v : NV) : Nd := ⟨v.id, v.n, v.s.x, v.t.x, v.g.x, v.got.l, v.acked.l, v.seen.x, v.num, v.slots, v.sess.l, v.wait, v.limit, v.clock, v.rises.l⟩
abbrev cNV (v : NV) : List Value := [vI v.id, vI v.n, vS v.s.p v.s.x.items.length, vS v.s.q v.s.x.floors.length, vS v.t.p v.t.l.length, vI v.t.root, vI v.g.cap, vI v.g.frm, vS v.g.p v.g.l.length, vS v.got.p v.got.l.length, vS v.acked.p v.acked.l.length, vS v.seen.p v.seen.t.length, vI v.num, vI v.slots, vS v.sess.p v.sess.l.length, vI v.wait, vI v.limit, vI v.clock, vS v.rises.p v.rises.l.length]
abbrev vNV (v : NV) : Value := .agg #[vI v.id, vI v.n, vS v.s.p v.s.x.items.length, vS v.s.q v.s.x.floors.length, vS v.t.p v.t.l.length, vI v.t.root, vI v.g.cap, vI v.g.frm, vS v.g.p v.g.l.length, vS v.got.p v.got.l.length, vS v.acked.p v.acked.l.length, vS v.seen.p v.seen.t.length, vI v.num, vI v.slots, vS v.sess.p v.sess.l.length, vI v.wait, vI v.limit, vI v.clock, vS v.rises.p v.rises.l.length]
structure NW where
 id : Int
 n : Int
 s : SV
 t : TV
 g : LW
 got : RV
 acked : RV
 seen : TT
 num : Int
 slots : Int
 sess : SesV
 wait : Int
 limit : Int
 clock : Int
 rises : RisV
abbrev NW.v (v : NW) : NV := ⟨v.id, v.n, v.s, v.t, v.g.v, v.got, v.acked, v.seen, v.num, v.slots, v.sess, v.wait, v.limit, v.clock, v.rises⟩
abbrev NW.x (v : NW) : Nd := v.v.x
structure RdN (st : St) (v : NV) : Prop where
 s : RdS st v.s
 t : Rows st 1 fI v.t.p v.t.l
 g : RdL st v.g.p v.g.l
 got : Rows st 1 fI v.got.p v.got.l
 acked : Rows st 1 fI v.acked.p v.acked.l
 seen : RdT st v.seen.p v.seen.t
 sess : Rows st 4 cSess v.sess.p v.sess.l
 rises : Rows st 3 cRise v.rises.p v.rises.l
theorem RdN.pres {st st' : St} {v : NV} (h : RdN st v) (k : Pres st st') : RdN st' v := ⟨h.s.pres k, k.rows h.t, h.g.pres k, k.rows h.got, k.rows h.acked, h.seen.pres k, k.rows h.sess, k.rows h.rises⟩
structure bigN (x : Nd) : Prop where
 s : bigS x.s
 t : szOk x.t.leaves.length
 g : bigLog x.g
 got : szOk x.got.length
 acked : szOk x.acked.length
 seen : bigT x.seen
 sess : szOk x.sess.length
 rises : szOk x.rises.length
structure maxN (v : NV) : Prop where
 s : maxS v.s.x
 t : v.t.l.length ≤ maxLen
 g : maxL v.g.l
 got : v.got.l.length ≤ maxLen
 acked : v.acked.l.length ≤ maxLen
 seen : maxT v.seen.t
 sess : v.sess.l.length ≤ maxLen
 rises : v.rises.l.length ≤ maxLen
abbrev pcNW (v : NW) : List Pc := pcS v.s ++ (pcIs v.t.toRV ++ (pcLog v.g ++ (pcIs v.got ++ (pcIs v.acked ++ (pcTT v.seen ++ (pcSes v.sess ++ pcRis v.rises))))))
theorem OwnP.rdN {st : St} {v : NW} (h : OwnP st (pcNW v)) : RdN st v.v :=
 ⟨h.left.rdS, h.right.left.rdIs, h.right.right.left.rdLog, h.right.right.right.left.rdIs, h.right.right.right.right.left.rdIs, h.right.right.right.right.right.left.rdT, h.right.right.right.right.right.right.left.rdSes, h.right.right.right.right.right.right.right.rdRis⟩
def szNd (v : NV) : Nat := szSta v.s.x + v.t.l.length + szL v.g.l + v.got.l.length + v.acked.l.length + (v.seen.t.length + cntT v.seen.t) + v.sess.l.length + v.rises.l.length
theorem sz_bigN {v : NV} (h : szNd v ≤ 1048576) : bigN v.x := by
 unfold szNd at h
 have k : ∀ n : Nat, n ≤ 1048576 → szOk n := fun n h => h
 exact ⟨sz_bigS (s := v.s.x) (by omega), k v.t.l.length (by omega), bigLog_iff.2 (sz_bigL (by omega)), k v.got.l.length (by omega), k v.acked.l.length (by omega), sz_bigT (g := v.seen) (by omega), k v.sess.l.length (by omega), k v.rises.l.length (by omega)⟩
def cntNode (x : Nd) : Nat := cntS x.s + x.t.leaves.length + cntLog x.g + x.got.length + x.acked.length + cntTab x.seen + 4 * x.sess.length + 3 * x.rises.length
theorem cntS_le (s : Sta) : cntS s ≤ 6 * szSta s := by unfold cntS szSta szI; omega
theorem cnt_Node {v : NV} (h : szNd v ≤ 1048576) : cntNode v.x ≤ 8388608 := by
 have h1 := cntS_le v.s.x
 have h2 := cntLog_l v.g
 have h3 := cntL_le v.g.l
 have h4 := cntTab_t v.seen.t
 unfold szNd at h
 show cntS v.s.x + v.t.l.length + cntLog v.g.x + v.got.l.length + v.acked.l.length + cntTab (rls v.seen.t) + 4 * v.sess.l.length + 3 * v.rises.l.length ≤ 8388608
 omega
end Go.Proofs.Ytbogbnjnjjhnbaa.AM
