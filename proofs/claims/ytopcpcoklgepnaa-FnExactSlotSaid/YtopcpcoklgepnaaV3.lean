/- Rows, states, trees, logs, messages and nodes compared by the program and by the reference; messages checked; slots looked for (written by gen4.py). -/
import Derived.Test.YtopcpcoklgepnaaV1
namespace Go.Proofs.Ytopcpcoklgepnaa.AM
open Go Go.Proofs
set_option linter.unusedVariables false
set_option linter.unusedSimpArgs false
set_option maxRecDepth 100000
set_option maxHeartbeats 4000000
theorem cmpS {A : Option Value} {Q : Prop} {K : Bool → Prop} (h : ∃ b, A = some (.bool b) ∧ (b = true ↔ Q)) (hk : ∀ c, (c = true ↔ Q) → K c) : ∃ b, A = some (.bool b) ∧ ∀ c, b = c → K c := by
  obtain ⟨b, h1, h2⟩ := h
  exact ⟨b, h1, fun c hc => hc ▸ hk b h2⟩
theorem map_same {α β : Type} {f : α → β} {a b : List α} (hl : a.length = b.length) (h : ∀ (j : Nat) x y, j < a.length → a[j]? = some x → b[j]? = some y → f x = f y) : a.map f = b.map f := by
  refine iff_lists (by simpa using hl) fun j x y hj hx hy => ?_
  rw [List.getElem?_map] at hx hy
  obtain ⟨u, hu, rfl⟩ := Option.map_eq_some_iff.1 hx
  obtain ⟨v, hv, rfl⟩ := Option.map_eq_some_iff.1 hy
  exact h j u v (by simpa using hj) hu hv
theorem map_at {α β : Type} {f : α → β} {a b : List α} {i : Nat} {x y : α} (hx : a[i]? = some x) (hy : b[i]? = some y) (h : a.map f = b.map f) : f x = f y := by
  have h4 : (a.map f)[i]? = some (f x) := by rw [List.getElem?_map, hx]; rfl
  rw [h, List.getElem?_map, hy] at h4
  injection h4 with h4
  exact h4.symm
theorem same_next {α β : Type} {f : α → β} {a b : List α} {i : Nat} {x y : α} (hx : a[i]? = some x) (hy : b[i]? = some y) (h : f x = f y) (heq : ∀ (j : Nat) x y, j < i → a[j]? = some x → b[j]? = some y → f x = f y) : ∀ (j : Nat) x y, j < i + 1 → a[j]? = some x → b[j]? = some y → f x = f y := by
  intro j u v hj hu hv
  rcases Nat.lt_or_ge j i with h2 | h2
  · exact heq j u v h2 hu hv
  · obtain rfl : j = i := by omega
    rw [hx] at hu; rw [hy] at hv
    injection hu with hu; injection hv with hv
    rw [← hu, ← hv]; exact h
theorem same_at {α : Type} {a b : List α} {i : Nat} {x y : α} (hx : a[i]? = some x) (hy : b[i]? = some y) (h : a = b) : x = y := by
  subst h; rw [hx] at hy; injection hy
theorem rows_ints {st : St} {k : IntKind} {p : Option Addr} {l : List Int} (h : Ints st k p l) : Rows st 1 (fun x => [.int k x]) p l := by
  rcases h with h | ⟨b, off, blk, h1, h2, h3, h4⟩
  · exact .inl (List.length_eq_zero_iff.1 h)
  · refine .inr ⟨b, off, blk, h1, h2, h3, fun j x hx => ?_⟩
    have hj := (List.getElem?_eq_some_iff.1 hx).1
    have := h4 j hj
    rw [List.getD_eq_getElem?_getD, hx] at this
    have hd := List.drop_eq_getElem_cons (List.getElem?_eq_some_iff.1 this).1
    rw [hd, List.take_succ_cons, List.take_zero]
    have h5 := (List.getElem?_eq_some_iff.1 this).2
    rw [h5]; rfl
theorem sta_ext {a b : Sta} (h1 : a.items = b.items) (h2 : a.floors = b.floors) : a = b := by cases a; cases b; simp only at h1 h2; rw [h1, h2]
theorem neq_Mark (x y : Flr) : ∃ b, abin Try.prog .neq 106 (.agg #[vI x.id, vI x.inc]) (.agg #[vI y.id, vI y.inc]) = some (.bool b) ∧ (b = true ↔ ¬ x = y) := by
  refine ⟨!((if (x.id == y.id) = true then (if (x.inc == y.inc) = true then true else false) else false)), ?_, ?_⟩
  · have h : abin Try.prog .neq 106 (.agg #[vI x.id, vI x.inc]) (.agg #[vI y.id, vI y.inc]) = (((some (x.id == y.id)).bind fun r => if r = true then ((some (x.inc == y.inc)).bind fun r => if r = true then some true else some false) else some false)).map fun b => Value.bool !b := by kernel_rfl
    rw [h]; cases x.id == y.id <;> cases x.inc == y.inc <;> rfl
  · cases x; cases y; simp [Classical.or_iff_not_imp_left]
theorem neq_Floor (x y : Flr) : ∃ b, abin Try.prog .neq 140 (.agg #[vI x.id, vI x.inc]) (.agg #[vI y.id, vI y.inc]) = some (.bool b) ∧ (b = true ↔ ¬ x = y) := by
  refine ⟨!((if (x.id == y.id) = true then (if (x.inc == y.inc) = true then true else false) else false)), ?_, ?_⟩
  · have h : abin Try.prog .neq 140 (.agg #[vI x.id, vI x.inc]) (.agg #[vI y.id, vI y.inc]) = (((some (x.id == y.id)).bind fun r => if r = true then ((some (x.inc == y.inc)).bind fun r => if r = true then some true else some false) else some false)).map fun b => Value.bool !b := by kernel_rfl
    rw [h]; cases x.id == y.id <;> cases x.inc == y.inc <;> rfl
  · cases x; cases y; simp [Classical.or_iff_not_imp_left]
theorem neq_Sess (x y : Ses) : ∃ b, abin Try.prog .neq 131 (.agg #[vI x.peer, vI x.num, vB x.inn, vI x.age]) (.agg #[vI y.peer, vI y.num, vB y.inn, vI y.age]) = some (.bool b) ∧ (b = true ↔ ¬ x = y) := by
  refine ⟨!((if (x.peer == y.peer) = true then (if (x.num == y.num) = true then (if (x.inn == y.inn) = true then (if (x.age == y.age) = true then true else false) else false) else false) else false)), ?_, ?_⟩
  · have h : abin Try.prog .neq 131 (.agg #[vI x.peer, vI x.num, vB x.inn, vI x.age]) (.agg #[vI y.peer, vI y.num, vB y.inn, vI y.age]) = (((some (x.peer == y.peer)).bind fun r => if r = true then ((some (x.num == y.num)).bind fun r => if r = true then ((some (x.inn == y.inn)).bind fun r => if r = true then ((some (x.age == y.age)).bind fun r => if r = true then some true else some false) else some false) else some false) else some false)).map fun b => Value.bool !b := by kernel_rfl
    rw [h]; cases x.peer == y.peer <;> cases x.num == y.num <;> cases x.inn == y.inn <;> cases x.age == y.age <;> rfl
  · cases x; cases y; simp [Classical.or_iff_not_imp_left]
theorem neq_Rise (x y : Ris) : ∃ b, abin Try.prog .neq 137 (.agg #[vI x.inc, vI x.beat, vI x.tick]) (.agg #[vI y.inc, vI y.beat, vI y.tick]) = some (.bool b) ∧ (b = true ↔ ¬ x = y) := by
  refine ⟨!((if (x.inc == y.inc) = true then (if (x.beat == y.beat) = true then (if (x.tick == y.tick) = true then true else false) else false) else false)), ?_, ?_⟩
  · have h : abin Try.prog .neq 137 (.agg #[vI x.inc, vI x.beat, vI x.tick]) (.agg #[vI y.inc, vI y.beat, vI y.tick]) = (((some (x.inc == y.inc)).bind fun r => if r = true then ((some (x.beat == y.beat)).bind fun r => if r = true then ((some (x.tick == y.tick)).bind fun r => if r = true then some true else some false) else some false) else some false)).map fun b => Value.bool !b := by kernel_rfl
    rw [h]; cases x.inc == y.inc <;> cases x.beat == y.beat <;> cases x.tick == y.tick <;> rfl
  · cases x; cases y; simp [Classical.or_iff_not_imp_left]
theorem neq_Item (x y : Itm) : ∃ b, abin Try.prog .neq 154 (.agg #[vI x.id, vI x.e.inc, vI x.e.rank, vI x.e.beat, vI x.e.ver, .string x.e.data]) (.agg #[vI y.id, vI y.e.inc, vI y.e.rank, vI y.e.beat, vI y.e.ver, .string y.e.data]) = some (.bool b) ∧ (b = true ↔ ¬ x = y) := by
  refine ⟨!(x.id == y.id && (x.e.inc == y.e.inc && (x.e.rank == y.e.rank && (x.e.beat == y.e.beat && (x.e.ver == y.e.ver && x.e.data.toList == y.e.data.toList))))), ?_, ?_⟩
  · have h : abin Try.prog .neq 154 (.agg #[vI x.id, vI x.e.inc, vI x.e.rank, vI x.e.beat, vI x.e.ver, .string x.e.data]) (.agg #[vI y.id, vI y.e.inc, vI y.e.rank, vI y.e.beat, vI y.e.ver, .string y.e.data]) = ((some (x.id == y.id)).bind fun r => if r = true then (((some (x.e.inc == y.e.inc)).bind fun r => if r = true then ((some (x.e.rank == y.e.rank)).bind fun r => if r = true then ((some (x.e.beat == y.e.beat)).bind fun r => if r = true then ((some (x.e.ver == y.e.ver)).bind fun r => if r = true then ((some (x.e.data.toList == y.e.data.toList)).bind fun r => if r = true then some true else some false) else some false) else some false) else some false) else some false).bind fun r => if r = true then some true else some false) else some false).map fun b => Value.bool !b := by kernel_rfl
    rw [h]; cases x.id == y.id <;> cases x.e.inc == y.e.inc <;> cases x.e.rank == y.e.rank <;> cases x.e.beat == y.e.beat <;> cases x.e.ver == y.e.ver <;> cases x.e.data.toList == y.e.data.toList <;> rfl
  · rcases x with ⟨i, a, b, c, d, s⟩
    rcases y with ⟨j, a', b', c', d', s'⟩
    have hb : (s.toList == s'.toList) = true ↔ s = s' := beq_bytes
    cases hs : (s.toList == s'.toList) with
    | true => simp [hs, hb.1 hs, Classical.or_iff_not_imp_left]
    | false => have : ¬ s = s' := fun h => by rw [hb.2 h] at hs; cases hs
               simp [hs, this]
theorem ac_slices_Equal_Int (p q : Option Addr) (a b : List Int) (st : St) (hA : Rows st 1 fI p a) (hB : Rows st 1 fI q b) (hs : szOk a.length) : C 88 [vS p a.length, vS q b.length] st (fun v s => ∃ x, v = .bool x ∧ (x = true ↔ a = b) ∧ s = st) := by
  have hs : a.length ≤ 1048576 := hs
  refine AC.enterX (i := ⟨[], [], [0, 1, 4, 5, 10, 12, 13, 14, 24]⟩) [(6, [], [])] Try.func88 rfl rfl (by kernel_rfl) (by kernel_rfl) Try.ntmps88 (Nat.le_of_ble_eq_true rfl) rfl ?_
  refine AW.cut lo0 st [(0, vS p a.length), (1, vS q b.length), (4, vB false)] ⟨rfl, rfl, rfl, trivial⟩ fun ρ0 => ?_
  iterate 3 refine ⟨_, rfl, ?_⟩
  rintro (_|_) h10
  · replace h10 : (a.length : Int) = (b.length : Int) := bne_eq_false_iff_eq.1 h10
    refine AW.cut lo0 st [(0, vS p a.length), (1, vS q b.length), (4, vB false), (10, vB false)] ⟨rfl, rfl, rfl, rfl, trivial⟩ fun ρ0 => ?_
    refine cx_sound _ _ _ _ _ ?_
    refine ⟨_, rfl, ?_⟩
    refine AW.cut lo0 st [(0, vS p a.length), (1, vS q b.length), (4, vB false), (12, vI (a.length : Int)), (13, vI (0))] ⟨rfl, rfl, rfl, rfl, rfl, trivial⟩ fun ρ0 => ?_
    refine AW.loop0 (fun i : Nat => [(0, vS p a.length), (1, vS q b.length), (12, vI (a.length : Int)), (13, vI (i : Int))]) (fun m (i : Nat) st' => m = a.length - i ∧ i ≤ a.length ∧ (∀ (j : Nat) x y, j < i → a[j]? = some x → b[j]? = some y → x = y) ∧ st = st') 0 _ ⟨rfl, rfl, rfl, rfl, trivial⟩ rfl ⟨rfl, Nat.zero_le _, fun j x y h => absurd h (Nat.not_lt_zero _), rfl⟩ ?_
    rintro m i ρ0 st' ⟨rfl, hi, heq, rfl⟩
    refine ⟨_, rfl, ?_⟩
    rintro (_|_) h14
    · replace h14 : ¬ ((i : Int) < (a.length : Int)) := of_decide_eq_false h14
      refine AW.cut lo0 st [(0, vS p a.length), (1, vS q b.length), (12, vI (a.length : Int)), (13, vI (i : Int)), (14, vB false)] ⟨rfl, rfl, rfl, rfl, rfl, trivial⟩ fun ρ0 => ?_
      refine cx_sound _ _ _ _ _ ?_
      refine cx_sound _ _ _ _ _ ?_
      exact ⟨.inl rfl, _, rfl, true, rfl, ⟨fun _ => iff_lists (by omega) fun j x y hj hx hy => heq j x y (by omega) hx hy, fun _ => rfl⟩, rfl⟩
    · replace h14 : (i : Int) < (a.length : Int) := of_decide_eq_true h14
      refine AW.cut lo0 st [(0, vS p a.length), (1, vS q b.length), (12, vI (a.length : Int)), (13, vI (i : Int)), (14, vB true)] ⟨rfl, rfl, rfl, rfl, rfl, trivial⟩ fun ρ0 => ?_
      refine cx_sound _ _ _ _ _ ?_
      refine AW.cut lo0 st [(0, vS p a.length), (1, vS q b.length), (5, vI (i : Int)), (12, vI (a.length : Int)), (13, vI (i : Int)), (14, vB true)] ⟨rfl, rfl, rfl, rfl, rfl, rfl, trivial⟩ fun ρ0 => ?_
      refine op_at i hA (by omega) rfl rfl rfl rfl rfl rfl rfl ?_
      intro x18 b18 d18 k18 hy18 hb18 hm18 hc18 ho18
      refine ⟨_, op_ldc (i := 0) rfl rfl rfl rfl hm18 hc18 rfl rfl, ?_⟩
      refine op_at i hB (by omega) rfl rfl rfl rfl rfl rfl rfl ?_
      intro x22 b22 d22 k22 hy22 hb22 hm22 hc22 ho22
      refine ⟨_, op_ldc (i := 0) rfl rfl rfl rfl hm22 hc22 rfl rfl, ?_⟩
      refine ⟨_, rfl, ?_⟩
      rintro (_|_) h24
      · replace h24 : x18 = x22 := bne_eq_false_iff_eq.1 h24
        refine AW.cut lo0 st [(0, vS p a.length), (1, vS q b.length), (5, vI (i : Int)), (12, vI (a.length : Int)), (13, vI (i : Int)), (14, vB true), (24, vB false)] ⟨rfl, rfl, rfl, rfl, rfl, rfl, rfl, trivial⟩ fun ρ0 => ?_
        refine cx_sound _ _ _ _ _ ?_
        have ew25 : IntKind.wrap .i64 ((i : Int) + (1)) = ((i + 1 : Nat) : Int) := (wrap_i64 (by omega) (by omega)).trans (by omega)
        refine ⟨_, rfl, ?_⟩
        exact ⟨i + 1, a.length - (i + 1), by omega, ⟨rfl, rfl, rfl, congrArg (Value.int .i64) ew25, trivial⟩, rfl, rfl, by omega, same_next (f := fun x => x) hy18 hy22 h24 heq, rfl⟩
      · replace h24 : ¬ (x18 = x22) := bne_iff_ne.1 h24
        refine AW.cut lo0 st [(0, vS p a.length), (1, vS q b.length), (5, vI (i : Int)), (12, vI (a.length : Int)), (13, vI (i : Int)), (14, vB true), (24, vB true)] ⟨rfl, rfl, rfl, rfl, rfl, rfl, rfl, trivial⟩ fun ρ0 => ?_
        refine cx_sound _ _ _ _ _ ?_
        exact ⟨.inl rfl, _, rfl, false, rfl, ⟨fun h => absurd h Bool.false_ne_true, fun h => (show False from (absurd (same_at hy18 hy22 h) h24)).elim⟩, rfl⟩
  · replace h10 : ¬ ((a.length : Int) = (b.length : Int)) := bne_iff_ne.1 h10
    refine AW.cut lo0 st [(0, vS p a.length), (1, vS q b.length), (4, vB false), (10, vB true)] ⟨rfl, rfl, rfl, rfl, trivial⟩ fun ρ0 => ?_
    refine cx_sound _ _ _ _ _ ?_
    exact ⟨.inl rfl, _, rfl, false, rfl, ⟨fun h => absurd h Bool.false_ne_true, fun h => (show False from (absurd (congrArg (fun l : List Int => (l.length : Int)) h) h10)).elim⟩, rfl⟩
theorem ac_slices_Equal_Mark (p q : Option Addr) (a b : List Flr) (st : St) (hA : Rows st 2 cFlr p a) (hB : Rows st 2 cFlr q b) (hs : szOk a.length) : C 90 [vS p a.length, vS q b.length] st (fun v s => ∃ x, v = .bool x ∧ (x = true ↔ a = b) ∧ s = st) := by
  have hs : a.length ≤ 1048576 := hs
  refine AC.enterX (i := ⟨[], [], [0, 1, 4, 5, 10, 12, 13, 14, 24]⟩) [(6, [], [])] Try.func90 rfl rfl (by kernel_rfl) (by kernel_rfl) Try.ntmps90 (Nat.le_of_ble_eq_true rfl) rfl ?_
  refine AW.cut lo0 st [(0, vS p a.length), (1, vS q b.length), (4, vB false)] ⟨rfl, rfl, rfl, trivial⟩ fun ρ0 => ?_
  iterate 3 refine ⟨_, rfl, ?_⟩
  rintro (_|_) h10
  · replace h10 : (a.length : Int) = (b.length : Int) := bne_eq_false_iff_eq.1 h10
    refine AW.cut lo0 st [(0, vS p a.length), (1, vS q b.length), (4, vB false), (10, vB false)] ⟨rfl, rfl, rfl, rfl, trivial⟩ fun ρ0 => ?_
    refine cx_sound _ _ _ _ _ ?_
    refine ⟨_, rfl, ?_⟩
    refine AW.cut lo0 st [(0, vS p a.length), (1, vS q b.length), (4, vB false), (12, vI (a.length : Int)), (13, vI (0))] ⟨rfl, rfl, rfl, rfl, rfl, trivial⟩ fun ρ0 => ?_
    refine AW.loop0 (fun i : Nat => [(0, vS p a.length), (1, vS q b.length), (12, vI (a.length : Int)), (13, vI (i : Int))]) (fun m (i : Nat) st' => m = a.length - i ∧ i ≤ a.length ∧ (∀ (j : Nat) x y, j < i → a[j]? = some x → b[j]? = some y → x = y) ∧ st = st') 0 _ ⟨rfl, rfl, rfl, rfl, trivial⟩ rfl ⟨rfl, Nat.zero_le _, fun j x y h => absurd h (Nat.not_lt_zero _), rfl⟩ ?_
    rintro m i ρ0 st' ⟨rfl, hi, heq, rfl⟩
    refine ⟨_, rfl, ?_⟩
    rintro (_|_) h14
    · replace h14 : ¬ ((i : Int) < (a.length : Int)) := of_decide_eq_false h14
      refine AW.cut lo0 st [(0, vS p a.length), (1, vS q b.length), (12, vI (a.length : Int)), (13, vI (i : Int)), (14, vB false)] ⟨rfl, rfl, rfl, rfl, rfl, trivial⟩ fun ρ0 => ?_
      refine cx_sound _ _ _ _ _ ?_
      refine cx_sound _ _ _ _ _ ?_
      exact ⟨.inl rfl, _, rfl, true, rfl, ⟨fun _ => iff_lists (by omega) fun j x y hj hx hy => heq j x y (by omega) hx hy, fun _ => rfl⟩, rfl⟩
    · replace h14 : (i : Int) < (a.length : Int) := of_decide_eq_true h14
      refine AW.cut lo0 st [(0, vS p a.length), (1, vS q b.length), (12, vI (a.length : Int)), (13, vI (i : Int)), (14, vB true)] ⟨rfl, rfl, rfl, rfl, rfl, trivial⟩ fun ρ0 => ?_
      refine cx_sound _ _ _ _ _ ?_
      refine AW.cut lo0 st [(0, vS p a.length), (1, vS q b.length), (5, vI (i : Int)), (12, vI (a.length : Int)), (13, vI (i : Int)), (14, vB true)] ⟨rfl, rfl, rfl, rfl, rfl, rfl, trivial⟩ fun ρ0 => ?_
      refine op_at i hA (by omega) rfl rfl rfl rfl rfl rfl rfl ?_
      intro x18 b18 d18 k18 hy18 hb18 hm18 hc18 ho18
      refine ⟨_, op_lda rfl rfl rfl rfl rfl hm18 hc18 rfl, ?_⟩
      refine op_at i hB (by omega) rfl rfl rfl rfl rfl rfl rfl ?_
      intro x22 b22 d22 k22 hy22 hb22 hm22 hc22 ho22
      refine ⟨_, op_lda rfl rfl rfl rfl rfl hm22 hc22 rfl, ?_⟩
      refine cmpS (neq_Mark x18 x22) ?_
      rintro (_|_) h24
      · replace h24 : x18 = x22 := Classical.byContradiction fun k => Bool.false_ne_true (h24.2 k)
        refine AW.cut lo0 st [(0, vS p a.length), (1, vS q b.length), (5, vI (i : Int)), (12, vI (a.length : Int)), (13, vI (i : Int)), (14, vB true), (24, vB false)] ⟨rfl, rfl, rfl, rfl, rfl, rfl, rfl, trivial⟩ fun ρ0 => ?_
        refine cx_sound _ _ _ _ _ ?_
        have ew25 : IntKind.wrap .i64 ((i : Int) + (1)) = ((i + 1 : Nat) : Int) := (wrap_i64 (by omega) (by omega)).trans (by omega)
        refine ⟨_, rfl, ?_⟩
        exact ⟨i + 1, a.length - (i + 1), by omega, ⟨rfl, rfl, rfl, congrArg (Value.int .i64) ew25, trivial⟩, rfl, rfl, by omega, same_next (f := fun x => x) hy18 hy22 h24 heq, rfl⟩
      · replace h24 : ¬ x18 = x22 := h24.1 rfl
        refine AW.cut lo0 st [(0, vS p a.length), (1, vS q b.length), (5, vI (i : Int)), (12, vI (a.length : Int)), (13, vI (i : Int)), (14, vB true), (24, vB true)] ⟨rfl, rfl, rfl, rfl, rfl, rfl, rfl, trivial⟩ fun ρ0 => ?_
        refine cx_sound _ _ _ _ _ ?_
        exact ⟨.inl rfl, _, rfl, false, rfl, ⟨fun h => absurd h Bool.false_ne_true, fun h => (show False from (absurd (same_at hy18 hy22 h) h24)).elim⟩, rfl⟩
  · replace h10 : ¬ ((a.length : Int) = (b.length : Int)) := bne_iff_ne.1 h10
    refine AW.cut lo0 st [(0, vS p a.length), (1, vS q b.length), (4, vB false), (10, vB true)] ⟨rfl, rfl, rfl, rfl, trivial⟩ fun ρ0 => ?_
    refine cx_sound _ _ _ _ _ ?_
    exact ⟨.inl rfl, _, rfl, false, rfl, ⟨fun h => absurd h Bool.false_ne_true, fun h => (show False from (absurd (congrArg (fun l : List Flr => (l.length : Int)) h) h10)).elim⟩, rfl⟩
theorem ac_slices_Equal_Floor (p q : Option Addr) (a b : List Flr) (st : St) (hA : Rows st 2 cFlr p a) (hB : Rows st 2 cFlr q b) (hs : szOk a.length) : C 151 [vS p a.length, vS q b.length] st (fun v s => ∃ x, v = .bool x ∧ (x = true ↔ a = b) ∧ s = st) := by
  have hs : a.length ≤ 1048576 := hs
  refine AC.enterX (i := ⟨[], [], [0, 1, 4, 5, 10, 12, 13, 14, 24]⟩) [(6, [], [])] Try.func151 rfl rfl (by kernel_rfl) (by kernel_rfl) Try.ntmps151 (Nat.le_of_ble_eq_true rfl) rfl ?_
  refine AW.cut lo0 st [(0, vS p a.length), (1, vS q b.length), (4, vB false)] ⟨rfl, rfl, rfl, trivial⟩ fun ρ0 => ?_
  iterate 3 refine ⟨_, rfl, ?_⟩
  rintro (_|_) h10
  · replace h10 : (a.length : Int) = (b.length : Int) := bne_eq_false_iff_eq.1 h10
    refine AW.cut lo0 st [(0, vS p a.length), (1, vS q b.length), (4, vB false), (10, vB false)] ⟨rfl, rfl, rfl, rfl, trivial⟩ fun ρ0 => ?_
    refine cx_sound _ _ _ _ _ ?_
    refine ⟨_, rfl, ?_⟩
    refine AW.cut lo0 st [(0, vS p a.length), (1, vS q b.length), (4, vB false), (12, vI (a.length : Int)), (13, vI (0))] ⟨rfl, rfl, rfl, rfl, rfl, trivial⟩ fun ρ0 => ?_
    refine AW.loop0 (fun i : Nat => [(0, vS p a.length), (1, vS q b.length), (12, vI (a.length : Int)), (13, vI (i : Int))]) (fun m (i : Nat) st' => m = a.length - i ∧ i ≤ a.length ∧ (∀ (j : Nat) x y, j < i → a[j]? = some x → b[j]? = some y → x = y) ∧ st = st') 0 _ ⟨rfl, rfl, rfl, rfl, trivial⟩ rfl ⟨rfl, Nat.zero_le _, fun j x y h => absurd h (Nat.not_lt_zero _), rfl⟩ ?_
    rintro m i ρ0 st' ⟨rfl, hi, heq, rfl⟩
    refine ⟨_, rfl, ?_⟩
    rintro (_|_) h14
    · replace h14 : ¬ ((i : Int) < (a.length : Int)) := of_decide_eq_false h14
      refine AW.cut lo0 st [(0, vS p a.length), (1, vS q b.length), (12, vI (a.length : Int)), (13, vI (i : Int)), (14, vB false)] ⟨rfl, rfl, rfl, rfl, rfl, trivial⟩ fun ρ0 => ?_
      refine cx_sound _ _ _ _ _ ?_
      refine cx_sound _ _ _ _ _ ?_
      exact ⟨.inl rfl, _, rfl, true, rfl, ⟨fun _ => iff_lists (by omega) fun j x y hj hx hy => heq j x y (by omega) hx hy, fun _ => rfl⟩, rfl⟩
    · replace h14 : (i : Int) < (a.length : Int) := of_decide_eq_true h14
      refine AW.cut lo0 st [(0, vS p a.length), (1, vS q b.length), (12, vI (a.length : Int)), (13, vI (i : Int)), (14, vB true)] ⟨rfl, rfl, rfl, rfl, rfl, trivial⟩ fun ρ0 => ?_
      refine cx_sound _ _ _ _ _ ?_
      refine AW.cut lo0 st [(0, vS p a.length), (1, vS q b.length), (5, vI (i : Int)), (12, vI (a.length : Int)), (13, vI (i : Int)), (14, vB true)] ⟨rfl, rfl, rfl, rfl, rfl, rfl, trivial⟩ fun ρ0 => ?_
      refine op_at i hA (by omega) rfl rfl rfl rfl rfl rfl rfl ?_
      intro x18 b18 d18 k18 hy18 hb18 hm18 hc18 ho18
      refine ⟨_, op_lda rfl rfl rfl rfl rfl hm18 hc18 rfl, ?_⟩
      refine op_at i hB (by omega) rfl rfl rfl rfl rfl rfl rfl ?_
      intro x22 b22 d22 k22 hy22 hb22 hm22 hc22 ho22
      refine ⟨_, op_lda rfl rfl rfl rfl rfl hm22 hc22 rfl, ?_⟩
      refine cmpS (neq_Floor x18 x22) ?_
      rintro (_|_) h24
      · replace h24 : x18 = x22 := Classical.byContradiction fun k => Bool.false_ne_true (h24.2 k)
        refine AW.cut lo0 st [(0, vS p a.length), (1, vS q b.length), (5, vI (i : Int)), (12, vI (a.length : Int)), (13, vI (i : Int)), (14, vB true), (24, vB false)] ⟨rfl, rfl, rfl, rfl, rfl, rfl, rfl, trivial⟩ fun ρ0 => ?_
        refine cx_sound _ _ _ _ _ ?_
        have ew25 : IntKind.wrap .i64 ((i : Int) + (1)) = ((i + 1 : Nat) : Int) := (wrap_i64 (by omega) (by omega)).trans (by omega)
        refine ⟨_, rfl, ?_⟩
        exact ⟨i + 1, a.length - (i + 1), by omega, ⟨rfl, rfl, rfl, congrArg (Value.int .i64) ew25, trivial⟩, rfl, rfl, by omega, same_next (f := fun x => x) hy18 hy22 h24 heq, rfl⟩
      · replace h24 : ¬ x18 = x22 := h24.1 rfl
        refine AW.cut lo0 st [(0, vS p a.length), (1, vS q b.length), (5, vI (i : Int)), (12, vI (a.length : Int)), (13, vI (i : Int)), (14, vB true), (24, vB true)] ⟨rfl, rfl, rfl, rfl, rfl, rfl, rfl, trivial⟩ fun ρ0 => ?_
        refine cx_sound _ _ _ _ _ ?_
        exact ⟨.inl rfl, _, rfl, false, rfl, ⟨fun h => absurd h Bool.false_ne_true, fun h => (show False from (absurd (same_at hy18 hy22 h) h24)).elim⟩, rfl⟩
  · replace h10 : ¬ ((a.length : Int) = (b.length : Int)) := bne_iff_ne.1 h10
    refine AW.cut lo0 st [(0, vS p a.length), (1, vS q b.length), (4, vB false), (10, vB true)] ⟨rfl, rfl, rfl, rfl, trivial⟩ fun ρ0 => ?_
    refine cx_sound _ _ _ _ _ ?_
    exact ⟨.inl rfl, _, rfl, false, rfl, ⟨fun h => absurd h Bool.false_ne_true, fun h => (show False from (absurd (congrArg (fun l : List Flr => (l.length : Int)) h) h10)).elim⟩, rfl⟩
theorem ac_slices_Equal_Item (p q : Option Addr) (a b : List Itm) (st : St) (hA : Rows st 6 cItm p a) (hB : Rows st 6 cItm q b) (hs : szOk a.length) : C 150 [vS p a.length, vS q b.length] st (fun v s => ∃ x, v = .bool x ∧ (x = true ↔ a = b) ∧ s = st) := by
  have hs : a.length ≤ 1048576 := hs
  refine AC.enterX (i := ⟨[], [], [0, 1, 4, 5, 10, 12, 13, 14, 24]⟩) [(6, [], [])] Try.func150 rfl rfl (by kernel_rfl) (by kernel_rfl) Try.ntmps150 (Nat.le_of_ble_eq_true rfl) rfl ?_
  refine AW.cut lo0 st [(0, vS p a.length), (1, vS q b.length), (4, vB false)] ⟨rfl, rfl, rfl, trivial⟩ fun ρ0 => ?_
  iterate 3 refine ⟨_, rfl, ?_⟩
  rintro (_|_) h10
  · replace h10 : (a.length : Int) = (b.length : Int) := bne_eq_false_iff_eq.1 h10
    refine AW.cut lo0 st [(0, vS p a.length), (1, vS q b.length), (4, vB false), (10, vB false)] ⟨rfl, rfl, rfl, rfl, trivial⟩ fun ρ0 => ?_
    refine cx_sound _ _ _ _ _ ?_
    refine ⟨_, rfl, ?_⟩
    refine AW.cut lo0 st [(0, vS p a.length), (1, vS q b.length), (4, vB false), (12, vI (a.length : Int)), (13, vI (0))] ⟨rfl, rfl, rfl, rfl, rfl, trivial⟩ fun ρ0 => ?_
    refine AW.loop0 (fun i : Nat => [(0, vS p a.length), (1, vS q b.length), (12, vI (a.length : Int)), (13, vI (i : Int))]) (fun m (i : Nat) st' => m = a.length - i ∧ i ≤ a.length ∧ (∀ (j : Nat) x y, j < i → a[j]? = some x → b[j]? = some y → x = y) ∧ st = st') 0 _ ⟨rfl, rfl, rfl, rfl, trivial⟩ rfl ⟨rfl, Nat.zero_le _, fun j x y h => absurd h (Nat.not_lt_zero _), rfl⟩ ?_
    rintro m i ρ0 st' ⟨rfl, hi, heq, rfl⟩
    refine ⟨_, rfl, ?_⟩
    rintro (_|_) h14
    · replace h14 : ¬ ((i : Int) < (a.length : Int)) := of_decide_eq_false h14
      refine AW.cut lo0 st [(0, vS p a.length), (1, vS q b.length), (12, vI (a.length : Int)), (13, vI (i : Int)), (14, vB false)] ⟨rfl, rfl, rfl, rfl, rfl, trivial⟩ fun ρ0 => ?_
      refine cx_sound _ _ _ _ _ ?_
      refine cx_sound _ _ _ _ _ ?_
      exact ⟨.inl rfl, _, rfl, true, rfl, ⟨fun _ => iff_lists (by omega) fun j x y hj hx hy => heq j x y (by omega) hx hy, fun _ => rfl⟩, rfl⟩
    · replace h14 : (i : Int) < (a.length : Int) := of_decide_eq_true h14
      refine AW.cut lo0 st [(0, vS p a.length), (1, vS q b.length), (12, vI (a.length : Int)), (13, vI (i : Int)), (14, vB true)] ⟨rfl, rfl, rfl, rfl, rfl, trivial⟩ fun ρ0 => ?_
      refine cx_sound _ _ _ _ _ ?_
      refine AW.cut lo0 st [(0, vS p a.length), (1, vS q b.length), (5, vI (i : Int)), (12, vI (a.length : Int)), (13, vI (i : Int)), (14, vB true)] ⟨rfl, rfl, rfl, rfl, rfl, rfl, trivial⟩ fun ρ0 => ?_
      refine op_at i hA (by omega) rfl rfl rfl rfl rfl rfl rfl ?_
      intro x18 b18 d18 k18 hy18 hb18 hm18 hc18 ho18
      refine ⟨_, op_lda rfl rfl rfl rfl rfl hm18 hc18 rfl, ?_⟩
      refine op_at i hB (by omega) rfl rfl rfl rfl rfl rfl rfl ?_
      intro x22 b22 d22 k22 hy22 hb22 hm22 hc22 ho22
      refine ⟨_, op_lda rfl rfl rfl rfl rfl hm22 hc22 rfl, ?_⟩
      refine cmpS (neq_Item x18 x22) ?_
      rintro (_|_) h24
      · replace h24 : x18 = x22 := Classical.byContradiction fun k => Bool.false_ne_true (h24.2 k)
        refine AW.cut lo0 st [(0, vS p a.length), (1, vS q b.length), (5, vI (i : Int)), (12, vI (a.length : Int)), (13, vI (i : Int)), (14, vB true), (24, vB false)] ⟨rfl, rfl, rfl, rfl, rfl, rfl, rfl, trivial⟩ fun ρ0 => ?_
        refine cx_sound _ _ _ _ _ ?_
        have ew25 : IntKind.wrap .i64 ((i : Int) + (1)) = ((i + 1 : Nat) : Int) := (wrap_i64 (by omega) (by omega)).trans (by omega)
        refine ⟨_, rfl, ?_⟩
        exact ⟨i + 1, a.length - (i + 1), by omega, ⟨rfl, rfl, rfl, congrArg (Value.int .i64) ew25, trivial⟩, rfl, rfl, by omega, same_next (f := fun x => x) hy18 hy22 h24 heq, rfl⟩
      · replace h24 : ¬ x18 = x22 := h24.1 rfl
        refine AW.cut lo0 st [(0, vS p a.length), (1, vS q b.length), (5, vI (i : Int)), (12, vI (a.length : Int)), (13, vI (i : Int)), (14, vB true), (24, vB true)] ⟨rfl, rfl, rfl, rfl, rfl, rfl, rfl, trivial⟩ fun ρ0 => ?_
        refine cx_sound _ _ _ _ _ ?_
        exact ⟨.inl rfl, _, rfl, false, rfl, ⟨fun h => absurd h Bool.false_ne_true, fun h => (show False from (absurd (same_at hy18 hy22 h) h24)).elim⟩, rfl⟩
  · replace h10 : ¬ ((a.length : Int) = (b.length : Int)) := bne_iff_ne.1 h10
    refine AW.cut lo0 st [(0, vS p a.length), (1, vS q b.length), (4, vB false), (10, vB true)] ⟨rfl, rfl, rfl, rfl, trivial⟩ fun ρ0 => ?_
    refine cx_sound _ _ _ _ _ ?_
    exact ⟨.inl rfl, _, rfl, false, rfl, ⟨fun h => absurd h Bool.false_ne_true, fun h => (show False from (absurd (congrArg (fun l : List Itm => (l.length : Int)) h) h10)).elim⟩, rfl⟩
theorem ac_slices_Equal_Sess (p q : Option Addr) (a b : List Ses) (st : St) (hA : Rows st 4 cSess p a) (hB : Rows st 4 cSess q b) (hs : szOk a.length) : C 120 [vS p a.length, vS q b.length] st (fun v s => ∃ x, v = .bool x ∧ (x = true ↔ a = b) ∧ s = st) := by
  have hs : a.length ≤ 1048576 := hs
  refine AC.enterX (i := ⟨[], [], [0, 1, 4, 5, 10, 12, 13, 14, 24]⟩) [(6, [], [])] Try.func120 rfl rfl (by kernel_rfl) (by kernel_rfl) Try.ntmps120 (Nat.le_of_ble_eq_true rfl) rfl ?_
  refine AW.cut lo0 st [(0, vS p a.length), (1, vS q b.length), (4, vB false)] ⟨rfl, rfl, rfl, trivial⟩ fun ρ0 => ?_
  iterate 3 refine ⟨_, rfl, ?_⟩
  rintro (_|_) h10
  · replace h10 : (a.length : Int) = (b.length : Int) := bne_eq_false_iff_eq.1 h10
    refine AW.cut lo0 st [(0, vS p a.length), (1, vS q b.length), (4, vB false), (10, vB false)] ⟨rfl, rfl, rfl, rfl, trivial⟩ fun ρ0 => ?_
    refine cx_sound _ _ _ _ _ ?_
    refine ⟨_, rfl, ?_⟩
    refine AW.cut lo0 st [(0, vS p a.length), (1, vS q b.length), (4, vB false), (12, vI (a.length : Int)), (13, vI (0))] ⟨rfl, rfl, rfl, rfl, rfl, trivial⟩ fun ρ0 => ?_
    refine AW.loop0 (fun i : Nat => [(0, vS p a.length), (1, vS q b.length), (12, vI (a.length : Int)), (13, vI (i : Int))]) (fun m (i : Nat) st' => m = a.length - i ∧ i ≤ a.length ∧ (∀ (j : Nat) x y, j < i → a[j]? = some x → b[j]? = some y → x = y) ∧ st = st') 0 _ ⟨rfl, rfl, rfl, rfl, trivial⟩ rfl ⟨rfl, Nat.zero_le _, fun j x y h => absurd h (Nat.not_lt_zero _), rfl⟩ ?_
    rintro m i ρ0 st' ⟨rfl, hi, heq, rfl⟩
    refine ⟨_, rfl, ?_⟩
    rintro (_|_) h14
    · replace h14 : ¬ ((i : Int) < (a.length : Int)) := of_decide_eq_false h14
      refine AW.cut lo0 st [(0, vS p a.length), (1, vS q b.length), (12, vI (a.length : Int)), (13, vI (i : Int)), (14, vB false)] ⟨rfl, rfl, rfl, rfl, rfl, trivial⟩ fun ρ0 => ?_
      refine cx_sound _ _ _ _ _ ?_
      refine cx_sound _ _ _ _ _ ?_
      exact ⟨.inl rfl, _, rfl, true, rfl, ⟨fun _ => iff_lists (by omega) fun j x y hj hx hy => heq j x y (by omega) hx hy, fun _ => rfl⟩, rfl⟩
    · replace h14 : (i : Int) < (a.length : Int) := of_decide_eq_true h14
      refine AW.cut lo0 st [(0, vS p a.length), (1, vS q b.length), (12, vI (a.length : Int)), (13, vI (i : Int)), (14, vB true)] ⟨rfl, rfl, rfl, rfl, rfl, trivial⟩ fun ρ0 => ?_
      refine cx_sound _ _ _ _ _ ?_
      refine AW.cut lo0 st [(0, vS p a.length), (1, vS q b.length), (5, vI (i : Int)), (12, vI (a.length : Int)), (13, vI (i : Int)), (14, vB true)] ⟨rfl, rfl, rfl, rfl, rfl, rfl, trivial⟩ fun ρ0 => ?_
      refine op_at i hA (by omega) rfl rfl rfl rfl rfl rfl rfl ?_
      intro x18 b18 d18 k18 hy18 hb18 hm18 hc18 ho18
      refine ⟨_, op_lda rfl rfl rfl rfl rfl hm18 hc18 rfl, ?_⟩
      refine op_at i hB (by omega) rfl rfl rfl rfl rfl rfl rfl ?_
      intro x22 b22 d22 k22 hy22 hb22 hm22 hc22 ho22
      refine ⟨_, op_lda rfl rfl rfl rfl rfl hm22 hc22 rfl, ?_⟩
      refine cmpS (neq_Sess x18 x22) ?_
      rintro (_|_) h24
      · replace h24 : x18 = x22 := Classical.byContradiction fun k => Bool.false_ne_true (h24.2 k)
        refine AW.cut lo0 st [(0, vS p a.length), (1, vS q b.length), (5, vI (i : Int)), (12, vI (a.length : Int)), (13, vI (i : Int)), (14, vB true), (24, vB false)] ⟨rfl, rfl, rfl, rfl, rfl, rfl, rfl, trivial⟩ fun ρ0 => ?_
        refine cx_sound _ _ _ _ _ ?_
        have ew25 : IntKind.wrap .i64 ((i : Int) + (1)) = ((i + 1 : Nat) : Int) := (wrap_i64 (by omega) (by omega)).trans (by omega)
        refine ⟨_, rfl, ?_⟩
        exact ⟨i + 1, a.length - (i + 1), by omega, ⟨rfl, rfl, rfl, congrArg (Value.int .i64) ew25, trivial⟩, rfl, rfl, by omega, same_next (f := fun x => x) hy18 hy22 h24 heq, rfl⟩
      · replace h24 : ¬ x18 = x22 := h24.1 rfl
        refine AW.cut lo0 st [(0, vS p a.length), (1, vS q b.length), (5, vI (i : Int)), (12, vI (a.length : Int)), (13, vI (i : Int)), (14, vB true), (24, vB true)] ⟨rfl, rfl, rfl, rfl, rfl, rfl, rfl, trivial⟩ fun ρ0 => ?_
        refine cx_sound _ _ _ _ _ ?_
        exact ⟨.inl rfl, _, rfl, false, rfl, ⟨fun h => absurd h Bool.false_ne_true, fun h => (show False from (absurd (same_at hy18 hy22 h) h24)).elim⟩, rfl⟩
  · replace h10 : ¬ ((a.length : Int) = (b.length : Int)) := bne_iff_ne.1 h10
    refine AW.cut lo0 st [(0, vS p a.length), (1, vS q b.length), (4, vB false), (10, vB true)] ⟨rfl, rfl, rfl, rfl, trivial⟩ fun ρ0 => ?_
    refine cx_sound _ _ _ _ _ ?_
    exact ⟨.inl rfl, _, rfl, false, rfl, ⟨fun h => absurd h Bool.false_ne_true, fun h => (show False from (absurd (congrArg (fun l : List Ses => (l.length : Int)) h) h10)).elim⟩, rfl⟩
theorem ac_slices_Equal_Rise (p q : Option Addr) (a b : List Ris) (st : St) (hA : Rows st 3 cRise p a) (hB : Rows st 3 cRise q b) (hs : szOk a.length) : C 121 [vS p a.length, vS q b.length] st (fun v s => ∃ x, v = .bool x ∧ (x = true ↔ a = b) ∧ s = st) := by
  have hs : a.length ≤ 1048576 := hs
  refine AC.enterX (i := ⟨[], [], [0, 1, 4, 5, 10, 12, 13, 14, 24]⟩) [(6, [], [])] Try.func121 rfl rfl (by kernel_rfl) (by kernel_rfl) Try.ntmps121 (Nat.le_of_ble_eq_true rfl) rfl ?_
  refine AW.cut lo0 st [(0, vS p a.length), (1, vS q b.length), (4, vB false)] ⟨rfl, rfl, rfl, trivial⟩ fun ρ0 => ?_
  iterate 3 refine ⟨_, rfl, ?_⟩
  rintro (_|_) h10
  · replace h10 : (a.length : Int) = (b.length : Int) := bne_eq_false_iff_eq.1 h10
    refine AW.cut lo0 st [(0, vS p a.length), (1, vS q b.length), (4, vB false), (10, vB false)] ⟨rfl, rfl, rfl, rfl, trivial⟩ fun ρ0 => ?_
    refine cx_sound _ _ _ _ _ ?_
    refine ⟨_, rfl, ?_⟩
    refine AW.cut lo0 st [(0, vS p a.length), (1, vS q b.length), (4, vB false), (12, vI (a.length : Int)), (13, vI (0))] ⟨rfl, rfl, rfl, rfl, rfl, trivial⟩ fun ρ0 => ?_
    refine AW.loop0 (fun i : Nat => [(0, vS p a.length), (1, vS q b.length), (12, vI (a.length : Int)), (13, vI (i : Int))]) (fun m (i : Nat) st' => m = a.length - i ∧ i ≤ a.length ∧ (∀ (j : Nat) x y, j < i → a[j]? = some x → b[j]? = some y → x = y) ∧ st = st') 0 _ ⟨rfl, rfl, rfl, rfl, trivial⟩ rfl ⟨rfl, Nat.zero_le _, fun j x y h => absurd h (Nat.not_lt_zero _), rfl⟩ ?_
    rintro m i ρ0 st' ⟨rfl, hi, heq, rfl⟩
    refine ⟨_, rfl, ?_⟩
    rintro (_|_) h14
    · replace h14 : ¬ ((i : Int) < (a.length : Int)) := of_decide_eq_false h14
      refine AW.cut lo0 st [(0, vS p a.length), (1, vS q b.length), (12, vI (a.length : Int)), (13, vI (i : Int)), (14, vB false)] ⟨rfl, rfl, rfl, rfl, rfl, trivial⟩ fun ρ0 => ?_
      refine cx_sound _ _ _ _ _ ?_
      refine cx_sound _ _ _ _ _ ?_
      exact ⟨.inl rfl, _, rfl, true, rfl, ⟨fun _ => iff_lists (by omega) fun j x y hj hx hy => heq j x y (by omega) hx hy, fun _ => rfl⟩, rfl⟩
    · replace h14 : (i : Int) < (a.length : Int) := of_decide_eq_true h14
      refine AW.cut lo0 st [(0, vS p a.length), (1, vS q b.length), (12, vI (a.length : Int)), (13, vI (i : Int)), (14, vB true)] ⟨rfl, rfl, rfl, rfl, rfl, trivial⟩ fun ρ0 => ?_
      refine cx_sound _ _ _ _ _ ?_
      refine AW.cut lo0 st [(0, vS p a.length), (1, vS q b.length), (5, vI (i : Int)), (12, vI (a.length : Int)), (13, vI (i : Int)), (14, vB true)] ⟨rfl, rfl, rfl, rfl, rfl, rfl, trivial⟩ fun ρ0 => ?_
      refine op_at i hA (by omega) rfl rfl rfl rfl rfl rfl rfl ?_
      intro x18 b18 d18 k18 hy18 hb18 hm18 hc18 ho18
      refine ⟨_, op_lda rfl rfl rfl rfl rfl hm18 hc18 rfl, ?_⟩
      refine op_at i hB (by omega) rfl rfl rfl rfl rfl rfl rfl ?_
      intro x22 b22 d22 k22 hy22 hb22 hm22 hc22 ho22
      refine ⟨_, op_lda rfl rfl rfl rfl rfl hm22 hc22 rfl, ?_⟩
      refine cmpS (neq_Rise x18 x22) ?_
      rintro (_|_) h24
      · replace h24 : x18 = x22 := Classical.byContradiction fun k => Bool.false_ne_true (h24.2 k)
        refine AW.cut lo0 st [(0, vS p a.length), (1, vS q b.length), (5, vI (i : Int)), (12, vI (a.length : Int)), (13, vI (i : Int)), (14, vB true), (24, vB false)] ⟨rfl, rfl, rfl, rfl, rfl, rfl, rfl, trivial⟩ fun ρ0 => ?_
        refine cx_sound _ _ _ _ _ ?_
        have ew25 : IntKind.wrap .i64 ((i : Int) + (1)) = ((i + 1 : Nat) : Int) := (wrap_i64 (by omega) (by omega)).trans (by omega)
        refine ⟨_, rfl, ?_⟩
        exact ⟨i + 1, a.length - (i + 1), by omega, ⟨rfl, rfl, rfl, congrArg (Value.int .i64) ew25, trivial⟩, rfl, rfl, by omega, same_next (f := fun x => x) hy18 hy22 h24 heq, rfl⟩
      · replace h24 : ¬ x18 = x22 := h24.1 rfl
        refine AW.cut lo0 st [(0, vS p a.length), (1, vS q b.length), (5, vI (i : Int)), (12, vI (a.length : Int)), (13, vI (i : Int)), (14, vB true), (24, vB true)] ⟨rfl, rfl, rfl, rfl, rfl, rfl, rfl, trivial⟩ fun ρ0 => ?_
        refine cx_sound _ _ _ _ _ ?_
        exact ⟨.inl rfl, _, rfl, false, rfl, ⟨fun h => absurd h Bool.false_ne_true, fun h => (show False from (absurd (same_at hy18 hy22 h) h24)).elim⟩, rfl⟩
  · replace h10 : ¬ ((a.length : Int) = (b.length : Int)) := bne_iff_ne.1 h10
    refine AW.cut lo0 st [(0, vS p a.length), (1, vS q b.length), (4, vB false), (10, vB true)] ⟨rfl, rfl, rfl, rfl, trivial⟩ fun ρ0 => ?_
    refine cx_sound _ _ _ _ _ ?_
    exact ⟨.inl rfl, _, rfl, false, rfl, ⟨fun h => absurd h Bool.false_ne_true, fun h => (show False from (absurd (congrArg (fun l : List Ris => (l.length : Int)) h) h10)).elim⟩, rfl⟩
theorem ac_spec_l1Same (p q : Option Addr) (a b : List Int) (st : St) (hA : Rows st 1 fI p a) (hB : Rows st 1 fI q b) (hs : szOk a.length) : C 82 [vS p a.length, vS q b.length] st (fun v s => ∃ x, v = .bool x ∧ (x = true ↔ a = b) ∧ s = st) := by
  have hs : a.length ≤ 1048576 := hs
  refine AC.enterX (i := ⟨[], [], [0, 1, 4, 5, 10, 14, 25]⟩) [(6, [], [])] Try.func82 rfl rfl (by kernel_rfl) (by kernel_rfl) Try.ntmps82 (Nat.le_of_ble_eq_true rfl) rfl ?_
  refine AW.cut lo0 st [(0, vS p a.length), (1, vS q b.length), (4, vB false)] ⟨rfl, rfl, rfl, trivial⟩ fun ρ0 => ?_
  iterate 3 refine ⟨_, rfl, ?_⟩
  rintro (_|_) h10
  · replace h10 : (a.length : Int) = (b.length : Int) := bne_eq_false_iff_eq.1 h10
    refine AW.cut lo0 st [(0, vS p a.length), (1, vS q b.length), (4, vB false), (10, vB false)] ⟨rfl, rfl, rfl, rfl, trivial⟩ fun ρ0 => ?_
    refine cx_sound _ _ _ _ _ ?_
    refine AW.cut lo0 st [(0, vS p a.length), (1, vS q b.length), (4, vB false), (5, vI (0))] ⟨rfl, rfl, rfl, rfl, trivial⟩ fun ρ0 => ?_
    refine AW.loop0 (fun i : Nat => [(0, vS p a.length), (1, vS q b.length), (5, vI (i : Int))]) (fun m (i : Nat) st' => m = a.length - i ∧ i ≤ a.length ∧ (∀ (j : Nat) x y, j < i → a[j]? = some x → b[j]? = some y → x = y) ∧ st = st') 0 _ ⟨rfl, rfl, rfl, trivial⟩ rfl ⟨rfl, Nat.zero_le _, fun j x y h => absurd h (Nat.not_lt_zero _), rfl⟩ ?_
    rintro m i ρ0 st' ⟨rfl, hi, heq, rfl⟩
    iterate 2 refine ⟨_, rfl, ?_⟩
    rintro (_|_) h14
    · replace h14 : ¬ ((i : Int) < (a.length : Int)) := of_decide_eq_false h14
      refine AW.cut lo0 st [(0, vS p a.length), (1, vS q b.length), (5, vI (i : Int)), (14, vB false)] ⟨rfl, rfl, rfl, rfl, trivial⟩ fun ρ0 => ?_
      refine cx_sound _ _ _ _ _ ?_
      refine cx_sound _ _ _ _ _ ?_
      exact ⟨.inl rfl, _, rfl, true, rfl, ⟨fun _ => iff_lists (by omega) fun j x y hj hx hy => heq j x y (by omega) hx hy, fun _ => rfl⟩, rfl⟩
    · replace h14 : (i : Int) < (a.length : Int) := of_decide_eq_true h14
      refine AW.cut lo0 st [(0, vS p a.length), (1, vS q b.length), (5, vI (i : Int)), (14, vB true)] ⟨rfl, rfl, rfl, rfl, trivial⟩ fun ρ0 => ?_
      refine cx_sound _ _ _ _ _ ?_
      refine op_at i hA (by omega) rfl rfl rfl rfl rfl rfl rfl ?_
      intro x19 b19 d19 k19 hy19 hb19 hm19 hc19 ho19
      refine ⟨_, op_ldc (i := 0) rfl rfl rfl rfl hm19 hc19 rfl rfl, ?_⟩
      refine op_at i hB (by omega) rfl rfl rfl rfl rfl rfl rfl ?_
      intro x23 b23 d23 k23 hy23 hb23 hm23 hc23 ho23
      refine ⟨_, op_ldc (i := 0) rfl rfl rfl rfl hm23 hc23 rfl rfl, ?_⟩
      refine ⟨_, rfl, ?_⟩
      rintro (_|_) h25
      · replace h25 : x19 = x23 := bne_eq_false_iff_eq.1 h25
        refine AW.cut lo0 st [(0, vS p a.length), (1, vS q b.length), (5, vI (i : Int)), (14, vB true), (25, vB false)] ⟨rfl, rfl, rfl, rfl, rfl, trivial⟩ fun ρ0 => ?_
        refine cx_sound _ _ _ _ _ ?_
        have ew16 : IntKind.wrap .i64 ((i : Int) + (1)) = ((i + 1 : Nat) : Int) := (wrap_i64 (by omega) (by omega)).trans (by omega)
        refine ⟨_, rfl, ?_⟩
        exact ⟨i + 1, a.length - (i + 1), by omega, ⟨rfl, rfl, congrArg (Value.int .i64) ew16, trivial⟩, rfl, rfl, by omega, same_next (f := fun x => x) hy19 hy23 h25 heq, rfl⟩
      · replace h25 : ¬ (x19 = x23) := bne_iff_ne.1 h25
        refine AW.cut lo0 st [(0, vS p a.length), (1, vS q b.length), (5, vI (i : Int)), (14, vB true), (25, vB true)] ⟨rfl, rfl, rfl, rfl, rfl, trivial⟩ fun ρ0 => ?_
        refine cx_sound _ _ _ _ _ ?_
        exact ⟨.inl rfl, _, rfl, false, rfl, ⟨fun h => absurd h Bool.false_ne_true, fun h => (show False from (absurd (same_at hy19 hy23 h) h25)).elim⟩, rfl⟩
  · replace h10 : ¬ ((a.length : Int) = (b.length : Int)) := bne_iff_ne.1 h10
    refine AW.cut lo0 st [(0, vS p a.length), (1, vS q b.length), (4, vB false), (10, vB true)] ⟨rfl, rfl, rfl, rfl, trivial⟩ fun ρ0 => ?_
    refine cx_sound _ _ _ _ _ ?_
    exact ⟨.inl rfl, _, rfl, false, rfl, ⟨fun h => absurd h Bool.false_ne_true, fun h => (show False from (absurd (congrArg (fun l : List Int => (l.length : Int)) h) h10)).elim⟩, rfl⟩
theorem ac_spec_l10Marks (p q : Option Addr) (a b : List Flr) (st : St) (hA : Rows st 2 cFlr p a) (hB : Rows st 2 cFlr q b) (hs : szOk a.length) : C 84 [vS p a.length, vS q b.length] st (fun v s => ∃ x, v = .bool x ∧ (x = true ↔ a = b) ∧ s = st) := by
  have hs : a.length ≤ 1048576 := hs
  refine AC.enterX (i := ⟨[], [], [0, 1, 4, 5, 10, 14, 25]⟩) [(6, [], [])] Try.func84 rfl rfl (by kernel_rfl) (by kernel_rfl) Try.ntmps84 (Nat.le_of_ble_eq_true rfl) rfl ?_
  refine AW.cut lo0 st [(0, vS p a.length), (1, vS q b.length), (4, vB false)] ⟨rfl, rfl, rfl, trivial⟩ fun ρ0 => ?_
  iterate 3 refine ⟨_, rfl, ?_⟩
  rintro (_|_) h10
  · replace h10 : (a.length : Int) = (b.length : Int) := bne_eq_false_iff_eq.1 h10
    refine AW.cut lo0 st [(0, vS p a.length), (1, vS q b.length), (4, vB false), (10, vB false)] ⟨rfl, rfl, rfl, rfl, trivial⟩ fun ρ0 => ?_
    refine cx_sound _ _ _ _ _ ?_
    refine AW.cut lo0 st [(0, vS p a.length), (1, vS q b.length), (4, vB false), (5, vI (0))] ⟨rfl, rfl, rfl, rfl, trivial⟩ fun ρ0 => ?_
    refine AW.loop0 (fun i : Nat => [(0, vS p a.length), (1, vS q b.length), (5, vI (i : Int))]) (fun m (i : Nat) st' => m = a.length - i ∧ i ≤ a.length ∧ (∀ (j : Nat) x y, j < i → a[j]? = some x → b[j]? = some y → x = y) ∧ st = st') 0 _ ⟨rfl, rfl, rfl, trivial⟩ rfl ⟨rfl, Nat.zero_le _, fun j x y h => absurd h (Nat.not_lt_zero _), rfl⟩ ?_
    rintro m i ρ0 st' ⟨rfl, hi, heq, rfl⟩
    iterate 2 refine ⟨_, rfl, ?_⟩
    rintro (_|_) h14
    · replace h14 : ¬ ((i : Int) < (a.length : Int)) := of_decide_eq_false h14
      refine AW.cut lo0 st [(0, vS p a.length), (1, vS q b.length), (5, vI (i : Int)), (14, vB false)] ⟨rfl, rfl, rfl, rfl, trivial⟩ fun ρ0 => ?_
      refine cx_sound _ _ _ _ _ ?_
      refine cx_sound _ _ _ _ _ ?_
      exact ⟨.inl rfl, _, rfl, true, rfl, ⟨fun _ => iff_lists (by omega) fun j x y hj hx hy => heq j x y (by omega) hx hy, fun _ => rfl⟩, rfl⟩
    · replace h14 : (i : Int) < (a.length : Int) := of_decide_eq_true h14
      refine AW.cut lo0 st [(0, vS p a.length), (1, vS q b.length), (5, vI (i : Int)), (14, vB true)] ⟨rfl, rfl, rfl, rfl, trivial⟩ fun ρ0 => ?_
      refine cx_sound _ _ _ _ _ ?_
      refine op_at i hA (by omega) rfl rfl rfl rfl rfl rfl rfl ?_
      intro x19 b19 d19 k19 hy19 hb19 hm19 hc19 ho19
      refine ⟨_, op_lda rfl rfl rfl rfl rfl hm19 hc19 rfl, ?_⟩
      refine op_at i hB (by omega) rfl rfl rfl rfl rfl rfl rfl ?_
      intro x23 b23 d23 k23 hy23 hb23 hm23 hc23 ho23
      refine ⟨_, op_lda rfl rfl rfl rfl rfl hm23 hc23 rfl, ?_⟩
      refine cmpS (neq_Mark x19 x23) ?_
      rintro (_|_) h25
      · replace h25 : x19 = x23 := Classical.byContradiction fun k => Bool.false_ne_true (h25.2 k)
        refine AW.cut lo0 st [(0, vS p a.length), (1, vS q b.length), (5, vI (i : Int)), (14, vB true), (25, vB false)] ⟨rfl, rfl, rfl, rfl, rfl, trivial⟩ fun ρ0 => ?_
        refine cx_sound _ _ _ _ _ ?_
        have ew16 : IntKind.wrap .i64 ((i : Int) + (1)) = ((i + 1 : Nat) : Int) := (wrap_i64 (by omega) (by omega)).trans (by omega)
        refine ⟨_, rfl, ?_⟩
        exact ⟨i + 1, a.length - (i + 1), by omega, ⟨rfl, rfl, congrArg (Value.int .i64) ew16, trivial⟩, rfl, rfl, by omega, same_next (f := fun x => x) hy19 hy23 h25 heq, rfl⟩
      · replace h25 : ¬ x19 = x23 := h25.1 rfl
        refine AW.cut lo0 st [(0, vS p a.length), (1, vS q b.length), (5, vI (i : Int)), (14, vB true), (25, vB true)] ⟨rfl, rfl, rfl, rfl, rfl, trivial⟩ fun ρ0 => ?_
        refine cx_sound _ _ _ _ _ ?_
        exact ⟨.inl rfl, _, rfl, false, rfl, ⟨fun h => absurd h Bool.false_ne_true, fun h => (show False from (absurd (same_at hy19 hy23 h) h25)).elim⟩, rfl⟩
  · replace h10 : ¬ ((a.length : Int) = (b.length : Int)) := bne_iff_ne.1 h10
    refine AW.cut lo0 st [(0, vS p a.length), (1, vS q b.length), (4, vB false), (10, vB true)] ⟨rfl, rfl, rfl, rfl, trivial⟩ fun ρ0 => ?_
    refine cx_sound _ _ _ _ _ ?_
    exact ⟨.inl rfl, _, rfl, false, rfl, ⟨fun h => absurd h Bool.false_ne_true, fun h => (show False from (absurd (congrArg (fun l : List Flr => (l.length : Int)) h) h10)).elim⟩, rfl⟩
theorem ac_impl_StateSame (a b : SV) (st : St) (hA : RdS st a) (hB : RdS st b) (hb : bigS a.x) : C 89 [.agg #[vS a.p a.x.items.length, vS a.q a.x.floors.length], .agg #[vS b.p b.x.items.length, vS b.q b.x.floors.length]] st (fun v s => ∃ x, v = .bool x ∧ (x = true ↔ a.x = b.x) ∧ s = st) := by
  have hs1 := hb.1
  have hs2 := hb.2.1
  refine AC.enterX (i := ⟨[2, 3], [2, 3, 5, 7, 11, 13], [0, 1, 2, 3, 4]⟩) [] Try.func89 rfl rfl (by kernel_rfl) (by kernel_rfl) Try.ntmps89 (Nat.le_of_ble_eq_true rfl) rfl ?_
  iterate 2 refine ⟨_, rfl, ?_⟩
  refine AW.cutM (2) st [(2, vL 2 0 (0)), (3, vL 3 0 (1)), (4, vB false)] [(2, 0, [vS a.p a.x.items.length, vS a.q a.x.floors.length]), (3, 1, [vS b.p b.x.items.length, vS b.q b.x.floors.length])] ⟨rfl, rfl, rfl, trivial⟩ ⟨rfl, rfl, trivial⟩ rfl fun ρ0 ff => ?_
  refine ⟨_, rfl, ?_⟩
  refine ⟨_, op_ldo rfl rfl rfl rfl, ?_⟩
  refine ⟨_, rfl, ?_⟩
  refine ⟨_, op_ldo rfl rfl rfl rfl, ?_⟩
  refine ⟨_, rfl, (ac_slices_Equal_Item a.p b.p a.x.items b.x.items st hA.1 hB.1 (by first | assumption | omega)).mono ?_⟩
  rintro _ st ⟨x9, rfl, h9, rfl⟩
  rcases x9 with _|_
  · replace h9 := fun k => Bool.false_ne_true (h9.2 k)
    refine ⟨_, rfl, ?_⟩
    refine cx_sound _ _ _ _ _ ?_
    exact ⟨.inl rfl, _, rfl, false, rfl, ⟨fun h => absurd h Bool.false_ne_true, fun h => (show False from (absurd (congrArg Sta.items h) h9)).elim⟩, rfl⟩
  · replace h9 := h9.1 rfl
    refine ⟨_, rfl, ?_⟩
    refine ⟨_, op_ldo rfl rfl rfl rfl, ?_⟩
    refine ⟨_, rfl, ?_⟩
    refine ⟨_, op_ldo rfl rfl rfl rfl, ?_⟩
    refine ⟨_, rfl, (ac_slices_Equal_Floor a.q b.q a.x.floors b.x.floors st hA.2 hB.2 (by first | assumption | omega)).mono ?_⟩
    rintro _ st ⟨x15, rfl, h15, rfl⟩
    rcases x15 with _|_
    · replace h15 := fun k => Bool.false_ne_true (h15.2 k)
      refine ⟨_, rfl, ?_⟩
      refine cx_sound _ _ _ _ _ ?_
      exact ⟨.inl rfl, _, rfl, false, rfl, ⟨fun h => absurd h Bool.false_ne_true, fun h => (show False from (absurd (congrArg Sta.floors h) h15)).elim⟩, rfl⟩
    · replace h15 := h15.1 rfl
      refine ⟨_, rfl, ?_⟩
      refine cx_sound _ _ _ _ _ ?_
      exact ⟨.inl rfl, _, rfl, true, rfl, ⟨fun _ => sta_ext h9 h15, fun _ => rfl⟩, rfl⟩
theorem ac_spec_StateSame (a b : SV) (st : St) (hA : RdS st a) (hB : RdS st b) (hb : bigS a.x) : C 83 [.agg #[vS a.p a.x.items.length, vS a.q a.x.floors.length], .agg #[vS b.p b.x.items.length, vS b.q b.x.floors.length]] st (fun v s => ∃ x, v = .bool x ∧ (x = true ↔ a.x = b.x) ∧ s = st) := by
  have hs1 : a.x.items.length ≤ 1048576 := hb.1
  have hs2 : a.x.floors.length ≤ 1048576 := hb.2.1
  refine AC.enterX (i := ⟨[2, 3], [2, 3, 7, 10, 15, 18, 24, 30, 35, 42, 48, 53], [0, 1, 2, 3, 4, 5, 6, 22, 27, 40, 45, 58]⟩) [(6, [], []), (11, [], [])] Try.func83 rfl rfl (by kernel_rfl) (by kernel_rfl) Try.ntmps83 (Nat.le_of_ble_eq_true rfl) rfl ?_
  iterate 2 refine ⟨_, rfl, ?_⟩
  refine AW.cutM (2) st [(2, vL 2 0 (0)), (3, vL 3 0 (1)), (4, vB false)] [(2, 0, [vS a.p a.x.items.length, vS a.q a.x.floors.length]), (3, 1, [vS b.p b.x.items.length, vS b.q b.x.floors.length])] ⟨rfl, rfl, rfl, trivial⟩ ⟨rfl, rfl, trivial⟩ rfl fun ρ0 ff => ?_
  refine ⟨_, rfl, ?_⟩
  refine ⟨_, op_ldo rfl rfl rfl rfl, ?_⟩
  iterate 2 refine ⟨_, rfl, ?_⟩
  refine ⟨_, op_ldo rfl rfl rfl rfl, ?_⟩
  iterate 2 refine ⟨_, rfl, ?_⟩
  rintro (_|_) h13
  · replace h13 : (a.x.items.length : Int) = (b.x.items.length : Int) := bne_eq_false_iff_eq.1 h13
    refine ⟨_, rfl, ?_⟩
    refine ⟨_, op_ldo rfl rfl rfl rfl, ?_⟩
    iterate 2 refine ⟨_, rfl, ?_⟩
    refine ⟨_, op_ldo rfl rfl rfl rfl, ?_⟩
    iterate 2 refine ⟨_, rfl, ?_⟩
    rintro (_|_) h21
    · replace h21 : (a.x.floors.length : Int) = (b.x.floors.length : Int) := bne_eq_false_iff_eq.1 h21
      refine ⟨_, rfl, ?_⟩
      refine AW.cutM (2) st [(2, vL 2 0 (0)), (3, vL 3 0 (1)), (4, vB false), (22, vB false)] [(2, 0, [vS a.p a.x.items.length, vS a.q a.x.floors.length]), (3, 1, [vS b.p b.x.items.length, vS b.q b.x.floors.length])] ⟨rfl, rfl, rfl, rfl, trivial⟩ ⟨rfl, rfl, trivial⟩ rfl fun ρ0 ff => ?_
      refine cx_sound _ _ _ _ _ ?_
      refine AW.cutM (2) st [(2, vL 2 0 (0)), (3, vL 3 0 (1)), (4, vB false), (5, vI (0))] [(2, 0, [vS a.p a.x.items.length, vS a.q a.x.floors.length]), (3, 1, [vS b.p b.x.items.length, vS b.q b.x.floors.length])] ⟨rfl, rfl, rfl, rfl, trivial⟩ ⟨rfl, rfl, trivial⟩ rfl fun ρ0 ff => ?_
      refine AW.loopM (fun i : Nat => [(2, vL 2 0 (0)), (3, vL 3 0 (1)), (5, vI (i : Int))]) (fun i : Nat => [(2, 0, [vS a.p a.x.items.length, vS a.q a.x.floors.length]), (3, 1, [vS b.p b.x.items.length, vS b.q b.x.floors.length])]) (fun m (i : Nat) st' => m = a.x.items.length - i ∧ i ≤ a.x.items.length ∧ (∀ (j : Nat) x y, j < i → a.x.items[j]? = some x → b.x.items[j]? = some y → x = y) ∧ st = st') 0 _ ⟨rfl, rfl, rfl, trivial⟩ ⟨rfl, rfl, trivial⟩ ⟨rfl, Nat.zero_le _, fun j x y h => absurd h (Nat.not_lt_zero _), rfl⟩ ?_
      rintro m i ρ0 ff gg st' ⟨rfl, hi, heq, rfl⟩
      refine ⟨_, rfl, ?_⟩
      refine ⟨_, op_ldo rfl rfl rfl rfl, ?_⟩
      iterate 2 refine ⟨_, rfl, ?_⟩
      rintro (_|_) h27
      · replace h27 : ¬ ((i : Int) < (a.x.items.length : Int)) := of_decide_eq_false h27
        refine AW.cutM (gg) st [(2, vL 2 0 (0)), (3, vL 3 0 (1)), (5, vI (i : Int)), (27, vB false)] [(2, 0, [vS a.p a.x.items.length, vS a.q a.x.floors.length]), (3, 1, [vS b.p b.x.items.length, vS b.q b.x.floors.length])] ⟨rfl, rfl, rfl, rfl, trivial⟩ ⟨rfl, rfl, trivial⟩ rfl fun ρ0 ff => ?_
        have hI : a.x.items = b.x.items := iff_lists (by omega) fun j x y hj hx hy => heq j x y (by omega) hx hy
        clear heq
        refine cx_sound _ _ _ _ _ ?_
        refine AW.cutM (gg) st [(2, vL 2 0 (0)), (3, vL 3 0 (1)), (6, vI (0))] [(2, 0, [vS a.p a.x.items.length, vS a.q a.x.floors.length]), (3, 1, [vS b.p b.x.items.length, vS b.q b.x.floors.length])] ⟨rfl, rfl, rfl, trivial⟩ ⟨rfl, rfl, trivial⟩ rfl fun ρ0 ff => ?_
        refine AW.loopM (fun i : Nat => [(2, vL 2 0 (0)), (3, vL 3 0 (1)), (6, vI (i : Int))]) (fun i : Nat => [(2, 0, [vS a.p a.x.items.length, vS a.q a.x.floors.length]), (3, 1, [vS b.p b.x.items.length, vS b.q b.x.floors.length])]) (fun m (i : Nat) st' => m = a.x.floors.length - i ∧ i ≤ a.x.floors.length ∧ (∀ (j : Nat) x y, j < i → a.x.floors[j]? = some x → b.x.floors[j]? = some y → x = y) ∧ st = st') 0 _ ⟨rfl, rfl, rfl, trivial⟩ ⟨rfl, rfl, trivial⟩ ⟨rfl, Nat.zero_le _, fun j x y h => absurd h (Nat.not_lt_zero _), rfl⟩ ?_
        rintro m i ρ0 ff gg st' ⟨rfl, hi, heq, rfl⟩
        refine ⟨_, rfl, ?_⟩
        refine ⟨_, op_ldo rfl rfl rfl rfl, ?_⟩
        iterate 2 refine ⟨_, rfl, ?_⟩
        rintro (_|_) h45
        · replace h45 : ¬ ((i : Int) < (a.x.floors.length : Int)) := of_decide_eq_false h45
          refine AW.cutM (gg) st [(2, vL 2 0 (0)), (3, vL 3 0 (1)), (6, vI (i : Int)), (45, vB false)] [(2, 0, [vS a.p a.x.items.length, vS a.q a.x.floors.length]), (3, 1, [vS b.p b.x.items.length, vS b.q b.x.floors.length])] ⟨rfl, rfl, rfl, rfl, trivial⟩ ⟨rfl, rfl, trivial⟩ rfl fun ρ0 ff => ?_
          refine cx_sound _ _ _ _ _ ?_
          refine cx_sound _ _ _ _ _ ?_
          exact ⟨.inl rfl, _, rfl, true, rfl, ⟨fun _ => sta_ext hI (iff_lists (by omega) fun j x y hj hx hy => heq j x y (by omega) hx hy), fun _ => rfl⟩, rfl⟩
        · replace h45 : (i : Int) < (a.x.floors.length : Int) := of_decide_eq_true h45
          refine AW.cutM (gg) st [(2, vL 2 0 (0)), (3, vL 3 0 (1)), (6, vI (i : Int)), (45, vB true)] [(2, 0, [vS a.p a.x.items.length, vS a.q a.x.floors.length]), (3, 1, [vS b.p b.x.items.length, vS b.q b.x.floors.length])] ⟨rfl, rfl, rfl, rfl, trivial⟩ ⟨rfl, rfl, trivial⟩ rfl fun ρ0 ff => ?_
          refine cx_sound _ _ _ _ _ ?_
          refine ⟨_, rfl, ?_⟩
          refine ⟨_, op_ldo rfl rfl rfl rfl, ?_⟩
          refine op_at i hA.2 (by omega) rfl rfl rfl rfl rfl rfl rfl ?_
          intro x51 b51 d51 k51 hy51 hb51 hm51 hc51 ho51
          refine ⟨_, op_lda rfl rfl rfl rfl rfl hm51 hc51 rfl, ?_⟩
          refine ⟨_, rfl, ?_⟩
          refine ⟨_, op_ldo rfl rfl rfl rfl, ?_⟩
          refine op_at i hB.2 (by omega) rfl rfl rfl rfl rfl rfl rfl ?_
          intro x56 b56 d56 k56 hy56 hb56 hm56 hc56 ho56
          refine ⟨_, op_lda rfl rfl rfl rfl rfl hm56 hc56 rfl, ?_⟩
          refine cmpS (neq_Floor x51 x56) ?_
          rintro (_|_) h58
          · replace h58 : x51 = x56 := Classical.byContradiction fun k => Bool.false_ne_true (h58.2 k)
            refine AW.cutM (gg) st [(2, vL 2 0 (0)), (3, vL 3 0 (1)), (6, vI (i : Int)), (45, vB true), (58, vB false)] [(2, 0, [vS a.p a.x.items.length, vS a.q a.x.floors.length]), (3, 1, [vS b.p b.x.items.length, vS b.q b.x.floors.length])] ⟨rfl, rfl, rfl, rfl, rfl, trivial⟩ ⟨rfl, rfl, trivial⟩ rfl fun ρ0 ff => ?_
            refine cx_sound _ _ _ _ _ ?_
            have ew47 : IntKind.wrap .i64 ((i : Int) + (1)) = ((i + 1 : Nat) : Int) := (wrap_i64 (by omega) (by omega)).trans (by omega)
            refine ⟨_, rfl, ?_⟩
            exact ⟨i + 1, a.x.floors.length - (i + 1), by omega, ⟨rfl, rfl, congrArg (Value.int .i64) ew47, trivial⟩, ⟨rfl, rfl, trivial⟩, rfl, by omega, same_next (f := fun x => x) hy51 hy56 h58 heq, rfl⟩
          · replace h58 : ¬ x51 = x56 := h58.1 rfl
            refine AW.cutM (gg) st [(2, vL 2 0 (0)), (3, vL 3 0 (1)), (6, vI (i : Int)), (45, vB true), (58, vB true)] [(2, 0, [vS a.p a.x.items.length, vS a.q a.x.floors.length]), (3, 1, [vS b.p b.x.items.length, vS b.q b.x.floors.length])] ⟨rfl, rfl, rfl, rfl, rfl, trivial⟩ ⟨rfl, rfl, trivial⟩ rfl fun ρ0 ff => ?_
            refine cx_sound _ _ _ _ _ ?_
            exact ⟨.inl rfl, _, rfl, false, rfl, ⟨fun h => absurd h Bool.false_ne_true, fun h => (show False from (absurd (same_at hy51 hy56 (congrArg Sta.floors h)) h58)).elim⟩, rfl⟩
      · replace h27 : (i : Int) < (a.x.items.length : Int) := of_decide_eq_true h27
        refine AW.cutM (gg) st [(2, vL 2 0 (0)), (3, vL 3 0 (1)), (5, vI (i : Int)), (27, vB true)] [(2, 0, [vS a.p a.x.items.length, vS a.q a.x.floors.length]), (3, 1, [vS b.p b.x.items.length, vS b.q b.x.floors.length])] ⟨rfl, rfl, rfl, rfl, trivial⟩ ⟨rfl, rfl, trivial⟩ rfl fun ρ0 ff => ?_
        refine cx_sound _ _ _ _ _ ?_
        refine ⟨_, rfl, ?_⟩
        refine ⟨_, op_ldo rfl rfl rfl rfl, ?_⟩
        refine op_at i hA.1 (by omega) rfl rfl rfl rfl rfl rfl rfl ?_
        intro x33 b33 d33 k33 hy33 hb33 hm33 hc33 ho33
        refine ⟨_, op_lda rfl rfl rfl rfl rfl hm33 hc33 rfl, ?_⟩
        refine ⟨_, rfl, ?_⟩
        refine ⟨_, op_ldo rfl rfl rfl rfl, ?_⟩
        refine op_at i hB.1 (by omega) rfl rfl rfl rfl rfl rfl rfl ?_
        intro x38 b38 d38 k38 hy38 hb38 hm38 hc38 ho38
        refine ⟨_, op_lda rfl rfl rfl rfl rfl hm38 hc38 rfl, ?_⟩
        refine cmpS (neq_Item x33 x38) ?_
        rintro (_|_) h40
        · replace h40 : x33 = x38 := Classical.byContradiction fun k => Bool.false_ne_true (h40.2 k)
          refine AW.cutM (gg) st [(2, vL 2 0 (0)), (3, vL 3 0 (1)), (5, vI (i : Int)), (27, vB true), (40, vB false)] [(2, 0, [vS a.p a.x.items.length, vS a.q a.x.floors.length]), (3, 1, [vS b.p b.x.items.length, vS b.q b.x.floors.length])] ⟨rfl, rfl, rfl, rfl, rfl, trivial⟩ ⟨rfl, rfl, trivial⟩ rfl fun ρ0 ff => ?_
          refine cx_sound _ _ _ _ _ ?_
          have ew29 : IntKind.wrap .i64 ((i : Int) + (1)) = ((i + 1 : Nat) : Int) := (wrap_i64 (by omega) (by omega)).trans (by omega)
          refine ⟨_, rfl, ?_⟩
          exact ⟨i + 1, a.x.items.length - (i + 1), by omega, ⟨rfl, rfl, congrArg (Value.int .i64) ew29, trivial⟩, ⟨rfl, rfl, trivial⟩, rfl, by omega, same_next (f := fun x => x) hy33 hy38 h40 heq, rfl⟩
        · replace h40 : ¬ x33 = x38 := h40.1 rfl
          refine AW.cutM (gg) st [(2, vL 2 0 (0)), (3, vL 3 0 (1)), (5, vI (i : Int)), (27, vB true), (40, vB true)] [(2, 0, [vS a.p a.x.items.length, vS a.q a.x.floors.length]), (3, 1, [vS b.p b.x.items.length, vS b.q b.x.floors.length])] ⟨rfl, rfl, rfl, rfl, rfl, trivial⟩ ⟨rfl, rfl, trivial⟩ rfl fun ρ0 ff => ?_
          refine cx_sound _ _ _ _ _ ?_
          exact ⟨.inl rfl, _, rfl, false, rfl, ⟨fun h => absurd h Bool.false_ne_true, fun h => (show False from (absurd (same_at hy33 hy38 (congrArg Sta.items h)) h40)).elim⟩, rfl⟩
    · replace h21 : ¬ ((a.x.floors.length : Int) = (b.x.floors.length : Int)) := bne_iff_ne.1 h21
      refine ⟨_, rfl, ?_⟩
      refine AW.cutM (2) st [(2, vL 2 0 (0)), (3, vL 3 0 (1)), (4, vB false), (22, vB true)] [(2, 0, [vS a.p a.x.items.length, vS a.q a.x.floors.length]), (3, 1, [vS b.p b.x.items.length, vS b.q b.x.floors.length])] ⟨rfl, rfl, rfl, rfl, trivial⟩ ⟨rfl, rfl, trivial⟩ rfl fun ρ0 ff => ?_
      refine cx_sound _ _ _ _ _ ?_
      exact ⟨.inl rfl, _, rfl, false, rfl, ⟨fun h => absurd h Bool.false_ne_true, fun h => (show False from (absurd (congrArg (fun l : Sta => (l.floors.length : Int)) h) h21)).elim⟩, rfl⟩
  · replace h13 : ¬ ((a.x.items.length : Int) = (b.x.items.length : Int)) := bne_iff_ne.1 h13
    refine ⟨_, rfl, ?_⟩
    refine AW.cutM (2) st [(2, vL 2 0 (0)), (3, vL 3 0 (1)), (4, vB false), (22, vB true)] [(2, 0, [vS a.p a.x.items.length, vS a.q a.x.floors.length]), (3, 1, [vS b.p b.x.items.length, vS b.q b.x.floors.length])] ⟨rfl, rfl, rfl, rfl, trivial⟩ ⟨rfl, rfl, trivial⟩ rfl fun ρ0 ff => ?_
    refine cx_sound _ _ _ _ _ ?_
    exact ⟨.inl rfl, _, rfl, false, rfl, ⟨fun h => absurd h Bool.false_ne_true, fun h => (show False from (absurd (congrArg (fun l : Sta => (l.items.length : Int)) h) h13)).elim⟩, rfl⟩
theorem ac_impl_treeSame (a b : TV) (st : St) (hA : Rows st 1 fI a.p a.l) (hB : Rows st 1 fI b.p b.l) (hb : szOk a.l.length) : C 87 [.agg #[vS a.p a.l.length, vI a.root], .agg #[vS b.p b.l.length, vI b.root]] st (fun v s => ∃ x, v = .bool x ∧ (x = true ↔ a.x = b.x) ∧ s = st) := by
  refine AC.enterX (i := ⟨[2, 3], [2, 3, 5, 7, 11, 13], [0, 1, 2, 3, 4]⟩) [] Try.func87 rfl rfl (by kernel_rfl) (by kernel_rfl) Try.ntmps87 (Nat.le_of_ble_eq_true rfl) rfl ?_
  iterate 2 refine ⟨_, rfl, ?_⟩
  refine AW.cutM (2) st [(2, vL 2 0 (0)), (3, vL 3 0 (1)), (4, vB false)] [(2, 0, [vS a.p a.l.length, vI a.root]), (3, 1, [vS b.p b.l.length, vI b.root])] ⟨rfl, rfl, rfl, trivial⟩ ⟨rfl, rfl, trivial⟩ rfl fun ρ0 ff => ?_
  refine ⟨_, rfl, ?_⟩
  refine ⟨_, op_ldo rfl rfl rfl rfl, ?_⟩
  refine ⟨_, rfl, ?_⟩
  refine ⟨_, op_ldo rfl rfl rfl rfl, ?_⟩
  refine ⟨_, rfl, (ac_slices_Equal_Int a.p b.p a.l b.l st hA hB (by first | assumption | omega)).mono ?_⟩
  rintro _ st ⟨x9, rfl, h9, rfl⟩
  rcases x9 with _|_
  · replace h9 := fun k => Bool.false_ne_true (h9.2 k)
    refine ⟨_, rfl, ?_⟩
    refine cx_sound _ _ _ _ _ ?_
    exact ⟨.inl rfl, _, rfl, false, rfl, ⟨fun h => absurd h Bool.false_ne_true, fun h => (show False from (absurd (congrArg Tr.leaves h) h9)).elim⟩, rfl⟩
  · replace h9 := h9.1 rfl
    refine ⟨_, rfl, ?_⟩
    refine ⟨_, op_ldo rfl rfl rfl rfl, ?_⟩
    refine ⟨_, rfl, ?_⟩
    refine ⟨_, op_ldo rfl rfl rfl rfl, ?_⟩
    refine ⟨_, rfl, ?_⟩
    rintro (_|_) h15
    · replace h15 : ¬ (a.root = b.root) := beq_eq_false_iff_ne.1 h15
      refine ⟨_, rfl, ?_⟩
      refine cx_sound _ _ _ _ _ ?_
      exact ⟨.inl rfl, _, rfl, false, rfl, ⟨fun h => absurd h Bool.false_ne_true, fun h => (show False from (absurd (congrArg Tr.root h) h15)).elim⟩, rfl⟩
    · replace h15 : a.root = b.root := beq_iff_eq.1 h15
      refine ⟨_, rfl, ?_⟩
      refine cx_sound _ _ _ _ _ ?_
      exact ⟨.inl rfl, _, rfl, true, rfl, ⟨fun _ => (by simp only [TV.x, h9, h15]), fun _ => rfl⟩, rfl⟩
theorem ac_spec_l11Tree (a b : TV) (st : St) (hA : Rows st 1 fI a.p a.l) (hB : Rows st 1 fI b.p b.l) (hb : szOk a.l.length) : C 115 [.agg #[vS a.p a.l.length, vI a.root], .agg #[vS b.p b.l.length, vI b.root]] st (fun v s => ∃ x, v = .bool x ∧ (x = true ↔ a.x = b.x) ∧ s = st) := by
  refine AC.enterX (i := ⟨[2, 3], [2, 3, 5, 7, 11, 13], [0, 1, 2, 3, 4]⟩) [] Try.func115 rfl rfl (by kernel_rfl) (by kernel_rfl) Try.ntmps115 (Nat.le_of_ble_eq_true rfl) rfl ?_
  iterate 2 refine ⟨_, rfl, ?_⟩
  refine AW.cutM (2) st [(2, vL 2 0 (0)), (3, vL 3 0 (1)), (4, vB false)] [(2, 0, [vS a.p a.l.length, vI a.root]), (3, 1, [vS b.p b.l.length, vI b.root])] ⟨rfl, rfl, rfl, trivial⟩ ⟨rfl, rfl, trivial⟩ rfl fun ρ0 ff => ?_
  refine ⟨_, rfl, ?_⟩
  refine ⟨_, op_ldo rfl rfl rfl rfl, ?_⟩
  refine ⟨_, rfl, ?_⟩
  refine ⟨_, op_ldo rfl rfl rfl rfl, ?_⟩
  refine ⟨_, rfl, (ac_spec_l1Same a.p b.p a.l b.l st hA hB (by first | assumption | omega)).mono ?_⟩
  rintro _ st ⟨x9, rfl, h9, rfl⟩
  rcases x9 with _|_
  · replace h9 := fun k => Bool.false_ne_true (h9.2 k)
    refine ⟨_, rfl, ?_⟩
    refine cx_sound _ _ _ _ _ ?_
    exact ⟨.inl rfl, _, rfl, false, rfl, ⟨fun h => absurd h Bool.false_ne_true, fun h => (show False from (absurd (congrArg Tr.leaves h) h9)).elim⟩, rfl⟩
  · replace h9 := h9.1 rfl
    refine ⟨_, rfl, ?_⟩
    refine ⟨_, op_ldo rfl rfl rfl rfl, ?_⟩
    refine ⟨_, rfl, ?_⟩
    refine ⟨_, op_ldo rfl rfl rfl rfl, ?_⟩
    refine ⟨_, rfl, ?_⟩
    rintro (_|_) h15
    · replace h15 : ¬ (a.root = b.root) := beq_eq_false_iff_ne.1 h15
      refine ⟨_, rfl, ?_⟩
      refine cx_sound _ _ _ _ _ ?_
      exact ⟨.inl rfl, _, rfl, false, rfl, ⟨fun h => absurd h Bool.false_ne_true, fun h => (show False from (absurd (congrArg Tr.root h) h15)).elim⟩, rfl⟩
    · replace h15 : a.root = b.root := beq_iff_eq.1 h15
      refine ⟨_, rfl, ?_⟩
      refine cx_sound _ _ _ _ _ ?_
      exact ⟨.inl rfl, _, rfl, true, rfl, ⟨fun _ => (by simp only [TV.x, h9, h15]), fun _ => rfl⟩, rfl⟩
theorem ac_impl_NodeSame1 (p q : Option Addr) (a b : List Int) (st : St) (hA : Rows st 1 fI p a) (hB : Rows st 1 fI q b) (hs : szOk a.length) : C 118 [vS p a.length, vS q b.length] st (fun v s => ∃ x, v = .bool x ∧ (x = true ↔ a = b) ∧ s = st) := by
  refine AC.enterX (i := ⟨[], [], [0, 1, 4]⟩) [] Try.func118 rfl rfl (by kernel_rfl) (by kernel_rfl) Try.ntmps118 (Nat.le_of_ble_eq_true rfl) rfl ?_
  refine AW.cut lo0 st [(0, vS p a.length), (1, vS q b.length), (4, vB false)] ⟨rfl, rfl, rfl, trivial⟩ fun ρ0 => ?_
  refine ⟨_, rfl, (ac_slices_Equal_Int p q a b st hA hB (by first | assumption | omega)).mono ?_⟩
  rintro _ st ⟨x7, rfl, h7, rfl⟩
  rcases x7 with _|_
  · replace h7 := fun k => Bool.false_ne_true (h7.2 k)
    refine cx_sound _ _ _ _ _ ?_
    exact ⟨.inl rfl, _, rfl, false, rfl, ⟨fun h => absurd h Bool.false_ne_true, fun h => (show False from (absurd h h7)).elim⟩, rfl⟩
  · replace h7 := h7.1 rfl
    refine cx_sound _ _ _ _ _ ?_
    exact ⟨.inl rfl, _, rfl, true, rfl, ⟨fun _ => h7, fun _ => rfl⟩, rfl⟩
theorem ac_slices_EqualFunc_Rows (p q : Option Addr) (a b : List RV) (st : St) (hA : RdT st p a) (hB : RdT st q b) (hs : szOk a.length) (hr : ∀ r ∈ a, szOk r.l.length) : C 117 [vS p a.length, vS q b.length, .func (.func 118) #[] #[]] st (fun v s => ∃ x, v = .bool x ∧ (x = true ↔ rls a = rls b) ∧ s = st) := by
  have hs : a.length ≤ 1048576 := hs
  refine AC.enterX (i := ⟨[], [], [0, 1, 2, 6, 7, 8, 9, 14, 15, 16, 17, 18, 30]⟩) [] Try.func117 rfl rfl (by kernel_rfl) (by kernel_rfl) Try.ntmps117 (Nat.le_of_ble_eq_true rfl) rfl ?_
  refine AW.cut lo0 st [(0, vS p a.length), (1, vS q b.length), (2, .func (.func 118) #[] #[]), (6, vB false)] ⟨rfl, rfl, rfl, rfl, trivial⟩ fun ρ0 => ?_
  iterate 3 refine ⟨_, rfl, ?_⟩
  rintro (_|_) h14
  · replace h14 : (a.length : Int) = (b.length : Int) := bne_eq_false_iff_eq.1 h14
    refine AW.cut lo0 st [(0, vS p a.length), (1, vS q b.length), (2, .func (.func 118) #[] #[]), (6, vB false), (14, vB false)] ⟨rfl, rfl, rfl, rfl, rfl, trivial⟩ fun ρ0 => ?_
    refine cx_sound _ _ _ _ _ ?_
    refine ⟨_, rfl, ?_⟩
    refine AW.cut lo0 st [(1, vS q b.length), (2, .func (.func 118) #[] #[]), (6, vB false), (15, vS p a.length), (16, vI (a.length : Int)), (17, vI (0))] ⟨rfl, rfl, rfl, rfl, rfl, rfl, trivial⟩ fun ρ0 => ?_
    refine AW.loop0 (fun i : Nat => [(1, vS q b.length), (2, .func (.func 118) #[] #[]), (15, vS p a.length), (16, vI (a.length : Int)), (17, vI (i : Int))]) (fun m (i : Nat) st' => m = a.length - i ∧ i ≤ a.length ∧ (∀ (j : Nat) x y, j < i → a[j]? = some x → b[j]? = some y → x.l = y.l) ∧ st = st') 0 _ ⟨rfl, rfl, rfl, rfl, rfl, trivial⟩ rfl ⟨rfl, Nat.zero_le _, fun j x y h => absurd h (Nat.not_lt_zero _), rfl⟩ ?_
    rintro m i ρ0 st' ⟨rfl, hi, heq, rfl⟩
    refine ⟨_, rfl, ?_⟩
    rintro (_|_) h18
    · replace h18 : ¬ ((i : Int) < (a.length : Int)) := of_decide_eq_false h18
      refine AW.cut lo0 st [(1, vS q b.length), (2, .func (.func 118) #[] #[]), (15, vS p a.length), (16, vI (a.length : Int)), (17, vI (i : Int)), (18, vB false)] ⟨rfl, rfl, rfl, rfl, rfl, rfl, trivial⟩ fun ρ0 => ?_
      refine cx_sound _ _ _ _ _ ?_
      refine cx_sound _ _ _ _ _ ?_
      exact ⟨.inl rfl, _, rfl, true, rfl, ⟨fun _ => map_same (by omega) fun j x y hj hx hy => heq j x y (by omega) hx hy, fun _ => rfl⟩, rfl⟩
    · replace h18 : (i : Int) < (a.length : Int) := of_decide_eq_true h18
      refine AW.cut lo0 st [(1, vS q b.length), (2, .func (.func 118) #[] #[]), (15, vS p a.length), (16, vI (a.length : Int)), (17, vI (i : Int)), (18, vB true)] ⟨rfl, rfl, rfl, rfl, rfl, rfl, trivial⟩ fun ρ0 => ?_
      refine cx_sound _ _ _ _ _ ?_
      refine op_at i hA.1 (by omega) rfl rfl rfl rfl rfl rfl rfl ?_
      intro x20 b20 d20 k20 hy20 hb20 hm20 hc20 ho20
      refine ⟨_, op_ldc (i := 0) rfl rfl rfl rfl hm20 hc20 rfl rfl, ?_⟩
      refine AW.cut lo0 st [(1, vS q b.length), (2, .func (.func 118) #[] #[]), (7, vI (i : Int)), (8, vS x20.p x20.l.length), (15, vS p a.length), (16, vI (a.length : Int)), (17, vI (i : Int)), (18, vB true)] ⟨rfl, rfl, rfl, rfl, rfl, rfl, rfl, rfl, trivial⟩ fun ρ0 => ?_
      refine op_at i hB.1 (by omega) rfl rfl rfl rfl rfl rfl rfl ?_
      intro x24 b24 d24 k24 hy24 hb24 hm24 hc24 ho24
      refine ⟨_, op_ldc (i := 0) rfl rfl rfl rfl hm24 hc24 rfl rfl, ?_⟩
      refine AW.cut lo0 st [(1, vS q b.length), (2, .func (.func 118) #[] #[]), (7, vI (i : Int)), (8, vS x20.p x20.l.length), (9, vS x24.p x24.l.length), (15, vS p a.length), (16, vI (a.length : Int)), (17, vI (i : Int)), (18, vB true)] ⟨rfl, rfl, rfl, rfl, rfl, rfl, rfl, rfl, rfl, trivial⟩ fun ρ0 => ?_
      refine ⟨_, rfl, (ac_impl_NodeSame1 x20.p x24.p x20.l x24.l st (hA.2 x20 (List.mem_of_getElem? hy20)) (hB.2 x24 (List.mem_of_getElem? hy24)) (hr x20 (List.mem_of_getElem? hy20))).mono ?_⟩
      rintro _ st ⟨x29, rfl, h29, rfl⟩
      rcases x29 with _|_
      · replace h29 := fun k => Bool.false_ne_true (h29.2 k)
        refine ⟨_, rfl, ?_⟩
        refine AW.cut lo0 st [(1, vS q b.length), (2, .func (.func 118) #[] #[]), (7, vI (i : Int)), (8, vS x20.p x20.l.length), (9, vS x24.p x24.l.length), (15, vS p a.length), (16, vI (a.length : Int)), (17, vI (i : Int)), (18, vB true), (30, vB true)] ⟨rfl, rfl, rfl, rfl, rfl, rfl, rfl, rfl, rfl, rfl, trivial⟩ fun ρ0 => ?_
        refine cx_sound _ _ _ _ _ ?_
        exact ⟨.inl rfl, _, rfl, false, rfl, ⟨fun h => absurd h Bool.false_ne_true, fun h => (show False from (absurd (map_at hy20 hy24 h) h29)).elim⟩, rfl⟩
      · replace h29 := h29.1 rfl
        refine ⟨_, rfl, ?_⟩
        refine AW.cut lo0 st [(1, vS q b.length), (2, .func (.func 118) #[] #[]), (7, vI (i : Int)), (8, vS x20.p x20.l.length), (9, vS x24.p x24.l.length), (15, vS p a.length), (16, vI (a.length : Int)), (17, vI (i : Int)), (18, vB true), (30, vB false)] ⟨rfl, rfl, rfl, rfl, rfl, rfl, rfl, rfl, rfl, rfl, trivial⟩ fun ρ0 => ?_
        refine cx_sound _ _ _ _ _ ?_
        have ew31 : IntKind.wrap .i64 ((i : Int) + (1)) = ((i + 1 : Nat) : Int) := (wrap_i64 (by omega) (by omega)).trans (by omega)
        refine ⟨_, rfl, ?_⟩
        exact ⟨i + 1, a.length - (i + 1), by omega, ⟨rfl, rfl, rfl, rfl, congrArg (Value.int .i64) ew31, trivial⟩, rfl, rfl, by omega, same_next (f := fun x => x.l) hy20 hy24 h29 heq, rfl⟩
  · replace h14 : ¬ ((a.length : Int) = (b.length : Int)) := bne_iff_ne.1 h14
    refine AW.cut lo0 st [(0, vS p a.length), (1, vS q b.length), (2, .func (.func 118) #[] #[]), (6, vB false), (14, vB true)] ⟨rfl, rfl, rfl, rfl, rfl, trivial⟩ fun ρ0 => ?_
    refine cx_sound _ _ _ _ _ ?_
    exact ⟨.inl rfl, _, rfl, false, rfl, ⟨fun h => absurd h Bool.false_ne_true, fun h => (show False from (absurd (congrArg (fun l => (l.length : Int)) h) (by simpa using h14))).elim⟩, rfl⟩
theorem ac_slices_EqualFunc_States (p q : Option Addr) (a b : List SV) (st : St) (hA : RdL st p a) (hB : RdL st q b) (hbl : bigL a) (hs : szOk a.length) : C 158 [vS p a.length, vS q b.length, .func (.func 89) #[] #[]] st (fun v s => ∃ x, v = .bool x ∧ (x = true ↔ xls a = xls b) ∧ s = st) := by
  have hs : a.length ≤ 1048576 := hs
  refine AC.enterX (i := ⟨[8, 9], [8, 9], [0, 1, 2, 6, 7, 8, 9, 14, 15, 16, 17, 18, 30]⟩) [] Try.func158 rfl rfl (by kernel_rfl) (by kernel_rfl) Try.ntmps158 (Nat.le_of_ble_eq_true rfl) rfl ?_
  refine AW.cutM (0) st [(0, vS p a.length), (1, vS q b.length), (2, .func (.func 89) #[] #[]), (6, vB false)] [] ⟨rfl, rfl, rfl, rfl, trivial⟩ trivial rfl fun ρ0 ff => ?_
  iterate 3 refine ⟨_, rfl, ?_⟩
  rintro (_|_) h14
  · replace h14 : (a.length : Int) = (b.length : Int) := bne_eq_false_iff_eq.1 h14
    refine AW.cutM (0) st [(0, vS p a.length), (1, vS q b.length), (2, .func (.func 89) #[] #[]), (6, vB false), (14, vB false)] [] ⟨rfl, rfl, rfl, rfl, rfl, trivial⟩ trivial rfl fun ρ0 ff => ?_
    refine cx_sound _ _ _ _ _ ?_
    refine ⟨_, rfl, ?_⟩
    refine AW.cutM (0) st [(1, vS q b.length), (2, .func (.func 89) #[] #[]), (6, vB false), (15, vS p a.length), (16, vI (a.length : Int)), (17, vI (0))] [] ⟨rfl, rfl, rfl, rfl, rfl, rfl, trivial⟩ trivial rfl fun ρ0 ff => ?_
    refine AW.loopM (fun i : Nat => [(1, vS q b.length), (2, .func (.func 89) #[] #[]), (15, vS p a.length), (16, vI (a.length : Int)), (17, vI (i : Int))]) (fun i : Nat => []) (fun m (i : Nat) st' => m = a.length - i ∧ i ≤ a.length ∧ (∀ (j : Nat) x y, j < i → a[j]? = some x → b[j]? = some y → x.x = y.x) ∧ st = st') 0 _ ⟨rfl, rfl, rfl, rfl, rfl, trivial⟩ trivial ⟨rfl, Nat.zero_le _, fun j x y h => absurd h (Nat.not_lt_zero _), rfl⟩ ?_
    rintro m i ρ0 ff gg st' ⟨rfl, hi, heq, rfl⟩
    refine ⟨_, rfl, ?_⟩
    rintro (_|_) h18
    · replace h18 : ¬ ((i : Int) < (a.length : Int)) := of_decide_eq_false h18
      refine AW.cutM (gg) st [(1, vS q b.length), (2, .func (.func 89) #[] #[]), (15, vS p a.length), (16, vI (a.length : Int)), (17, vI (i : Int)), (18, vB false)] [] ⟨rfl, rfl, rfl, rfl, rfl, rfl, trivial⟩ trivial rfl fun ρ0 ff => ?_
      refine cx_sound _ _ _ _ _ ?_
      refine cx_sound _ _ _ _ _ ?_
      exact ⟨.inl rfl, _, rfl, true, rfl, ⟨fun _ => map_same (by omega) fun j x y hj hx hy => heq j x y (by omega) hx hy, fun _ => rfl⟩, rfl⟩
    · replace h18 : (i : Int) < (a.length : Int) := of_decide_eq_true h18
      refine AW.cutM (gg) st [(1, vS q b.length), (2, .func (.func 89) #[] #[]), (15, vS p a.length), (16, vI (a.length : Int)), (17, vI (i : Int)), (18, vB true)] [] ⟨rfl, rfl, rfl, rfl, rfl, rfl, trivial⟩ trivial rfl fun ρ0 ff => ?_
      refine cx_sound _ _ _ _ _ ?_
      refine op_at i hA.1 (by omega) rfl rfl rfl rfl rfl rfl rfl ?_
      intro x20 b20 d20 k20 hy20 hb20 hm20 hc20 ho20
      refine ⟨_, op_lda rfl rfl rfl rfl rfl hm20 hc20 rfl, ?_⟩
      refine ⟨_, rfl, ?_⟩
      refine ⟨_, op_sto rfl rfl rfl rfl rfl rfl rfl, ?_⟩
      refine AW.cutM (gg + 1) st [(1, vS q b.length), (2, .func (.func 89) #[] #[]), (7, vI (i : Int)), (8, vL 8 0 (gg)), (15, vS p a.length), (16, vI (a.length : Int)), (17, vI (i : Int)), (18, vB true)] [(8, gg, [vS x20.p x20.x.items.length, vS x20.q x20.x.floors.length])] ⟨rfl, rfl, rfl, rfl, rfl, rfl, rfl, rfl, trivial⟩ ⟨rfl, trivial⟩ rfl fun ρ0 ff => ?_
      refine op_at i hB.1 (by omega) rfl rfl rfl rfl rfl rfl rfl ?_
      intro x24 b24 d24 k24 hy24 hb24 hm24 hc24 ho24
      refine ⟨_, op_lda rfl rfl rfl rfl rfl hm24 hc24 rfl, ?_⟩
      refine ⟨_, rfl, ?_⟩
      refine ⟨_, op_sto rfl rfl rfl rfl rfl rfl rfl, ?_⟩
      refine AW.cutM (gg + 2) st [(1, vS q b.length), (2, .func (.func 89) #[] #[]), (7, vI (i : Int)), (8, vL 8 0 (gg)), (9, vL 9 0 (gg + 1)), (15, vS p a.length), (16, vI (a.length : Int)), (17, vI (i : Int)), (18, vB true)] [(8, gg, [vS x20.p x20.x.items.length, vS x20.q x20.x.floors.length]), (9, gg + 1, [vS x24.p x24.x.items.length, vS x24.q x24.x.floors.length])] ⟨rfl, rfl, rfl, rfl, rfl, rfl, rfl, rfl, rfl, trivial⟩ ⟨rfl, rfl, trivial⟩ rfl fun ρ0 ff => ?_
      refine ⟨_, op_ldo rfl rfl rfl rfl, ?_⟩
      refine ⟨_, op_ldo rfl rfl rfl rfl, ?_⟩
      refine ⟨_, rfl, (ac_impl_StateSame x20 x24 st (hA.2 x20 (List.mem_of_getElem? hy20)) (hB.2 x24 (List.mem_of_getElem? hy24)) (hbl.2 x20 (List.mem_of_getElem? hy20))).mono ?_⟩
      rintro _ st ⟨x29, rfl, h29, rfl⟩
      rcases x29 with _|_
      · replace h29 := fun k => Bool.false_ne_true (h29.2 k)
        refine ⟨_, rfl, ?_⟩
        refine AW.cutM (gg + 2) st [(1, vS q b.length), (2, .func (.func 89) #[] #[]), (7, vI (i : Int)), (8, vL 8 0 (gg)), (9, vL 9 0 (gg + 1)), (15, vS p a.length), (16, vI (a.length : Int)), (17, vI (i : Int)), (18, vB true), (30, vB true)] [(8, gg, [vS x20.p x20.x.items.length, vS x20.q x20.x.floors.length]), (9, gg + 1, [vS x24.p x24.x.items.length, vS x24.q x24.x.floors.length])] ⟨rfl, rfl, rfl, rfl, rfl, rfl, rfl, rfl, rfl, rfl, trivial⟩ ⟨rfl, rfl, trivial⟩ rfl fun ρ0 ff => ?_
        refine cx_sound _ _ _ _ _ ?_
        exact ⟨.inl rfl, _, rfl, false, rfl, ⟨fun h => absurd h Bool.false_ne_true, fun h => (show False from (absurd (map_at hy20 hy24 h) h29)).elim⟩, rfl⟩
      · replace h29 := h29.1 rfl
        refine ⟨_, rfl, ?_⟩
        refine AW.cutM (gg + 2) st [(1, vS q b.length), (2, .func (.func 89) #[] #[]), (7, vI (i : Int)), (8, vL 8 0 (gg)), (9, vL 9 0 (gg + 1)), (15, vS p a.length), (16, vI (a.length : Int)), (17, vI (i : Int)), (18, vB true), (30, vB false)] [(8, gg, [vS x20.p x20.x.items.length, vS x20.q x20.x.floors.length]), (9, gg + 1, [vS x24.p x24.x.items.length, vS x24.q x24.x.floors.length])] ⟨rfl, rfl, rfl, rfl, rfl, rfl, rfl, rfl, rfl, rfl, trivial⟩ ⟨rfl, rfl, trivial⟩ rfl fun ρ0 ff => ?_
        refine cx_sound _ _ _ _ _ ?_
        have ew31 : IntKind.wrap .i64 ((i : Int) + (1)) = ((i + 1 : Nat) : Int) := (wrap_i64 (by omega) (by omega)).trans (by omega)
        refine ⟨_, rfl, ?_⟩
        exact ⟨i + 1, a.length - (i + 1), by omega, ⟨rfl, rfl, rfl, rfl, congrArg (Value.int .i64) ew31, trivial⟩, trivial, rfl, by omega, same_next (f := fun x => x.x) hy20 hy24 h29 heq, rfl⟩
  · replace h14 : ¬ ((a.length : Int) = (b.length : Int)) := bne_iff_ne.1 h14
    refine AW.cutM (0) st [(0, vS p a.length), (1, vS q b.length), (2, .func (.func 89) #[] #[]), (6, vB false), (14, vB true)] [] ⟨rfl, rfl, rfl, rfl, rfl, trivial⟩ trivial rfl fun ρ0 ff => ?_
    refine cx_sound _ _ _ _ _ ?_
    exact ⟨.inl rfl, _, rfl, false, rfl, ⟨fun h => absurd h Bool.false_ne_true, fun h => (show False from (absurd (congrArg (fun l => (l.length : Int)) h) (by simpa using h14))).elim⟩, rfl⟩
theorem ac_impl_logSame (a b : LV) (st : St) (hA : RdL st a.p a.l) (hB : RdL st b.p b.l) (hb : bigL a.l) : C 119 [.agg #[vI a.cap, vI a.frm, vS a.p a.l.length], .agg #[vI b.cap, vI b.frm, vS b.p b.l.length]] st (fun v s => ∃ x, v = .bool x ∧ (x = true ↔ a.x = b.x) ∧ s = st) := by
  have hs := hb.1
  refine AC.enterX (i := ⟨[2, 3], [2, 3, 5, 7, 11, 13, 18, 20], [0, 1, 2, 3, 4]⟩) [] Try.func119 rfl rfl (by kernel_rfl) (by kernel_rfl) Try.ntmps119 (Nat.le_of_ble_eq_true rfl) rfl ?_
  iterate 2 refine ⟨_, rfl, ?_⟩
  refine AW.cutM (2) st [(2, vL 2 0 (0)), (3, vL 3 0 (1)), (4, vB false)] [(2, 0, [vI a.cap, vI a.frm, vS a.p a.l.length]), (3, 1, [vI b.cap, vI b.frm, vS b.p b.l.length])] ⟨rfl, rfl, rfl, trivial⟩ ⟨rfl, rfl, trivial⟩ rfl fun ρ0 ff => ?_
  refine ⟨_, rfl, ?_⟩
  refine ⟨_, op_ldo rfl rfl rfl rfl, ?_⟩
  refine ⟨_, rfl, ?_⟩
  refine ⟨_, op_ldo rfl rfl rfl rfl, ?_⟩
  refine ⟨_, rfl, ?_⟩
  rintro (_|_) h9
  · replace h9 : ¬ (a.cap = b.cap) := beq_eq_false_iff_ne.1 h9
    iterate 2 refine ⟨_, rfl, ?_⟩
    refine cx_sound _ _ _ _ _ ?_
    exact ⟨.inl rfl, _, rfl, false, rfl, ⟨fun h => absurd h Bool.false_ne_true, fun h => (show False from (absurd (congrArg Lg.cap h) h9)).elim⟩, rfl⟩
  · replace h9 : a.cap = b.cap := beq_iff_eq.1 h9
    refine ⟨_, rfl, ?_⟩
    refine ⟨_, op_ldo rfl rfl rfl rfl, ?_⟩
    refine ⟨_, rfl, ?_⟩
    refine ⟨_, op_ldo rfl rfl rfl rfl, ?_⟩
    refine ⟨_, rfl, ?_⟩
    rintro (_|_) h15
    · replace h15 : ¬ (a.frm = b.frm) := beq_eq_false_iff_ne.1 h15
      iterate 2 refine ⟨_, rfl, ?_⟩
      refine cx_sound _ _ _ _ _ ?_
      exact ⟨.inl rfl, _, rfl, false, rfl, ⟨fun h => absurd h Bool.false_ne_true, fun h => (show False from (absurd (congrArg Lg.frm h) h15)).elim⟩, rfl⟩
    · replace h15 : a.frm = b.frm := beq_iff_eq.1 h15
      iterate 2 refine ⟨_, rfl, ?_⟩
      refine ⟨_, op_ldo rfl rfl rfl rfl, ?_⟩
      refine ⟨_, rfl, ?_⟩
      refine ⟨_, op_ldo rfl rfl rfl rfl, ?_⟩
      refine ⟨_, rfl, (ac_slices_EqualFunc_States a.p b.p a.l b.l st hA hB (by first | assumption | omega) (by first | assumption | omega)).mono ?_⟩
      rintro _ st ⟨x22, rfl, h22, rfl⟩
      rcases x22 with _|_
      · replace h22 := fun k => Bool.false_ne_true (h22.2 k)
        refine ⟨_, rfl, ?_⟩
        refine cx_sound _ _ _ _ _ ?_
        exact ⟨.inl rfl, _, rfl, false, rfl, ⟨fun h => absurd h Bool.false_ne_true, fun h => (show False from (absurd (congrArg Lg.list h) h22)).elim⟩, rfl⟩
      · replace h22 := h22.1 rfl
        refine ⟨_, rfl, ?_⟩
        refine cx_sound _ _ _ _ _ ?_
        exact ⟨.inl rfl, _, rfl, true, rfl, ⟨fun _ => (by simp only [LV.x]; rw [h9, h15]; exact congrArg _ h22), fun _ => rfl⟩, rfl⟩
theorem ac_spec_l11Logs (a b : LV) (st : St) (hA : RdL st a.p a.l) (hB : RdL st b.p b.l) (hb : bigL a.l) : C 116 [.agg #[vI a.cap, vI a.frm, vS a.p a.l.length], .agg #[vI b.cap, vI b.frm, vS b.p b.l.length]] st (fun v s => ∃ x, v = .bool x ∧ (x = true ↔ a.x = b.x) ∧ s = st) := by
  have hs : a.l.length ≤ 1048576 := hb.1
  refine AC.enterX (i := ⟨[2, 3], [2, 3, 6, 8, 12, 14, 19, 22, 28, 34, 39], [0, 1, 2, 3, 4, 5, 26, 31, 45]⟩) [(6, [], [])] Try.func116 rfl rfl (by kernel_rfl) (by kernel_rfl) Try.ntmps116 (Nat.le_of_ble_eq_true rfl) rfl ?_
  iterate 2 refine ⟨_, rfl, ?_⟩
  refine AW.cutM (2) st [(2, vL 2 0 (0)), (3, vL 3 0 (1)), (4, vB false)] [(2, 0, [vI a.cap, vI a.frm, vS a.p a.l.length]), (3, 1, [vI b.cap, vI b.frm, vS b.p b.l.length])] ⟨rfl, rfl, rfl, trivial⟩ ⟨rfl, rfl, trivial⟩ rfl fun ρ0 ff => ?_
  refine ⟨_, rfl, ?_⟩
  refine ⟨_, op_ldo rfl rfl rfl rfl, ?_⟩
  refine ⟨_, rfl, ?_⟩
  refine ⟨_, op_ldo rfl rfl rfl rfl, ?_⟩
  refine ⟨_, rfl, ?_⟩
  rintro (_|_) h10
  · replace h10 : a.cap = b.cap := bne_eq_false_iff_eq.1 h10
    refine ⟨_, rfl, ?_⟩
    refine ⟨_, op_ldo rfl rfl rfl rfl, ?_⟩
    refine ⟨_, rfl, ?_⟩
    refine ⟨_, op_ldo rfl rfl rfl rfl, ?_⟩
    refine ⟨_, rfl, ?_⟩
    rintro (_|_) h16
    · replace h16 : a.frm = b.frm := bne_eq_false_iff_eq.1 h16
      iterate 2 refine ⟨_, rfl, ?_⟩
      refine ⟨_, op_ldo rfl rfl rfl rfl, ?_⟩
      iterate 2 refine ⟨_, rfl, ?_⟩
      refine ⟨_, op_ldo rfl rfl rfl rfl, ?_⟩
      iterate 2 refine ⟨_, rfl, ?_⟩
      rintro (_|_) h25
      · replace h25 : (a.l.length : Int) = (b.l.length : Int) := bne_eq_false_iff_eq.1 h25
        refine ⟨_, rfl, ?_⟩
        refine AW.cutM (2) st [(2, vL 2 0 (0)), (3, vL 3 0 (1)), (4, vB false), (26, vB false)] [(2, 0, [vI a.cap, vI a.frm, vS a.p a.l.length]), (3, 1, [vI b.cap, vI b.frm, vS b.p b.l.length])] ⟨rfl, rfl, rfl, rfl, trivial⟩ ⟨rfl, rfl, trivial⟩ rfl fun ρ0 ff => ?_
        refine cx_sound _ _ _ _ _ ?_
        refine AW.cutM (2) st [(2, vL 2 0 (0)), (3, vL 3 0 (1)), (4, vB false), (5, vI (0))] [(2, 0, [vI a.cap, vI a.frm, vS a.p a.l.length]), (3, 1, [vI b.cap, vI b.frm, vS b.p b.l.length])] ⟨rfl, rfl, rfl, rfl, trivial⟩ ⟨rfl, rfl, trivial⟩ rfl fun ρ0 ff => ?_
        refine AW.loopM (fun i : Nat => [(2, vL 2 0 (0)), (3, vL 3 0 (1)), (5, vI (i : Int))]) (fun i : Nat => [(2, 0, [vI a.cap, vI a.frm, vS a.p a.l.length]), (3, 1, [vI b.cap, vI b.frm, vS b.p b.l.length])]) (fun m (i : Nat) st' => m = a.l.length - i ∧ i ≤ a.l.length ∧ (∀ (j : Nat) x y, j < i → a.l[j]? = some x → b.l[j]? = some y → x.x = y.x) ∧ st = st') 0 _ ⟨rfl, rfl, rfl, trivial⟩ ⟨rfl, rfl, trivial⟩ ⟨rfl, Nat.zero_le _, fun j x y h => absurd h (Nat.not_lt_zero _), rfl⟩ ?_
        rintro m i ρ0 ff gg st' ⟨rfl, hi, heq, rfl⟩
        refine ⟨_, rfl, ?_⟩
        refine ⟨_, op_ldo rfl rfl rfl rfl, ?_⟩
        iterate 2 refine ⟨_, rfl, ?_⟩
        rintro (_|_) h31
        · replace h31 : ¬ ((i : Int) < (a.l.length : Int)) := of_decide_eq_false h31
          refine AW.cutM (gg) st [(2, vL 2 0 (0)), (3, vL 3 0 (1)), (5, vI (i : Int)), (31, vB false)] [(2, 0, [vI a.cap, vI a.frm, vS a.p a.l.length]), (3, 1, [vI b.cap, vI b.frm, vS b.p b.l.length])] ⟨rfl, rfl, rfl, rfl, trivial⟩ ⟨rfl, rfl, trivial⟩ rfl fun ρ0 ff => ?_
          refine cx_sound _ _ _ _ _ ?_
          refine cx_sound _ _ _ _ _ ?_
          exact ⟨.inl rfl, _, rfl, true, rfl, ⟨fun _ => (by simp only [LV.x]; rw [h10, h16]; exact congrArg _ (map_same (by omega) fun j x y hj hx hy => heq j x y (by omega) hx hy)), fun _ => rfl⟩, rfl⟩
        · replace h31 : (i : Int) < (a.l.length : Int) := of_decide_eq_true h31
          refine AW.cutM (gg) st [(2, vL 2 0 (0)), (3, vL 3 0 (1)), (5, vI (i : Int)), (31, vB true)] [(2, 0, [vI a.cap, vI a.frm, vS a.p a.l.length]), (3, 1, [vI b.cap, vI b.frm, vS b.p b.l.length])] ⟨rfl, rfl, rfl, rfl, trivial⟩ ⟨rfl, rfl, trivial⟩ rfl fun ρ0 ff => ?_
          refine cx_sound _ _ _ _ _ ?_
          refine ⟨_, rfl, ?_⟩
          refine ⟨_, op_ldo rfl rfl rfl rfl, ?_⟩
          refine op_at i hA.1 (by omega) rfl rfl rfl rfl rfl rfl rfl ?_
          intro x37 b37 d37 k37 hy37 hb37 hm37 hc37 ho37
          refine ⟨_, op_lda rfl rfl rfl rfl rfl hm37 hc37 rfl, ?_⟩
          refine ⟨_, rfl, ?_⟩
          refine ⟨_, op_ldo rfl rfl rfl rfl, ?_⟩
          refine op_at i hB.1 (by omega) rfl rfl rfl rfl rfl rfl rfl ?_
          intro x42 b42 d42 k42 hy42 hb42 hm42 hc42 ho42
          refine ⟨_, op_lda rfl rfl rfl rfl rfl hm42 hc42 rfl, ?_⟩
          refine ⟨_, rfl, (ac_spec_StateSame x37 x42 st (hA.2 x37 (List.mem_of_getElem? hy37)) (hB.2 x42 (List.mem_of_getElem? hy42)) (hb.2 x37 (List.mem_of_getElem? hy37))).mono ?_⟩
          rintro _ st ⟨x44, rfl, h44, rfl⟩
          rcases x44 with _|_
          · replace h44 := fun k => Bool.false_ne_true (h44.2 k)
            refine ⟨_, rfl, ?_⟩
            refine AW.cutM (gg) st [(2, vL 2 0 (0)), (3, vL 3 0 (1)), (5, vI (i : Int)), (31, vB true), (45, vB true)] [(2, 0, [vI a.cap, vI a.frm, vS a.p a.l.length]), (3, 1, [vI b.cap, vI b.frm, vS b.p b.l.length])] ⟨rfl, rfl, rfl, rfl, rfl, trivial⟩ ⟨rfl, rfl, trivial⟩ rfl fun ρ0 ff => ?_
            refine cx_sound _ _ _ _ _ ?_
            exact ⟨.inl rfl, _, rfl, false, rfl, ⟨fun h => absurd h Bool.false_ne_true, fun h => (show False from (absurd (map_at hy37 hy42 (congrArg Lg.list h)) h44)).elim⟩, rfl⟩
          · replace h44 := h44.1 rfl
            refine ⟨_, rfl, ?_⟩
            refine AW.cutM (gg) st [(2, vL 2 0 (0)), (3, vL 3 0 (1)), (5, vI (i : Int)), (31, vB true), (45, vB false)] [(2, 0, [vI a.cap, vI a.frm, vS a.p a.l.length]), (3, 1, [vI b.cap, vI b.frm, vS b.p b.l.length])] ⟨rfl, rfl, rfl, rfl, rfl, trivial⟩ ⟨rfl, rfl, trivial⟩ rfl fun ρ0 ff => ?_
            refine cx_sound _ _ _ _ _ ?_
            have ew33 : IntKind.wrap .i64 ((i : Int) + (1)) = ((i + 1 : Nat) : Int) := (wrap_i64 (by omega) (by omega)).trans (by omega)
            refine ⟨_, rfl, ?_⟩
            exact ⟨i + 1, a.l.length - (i + 1), by omega, ⟨rfl, rfl, congrArg (Value.int .i64) ew33, trivial⟩, ⟨rfl, rfl, trivial⟩, rfl, by omega, same_next (f := fun x : SV => x.x) hy37 hy42 h44 heq, rfl⟩
      · replace h25 : ¬ ((a.l.length : Int) = (b.l.length : Int)) := bne_iff_ne.1 h25
        refine ⟨_, rfl, ?_⟩
        refine AW.cutM (2) st [(2, vL 2 0 (0)), (3, vL 3 0 (1)), (4, vB false), (26, vB true)] [(2, 0, [vI a.cap, vI a.frm, vS a.p a.l.length]), (3, 1, [vI b.cap, vI b.frm, vS b.p b.l.length])] ⟨rfl, rfl, rfl, rfl, trivial⟩ ⟨rfl, rfl, trivial⟩ rfl fun ρ0 ff => ?_
        refine cx_sound _ _ _ _ _ ?_
        exact ⟨.inl rfl, _, rfl, false, rfl, ⟨fun h => absurd h Bool.false_ne_true, fun h => (show False from (absurd (congrArg (fun g : Lg => (g.list.length : Int)) h) (by simpa using h25))).elim⟩, rfl⟩
    · replace h16 : ¬ (a.frm = b.frm) := bne_iff_ne.1 h16
      iterate 2 refine ⟨_, rfl, ?_⟩
      refine AW.cutM (2) st [(2, vL 2 0 (0)), (3, vL 3 0 (1)), (4, vB false), (26, vB true)] [(2, 0, [vI a.cap, vI a.frm, vS a.p a.l.length]), (3, 1, [vI b.cap, vI b.frm, vS b.p b.l.length])] ⟨rfl, rfl, rfl, rfl, trivial⟩ ⟨rfl, rfl, trivial⟩ rfl fun ρ0 ff => ?_
      refine cx_sound _ _ _ _ _ ?_
      exact ⟨.inl rfl, _, rfl, false, rfl, ⟨fun h => absurd h Bool.false_ne_true, fun h => (show False from (absurd (congrArg Lg.frm h) h16)).elim⟩, rfl⟩
  · replace h10 : ¬ (a.cap = b.cap) := bne_iff_ne.1 h10
    iterate 2 refine ⟨_, rfl, ?_⟩
    refine AW.cutM (2) st [(2, vL 2 0 (0)), (3, vL 3 0 (1)), (4, vB false), (26, vB true)] [(2, 0, [vI a.cap, vI a.frm, vS a.p a.l.length]), (3, 1, [vI b.cap, vI b.frm, vS b.p b.l.length])] ⟨rfl, rfl, rfl, rfl, trivial⟩ ⟨rfl, rfl, trivial⟩ rfl fun ρ0 ff => ?_
    refine cx_sound _ _ _ _ _ ?_
    exact ⟨.inl rfl, _, rfl, false, rfl, ⟨fun h => absurd h Bool.false_ne_true, fun h => (show False from (absurd (congrArg Lg.cap h) h10)).elim⟩, rfl⟩
end Go.Proofs.Ytopcpcoklgepnaa.AM
