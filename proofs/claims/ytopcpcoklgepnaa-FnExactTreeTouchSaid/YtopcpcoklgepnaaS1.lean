/- Contracts of states: sized, copied, compared; entries and floors. -/
import Derived.Test.YtopcpcoklgepnaaP0
import Derived.Test.YtopcpcoklgepnaaD1
import Derived.Test.YtopcpcoklgepnaaF6
namespace Go.Proofs.Ytopcpcoklgepnaa.AM
open Go Go.Proofs
set_option linter.unusedVariables false
set_option linter.unusedSimpArgs false
set_option maxRecDepth 100000
set_option maxHeartbeats 4000000
theorem split_at' {α : Type} {l : List α} {i : Nat} {x : α} (h : l[i]? = some x) : l = l.take i ++ x :: l.drop (i + 1) ∧ l.take (i + 1) = l.take i ++ [x] ∧ l.drop i = x :: l.drop (i + 1) := by
  obtain ⟨hi, hx⟩ := List.getElem?_eq_some_iff.1 h
  have h3 : l.drop i = x :: l.drop (i + 1) := by rw [List.drop_eq_getElem_cons hi, hx]
  refine ⟨?_, ?_, h3⟩
  · rw [← h3, List.take_append_drop]
  · rw [List.take_add_one, h]; rfl
/-! Sizes -/
def sumOf {α : Type} (f : α → Nat) (l : List α) : Nat := (l.map f).sum
theorem sumOf_take {α : Type} {f : α → Nat} {l : List α} {i : Nat} {x : α} (h : l[i]? = some x) : sumOf f (l.take (i + 1)) = sumOf f (l.take i) + f x ∧ sumOf f (l.take (i + 1)) ≤ sumOf f l := by
  obtain ⟨h1, h2, _⟩ := split_at' h
  refine ⟨by rw [h2]; simp [sumOf], ?_⟩
  conv => rhs; rw [h1]
  rw [h2]
  simp [sumOf]
theorem sumOf_mem {α : Type} {f : α → Nat} {l : List α} {x : α} (h : x ∈ l) : f x ≤ sumOf f l := by
  obtain ⟨i, hi⟩ := List.getElem?_of_mem h
  have := sumOf_take (f := f) hi
  omega
def szI (l : List Itm) : Nat := l.length + sumOf (fun x => x.e.data.size) l
def szSta (s : Sta) : Nat := szI s.items + s.floors.length
theorem ac_laws_szEntry (x : Ent) (n : Int) (st : St) (h0 : 0 ≤ n) (hn : n ≤ 1048576) (hm : x.data.size ≤ maxLen) : C 172 [.agg #[vI x.inc, vI x.rank, vI x.beat, vI x.ver, .string x.data], vI n] st (fun v s => ∃ r, v = vI r ∧ r ≤ n ∧ (0 ≤ r → r + (x.data.size : Int) = n) ∧ s = st) := by
  have hm : x.data.size ≤ 9223372036854775807 := hm
  refine AC.enterX (i := ⟨[2], [2, 6], [0, 1, 2, 4, 11]⟩) [] Try.func172 rfl rfl (by kernel_rfl) (by kernel_rfl) Try.ntmps172 (Nat.le_of_ble_eq_true rfl) rfl ?_
  refine ⟨_, rfl, ?_⟩
  refine AW.cutM (1) st [(1, vI n), (2, vL 2 0 (0)), (4, vI (0))] [(2, 0, [vI x.inc, vI x.rank, vI x.beat, vI x.ver, .string x.data])] ⟨rfl, rfl, rfl, trivial⟩ ⟨rfl, trivial⟩ rfl fun ρ0 ff => ?_
  iterate 3 refine ⟨_, rfl, ?_⟩
  have e9 : IntKind.wrap .i64 (n - (x.data.size : Int)) = n - (x.data.size : Int) := wrap_i64 (by omega) (by omega)
  refine ⟨_, rfl, ?_⟩
  refine AW.cutM (1) st [(1, vI (n - (x.data.size : Int))), (4, vI (0))] [] ⟨congrArg (Value.int .i64) e9, rfl, trivial⟩ trivial rfl fun ρ0 ff => ?_
  refine ⟨_, rfl, ?_⟩
  rintro (_|_) h1
  · replace h1 : ¬ (n - (x.data.size : Int) < 0) := of_decide_eq_false h1
    refine AW.cutM (1) st [(1, vI (n - (x.data.size : Int))), (4, vI (0)), (11, vB false)] [] ⟨rfl, rfl, rfl, trivial⟩ trivial rfl fun ρ0 ff => ?_
    refine cx_sound _ _ _ _ _ ?_
    refine cx_sound _ _ _ _ _ ?_
    exact ⟨.inl rfl, _, rfl, _, rfl, by omega, fun _ => by omega, rfl⟩
  · replace h1 : n - (x.data.size : Int) < 0 := of_decide_eq_true h1
    refine AW.cutM (1) st [(1, vI (n - (x.data.size : Int))), (4, vI (0)), (11, vB true)] [] ⟨rfl, rfl, rfl, trivial⟩ trivial rfl fun ρ0 ff => ?_
    refine cx_sound _ _ _ _ _ ?_
    exact ⟨.inl rfl, _, rfl, -1, rfl, by omega, fun h => absurd h (by omega), rfl⟩
theorem ac_laws_szItem (x : Itm) (n : Int) (st : St) (h0 : 0 ≤ n) (hn : n ≤ 1048576) (hm : x.e.data.size ≤ maxLen) : C 139 [.agg #[vI x.id, vI x.e.inc, vI x.e.rank, vI x.e.beat, vI x.e.ver, .string x.e.data], vI n] st (fun v s => ∃ r, v = vI r ∧ r ≤ n ∧ (0 ≤ r → r + (x.e.data.size : Int) = n) ∧ s = st) := by
  refine AC.enterX (i := ⟨[2], [2, 5], [0, 1, 2, 4, 10]⟩) [] Try.func139 rfl rfl (by kernel_rfl) (by kernel_rfl) Try.ntmps139 (Nat.le_of_ble_eq_true rfl) rfl ?_
  refine ⟨_, rfl, ?_⟩
  refine AW.cutM (1) st [(1, vI n), (2, vL 2 0 (0)), (4, vI (0))] [(2, 0, [vI x.id, vI x.e.inc, vI x.e.rank, vI x.e.beat, vI x.e.ver, .string x.e.data])] ⟨rfl, rfl, rfl, trivial⟩ ⟨rfl, trivial⟩ rfl fun ρ0 ff => ?_
  iterate 2 refine ⟨_, rfl, ?_⟩
  refine ⟨_, rfl, (ac_laws_szEntry x.e n st h0 hn hm).mono ?_⟩
  rintro _ st ⟨r, rfl, hr, hz, rfl⟩
  refine AW.cutM (1) st [(1, vI r), (4, vI (0))] [] ⟨rfl, rfl, trivial⟩ trivial rfl fun ρ0 ff => ?_
  refine ⟨_, rfl, ?_⟩
  rintro (_|_) h1
  · replace h1 : ¬ (r < 0) := of_decide_eq_false h1
    refine AW.cutM (1) st [(1, vI r), (4, vI (0)), (10, vB false)] [] ⟨rfl, rfl, rfl, trivial⟩ trivial rfl fun ρ0 ff => ?_
    refine cx_sound _ _ _ _ _ ?_
    refine cx_sound _ _ _ _ _ ?_
    exact ⟨.inl rfl, _, rfl, r, rfl, hr, hz, rfl⟩
  · replace h1 : r < 0 := of_decide_eq_true h1
    refine AW.cutM (1) st [(1, vI r), (4, vI (0)), (10, vB true)] [] ⟨rfl, rfl, rfl, trivial⟩ trivial rfl fun ρ0 ff => ?_
    refine cx_sound _ _ _ _ _ ?_
    exact ⟨.inl rfl, _, rfl, -1, rfl, by omega, fun h => absurd h (by omega), rfl⟩
theorem ac_laws_szItemS (p : Option Addr) (l : List Itm) (n : Int) (st : St) (hR : Rows st 6 cItm p l) (h0 : 0 ≤ n) (hn : n ≤ 1048576) (hm : l.length ≤ maxLen) (hr : ∀ x ∈ l, x.e.data.size ≤ maxLen) : C 69 [vS p l.length, vI n] st (fun v s => ∃ r, v = vI r ∧ r ≤ n ∧ (0 ≤ r → r + (szI l : Int) = n) ∧ s = st) := by
  have hm : l.length ≤ 9223372036854775807 := hm
  refine AC.enterX (i := ⟨[], [], [0, 1, 4, 5, 11, 15, 25]⟩) [] Try.func69 rfl rfl (by kernel_rfl) (by kernel_rfl) Try.ntmps69 (Nat.le_of_ble_eq_true rfl) rfl ?_
  refine AW.cut lo0 st [(0, vS p l.length), (1, vI n), (4, vI (0))] ⟨rfl, rfl, rfl, trivial⟩ fun ρ0 => ?_
  refine ⟨_, rfl, ?_⟩
  have e9 : IntKind.wrap .i64 (n - (l.length : Int)) = n - (l.length : Int) := wrap_i64 (by omega) (by omega)
  refine ⟨_, rfl, ?_⟩
  refine AW.cut lo0 st [(0, vS p l.length), (1, vI (n - (l.length : Int))), (4, vI (0))] ⟨rfl, congrArg (Value.int .i64) e9, rfl, trivial⟩ fun ρ0 => ?_
  refine ⟨_, rfl, ?_⟩
  rintro (_|_) h1
  · replace h1 : ¬ (n - (l.length : Int) < 0) := of_decide_eq_false h1
    refine AW.cut lo0 st [(0, vS p l.length), (1, vI (n - (l.length : Int))), (4, vI (0)), (11, vB false)] ⟨rfl, rfl, rfl, rfl, trivial⟩ fun ρ0 => ?_
    refine cx_sound _ _ _ _ _ ?_
    refine AW.cut lo0 st [(0, vS p l.length), (1, vI (n - (l.length : Int))), (4, vI (0)), (5, vI (0))] ⟨rfl, rfl, rfl, rfl, trivial⟩ fun ρ0 => ?_
    refine AW.loop0 (fun x : Nat × Int => [(0, vS p l.length), (1, vI x.2), (5, vI (x.1 : Int))]) (fun m (x : Nat × Int) st' => m = l.length - x.1 ∧ x.1 ≤ l.length ∧ 0 ≤ x.2 ∧ x.2 + (l.length : Int) + (sumOf (fun x => x.e.data.size) (l.take x.1) : Int) = n ∧ st = st') (0, n - (l.length : Int)) _ ⟨rfl, rfl, rfl, trivial⟩ rfl ⟨rfl, Nat.zero_le _, by omega, by simp [sumOf], rfl⟩ ?_
    rintro m x ρ0 st' ⟨rfl, hi, hx0, hx1, rfl⟩
    iterate 2 refine ⟨_, rfl, ?_⟩
    rintro (_|_) h2
    · replace h2 : ¬ ((x.1 : Int) < (l.length : Int)) := of_decide_eq_false h2
      refine AW.cut lo0 st [(0, vS p l.length), (1, vI x.2), (5, vI (x.1 : Int)), (15, vB false)] ⟨rfl, rfl, rfl, rfl, trivial⟩ fun ρ0 => ?_
      refine cx_sound _ _ _ _ _ ?_
      refine cx_sound _ _ _ _ _ ?_
      have hil : x.1 = l.length := by omega
      exact ⟨.inl rfl, _, rfl, x.2, rfl, by omega, fun _ => by rw [hil, List.take_length] at hx1; unfold szI; omega, rfl⟩
    · replace h2 : (x.1 : Int) < (l.length : Int) := of_decide_eq_true h2
      refine AW.cut lo0 st [(0, vS p l.length), (1, vI x.2), (5, vI (x.1 : Int)), (15, vB true)] ⟨rfl, rfl, rfl, rfl, trivial⟩ fun ρ0 => ?_
      have h2' := Int.ofNat_lt.1 h2
      have ⟨b1, o1, k1, r, hpe, hr1, hm1, hc1⟩ := hR.at h2'
      have hmem := List.mem_of_getElem? hr1
      have hct := sumOf_take (f := fun x : Itm => x.e.data.size) hr1
      refine cx_sound _ _ _ _ _ ?_
      refine ⟨_, op_idx (j := (x.1 : Int)) (n := l.length) (q := ⟨b1, o1, none⟩) rfl (congrArg (fun u => vS u l.length) hpe) rfl rfl rfl (Int.natCast_nonneg _) h2, ?_⟩
      refine ⟨_, op_lda rfl rfl rfl rfl rfl hm1 hc1 rfl, ?_⟩
      refine ⟨_, rfl, (ac_laws_szItem r x.2 st hx0 (by omega) (hr r hmem)).mono ?_⟩
      rintro _ st ⟨y, rfl, hy, hz, rfl⟩
      refine AW.cut lo0 st [(0, vS p l.length), (1, vI y), (5, vI (x.1 : Int)), (15, vB true)] ⟨rfl, rfl, rfl, rfl, trivial⟩ fun ρ0 => ?_
      refine ⟨_, rfl, ?_⟩
      rintro (_|_) h3
      · replace h3 : ¬ (y < 0) := of_decide_eq_false h3
        refine AW.cut lo0 st [(0, vS p l.length), (1, vI y), (5, vI (x.1 : Int)), (15, vB true), (25, vB false)] ⟨rfl, rfl, rfl, rfl, rfl, trivial⟩ fun ρ0 => ?_
        refine cx_sound _ _ _ _ _ ?_
        have e17 : IntKind.wrap .i64 ((x.1 : Int) + 1) = ((x.1 + 1 : Nat) : Int) := (wrap_i64 (by omega) (by omega)).trans (by omega)
        refine ⟨_, rfl, ?_⟩
        exact ⟨(x.1 + 1, y), l.length - (x.1 + 1), by omega, ⟨rfl, rfl, congrArg (Value.int .i64) e17, trivial⟩, rfl, rfl, h2', by omega, by have := hz (by omega); simp only; omega, rfl⟩
      · replace h3 : y < 0 := of_decide_eq_true h3
        refine AW.cut lo0 st [(0, vS p l.length), (1, vI y), (5, vI (x.1 : Int)), (15, vB true), (25, vB true)] ⟨rfl, rfl, rfl, rfl, rfl, trivial⟩ fun ρ0 => ?_
        refine cx_sound _ _ _ _ _ ?_
        exact ⟨.inl rfl, _, rfl, -1, rfl, by omega, fun h => absurd h (by omega), rfl⟩
  · replace h1 : n - (l.length : Int) < 0 := of_decide_eq_true h1
    refine AW.cut lo0 st [(0, vS p l.length), (1, vI (n - (l.length : Int))), (4, vI (0)), (11, vB true)] ⟨rfl, rfl, rfl, rfl, trivial⟩ fun ρ0 => ?_
    refine cx_sound _ _ _ _ _ ?_
    exact ⟨.inl rfl, _, rfl, -1, rfl, by omega, fun h => absurd h (by omega), rfl⟩
/-! States -/
def RdS (st : St) (s : SV) : Prop := Rows st 6 cItm s.p s.x.items ∧ Rows st 2 cFlr s.q s.x.floors
abbrev pcS (s : SV) : List Pc := [pcR 6 cItm s.p s.x.items, pcR 2 cFlr s.q s.x.floors]
theorem RdS.pres {st st' : St} {s : SV} (h : RdS st s) (k : Pres st st') : RdS st' s := ⟨k.rows h.1, k.rows h.2⟩
theorem OwnP.items {st : St} {s : SV} (h : OwnP st (pcS s)) : OwnR st 6 cItm s.p s.x.items := pc_own (by decide) len_cItm (h.1 _ (List.mem_cons_self ..))
theorem OwnP.floors {st : St} {s : SV} (h : OwnP st (pcS s)) : OwnR st 2 cFlr s.q s.x.floors := pc_own (by decide) len_cFlr (h.1 _ (List.mem_cons_of_mem _ (List.mem_cons_self ..)))
theorem OwnP.rdS {st : St} {s : SV} (h : OwnP st (pcS s)) : RdS st s := ⟨h.items.rows len_cItm, h.floors.rows len_cFlr⟩
/-- How great a state may be. -/
def bigS (s : Sta) : Prop := szOk s.items.length ∧ szOk s.floors.length ∧ ∀ x ∈ s.items, szOk x.e.data.size
theorem sz_bigS {s : Sta} (h : szSta s ≤ 1048576) : bigS s := by
  unfold szSta szI at h
  refine ⟨by unfold szOk; omega, by unfold szOk; omega, fun x hx => ?_⟩
  have := sumOf_mem (f := fun x : Itm => x.e.data.size) hx
  unfold szOk
  omega
/-- What a world's state may hold. -/
def maxS (s : Sta) : Prop := s.items.length ≤ maxLen ∧ s.floors.length ≤ maxLen ∧ ∀ x ∈ s.items, x.e.data.size ≤ maxLen
theorem ac_laws_szState (s : SV) (n : Int) (st : St) (hR : RdS st s) (h0 : 0 ≤ n) (hn : n ≤ 1048576) (hm : maxS s.x) : C 19 [.agg #[vS s.p s.x.items.length, vS s.q s.x.floors.length], vI n] st (fun v s' => ∃ r, v = vI r ∧ r ≤ n ∧ (0 ≤ r → r + (szSta s.x : Int) = n) ∧ s' = st) := by
  refine AC.enterX (i := ⟨[2], [2, 5, 11], [0, 1, 2, 4, 10, 16]⟩) [] Try.func19 rfl rfl (by kernel_rfl) (by kernel_rfl) Try.ntmps19 (Nat.le_of_ble_eq_true rfl) rfl ?_
  refine ⟨_, rfl, ?_⟩
  refine AW.cutM (1) st [(1, vI n), (2, vL 2 0 (0)), (4, vI (0))] [(2, 0, [vS s.p s.x.items.length, vS s.q s.x.floors.length])] ⟨rfl, rfl, rfl, trivial⟩ ⟨rfl, trivial⟩ rfl fun ρ0 ff => ?_
  iterate 2 refine ⟨_, rfl, ?_⟩
  refine ⟨_, rfl, (ac_laws_szItemS s.p s.x.items n st hR.1 h0 hn hm.1 hm.2.2).mono ?_⟩
  rintro _ st ⟨r, rfl, hr, hz, rfl⟩
  refine AW.cutM (1) st [(1, vI r), (2, vL 2 0 (0)), (4, vI (0))] [(2, 0, [vS s.p s.x.items.length, vS s.q s.x.floors.length])] ⟨rfl, rfl, rfl, trivial⟩ ⟨rfl, trivial⟩ rfl fun ρ0 ff => ?_
  refine ⟨_, rfl, ?_⟩
  rintro (_|_) h1
  · replace h1 : ¬ (r < 0) := of_decide_eq_false h1
    refine AW.cutM (1) st [(1, vI r), (2, vL 2 0 (0)), (4, vI (0)), (10, vB false)] [(2, 0, [vS s.p s.x.items.length, vS s.q s.x.floors.length])] ⟨rfl, rfl, rfl, rfl, trivial⟩ ⟨rfl, trivial⟩ rfl fun ρ0 ff => ?_
    refine cx_sound _ _ _ _ _ ?_
    iterate 2 refine ⟨_, rfl, ?_⟩
    refine ⟨_, rfl, (ac_laws_szFloorS s.q s.x.floors r st (by omega) (by omega) hm.2.1).mono ?_⟩
    rintro _ st ⟨r2, rfl, hr2, hz2, rfl⟩
    refine AW.cutM (1) st [(1, vI r2), (4, vI (0))] [] ⟨rfl, rfl, trivial⟩ trivial rfl fun ρ0 ff => ?_
    refine ⟨_, rfl, ?_⟩
    rintro (_|_) h2
    · replace h2 : ¬ (r2 < 0) := of_decide_eq_false h2
      refine AW.cutM (1) st [(1, vI r2), (4, vI (0)), (16, vB false)] [] ⟨rfl, rfl, rfl, trivial⟩ trivial rfl fun ρ0 ff => ?_
      refine cx_sound _ _ _ _ _ ?_
      refine cx_sound _ _ _ _ _ ?_
      exact ⟨.inl rfl, _, rfl, r2, rfl, by omega, fun h => by have := hz (by omega); have := hz2 h; unfold szSta; omega, rfl⟩
    · replace h2 : r2 < 0 := of_decide_eq_true h2
      refine AW.cutM (1) st [(1, vI r2), (4, vI (0)), (16, vB true)] [] ⟨rfl, rfl, rfl, trivial⟩ trivial rfl fun ρ0 ff => ?_
      refine cx_sound _ _ _ _ _ ?_
      exact ⟨.inl rfl, _, rfl, -1, rfl, by omega, fun h => absurd h (by omega), rfl⟩
  · replace h1 : r < 0 := of_decide_eq_true h1
    refine AW.cutM (1) st [(1, vI r), (2, vL 2 0 (0)), (4, vI (0)), (10, vB true)] [(2, 0, [vS s.p s.x.items.length, vS s.q s.x.floors.length])] ⟨rfl, rfl, rfl, rfl, trivial⟩ ⟨rfl, trivial⟩ rfl fun ρ0 ff => ?_
    refine cx_sound _ _ _ _ _ ?_
    exact ⟨.inl rfl, _, rfl, -1, rfl, by omega, fun h => absurd h (by omega), rfl⟩
theorem ac_laws_toState (s : SV) (st : St) (hR : RdS st s) (hb : bigS s.x) : C 21 [.agg #[vS s.p s.x.items.length, vS s.q s.x.floors.length]] st (fun v s' => ∃ u : SV, v = .agg #[vS u.p u.x.items.length, vS u.q u.x.floors.length] ∧ u.x = s.x ∧ OwnP s' (pcS u) ∧ NewP st.next (pcS u) ∧ Pres st s') := by
  refine AC.enterX (i := ⟨[1, 2, 3], [1, 2, 3, 4, 7, 8, 11], [0, 1, 2, 3]⟩) [] Try.func21 rfl rfl (by kernel_rfl) (by kernel_rfl) Try.ntmps21 (Nat.le_of_ble_eq_true rfl) rfl ?_
  iterate 2 refine ⟨_, rfl, ?_⟩
  refine AW.cutM (2) st [(1, vL 1 0 (0)), (2, vL 2 0 (1))] [(1, 0, [vS s.p s.x.items.length, vS s.q s.x.floors.length]), (2, 1, [.slice none 0 0, .slice none 0 0])] ⟨rfl, rfl, trivial⟩ ⟨rfl, rfl, trivial⟩ rfl fun ρ0 ff => ?_
  refine ⟨_, rfl, ?_⟩
  refine AW.cutM (3) st [(1, vL 1 0 (0)), (2, vL 2 0 (1)), (3, vL 3 0 (2))] [(1, 0, [vS s.p s.x.items.length, vS s.q s.x.floors.length]), (2, 1, [.slice none 0 0, .slice none 0 0]), (3, 2, [.slice none 0 0, .slice none 0 0])] ⟨rfl, rfl, rfl, trivial⟩ ⟨rfl, rfl, rfl, trivial⟩ rfl fun ρ0 ff => ?_
  iterate 2 refine ⟨_, rfl, ?_⟩
  refine ⟨_, rfl, (ac_laws_toItemS s.p s.x.items st hR.1 hb.1).mono ?_⟩
  rintro _ s1 ⟨q1, rfl, hO1, hP1, hN1⟩
  iterate 2 refine ⟨_, rfl, ?_⟩
  refine AW.cutM (3) s1 [(1, vL 1 0 (0)), (2, vL 2 0 (1)), (3, vL 3 0 (2))] [(1, 0, [vS s.p s.x.items.length, vS s.q s.x.floors.length]), (2, 1, [.slice none 0 0, .slice none 0 0]), (3, 2, [vS q1 s.x.items.length, .slice none 0 0])] ⟨rfl, rfl, rfl, trivial⟩ ⟨rfl, rfl, rfl, trivial⟩ rfl fun ρ0 ff => ?_
  iterate 2 refine ⟨_, rfl, ?_⟩
  refine ⟨_, rfl, (ac_laws_toFloorS s.q s.x.floors s1 (hP1.rows hR.2) hb.2.1).mono ?_⟩
  rintro _ s2 ⟨q2, rfl, hO2, hP2, hN2⟩
  iterate 2 refine ⟨_, rfl, ?_⟩
  refine AW.cutM (3) s2 [(2, vL 2 0 (1)), (3, vL 3 0 (2))] [(2, 1, [.slice none 0 0, .slice none 0 0]), (3, 2, [vS q1 s.x.items.length, vS q2 s.x.floors.length])] ⟨rfl, rfl, trivial⟩ ⟨rfl, rfl, trivial⟩ rfl fun ρ0 ff => ?_
  iterate 2 refine ⟨_, rfl, ?_⟩
  refine cx_sound _ _ _ _ _ ?_
  exact ⟨.inl rfl, _, rfl, ⟨q1, q2, s.x⟩, rfl, rfl, OwnP.join (l := [pcR 6 cItm q1 s.x.items]) (OwnP.one (own_pc hO1)) hP2 (OwnP.one (own_pc hO2)) (NewP.cons hN2 NewP.nil), NewP.cons hN1 (NewP.cons (hN2.le hP1.1) NewP.nil), hP1.trans hP2⟩
theorem ac_laws_eqState (a b : SV) (st : St) (hA : RdS st a) (hB : RdS st b) (hb : bigS a.x) : C 24 [.agg #[vS a.p a.x.items.length, vS a.q a.x.floors.length], .agg #[vS b.p b.x.items.length, vS b.q b.x.floors.length]] st (fun v s => ∃ x, v = .bool x ∧ (x = true ↔ a.x = b.x) ∧ s = st) := by
  refine AC.enterX (i := ⟨[2, 3], [2, 3, 5, 7, 11, 13], [0, 1, 2, 3, 4, 10, 16]⟩) [] Try.func24 rfl rfl (by kernel_rfl) (by kernel_rfl) Try.ntmps24 (Nat.le_of_ble_eq_true rfl) rfl ?_
  iterate 2 refine ⟨_, rfl, ?_⟩
  refine AW.cutM (2) st [(2, vL 2 0 (0)), (3, vL 3 0 (1)), (4, vB false)] [(2, 0, [vS a.p a.x.items.length, vS a.q a.x.floors.length]), (3, 1, [vS b.p b.x.items.length, vS b.q b.x.floors.length])] ⟨rfl, rfl, rfl, trivial⟩ ⟨rfl, rfl, trivial⟩ rfl fun ρ0 ff => ?_
  iterate 4 refine ⟨_, rfl, ?_⟩
  refine ⟨_, rfl, (ac_laws_eqItemS a.p b.p a.x.items b.x.items st hA.1 hB.1 hb.1).mono ?_⟩
  rintro _ st ⟨x, rfl, h1, rfl⟩
  rcases x with _|_
  · replace h1 := fun k => Bool.false_ne_true (h1.2 k)
    refine ⟨_, rfl, ?_⟩
    refine AW.cutM (2) st [(2, vL 2 0 (0)), (3, vL 3 0 (1)), (4, vB false), (10, vB true)] [(2, 0, [vS a.p a.x.items.length, vS a.q a.x.floors.length]), (3, 1, [vS b.p b.x.items.length, vS b.q b.x.floors.length])] ⟨rfl, rfl, rfl, rfl, trivial⟩ ⟨rfl, rfl, trivial⟩ rfl fun ρ0 ff => ?_
    refine cx_sound _ _ _ _ _ ?_
    exact ⟨.inl rfl, _, rfl, false, rfl, ⟨fun h => absurd h Bool.false_ne_true, fun h => absurd (by rw [h]) h1⟩, rfl⟩
  · replace h1 := h1.1 rfl
    refine ⟨_, rfl, ?_⟩
    refine AW.cutM (2) st [(2, vL 2 0 (0)), (3, vL 3 0 (1)), (4, vB false), (10, vB false)] [(2, 0, [vS a.p a.x.items.length, vS a.q a.x.floors.length]), (3, 1, [vS b.p b.x.items.length, vS b.q b.x.floors.length])] ⟨rfl, rfl, rfl, rfl, trivial⟩ ⟨rfl, rfl, trivial⟩ rfl fun ρ0 ff => ?_
    refine cx_sound _ _ _ _ _ ?_
    iterate 4 refine ⟨_, rfl, ?_⟩
    refine ⟨_, rfl, (ac_laws_eqFloorS a.q b.q a.x.floors b.x.floors st hA.2 hB.2 hb.2.1).mono ?_⟩
    rintro _ st ⟨y, rfl, h2, rfl⟩
    rcases y with _|_
    · replace h2 := fun k => Bool.false_ne_true (h2.2 k)
      refine ⟨_, rfl, ?_⟩
      refine AW.cutM (2) st [(4, vB false), (16, vB true)] [] ⟨rfl, rfl, trivial⟩ trivial rfl fun ρ0 ff => ?_
      refine cx_sound _ _ _ _ _ ?_
      exact ⟨.inl rfl, _, rfl, false, rfl, ⟨fun h => absurd h Bool.false_ne_true, fun h => absurd (by rw [h]) h2⟩, rfl⟩
    · replace h2 := h2.1 rfl
      refine ⟨_, rfl, ?_⟩
      refine AW.cutM (2) st [(4, vB false), (16, vB false)] [] ⟨rfl, rfl, trivial⟩ trivial rfl fun ρ0 ff => ?_
      refine cx_sound _ _ _ _ _ ?_
      refine cx_sound _ _ _ _ _ ?_
      refine ⟨.inl rfl, _, rfl, true, rfl, ⟨fun _ => ?_, fun _ => rfl⟩, rfl⟩
      obtain ⟨_, _, ⟨ai, af⟩⟩ := a
      obtain ⟨_, _, ⟨bi, bf⟩⟩ := b
      simp only at h1 h2 ⊢
      rw [h1, h2]
/-! Entries and floors -/
def entOk (e : Ent) : Prop := (1 ≤ e.inc ∧ e.inc ≤ 1000) ∧ (0 ≤ e.rank ∧ e.rank ≤ 1) ∧ (0 ≤ e.beat ∧ e.beat ≤ 100000) ∧ (0 ≤ e.ver ∧ e.ver ≤ 1000) ∧ e.data.size ≤ 8
theorem ac_spec_EntryOk (e : Ent) (st : St) : C 152 [.agg #[vI e.inc, vI e.rank, vI e.beat, vI e.ver, .string e.data]] st (fun v s => ∃ x, v = .bool x ∧ (x = true ↔ entOk e) ∧ s = st) := by
  refine AC.enterX (i := ⟨[1], [1, 3, 7, 12, 17, 22], [0, 1, 2]⟩) [] Try.func152 rfl rfl (by kernel_rfl) (by kernel_rfl) Try.ntmps152 (Nat.le_of_ble_eq_true rfl) rfl ?_
  refine ⟨_, rfl, ?_⟩
  refine AW.cutM (1) st [(1, vL 1 0 (0)), (2, vB false)] [(1, 0, [vI e.inc, vI e.rank, vI e.beat, vI e.ver, .string e.data])] ⟨rfl, rfl, trivial⟩ ⟨rfl, trivial⟩ rfl fun ρ0 ff => ?_
  iterate 2 refine ⟨_, rfl, ?_⟩
  refine ⟨_, rfl, (ac_spec_l1In e.inc 1 1000 st).mono ?_⟩
  rintro _ st ⟨a, rfl, h1, rfl⟩
  rcases a with _|_
  · replace h1 := of_decide_eq_false h1.symm
    iterate 4 refine ⟨_, rfl, ?_⟩
    refine cx_sound _ _ _ _ _ ?_
    exact ⟨.inl rfl, _, rfl, false, rfl, ⟨fun h => absurd h Bool.false_ne_true, fun h => absurd h.1 h1⟩, rfl⟩
  · replace h1 := of_decide_eq_true h1.symm
    iterate 2 refine ⟨_, rfl, ?_⟩
    refine ⟨_, rfl, (ac_spec_l1In e.rank 0 1 st).mono ?_⟩
    rintro _ st ⟨b, rfl, h2, rfl⟩
    rcases b with _|_
    · replace h2 := of_decide_eq_false h2.symm
      iterate 4 refine ⟨_, rfl, ?_⟩
      refine cx_sound _ _ _ _ _ ?_
      exact ⟨.inl rfl, _, rfl, false, rfl, ⟨fun h => absurd h Bool.false_ne_true, fun h => absurd h.2.1 h2⟩, rfl⟩
    · replace h2 := of_decide_eq_true h2.symm
      iterate 3 refine ⟨_, rfl, ?_⟩
      refine ⟨_, rfl, (ac_spec_l1In e.beat 0 100000 st).mono ?_⟩
      rintro _ st ⟨c, rfl, h3, rfl⟩
      rcases c with _|_
      · replace h3 := of_decide_eq_false h3.symm
        iterate 3 refine ⟨_, rfl, ?_⟩
        refine cx_sound _ _ _ _ _ ?_
        exact ⟨.inl rfl, _, rfl, false, rfl, ⟨fun h => absurd h Bool.false_ne_true, fun h => absurd h.2.2.1 h3⟩, rfl⟩
      · replace h3 := of_decide_eq_true h3.symm
        iterate 3 refine ⟨_, rfl, ?_⟩
        refine ⟨_, rfl, (ac_spec_l1In e.ver 0 1000 st).mono ?_⟩
        rintro _ st ⟨d, rfl, h4, rfl⟩
        rcases d with _|_
        · replace h4 := of_decide_eq_false h4.symm
          iterate 2 refine ⟨_, rfl, ?_⟩
          refine cx_sound _ _ _ _ _ ?_
          exact ⟨.inl rfl, _, rfl, false, rfl, ⟨fun h => absurd h Bool.false_ne_true, fun h => absurd h.2.2.2.1 h4⟩, rfl⟩
        · replace h4 := of_decide_eq_true h4.symm
          iterate 5 refine ⟨_, rfl, ?_⟩
          rintro (_|_) h5
          · replace h5 : ¬ ((e.data.size : Int) ≤ 8) := of_decide_eq_false h5
            refine ⟨_, rfl, ?_⟩
            refine cx_sound _ _ _ _ _ ?_
            exact ⟨.inl rfl, _, rfl, false, rfl, ⟨fun h => absurd h Bool.false_ne_true, fun h => absurd h.2.2.2.2 (by omega)⟩, rfl⟩
          · replace h5 : (e.data.size : Int) ≤ 8 := of_decide_eq_true h5
            refine ⟨_, rfl, ?_⟩
            refine cx_sound _ _ _ _ _ ?_
            exact ⟨.inl rfl, _, rfl, true, rfl, ⟨fun _ => ⟨h1, h2, h3, h4, by omega⟩, fun _ => rfl⟩, rfl⟩
theorem ac_impl_EntryOk (e : Ent) (st : St) : C 153 [.agg #[vI e.inc, vI e.rank, vI e.beat, vI e.ver, .string e.data]] st (fun v s => ∃ x, v = .bool x ∧ (x = true ↔ entOk e) ∧ s = st) := by
  refine AC.enterX (i := ⟨[1], [1, 3, 7, 12, 17, 22], [0, 1, 2]⟩) [] Try.func153 rfl rfl (by kernel_rfl) (by kernel_rfl) Try.ntmps153 (Nat.le_of_ble_eq_true rfl) rfl ?_
  refine ⟨_, rfl, ?_⟩
  refine AW.cutM (1) st [(1, vL 1 0 (0)), (2, vB false)] [(1, 0, [vI e.inc, vI e.rank, vI e.beat, vI e.ver, .string e.data])] ⟨rfl, rfl, trivial⟩ ⟨rfl, trivial⟩ rfl fun ρ0 ff => ?_
  iterate 2 refine ⟨_, rfl, ?_⟩
  refine ⟨_, rfl, (ac_impl_within e.inc 1 1000 st).mono ?_⟩
  rintro _ st ⟨a, rfl, h1, rfl⟩
  rcases a with _|_
  · replace h1 := of_decide_eq_false h1.symm
    iterate 4 refine ⟨_, rfl, ?_⟩
    refine cx_sound _ _ _ _ _ ?_
    exact ⟨.inl rfl, _, rfl, false, rfl, ⟨fun h => absurd h Bool.false_ne_true, fun h => absurd h.1 h1⟩, rfl⟩
  · replace h1 := of_decide_eq_true h1.symm
    iterate 2 refine ⟨_, rfl, ?_⟩
    refine ⟨_, rfl, (ac_impl_within e.rank 0 1 st).mono ?_⟩
    rintro _ st ⟨b, rfl, h2, rfl⟩
    rcases b with _|_
    · replace h2 := of_decide_eq_false h2.symm
      iterate 4 refine ⟨_, rfl, ?_⟩
      refine cx_sound _ _ _ _ _ ?_
      exact ⟨.inl rfl, _, rfl, false, rfl, ⟨fun h => absurd h Bool.false_ne_true, fun h => absurd h.2.1 h2⟩, rfl⟩
    · replace h2 := of_decide_eq_true h2.symm
      iterate 3 refine ⟨_, rfl, ?_⟩
      refine ⟨_, rfl, (ac_impl_within e.beat 0 100000 st).mono ?_⟩
      rintro _ st ⟨c, rfl, h3, rfl⟩
      rcases c with _|_
      · replace h3 := of_decide_eq_false h3.symm
        iterate 3 refine ⟨_, rfl, ?_⟩
        refine cx_sound _ _ _ _ _ ?_
        exact ⟨.inl rfl, _, rfl, false, rfl, ⟨fun h => absurd h Bool.false_ne_true, fun h => absurd h.2.2.1 h3⟩, rfl⟩
      · replace h3 := of_decide_eq_true h3.symm
        iterate 3 refine ⟨_, rfl, ?_⟩
        refine ⟨_, rfl, (ac_impl_within e.ver 0 1000 st).mono ?_⟩
        rintro _ st ⟨d, rfl, h4, rfl⟩
        rcases d with _|_
        · replace h4 := of_decide_eq_false h4.symm
          iterate 2 refine ⟨_, rfl, ?_⟩
          refine cx_sound _ _ _ _ _ ?_
          exact ⟨.inl rfl, _, rfl, false, rfl, ⟨fun h => absurd h Bool.false_ne_true, fun h => absurd h.2.2.2.1 h4⟩, rfl⟩
        · replace h4 := of_decide_eq_true h4.symm
          iterate 5 refine ⟨_, rfl, ?_⟩
          rintro (_|_) h5
          · replace h5 : ¬ ((e.data.size : Int) ≤ 8) := of_decide_eq_false h5
            refine ⟨_, rfl, ?_⟩
            refine cx_sound _ _ _ _ _ ?_
            exact ⟨.inl rfl, _, rfl, false, rfl, ⟨fun h => absurd h Bool.false_ne_true, fun h => absurd h.2.2.2.2 (by omega)⟩, rfl⟩
          · replace h5 : (e.data.size : Int) ≤ 8 := of_decide_eq_true h5
            refine ⟨_, rfl, ?_⟩
            refine cx_sound _ _ _ _ _ ?_
            exact ⟨.inl rfl, _, rfl, true, rfl, ⟨fun _ => ⟨h1, h2, h3, h4, by omega⟩, fun _ => rfl⟩, rfl⟩
def floorOf : List Flr → Int → Int
  | [], _ => 0
  | f :: l, id => if f.id = id then f.inc else floorOf l id
theorem ac_spec_FloorOf (s : SV) (id : Int) (st : St) (hR : RdS st s) (hb : bigS s.x) : C 141 [.agg #[vS s.p s.x.items.length, vS s.q s.x.floors.length], vI id] st (fun v s' => v = vI (floorOf s.x.floors id) ∧ s' = st) := by
  have hs : s.x.floors.length ≤ 1048576 := hb.2.1
  refine AC.enterX (i := ⟨[2], [2, 7, 13, 21], [0, 1, 2, 4, 5, 10, 20]⟩) [] Try.func141 rfl rfl (by kernel_rfl) (by kernel_rfl) Try.ntmps141 (Nat.le_of_ble_eq_true rfl) rfl ?_
  refine ⟨_, rfl, ?_⟩
  refine cx_sound _ _ _ _ _ ?_
  refine AW.cutM (1) st [(1, vI id), (2, vL 2 0 (0)), (4, vI (0)), (5, vI (0))] [(2, 0, [vS s.p s.x.items.length, vS s.q s.x.floors.length])] ⟨rfl, rfl, rfl, rfl, trivial⟩ ⟨rfl, trivial⟩ rfl fun ρ0 ff => ?_
  refine AW.loopM (fun i : Nat => [(1, vI id), (2, vL 2 0 (0)), (5, vI (i : Int))]) (fun i : Nat => [(2, 0, [vS s.p s.x.items.length, vS s.q s.x.floors.length])]) (fun m (i : Nat) st' => m = s.x.floors.length - i ∧ i ≤ s.x.floors.length ∧ floorOf s.x.floors id = floorOf (s.x.floors.drop i) id ∧ st = st') 0 _ ⟨rfl, rfl, rfl, trivial⟩ ⟨rfl, trivial⟩ ⟨rfl, Nat.zero_le _, rfl, rfl⟩ ?_
  rintro m i ρ0 ff gg st' ⟨rfl, hi, hf, rfl⟩
  refine ⟨_, rfl, ?_⟩
  refine ⟨_, op_ldo rfl rfl rfl rfl, ?_⟩
  iterate 2 refine ⟨_, rfl, ?_⟩
  rintro (_|_) h1
  · replace h1 : ¬ ((i : Int) < (s.x.floors.length : Int)) := of_decide_eq_false h1
    refine AW.cutM (gg) st [(1, vI id), (2, vL 2 0 (0)), (5, vI (i : Int)), (10, vB false)] [(2, 0, [vS s.p s.x.items.length, vS s.q s.x.floors.length])] ⟨rfl, rfl, rfl, rfl, trivial⟩ ⟨rfl, trivial⟩ rfl fun ρ0 ff => ?_
    refine cx_sound _ _ _ _ _ ?_
    refine cx_sound _ _ _ _ _ ?_
    have hil : i = s.x.floors.length := by omega
    exact ⟨.inl rfl, _, rfl, congrArg vI (by rw [hf, hil, List.drop_length]; rfl), rfl⟩
  · replace h1 : (i : Int) < (s.x.floors.length : Int) := of_decide_eq_true h1
    refine AW.cutM (gg) st [(1, vI id), (2, vL 2 0 (0)), (5, vI (i : Int)), (10, vB true)] [(2, 0, [vS s.p s.x.items.length, vS s.q s.x.floors.length])] ⟨rfl, rfl, rfl, rfl, trivial⟩ ⟨rfl, trivial⟩ rfl fun ρ0 ff => ?_
    have h1' := Int.ofNat_lt.1 h1
    have ⟨b1, o1, k1, x, hpe, hx, hm1, hc1, hb1⟩ := hR.2.atB h1'
    rw [(split_at' hx).2.2, floorOf] at hf
    refine cx_sound _ _ _ _ _ ?_
    refine ⟨_, rfl, ?_⟩
    refine ⟨_, op_ldo rfl rfl rfl rfl, ?_⟩
    refine ⟨_, op_idx (j := (i : Int)) (n := s.x.floors.length) (q := ⟨b1, o1, none⟩) rfl (congrArg (fun u => vS u s.x.floors.length) hpe) rfl rfl rfl (Int.natCast_nonneg _) h1, ?_⟩
    refine ⟨_, rfl, ?_⟩
    refine ⟨_, op_ldc (i := 0) rfl rfl rfl rfl hm1 hc1 rfl rfl, ?_⟩
    refine ⟨_, rfl, ?_⟩
    rintro (_|_) h2
    · replace h2 : ¬ (x.id = id) := beq_eq_false_iff_ne.1 h2
      refine AW.cutM (gg) st [(1, vI id), (2, vL 2 0 (0)), (5, vI (i : Int)), (10, vB true), (20, vB false)] [(2, 0, [vS s.p s.x.items.length, vS s.q s.x.floors.length])] ⟨rfl, rfl, rfl, rfl, rfl, trivial⟩ ⟨rfl, trivial⟩ rfl fun ρ0 ff => ?_
      refine cx_sound _ _ _ _ _ ?_
      have e12 : IntKind.wrap .i64 ((i : Int) + 1) = ((i + 1 : Nat) : Int) := (wrap_i64 (by omega) (by omega)).trans (by omega)
      refine ⟨_, rfl, ?_⟩
      exact ⟨i + 1, s.x.floors.length - (i + 1), by omega, ⟨rfl, rfl, congrArg (Value.int .i64) e12, trivial⟩, ⟨rfl, trivial⟩, rfl, h1', by rw [hf, if_neg h2], rfl⟩
    · replace h2 : x.id = id := beq_iff_eq.1 h2
      refine AW.cutM (gg) st [(1, vI id), (2, vL 2 0 (0)), (5, vI (i : Int)), (10, vB true), (20, vB true)] [(2, 0, [vS s.p s.x.items.length, vS s.q s.x.floors.length])] ⟨rfl, rfl, rfl, rfl, rfl, trivial⟩ ⟨rfl, trivial⟩ rfl fun ρ0 ff => ?_
      refine ⟨_, rfl, ?_⟩
      refine ⟨_, op_ldo rfl rfl rfl rfl, ?_⟩
      refine ⟨_, op_idx (j := (i : Int)) (n := s.x.floors.length) (q := ⟨b1, o1, none⟩) rfl (congrArg (fun u => vS u s.x.floors.length) hpe) rfl rfl rfl (Int.natCast_nonneg _) h1, ?_⟩
      refine ⟨_, rfl, ?_⟩
      refine ⟨_, op_ldc (i := 1) rfl rfl rfl rfl hm1 hc1 rfl rfl, ?_⟩
      refine cx_sound _ _ _ _ _ ?_
      exact ⟨.inl rfl, _, rfl, congrArg vI (by rw [hf, if_pos h2]), rfl⟩
theorem ac_impl_FloorOf (s : SV) (id : Int) (st : St) (hR : RdS st s) (hb : bigS s.x) : C 145 [.agg #[vS s.p s.x.items.length, vS s.q s.x.floors.length], vI id] st (fun v s' => v = vI (floorOf s.x.floors id) ∧ s' = st) := by
  have hs : s.x.floors.length ≤ 1048576 := hb.2.1
  refine AC.enterX (i := ⟨[2, 6], [2, 6, 7, 14, 18], [0, 1, 2, 4, 6, 8, 9, 10, 11, 17]⟩) [] Try.func145 rfl rfl (by kernel_rfl) (by kernel_rfl) Try.ntmps145 (Nat.le_of_ble_eq_true rfl) rfl ?_
  refine ⟨_, rfl, ?_⟩
  refine AW.cutM (1) st [(1, vI id), (2, vL 2 0 (0)), (4, vI (0))] [(2, 0, [vS s.p s.x.items.length, vS s.q s.x.floors.length])] ⟨rfl, rfl, rfl, trivial⟩ ⟨rfl, trivial⟩ rfl fun ρ0 ff => ?_
  iterate 3 refine ⟨_, rfl, ?_⟩
  refine AW.cutM (1) st [(1, vI id), (4, vI (0)), (8, vS s.q s.x.floors.length), (9, vI (s.x.floors.length)), (10, vI (0))] [] ⟨rfl, rfl, rfl, rfl, rfl, trivial⟩ trivial rfl fun ρ0 ff => ?_
  refine AW.loopM (fun i : Nat => [(1, vI id), (8, vS s.q s.x.floors.length), (9, vI (s.x.floors.length : Int)), (10, vI (i : Int))]) (fun i : Nat => []) (fun m (i : Nat) st' => m = s.x.floors.length - i ∧ i ≤ s.x.floors.length ∧ floorOf s.x.floors id = floorOf (s.x.floors.drop i) id ∧ st = st') 0 _ ⟨rfl, rfl, rfl, rfl, trivial⟩ trivial ⟨rfl, Nat.zero_le _, rfl, rfl⟩ ?_
  rintro m i ρ0 ff gg st' ⟨rfl, hi, hf, rfl⟩
  refine ⟨_, rfl, ?_⟩
  rintro (_|_) h1
  · replace h1 : ¬ ((i : Int) < (s.x.floors.length : Int)) := of_decide_eq_false h1
    refine AW.cutM (gg) st [(1, vI id), (8, vS s.q s.x.floors.length), (9, vI (s.x.floors.length : Int)), (10, vI (i : Int)), (11, vB false)] [] ⟨rfl, rfl, rfl, rfl, rfl, trivial⟩ trivial rfl fun ρ0 ff => ?_
    refine cx_sound _ _ _ _ _ ?_
    refine cx_sound _ _ _ _ _ ?_
    have hil : i = s.x.floors.length := by omega
    exact ⟨.inl rfl, _, rfl, congrArg vI (by rw [hf, hil, List.drop_length]; rfl), rfl⟩
  · replace h1 : (i : Int) < (s.x.floors.length : Int) := of_decide_eq_true h1
    refine AW.cutM (gg) st [(1, vI id), (8, vS s.q s.x.floors.length), (9, vI (s.x.floors.length : Int)), (10, vI (i : Int)), (11, vB true)] [] ⟨rfl, rfl, rfl, rfl, rfl, trivial⟩ trivial rfl fun ρ0 ff => ?_
    have h1' := Int.ofNat_lt.1 h1
    have ⟨b1, o1, k1, x, hpe, hx, hm1, hc1, hb1⟩ := hR.2.atB h1'
    rw [(split_at' hx).2.2, floorOf] at hf
    refine cx_sound _ _ _ _ _ ?_
    refine ⟨_, op_idx (j := (i : Int)) (n := s.x.floors.length) (q := ⟨b1, o1, none⟩) rfl (congrArg (fun u => vS u s.x.floors.length) hpe) rfl rfl rfl (Int.natCast_nonneg _) h1, ?_⟩
    refine ⟨_, op_lda rfl rfl rfl rfl rfl hm1 hc1 rfl, ?_⟩
    refine ⟨_, rfl, ?_⟩
    refine ⟨_, op_sto rfl rfl rfl rfl rfl rfl rfl, ?_⟩
    refine AW.cutM (gg + 1) st [(1, vI id), (6, vL 6 0 (gg)), (8, vS s.q s.x.floors.length), (9, vI (s.x.floors.length : Int)), (10, vI (i : Int)), (11, vB true)] [(6, gg, [vI x.id, vI x.inc])] ⟨rfl, rfl, rfl, rfl, rfl, rfl, trivial⟩ ⟨rfl, trivial⟩ rfl fun ρ0 ff => ?_
    refine ⟨_, rfl, ?_⟩
    refine ⟨_, op_ldo rfl rfl rfl rfl, ?_⟩
    refine ⟨_, rfl, ?_⟩
    rintro (_|_) h2
    · replace h2 : ¬ (x.id = id) := beq_eq_false_iff_ne.1 h2
      refine AW.cutM (gg + 1) st [(1, vI id), (6, vL 6 0 (gg)), (8, vS s.q s.x.floors.length), (9, vI (s.x.floors.length : Int)), (10, vI (i : Int)), (11, vB true), (17, vB false)] [(6, gg, [vI x.id, vI x.inc])] ⟨rfl, rfl, rfl, rfl, rfl, rfl, rfl, trivial⟩ ⟨rfl, trivial⟩ rfl fun ρ0 ff => ?_
      refine cx_sound _ _ _ _ _ ?_
      have e20 : IntKind.wrap .i64 ((i : Int) + 1) = ((i + 1 : Nat) : Int) := (wrap_i64 (by omega) (by omega)).trans (by omega)
      refine ⟨_, rfl, ?_⟩
      exact ⟨i + 1, s.x.floors.length - (i + 1), by omega, ⟨rfl, rfl, rfl, congrArg (Value.int .i64) e20, trivial⟩, trivial, rfl, h1', by rw [hf, if_neg h2], rfl⟩
    · replace h2 : x.id = id := beq_iff_eq.1 h2
      refine AW.cutM (gg + 1) st [(1, vI id), (6, vL 6 0 (gg)), (8, vS s.q s.x.floors.length), (9, vI (s.x.floors.length : Int)), (10, vI (i : Int)), (11, vB true), (17, vB true)] [(6, gg, [vI x.id, vI x.inc])] ⟨rfl, rfl, rfl, rfl, rfl, rfl, rfl, trivial⟩ ⟨rfl, trivial⟩ rfl fun ρ0 ff => ?_
      refine ⟨_, rfl, ?_⟩
      refine ⟨_, op_ldo rfl rfl rfl rfl, ?_⟩
      refine cx_sound _ _ _ _ _ ?_
      exact ⟨.inl rfl, _, rfl, congrArg vI (by rw [hf, if_pos h2]), rfl⟩
end Go.Proofs.Ytopcpcoklgepnaa.AM
