/- Part 2 of the texts on which the law's proof rests. -/
import Derived.Test.YtbogbnjnjjhnbaaGreatXfa
namespace Go.Proofs.YtbogbnjnjjhnbaaGreat.AM
open Go Go.Proofs
set_option linter.unusedVariables false
set_option linter.unusedSimpArgs false
set_option maxRecDepth 100000
set_option maxHeartbeats 4000000
theorem pick_get {β : Type} {f : Nat → Option β} {n i : Nat} {x : β} (h : ((List.range n).filterMap f)[i]? = some x) : ∃ j, j < n ∧ f j = some x := by
 obtain ⟨j, hj, hf⟩ := List.mem_filterMap.1 (List.mem_of_getElem? h)
 exact ⟨j, List.mem_range.1 hj, hf⟩
theorem pick_lt {β : Type} {f : Nat → Option β} {id : β → Int} (hid : ∀ j x, f j = some x → id x = (j : Int)) {n i : Nat} {x y : β} (h : ((List.range n).filterMap f)[i]? = some x) (h0 : 0 < i) (hy : ((List.range n).filterMap f)[i - 1]? = some y) : id y < id x := by
 have hp : ((List.range n).filterMap f).Pairwise fun a b => id a < id b := by
  rw [List.pairwise_filterMap]
  refine List.Pairwise.imp ?_ List.pairwise_lt_range
  intro a b hab u hu v hv
  rw [hid a u hu, hid b v hv]
  omega
 rw [List.pairwise_iff_getElem] at hp
 obtain ⟨h1, h2⟩ := List.getElem?_eq_some_iff.1 h
 obtain ⟨h3, h4⟩ := List.getElem?_eq_some_iff.1 hy
 rw [← h2, ← h4]
 exact hp _ _ h3 h1 (by omega)
theorem floorOf_snoc (l : List Flr) (x : Flr) (id : Int) : floorOf (l ++ [x]) id = if (∃ y ∈ l, y.id = id) then floorOf l id else if x.id = id then x.inc else 0 := by
 induction l with
 | nil => simp [floorOf]
 | cons y l ih =>
  rw [List.cons_append, floorOf, floorOf, ih]
  by_cases h : y.id = id
  ·simp [h]
  ·simp [h]
theorem floorOf_pick (t : Int → Int) (id : Nat) : ∀ n, floorOf ((List.range n).filterMap fun (j : Nat) => if t (j : Int) > 0 then some (⟨(j : Int), t (j : Int)⟩ : Flr) else none) (id : Int) = if id < n ∧ t (id : Int) > 0 then t (id : Int) else 0
 | 0 => by simp [floorOf]
 | n + 1 => by
  have ih := floorOf_pick t id n
  rw [List.range_succ, List.filterMap_append]
  have hex : (∃ y ∈ (List.range n).filterMap (fun (j : Nat) => if t (j : Int) > 0 then some (⟨(j : Int), t (j : Int)⟩ : Flr) else none), y.id = (id : Int)) ↔ id < n ∧ t (id : Int) > 0 := by
   constructor
   ·rintro ⟨y, hy, hid⟩
    obtain ⟨j, hj, hf⟩ := List.mem_filterMap.1 hy
    split at hf
    ·rename_i ht
     injection hf with hf
     rw [← hf] at hid
     have hid : (j : Int) = (id : Int) := hid
     have : j = id := by omega
     exact ⟨by rw [← this]; exact List.mem_range.1 hj, by rw [← this]; exact ht⟩
    ·cases hf
   ·rintro ⟨h1, h2⟩
    exact ⟨⟨(id : Int), t (id : Int)⟩, List.mem_filterMap.2 ⟨id, List.mem_range.2 h1, by rw [if_pos h2]⟩, rfl⟩
  by_cases hn : t (n : Int) > 0
  ·simp only [List.filterMap_cons, List.filterMap_nil, hn, if_true]
   rw [floorOf_snoc]
   by_cases h1 : id < n ∧ t (id : Int) > 0
   ·rw [if_pos (hex.2 h1), ih, if_pos h1, if_pos ⟨by omega, h1.2⟩]
   ·rw [if_neg (fun h => h1 (hex.1 h))]
    by_cases h2 : n = id
    ·subst h2; rw [if_pos rfl, if_pos ⟨Nat.lt_succ_self _, hn⟩]
    ·rw [if_neg (by simp only; omega), if_neg (fun h => h1 ⟨by omega, h.2⟩)]
  ·simp only [List.filterMap_cons, List.filterMap_nil, hn, if_false, List.append_nil]
   rw [ih]
   by_cases h1 : id < n ∧ t (id : Int) > 0
   ·rw [if_pos h1, if_pos ⟨by omega, h1.2⟩]
   ·rw [if_neg h1, if_neg (fun h => h1 ⟨by
     rcases Nat.lt_or_ge id n with h3 | h3
     ·exact h3
     ·have : id = n := by omega
      subst this; exact absurd h.2 hn, h.2⟩)]
theorem topF_pos {a b : Sta} (ha : marksOk a.floors) (hb : marksOk b.floors) (id : Int) : 0 ≤ topF a b id ∧ topF a b id ≤ 1000 := by
 have h1 := floorOf_pos ha id
 have h2 := floorOf_pos hb id
 unfold topF
 omega
theorem floorOf_join {a b : Sta} (ha : marksOk a.floors) (hb : marksOk b.floors) {n id : Nat} (h : id < n) : floorOf (joinF a b n).floors (id : Int) = topF a b (id : Int) := by
 have h1 := (topF_pos ha hb (id : Int)).1
 show floorOf ((List.range n).filterMap fun (j : Nat) => if topF a b (j : Int) > 0 then some (⟨(j : Int), topF a b (j : Int)⟩ : Flr) else none) (id : Int) = _
 rw [floorOf_pick (fun i => topF a b i) id n]
 by_cases h2 : topF a b (id : Int) > 0
 ·rw [if_pos ⟨h, h2⟩]
 ·rw [if_neg (fun h => h2 h.2)]; omega
theorem entP_cases {s : Sta} (h : ∀ (j : Nat) x, s.items[j]? = some x → itemOk s j x) (id : Int) : (entP s.items id).1 = zEnt ∨ entOk (entP s.items id).1 := by
 rcases hb : (entP s.items id) with ⟨e, b⟩
 cases b with
 | false => exact .inl (entP_none (e := e) (id := id) hb.symm)
 | true =>
  obtain ⟨j, x, h1, h2, _⟩ := entP_mem (e := e) (id := id) hb.symm
  exact .inr (h2 ▸ (h j x h1).2.1)
theorem stateOk_join {a b : Sta} (ha : stateOk a) (hb : stateOk b) : stateOk (joinF a b 5) := by
 refine ⟨fun i x hx => ?_, fun i x hx => ?_⟩
 ·have hx' : ((List.range 5).filterMap fun (j : Nat) => if (topE a b (j : Int)).inc > topF a b (j : Int) then some (⟨(j : Int), topE a b (j : Int)⟩ : Itm) else none)[i]? = some x := hx
  obtain ⟨j, hj, hf⟩ := pick_get hx'
  split at hf
  ·rename_i ht
   injection hf with hf
   have hfl := floorOf_join ha.2 hb.2 hj
   have htp := (topF_pos ha.2 hb.2 (j : Int)).1
   have he : entOk (topE a b (j : Int)) := by
    have key : topE a b (j : Int) = (entP a.items (j : Int)).1 ∨ topE a b (j : Int) = (entP b.items (j : Int)).1 := by unfold topE entMax; split; exact .inr rfl; exact .inl rfl
    rcases key with h | h
    ·rcases entP_cases ha.1 (j : Int) with h2 | h2
     ·rw [h, h2] at ht; simp only [zEnt] at ht; omega
     ·rw [h]; exact h2
    ·rcases entP_cases hb.1 (j : Int) with h2 | h2
     ·rw [h, h2] at ht; simp only [zEnt] at ht; omega
     ·rw [h]; exact h2
   rw [← hf]
   refine ⟨⟨by simp only; omega, by simp only; omega⟩, he, by simp only; rw [hfl]; exact ht, fun y h0 hy => ?_⟩
   have := pick_lt (id := Itm.id) (fun j x hx => by
    split at hx
    ·injection hx with hx; rw [← hx]
    ·cases hx) hx' h0 hy
   rw [← hf] at this
   exact this
  ·cases hf
 ·have hx' : ((List.range 5).filterMap fun (j : Nat) => if topF a b (j : Int) > 0 then some (⟨(j : Int), topF a b (j : Int)⟩ : Flr) else none)[i]? = some x := hx
  obtain ⟨j, hj, hf⟩ := pick_get hx'
  split at hf
  ·rename_i ht
   injection hf with hf
   have htp := (topF_pos ha.2 hb.2 (j : Int))
   rw [← hf]
   refine ⟨⟨by simp only; omega, by simp only; omega⟩, ⟨by simp only; omega, htp.2⟩, fun y h0 hy => ?_⟩
   have := pick_lt (id := Flr.id) (fun j x hx => by
    split at hx
    ·injection hx with hx; rw [← hx]
    ·cases hx) hx' h0 hy
   rw [← hf] at this
   exact this
  ·cases hf
theorem stateOk_nil : stateOk ⟨[], []⟩ := ⟨fun j x h => (by cases h), fun j x h => (by cases h)⟩
theorem entP_sz {l : List Itm} (h : ∀ x ∈ l, szOk x.e.data.size) (id : Int) : szOk (entP l id).1.data.size := by
 induction l with
 | nil => exact Nat.zero_le _
 | cons x l ih =>
  rw [entP]
  split
  ·exact h x (List.mem_cons_self ..)
  ·exact ih fun y hy => h y (List.mem_cons_of_mem _ hy)
theorem bigS_join {a b : Sta} (ha : bigS a) (hb : bigS b) : bigS (joinF a b 5) := by
 have hl := joinF_len a b 5
 refine ⟨by unfold szOk; omega, by unfold szOk; omega, fun x hx => ?_⟩
 have hx : x ∈ (List.range 5).filterMap fun (j : Nat) => if (topE a b (j : Int)).inc > topF a b (j : Int) then some (⟨(j : Int), topE a b (j : Int)⟩ : Itm) else none := hx
 obtain ⟨j, _, hj⟩ := List.mem_filterMap.1 hx
 split at hj
 ·injection hj with hj
  rw [← hj]
  show szOk (entMax (entP a.items j).1 (entP b.items j).1).data.size
  unfold entMax
  split
  ·exact entP_sz hb.2.2 _
  ·exact entP_sz ha.2.2 _
 ·cases hj
def joinL (l : List Sta) : Sta := l.foldl (fun a s => joinF a s 5) nilS
theorem joinL_snoc (l : List Sta) (s : Sta) : joinL (l ++ [s]) = joinF (joinL l) s 5 := by simp [joinL]
theorem bigS_joinL {l : List Sta} (h : ∀ s ∈ l, bigS s) : bigS (joinL l) := by
 have key : ∀ (l : List Sta) (a : Sta), bigS a → (∀ s ∈ l, bigS s) → bigS (l.foldl (fun a s => joinF a s 5) a) := by
  intro l
  induction l with
  | nil => intro a ha _; exact ha
  | cons s l ih => intro a ha hl; exact ih _ (bigS_join ha (hl s (List.mem_cons_self ..))) fun t ht => hl t (List.mem_cons_of_mem _ ht)
 exact key l nilS bigS_nil h
open Classical in
noncomputable def sinceF (g : Lg) (n : Int) : Sta × Bool := if logOk g ∧ g.frm ≤ n ∧ n ≤ g.frm + (g.list.length : Int) then (joinL (g.list.drop (n - g.frm).toNat), true) else (nilS, false)
theorem ac_impl_LogSince (g : LV) (n : Int) (st : St) (hR : RdL st g.p g.l) (hb : bigL g.l) : C 69 [.agg #[vI g.cap, vI g.frm, vS g.p g.l.length], vI n] st (fun v s => ∃ (u : SV) (b : Bool), v = .tuple #[.agg #[vS u.p u.x.items.length, vS u.q u.x.floors.length], vB b] ∧ (u.x, b) = sinceF g.x n ∧ OwnP s (pcS u) ∧ NewP st.next (pcS u) ∧ Pres st s) := by
 have hs : g.l.length ≤ 1048576 := hb.1
 have hgl : g.x.list.length = g.l.length := List.length_map _
 refine AC.enterX (i := ⟨[2, 4, 6, 8], [2, 4, 6, 8, 14, 23, 26], [0, 1, 2, 4, 5, 6, 8, 20, 29, 30, 31, 32]⟩) [(1, [8], [6])] Tryz.func69 rfl rfl (by kernel_rfl) (by kernel_rfl) Tryz.ntmps69 (Nat.le_of_ble_eq_true rfl) rfl ?_
 iterate 2 refine ⟨_, rfl, ?_⟩
 refine AW.cutM (2) st [(1, vI n), (2, vL 2 0 (0)), (4, vL 4 0 (1)), (5, vB false)] [(2, 0, [vI g.cap, vI g.frm, vS g.p g.l.length]), (4, 1, [.slice none 0 0, .slice none 0 0])] ⟨rfl, rfl, rfl, rfl, trivial⟩ ⟨rfl, rfl, trivial⟩ rfl fun ρ0 ff => ?_
 refine ⟨_, rfl, ?_⟩
 refine ⟨_, rfl, (ac_impl_LogOk g st hR hb).mono ?_⟩
 rintro _ st ⟨a, rfl, hk, rfl⟩
 rcases a with _|_
 ·replace hk := fun k => Bool.false_ne_true (hk.2 k)
  iterate 2 refine ⟨_, rfl, ?_⟩
  refine AW.cutM (2) st [(1, vI n), (2, vL 2 0 (0)), (4, vL 4 0 (1)), (5, vB false), (20, vB true)] [(2, 0, [vI g.cap, vI g.frm, vS g.p g.l.length]), (4, 1, [.slice none 0 0, .slice none 0 0])] ⟨rfl, rfl, rfl, rfl, rfl, trivial⟩ ⟨rfl, rfl, trivial⟩ rfl fun ρ0 ff => ?_
  iterate 2 refine ⟨_, rfl, ?_⟩
  refine cxs ?_
  exact ⟨.inl rfl, _, rfl, ⟨none, none, nilS⟩, false, rfl, by rw [sinceF, if_neg (fun h => hk h.1)], pcS_nil, newS_nil, Pres.refl _⟩
 ·replace hk := hk.1 rfl
  iterate 3 refine ⟨_, rfl, ?_⟩
  refine ⟨ld_own rfl rfl rfl, ?_⟩
  refine ⟨_, rfl, ?_⟩
  refine ⟨_, rfl, (ac_impl_LogSeq g st hR hb).mono ?_⟩
  rintro _ st ⟨rfl, rfl⟩
  refine ⟨fun _ _ => rfl, ?_⟩
  refine ⟨_, rfl, (ac_impl_within n g.frm (logSeq g.x) st).mono ?_⟩
  rintro _ st ⟨b, rfl, hw, rfl⟩
  rcases b with _|_
  ·replace hw := of_decide_eq_false hw.symm
   iterate 2 refine ⟨_, rfl, ?_⟩
   refine AW.cutM (2) st [(1, vI n), (2, vL 2 0 (0)), (4, vL 4 0 (1)), (5, vB false), (20, vB true)] [(2, 0, [vI g.cap, vI g.frm, vS g.p g.l.length]), (4, 1, [.slice none 0 0, .slice none 0 0])] ⟨rfl, rfl, rfl, rfl, rfl, trivial⟩ ⟨rfl, rfl, trivial⟩ rfl fun ρ0 ff => ?_
   iterate 2 refine ⟨_, rfl, ?_⟩
   refine cxs ?_
   rw [logSeq, if_pos hk] at hw
   exact ⟨.inl rfl, _, rfl, ⟨none, none, nilS⟩, false, rfl, by rw [sinceF, if_neg (fun h => hw h.2)], pcS_nil, newS_nil, Pres.refl _⟩
  ·replace hw := of_decide_eq_true hw.symm
   iterate 2 refine ⟨_, rfl, ?_⟩
   refine AW.cutM (2) st [(1, vI n), (2, vL 2 0 (0)), (4, vL 4 0 (1)), (5, vB false), (20, vB false)] [(2, 0, [vI g.cap, vI g.frm, vS g.p g.l.length]), (4, 1, [.slice none 0 0, .slice none 0 0])] ⟨rfl, rfl, rfl, rfl, rfl, trivial⟩ ⟨rfl, rfl, trivial⟩ rfl fun ρ0 ff => ?_
   rw [logSeq, if_pos hk] at hw
   have hok : logOk g.x ∧ g.x.frm ≤ n ∧ n ≤ g.x.frm + (g.x.list.length : Int) := ⟨hk, hw⟩
   have hw1 : g.frm ≤ n := hw.1
   have hw2 : n ≤ g.frm + (g.l.length : Int) := by have h := hw.2; rw [hgl] at h; exact h
   have hk3 : 0 ≤ g.frm ∧ g.frm ≤ 100000 := hk.2.2.1
   have hdl : (g.l.drop (n - g.frm).toNat).length = g.l.length - (n - g.frm).toNat := List.length_drop
   have hfin : sinceF g.x n = (joinL ((g.l.drop (n - g.frm).toNat).map (·.x)), true) := by rw [sinceF, if_pos hok, List.map_drop]
   refine cxs ?_
   iterate 3 refine ⟨_, rfl, ?_⟩
   refine AW.cutM (3) st [(1, vI n), (2, vL 2 0 (0)), (4, vL 4 0 (1)), (5, vB false), (6, vL 6 0 (2))] [(2, 0, [vI g.cap, vI g.frm, vS g.p g.l.length]), (4, 1, [.slice none 0 0, .slice none 0 0]), (6, 2, [.slice none 0 0, .slice none 0 0])] ⟨rfl, rfl, rfl, rfl, rfl, trivial⟩ ⟨rfl, rfl, rfl, trivial⟩ rfl fun ρ0 ff => ?_
   iterate 4 refine ⟨_, rfl, ?_⟩
   have e28 : IntKind.wrap .i64 (n - g.frm) = n - g.frm := wrap_i64 (by omega) (by omega)
   refine ⟨_, rfl, ?_⟩
   refine ⟨_, op_slc (j := (n - g.frm).toNat) (n := g.l.length) rfl rfl (congrArg (Value.int .i64) e28) rfl rfl (by omega) (by omega), ?_⟩
   refine ⟨_, rfl, ?_⟩
   refine AW.cutM (3) st [(4, vL 4 0 (1)), (5, vB false), (6, vL 6 0 (2)), (29, .slice (shO g.p 2 (n - g.frm).toNat) (g.l.length - (n - g.frm).toNat) (g.l.length - (n - g.frm).toNat)), (30, vI ((g.l.length - (n - g.frm).toNat : Nat) : Int)), (31, vI (0))] [(4, 1, [.slice none 0 0, .slice none 0 0]), (6, 2, [.slice none 0 0, .slice none 0 0])] ⟨rfl, rfl, rfl, rfl, rfl, rfl, trivial⟩ ⟨rfl, rfl, trivial⟩ rfl fun ρ0 ff => ?_
   refine AW.loopM (fun x : Nat × SV => [(4, vL 4 0 (1)), (6, vL 6 0 (2)), (29, .slice (shO g.p 2 (n - g.frm).toNat) (g.l.length - (n - g.frm).toNat) (g.l.length - (n - g.frm).toNat)), (30, vI ((g.l.length - (n - g.frm).toNat : Nat) : Int)), (31, vI (x.1 : Int))]) (fun x : Nat × SV => [(4, 1, [.slice none 0 0, .slice none 0 0]), (6, 2, [vS x.2.p x.2.x.items.length, vS x.2.q x.2.x.floors.length])]) (fun m (x : Nat × SV) st' => m = (g.l.length - (n - g.frm).toNat) - x.1 ∧ x.1 ≤ g.l.length - (n - g.frm).toNat ∧ x.2.x = joinL (((g.l.drop (n - g.frm).toNat).take x.1).map (·.x)) ∧ OwnP st' (pcS x.2) ∧ NewP st.next (pcS x.2) ∧ bigS x.2.x ∧ Pres st st') (0, ⟨none, none, nilS⟩) _ ⟨rfl, rfl, rfl, rfl, rfl, trivial⟩ ⟨rfl, rfl, trivial⟩ ⟨rfl, Nat.zero_le _, rfl, pcS_nil, newS_nil, bigS_nil, Pres.refl _⟩ ?_
   rintro m ⟨i, c⟩ ρ0 ff gg st' ⟨rfl, hi, hx, hO, hN, hB, hP⟩
   simp only at hi hx hO hN hB
   refine ⟨_, rfl, ?_⟩
   rintro (_|_) h1
   ·replace h1 : ¬ ((i : Int) < ((g.l.length - (n - g.frm).toNat : Nat) : Int)) := of_decide_eq_false h1
    refine AW.cutM (gg) st' [(4, vL 4 0 (1)), (6, vL 6 0 (2)), (29, .slice (shO g.p 2 (n - g.frm).toNat) (g.l.length - (n - g.frm).toNat) (g.l.length - (n - g.frm).toNat)), (30, vI ((g.l.length - (n - g.frm).toNat : Nat) : Int)), (31, vI (i : Int)), (32, vB false)] [(4, 1, [.slice none 0 0, .slice none 0 0]), (6, 2, [vS c.p c.x.items.length, vS c.q c.x.floors.length])] ⟨rfl, rfl, rfl, rfl, rfl, rfl, trivial⟩ ⟨rfl, rfl, trivial⟩ rfl fun ρ0 ff => ?_
    refine cxs ?_
    refine ⟨_, op_ldo rfl rfl rfl rfl, ?_⟩
    refine ⟨_, op_sto rfl rfl rfl rfl rfl rfl rfl, ?_⟩
    refine cxs ?_
    have hil : i = g.l.length - (n - g.frm).toNat := by omega
    have hx' : c.x = joinL ((g.l.drop (n - g.frm).toNat).map (·.x)) := by rw [hx, hil, ← hdl, List.take_length]
    exact ⟨.inl rfl, _, rfl, c, true, rfl, by rw [hfin, hx'], hO, hN, hP⟩
   ·replace h1 : (i : Int) < ((g.l.length - (n - g.frm).toNat : Nat) : Int) := of_decide_eq_true h1
    refine AW.cutM (gg) st' [(4, vL 4 0 (1)), (6, vL 6 0 (2)), (29, .slice (shO g.p 2 (n - g.frm).toNat) (g.l.length - (n - g.frm).toNat) (g.l.length - (n - g.frm).toNat)), (30, vI ((g.l.length - (n - g.frm).toNat : Nat) : Int)), (31, vI (i : Int)), (32, vB true)] [(4, 1, [.slice none 0 0, .slice none 0 0]), (6, 2, [vS c.p c.x.items.length, vS c.q c.x.floors.length])] ⟨rfl, rfl, rfl, rfl, rfl, rfl, trivial⟩ ⟨rfl, rfl, trivial⟩ rfl fun ρ0 ff => ?_
    have h1' := Int.ofNat_lt.1 h1
    have ⟨b1, o1, k1, r, hpe, hr1, hm1, hc1, hb1⟩ := ((hP.rows hR.1).sh (n - g.frm).toNat).atB (j := i) (by rw [hdl]; exact h1')
    have hmem : r ∈ g.l := List.mem_of_mem_drop (List.mem_of_getElem? hr1)
    have hsn : ((g.l.drop (n - g.frm).toNat).take (i + 1)).map (·.x) = ((g.l.drop (n - g.frm).toNat).take i).map (·.x) ++ [r.x] := by rw [(split_at' hr1).2.1, List.map_append]; rfl
    refine cxs ?_
    refine ⟨_, op_idx (j := (i : Int)) (n := g.l.length - (n - g.frm).toNat) (q := ⟨b1, o1, none⟩) rfl (congrArg (fun u => vS u (g.l.length - (n - g.frm).toNat)) hpe) rfl rfl rfl (Int.natCast_nonneg _) h1, ?_⟩
    refine ⟨_, op_lda rfl rfl rfl rfl rfl hm1 hc1 rfl, ?_⟩
    refine ⟨_, rfl, ?_⟩
    refine ⟨_, op_sto rfl rfl rfl rfl rfl rfl rfl, ?_⟩
    refine AW.cutM (gg + 1) st' [(4, vL 4 0 (1)), (6, vL 6 0 (2)), (8, vL 8 0 (gg)), (29, .slice (shO g.p 2 (n - g.frm).toNat) (g.l.length - (n - g.frm).toNat) (g.l.length - (n - g.frm).toNat)), (30, vI ((g.l.length - (n - g.frm).toNat : Nat) : Int)), (31, vI (i : Int)), (32, vB true)] [(4, 1, [.slice none 0 0, .slice none 0 0]), (6, 2, [vS c.p c.x.items.length, vS c.q c.x.floors.length]), (8, gg, [vS r.p r.x.items.length, vS r.q r.x.floors.length])] ⟨rfl, rfl, rfl, rfl, rfl, rfl, rfl, trivial⟩ ⟨rfl, rfl, rfl, trivial⟩ rfl fun ρ0 ff => ?_
    refine ⟨_, op_ldo rfl rfl rfl rfl, ?_⟩
    refine ⟨_, op_ldo rfl rfl rfl rfl, ?_⟩
    refine ⟨_, rfl, (ac_impl_stateJoin c r st' hO.rdS ((hR.2 r hmem).pres hP) hB (hb.2 r hmem)).mono ?_⟩
    rintro _ s2 ⟨u, rfl, hu, hO2, hN2, hP2⟩
    refine ⟨_, op_sto rfl rfl rfl rfl rfl rfl rfl, ?_⟩
    refine AW.cutM (gg + 1) s2 [(4, vL 4 0 (1)), (6, vL 6 0 (2)), (8, vL 8 0 (gg)), (29, .slice (shO g.p 2 (n - g.frm).toNat) (g.l.length - (n - g.frm).toNat) (g.l.length - (n - g.frm).toNat)), (30, vI ((g.l.length - (n - g.frm).toNat : Nat) : Int)), (31, vI (i : Int)), (32, vB true)] [(4, 1, [.slice none 0 0, .slice none 0 0]), (6, 2, [vS u.p u.x.items.length, vS u.q u.x.floors.length]), (8, gg, [vS r.p r.x.items.length, vS r.q r.x.floors.length])] ⟨rfl, rfl, rfl, rfl, rfl, rfl, rfl, trivial⟩ ⟨rfl, rfl, rfl, trivial⟩ rfl fun ρ0 ff => ?_
    have e38 : IntKind.wrap .i64 ((i : Int) + 1) = ((i + 1 : Nat) : Int) := (wrap_i64 (by omega) (by omega)).trans (by omega)
    refine ⟨_, rfl, ?_⟩
    exact ⟨(i + 1, u), (g.l.length - (n - g.frm).toNat) - (i + 1), by omega, ⟨rfl, rfl, rfl, rfl, congrArg (Value.int .i64) e38, trivial⟩, ⟨rfl, rfl, trivial⟩, rfl, h1', by rw [hsn, joinL_snoc, ← hx]; exact hu, hO2, hN2.le hP.1, by rw [hu]; exact bigS_join hB (hb.2 r hmem), hP.trans hP2⟩
theorem ac_spec_LogSince (g : LV) (n : Int) (st : St) (hR : RdL st g.p g.l) (hb : bigL g.l) : C 136 [.agg #[vI g.cap, vI g.frm, vS g.p g.l.length], vI n] st (fun v s => ∃ (u : SV) (b : Bool), v = .tuple #[.agg #[vS u.p u.x.items.length, vS u.q u.x.floors.length], vB b] ∧ (u.x, b) = sinceF g.x n ∧ OwnP s (pcS u) ∧ NewP st.next (pcS u) ∧ Pres st s) := by
 have hs : g.l.length ≤ 1048576 := hb.1
 have hgl : g.x.list.length = g.l.length := List.length_map _
 refine AC.enterX (i := ⟨[2, 4, 6], [2, 4, 6, 14, 16, 18, 27, 31, 38], [0, 1, 2, 4, 5, 6, 7, 24, 34]⟩) [(7, [], [])] Tryz.func136 rfl rfl (by kernel_rfl) (by kernel_rfl) Tryz.ntmps136 (Nat.le_of_ble_eq_true rfl) rfl ?_
 iterate 2 refine ⟨_, rfl, ?_⟩
 refine AW.cutM (2) st [(1, vI n), (2, vL 2 0 (0)), (4, vL 4 0 (1)), (5, vB false)] [(2, 0, [vI g.cap, vI g.frm, vS g.p g.l.length]), (4, 1, [.slice none 0 0, .slice none 0 0])] ⟨rfl, rfl, rfl, rfl, trivial⟩ ⟨rfl, rfl, trivial⟩ rfl fun ρ0 ff => ?_
 iterate 3 refine ⟨_, rfl, ?_⟩
 refine AW.cutM (3) st [(1, vI n), (2, vL 2 0 (0)), (4, vL 4 0 (1)), (5, vB false), (6, vL 6 0 (2))] [(2, 0, [vI g.cap, vI g.frm, vS g.p g.l.length]), (4, 1, [.slice none 0 0, .slice none 0 0]), (6, 2, [.slice none 0 0, .slice none 0 0])] ⟨rfl, rfl, rfl, rfl, rfl, trivial⟩ ⟨rfl, rfl, rfl, trivial⟩ rfl fun ρ0 ff => ?_
 refine ⟨_, rfl, ?_⟩
 refine ⟨_, rfl, (ac_spec_LogOk g st hR hb).mono ?_⟩
 rintro _ st ⟨a, rfl, hk, rfl⟩
 rcases a with _|_
 ·replace hk := fun k => Bool.false_ne_true (hk.2 k)
  iterate 2 refine ⟨_, rfl, ?_⟩
  refine AW.cutM (3) st [(1, vI n), (2, vL 2 0 (0)), (4, vL 4 0 (1)), (5, vB false), (6, vL 6 0 (2)), (24, vB true)] [(2, 0, [vI g.cap, vI g.frm, vS g.p g.l.length]), (4, 1, [.slice none 0 0, .slice none 0 0]), (6, 2, [.slice none 0 0, .slice none 0 0])] ⟨rfl, rfl, rfl, rfl, rfl, rfl, trivial⟩ ⟨rfl, rfl, rfl, trivial⟩ rfl fun ρ0 ff => ?_
  iterate 2 refine ⟨_, rfl, ?_⟩
  refine cxs ?_
  exact ⟨.inl rfl, _, rfl, ⟨none, none, nilS⟩, false, rfl, by rw [sinceF, if_neg (fun h => hk h.1)], pcS_nil, newS_nil, Pres.refl _⟩
 ·replace hk := hk.1 rfl
  iterate 8 refine ⟨_, rfl, ?_⟩
  have hk3' : 0 ≤ g.frm ∧ g.frm ≤ 100000 := hk.2.2.1
  have e21 : IntKind.wrap .i64 (g.frm + (g.l.length : Int)) = g.frm + (g.l.length : Int) := wrap_i64 (by omega) (by omega)
  refine ⟨_, rfl, ?_⟩
  refine ⟨_, rfl, (ac_spec_l1In n g.frm (IntKind.wrap .i64 (g.frm + (g.l.length : Int))) st).mono ?_⟩
  rintro _ st ⟨b, rfl, hw, rfl⟩
  rcases b with _|_
  ·replace hw := of_decide_eq_false hw.symm
   iterate 2 refine ⟨_, rfl, ?_⟩
   refine AW.cutM (3) st [(1, vI n), (2, vL 2 0 (0)), (4, vL 4 0 (1)), (5, vB false), (6, vL 6 0 (2)), (24, vB true)] [(2, 0, [vI g.cap, vI g.frm, vS g.p g.l.length]), (4, 1, [.slice none 0 0, .slice none 0 0]), (6, 2, [.slice none 0 0, .slice none 0 0])] ⟨rfl, rfl, rfl, rfl, rfl, rfl, trivial⟩ ⟨rfl, rfl, rfl, trivial⟩ rfl fun ρ0 ff => ?_
   iterate 2 refine ⟨_, rfl, ?_⟩
   refine cxs ?_
   rw [e21] at hw
   exact ⟨.inl rfl, _, rfl, ⟨none, none, nilS⟩, false, rfl, by rw [sinceF, if_neg (fun h => hw (by have h2 := h.2; rw [hgl] at h2; exact h2))], pcS_nil, newS_nil, Pres.refl _⟩
  ·replace hw := of_decide_eq_true hw.symm
   iterate 2 refine ⟨_, rfl, ?_⟩
   refine AW.cutM (3) st [(1, vI n), (2, vL 2 0 (0)), (4, vL 4 0 (1)), (5, vB false), (6, vL 6 0 (2)), (24, vB false)] [(2, 0, [vI g.cap, vI g.frm, vS g.p g.l.length]), (4, 1, [.slice none 0 0, .slice none 0 0]), (6, 2, [.slice none 0 0, .slice none 0 0])] ⟨rfl, rfl, rfl, rfl, rfl, rfl, trivial⟩ ⟨rfl, rfl, rfl, trivial⟩ rfl fun ρ0 ff => ?_
   rw [e21] at hw
   have hw1 : g.frm ≤ n := hw.1
   have hw2 : n ≤ g.frm + (g.l.length : Int) := hw.2
   have hok : logOk g.x ∧ g.x.frm ≤ n ∧ n ≤ g.x.frm + (g.x.list.length : Int) := ⟨hk, hw1, by rw [hgl]; exact hw2⟩
   have hk3 : 0 ≤ g.frm ∧ g.frm ≤ 100000 := hk.2.2.1
   obtain ⟨d, hd⟩ : ∃ d : Nat, n - g.frm = (d : Int) := ⟨(n - g.frm).toNat, by omega⟩
   have hdl : (g.l.drop d).length = g.l.length - d := List.length_drop
   have hfin : sinceF g.x n = (joinL ((g.l.drop d).map (·.x)), true) := by rw [sinceF, if_pos hok, List.map_drop, show (n - g.x.frm).toNat = d by show (n - g.frm).toNat = d; omega]
   refine cxs ?_
   iterate 2 refine ⟨_, rfl, ?_⟩
   have e29 : IntKind.wrap .i64 (n - g.frm) = ((d + 0 : Nat) : Int) := (wrap_i64 (by omega) (by omega)).trans (by omega)
   refine ⟨_, rfl, ?_⟩
   refine AW.cutM (3) st [(2, vL 2 0 (0)), (4, vL 4 0 (1)), (5, vB false), (6, vL 6 0 (2)), (7, vI (((d + 0 : Nat) : Int)))] [(2, 0, [vI g.cap, vI g.frm, vS g.p g.l.length]), (4, 1, [.slice none 0 0, .slice none 0 0]), (6, 2, [.slice none 0 0, .slice none 0 0])] ⟨rfl, rfl, rfl, rfl, congrArg (Value.int .i64) e29, trivial⟩ ⟨rfl, rfl, rfl, trivial⟩ rfl fun ρ0 ff => ?_
   refine AW.loopM (fun x : Nat × SV => [(2, vL 2 0 (0)), (4, vL 4 0 (1)), (6, vL 6 0 (2)), (7, vI ((d + x.1 : Nat) : Int))]) (fun x : Nat × SV => [(2, 0, [vI g.cap, vI g.frm, vS g.p g.l.length]), (4, 1, [.slice none 0 0, .slice none 0 0]), (6, 2, [vS x.2.p x.2.x.items.length, vS x.2.q x.2.x.floors.length])]) (fun m (x : Nat × SV) st' => m = (g.l.length - d) - x.1 ∧ x.1 ≤ g.l.length - d ∧ x.2.x = joinL (((g.l.drop d).take x.1).map (·.x)) ∧ OwnP st' (pcS x.2) ∧ NewP st.next (pcS x.2) ∧ (bigS x.2.x ∧ stateOk x.2.x) ∧ Pres st st') (0, ⟨none, none, nilS⟩) _ ⟨rfl, rfl, rfl, rfl, trivial⟩ ⟨rfl, rfl, rfl, trivial⟩ ⟨rfl, Nat.zero_le _, rfl, pcS_nil, newS_nil, ⟨bigS_nil, stateOk_nil⟩, Pres.refl _⟩ ?_
   rintro m ⟨i, c⟩ ρ0 ff gg st' ⟨rfl, hi, hx, hO, hN, ⟨hB, hS⟩, hP⟩
   simp only at hi hx hO hN hB
   refine ⟨_, rfl, ?_⟩
   refine ⟨_, op_ldo rfl rfl rfl rfl, ?_⟩
   iterate 2 refine ⟨_, rfl, ?_⟩
   rintro (_|_) h1
   ·replace h1 : ¬ (((d + i : Nat) : Int) < (g.l.length : Int)) := of_decide_eq_false h1
    refine AW.cutM (gg) st' [(2, vL 2 0 (0)), (4, vL 4 0 (1)), (6, vL 6 0 (2)), (7, vI ((d + i : Nat) : Int)), (34, vB false)] [(2, 0, [vI g.cap, vI g.frm, vS g.p g.l.length]), (4, 1, [.slice none 0 0, .slice none 0 0]), (6, 2, [vS c.p c.x.items.length, vS c.q c.x.floors.length])] ⟨rfl, rfl, rfl, rfl, rfl, trivial⟩ ⟨rfl, rfl, rfl, trivial⟩ rfl fun ρ0 ff => ?_
    refine cxs ?_
    refine ⟨_, op_ldo rfl rfl rfl rfl, ?_⟩
    refine ⟨_, op_sto rfl rfl rfl rfl rfl rfl rfl, ?_⟩
    refine cxs ?_
    have hil : i = g.l.length - d := by omega
    have hx' : c.x = joinL ((g.l.drop d).map (·.x)) := by rw [hx, hil, ← hdl, List.take_length]
    exact ⟨.inl rfl, _, rfl, c, true, rfl, by rw [hfin, hx'], hO, hN, hP⟩
   ·replace h1 : ((d + i : Nat) : Int) < (g.l.length : Int) := of_decide_eq_true h1
    refine AW.cutM (gg) st' [(2, vL 2 0 (0)), (4, vL 4 0 (1)), (6, vL 6 0 (2)), (7, vI ((d + i : Nat) : Int)), (34, vB true)] [(2, 0, [vI g.cap, vI g.frm, vS g.p g.l.length]), (4, 1, [.slice none 0 0, .slice none 0 0]), (6, 2, [vS c.p c.x.items.length, vS c.q c.x.floors.length])] ⟨rfl, rfl, rfl, rfl, rfl, trivial⟩ ⟨rfl, rfl, rfl, trivial⟩ rfl fun ρ0 ff => ?_
    have h1' : d + i < g.l.length := Int.ofNat_lt.1 h1
    have ⟨b1, o1, k1, r, hpe, hr1, hm1, hc1, hb1⟩ := (hP.rows hR.1).atB h1'
    have hmem : r ∈ g.l := List.mem_of_getElem? hr1
    have hrok : stateOk r.x := hk.2.2.2.2 _ (List.mem_map_of_mem hmem)
    have hr2 : (g.l.drop d)[i]? = some r := by rw [List.getElem?_drop]; exact hr1
    have hsn : ((g.l.drop d).take (i + 1)).map (·.x) = ((g.l.drop d).take i).map (·.x) ++ [r.x] := by rw [(split_at' hr2).2.1, List.map_append]; rfl
    refine cxs ?_
    refine ⟨_, op_ldo rfl rfl rfl rfl, ?_⟩
    refine ⟨_, rfl, ?_⟩
    refine ⟨_, op_ldo rfl rfl rfl rfl, ?_⟩
    refine ⟨_, op_idx (j := ((d + i : Nat) : Int)) (n := g.l.length) (q := ⟨b1, o1, none⟩) rfl (congrArg (fun u => vS u g.l.length) hpe) rfl rfl rfl (Int.natCast_nonneg _) h1, ?_⟩
    refine ⟨_, op_lda rfl rfl rfl rfl rfl hm1 hc1 rfl, ?_⟩
    refine ⟨_, rfl, (ac_spec_l3Join c r st' hO.rdS ((hR.2 r hmem).pres hP) hB (hb.2 r hmem) hS hrok).mono ?_⟩
    rintro _ s2 ⟨u, rfl, hu, hO2, hN2, hP2⟩
    refine ⟨_, op_sto rfl rfl rfl rfl rfl rfl rfl, ?_⟩
    refine AW.cutM (gg) s2 [(2, vL 2 0 (0)), (4, vL 4 0 (1)), (6, vL 6 0 (2)), (7, vI ((d + i : Nat) : Int)), (34, vB true)] [(2, 0, [vI g.cap, vI g.frm, vS g.p g.l.length]), (4, 1, [.slice none 0 0, .slice none 0 0]), (6, 2, [vS u.p u.x.items.length, vS u.q u.x.floors.length])] ⟨rfl, rfl, rfl, rfl, rfl, trivial⟩ ⟨rfl, rfl, rfl, trivial⟩ rfl fun ρ0 ff => ?_
    have e36 : IntKind.wrap .i64 (((d + i : Nat) : Int) + 1) = ((d + (i + 1) : Nat) : Int) := (wrap_i64 (by omega) (by omega)).trans (by omega)
    refine ⟨_, rfl, ?_⟩
    exact ⟨(i + 1, u), (g.l.length - d) - (i + 1), by omega, ⟨rfl, rfl, rfl, congrArg (Value.int .i64) e36, trivial⟩, ⟨rfl, rfl, rfl, trivial⟩, rfl, by omega, by rw [hsn, joinL_snoc, ← hx]; exact hu, hO2, hN2.le hP.1, by rw [hu]; exact ⟨bigS_join hB (hb.2 r hmem), stateOk_join hS hrok⟩, hP.trans hP2⟩
theorem Frs.is0 {a : St} : Frs a a (pcIs ⟨none, []⟩) := ⟨OwnP.one (.inl ⟨rfl, rfl⟩), NewP.cons New.none NewP.nil, Pres.refl _⟩
theorem Frs.st0 {a : St} : Frs a a (pcS ⟨none, none, nilS⟩) := ⟨pcS_nil, newS_nil, Pres.refl _⟩
theorem Frs.fv0 {a : St} : Frs a a (pcFV ⟨none, []⟩) := ⟨OwnP.one (.inl ⟨rfl, rfl⟩), NewP.cons New.none NewP.nil, Pres.refl _⟩
theorem Frs.renew {s0 st st' : St} {a b : List Pc} {c d : Pc} (h : Frs s0 st (a ++ c :: b)) (hp : Pr c.p st st') (hd : d.own st') (hn : New st.next d.p) : Frs s0 st' (a ++ d :: b) :=
 ⟨h.1.renew hp hd hn, h.2.1.left.app (NewP.cons (hn.le h.2.2.1) (NewP.right (a := [c]) h.2.1.right)), hp.pres h.2.2 (h.2.1.right c (List.mem_cons_self ..))⟩
theorem Frs.update {s0 st st' : St} {a b : List Pc} {c d : Pc} (h : Frs s0 st (a ++ c :: b)) (hp : Pr c.p st st') (hd : d.own st') (he : d.p = c.p) : Frs s0 st' (a ++ d :: b) :=
 ⟨h.1.update hp hd he, h.2.1.left.app (NewP.cons (he ▸ h.2.1.right c (List.mem_cons_self ..)) (NewP.right (a := [c]) h.2.1.right)), hp.pres h.2.2 (h.2.1.right c (List.mem_cons_self ..))⟩
theorem Frs.part {s0 st st' : St} {v : MV} {u : SV} (h : Frs s0 st (pcMV v)) (hF : Frs st st' (pcS u)) : Frs s0 st' (pcMV { v with part := u }) := by
 have e : ∀ x : SV, pcMV { v with part := x } = (pcIs v.tree.toRV ++ (pcIs v.vec ++ pcIs v.leaves)) ++ (pcS x ++ pcFV v.marks) := fun x => by simp only [List.append_assoc]
 rw [e]
 exact Frs.swap (c := pcS v.part) (by rw [← e]; exact h) hF
theorem Frs.tree {s0 st st' : St} {v : MV} {u : TV} (h : Frs s0 st (pcMV v)) (hF : Frs st st' (pcIs u.toRV)) : Frs s0 st' (pcMV { v with tree := u }) :=
 Frs.swap (a := []) (c := pcIs v.tree.toRV) h hF
noncomputable def ship1 (x : Nd) (n : Int) : Sta × Bool := if (sinceF x.g n).2 = true then ((sinceF x.g n).1, true) else (x.s, false)
open Classical in
noncomputable def shipF (x : Nd) (n : Int) : Sta × Bool := if nodeOk x then ship1 x n else (nilS, false)
theorem ship1_t {x : Nd} {n : Int} {u : Sta} (h : (u, true) = sinceF x.g n) : ship1 x n = (u, true) := by rw [ship1, ← h]; rfl
theorem ship1_f {x : Nd} {n : Int} {u : Sta} (h : (u, false) = sinceF x.g n) : ship1 x n = (x.s, false) := by rw [ship1, ← h]; rfl
theorem ship_ok {x : Nd} {n : Int} (h : nodeOk x) : shipF x n = ship1 x n := if_pos h
theorem ac_impl_Ship (g : NV) (n : Int) (st : St) (hR : RdN st g) (hb : bigN g.x) : C 22 [.agg #[vI g.id, vI g.n, vS g.s.p g.s.x.items.length, vS g.s.q g.s.x.floors.length, vS g.t.p g.t.l.length, vI g.t.root, vI g.g.cap, vI g.g.frm, vS g.g.p g.g.l.length, vS g.got.p g.got.l.length, vS g.acked.p g.acked.l.length, vS g.seen.p g.seen.t.length, vI g.num, vI g.slots, vS g.sess.p g.sess.l.length, vI g.wait, vI g.limit, vI g.clock, vS g.rises.p g.rises.l.length], vI n] st (fun v s => ∃ (u : SV) (b : Bool), v = .tuple #[.agg #[vS u.p u.x.items.length, vS u.q u.x.floors.length], vB b] ∧ (u.x, b) = shipF g.x n ∧ OwnP s (pcS u) ∧ NewP st.next (pcS u) ∧ Pres st s) := by
 refine AC.enterX (i := ⟨[2, 4, 6], [2, 4, 6, 13, 21], [0, 1, 2, 4, 5, 6, 7, 10, 20]⟩) [] Tryz.func22 rfl rfl (by kernel_rfl) (by kernel_rfl) Tryz.ntmps22 (Nat.le_of_ble_eq_true rfl) rfl ?_
 iterate 2 refine ⟨_, rfl, ?_⟩
 refine AW.cutM (2) st [(1, vI n), (2, vL 2 0 (0)), (4, vL 4 0 (1)), (5, vB false)] [(2, 0, cNV g), (4, 1, [.slice none 0 0, .slice none 0 0])] ⟨rfl, rfl, rfl, rfl, trivial⟩ ⟨rfl, rfl, trivial⟩ rfl fun ρ0 ff => ?_
 refine ⟨_, op_ldo (v := (vNV g)) rfl rfl rfl rfl, ?_⟩
 refine ⟨_, rfl, (ac_impl_NodeOk g st hR (by first | assumption | omega)).mono ?_⟩
 rintro _ s9 ⟨x9, rfl, h9, hP9⟩
 rcases x9 with _|_
 ·replace h9 := fun k => Bool.false_ne_true (h9.2 k)
  refine ⟨_, rfl, ?_⟩
  refine AW.cutM (2) s9 [(1, vI n), (2, vL 2 0 (0)), (4, vL 4 0 (1)), (5, vB false), (10, vB true)] [(2, 0, cNV g), (4, 1, [.slice none 0 0, .slice none 0 0])] ⟨rfl, rfl, rfl, rfl, rfl, trivial⟩ ⟨rfl, rfl, trivial⟩ rfl fun ρ0 ff => ?_
  refine ⟨_, rfl, ?_⟩
  refine ⟨_, op_sto rfl rfl rfl rfl rfl rfl rfl, ?_⟩
  refine cxs ?_
  exact ⟨.inl rfl, _, rfl, ⟨none, none, nilS⟩, false, rfl, by rw [shipF, if_neg h9], pcS_nil, newS_nil, hP9⟩
 ·replace h9 := h9.1 rfl
  refine ⟨_, rfl, ?_⟩
  refine AW.cutM (2) s9 [(1, vI n), (2, vL 2 0 (0)), (4, vL 4 0 (1)), (5, vB false), (10, vB false)] [(2, 0, cNV g), (4, 1, [.slice none 0 0, .slice none 0 0])] ⟨rfl, rfl, rfl, rfl, rfl, trivial⟩ ⟨rfl, rfl, trivial⟩ rfl fun ρ0 ff => ?_
  refine cxs ?_
  refine ⟨_, rfl, ?_⟩
  refine ⟨_, op_ldo rfl rfl rfl rfl, ?_⟩
  refine ⟨_, rfl, (ac_impl_LogSince g.g n s9 (hR.g.pres hP9) (bigLog_iff.1 hb.g)).mono ?_⟩
  rintro _ s16 ⟨u16, b16, rfl, h16, hO16, hN16, hP16⟩
  rcases b16 with _|_
  ·iterate 3 refine ⟨_, rfl, ?_⟩
   refine ⟨_, op_sto rfl rfl rfl rfl rfl rfl rfl, ?_⟩
   refine AW.cutM (3) s16 [(2, vL 2 0 (0)), (4, vL 4 0 (1)), (5, vB false), (6, vL 6 0 (2)), (7, vB false)] [(2, 0, cNV g), (4, 1, [.slice none 0 0, .slice none 0 0]), (6, 2, [vS u16.p u16.x.items.length, vS u16.q u16.x.floors.length])] ⟨rfl, rfl, rfl, rfl, rfl, trivial⟩ ⟨rfl, rfl, rfl, trivial⟩ rfl fun ρ0 ff => ?_
   refine ⟨_, rfl, ?_⟩
   refine AW.cutM (3) s16 [(2, vL 2 0 (0)), (4, vL 4 0 (1)), (5, vB false), (6, vL 6 0 (2)), (20, vB true)] [(2, 0, cNV g), (4, 1, [.slice none 0 0, .slice none 0 0]), (6, 2, [vS u16.p u16.x.items.length, vS u16.q u16.x.floors.length])] ⟨rfl, rfl, rfl, rfl, rfl, trivial⟩ ⟨rfl, rfl, rfl, trivial⟩ rfl fun ρ0 ff => ?_
   refine ⟨_, rfl, ?_⟩
   refine ⟨_, op_ldo rfl rfl rfl rfl, ?_⟩
   refine ⟨_, rfl, (ac_impl_copyState g.s s16 (hR.s.pres (hP9.trans hP16)) (hb.s)).mono ?_⟩
   rintro _ s23 ⟨u23, rfl, h23, hO23, hN23, hP23⟩
   refine ⟨_, op_sto rfl rfl rfl rfl rfl rfl rfl, ?_⟩
   refine cxs ?_
   exact ⟨.inl rfl, _, rfl, u23, false, rfl, by rw [ship_ok h9, ship1_f h16, h23], hO23, hN23.le (hP9.trans hP16).1, (hP9.trans hP16).trans hP23⟩
  ·iterate 3 refine ⟨_, rfl, ?_⟩
   refine ⟨_, op_sto rfl rfl rfl rfl rfl rfl rfl, ?_⟩
   refine AW.cutM (3) s16 [(2, vL 2 0 (0)), (4, vL 4 0 (1)), (5, vB false), (6, vL 6 0 (2)), (7, vB true)] [(2, 0, cNV g), (4, 1, [.slice none 0 0, .slice none 0 0]), (6, 2, [vS u16.p u16.x.items.length, vS u16.q u16.x.floors.length])] ⟨rfl, rfl, rfl, rfl, rfl, trivial⟩ ⟨rfl, rfl, rfl, trivial⟩ rfl fun ρ0 ff => ?_
   refine ⟨_, rfl, ?_⟩
   refine AW.cutM (3) s16 [(2, vL 2 0 (0)), (4, vL 4 0 (1)), (5, vB false), (6, vL 6 0 (2)), (20, vB false)] [(2, 0, cNV g), (4, 1, [.slice none 0 0, .slice none 0 0]), (6, 2, [vS u16.p u16.x.items.length, vS u16.q u16.x.floors.length])] ⟨rfl, rfl, rfl, rfl, rfl, trivial⟩ ⟨rfl, rfl, rfl, trivial⟩ rfl fun ρ0 ff => ?_
   refine cxs ?_
   refine ⟨_, op_ldo rfl rfl rfl rfl, ?_⟩
   refine ⟨_, op_sto rfl rfl rfl rfl rfl rfl rfl, ?_⟩
   refine cxs ?_
   exact ⟨.inl rfl, _, rfl, u16, true, rfl, by rw [ship_ok h9, ship1_t h16], hO16, hN16.le hP9.1, hP9.trans hP16⟩
theorem ac_spec_l13Ship (g : NV) (n : Int) (st : St) (hR : RdN st g) (hb : bigN g.x) : C 68 [.agg #[vI g.id, vI g.n, vS g.s.p g.s.x.items.length, vS g.s.q g.s.x.floors.length, vS g.t.p g.t.l.length, vI g.t.root, vI g.g.cap, vI g.g.frm, vS g.g.p g.g.l.length, vS g.got.p g.got.l.length, vS g.acked.p g.acked.l.length, vS g.seen.p g.seen.t.length, vI g.num, vI g.slots, vS g.sess.p g.sess.l.length, vI g.wait, vI g.limit, vI g.clock, vS g.rises.p g.rises.l.length], vI n] st (fun v s => ∃ (u : SV) (b : Bool), v = .tuple #[.agg #[vS u.p u.x.items.length, vS u.q u.x.floors.length], vB b] ∧ (u.x, b) = ship1 g.x n ∧ OwnP s (pcS u) ∧ NewP st.next (pcS u) ∧ Pres st s) := by
 refine AC.enterX (i := ⟨[2, 4, 6], [2, 4, 6, 9, 17], [0, 1, 2, 4, 5, 6, 7, 15]⟩) [] Tryz.func68 rfl rfl (by kernel_rfl) (by kernel_rfl) Tryz.ntmps68 (Nat.le_of_ble_eq_true rfl) rfl ?_
 iterate 2 refine ⟨_, rfl, ?_⟩
 refine AW.cutM (2) st [(1, vI n), (2, vL 2 0 (0)), (4, vL 4 0 (1)), (5, vB false)] [(2, 0, cNV g), (4, 1, [.slice none 0 0, .slice none 0 0])] ⟨rfl, rfl, rfl, rfl, trivial⟩ ⟨rfl, rfl, trivial⟩ rfl fun ρ0 ff => ?_
 refine ⟨_, rfl, ?_⟩
 refine ⟨_, op_ldo rfl rfl rfl rfl, ?_⟩
 refine ⟨_, rfl, (ac_spec_LogSince g.g n st hR.g (bigLog_iff.1 hb.g)).mono ?_⟩
 rintro _ s12 ⟨u12, b12, rfl, h12, hO12, hN12, hP12⟩
 rcases b12 with _|_
 ·iterate 3 refine ⟨_, rfl, ?_⟩
  refine ⟨_, op_sto rfl rfl rfl rfl rfl rfl rfl, ?_⟩
  refine cxs ?_
  refine AW.cutM (3) s12 [(2, vL 2 0 (0)), (4, vL 4 0 (1)), (5, vB false), (6, vL 6 0 (2)), (15, vB false)] [(2, 0, cNV g), (4, 1, [.slice none 0 0, .slice none 0 0]), (6, 2, [vS u12.p u12.x.items.length, vS u12.q u12.x.floors.length])] ⟨rfl, rfl, rfl, rfl, rfl, trivial⟩ ⟨rfl, rfl, rfl, trivial⟩ rfl fun ρ0 ff => ?_
  refine cxs ?_
  refine ⟨_, rfl, ?_⟩
  refine ⟨_, op_ldo rfl rfl rfl rfl, ?_⟩
  refine ⟨_, rfl, (ac_spec_l3Copy g.s s12 (hR.s.pres hP12) (hb.s)).mono ?_⟩
  rintro _ s19 ⟨u19, rfl, h19, hO19, hN19, hP19⟩
  refine ⟨_, op_sto rfl rfl rfl rfl rfl rfl rfl, ?_⟩
  refine cxs ?_
  exact ⟨.inl rfl, _, rfl, u19, false, rfl, by rw [ship1_f h12, h19], hO19, hN19.le hP12.1, hP12.trans hP19⟩
 ·iterate 3 refine ⟨_, rfl, ?_⟩
  refine ⟨_, op_sto rfl rfl rfl rfl rfl rfl rfl, ?_⟩
  refine cxs ?_
  refine AW.cutM (3) s12 [(2, vL 2 0 (0)), (4, vL 4 0 (1)), (5, vB false), (6, vL 6 0 (2)), (15, vB true)] [(2, 0, cNV g), (4, 1, [.slice none 0 0, .slice none 0 0]), (6, 2, [vS u12.p u12.x.items.length, vS u12.q u12.x.floors.length])] ⟨rfl, rfl, rfl, rfl, rfl, trivial⟩ ⟨rfl, rfl, rfl, trivial⟩ rfl fun ρ0 ff => ?_
  refine ⟨_, op_ldo rfl rfl rfl rfl, ?_⟩
  refine ⟨_, op_sto rfl rfl rfl rfl rfl rfl rfl, ?_⟩
  refine cxs ?_
  exact ⟨.inl rfl, _, rfl, u12, true, rfl, (ship1_t h12).symm, hO12, hN12, hP12⟩
noncomputable def msgF (x : Nd) (k to n : Int) : Mg := ⟨k, x.id, to, n, logSeq x.g, ⟨[], 0⟩, x.got, [], nilS, marksF (goneAt x.s) 5⟩
theorem ac_impl_message (g : NV) (k to n : Int) (st : St) (hR : RdN st g) (hb : bigN g.x) : C 87 [.agg #[vI g.id, vI g.n, vS g.s.p g.s.x.items.length, vS g.s.q g.s.x.floors.length, vS g.t.p g.t.l.length, vI g.t.root, vI g.g.cap, vI g.g.frm, vS g.g.p g.g.l.length, vS g.got.p g.got.l.length, vS g.acked.p g.acked.l.length, vS g.seen.p g.seen.t.length, vI g.num, vI g.slots, vS g.sess.p g.sess.l.length, vI g.wait, vI g.limit, vI g.clock, vS g.rises.p g.rises.l.length], vI k, vI to, vI n] st (fun v s => ∃ u : MV, v = .agg #[vI u.kind, vI u.frm, vI u.to, vI u.num, vI u.hi, vS u.tree.p u.tree.l.length, vI u.tree.root, vS u.vec.p u.vec.l.length, vS u.leaves.p u.leaves.l.length, vS u.part.p u.part.x.items.length, vS u.part.q u.part.x.floors.length, vS u.marks.p u.marks.l.length] ∧ u.x = msgF g.x k to n ∧ OwnP s (pcMV u) ∧ NewP st.next (pcMV u) ∧ Pres st s) := by
 refine AC.enterX (i := ⟨[4, 8], [4, 8, 10, 14, 17, 20], [0, 1, 2, 3, 4, 8]⟩) [(1, [7, 10, 13], [2, 9, 12])] Tryz.func87 rfl rfl (by kernel_rfl) (by kernel_rfl) Tryz.ntmps87 (Nat.le_of_ble_eq_true rfl) rfl ?_
 iterate 2 refine ⟨_, rfl, ?_⟩
 refine AW.cutM (2) st [(1, vI k), (2, vI to), (3, vI n), (4, vL 4 0 (0)), (8, vL 8 0 (1))] [(4, 0, cNV g), (8, 1, [vI 0, vI 0, vI 0, vI 0, vI 0, .slice none 0 0, vI 0, .slice none 0 0, .slice none 0 0, .slice none 0 0, .slice none 0 0, .slice none 0 0])] ⟨rfl, rfl, rfl, rfl, rfl, trivial⟩ ⟨rfl, rfl, trivial⟩ rfl fun ρ0 ff => ?_
 refine ⟨_, rfl, ?_⟩
 refine ⟨_, op_ldo rfl rfl rfl rfl, ?_⟩
 refine ⟨ld_own rfl rfl rfl, ?_⟩
 refine ⟨_, rfl, ?_⟩
 refine ⟨_, op_ldo rfl rfl rfl rfl, ?_⟩
 refine ⟨_, rfl, (ac_impl_LogSeq g.g st hR.g (bigLog_iff.1 hb.g)).mono ?_⟩
 rintro _ st ⟨rfl, rfl⟩
 refine ⟨fun _ _ => rfl, ?_⟩
 refine ⟨_, rfl, ?_⟩
 refine ⟨_, op_ldo rfl rfl rfl rfl, ?_⟩
 refine ⟨ld_own rfl rfl rfl, ?_⟩
 refine ⟨_, rfl, (ac_copyInts g.got.p g.got.l st hR.got hb.got).mono ?_⟩
 rintro _ s19 ⟨q19, rfl, hO19, hN19, hP19⟩
 refine ⟨hP19.2, ?_⟩
 refine ⟨_, rfl, ?_⟩
 refine ⟨_, op_ldo rfl rfl rfl rfl, ?_⟩
 refine ⟨ld_own rfl rfl rfl, ?_⟩
 refine ⟨_, rfl, (ac_impl_MarksOf g.s s19 (hR.s.pres hP19) (hb.s)).mono ?_⟩
 rintro _ s22 ⟨q22, rfl, hO22, hP22, hN22⟩
 refine ⟨hP22.low hP19, ?_⟩
 refine ⟨_, rfl, ?_⟩
 refine ⟨_, op_stw (vs := [vI k, vI g.id, vI to, vI n, vI (logSeq g.g.x), .slice none 0 0, vI 0, vS q19 g.got.l.length, .slice none 0 0, .slice none 0 0, .slice none 0 0, vS q22 (marksF (goneAt g.s.x) 5).length]) rfl rfl rfl rfl rfl rfl rfl rfl, ?_⟩
 refine cxs ?_
 have hF : Frs st s22 (pcMV ⟨k, g.id, to, n, logSeq g.g.x, ⟨⟨none, []⟩, 0⟩, ⟨q19, g.got.l⟩, ⟨none, []⟩, ⟨none, none, nilS⟩, ⟨q22, marksF (goneAt g.s.x) 5⟩⟩) := Frs.is0.join ((Frs.one hO19 hN19 hP19).join (Frs.is0.join (Frs.st0.join (Frs.one hO22 hN22 hP22))))
 exact ⟨.inl rfl, _, rfl, _, rfl, rfl, hF.1, hF.2.1, hF.2.2⟩
theorem ac_spec_l13Msg (g : NV) (k to n : Int) (st : St) (hR : RdN st g) (hb : bigN g.x) : C 85 [.agg #[vI g.id, vI g.n, vS g.s.p g.s.x.items.length, vS g.s.q g.s.x.floors.length, vS g.t.p g.t.l.length, vI g.t.root, vI g.g.cap, vI g.g.frm, vS g.g.p g.g.l.length, vS g.got.p g.got.l.length, vS g.acked.p g.acked.l.length, vS g.seen.p g.seen.t.length, vI g.num, vI g.slots, vS g.sess.p g.sess.l.length, vI g.wait, vI g.limit, vI g.clock, vS g.rises.p g.rises.l.length], vI k, vI to, vI n] st (fun v s => ∃ u : MV, v = .agg #[vI u.kind, vI u.frm, vI u.to, vI u.num, vI u.hi, vS u.tree.p u.tree.l.length, vI u.tree.root, vS u.vec.p u.vec.l.length, vS u.leaves.p u.leaves.l.length, vS u.part.p u.part.x.items.length, vS u.part.q u.part.x.floors.length, vS u.marks.p u.marks.l.length] ∧ u.x = msgF g.x k to n ∧ OwnP s (pcMV u) ∧ NewP st.next (pcMV u) ∧ Pres st s) := by
 have hs1 : g.got.l.length ≤ 1048576 := hb.got
 refine AC.enterX (i := ⟨[4, 8], [4, 8, 10, 14, 18, 21], [0, 1, 2, 3, 4, 8]⟩) [(1, [7, 11, 14], [2, 10, 13])] Tryz.func85 rfl rfl (by kernel_rfl) (by kernel_rfl) Tryz.ntmps85 (Nat.le_of_ble_eq_true rfl) rfl ?_
 iterate 2 refine ⟨_, rfl, ?_⟩
 refine AW.cutM (2) st [(1, vI k), (2, vI to), (3, vI n), (4, vL 4 0 (0)), (8, vL 8 0 (1))] [(4, 0, cNV g), (8, 1, [vI 0, vI 0, vI 0, vI 0, vI 0, .slice none 0 0, vI 0, .slice none 0 0, .slice none 0 0, .slice none 0 0, .slice none 0 0, .slice none 0 0])] ⟨rfl, rfl, rfl, rfl, rfl, trivial⟩ ⟨rfl, rfl, trivial⟩ rfl fun ρ0 ff => ?_
 refine ⟨_, rfl, ?_⟩
 refine ⟨_, op_ldo rfl rfl rfl rfl, ?_⟩
 refine ⟨ld_own rfl rfl rfl, ?_⟩
 refine ⟨_, rfl, ?_⟩
 refine ⟨_, op_ldo rfl rfl rfl rfl, ?_⟩
 refine ⟨_, rfl, (ac_spec_LogSeq g.g st hR.g (bigLog_iff.1 hb.g)).mono ?_⟩
 rintro _ st ⟨rfl, rfl⟩
 refine ⟨fun _ _ => rfl, ?_⟩
 refine op_nilK (z := 1) (f := fI) rfl rfl rfl rfl (by decide) rfl ?_
 intro q17 s17 hO17 hP17 hN17
 refine ⟨_, rfl, ?_⟩
 refine ⟨_, op_ldo rfl rfl rfl rfl, ?_⟩
 refine ⟨ld_own rfl rfl rfl, ?_⟩
 refine op_cat' (z := 1) (st := s17) (f := fI) (b := 8) (l := []) (l2 := g.got.l) rfl rfl rfl rfl rfl rfl rfl (by decide) fI_len rfl rfl rfl rfl (by first | omega | (simp only [List.length_nil]; omega)) (by unfold maxLen; first | omega | (simp only [List.length_nil]; omega)) hO17 (hP17.rows hR.got) ?_
 intro q20 s20 hO20 hPr20 hN20
 refine ⟨hPr20.low hP17 hN17, ?_⟩
 refine ⟨_, rfl, ?_⟩
 refine ⟨_, op_ldo rfl rfl rfl rfl, ?_⟩
 refine ⟨ld_own rfl rfl rfl, ?_⟩
 have hP20 : Pres st s20 := hPr20.pres hP17 hN17
 refine ⟨_, rfl, (ac_spec_MarksOf g.s s20 (hR.s.pres hP20) hb.s).mono ?_⟩
 rintro _ s23 ⟨q23, rfl, hO23, hP23, hN23⟩
 refine ⟨hP23.low hP20, ?_⟩
 refine ⟨_, rfl, ?_⟩
 refine ⟨_, op_stw (vs := [vI k, vI g.id, vI to, vI n, vI (logSeq g.g.x), .slice none 0 0, vI 0, vS q20 g.got.l.length, .slice none 0 0, .slice none 0 0, .slice none 0 0, vS q23 (marksF (goneAt g.s.x) 5).length]) rfl rfl rfl rfl rfl rfl rfl rfl, ?_⟩
 refine cxs ?_
 have hF : Frs st s23 (pcMV ⟨k, g.id, to, n, logSeq g.g.x, ⟨⟨none, []⟩, 0⟩, ⟨q20, g.got.l⟩, ⟨none, []⟩, ⟨none, none, nilS⟩, ⟨q23, marksF (goneAt g.s.x) 5⟩⟩) := Frs.is0.join ((Frs.one hO20 (cat_new hP17 hN17 hN20) hP20).join (Frs.is0.join (Frs.st0.join (Frs.one hO23 hN23 hP23))))
 exact ⟨.inl rfl, _, rfl, _, rfl, rfl, hF.1, hF.2.1, hF.2.2⟩
def zMg : Mg := ⟨0, 0, 0, 0, 0, ⟨[], 0⟩, [], [], nilS, []⟩
def zMV : MV := ⟨0, 0, 0, 0, 0, ⟨⟨none, []⟩, 0⟩, ⟨none, []⟩, ⟨none, []⟩, ⟨none, none, nilS⟩, ⟨none, []⟩⟩
theorem Frs.mg0 {a : St} : Frs a a (pcMV zMV) := Frs.is0.join (Frs.is0.join (Frs.is0.join (Frs.st0.join Frs.fv0)))
def peerOf (x : Nd) (to : Int) : Prop := (0 ≤ to ∧ to ≤ x.n - 1) ∧ ¬ to = x.id
open Classical in
noncomputable def pushF (x : Nd) (to : Int) : Mg × Bool := if nodeOk x ∧ peerOf x to then ({ msgF x 0 to 0 with part := (ship1 x (x.acked[to.toNat]?.getD 0)).1 }, true) else (zMg, false)
theorem push_no {x : Nd} {to : Int} (h : ¬ (nodeOk x ∧ peerOf x to)) : pushF x to = (zMg, false) := if_neg h
theorem push_yes {x : Nd} {to y : Int} {m : Mg} {p : Sta} {b : Bool} (h : nodeOk x ∧ peerOf x to) (hy : x.acked[to.toNat]? = some y) (hm : m = msgF x 0 to 0) (hp : (p, b) = ship1 x y) : (({ m with part := p } : Mg), true) = pushF x to := by
 unfold pushF
 rw [if_pos h, hy, Option.getD_some, ← hp, hm]
theorem ac_impl_Push (g : NV) (to : Int) (st : St) (hR : RdN st g) (hb : bigN g.x) : C 30 [.agg #[vI g.id, vI g.n, vS g.s.p g.s.x.items.length, vS g.s.q g.s.x.floors.length, vS g.t.p g.t.l.length, vI g.t.root, vI g.g.cap, vI g.g.frm, vS g.g.p g.g.l.length, vS g.got.p g.got.l.length, vS g.acked.p g.acked.l.length, vS g.seen.p g.seen.t.length, vI g.num, vI g.slots, vS g.sess.p g.sess.l.length, vI g.wait, vI g.limit, vI g.clock, vS g.rises.p g.rises.l.length], vI to] st (fun v s => ∃ (u : MV) (b : Bool), v = .tuple #[.agg #[vI u.kind, vI u.frm, vI u.to, vI u.num, vI u.hi, vS u.tree.p u.tree.l.length, vI u.tree.root, vS u.vec.p u.vec.l.length, vS u.leaves.p u.leaves.l.length, vS u.part.p u.part.x.items.length, vS u.part.q u.part.x.floors.length, vS u.marks.p u.marks.l.length], vB b] ∧ (u.x, b) = pushF g.x to ∧ OwnP s (pcMV u) ∧ NewP st.next (pcMV u) ∧ Pres st s) := by
 have hs1 : g.acked.l.length ≤ 1048576 := hb.acked
 refine AC.enterX (i := ⟨[2, 4, 6], [2, 4, 6, 22, 30], [0, 1, 2, 4, 5, 6, 15]⟩) [(4, [], [])] Tryz.func30 rfl rfl (by kernel_rfl) (by kernel_rfl) Tryz.ntmps30 (Nat.le_of_ble_eq_true rfl) rfl ?_
 iterate 2 refine ⟨_, rfl, ?_⟩
 refine AW.cutM (2) st [(1, vI to), (2, vL 2 0 (0)), (4, vL 4 0 (1)), (5, vB false)] [(2, 0, cNV g), (4, 1, [vI 0, vI 0, vI 0, vI 0, vI 0, .slice none 0 0, vI 0, .slice none 0 0, .slice none 0 0, .slice none 0 0, .slice none 0 0, .slice none 0 0])] ⟨rfl, rfl, rfl, rfl, trivial⟩ ⟨rfl, rfl, trivial⟩ rfl fun ρ0 ff => ?_
 refine ⟨_, op_ldo (v := (vNV g)) rfl rfl rfl rfl, ?_⟩
 refine ⟨_, rfl, (ac_impl_NodeOk g st hR (by first | assumption | omega)).mono ?_⟩
 rintro _ s8 ⟨x8, rfl, h8, hP8⟩
 rcases x8 with _|_
 ·replace h8 := fun k => Bool.false_ne_true (h8.2 k)
  iterate 2 refine ⟨_, rfl, ?_⟩
  refine AW.cutM (2) s8 [(1, vI to), (2, vL 2 0 (0)), (4, vL 4 0 (1)), (5, vB false), (15, vB true)] [(2, 0, cNV g), (4, 1, [vI 0, vI 0, vI 0, vI 0, vI 0, .slice none 0 0, vI 0, .slice none 0 0, .slice none 0 0, .slice none 0 0, .slice none 0 0, .slice none 0 0])] ⟨rfl, rfl, rfl, rfl, rfl, trivial⟩ ⟨rfl, rfl, trivial⟩ rfl fun ρ0 ff => ?_
  refine ⟨_, rfl, ?_⟩
  refine ⟨_, op_stw (vs := [vI 0, vI 0, vI 0, vI 0, vI 0, .slice none 0 0, vI 0, .slice none 0 0, .slice none 0 0, .slice none 0 0, .slice none 0 0, .slice none 0 0]) rfl rfl rfl rfl rfl rfl rfl rfl, ?_⟩
  refine cxs ?_
  exact ⟨.inl rfl, _, rfl, zMV, false, rfl, (push_no fun k => h8 k.1).symm, Frs.mg0.1, Frs.mg0.2.1, hP8⟩
 ·replace h8 := h8.1 rfl
  refine ⟨_, rfl, ?_⟩
  refine ⟨_, op_ldo (v := (vNV g)) rfl rfl rfl rfl, ?_⟩
  have hn : 1 ≤ g.n ∧ g.n ≤ 5 := h8.n
  refine ⟨_, rfl, (ac_impl_isPeer g to s8 (by first | assumption | omega)).mono ?_⟩
  rintro _ s8 ⟨x13, rfl, h13, rfl⟩
  rcases x13 with _|_
  ·replace h13 := fun k => Bool.false_ne_true (h13.2 k)
   iterate 2 refine ⟨_, rfl, ?_⟩
   refine AW.cutM (2) s8 [(1, vI to), (2, vL 2 0 (0)), (4, vL 4 0 (1)), (5, vB false), (15, vB true)] [(2, 0, cNV g), (4, 1, [vI 0, vI 0, vI 0, vI 0, vI 0, .slice none 0 0, vI 0, .slice none 0 0, .slice none 0 0, .slice none 0 0, .slice none 0 0, .slice none 0 0])] ⟨rfl, rfl, rfl, rfl, rfl, trivial⟩ ⟨rfl, rfl, trivial⟩ rfl fun ρ0 ff => ?_
   refine ⟨_, rfl, ?_⟩
   refine ⟨_, op_stw (vs := [vI 0, vI 0, vI 0, vI 0, vI 0, .slice none 0 0, vI 0, .slice none 0 0, .slice none 0 0, .slice none 0 0, .slice none 0 0, .slice none 0 0]) rfl rfl rfl rfl rfl rfl rfl rfl, ?_⟩
   refine cxs ?_
   exact ⟨.inl rfl, _, rfl, zMV, false, rfl, (push_no fun k => h13 (show peerOf g.x to from k.2)).symm, Frs.mg0.1, Frs.mg0.2.1, hP8⟩
  ·replace h13 := h13.1 rfl
   iterate 2 refine ⟨_, rfl, ?_⟩
   refine AW.cutM (2) s8 [(1, vI to), (2, vL 2 0 (0)), (4, vL 4 0 (1)), (5, vB false), (15, vB false)] [(2, 0, cNV g), (4, 1, [vI 0, vI 0, vI 0, vI 0, vI 0, .slice none 0 0, vI 0, .slice none 0 0, .slice none 0 0, .slice none 0 0, .slice none 0 0, .slice none 0 0])] ⟨rfl, rfl, rfl, rfl, rfl, trivial⟩ ⟨rfl, rfl, trivial⟩ rfl fun ρ0 ff => ?_
   refine cxs ?_
   refine ⟨_, op_ldo (v := (vNV g)) rfl rfl rfl rfl, ?_⟩
   refine ⟨_, rfl, (ac_impl_message g 0 to 0 s8 (hR.pres hP8) (by first | assumption | omega)).mono ?_⟩
   rintro _ s19 ⟨u19, rfl, h19, hO19, hN19, hP19⟩
   refine ⟨_, rfl, ?_⟩
   refine ⟨_, op_stw (vs := cMV u19) rfl rfl rfl rfl rfl rfl rfl rfl, ?_⟩
   refine AW.cutM (3) s19 [(1, vI to), (2, vL 2 0 (0)), (4, vL 4 0 (1)), (5, vB false), (6, vL 6 0 (2))] [(2, 0, cNV g), (4, 1, [vI 0, vI 0, vI 0, vI 0, vI 0, .slice none 0 0, vI 0, .slice none 0 0, .slice none 0 0, .slice none 0 0, .slice none 0 0, .slice none 0 0]), (6, 2, cMV u19)] ⟨rfl, rfl, rfl, rfl, rfl, trivial⟩ ⟨rfl, rfl, rfl, trivial⟩ rfl fun ρ0 ff => ?_
   refine ⟨_, op_ldo (v := (vNV g)) rfl rfl rfl rfl, ?_⟩
   refine ⟨_, rfl, ?_⟩
   refine ⟨_, op_ldo rfl rfl rfl rfl, ?_⟩
   have hal : (g.acked.l.length : Int) = g.n := h8.acked.2.1
   refine op_at ((to).toNat) ((hP8.trans hP19).rows hR.acked) (by omega) rfl rfl rfl rfl (by omega) rfl rfl ?_
   intro x25 b25 d25 k25 hy25 hb25 hm25 hc25 ho25
   refine ⟨_, op_ldc (i := 0) rfl rfl rfl rfl hm25 hc25 rfl rfl, ?_⟩
   refine ⟨_, rfl, (ac_impl_Ship g x25 s19 (hR.pres (hP8.trans hP19)) (by first | assumption | omega)).mono ?_⟩
   rintro _ s27 ⟨u27, b27, rfl, h27, hO27, hN27, hP27⟩
   iterate 3 refine ⟨_, rfl, ?_⟩
   refine ⟨_, op_sto rfl rfl rfl rfl rfl rfl rfl, ?_⟩
   refine AW.cutM (3) s27 [(4, vL 4 0 (1)), (5, vB false), (6, vL 6 0 (2))] [(4, 1, [vI 0, vI 0, vI 0, vI 0, vI 0, .slice none 0 0, vI 0, .slice none 0 0, .slice none 0 0, .slice none 0 0, .slice none 0 0, .slice none 0 0]), (6, 2, [vI u19.kind, vI u19.frm, vI u19.to, vI u19.num, vI u19.hi, vS u19.tree.p u19.tree.l.length, vI u19.tree.root, vS u19.vec.p u19.vec.l.length, vS u19.leaves.p u19.leaves.l.length, vS u27.p u27.x.items.length, vS u27.q u27.x.floors.length, vS u19.marks.p u19.marks.l.length])] ⟨rfl, rfl, rfl, trivial⟩ ⟨rfl, rfl, trivial⟩ rfl fun ρ0 ff => ?_
   refine ⟨_, op_ldo (v := .agg #[vI u19.kind, vI u19.frm, vI u19.to, vI u19.num, vI u19.hi, vS u19.tree.p u19.tree.l.length, vI u19.tree.root, vS u19.vec.p u19.vec.l.length, vS u19.leaves.p u19.leaves.l.length, vS u27.p u27.x.items.length, vS u27.q u27.x.floors.length, vS u19.marks.p u19.marks.l.length]) rfl rfl rfl rfl, ?_⟩
   refine ⟨_, op_stw (vs := [vI u19.kind, vI u19.frm, vI u19.to, vI u19.num, vI u19.hi, vS u19.tree.p u19.tree.l.length, vI u19.tree.root, vS u19.vec.p u19.vec.l.length, vS u19.leaves.p u19.leaves.l.length, vS u27.p u27.x.items.length, vS u27.q u27.x.floors.length, vS u19.marks.p u19.marks.l.length]) rfl rfl rfl rfl rfl rfl rfl rfl, ?_⟩
   refine cxs ?_
   have hpe : peerOf g.x to := h13
   have hF := (Frs.part ⟨hO19, hN19, hP19⟩ ⟨hO27, hN27, hP27⟩).sooner hP8
   exact ⟨.inl rfl, _, rfl, { u19 with part := u27 }, true, rfl, push_yes ⟨h8, hpe⟩ hy25 h19 (by rw [← ship_ok h8]; exact h27), hF.1, hF.2.1, hF.2.2⟩
theorem ac_spec_Push (g : NV) (to : Int) (st : St) (hR : RdN st g) (hb : bigN g.x) : C 29 [.agg #[vI g.id, vI g.n, vS g.s.p g.s.x.items.length, vS g.s.q g.s.x.floors.length, vS g.t.p g.t.l.length, vI g.t.root, vI g.g.cap, vI g.g.frm, vS g.g.p g.g.l.length, vS g.got.p g.got.l.length, vS g.acked.p g.acked.l.length, vS g.seen.p g.seen.t.length, vI g.num, vI g.slots, vS g.sess.p g.sess.l.length, vI g.wait, vI g.limit, vI g.clock, vS g.rises.p g.rises.l.length], vI to] st (fun v s => ∃ (u : MV) (b : Bool), v = .tuple #[.agg #[vI u.kind, vI u.frm, vI u.to, vI u.num, vI u.hi, vS u.tree.p u.tree.l.length, vI u.tree.root, vS u.vec.p u.vec.l.length, vS u.leaves.p u.leaves.l.length, vS u.part.p u.part.x.items.length, vS u.part.q u.part.x.floors.length, vS u.marks.p u.marks.l.length], vB b] ∧ (u.x, b) = pushF g.x to ∧ OwnP s (pcMV u) ∧ NewP st.next (pcMV u) ∧ Pres st s) := by
 have hs1 : g.acked.l.length ≤ 1048576 := hb.acked
 refine AC.enterX (i := ⟨[2, 4, 6], [2, 4, 6, 22, 30], [0, 1, 2, 4, 5, 6, 15]⟩) [(4, [], [])] Tryz.func29 rfl rfl (by kernel_rfl) (by kernel_rfl) Tryz.ntmps29 (Nat.le_of_ble_eq_true rfl) rfl ?_
 iterate 2 refine ⟨_, rfl, ?_⟩
 refine AW.cutM (2) st [(1, vI to), (2, vL 2 0 (0)), (4, vL 4 0 (1)), (5, vB false)] [(2, 0, cNV g), (4, 1, [vI 0, vI 0, vI 0, vI 0, vI 0, .slice none 0 0, vI 0, .slice none 0 0, .slice none 0 0, .slice none 0 0, .slice none 0 0, .slice none 0 0])] ⟨rfl, rfl, rfl, rfl, trivial⟩ ⟨rfl, rfl, trivial⟩ rfl fun ρ0 ff => ?_
 refine ⟨_, op_ldo (v := (vNV g)) rfl rfl rfl rfl, ?_⟩
 refine ⟨_, rfl, (ac_spec_NodeOk g st hR (by first | assumption | omega)).mono ?_⟩
 rintro _ s8 ⟨x8, rfl, h8, hP8⟩
 rcases x8 with _|_
 ·replace h8 := fun k => Bool.false_ne_true (h8.2 k)
  iterate 2 refine ⟨_, rfl, ?_⟩
  refine AW.cutM (2) s8 [(1, vI to), (2, vL 2 0 (0)), (4, vL 4 0 (1)), (5, vB false), (15, vB true)] [(2, 0, cNV g), (4, 1, [vI 0, vI 0, vI 0, vI 0, vI 0, .slice none 0 0, vI 0, .slice none 0 0, .slice none 0 0, .slice none 0 0, .slice none 0 0, .slice none 0 0])] ⟨rfl, rfl, rfl, rfl, rfl, trivial⟩ ⟨rfl, rfl, trivial⟩ rfl fun ρ0 ff => ?_
  refine ⟨_, rfl, ?_⟩
  refine ⟨_, op_stw (vs := [vI 0, vI 0, vI 0, vI 0, vI 0, .slice none 0 0, vI 0, .slice none 0 0, .slice none 0 0, .slice none 0 0, .slice none 0 0, .slice none 0 0]) rfl rfl rfl rfl rfl rfl rfl rfl, ?_⟩
  refine cxs ?_
  exact ⟨.inl rfl, _, rfl, zMV, false, rfl, (push_no fun k => h8 k.1).symm, Frs.mg0.1, Frs.mg0.2.1, hP8⟩
 ·replace h8 := h8.1 rfl
  refine ⟨_, rfl, ?_⟩
  refine ⟨_, op_ldo (v := (vNV g)) rfl rfl rfl rfl, ?_⟩
  have hn : 1 ≤ g.n ∧ g.n ≤ 5 := h8.n
  refine ⟨_, rfl, (ac_spec_l13Peer g to s8 (by first | assumption | omega)).mono ?_⟩
  rintro _ s8 ⟨x13, rfl, h13, rfl⟩
  rcases x13 with _|_
  ·replace h13 := fun k => Bool.false_ne_true (h13.2 k)
   iterate 2 refine ⟨_, rfl, ?_⟩
   refine AW.cutM (2) s8 [(1, vI to), (2, vL 2 0 (0)), (4, vL 4 0 (1)), (5, vB false), (15, vB true)] [(2, 0, cNV g), (4, 1, [vI 0, vI 0, vI 0, vI 0, vI 0, .slice none 0 0, vI 0, .slice none 0 0, .slice none 0 0, .slice none 0 0, .slice none 0 0, .slice none 0 0])] ⟨rfl, rfl, rfl, rfl, rfl, trivial⟩ ⟨rfl, rfl, trivial⟩ rfl fun ρ0 ff => ?_
   refine ⟨_, rfl, ?_⟩
   refine ⟨_, op_stw (vs := [vI 0, vI 0, vI 0, vI 0, vI 0, .slice none 0 0, vI 0, .slice none 0 0, .slice none 0 0, .slice none 0 0, .slice none 0 0, .slice none 0 0]) rfl rfl rfl rfl rfl rfl rfl rfl, ?_⟩
   refine cxs ?_
   exact ⟨.inl rfl, _, rfl, zMV, false, rfl, (push_no fun k => h13 (show peerOf g.x to from k.2)).symm, Frs.mg0.1, Frs.mg0.2.1, hP8⟩
  ·replace h13 := h13.1 rfl
   iterate 2 refine ⟨_, rfl, ?_⟩
   refine AW.cutM (2) s8 [(1, vI to), (2, vL 2 0 (0)), (4, vL 4 0 (1)), (5, vB false), (15, vB false)] [(2, 0, cNV g), (4, 1, [vI 0, vI 0, vI 0, vI 0, vI 0, .slice none 0 0, vI 0, .slice none 0 0, .slice none 0 0, .slice none 0 0, .slice none 0 0, .slice none 0 0])] ⟨rfl, rfl, rfl, rfl, rfl, trivial⟩ ⟨rfl, rfl, trivial⟩ rfl fun ρ0 ff => ?_
   refine cxs ?_
   refine ⟨_, op_ldo (v := (vNV g)) rfl rfl rfl rfl, ?_⟩
   refine ⟨_, rfl, (ac_spec_l13Msg g 0 to 0 s8 (hR.pres hP8) (by first | assumption | omega)).mono ?_⟩
   rintro _ s19 ⟨u19, rfl, h19, hO19, hN19, hP19⟩
   refine ⟨_, rfl, ?_⟩
   refine ⟨_, op_stw (vs := cMV u19) rfl rfl rfl rfl rfl rfl rfl rfl, ?_⟩
   refine AW.cutM (3) s19 [(1, vI to), (2, vL 2 0 (0)), (4, vL 4 0 (1)), (5, vB false), (6, vL 6 0 (2))] [(2, 0, cNV g), (4, 1, [vI 0, vI 0, vI 0, vI 0, vI 0, .slice none 0 0, vI 0, .slice none 0 0, .slice none 0 0, .slice none 0 0, .slice none 0 0, .slice none 0 0]), (6, 2, cMV u19)] ⟨rfl, rfl, rfl, rfl, rfl, trivial⟩ ⟨rfl, rfl, rfl, trivial⟩ rfl fun ρ0 ff => ?_
   refine ⟨_, op_ldo (v := (vNV g)) rfl rfl rfl rfl, ?_⟩
   refine ⟨_, rfl, ?_⟩
   refine ⟨_, op_ldo rfl rfl rfl rfl, ?_⟩
   have hal : (g.acked.l.length : Int) = g.n := h8.acked.2.1
   refine op_at ((to).toNat) ((hP8.trans hP19).rows hR.acked) (by omega) rfl rfl rfl rfl (by omega) rfl rfl ?_
   intro x25 b25 d25 k25 hy25 hb25 hm25 hc25 ho25
   refine ⟨_, op_ldc (i := 0) rfl rfl rfl rfl hm25 hc25 rfl rfl, ?_⟩
   refine ⟨_, rfl, (ac_spec_l13Ship g x25 s19 (hR.pres (hP8.trans hP19)) (by first | assumption | omega)).mono ?_⟩
   rintro _ s27 ⟨u27, b27, rfl, h27, hO27, hN27, hP27⟩
   iterate 3 refine ⟨_, rfl, ?_⟩
   refine ⟨_, op_sto rfl rfl rfl rfl rfl rfl rfl, ?_⟩
   refine AW.cutM (3) s27 [(4, vL 4 0 (1)), (5, vB false), (6, vL 6 0 (2))] [(4, 1, [vI 0, vI 0, vI 0, vI 0, vI 0, .slice none 0 0, vI 0, .slice none 0 0, .slice none 0 0, .slice none 0 0, .slice none 0 0, .slice none 0 0]), (6, 2, [vI u19.kind, vI u19.frm, vI u19.to, vI u19.num, vI u19.hi, vS u19.tree.p u19.tree.l.length, vI u19.tree.root, vS u19.vec.p u19.vec.l.length, vS u19.leaves.p u19.leaves.l.length, vS u27.p u27.x.items.length, vS u27.q u27.x.floors.length, vS u19.marks.p u19.marks.l.length])] ⟨rfl, rfl, rfl, trivial⟩ ⟨rfl, rfl, trivial⟩ rfl fun ρ0 ff => ?_
   refine ⟨_, op_ldo (v := .agg #[vI u19.kind, vI u19.frm, vI u19.to, vI u19.num, vI u19.hi, vS u19.tree.p u19.tree.l.length, vI u19.tree.root, vS u19.vec.p u19.vec.l.length, vS u19.leaves.p u19.leaves.l.length, vS u27.p u27.x.items.length, vS u27.q u27.x.floors.length, vS u19.marks.p u19.marks.l.length]) rfl rfl rfl rfl, ?_⟩
   refine ⟨_, op_stw (vs := [vI u19.kind, vI u19.frm, vI u19.to, vI u19.num, vI u19.hi, vS u19.tree.p u19.tree.l.length, vI u19.tree.root, vS u19.vec.p u19.vec.l.length, vS u19.leaves.p u19.leaves.l.length, vS u27.p u27.x.items.length, vS u27.q u27.x.floors.length, vS u19.marks.p u19.marks.l.length]) rfl rfl rfl rfl rfl rfl rfl rfl, ?_⟩
   refine cxs ?_
   have hpe : peerOf g.x to := h13
   have hF := (Frs.part ⟨hO19, hN19, hP19⟩ ⟨hO27, hN27, hP27⟩).sooner hP8
   exact ⟨.inl rfl, _, rfl, { u19 with part := u27 }, true, rfl, push_yes ⟨h8, hpe⟩ hy25 h19 h27, hF.1, hF.2.1, hF.2.2⟩
abbrev pcTV (u : TV) : List Pc := pcIs u.toRV
theorem OwnP.rdTV {st : St} {u : TV} (h : OwnP st (pcTV u)) : Rows st 1 fI u.p u.l := OwnP.rdIs h
def mkTV (u : TV) (k : Int) : TV := ⟨mkIs u.toRV k, u.root⟩
theorem mkp_TV (u : TV) (k : Int) : (pcTV (mkTV u k)).map (·.p) = (pcTV u).map (·.p) := rfl
def RdTr (st : St) (t : TV) : Prop := Rows st 1 fI t.p t.l
theorem RdTr.pres {st st' : St} {t : TV} (h : RdTr st t) (k : Pres st st') : RdTr st' t := k.rows h
abbrev cntTV (t : Tr) : Nat := t.leaves.length
def bigTr (t : Tr) : Prop := t.leaves.length ≤ 1048576
theorem uc_markTree (u : TV) (k : Int) (st : St) (hO : OwnP st (pcTV u)) (hb : bigTr u.x) (h0 : 0 ≤ k) (hk : k ≤ 137438953472) : C 63 [.agg #[vS u.p u.l.length, vI u.root], vI k] st (fun v s => v = vI (k + (cntTV u.x : Int)) ∧ OwnP s (pcTV (mkTV u k)) ∧ PrL ((pcTV u).map (·.p)) st s) := by
 refine AC.enterX (i := ⟨[2], [2, 5], [0, 1, 2, 4]⟩) [] Tryz.func63 rfl rfl (by kernel_rfl) (by kernel_rfl) Tryz.ntmps63 (Nat.le_of_ble_eq_true rfl) rfl ?_
 refine ⟨_, rfl, ?_⟩
 refine AW.cutM (1) st [(1, vI k), (2, vL 2 0 (0)), (4, vI (0))] [(2, 0, [vS u.p u.l.length, vI u.root])] ⟨rfl, rfl, rfl, trivial⟩ ⟨rfl, trivial⟩ rfl fun ρ0 ff => ?_
 refine ⟨_, rfl, ?_⟩
 refine ⟨_, op_ldo rfl rfl rfl rfl, ?_⟩
 refine ⟨_, rfl, (uc_markIntS u.toRV k st hO hb h0 hk).mono ?_⟩
 rintro _ s8 ⟨rfl, hO8, hP8⟩
 refine cxs ?_
 refine cxs ?_
 exact ⟨.inl rfl, _, rfl, rfl, hO8, hP8⟩
theorem uc_heldTree (u : TV) (k : Int) (st : St) (hR : Rows st 1 fI (mkTV u k).p (mkTV u k).l) (hb : bigTr u.x) (h0 : 0 ≤ k) (hk : k ≤ 137438953472) : C 79 [.agg #[vS u.p u.l.length, vI u.root], vI k] st (fun v s => v = vI (k + (cntTV u.x : Int)) ∧ Pres st s) := by
 refine AC.enterX (i := ⟨[2], [2, 5], [0, 1, 2, 4, 10]⟩) [] Tryz.func79 rfl rfl (by kernel_rfl) (by kernel_rfl) Tryz.ntmps79 (Nat.le_of_ble_eq_true rfl) rfl ?_
 refine ⟨_, rfl, ?_⟩
 refine AW.cutM (1) st [(1, vI k), (2, vL 2 0 (0)), (4, vI (0))] [(2, 0, [vS u.p u.l.length, vI u.root])] ⟨rfl, rfl, rfl, trivial⟩ ⟨rfl, trivial⟩ rfl fun ρ0 ff => ?_
 refine ⟨_, rfl, ?_⟩
 refine ⟨_, op_ldo rfl rfl rfl rfl, ?_⟩
 refine ⟨_, rfl, (uc_heldIntS u.toRV k st hR hb h0 hk).mono ?_⟩
 rintro _ s8 ⟨rfl, hP8⟩
 refine AW.cutM (1) s8 [(1, vI (k + (cntIs u.l : Int))), (4, vI (0))] [] ⟨rfl, rfl, trivial⟩ trivial rfl fun ρ0 ff => ?_
 refine ⟨_, rfl, ?_⟩
 rintro (_|_) h10
 rotate_left
 ·exact absurd (of_decide_eq_true h10) ((by unfold cntIs; omega))
 refine AW.cutM (1) s8 [(1, vI (k + (cntIs u.l : Int))), (4, vI (0)), (10, vB false)] [] ⟨rfl, rfl, rfl, trivial⟩ trivial rfl fun ρ0 ff => ?_
 refine cxs ?_
 refine cxs ?_
 exact ⟨.inl rfl, _, rfl, rfl, hP8⟩
def mkSes (k : Int) : Ses := ⟨k, k + 1, (k + 2).tmod 3 == 0, k + 3⟩
def mkRis (k : Int) : Ris := ⟨k, k + 1, k + 2⟩
theorem ac_laws_markSessS (p : Option Addr) (l : List Ses) (k : Int) (st : St) (hO : OwnR st 4 cSess p l) (hs : szOk l.length) (h0 : 0 ≤ k) (hk : k ≤ 549755813888) : C 66 [vS p l.length, vI k] st (fun v s => v = vI (k + 4 * (l.length : Int)) ∧ OwnR s 4 cSess p (mkRow mkSes 4 l.length k) ∧ Pr p st s) := by
 have hs : l.length ≤ 1048576 := hs
 refine AC.enterX (i := ⟨[], [], [0, 1, 4, 5, 9]⟩) [] Tryz.func66 rfl rfl (by kernel_rfl) (by kernel_rfl) Tryz.ntmps66 (Nat.le_of_ble_eq_true rfl) rfl ?_
 refine cxs ?_
 refine AW.cut lo0 st [(0, vS p l.length), (1, vI k), (4, vI (0)), (5, vI (0))] ⟨rfl, rfl, rfl, rfl, trivial⟩ fun ρ0 => ?_
 refine AW.loop0 (fun i : Nat => [(0, vS p l.length), (1, vI (k + 4 * (i : Int))), (5, vI (i : Int))]) (fun m (i : Nat) st' => m = l.length - i ∧ i ≤ l.length ∧ OwnR st' 4 cSess p (mkRow mkSes 4 i k ++ l.drop i) ∧ Pr p st st') 0 _ ⟨rfl, congrArg (Value.int .i64) (show k = k + 4 * ((0 : Nat) : Int) by omega), rfl, trivial⟩ rfl ⟨rfl, Nat.zero_le _, by simpa [mkRow] using hO, Pr.refl _ _⟩ ?_
 rintro m i ρ0 st' ⟨rfl, hi, hO0, hP0⟩
 iterate 2 refine ⟨_, rfl, ?_⟩
 rintro (_|_) h1
 ·replace h1 : ¬ ((i : Int) < (l.length : Int)) := of_decide_eq_false h1
  refine AW.cut lo0 st' [(0, vS p l.length), (1, vI (k + 4 * (i : Int))), (5, vI (i : Int)), (9, vB false)] ⟨rfl, rfl, rfl, rfl, trivial⟩ fun ρ0 => ?_
  refine cxs ?_
  refine cxs ?_
  have hil : i = l.length := by omega
  subst hil
  rw [List.drop_length, List.append_nil] at hO0
  exact ⟨.inl rfl, _, rfl, rfl, hO0, hP0⟩
 ·replace h1 : (i : Int) < (l.length : Int) := of_decide_eq_true h1
  refine AW.cut lo0 st' [(0, vS p l.length), (1, vI (k + 4 * (i : Int))), (5, vI (i : Int)), (9, vB true)] ⟨rfl, rfl, rfl, rfl, trivial⟩ fun ρ0 => ?_
  have h1' := Int.ofNat_lt.1 h1
  have hlen : i < (mkRow mkSes 4 i k ++ l.drop i).length := by rw [List.length_append, mkRow_len, List.length_drop]; omega
  have ⟨a, ha⟩ := hO0.some (by omega)
  obtain ⟨w, hw⟩ : ∃ w, (mkRow mkSes 4 i k ++ l.drop i)[i]? = some w := ⟨_, List.getElem?_eq_getElem hlen⟩
  have hset := mkRow_set (mk := mkSes) (z := 4) (k := k) h1'
  refine cxs ?_
  refine ⟨_, op_idx (j := (i : Int)) (n := l.length) (q := ⟨a, 0, none⟩) rfl (congrArg (fun u => vS u l.length) ha) rfl rfl rfl (Int.natCast_nonneg _) h1, ?_⟩
  refine ⟨_, rfl, ?_⟩
  refine op_putc (z := 4) (i := 0) (st := st') (f := cSess) (j := i) (l := (mkRow mkSes 4 i k ++ l.drop i)) (w := w) (y := ((⟨(k + 4 * (i : Int)), w.num, w.inn, w.age⟩ : Ses) : Ses)) (p := p) (d := 0 + i * 4 + 0) rfl rfl (by omega) rfl rfl len_cSess rfl rfl hw (by decide) rfl hO0 ha ?_
  intro s1 hO1 hP1 hn1
  have hQ1 : Pr p st s1 := hP0.trans hP1
  refine AW.cut lo0 s1 [(0, vS p l.length), (1, vI (k + 4 * (i : Int))), (5, vI (i : Int)), (9, vB true)] ⟨rfl, rfl, rfl, rfl, trivial⟩ fun ρ0 => ?_
  have e18 : IntKind.wrap .i64 (k + 4 * (i : Int) + 1) = k + 4 * (i : Int) + 1 := (wrap_i64 (by omega) (by omega)).trans (by omega)
  refine ⟨_, rfl, ?_⟩
  refine AW.cut lo0 s1 [(0, vS p l.length), (1, vI (k + 4 * (i : Int) + 1)), (5, vI (i : Int)), (9, vB true)] ⟨rfl, congrArg (Value.int .i64) e18, rfl, rfl, trivial⟩ fun ρ0 => ?_
  refine ⟨_, op_idx (j := (i : Int)) (n := l.length) (q := ⟨a, 0, none⟩) rfl (congrArg (fun u => vS u l.length) ha) rfl rfl rfl (Int.natCast_nonneg _) h1, ?_⟩
  refine ⟨_, rfl, ?_⟩
  refine op_putc (z := 4) (i := 1) (st := s1) (f := cSess) (j := i) (l := ((mkRow mkSes 4 i k ++ l.drop i).set i (⟨(k + 4 * (i : Int)), w.num, w.inn, w.age⟩ : Ses))) (w := (⟨(k + 4 * (i : Int)), w.num, w.inn, w.age⟩ : Ses)) (y := ((⟨(k + 4 * (i : Int)), (k + 4 * (i : Int)) + 1, w.inn, w.age⟩ : Ses) : Ses)) (p := p) (d := 0 + i * 4 + 1) rfl rfl (by omega) rfl rfl len_cSess rfl rfl (getElem?_set_same hlen) (by decide) rfl hO1 ha ?_
  intro s2 hO2 hP2 hn2
  rw [set_set] at hO2
  have hQ2 : Pr p st s2 := hQ1.trans hP2
  refine AW.cut lo0 s2 [(0, vS p l.length), (1, vI (k + 4 * (i : Int) + 1)), (5, vI (i : Int)), (9, vB true)] ⟨rfl, rfl, rfl, rfl, trivial⟩ fun ρ0 => ?_
  have e25 : IntKind.wrap .i64 (k + 4 * (i : Int) + 1 + 1) = k + 4 * (i : Int) + 2 := (wrap_i64 (by omega) (by omega)).trans (by omega)
  refine ⟨_, rfl, ?_⟩
  refine AW.cut lo0 s2 [(0, vS p l.length), (1, vI (k + 4 * (i : Int) + 2)), (5, vI (i : Int)), (9, vB true)] ⟨rfl, congrArg (Value.int .i64) e25, rfl, rfl, trivial⟩ fun ρ0 => ?_
  refine ⟨_, op_rem rfl rfl rfl (by decide), ?_⟩
  refine ⟨_, rfl, ?_⟩
  rintro _ rfl
  refine ⟨_, op_idx (j := (i : Int)) (n := l.length) (q := ⟨a, 0, none⟩) rfl (congrArg (fun u => vS u l.length) ha) rfl rfl rfl (Int.natCast_nonneg _) h1, ?_⟩
  refine ⟨_, rfl, ?_⟩
  refine op_putc (z := 4) (i := 2) (st := s2) (f := cSess) (j := i) (l := ((mkRow mkSes 4 i k ++ l.drop i).set i (⟨(k + 4 * (i : Int)), (k + 4 * (i : Int)) + 1, w.inn, w.age⟩ : Ses))) (w := (⟨(k + 4 * (i : Int)), (k + 4 * (i : Int)) + 1, w.inn, w.age⟩ : Ses)) (y := ((⟨(k + 4 * (i : Int)), (k + 4 * (i : Int)) + 1, ((k + 4 * (i : Int)) + 2).tmod 3 == 0, w.age⟩ : Ses) : Ses)) (p := p) (d := 0 + i * 4 + 2) rfl rfl (by omega) rfl rfl len_cSess rfl rfl (getElem?_set_same hlen) (by decide) rfl hO2 ha ?_
  intro s3 hO3 hP3 hn3
  rw [set_set] at hO3
  have hQ3 : Pr p st s3 := hQ2.trans hP3
  refine AW.cut lo0 s3 [(0, vS p l.length), (1, vI (k + 4 * (i : Int) + 2)), (5, vI (i : Int)), (9, vB true)] ⟨rfl, rfl, rfl, rfl, trivial⟩ fun ρ0 => ?_
  have e34 : IntKind.wrap .i64 (k + 4 * (i : Int) + 2 + 1) = k + 4 * (i : Int) + 3 := (wrap_i64 (by omega) (by omega)).trans (by omega)
  refine ⟨_, rfl, ?_⟩
  refine AW.cut lo0 s3 [(0, vS p l.length), (1, vI (k + 4 * (i : Int) + 3)), (5, vI (i : Int)), (9, vB true)] ⟨rfl, congrArg (Value.int .i64) e34, rfl, rfl, trivial⟩ fun ρ0 => ?_
  refine ⟨_, op_idx (j := (i : Int)) (n := l.length) (q := ⟨a, 0, none⟩) rfl (congrArg (fun u => vS u l.length) ha) rfl rfl rfl (Int.natCast_nonneg _) h1, ?_⟩
  refine ⟨_, rfl, ?_⟩
  refine op_putc (z := 4) (i := 3) (st := s3) (f := cSess) (j := i) (l := ((mkRow mkSes 4 i k ++ l.drop i).set i (⟨(k + 4 * (i : Int)), (k + 4 * (i : Int)) + 1, ((k + 4 * (i : Int)) + 2).tmod 3 == 0, w.age⟩ : Ses))) (w := (⟨(k + 4 * (i : Int)), (k + 4 * (i : Int)) + 1, ((k + 4 * (i : Int)) + 2).tmod 3 == 0, w.age⟩ : Ses)) (y := ((⟨(k + 4 * (i : Int)), (k + 4 * (i : Int)) + 1, ((k + 4 * (i : Int)) + 2).tmod 3 == 0, (k + 4 * (i : Int)) + 3⟩ : Ses) : Ses)) (p := p) (d := 0 + i * 4 + 3) rfl rfl (by omega) rfl rfl len_cSess rfl rfl (getElem?_set_same hlen) (by decide) rfl hO3 ha ?_
  intro s4 hO4 hP4 hn4
  rw [set_set] at hO4
  have hQ4 : Pr p st s4 := hQ3.trans hP4
  refine AW.cut lo0 s4 [(0, vS p l.length), (1, vI (k + 4 * (i : Int) + 3)), (5, vI (i : Int)), (9, vB true)] ⟨rfl, rfl, rfl, rfl, trivial⟩ fun ρ0 => ?_
  have e41 : IntKind.wrap .i64 (k + 4 * (i : Int) + 3 + 1) = k + 4 * ((i + 1 : Nat) : Int) := (wrap_i64 (by omega) (by omega)).trans (by omega)
  refine ⟨_, rfl, ?_⟩
  refine AW.cut lo0 s4 [(0, vS p l.length), (1, vI (k + 4 * ((i + 1 : Nat) : Int))), (5, vI (i : Int)), (9, vB true)] ⟨rfl, congrArg (Value.int .i64) e41, rfl, rfl, trivial⟩ fun ρ0 => ?_
  have e11 : IntKind.wrap .i64 ((i : Int) + 1) = ((i + 1 : Nat) : Int) := (wrap_i64 (by omega) (by omega)).trans (by omega)
  refine ⟨_, rfl, ?_⟩
  exact ⟨i + 1, l.length - (i + 1), by omega, ⟨rfl, rfl, congrArg (Value.int .i64) e11, trivial⟩, rfl, rfl, h1', (show OwnR s4 4 cSess p (mkRow mkSes 4 (i + 1) k ++ l.drop (i + 1)) by rw [← hset]; exact hO4), hQ4⟩
theorem ac_laws_markRiseS (p : Option Addr) (l : List Ris) (k : Int) (st : St) (hO : OwnR st 3 cRise p l) (hs : szOk l.length) (h0 : 0 ≤ k) (hk : k ≤ 549755813888) : C 67 [vS p l.length, vI k] st (fun v s => v = vI (k + 3 * (l.length : Int)) ∧ OwnR s 3 cRise p (mkRow mkRis 3 l.length k) ∧ Pr p st s) := by
 have hs : l.length ≤ 1048576 := hs
 refine AC.enterX (i := ⟨[], [], [0, 1, 4, 5, 9]⟩) [] Tryz.func67 rfl rfl (by kernel_rfl) (by kernel_rfl) Tryz.ntmps67 (Nat.le_of_ble_eq_true rfl) rfl ?_
 refine cxs ?_
 refine AW.cut lo0 st [(0, vS p l.length), (1, vI k), (4, vI (0)), (5, vI (0))] ⟨rfl, rfl, rfl, rfl, trivial⟩ fun ρ0 => ?_
 refine AW.loop0 (fun i : Nat => [(0, vS p l.length), (1, vI (k + 3 * (i : Int))), (5, vI (i : Int))]) (fun m (i : Nat) st' => m = l.length - i ∧ i ≤ l.length ∧ OwnR st' 3 cRise p (mkRow mkRis 3 i k ++ l.drop i) ∧ Pr p st st') 0 _ ⟨rfl, congrArg (Value.int .i64) (show k = k + 3 * ((0 : Nat) : Int) by omega), rfl, trivial⟩ rfl ⟨rfl, Nat.zero_le _, by simpa [mkRow] using hO, Pr.refl _ _⟩ ?_
 rintro m i ρ0 st' ⟨rfl, hi, hO0, hP0⟩
 iterate 2 refine ⟨_, rfl, ?_⟩
 rintro (_|_) h1
 ·replace h1 : ¬ ((i : Int) < (l.length : Int)) := of_decide_eq_false h1
  refine AW.cut lo0 st' [(0, vS p l.length), (1, vI (k + 3 * (i : Int))), (5, vI (i : Int)), (9, vB false)] ⟨rfl, rfl, rfl, rfl, trivial⟩ fun ρ0 => ?_
  refine cxs ?_
  refine cxs ?_
  have hil : i = l.length := by omega
  subst hil
  rw [List.drop_length, List.append_nil] at hO0
  exact ⟨.inl rfl, _, rfl, rfl, hO0, hP0⟩
 ·replace h1 : (i : Int) < (l.length : Int) := of_decide_eq_true h1
  refine AW.cut lo0 st' [(0, vS p l.length), (1, vI (k + 3 * (i : Int))), (5, vI (i : Int)), (9, vB true)] ⟨rfl, rfl, rfl, rfl, trivial⟩ fun ρ0 => ?_
  have h1' := Int.ofNat_lt.1 h1
  have hlen : i < (mkRow mkRis 3 i k ++ l.drop i).length := by rw [List.length_append, mkRow_len, List.length_drop]; omega
  have ⟨a, ha⟩ := hO0.some (by omega)
  obtain ⟨w, hw⟩ : ∃ w, (mkRow mkRis 3 i k ++ l.drop i)[i]? = some w := ⟨_, List.getElem?_eq_getElem hlen⟩
  have hset := mkRow_set (mk := mkRis) (z := 3) (k := k) h1'
  refine cxs ?_
  refine ⟨_, op_idx (j := (i : Int)) (n := l.length) (q := ⟨a, 0, none⟩) rfl (congrArg (fun u => vS u l.length) ha) rfl rfl rfl (Int.natCast_nonneg _) h1, ?_⟩
  refine ⟨_, rfl, ?_⟩
  refine op_putc (z := 3) (i := 0) (st := st') (f := cRise) (j := i) (l := (mkRow mkRis 3 i k ++ l.drop i)) (w := w) (y := ((⟨(k + 3 * (i : Int)), w.beat, w.tick⟩ : Ris) : Ris)) (p := p) (d := 0 + i * 3 + 0) rfl rfl (by omega) rfl rfl len_cRise rfl rfl hw (by decide) rfl hO0 ha ?_
  intro s1 hO1 hP1 hn1
  have hQ1 : Pr p st s1 := hP0.trans hP1
  refine AW.cut lo0 s1 [(0, vS p l.length), (1, vI (k + 3 * (i : Int))), (5, vI (i : Int)), (9, vB true)] ⟨rfl, rfl, rfl, rfl, trivial⟩ fun ρ0 => ?_
  have e18 : IntKind.wrap .i64 (k + 3 * (i : Int) + 1) = k + 3 * (i : Int) + 1 := (wrap_i64 (by omega) (by omega)).trans (by omega)
  refine ⟨_, rfl, ?_⟩
  refine AW.cut lo0 s1 [(0, vS p l.length), (1, vI (k + 3 * (i : Int) + 1)), (5, vI (i : Int)), (9, vB true)] ⟨rfl, congrArg (Value.int .i64) e18, rfl, rfl, trivial⟩ fun ρ0 => ?_
  refine ⟨_, op_idx (j := (i : Int)) (n := l.length) (q := ⟨a, 0, none⟩) rfl (congrArg (fun u => vS u l.length) ha) rfl rfl rfl (Int.natCast_nonneg _) h1, ?_⟩
  refine ⟨_, rfl, ?_⟩
  refine op_putc (z := 3) (i := 1) (st := s1) (f := cRise) (j := i) (l := ((mkRow mkRis 3 i k ++ l.drop i).set i (⟨(k + 3 * (i : Int)), w.beat, w.tick⟩ : Ris))) (w := (⟨(k + 3 * (i : Int)), w.beat, w.tick⟩ : Ris)) (y := ((⟨(k + 3 * (i : Int)), (k + 3 * (i : Int)) + 1, w.tick⟩ : Ris) : Ris)) (p := p) (d := 0 + i * 3 + 1) rfl rfl (by omega) rfl rfl len_cRise rfl rfl (getElem?_set_same hlen) (by decide) rfl hO1 ha ?_
  intro s2 hO2 hP2 hn2
  rw [set_set] at hO2
  have hQ2 : Pr p st s2 := hQ1.trans hP2
  refine AW.cut lo0 s2 [(0, vS p l.length), (1, vI (k + 3 * (i : Int) + 1)), (5, vI (i : Int)), (9, vB true)] ⟨rfl, rfl, rfl, rfl, trivial⟩ fun ρ0 => ?_
  have e25 : IntKind.wrap .i64 (k + 3 * (i : Int) + 1 + 1) = k + 3 * (i : Int) + 2 := (wrap_i64 (by omega) (by omega)).trans (by omega)
  refine ⟨_, rfl, ?_⟩
  refine AW.cut lo0 s2 [(0, vS p l.length), (1, vI (k + 3 * (i : Int) + 2)), (5, vI (i : Int)), (9, vB true)] ⟨rfl, congrArg (Value.int .i64) e25, rfl, rfl, trivial⟩ fun ρ0 => ?_
  refine ⟨_, op_idx (j := (i : Int)) (n := l.length) (q := ⟨a, 0, none⟩) rfl (congrArg (fun u => vS u l.length) ha) rfl rfl rfl (Int.natCast_nonneg _) h1, ?_⟩
  refine ⟨_, rfl, ?_⟩
  refine op_putc (z := 3) (i := 2) (st := s2) (f := cRise) (j := i) (l := ((mkRow mkRis 3 i k ++ l.drop i).set i (⟨(k + 3 * (i : Int)), (k + 3 * (i : Int)) + 1, w.tick⟩ : Ris))) (w := (⟨(k + 3 * (i : Int)), (k + 3 * (i : Int)) + 1, w.tick⟩ : Ris)) (y := ((⟨(k + 3 * (i : Int)), (k + 3 * (i : Int)) + 1, (k + 3 * (i : Int)) + 2⟩ : Ris) : Ris)) (p := p) (d := 0 + i * 3 + 2) rfl rfl (by omega) rfl rfl len_cRise rfl rfl (getElem?_set_same hlen) (by decide) rfl hO2 ha ?_
  intro s3 hO3 hP3 hn3
  rw [set_set] at hO3
  have hQ3 : Pr p st s3 := hQ2.trans hP3
  refine AW.cut lo0 s3 [(0, vS p l.length), (1, vI (k + 3 * (i : Int) + 2)), (5, vI (i : Int)), (9, vB true)] ⟨rfl, rfl, rfl, rfl, trivial⟩ fun ρ0 => ?_
  have e32 : IntKind.wrap .i64 (k + 3 * (i : Int) + 2 + 1) = k + 3 * ((i + 1 : Nat) : Int) := (wrap_i64 (by omega) (by omega)).trans (by omega)
  refine ⟨_, rfl, ?_⟩
  refine AW.cut lo0 s3 [(0, vS p l.length), (1, vI (k + 3 * ((i + 1 : Nat) : Int))), (5, vI (i : Int)), (9, vB true)] ⟨rfl, congrArg (Value.int .i64) e32, rfl, rfl, trivial⟩ fun ρ0 => ?_
  have e11 : IntKind.wrap .i64 ((i : Int) + 1) = ((i + 1 : Nat) : Int) := (wrap_i64 (by omega) (by omega)).trans (by omega)
  refine ⟨_, rfl, ?_⟩
  exact ⟨i + 1, l.length - (i + 1), by omega, ⟨rfl, rfl, congrArg (Value.int .i64) e11, trivial⟩, rfl, rfl, h1', (show OwnR s3 3 cRise p (mkRow mkRis 3 (i + 1) k ++ l.drop (i + 1)) by rw [← hset]; exact hO3), hQ3⟩
def mkSesR (g : SesV) (k : Int) : SesV := ⟨g.p, mkRow mkSes 4 g.l.length k⟩
theorem mkp_SesR (g : SesV) (k : Int) : (pcSes (mkSesR g k)).map (·.p) = (pcSes g).map (·.p) := rfl
theorem uc_markSessS (u : SesV) (k : Int) (st : St) (hO : OwnP st (pcSes u)) (hb : szOk u.l.length) (h0 : 0 ≤ k) (hk : k ≤ 274877906944) : C 66 [vS u.p u.l.length, vI k] st (fun v s => v = vI (k + ((4 * u.l.length : Nat) : Int)) ∧ OwnP s (pcSes (mkSesR u k)) ∧ PrL ((pcSes u).map (·.p)) st s) :=
 (ac_laws_markSessS u.p u.l k st (own_one (by decide) len_cSess hO) hb h0 (by omega)).mono fun v s ⟨h1, h2, h3⟩ => ⟨h1.trans (congrArg (Value.int .i64) (by omega)), OwnP.one (own_pc h2), h3.l (List.mem_singleton_self _)⟩
def mkRisR (g : RisV) (k : Int) : RisV := ⟨g.p, mkRow mkRis 3 g.l.length k⟩
theorem mkp_RisR (g : RisV) (k : Int) : (pcRis (mkRisR g k)).map (·.p) = (pcRis g).map (·.p) := rfl
theorem uc_markRiseS (u : RisV) (k : Int) (st : St) (hO : OwnP st (pcRis u)) (hb : szOk u.l.length) (h0 : 0 ≤ k) (hk : k ≤ 274877906944) : C 67 [vS u.p u.l.length, vI k] st (fun v s => v = vI (k + ((3 * u.l.length : Nat) : Int)) ∧ OwnP s (pcRis (mkRisR u k)) ∧ PrL ((pcRis u).map (·.p)) st s) :=
 (ac_laws_markRiseS u.p u.l k st (own_one (by decide) len_cRise hO) hb h0 (by omega)).mono fun v s ⟨h1, h2, h3⟩ => ⟨h1.trans (congrArg (Value.int .i64) (by omega)), OwnP.one (own_pc h2), h3.l (List.mem_singleton_self _)⟩
theorem OwnP.rot {st : St} {a b : List Pc} (h : OwnP st (a ++ b)) : OwnP st (b ++ a) := h.perm List.perm_append_comm
def mkNode (u : NW) (k : Int) : NW := { u with s := mkState u.s k, t := mkTV u.t (k + (cntState u.s.x : Int)), g := mkLog u.g (k + (cntState u.s.x : Int) + (cntTV u.t.x : Int)), got := mkIs u.got (k + (cntState u.s.x : Int) + (cntTV u.t.x : Int) + (cntLog u.g.v.x : Int)), acked := mkIs u.acked (k + (cntState u.s.x : Int) + (cntTV u.t.x : Int) + (cntLog u.g.v.x : Int) + (cntIs u.got.l : Int)), seen := mkTT u.seen (k + (cntState u.s.x : Int) + (cntTV u.t.x : Int) + (cntLog u.g.v.x : Int) + (cntIs u.got.l : Int) + (cntIs u.acked.l : Int)), sess := mkSesR u.sess (k + (cntState u.s.x : Int) + (cntTV u.t.x : Int) + (cntLog u.g.v.x : Int) + (cntIs u.got.l : Int) + (cntIs u.acked.l : Int) + (cntTab u.seen.x : Int)), rises := mkRisR u.rises (k + (cntState u.s.x : Int) + (cntTV u.t.x : Int) + (cntLog u.g.v.x : Int) + (cntIs u.got.l : Int) + (cntIs u.acked.l : Int) + (cntTab u.seen.x : Int) + ((4 * u.sess.l.length : Nat) : Int)) }
theorem mkp_Node (u : NW) (k : Int) : (pcNW (mkNode u k)).map (·.p) = (pcNW u).map (·.p) :=
 map_app2 (mkp_State _ _) (map_app2 (mkp_TV _ _) (map_app2 (mkp_Log _ _) (map_app2 (mkp_Is _ _) (map_app2 (mkp_Is _ _) (map_app2 (mkp_TT _ _) (map_app2 (mkp_SesR _ _) (mkp_RisR _ _)))))))
theorem uc_markNode (u : NW) (k : Int) (st : St) (hO : OwnP st (pcNW u)) (hb : bigN u.x) (h0 : 0 ≤ k) (hk : k + (cntNode u.x : Int) ≤ 137438953472) : C 18 [.agg #[vI u.id, vI u.n, vS u.s.p u.s.x.items.length, vS u.s.q u.s.x.floors.length, vS u.t.p u.t.l.length, vI u.t.root, vI u.g.cap, vI u.g.frm, vS u.g.p u.g.l.length, vS u.got.p u.got.l.length, vS u.acked.p u.acked.l.length, vS u.seen.p u.seen.t.length, vI u.num, vI u.slots, vS u.sess.p u.sess.l.length, vI u.wait, vI u.limit, vI u.clock, vS u.rises.p u.rises.l.length], vI k] st (fun v s => v = vI (k + (cntNode u.x : Int)) ∧ OwnP s (pcNW (mkNode u k)) ∧ PrL ((pcNW u).map (·.p)) st s) := by
 have hc : cntNode u.x = cntState u.s.x + cntTV u.t.x + cntLog u.g.v.x + cntIs u.got.l + cntIs u.acked.l + cntTab u.seen.x + 4 * u.sess.l.length + 3 * u.rises.l.length := rfl
 refine AC.enterX (i := ⟨[2], [2, 5, 9, 13, 17, 21, 25, 29, 33], [0, 1, 2, 4]⟩) [] Tryz.func18 rfl rfl (by kernel_rfl) (by kernel_rfl) Tryz.ntmps18 (Nat.le_of_ble_eq_true rfl) rfl ?_
 refine ⟨_, rfl, ?_⟩
 refine AW.cutM (1) st [(1, vI k), (2, vL 2 0 (0)), (4, vI (0))] [(2, 0, cNV u.v)] ⟨rfl, rfl, rfl, trivial⟩ ⟨rfl, trivial⟩ rfl fun ρ0 ff => ?_
 refine ⟨_, rfl, ?_⟩
 refine ⟨_, op_ldo rfl rfl rfl rfl, ?_⟩
 refine ⟨_, rfl, (uc_markState u.s k st (OwnP.left hO) hb.s (by omega) (by omega)).mono ?_⟩
 rintro _ s8 ⟨rfl, hO8, hL8⟩
 refine AW.cutM (1) s8 [(1, vI (k + (cntState u.s.x : Int))), (2, vL 2 0 (0)), (4, vI (0))] [(2, 0, cNV u.v)] ⟨rfl, rfl, rfl, trivial⟩ ⟨rfl, trivial⟩ rfl fun ρ0 ff => ?_
 have hA8 : OwnP s8 (pcTV u.t ++ (pcLog u.g ++ (pcIs u.got ++ (pcIs u.acked ++ (pcTT u.seen ++ (pcSes u.sess ++ (pcRis u.rises ++ (pcS (mkState u.s k))))))))) := by
  have := (OwnP.markG hO hO8 (mkp_State _ _) hL8).rot
  simpa only [List.append_assoc] using this
 refine ⟨_, rfl, ?_⟩
 refine ⟨_, op_ldo rfl rfl rfl rfl, ?_⟩
 refine ⟨_, rfl, (uc_markTree u.t (k + (cntState u.s.x : Int)) s8 (OwnP.left hA8) hb.t (by omega) (by omega)).mono ?_⟩
 rintro _ s12 ⟨rfl, hO12, hL12⟩
 refine AW.cutM (1) s12 [(1, vI (k + (cntState u.s.x : Int) + (cntTV u.t.x : Int))), (2, vL 2 0 (0)), (4, vI (0))] [(2, 0, cNV u.v)] ⟨rfl, rfl, rfl, trivial⟩ ⟨rfl, trivial⟩ rfl fun ρ0 ff => ?_
 have hA12 : OwnP s12 (pcLog u.g ++ (pcIs u.got ++ (pcIs u.acked ++ (pcTT u.seen ++ (pcSes u.sess ++ (pcRis u.rises ++ (pcS (mkState u.s k) ++ (pcTV (mkTV u.t (k + (cntState u.s.x : Int))))))))))) := by
  have := (OwnP.markG hA8 hO12 (mkp_TV _ _) hL12).rot
  simpa only [List.append_assoc] using this
 refine ⟨_, rfl, ?_⟩
 refine ⟨_, op_ldo rfl rfl rfl rfl, ?_⟩
 refine ⟨_, rfl, (uc_markLog u.g (k + (cntState u.s.x : Int) + (cntTV u.t.x : Int)) s12 (OwnP.left hA12) hb.g (by omega) (by omega)).mono ?_⟩
 rintro _ s16 ⟨rfl, hO16, hL16⟩
 refine AW.cutM (1) s16 [(1, vI (k + (cntState u.s.x : Int) + (cntTV u.t.x : Int) + (cntLog u.g.v.x : Int))), (2, vL 2 0 (0)), (4, vI (0))] [(2, 0, cNV u.v)] ⟨rfl, rfl, rfl, trivial⟩ ⟨rfl, trivial⟩ rfl fun ρ0 ff => ?_
 have hA16 : OwnP s16 (pcIs u.got ++ (pcIs u.acked ++ (pcTT u.seen ++ (pcSes u.sess ++ (pcRis u.rises ++ (pcS (mkState u.s k) ++ (pcTV (mkTV u.t (k + (cntState u.s.x : Int))) ++ (pcLog (mkLog u.g (k + (cntState u.s.x : Int) + (cntTV u.t.x : Int))))))))))) := by
  have := (OwnP.markG hA12 hO16 (mkp_Log _ _) hL16).rot
  simpa only [List.append_assoc] using this
 refine ⟨_, rfl, ?_⟩
 refine ⟨_, op_ldo rfl rfl rfl rfl, ?_⟩
 refine ⟨_, rfl, (uc_markIntS u.got (k + (cntState u.s.x : Int) + (cntTV u.t.x : Int) + (cntLog u.g.v.x : Int)) s16 (OwnP.left hA16) hb.got (by omega) (by omega)).mono ?_⟩
 rintro _ s20 ⟨rfl, hO20, hL20⟩
 refine AW.cutM (1) s20 [(1, vI (k + (cntState u.s.x : Int) + (cntTV u.t.x : Int) + (cntLog u.g.v.x : Int) + (cntIs u.got.l : Int))), (2, vL 2 0 (0)), (4, vI (0))] [(2, 0, cNV u.v)] ⟨rfl, rfl, rfl, trivial⟩ ⟨rfl, trivial⟩ rfl fun ρ0 ff => ?_
 have hA20 : OwnP s20 (pcIs u.acked ++ (pcTT u.seen ++ (pcSes u.sess ++ (pcRis u.rises ++ (pcS (mkState u.s k) ++ (pcTV (mkTV u.t (k + (cntState u.s.x : Int))) ++ (pcLog (mkLog u.g (k + (cntState u.s.x : Int) + (cntTV u.t.x : Int))) ++ (pcIs (mkIs u.got (k + (cntState u.s.x : Int) + (cntTV u.t.x : Int) + (cntLog u.g.v.x : Int))))))))))) := by
  have := (OwnP.markG hA16 hO20 (mkp_Is _ _) hL20).rot
  simpa only [List.append_assoc] using this
 refine ⟨_, rfl, ?_⟩
 refine ⟨_, op_ldo rfl rfl rfl rfl, ?_⟩
 refine ⟨_, rfl, (uc_markIntS u.acked (k + (cntState u.s.x : Int) + (cntTV u.t.x : Int) + (cntLog u.g.v.x : Int) + (cntIs u.got.l : Int)) s20 (OwnP.left hA20) hb.acked (by omega) (by omega)).mono ?_⟩
 rintro _ s24 ⟨rfl, hO24, hL24⟩
 refine AW.cutM (1) s24 [(1, vI (k + (cntState u.s.x : Int) + (cntTV u.t.x : Int) + (cntLog u.g.v.x : Int) + (cntIs u.got.l : Int) + (cntIs u.acked.l : Int))), (2, vL 2 0 (0)), (4, vI (0))] [(2, 0, cNV u.v)] ⟨rfl, rfl, rfl, trivial⟩ ⟨rfl, trivial⟩ rfl fun ρ0 ff => ?_
 have hA24 : OwnP s24 (pcTT u.seen ++ (pcSes u.sess ++ (pcRis u.rises ++ (pcS (mkState u.s k) ++ (pcTV (mkTV u.t (k + (cntState u.s.x : Int))) ++ (pcLog (mkLog u.g (k + (cntState u.s.x : Int) + (cntTV u.t.x : Int))) ++ (pcIs (mkIs u.got (k + (cntState u.s.x : Int) + (cntTV u.t.x : Int) + (cntLog u.g.v.x : Int))) ++ (pcIs (mkIs u.acked (k + (cntState u.s.x : Int) + (cntTV u.t.x : Int) + (cntLog u.g.v.x : Int) + (cntIs u.got.l : Int))))))))))) := by
  have := (OwnP.markG hA20 hO24 (mkp_Is _ _) hL24).rot
  simpa only [List.append_assoc] using this
 refine ⟨_, rfl, ?_⟩
 refine ⟨_, op_ldo rfl rfl rfl rfl, ?_⟩
 refine ⟨_, rfl, (uc_markIntSS u.seen (k + (cntState u.s.x : Int) + (cntTV u.t.x : Int) + (cntLog u.g.v.x : Int) + (cntIs u.got.l : Int) + (cntIs u.acked.l : Int)) s24 (OwnP.left hA24) hb.seen (by omega) (by omega)).mono ?_⟩
 rintro _ s28 ⟨rfl, hO28, hL28⟩
 refine AW.cutM (1) s28 [(1, vI (k + (cntState u.s.x : Int) + (cntTV u.t.x : Int) + (cntLog u.g.v.x : Int) + (cntIs u.got.l : Int) + (cntIs u.acked.l : Int) + (cntTab u.seen.x : Int))), (2, vL 2 0 (0)), (4, vI (0))] [(2, 0, cNV u.v)] ⟨rfl, rfl, rfl, trivial⟩ ⟨rfl, trivial⟩ rfl fun ρ0 ff => ?_
 have hA28 : OwnP s28 (pcSes u.sess ++ (pcRis u.rises ++ (pcS (mkState u.s k) ++ (pcTV (mkTV u.t (k + (cntState u.s.x : Int))) ++ (pcLog (mkLog u.g (k + (cntState u.s.x : Int) + (cntTV u.t.x : Int))) ++ (pcIs (mkIs u.got (k + (cntState u.s.x : Int) + (cntTV u.t.x : Int) + (cntLog u.g.v.x : Int))) ++ (pcIs (mkIs u.acked (k + (cntState u.s.x : Int) + (cntTV u.t.x : Int) + (cntLog u.g.v.x : Int) + (cntIs u.got.l : Int))) ++ (pcTT (mkTT u.seen (k + (cntState u.s.x : Int) + (cntTV u.t.x : Int) + (cntLog u.g.v.x : Int) + (cntIs u.got.l : Int) + (cntIs u.acked.l : Int))))))))))) := by
  have := (OwnP.markG hA24 hO28 (mkp_TT _ _) hL28).rot
  simpa only [List.append_assoc] using this
 refine ⟨_, rfl, ?_⟩
 refine ⟨_, op_ldo rfl rfl rfl rfl, ?_⟩
 refine ⟨_, rfl, (uc_markSessS u.sess (k + (cntState u.s.x : Int) + (cntTV u.t.x : Int) + (cntLog u.g.v.x : Int) + (cntIs u.got.l : Int) + (cntIs u.acked.l : Int) + (cntTab u.seen.x : Int)) s28 (OwnP.left hA28) hb.sess (by omega) (by omega)).mono ?_⟩
 rintro _ s32 ⟨rfl, hO32, hL32⟩
 refine AW.cutM (1) s32 [(1, vI (k + (cntState u.s.x : Int) + (cntTV u.t.x : Int) + (cntLog u.g.v.x : Int) + (cntIs u.got.l : Int) + (cntIs u.acked.l : Int) + (cntTab u.seen.x : Int) + ((4 * u.sess.l.length : Nat) : Int))), (2, vL 2 0 (0)), (4, vI (0))] [(2, 0, cNV u.v)] ⟨rfl, rfl, rfl, trivial⟩ ⟨rfl, trivial⟩ rfl fun ρ0 ff => ?_
 have hA32 : OwnP s32 (pcRis u.rises ++ (pcS (mkState u.s k) ++ (pcTV (mkTV u.t (k + (cntState u.s.x : Int))) ++ (pcLog (mkLog u.g (k + (cntState u.s.x : Int) + (cntTV u.t.x : Int))) ++ (pcIs (mkIs u.got (k + (cntState u.s.x : Int) + (cntTV u.t.x : Int) + (cntLog u.g.v.x : Int))) ++ (pcIs (mkIs u.acked (k + (cntState u.s.x : Int) + (cntTV u.t.x : Int) + (cntLog u.g.v.x : Int) + (cntIs u.got.l : Int))) ++ (pcTT (mkTT u.seen (k + (cntState u.s.x : Int) + (cntTV u.t.x : Int) + (cntLog u.g.v.x : Int) + (cntIs u.got.l : Int) + (cntIs u.acked.l : Int))) ++ (pcSes (mkSesR u.sess (k + (cntState u.s.x : Int) + (cntTV u.t.x : Int) + (cntLog u.g.v.x : Int) + (cntIs u.got.l : Int) + (cntIs u.acked.l : Int) + (cntTab u.seen.x : Int))))))))))) := by
  have := (OwnP.markG hA28 hO32 (mkp_SesR _ _) hL32).rot
  simpa only [List.append_assoc] using this
 refine ⟨_, rfl, ?_⟩
 refine ⟨_, op_ldo rfl rfl rfl rfl, ?_⟩
 refine ⟨_, rfl, (uc_markRiseS u.rises (k + (cntState u.s.x : Int) + (cntTV u.t.x : Int) + (cntLog u.g.v.x : Int) + (cntIs u.got.l : Int) + (cntIs u.acked.l : Int) + (cntTab u.seen.x : Int) + ((4 * u.sess.l.length : Nat) : Int)) s32 (OwnP.left hA32) hb.rises (by omega) (by omega)).mono ?_⟩
 rintro _ s36 ⟨rfl, hO36, hL36⟩
 refine cxs ?_
 have hA36 : OwnP s36 (pcS (mkState u.s k) ++ (pcTV (mkTV u.t (k + (cntState u.s.x : Int))) ++ (pcLog (mkLog u.g (k + (cntState u.s.x : Int) + (cntTV u.t.x : Int))) ++ (pcIs (mkIs u.got (k + (cntState u.s.x : Int) + (cntTV u.t.x : Int) + (cntLog u.g.v.x : Int))) ++ (pcIs (mkIs u.acked (k + (cntState u.s.x : Int) + (cntTV u.t.x : Int) + (cntLog u.g.v.x : Int) + (cntIs u.got.l : Int))) ++ (pcTT (mkTT u.seen (k + (cntState u.s.x : Int) + (cntTV u.t.x : Int) + (cntLog u.g.v.x : Int) + (cntIs u.got.l : Int) + (cntIs u.acked.l : Int))) ++ (pcSes (mkSesR u.sess (k + (cntState u.s.x : Int) + (cntTV u.t.x : Int) + (cntLog u.g.v.x : Int) + (cntIs u.got.l : Int) + (cntIs u.acked.l : Int) + (cntTab u.seen.x : Int))) ++ (pcRis (mkRisR u.rises (k + (cntState u.s.x : Int) + (cntTV u.t.x : Int) + (cntLog u.g.v.x : Int) + (cntIs u.got.l : Int) + (cntIs u.acked.l : Int) + (cntTab u.seen.x : Int) + ((4 * u.sess.l.length : Nat) : Int))))))))))) := by
  have := (OwnP.markG hA32 hO36 (mkp_RisR _ _) hL36).rot
  simpa only [List.append_assoc] using this
 refine cxs ?_
 exact ⟨.inl rfl, _, rfl, congrArg vI (by rw [hc]; omega), hA36, ((((((((PrL.inl hL8).trans (PrL.inr (PrL.inl hL12))).trans (PrL.inr (PrL.inr (PrL.inl hL16)))).trans (PrL.inr (PrL.inr (PrL.inr (PrL.inl hL20))))).trans (PrL.inr (PrL.inr (PrL.inr (PrL.inr (PrL.inl hL24)))))).trans (PrL.inr (PrL.inr (PrL.inr (PrL.inr (PrL.inr (PrL.inl hL28))))))).trans (PrL.inr (PrL.inr (PrL.inr (PrL.inr (PrL.inr (PrL.inr (PrL.inl hL32)))))))).trans (PrL.inr (PrL.inr (PrL.inr (PrL.inr (PrL.inr (PrL.inr (PrL.inr (hL36)))))))))⟩
def mkMsg (u : MV) (k : Int) : MV := { u with tree := mkTV u.tree k, vec := mkIs u.vec (k + (cntTV u.tree.x : Int)), leaves := mkIs u.leaves (k + (cntTV u.tree.x : Int) + (cntIs u.vec.l : Int)), part := mkState u.part (k + (cntTV u.tree.x : Int) + (cntIs u.vec.l : Int) + (cntIs u.leaves.l : Int)), marks := mkFV u.marks (k + (cntTV u.tree.x : Int) + (cntIs u.vec.l : Int) + (cntIs u.leaves.l : Int) + (cntState u.part.x : Int)) }
theorem mkp_Msg (u : MV) (k : Int) : (pcMV (mkMsg u k)).map (·.p) = (pcMV u).map (·.p) :=
 map_app2 (mkp_TV _ _) (map_app2 (mkp_Is _ _) (map_app2 (mkp_Is _ _) (map_app2 (mkp_State _ _) (mkp_FV _ _))))
theorem uc_markMsg (u : MV) (k : Int) (st : St) (hO : OwnP st (pcMV u)) (hb : bigM u.x) (h0 : 0 ≤ k) (hk : k + (cntMsg u.x : Int) ≤ 137438953472) : C 32 [.agg #[vI u.kind, vI u.frm, vI u.to, vI u.num, vI u.hi, vS u.tree.p u.tree.l.length, vI u.tree.root, vS u.vec.p u.vec.l.length, vS u.leaves.p u.leaves.l.length, vS u.part.p u.part.x.items.length, vS u.part.q u.part.x.floors.length, vS u.marks.p u.marks.l.length], vI k] st (fun v s => v = vI (k + (cntMsg u.x : Int)) ∧ OwnP s (pcMV (mkMsg u k)) ∧ PrL ((pcMV u).map (·.p)) st s) := by
 have hc : cntMsg u.x = cntTV u.tree.x + cntIs u.vec.l + cntIs u.leaves.l + cntState u.part.x + cntFV u.marks.l := rfl
 refine AC.enterX (i := ⟨[2], [2, 5, 9, 13, 17, 21], [0, 1, 2, 4]⟩) [] Tryz.func32 rfl rfl (by kernel_rfl) (by kernel_rfl) Tryz.ntmps32 (Nat.le_of_ble_eq_true rfl) rfl ?_
 refine ⟨_, rfl, ?_⟩
 refine AW.cutM (1) st [(1, vI k), (2, vL 2 0 (0)), (4, vI (0))] [(2, 0, cMV u)] ⟨rfl, rfl, rfl, trivial⟩ ⟨rfl, trivial⟩ rfl fun ρ0 ff => ?_
 refine ⟨_, rfl, ?_⟩
 refine ⟨_, op_ldo rfl rfl rfl rfl, ?_⟩
 refine ⟨_, rfl, (uc_markTree u.tree k st (OwnP.left hO) hb.tree (by omega) (by omega)).mono ?_⟩
 rintro _ s8 ⟨rfl, hO8, hL8⟩
 refine AW.cutM (1) s8 [(1, vI (k + (cntTV u.tree.x : Int))), (2, vL 2 0 (0)), (4, vI (0))] [(2, 0, cMV u)] ⟨rfl, rfl, rfl, trivial⟩ ⟨rfl, trivial⟩ rfl fun ρ0 ff => ?_
 have hA8 : OwnP s8 (pcIs u.vec ++ (pcIs u.leaves ++ (pcS u.part ++ (pcFV u.marks ++ (pcTV (mkTV u.tree k)))))) := by
  have := (OwnP.markG hO hO8 (mkp_TV _ _) hL8).rot
  simpa only [List.append_assoc] using this
 refine ⟨_, rfl, ?_⟩
 refine ⟨_, op_ldo rfl rfl rfl rfl, ?_⟩
 refine ⟨_, rfl, (uc_markIntS u.vec (k + (cntTV u.tree.x : Int)) s8 (OwnP.left hA8) hb.vec (by omega) (by omega)).mono ?_⟩
 rintro _ s12 ⟨rfl, hO12, hL12⟩
 refine AW.cutM (1) s12 [(1, vI (k + (cntTV u.tree.x : Int) + (cntIs u.vec.l : Int))), (2, vL 2 0 (0)), (4, vI (0))] [(2, 0, cMV u)] ⟨rfl, rfl, rfl, trivial⟩ ⟨rfl, trivial⟩ rfl fun ρ0 ff => ?_
 have hA12 : OwnP s12 (pcIs u.leaves ++ (pcS u.part ++ (pcFV u.marks ++ (pcTV (mkTV u.tree k) ++ (pcIs (mkIs u.vec (k + (cntTV u.tree.x : Int)))))))) := by
  have := (OwnP.markG hA8 hO12 (mkp_Is _ _) hL12).rot
  simpa only [List.append_assoc] using this
 refine ⟨_, rfl, ?_⟩
 refine ⟨_, op_ldo rfl rfl rfl rfl, ?_⟩
 refine ⟨_, rfl, (uc_markIntS u.leaves (k + (cntTV u.tree.x : Int) + (cntIs u.vec.l : Int)) s12 (OwnP.left hA12) hb.leaves (by omega) (by omega)).mono ?_⟩
 rintro _ s16 ⟨rfl, hO16, hL16⟩
 refine AW.cutM (1) s16 [(1, vI (k + (cntTV u.tree.x : Int) + (cntIs u.vec.l : Int) + (cntIs u.leaves.l : Int))), (2, vL 2 0 (0)), (4, vI (0))] [(2, 0, cMV u)] ⟨rfl, rfl, rfl, trivial⟩ ⟨rfl, trivial⟩ rfl fun ρ0 ff => ?_
 have hA16 : OwnP s16 (pcS u.part ++ (pcFV u.marks ++ (pcTV (mkTV u.tree k) ++ (pcIs (mkIs u.vec (k + (cntTV u.tree.x : Int))) ++ (pcIs (mkIs u.leaves (k + (cntTV u.tree.x : Int) + (cntIs u.vec.l : Int)))))))) := by
  have := (OwnP.markG hA12 hO16 (mkp_Is _ _) hL16).rot
  simpa only [List.append_assoc] using this
 refine ⟨_, rfl, ?_⟩
 refine ⟨_, op_ldo rfl rfl rfl rfl, ?_⟩
 refine ⟨_, rfl, (uc_markState u.part (k + (cntTV u.tree.x : Int) + (cntIs u.vec.l : Int) + (cntIs u.leaves.l : Int)) s16 (OwnP.left hA16) hb.part (by omega) (by omega)).mono ?_⟩
 rintro _ s20 ⟨rfl, hO20, hL20⟩
 refine AW.cutM (1) s20 [(1, vI (k + (cntTV u.tree.x : Int) + (cntIs u.vec.l : Int) + (cntIs u.leaves.l : Int) + (cntState u.part.x : Int))), (2, vL 2 0 (0)), (4, vI (0))] [(2, 0, cMV u)] ⟨rfl, rfl, rfl, trivial⟩ ⟨rfl, trivial⟩ rfl fun ρ0 ff => ?_
 have hA20 : OwnP s20 (pcFV u.marks ++ (pcTV (mkTV u.tree k) ++ (pcIs (mkIs u.vec (k + (cntTV u.tree.x : Int))) ++ (pcIs (mkIs u.leaves (k + (cntTV u.tree.x : Int) + (cntIs u.vec.l : Int))) ++ (pcS (mkState u.part (k + (cntTV u.tree.x : Int) + (cntIs u.vec.l : Int) + (cntIs u.leaves.l : Int)))))))) := by
  have := (OwnP.markG hA16 hO20 (mkp_State _ _) hL20).rot
  simpa only [List.append_assoc] using this
 refine ⟨_, rfl, ?_⟩
 refine ⟨_, op_ldo rfl rfl rfl rfl, ?_⟩
 refine ⟨_, rfl, (uc_markMarkS u.marks (k + (cntTV u.tree.x : Int) + (cntIs u.vec.l : Int) + (cntIs u.leaves.l : Int) + (cntState u.part.x : Int)) s20 (OwnP.left hA20) hb.marks (by omega) (by omega)).mono ?_⟩
 rintro _ s24 ⟨rfl, hO24, hL24⟩
 refine cxs ?_
 have hA24 : OwnP s24 (pcTV (mkTV u.tree k) ++ (pcIs (mkIs u.vec (k + (cntTV u.tree.x : Int))) ++ (pcIs (mkIs u.leaves (k + (cntTV u.tree.x : Int) + (cntIs u.vec.l : Int))) ++ (pcS (mkState u.part (k + (cntTV u.tree.x : Int) + (cntIs u.vec.l : Int) + (cntIs u.leaves.l : Int))) ++ (pcFV (mkFV u.marks (k + (cntTV u.tree.x : Int) + (cntIs u.vec.l : Int) + (cntIs u.leaves.l : Int) + (cntState u.part.x : Int)))))))) := by
  have := (OwnP.markG hA20 hO24 (mkp_FV _ _) hL24).rot
  simpa only [List.append_assoc] using this
 refine cxs ?_
 exact ⟨.inl rfl, _, rfl, congrArg vI (by rw [hc]; omega), hA24, (((((PrL.inl hL8).trans (PrL.inr (PrL.inl hL12))).trans (PrL.inr (PrL.inr (PrL.inl hL16)))).trans (PrL.inr (PrL.inr (PrL.inr (PrL.inl hL20))))).trans (PrL.inr (PrL.inr (PrL.inr (PrL.inr (hL24))))))⟩
theorem uc_heldMsg (u : MV) (k : Int) (st : St) (hO : OwnP st (pcMV (mkMsg u k))) (hb : bigM u.x) (h0 : 0 ≤ k) (hk : k + (cntMsg u.x : Int) ≤ 137438953472) : C 33 [.agg #[vI u.kind, vI u.frm, vI u.to, vI u.num, vI u.hi, vS u.tree.p u.tree.l.length, vI u.tree.root, vS u.vec.p u.vec.l.length, vS u.leaves.p u.leaves.l.length, vS u.part.p u.part.x.items.length, vS u.part.q u.part.x.floors.length, vS u.marks.p u.marks.l.length], vI k] st (fun v s => v = vI (k + (cntMsg u.x : Int)) ∧ Pres st s) := by
 have hc : cntMsg u.x = cntTV u.tree.x + cntIs u.vec.l + cntIs u.leaves.l + cntState u.part.x + cntFV u.marks.l := rfl
 refine AC.enterX (i := ⟨[2], [2, 5, 11, 17, 23, 29], [0, 1, 2, 4, 10, 16, 22, 28, 34]⟩) [] Tryz.func33 rfl rfl (by kernel_rfl) (by kernel_rfl) Tryz.ntmps33 (Nat.le_of_ble_eq_true rfl) rfl ?_
 refine ⟨_, rfl, ?_⟩
 refine AW.cutM (1) st [(1, vI k), (2, vL 2 0 (0)), (4, vI (0))] [(2, 0, cMV u)] ⟨rfl, rfl, rfl, trivial⟩ ⟨rfl, trivial⟩ rfl fun ρ0 ff => ?_
 refine ⟨_, rfl, ?_⟩
 refine ⟨_, op_ldo rfl rfl rfl rfl, ?_⟩
 refine ⟨_, rfl, (uc_heldTree u.tree k st (OwnP.rdTV (OwnP.left hO)) hb.tree (by omega) (by omega)).mono ?_⟩
 rintro _ s8 ⟨rfl, hP8⟩
 refine AW.cutM (1) s8 [(1, vI (k + (cntTV u.tree.x : Int))), (2, vL 2 0 (0)), (4, vI (0))] [(2, 0, cMV u)] ⟨rfl, rfl, rfl, trivial⟩ ⟨rfl, trivial⟩ rfl fun ρ0 ff => ?_
 refine ⟨_, rfl, ?_⟩
 rintro (_|_) h10
 rotate_left
 ·exact absurd (of_decide_eq_true h10) ((by omega))
 refine AW.cutM (1) s8 [(1, vI (k + (cntTV u.tree.x : Int))), (2, vL 2 0 (0)), (4, vI (0)), (10, vB false)] [(2, 0, cMV u)] ⟨rfl, rfl, rfl, rfl, trivial⟩ ⟨rfl, trivial⟩ rfl fun ρ0 ff => ?_
 refine cxs ?_
 refine ⟨_, rfl, ?_⟩
 refine ⟨_, op_ldo rfl rfl rfl rfl, ?_⟩
 refine ⟨_, rfl, (uc_heldIntS u.vec (k + (cntTV u.tree.x : Int)) s8 (OwnP.rdIs (OwnP.left (OwnP.right (hO.pres hP8)))) hb.vec (by omega) (by omega)).mono ?_⟩
 rintro _ s14 ⟨rfl, hP14⟩
 refine AW.cutM (1) s14 [(1, vI (k + (cntTV u.tree.x : Int) + (cntIs u.vec.l : Int))), (2, vL 2 0 (0)), (4, vI (0))] [(2, 0, cMV u)] ⟨rfl, rfl, rfl, trivial⟩ ⟨rfl, trivial⟩ rfl fun ρ0 ff => ?_
 have hQ14 : Pres st s14 := hP8.trans hP14
 refine ⟨_, rfl, ?_⟩
 rintro (_|_) h16
 rotate_left
 ·exact absurd (of_decide_eq_true h16) ((by omega))
 refine AW.cutM (1) s14 [(1, vI (k + (cntTV u.tree.x : Int) + (cntIs u.vec.l : Int))), (2, vL 2 0 (0)), (4, vI (0)), (16, vB false)] [(2, 0, cMV u)] ⟨rfl, rfl, rfl, rfl, trivial⟩ ⟨rfl, trivial⟩ rfl fun ρ0 ff => ?_
 refine cxs ?_
 refine ⟨_, rfl, ?_⟩
 refine ⟨_, op_ldo rfl rfl rfl rfl, ?_⟩
 refine ⟨_, rfl, (uc_heldIntS u.leaves (k + (cntTV u.tree.x : Int) + (cntIs u.vec.l : Int)) s14 (OwnP.rdIs (OwnP.left (OwnP.right (OwnP.right (hO.pres hQ14))))) hb.leaves (by omega) (by omega)).mono ?_⟩
 rintro _ s20 ⟨rfl, hP20⟩
 refine AW.cutM (1) s20 [(1, vI (k + (cntTV u.tree.x : Int) + (cntIs u.vec.l : Int) + (cntIs u.leaves.l : Int))), (2, vL 2 0 (0)), (4, vI (0))] [(2, 0, cMV u)] ⟨rfl, rfl, rfl, trivial⟩ ⟨rfl, trivial⟩ rfl fun ρ0 ff => ?_
 have hQ20 : Pres st s20 := hQ14.trans hP20
 refine ⟨_, rfl, ?_⟩
 rintro (_|_) h22
 rotate_left
 ·exact absurd (of_decide_eq_true h22) ((by omega))
 refine AW.cutM (1) s20 [(1, vI (k + (cntTV u.tree.x : Int) + (cntIs u.vec.l : Int) + (cntIs u.leaves.l : Int))), (2, vL 2 0 (0)), (4, vI (0)), (22, vB false)] [(2, 0, cMV u)] ⟨rfl, rfl, rfl, rfl, trivial⟩ ⟨rfl, trivial⟩ rfl fun ρ0 ff => ?_
 refine cxs ?_
 refine ⟨_, rfl, ?_⟩
 refine ⟨_, op_ldo rfl rfl rfl rfl, ?_⟩
 refine ⟨_, rfl, (uc_heldState u.part (k + (cntTV u.tree.x : Int) + (cntIs u.vec.l : Int) + (cntIs u.leaves.l : Int)) s20 (OwnP.rdS (OwnP.left (OwnP.right (OwnP.right (OwnP.right (hO.pres hQ20)))))) hb.part (by omega) (by omega)).mono ?_⟩
 rintro _ s26 ⟨rfl, hP26⟩
 refine AW.cutM (1) s26 [(1, vI (k + (cntTV u.tree.x : Int) + (cntIs u.vec.l : Int) + (cntIs u.leaves.l : Int) + (cntState u.part.x : Int))), (2, vL 2 0 (0)), (4, vI (0))] [(2, 0, cMV u)] ⟨rfl, rfl, rfl, trivial⟩ ⟨rfl, trivial⟩ rfl fun ρ0 ff => ?_
 have hQ26 : Pres st s26 := hQ20.trans hP26
 refine ⟨_, rfl, ?_⟩
 rintro (_|_) h28
 rotate_left
 ·exact absurd (of_decide_eq_true h28) ((by omega))
 refine AW.cutM (1) s26 [(1, vI (k + (cntTV u.tree.x : Int) + (cntIs u.vec.l : Int) + (cntIs u.leaves.l : Int) + (cntState u.part.x : Int))), (2, vL 2 0 (0)), (4, vI (0)), (28, vB false)] [(2, 0, cMV u)] ⟨rfl, rfl, rfl, rfl, trivial⟩ ⟨rfl, trivial⟩ rfl fun ρ0 ff => ?_
 refine cxs ?_
 refine ⟨_, rfl, ?_⟩
 refine ⟨_, op_ldo rfl rfl rfl rfl, ?_⟩
 refine ⟨_, rfl, (uc_heldMarkS u.marks (k + (cntTV u.tree.x : Int) + (cntIs u.vec.l : Int) + (cntIs u.leaves.l : Int) + (cntState u.part.x : Int)) s26 (OwnP.rdFV (OwnP.right (OwnP.right (OwnP.right (OwnP.right (hO.pres hQ26)))))) hb.marks (by omega) (by omega)).mono ?_⟩
 rintro _ s32 ⟨rfl, hP32⟩
 refine AW.cutM (1) s32 [(1, vI (k + (cntTV u.tree.x : Int) + (cntIs u.vec.l : Int) + (cntIs u.leaves.l : Int) + (cntState u.part.x : Int) + (cntFV u.marks.l : Int))), (4, vI (0))] [] ⟨rfl, rfl, trivial⟩ trivial rfl fun ρ0 ff => ?_
 have hQ32 : Pres st s32 := hQ26.trans hP32
 refine ⟨_, rfl, ?_⟩
 rintro (_|_) h34
 rotate_left
 ·exact absurd (of_decide_eq_true h34) ((by omega))
 refine AW.cutM (1) s32 [(1, vI (k + (cntTV u.tree.x : Int) + (cntIs u.vec.l : Int) + (cntIs u.leaves.l : Int) + (cntState u.part.x : Int) + (cntFV u.marks.l : Int))), (4, vI (0)), (34, vB false)] [] ⟨rfl, rfl, rfl, trivial⟩ trivial rfl fun ρ0 ff => ?_
 refine cxs ?_
 refine cxs ?_
 exact ⟨.inl rfl, _, rfl, congrArg vI (by rw [hc]; omega), hQ32⟩
theorem bigNW {u : NW} (h : bigN u.x) : bigN u.v.x := h
theorem ship1_big {x : Nd} {n : Int} (hb : bigN x) : bigS (ship1 x n).1 := by
 unfold ship1
 split
 ·unfold sinceF
  split
  ·exact bigS_joinL fun s hs => hb.g.2 s (List.mem_of_mem_drop hs)
  ·exact bigS_nil
 ·exact hb.s
theorem zMg_big : bigM zMg := ⟨Nat.zero_le _, Nat.zero_le _, Nat.zero_le _, bigS_nil, Nat.zero_le _⟩
theorem push_big {x : Nd} {to : Int} {u : Mg} {b : Bool} (h : (u, b) = pushF x to) (hb : bigN x) : bigM u := by
 have h1 : u = (pushF x to).1 := congrArg Prod.fst h
 rw [h1]
 unfold pushF
 split
 ·refine ⟨Nat.zero_le _, hb.got, Nat.zero_le _, ship1_big hb, ?_⟩
  have := marksF_len (goneAt x.s) 5
  show (marksF (goneAt x.s) 5).length ≤ 1048576
  omega
 ·exact zMg_big
theorem bigM_cnt {u : Mg} (h : bigM u) : cntMsg u ≤ 16777216 := by
 have h1 := cnt_State h.part
 have h2 : u.tree.leaves.length ≤ 1048576 := h.tree
 have h3 : u.vec.length ≤ 1048576 := h.vec
 have h4 : u.leaves.length ≤ 1048576 := h.leaves
 have h5 : u.marks.length ≤ 1048576 := h.marks
 unfold cntMsg
 unfold cntState at h1
 omega
theorem ac_laws_FnExactPush (g : NV) (n : Int) (st : St) (hR_g : RdN st g ∧ maxN g) (hw_n : (Lit.int .i64 n).wf = true) : C 7 [.agg #[vI g.id, vI g.n, vS g.s.p g.s.x.items.length, vS g.s.q g.s.x.floors.length, vS g.t.p g.t.l.length, vI g.t.root, vI g.g.cap, vI g.g.frm, vS g.g.p g.g.l.length, vS g.got.p g.got.l.length, vS g.acked.p g.acked.l.length, vS g.seen.p g.seen.t.length, vI g.num, vI g.slots, vS g.sess.p g.sess.l.length, vI g.wait, vI g.limit, vI g.clock, vS g.rises.p g.rises.l.length], vI n] st (fun v s => v = vB true) := by
 refine AC.enterX (i := ⟨[2, 6, 8, 9, 14], [2, 6, 8, 9, 14], [0, 1, 2, 4, 5, 6, 7, 8, 9, 10, 11, 12, 13, 14, 15, 20, 44, 49, 65, 73, 76, 92, 97, 100]⟩) [(10, [2], [0])] Tryz.func7 rfl rfl (by kernel_rfl) (by kernel_rfl) Tryz.ntmps7 (Nat.le_of_ble_eq_true rfl) rfl ?_
 refine ⟨_, rfl, ?_⟩
 refine cxs ?_
 refine AW.cutM (1) st [(1, vI n), (2, vL 2 0 (0)), (4, vB false), (5, vI (1048576))] [(2, 0, cNV g)] ⟨rfl, rfl, rfl, rfl, trivial⟩ ⟨rfl, trivial⟩ rfl fun ρ0 ff => ?_
 refine ⟨_, op_ldo (v := (vNV g)) rfl rfl rfl rfl, ?_⟩
 refine ⟨_, rfl, (ac_laws_szNode g 1048576 st hR_g.1 (by decide) (by decide) hR_g.2).mono ?_⟩
 rintro _ st ⟨z_g, rfl, hr_g, hz_g, rfl⟩
 refine AW.cutM (1) st [(1, vI n), (2, vL 2 0 (0)), (4, vB false), (5, vI z_g)] [(2, 0, cNV g)] ⟨rfl, rfl, rfl, rfl, trivial⟩ ⟨rfl, trivial⟩ rfl fun ρ0 ff => ?_
 refine ⟨_, rfl, ?_⟩
 rintro (_|_) hn_g
 ·replace hn_g : ¬ (z_g < 0) := of_decide_eq_false hn_g
  refine AW.cutM (1) st [(1, vI n), (2, vL 2 0 (0)), (4, vB false), (20, vB false)] [(2, 0, cNV g)] ⟨rfl, rfl, rfl, rfl, trivial⟩ ⟨rfl, trivial⟩ rfl fun ρ0 ff => ?_
  have hz_g' := hz_g (by omega)
  have hb_g := sz_bigN (v := g) (by omega)
  have hc_g : cntNode g.x ≤ 8388608 := (cnt_Node (v := g) (by omega))
  refine cxs ?_
  refine ⟨_, op_ldo (v := (vNV g)) rfl rfl rfl rfl, ?_⟩
  refine ⟨_, rfl, (ac_laws_toNode g st hR_g.1 hb_g).mono ?_⟩
  rintro _ s1 ⟨u1, rfl, hu1, hO1, hN1, hP1⟩
  refine ⟨_, rfl, (ac_spec_Push u1.v n s1 (OwnP.rdN (OwnP.left (OwnP.joinF OwnP.nil hP1 hO1 hN1))) (bigNW (hu1 ▸ hb_g))).mono ?_⟩
  rintro _ s2 ⟨r2, b2, rfl, hr2, hO2, hN2, hP2⟩
  iterate 4 refine ⟨_, rfl, ?_⟩
  refine AW.cutM (2) s2 [(1, vI n), (2, vL 2 0 (0)), (4, vB false), (6, vL 6 0 (1)), (7, vB b2)] [(2, 0, cNV g), (6, 1, cMV r2)] ⟨rfl, rfl, rfl, rfl, rfl, trivial⟩ ⟨rfl, rfl, trivial⟩ rfl fun ρ0 ff => ?_
  have hA5 : OwnP s2 (pcMV r2 ++ (pcNW u1 ++ [])) := (OwnP.joinF (OwnP.joinF OwnP.nil hP1 hO1 hN1) hP2 hO2 hN2)
  have hQ5 : Pres st s2 := (hP1.trans hP2)
  refine ⟨_, op_ldo (v := (vNV g)) rfl rfl rfl rfl, ?_⟩
  refine ⟨_, rfl, (ac_laws_toNode g s2 (hR_g.1.pres hQ5) hb_g).mono ?_⟩
  rintro _ s3 ⟨u3, rfl, hu3, hO3, hN3, hP3⟩
  refine ⟨_, rfl, ?_⟩
  refine ⟨_, op_stw (vs := cNV u3.v) rfl rfl rfl rfl rfl rfl rfl rfl, ?_⟩
  refine AW.cutM (3) s3 [(1, vI n), (2, vL 2 0 (0)), (4, vB false), (6, vL 6 0 (1)), (7, vB b2), (8, vL 8 0 (2))] [(2, 0, cNV g), (6, 1, cMV r2), (8, 2, cNV u3.v)] ⟨rfl, rfl, rfl, rfl, rfl, rfl, trivial⟩ ⟨rfl, rfl, rfl, trivial⟩ rfl fun ρ0 ff => ?_
  have hA6 : OwnP s3 (pcNW u3 ++ (pcMV r2 ++ (pcNW u1 ++ []))) := (OwnP.joinF hA5 hP3 hO3 hN3)
  have hQ6 : Pres st s3 := (hQ5.trans hP3)
  refine ⟨_, op_ldo (v := (vNV u3.v)) rfl rfl rfl rfl, ?_⟩
  refine ⟨_, rfl, (ac_impl_Push u3.v n s3 (OwnP.rdN (OwnP.left hA6)) (bigNW (hu3 ▸ hb_g))).mono ?_⟩
  rintro _ s4 ⟨r4, b4, rfl, hr4, hO4, hN4, hP4⟩
  iterate 4 refine ⟨_, rfl, ?_⟩
  refine AW.cutM (4) s4 [(1, vI n), (2, vL 2 0 (0)), (4, vB false), (6, vL 6 0 (1)), (7, vB b2), (8, vL 8 0 (2)), (9, vL 9 0 (3)), (10, vB b4)] [(2, 0, cNV g), (6, 1, cMV r2), (8, 2, cNV u3.v), (9, 3, cMV r4)] ⟨rfl, rfl, rfl, rfl, rfl, rfl, rfl, rfl, trivial⟩ ⟨rfl, rfl, rfl, rfl, trivial⟩ rfl fun ρ0 ff => ?_
  have hA7 : OwnP s4 (pcMV r4 ++ (pcNW u3 ++ (pcMV r2 ++ (pcNW u1 ++ [])))) := (OwnP.joinF hA6 hP4 hO4 hN4)
  have hQ7 : Pres st s4 := (hQ6.trans hP4)
  have hE1 : (r4.x, b4) = (r2.x, b2) := by rw [hr4, hr2, show u3.v.x = _ from hu3, show u1.v.x = _ from hu1]
  iterate 2 refine ⟨_, rfl, ?_⟩
  refine ⟨_, rfl, (AC.tru (ac_laws_eqMsg r4 r2 s4 (OwnP.rdM (OwnP.left hA7)) (OwnP.rdM (OwnP.left (OwnP.right (OwnP.right hA7)))) (push_big hr4 (bigNW (hu3 ▸ hb_g)))) ((Prod.mk.inj hE1).1)).mono ?_⟩
  rintro _ s4 ⟨rfl, rfl⟩
  iterate 2 refine ⟨_, rfl, ?_⟩
  rintro (_|_) he5
  rotate_left
  ·exact absurd (((Prod.mk.inj hE1).2)) (b_ne he5)
  refine ⟨_, rfl, ?_⟩
  refine AW.cutM (4) s4 [(1, vI n), (2, vL 2 0 (0)), (4, vB false), (6, vL 6 0 (1)), (7, vB b2), (8, vL 8 0 (2)), (9, vL 9 0 (3)), (10, vB b4), (44, vB false)] [(2, 0, cNV g), (6, 1, cMV r2), (8, 2, cNV u3.v), (9, 3, cMV r4)] ⟨rfl, rfl, rfl, rfl, rfl, rfl, rfl, rfl, rfl, trivial⟩ ⟨rfl, rfl, rfl, rfl, trivial⟩ rfl fun ρ0 ff => ?_
  refine cxs ?_
  refine ⟨_, op_ldo (v := (vNV u3.v)) rfl rfl rfl rfl, ?_⟩
  refine ⟨ld_own rfl rfl rfl, ?_⟩
  refine ⟨_, op_ldo (v := (vNV g)) rfl rfl rfl rfl, ?_⟩
  refine ⟨_, rfl, (ac_laws_toNode g s4 (hR_g.1.pres hQ7) hb_g).mono ?_⟩
  rintro _ s6 ⟨u6, rfl, hu6, hO6, hN6, hP6⟩
  refine ⟨hP6.2, ?_⟩
  refine ⟨_, rfl, (AC.tru (uc_eqNode u3 u6 s6 (OwnP.rdN (OwnP.left (OwnP.right (OwnP.right (OwnP.joinF hA7 hP6 hO6 hN6))))) (OwnP.rdN (OwnP.left (OwnP.joinF hA7 hP6 hO6 hN6))) (hu3 ▸ hb_g)) (hu3.trans hu6.symm)).mono ?_⟩
  rintro _ s6 ⟨rfl, rfl⟩
  refine ⟨_, rfl, ?_⟩
  refine AW.cutM (4) s6 [(1, vI n), (2, vL 2 0 (0)), (4, vB false), (6, vL 6 0 (1)), (7, vB b2), (8, vL 8 0 (2)), (9, vL 9 0 (3)), (10, vB b4), (49, vB false)] [(2, 0, cNV g), (6, 1, cMV r2), (8, 2, cNV u3.v), (9, 3, cMV r4)] ⟨rfl, rfl, rfl, rfl, rfl, rfl, rfl, rfl, rfl, trivial⟩ ⟨rfl, rfl, rfl, rfl, trivial⟩ rfl fun ρ0 ff => ?_
  have hA10 : OwnP s6 (pcNW u6 ++ (pcMV r4 ++ (pcNW u3 ++ (pcMV r2 ++ (pcNW u1 ++ []))))) := (OwnP.joinF hA7 hP6 hO6 hN6)
  have hQ10 : Pres st s6 := (hQ7.trans hP6)
  refine cxs ?_
  refine AW.cutM (4) s6 [(1, vI n), (2, vL 2 0 (0)), (4, vB false), (6, vL 6 0 (1)), (7, vB b2), (8, vL 8 0 (2)), (9, vL 9 0 (3)), (10, vB b4), (11, vI (1))] [(2, 0, cNV g), (6, 1, cMV r2), (8, 2, cNV u3.v), (9, 3, cMV r4)] ⟨rfl, rfl, rfl, rfl, rfl, rfl, rfl, rfl, rfl, trivial⟩ ⟨rfl, rfl, rfl, rfl, trivial⟩ rfl fun ρ0 ff => ?_
  refine ⟨_, op_ldo (v := (vNV u3.v)) rfl rfl rfl rfl, ?_⟩
  have hM7 := (OwnP.front2 hA10)
  have hNw7 := newPs (hN3.le ((hP1.trans hP2)).1)
  have hcm7 : cntNode u3.x ≤ 8388608 := by rw [hu3]; exact hc_g
  refine ⟨_, rfl, (uc_markNode u3 1 s6 (OwnP.left hM7) (hu3 ▸ hb_g) (by omega) (by omega)).mono ?_⟩
  rintro _ s7 ⟨rfl, hO7, hL7⟩
  refine AW.cutM (4) s7 [(1, vI n), (2, vL 2 0 (0)), (4, vB false), (6, vL 6 0 (1)), (7, vB b2), (9, vL 9 0 (3)), (10, vB b4), (11, vI (1 + (cntNode u3.x : Int)))] [(2, 0, cNV g), (6, 1, cMV r2), (9, 3, cMV r4)] ⟨rfl, rfl, rfl, rfl, rfl, rfl, rfl, rfl, trivial⟩ ⟨rfl, rfl, rfl, trivial⟩ rfl fun ρ0 ff => ?_
  have hA13 : OwnP s7 (pcNW (mkNode u3 1) ++ _) := OwnP.markG hM7 hO7 (mkp_Node _ _) hL7
  have hQ13 : Pres st s7 := hL7.pres hQ10 hNw7
  refine ⟨_, rfl, ?_⟩
  rintro (_|_) hg8
  rotate_left
  ·exact absurd (of_decide_eq_true hg8) ((by omega))
  iterate 2 refine ⟨_, rfl, ?_⟩
  refine ⟨_, rfl, (AC.tru (ac_laws_eqMsg r4 r2 s7 (OwnP.rdM (OwnP.left (OwnP.right (OwnP.right hA13)))) (OwnP.rdM (OwnP.left (OwnP.right (OwnP.right (OwnP.right hA13))))) (push_big hr4 (bigNW (hu3 ▸ hb_g)))) ((Prod.mk.inj hE1).1)).mono ?_⟩
  rintro _ s7 ⟨rfl, rfl⟩
  iterate 3 refine ⟨_, rfl, ?_⟩
  rintro (_|_) he9
  rotate_left
  ·exact absurd (((Prod.mk.inj hE1).2)) (b_ne he9)
  refine ⟨_, rfl, ?_⟩
  refine AW.cutM (4) s7 [(1, vI n), (2, vL 2 0 (0)), (4, vB false), (6, vL 6 0 (1)), (7, vB b2), (9, vL 9 0 (3)), (65, vB false)] [(2, 0, cNV g), (6, 1, cMV r2), (9, 3, cMV r4)] ⟨rfl, rfl, rfl, rfl, rfl, rfl, rfl, trivial⟩ ⟨rfl, rfl, rfl, trivial⟩ rfl fun ρ0 ff => ?_
  refine cxs ?_
  refine AW.cutM (4) s7 [(1, vI n), (2, vL 2 0 (0)), (4, vB false), (6, vL 6 0 (1)), (7, vB b2), (9, vL 9 0 (3)), (12, vI (1))] [(2, 0, cNV g), (6, 1, cMV r2), (9, 3, cMV r4)] ⟨rfl, rfl, rfl, rfl, rfl, rfl, rfl, trivial⟩ ⟨rfl, rfl, rfl, trivial⟩ rfl fun ρ0 ff => ?_
  refine ⟨_, rfl, ?_⟩
  have hM10 := (OwnP.front2 hA13)
  have hNw10 := newPs (hN4.le (((hP1.trans hP2).trans hP3)).1)
  have hcm10 : cntMsg r4.x ≤ 16777216 := bigM_cnt (push_big hr4 (bigNW (hu3 ▸ hb_g)))
  refine ⟨_, rfl, (uc_markMsg r4 1 s7 (OwnP.left hM10) (push_big hr4 (bigNW (hu3 ▸ hb_g))) (by omega) (by omega)).mono ?_⟩
  rintro _ s10 ⟨rfl, hO10, hL10⟩
  refine cxs ?_
  have hA17 : OwnP s10 (pcMV (mkMsg r4 1) ++ _) := OwnP.markG hM10 hO10 (mkp_Msg _ _) hL10
  have hQ17 : Pres st s10 := hL10.pres hQ13 hNw10
  refine AW.cutM (4) s10 [(1, vI n), (2, vL 2 0 (0)), (4, vB false), (6, vL 6 0 (1)), (7, vB b2), (9, vL 9 0 (3)), (12, vI (1 + (cntMsg r4.x : Int))), (13, vI (1))] [(2, 0, cNV g), (6, 1, cMV r2), (9, 3, cMV r4)] ⟨rfl, rfl, rfl, rfl, rfl, rfl, rfl, rfl, trivial⟩ ⟨rfl, rfl, rfl, trivial⟩ rfl fun ρ0 ff => ?_
  refine ⟨_, rfl, ?_⟩
  refine ⟨_, rfl, (uc_heldMsg r4 1 s10 (OwnP.left hA17) (push_big hr4 (bigNW (hu3 ▸ hb_g))) (by decide) (by omega)).mono ?_⟩
  rintro _ s11 ⟨rfl, hP11⟩
  refine AW.cutM (4) s11 [(1, vI n), (2, vL 2 0 (0)), (4, vB false), (6, vL 6 0 (1)), (7, vB b2), (9, vL 9 0 (3)), (12, vI (1 + (cntMsg r4.x : Int))), (13, vI (1 + (cntMsg r4.x : Int)))] [(2, 0, cNV g), (6, 1, cMV r2), (9, 3, cMV r4)] ⟨rfl, rfl, rfl, rfl, rfl, rfl, rfl, rfl, trivial⟩ ⟨rfl, rfl, rfl, trivial⟩ rfl fun ρ0 ff => ?_
  have hA19 : OwnP s11 (pcMV (mkMsg r4 1) ++ (pcNW (mkNode u3 1) ++ (pcNW u6 ++ (pcMV r2 ++ (pcNW u1 ++ []))))) := (OwnP.pres hA17 hP11)
  have hQ19 : Pres st s11 := (hQ17.trans hP11)
  refine ⟨_, rfl, ?_⟩
  rintro (_|_) hg12
  rotate_left
  ·exact absurd (of_decide_eq_true hg12) ((by omega))
  refine AW.cutM (4) s11 [(1, vI n), (2, vL 2 0 (0)), (4, vB false), (6, vL 6 0 (1)), (7, vB b2), (9, vL 9 0 (3)), (12, vI (1 + (cntMsg r4.x : Int))), (13, vI (1 + (cntMsg r4.x : Int))), (73, vB false)] [(2, 0, cNV g), (6, 1, cMV r2), (9, 3, cMV r4)] ⟨rfl, rfl, rfl, rfl, rfl, rfl, rfl, rfl, rfl, trivial⟩ ⟨rfl, rfl, rfl, trivial⟩ rfl fun ρ0 ff => ?_
  refine cxs ?_
  refine ⟨_, rfl, ?_⟩
  rintro (_|_) hg13
  rotate_left
  ·exact absurd (rfl) (bne_iff_ne.1 hg13)
  refine AW.cutM (4) s11 [(1, vI n), (2, vL 2 0 (0)), (4, vB false), (6, vL 6 0 (1)), (7, vB b2), (9, vL 9 0 (3)), (12, vI (1 + (cntMsg r4.x : Int))), (13, vI (1 + (cntMsg r4.x : Int))), (76, vB false)] [(2, 0, cNV g), (6, 1, cMV r2), (9, 3, cMV r4)] ⟨rfl, rfl, rfl, rfl, rfl, rfl, rfl, rfl, rfl, trivial⟩ ⟨rfl, rfl, rfl, trivial⟩ rfl fun ρ0 ff => ?_
  refine cxs ?_
  refine ⟨_, op_ldo (v := (vNV g)) rfl rfl rfl rfl, ?_⟩
  refine ⟨_, rfl, (ac_laws_toNode g s11 (hR_g.1.pres hQ19) hb_g).mono ?_⟩
  rintro _ s14 ⟨u14, rfl, hu14, hO14, hN14, hP14⟩
  refine ⟨_, rfl, (ac_impl_Push u14.v n s14 (OwnP.rdN (OwnP.left (OwnP.joinF hA19 hP14 hO14 hN14))) (bigNW (hu14 ▸ hb_g))).mono ?_⟩
  rintro _ s15 ⟨r15, b15, rfl, hr15, hO15, hN15, hP15⟩
  iterate 4 refine ⟨_, rfl, ?_⟩
  refine AW.cutM (5) s15 [(4, vB false), (6, vL 6 0 (1)), (7, vB b2), (9, vL 9 0 (3)), (12, vI (1 + (cntMsg r4.x : Int))), (13, vI (1 + (cntMsg r4.x : Int))), (14, vL 14 0 (4)), (15, vB b15)] [(6, 1, cMV r2), (9, 3, cMV r4), (14, 4, cMV r15)] ⟨rfl, rfl, rfl, rfl, rfl, rfl, rfl, rfl, trivial⟩ ⟨rfl, rfl, rfl, trivial⟩ rfl fun ρ0 ff => ?_
  have hA24 : OwnP s15 (pcMV r15 ++ (pcNW u14 ++ (pcMV (mkMsg r4 1) ++ (pcNW (mkNode u3 1) ++ (pcNW u6 ++ (pcMV r2 ++ (pcNW u1 ++ []))))))) := (OwnP.joinF (OwnP.joinF hA19 hP14 hO14 hN14) hP15 hO15 hN15)
  have hQ24 : Pres st s15 := ((hQ19.trans hP14).trans hP15)
  have hE2 : (r15.x, b15) = (r2.x, b2) := by rw [hr15, hr2, show u14.v.x = _ from hu14, show u1.v.x = _ from hu1]
  iterate 2 refine ⟨_, rfl, ?_⟩
  refine ⟨_, rfl, (AC.tru (ac_laws_eqMsg r15 r2 s15 (OwnP.rdM (OwnP.left hA24)) (OwnP.rdM (OwnP.left (OwnP.right (OwnP.right (OwnP.right (OwnP.right (OwnP.right hA24))))))) (push_big hr15 (bigNW (hu14 ▸ hb_g)))) ((Prod.mk.inj hE2).1)).mono ?_⟩
  rintro _ s15 ⟨rfl, rfl⟩
  iterate 2 refine ⟨_, rfl, ?_⟩
  rintro (_|_) he16
  rotate_left
  ·exact absurd (((Prod.mk.inj hE2).2)) (b_ne he16)
  refine ⟨_, rfl, ?_⟩
  refine AW.cutM (5) s15 [(4, vB false), (9, vL 9 0 (3)), (12, vI (1 + (cntMsg r4.x : Int))), (13, vI (1 + (cntMsg r4.x : Int))), (92, vB false)] [(9, 3, cMV r4)] ⟨rfl, rfl, rfl, rfl, rfl, trivial⟩ ⟨rfl, trivial⟩ rfl fun ρ0 ff => ?_
  refine cxs ?_
  refine AW.cutM (5) s15 [(4, vB false), (9, vL 9 0 (3)), (12, vI (1 + (cntMsg r4.x : Int))), (13, vI (1))] [(9, 3, cMV r4)] ⟨rfl, rfl, rfl, rfl, trivial⟩ ⟨rfl, trivial⟩ rfl fun ρ0 ff => ?_
  refine ⟨_, rfl, ?_⟩
  refine ⟨_, rfl, (uc_heldMsg r4 1 s15 (OwnP.left (OwnP.right (OwnP.right hA24))) (push_big hr4 (bigNW (hu3 ▸ hb_g))) (by decide) (by omega)).mono ?_⟩
  rintro _ s17 ⟨rfl, hP17⟩
  refine AW.cutM (5) s17 [(4, vB false), (12, vI (1 + (cntMsg r4.x : Int))), (13, vI (1 + (cntMsg r4.x : Int)))] [] ⟨rfl, rfl, rfl, trivial⟩ trivial rfl fun ρ0 ff => ?_
  have hA28 : OwnP s17 (pcMV r15 ++ (pcNW u14 ++ (pcMV (mkMsg r4 1) ++ (pcNW (mkNode u3 1) ++ (pcNW u6 ++ (pcMV r2 ++ (pcNW u1 ++ []))))))) := (OwnP.pres hA24 hP17)
  have hQ28 : Pres st s17 := (hQ24.trans hP17)
  refine ⟨_, rfl, ?_⟩
  rintro (_|_) hg18
  rotate_left
  ·exact absurd (of_decide_eq_true hg18) ((by omega))
  refine AW.cutM (5) s17 [(4, vB false), (12, vI (1 + (cntMsg r4.x : Int))), (13, vI (1 + (cntMsg r4.x : Int))), (97, vB false)] [] ⟨rfl, rfl, rfl, rfl, trivial⟩ trivial rfl fun ρ0 ff => ?_
  refine cxs ?_
  refine ⟨_, rfl, ?_⟩
  rintro (_|_) hg19
  rotate_left
  ·exact absurd (rfl) (bne_iff_ne.1 hg19)
  refine AW.cutM (5) s17 [(4, vB false), (100, vB false)] [] ⟨rfl, rfl, trivial⟩ trivial rfl fun ρ0 ff => ?_
  refine cxs ?_
  refine cxs ?_
  exact ⟨.inl rfl, _, rfl, rfl⟩
 ·replace hn_g : z_g < 0 := of_decide_eq_true hn_g
  refine AW.cutM (1) st [(1, vI n), (2, vL 2 0 (0)), (4, vB false), (20, vB true)] [(2, 0, cNV g)] ⟨rfl, rfl, rfl, rfl, trivial⟩ ⟨rfl, trivial⟩ rfl fun ρ0 ff => ?_
  refine cxs ?_
  exact ⟨.inl rfl, _, rfl, rfl⟩
end Go.Proofs.YtbogbnjnjjhnbaaGreat.AM
