/- The join of states: plain facts. -/
import Derived.Test.YtopcpcoklgepnaaJ2
namespace Go.Proofs.Ytopcpcoklgepnaa.AM
open Go Go.Proofs
set_option linter.unusedVariables false
set_option linter.unusedSimpArgs false
set_option maxRecDepth 100000
set_option maxHeartbeats 4000000
/-- What is picked out of the first numbers, one after another. -/
theorem pick_get {β : Type} {f : Nat → Option β} {n i : Nat} {x : β} (h : ((List.range n).filterMap f)[i]? = some x) : ∃ j, j < n ∧ f j = some x := by
  obtain ⟨j, hj, hf⟩ := List.mem_filterMap.1 (List.mem_of_getElem? h)
  exact ⟨j, List.mem_range.1 hj, hf⟩
theorem pick_lt {β : Type} {f : Nat → Option β} {id : β → Int} (hid : ∀ j x, f j = some x → id x = (j : Int)) {n i : Nat} {x y : β} (h : ((List.range n).filterMap f)[i]? = some x) (h0 : 0 < i) (hy : ((List.range n).filterMap f)[i - 1]? = some y) : id y < id x := by
  have hp : ((List.range n).filterMap f).Pairwise fun a b => id a < id b := by
    rw [List.pairwise_filterMap]
    refine List.Pairwise.imp ?_ List.pairwise_lt_range
    intro a b hab u hu v hv
    rw [hid a u hu, hid b v hv]
    omega
  rw [List.pairwise_iff_getElem] at hp
  obtain ⟨h1, h2⟩ := List.getElem?_eq_some_iff.1 h
  obtain ⟨h3, h4⟩ := List.getElem?_eq_some_iff.1 hy
  rw [← h2, ← h4]
  exact hp _ _ h3 h1 (by omega)
theorem floorOf_snoc (l : List Flr) (x : Flr) (id : Int) : floorOf (l ++ [x]) id = if (∃ y ∈ l, y.id = id) then floorOf l id else if x.id = id then x.inc else 0 := by
  induction l with
  | nil => simp [floorOf]
  | cons y l ih =>
    rw [List.cons_append, floorOf, floorOf, ih]
    by_cases h : y.id = id
    · simp [h]
    · simp [h]
theorem floorOf_pick (t : Int → Int) (id : Nat) : ∀ n, floorOf ((List.range n).filterMap fun (j : Nat) => if t (j : Int) > 0 then some (⟨(j : Int), t (j : Int)⟩ : Flr) else none) (id : Int) = if id < n ∧ t (id : Int) > 0 then t (id : Int) else 0
  | 0 => by simp [floorOf]
  | n + 1 => by
    have ih := floorOf_pick t id n
    rw [List.range_succ, List.filterMap_append]
    have hex : (∃ y ∈ (List.range n).filterMap (fun (j : Nat) => if t (j : Int) > 0 then some (⟨(j : Int), t (j : Int)⟩ : Flr) else none), y.id = (id : Int)) ↔ id < n ∧ t (id : Int) > 0 := by
      constructor
      · rintro ⟨y, hy, hid⟩
        obtain ⟨j, hj, hf⟩ := List.mem_filterMap.1 hy
        split at hf
        · rename_i ht
          injection hf with hf
          rw [← hf] at hid
          have hid : (j : Int) = (id : Int) := hid
          have : j = id := by omega
          exact ⟨by rw [← this]; exact List.mem_range.1 hj, by rw [← this]; exact ht⟩
        · cases hf
      · rintro ⟨h1, h2⟩
        exact ⟨⟨(id : Int), t (id : Int)⟩, List.mem_filterMap.2 ⟨id, List.mem_range.2 h1, by rw [if_pos h2]⟩, rfl⟩
    by_cases hn : t (n : Int) > 0
    · simp only [List.filterMap_cons, List.filterMap_nil, hn, if_true]
      rw [floorOf_snoc]
      by_cases h1 : id < n ∧ t (id : Int) > 0
      · rw [if_pos (hex.2 h1), ih, if_pos h1, if_pos ⟨by omega, h1.2⟩]
      · rw [if_neg (fun h => h1 (hex.1 h))]
        by_cases h2 : n = id
        · subst h2; rw [if_pos rfl, if_pos ⟨Nat.lt_succ_self _, hn⟩]
        · rw [if_neg (by simp only; omega), if_neg (fun h => h1 ⟨by omega, h.2⟩)]
    · simp only [List.filterMap_cons, List.filterMap_nil, hn, if_false, List.append_nil]
      rw [ih]
      by_cases h1 : id < n ∧ t (id : Int) > 0
      · rw [if_pos h1, if_pos ⟨by omega, h1.2⟩]
      · rw [if_neg h1, if_neg (fun h => h1 ⟨by
          rcases Nat.lt_or_ge id n with h3 | h3
          · exact h3
          · have : id = n := by omega
            subst this; exact absurd h.2 hn, h.2⟩)]
theorem topF_pos {a b : Sta} (ha : marksOk a.floors) (hb : marksOk b.floors) (id : Int) : 0 ≤ topF a b id ∧ topF a b id ≤ 1000 := by
  have h1 := floorOf_pos ha id
  have h2 := floorOf_pos hb id
  unfold topF
  omega
theorem floorOf_join {a b : Sta} (ha : marksOk a.floors) (hb : marksOk b.floors) {n id : Nat} (h : id < n) : floorOf (joinF a b n).floors (id : Int) = topF a b (id : Int) := by
  have h1 := (topF_pos ha hb (id : Int)).1
  show floorOf ((List.range n).filterMap fun (j : Nat) => if topF a b (j : Int) > 0 then some (⟨(j : Int), topF a b (j : Int)⟩ : Flr) else none) (id : Int) = _
  rw [floorOf_pick (fun i => topF a b i) id n]
  by_cases h2 : topF a b (id : Int) > 0
  · rw [if_pos ⟨h, h2⟩]
  · rw [if_neg (fun h => h2 h.2)]; omega
theorem entP_cases {s : Sta} (h : ∀ (j : Nat) x, s.items[j]? = some x → itemOk s j x) (id : Int) : (entP s.items id).1 = zEnt ∨ entOk (entP s.items id).1 := by
  rcases hb : (entP s.items id) with ⟨e, b⟩
  cases b with
  | false => exact .inl (entP_none (e := e) (id := id) hb.symm)
  | true =>
    obtain ⟨j, x, h1, h2, _⟩ := entP_mem (e := e) (id := id) hb.symm
    exact .inr (h2 ▸ (h j x h1).2.1)
theorem stateOk_join {a b : Sta} (ha : stateOk a) (hb : stateOk b) : stateOk (joinF a b 5) := by
  refine ⟨fun i x hx => ?_, fun i x hx => ?_⟩
  · have hx' : ((List.range 5).filterMap fun (j : Nat) => if (topE a b (j : Int)).inc > topF a b (j : Int) then some (⟨(j : Int), topE a b (j : Int)⟩ : Itm) else none)[i]? = some x := hx
    obtain ⟨j, hj, hf⟩ := pick_get hx'
    split at hf
    · rename_i ht
      injection hf with hf
      have hfl := floorOf_join ha.2 hb.2 hj
      have htp := (topF_pos ha.2 hb.2 (j : Int)).1
      have he : entOk (topE a b (j : Int)) := by
        have key : topE a b (j : Int) = (entP a.items (j : Int)).1 ∨ topE a b (j : Int) = (entP b.items (j : Int)).1 := by unfold topE entMax; split; exact .inr rfl; exact .inl rfl
        rcases key with h | h
        · rcases entP_cases ha.1 (j : Int) with h2 | h2
          · rw [h, h2] at ht; simp only [zEnt] at ht; omega
          · rw [h]; exact h2
        · rcases entP_cases hb.1 (j : Int) with h2 | h2
          · rw [h, h2] at ht; simp only [zEnt] at ht; omega
          · rw [h]; exact h2
      rw [← hf]
      refine ⟨⟨by simp only; omega, by simp only; omega⟩, he, by simp only; rw [hfl]; exact ht, fun y h0 hy => ?_⟩
      have := pick_lt (id := Itm.id) (fun j x hx => by
        split at hx
        · injection hx with hx; rw [← hx]
        · cases hx) hx' h0 hy
      rw [← hf] at this
      exact this
    · cases hf
  · have hx' : ((List.range 5).filterMap fun (j : Nat) => if topF a b (j : Int) > 0 then some (⟨(j : Int), topF a b (j : Int)⟩ : Flr) else none)[i]? = some x := hx
    obtain ⟨j, hj, hf⟩ := pick_get hx'
    split at hf
    · rename_i ht
      injection hf with hf
      have htp := (topF_pos ha.2 hb.2 (j : Int))
      rw [← hf]
      refine ⟨⟨by simp only; omega, by simp only; omega⟩, ⟨by simp only; omega, htp.2⟩, fun y h0 hy => ?_⟩
      have := pick_lt (id := Flr.id) (fun j x hx => by
        split at hx
        · injection hx with hx; rw [← hx]
        · cases hx) hx' h0 hy
      rw [← hf] at this
      exact this
    · cases hf
theorem stateOk_nil : stateOk ⟨[], []⟩ := ⟨fun j x h => (by cases h), fun j x h => (by cases h)⟩
end Go.Proofs.Ytopcpcoklgepnaa.AM
