/- Contracts of pruning. -/
import Derived.Test.YtopcpcoklgepnaaJ3
import Derived.Test.YtopcpcoklgepnaaF9
namespace Go.Proofs.Ytopcpcoklgepnaa.AM
open Go Go.Proofs
set_option linter.unusedVariables false
set_option linter.unusedSimpArgs false
set_option maxRecDepth 100000
set_option maxHeartbeats 4000000
noncomputable abbrev pruneG (s : Sta) (t : List (List Int)) (id : Int) : Int := min (common t id) (goneAt s id)
open Classical in
noncomputable def pruneF (s : Sta) (t : List (List Int)) : Sta := if stateOk s then joinF s ⟨[], marksF (pruneG s t) 5⟩ 5 else s
theorem goneAt_le {s : Sta} (h : stateOk s) (id : Int) : 0 ≤ goneAt s id ∧ goneAt s id ≤ 1000 := by
  rw [goneAt, if_pos h]
  rcases hb : entP s.items id with ⟨e, b⟩
  cases b with
  | false => simpa using floorOf_pos h.2 id
  | true =>
    have he := (ent_ok h hb.symm).1
    simp only [if_true]
    split <;> omega
theorem marksOk_F {g : Int → Int} (h : ∀ i, g i ≤ 1000) : marksOk (marksF g 5) := by
  intro j x hx
  have hx' : ((List.range 5).filterMap fun (j : Nat) => if g (j : Int) > 0 then some (⟨(j : Int), g (j : Int)⟩ : Flr) else none)[j]? = some x := hx
  obtain ⟨k, hk, hf⟩ := pick_get hx'
  split at hf
  · rename_i hp
    injection hf with hf
    have h1 := h (k : Int)
    rw [← hf]
    refine ⟨⟨by simp only; omega, by simp only; omega⟩, ⟨by simp only; omega, h1⟩, fun y h0 hy => ?_⟩
    have := pick_lt (id := Flr.id) (fun j x hx => by
      split at hx
      · injection hx with hx; rw [← hx]
      · cases hx) hx' h0 hy
    rw [← hf] at this
    exact this
  · cases hf
theorem big_floors {l : List Flr} (h : l.length ≤ 5) : bigS ⟨[], l⟩ := ⟨Nat.zero_le _, by show l.length ≤ 1048576; omega, fun x hx => (nomatch hx)⟩
theorem stateOk_floors {l : List Flr} (h : marksOk l) : stateOk ⟨[], l⟩ := ⟨fun j x hx => (nomatch hx), h⟩
theorem ac_spec_l1Min (a b : Int) (st : St) : C 122 [vI a, vI b] st (fun v s => v = vI (min a b) ∧ s = st) := by
  refine AC.enterX (i := ⟨[], [], [0, 1, 4, 7]⟩) [] Try.func122 rfl rfl (by kernel_rfl) (by kernel_rfl) Try.ntmps122 (Nat.le_of_ble_eq_true rfl) rfl ?_
  refine AW.cut lo0 st [(0, vI a), (1, vI b), (4, vI (0))] ⟨rfl, rfl, rfl, trivial⟩ fun ρ0 => ?_
  refine ⟨_, rfl, ?_⟩
  rintro (_|_) h7
  · replace h7 : ¬ (a < b) := of_decide_eq_false h7
    refine AW.cut lo0 st [(0, vI a), (1, vI b), (4, vI (0)), (7, vB false)] ⟨rfl, rfl, rfl, rfl, trivial⟩ fun ρ0 => ?_
    refine cx_sound _ _ _ _ _ ?_
    refine cx_sound _ _ _ _ _ ?_
    exact ⟨.inl rfl, _, rfl, congrArg vI (by omega), rfl⟩
  · replace h7 : a < b := of_decide_eq_true h7
    refine AW.cut lo0 st [(0, vI a), (1, vI b), (4, vI (0)), (7, vB true)] ⟨rfl, rfl, rfl, rfl, trivial⟩ fun ρ0 => ?_
    refine cx_sound _ _ _ _ _ ?_
    exact ⟨.inl rfl, _, rfl, congrArg vI (by omega), rfl⟩
theorem ac_impl_Prune (s : SV) (p : Option Addr) (t : List RV) (st : St) (hR : RdS st s) (hT : RdT st p t) (hb : bigS s.x) (hs : szOk t.length) (hr : ∀ r ∈ t, szOk r.l.length) : C 51 [.agg #[vS s.p s.x.items.length, vS s.q s.x.floors.length], vS p t.length] st (fun v s' => ∃ u : SV, v = .agg #[vS u.p u.x.items.length, vS u.q u.x.floors.length] ∧ u.x = pruneF s.x (rls t) ∧ OwnP s' (pcS u) ∧ NewP st.next (pcS u) ∧ Pres st s') := by
  refine AC.enterX (i := ⟨[2, 4, 5], [2, 4, 5, 27, 34], [0, 1, 2, 4, 5, 6, 7, 10, 15, 26]⟩) [(7, [2], [3])] Try.func51 rfl rfl (by kernel_rfl) (by kernel_rfl) Try.ntmps51 (Nat.le_of_ble_eq_true rfl) rfl ?_
  iterate 2 refine ⟨_, rfl, ?_⟩
  refine AW.cutM (2) st [(1, vS p t.length), (2, vL 2 0 (0)), (4, vL 4 0 (1))] [(2, 0, [vS s.p s.x.items.length, vS s.q s.x.floors.length]), (4, 1, [.slice none 0 0, .slice none 0 0])] ⟨rfl, rfl, rfl, trivial⟩ ⟨rfl, rfl, trivial⟩ rfl fun ρ0 ff => ?_
  refine ⟨_, op_ldo rfl rfl rfl rfl, ?_⟩
  refine ⟨_, rfl, (ac_impl_StateOk s st hR (by first | assumption | omega)).mono ?_⟩
  rintro _ st ⟨x9, rfl, h9, rfl⟩
  rcases x9 with _|_
  · replace h9 := fun k => Bool.false_ne_true (h9.2 k)
    refine ⟨_, rfl, ?_⟩
    refine AW.cutM (2) st [(1, vS p t.length), (2, vL 2 0 (0)), (4, vL 4 0 (1)), (10, vB true)] [(2, 0, [vS s.p s.x.items.length, vS s.q s.x.floors.length]), (4, 1, [.slice none 0 0, .slice none 0 0])] ⟨rfl, rfl, rfl, rfl, trivial⟩ ⟨rfl, rfl, trivial⟩ rfl fun ρ0 ff => ?_
    refine ⟨_, op_ldo rfl rfl rfl rfl, ?_⟩
    refine ⟨_, rfl, (ac_impl_copyState s st hR (by first | assumption | omega)).mono ?_⟩
    rintro _ s12 ⟨u12, rfl, h12, hO12, hN12, hP12⟩
    refine ⟨_, op_sto rfl rfl rfl rfl rfl rfl rfl, ?_⟩
    refine cx_sound _ _ _ _ _ ?_
    exact ⟨.inl rfl, _, rfl, u12, rfl, h12.trans (by rw [pruneF, if_neg h9]), hO12, hN12, hP12⟩
  · replace h9 := h9.1 rfl
    refine ⟨_, rfl, ?_⟩
    refine AW.cutM (2) st [(1, vS p t.length), (2, vL 2 0 (0)), (4, vL 4 0 (1)), (10, vB false)] [(2, 0, [vS s.p s.x.items.length, vS s.q s.x.floors.length]), (4, 1, [.slice none 0 0, .slice none 0 0])] ⟨rfl, rfl, rfl, rfl, trivial⟩ ⟨rfl, rfl, trivial⟩ rfl fun ρ0 ff => ?_
    refine cx_sound _ _ _ _ _ ?_
    iterate 2 refine ⟨_, rfl, ?_⟩
    refine ⟨_, op_sto rfl rfl rfl rfl rfl rfl rfl, ?_⟩
    refine cx_sound _ _ _ _ _ ?_
    refine AW.cutM (3) st [(1, vS p t.length), (2, vL 2 0 (0)), (4, vL 4 0 (1)), (5, vL 5 0 (2)), (6, vI (0))] [(2, 0, [vS s.p s.x.items.length, vS s.q s.x.floors.length]), (4, 1, [.slice none 0 0, .slice none 0 0]), (5, 2, [.slice none 0 0, .slice none 0 0])] ⟨rfl, rfl, rfl, rfl, rfl, trivial⟩ ⟨rfl, rfl, rfl, trivial⟩ rfl fun ρ0 ff => ?_
    refine AW.loopM (fun x : Nat × Option Addr => [(1, vS p t.length), (2, vL 2 0 (0)), (4, vL 4 0 (1)), (5, vL 5 0 (2)), (6, vI (x.1 : Int))]) (fun x : Nat × Option Addr => [(2, 0, [vS s.p s.x.items.length, vS s.q s.x.floors.length]), (4, 1, [.slice none 0 0, .slice none 0 0]), (5, 2, [.slice none 0 0, vS x.2 (marksF (pruneG s.x (rls t)) x.1).length])]) (fun m (x : Nat × Option Addr) st' => m = 5 - x.1 ∧ x.1 ≤ 5 ∧ OwnR st' 2 cFlr x.2 (marksF (pruneG s.x (rls t)) x.1) ∧ New st.next x.2 ∧ Pres st st') (0, none) _ ⟨rfl, rfl, rfl, rfl, rfl, trivial⟩ ⟨rfl, rfl, rfl, trivial⟩ ⟨rfl, Nat.zero_le _, OwnR.nil, New.none, Pres.refl _⟩ ?_
    rintro m ⟨i, q⟩ ρ0 ff gg st' ⟨rfl, hi, hO, hN, hP⟩
    simp only at hi hO hN
    have hml := marksF_len (pruneG s.x (rls t)) i
    have hm := marksF_succ (pruneG s.x (rls t)) i
    refine ⟨_, rfl, ?_⟩
    rintro (_|_) h15
    · replace h15 : ¬ ((i : Int) < (5)) := of_decide_eq_false h15
      refine AW.cutM (gg) st' [(1, vS p t.length), (2, vL 2 0 (0)), (4, vL 4 0 (1)), (5, vL 5 0 (2)), (6, vI (i : Int)), (15, vB false)] [(2, 0, [vS s.p s.x.items.length, vS s.q s.x.floors.length]), (4, 1, [.slice none 0 0, .slice none 0 0]), (5, 2, [.slice none 0 0, vS q (marksF (pruneG s.x (rls t)) i).length])] ⟨rfl, rfl, rfl, rfl, rfl, rfl, trivial⟩ ⟨rfl, rfl, rfl, trivial⟩ rfl fun ρ0 ff => ?_
      have hil : i = 5 := by omega
      subst hil
      refine cx_sound _ _ _ _ _ ?_
      refine ⟨_, op_ldo rfl rfl rfl rfl, ?_⟩
      refine ⟨_, op_ldo rfl rfl rfl rfl, ?_⟩
      refine ⟨_, rfl, (ac_impl_stateJoin s ⟨none, q, ⟨[], marksF (pruneG s.x (rls t)) 5⟩⟩ st' (hR.pres hP) ⟨Rows.nil, hO.rows len_cFlr⟩ hb (big_floors hml)).mono ?_⟩
      rintro _ s37 ⟨u, rfl, hu, hO37, hN37, hP37⟩
      refine ⟨_, op_sto rfl rfl rfl rfl rfl rfl rfl, ?_⟩
      refine cx_sound _ _ _ _ _ ?_
      exact ⟨.inl rfl, _, rfl, u, rfl, by rw [hu, pruneF, if_pos h9], hO37, hN37.le hP.1, hP.trans hP37⟩
    · replace h15 : (i : Int) < (5) := of_decide_eq_true h15
      refine AW.cutM (gg) st' [(1, vS p t.length), (2, vL 2 0 (0)), (4, vL 4 0 (1)), (5, vL 5 0 (2)), (6, vI (i : Int)), (15, vB true)] [(2, 0, [vS s.p s.x.items.length, vS s.q s.x.floors.length]), (4, 1, [.slice none 0 0, .slice none 0 0]), (5, 2, [.slice none 0 0, vS q (marksF (pruneG s.x (rls t)) i).length])] ⟨rfl, rfl, rfl, rfl, rfl, rfl, trivial⟩ ⟨rfl, rfl, rfl, trivial⟩ rfl fun ρ0 ff => ?_
      refine cx_sound _ _ _ _ _ ?_
      refine ⟨_, rfl, (ac_impl_Common p t (i : Int) st' (hT.pres hP) (by first | assumption | omega) (by first | assumption | omega)).mono ?_⟩
      rintro _ st' ⟨rfl, rfl⟩
      refine ⟨fun _ _ => rfl, ?_⟩
      refine ⟨_, op_ldo rfl rfl rfl rfl, ?_⟩
      refine ⟨ld_own rfl rfl rfl, ?_⟩
      refine ⟨_, rfl, (ac_impl_GoneAt s (i : Int) st' (hR.pres hP) (by first | assumption | omega)).mono ?_⟩
      rintro _ st' ⟨rfl, rfl⟩
      refine ⟨.int .i64 (min (common (rls t) (i : Int)) (goneAt s.x (i : Int))), ammL_min _ _, ?_⟩
      refine AW.cutM (gg) st' [(1, vS p t.length), (2, vL 2 0 (0)), (4, vL 4 0 (1)), (5, vL 5 0 (2)), (6, vI (i : Int)), (7, vI (min (common (rls t) (i : Int)) (goneAt s.x (i : Int)))), (15, vB true)] [(2, 0, [vS s.p s.x.items.length, vS s.q s.x.floors.length]), (4, 1, [.slice none 0 0, .slice none 0 0]), (5, 2, [.slice none 0 0, vS q (marksF (pruneG s.x (rls t)) i).length])] ⟨rfl, rfl, rfl, rfl, rfl, rfl, rfl, trivial⟩ ⟨rfl, rfl, rfl, trivial⟩ rfl fun ρ0 ff => ?_
      refine ⟨_, rfl, ?_⟩
      rintro (_|_) h26
      · replace h26 : ¬ ((min (common (rls t) (i : Int)) (goneAt s.x (i : Int))) > (0)) := of_decide_eq_false h26
        refine AW.cutM (gg) st' [(1, vS p t.length), (2, vL 2 0 (0)), (4, vL 4 0 (1)), (5, vL 5 0 (2)), (6, vI (i : Int)), (7, vI (min (common (rls t) (i : Int)) (goneAt s.x (i : Int)))), (15, vB true), (26, vB false)] [(2, 0, [vS s.p s.x.items.length, vS s.q s.x.floors.length]), (4, 1, [.slice none 0 0, .slice none 0 0]), (5, 2, [.slice none 0 0, vS q (marksF (pruneG s.x (rls t)) i).length])] ⟨rfl, rfl, rfl, rfl, rfl, rfl, rfl, rfl, trivial⟩ ⟨rfl, rfl, rfl, trivial⟩ rfl fun ρ0 ff => ?_
        refine cx_sound _ _ _ _ _ ?_
        have ew17 : IntKind.wrap .i64 ((i : Int) + (1)) = ((i + 1 : Nat) : Int) := (wrap_i64 (by omega) (by omega)).trans (by omega)
        refine ⟨_, rfl, ?_⟩
        rw [if_neg h26] at hm
        exact ⟨(i + 1, q), 5 - (i + 1), by omega, ⟨rfl, rfl, rfl, rfl, congrArg (Value.int .i64) ew17, trivial⟩, ⟨rfl, rfl, (show some (2, [.slice none 0 0, vS q (marksF (pruneG s.x (rls t)) i).length]) = some (2, [.slice none 0 0, vS q (marksF (pruneG s.x (rls t)) (i + 1)).length]) by rw [hm]), trivial⟩, rfl, by omega, by rw [hm]; exact hO, hN, hP⟩
      · replace h26 : (min (common (rls t) (i : Int)) (goneAt s.x (i : Int))) > (0) := of_decide_eq_true h26
        refine AW.cutM (gg) st' [(1, vS p t.length), (2, vL 2 0 (0)), (4, vL 4 0 (1)), (5, vL 5 0 (2)), (6, vI (i : Int)), (7, vI (min (common (rls t) (i : Int)) (goneAt s.x (i : Int)))), (15, vB true), (26, vB true)] [(2, 0, [vS s.p s.x.items.length, vS s.q s.x.floors.length]), (4, 1, [.slice none 0 0, .slice none 0 0]), (5, 2, [.slice none 0 0, vS q (marksF (pruneG s.x (rls t)) i).length])] ⟨rfl, rfl, rfl, rfl, rfl, rfl, rfl, rfl, trivial⟩ ⟨rfl, rfl, rfl, trivial⟩ rfl fun ρ0 ff => ?_
        refine ⟨_, rfl, ?_⟩
        refine ⟨_, op_ldo rfl rfl rfl rfl, ?_⟩
        refine ⟨_, rfl, ?_⟩
        refine op_one (z := 2) (a := (⟨(i : Int), pruneG s.x (rls t) i⟩ : Flr)) (f := cFlr) rfl rfl rfl rfl rfl (by decide) rfl (Nat.le_of_ble_eq_true rfl) rfl rfl rfl ?_
        refine op_add (z := 2) (st := st') (f := cFlr) (b := 16) (l := marksF (pruneG s.x (rls t)) i) rfl rfl rfl rfl rfl rfl rfl (by decide) len_cFlr rfl rfl rfl (by omega) (by unfold maxLen; omega) hO ?_
        intro q33 s33 hO33 hP33 hN33
        refine ⟨_, rfl, ?_⟩
        refine ⟨_, op_sto rfl rfl rfl rfl rfl rfl rfl, ?_⟩
        refine AW.cutM (gg) s33 [(1, vS p t.length), (2, vL 2 0 (0)), (4, vL 4 0 (1)), (5, vL 5 0 (2)), (6, vI (i : Int)), (7, vI (min (common (rls t) (i : Int)) (goneAt s.x (i : Int)))), (15, vB true), (26, vB true)] [(2, 0, [vS s.p s.x.items.length, vS s.q s.x.floors.length]), (4, 1, [.slice none 0 0, .slice none 0 0]), (5, 2, [.slice none 0 0, vS q33 ((marksF (pruneG s.x (rls t)) i).length + 1)])] ⟨rfl, rfl, rfl, rfl, rfl, rfl, rfl, rfl, trivial⟩ ⟨rfl, rfl, rfl, trivial⟩ rfl fun ρ0 ff => ?_
        have ew17 : IntKind.wrap .i64 ((i : Int) + (1)) = ((i + 1 : Nat) : Int) := (wrap_i64 (by omega) (by omega)).trans (by omega)
        refine ⟨_, rfl, ?_⟩
        rw [if_pos h26] at hm
        exact ⟨(i + 1, q33), 5 - (i + 1), by omega, ⟨rfl, rfl, rfl, rfl, congrArg (Value.int .i64) ew17, trivial⟩, ⟨rfl, rfl, (show some (2, [.slice none 0 0, vS q33 ((marksF (pruneG s.x (rls t)) i).length + 1)]) = some (2, [.slice none 0 0, vS q33 (marksF (pruneG s.x (rls t)) (i + 1)).length]) by rw [hm, List.length_append]; rfl), trivial⟩, rfl, by omega, by rw [hm]; exact hO33, hN33.le hP.1, hP33.pres hP hN⟩
theorem ac_spec_Prune (s : SV) (p : Option Addr) (t : List RV) (st : St) (hR : RdS st s) (hT : RdT st p t) (hb : bigS s.x) (hs : szOk t.length) (hr : ∀ r ∈ t, szOk r.l.length) : C 49 [.agg #[vS s.p s.x.items.length, vS s.q s.x.floors.length], vS p t.length] st (fun v s' => ∃ u : SV, v = .agg #[vS u.p u.x.items.length, vS u.q u.x.floors.length] ∧ u.x = pruneF s.x (rls t) ∧ OwnP s' (pcS u) ∧ NewP st.next (pcS u) ∧ Pres st s') := by
  refine AC.enterX (i := ⟨[2, 4, 5], [2, 4, 5, 27, 34], [0, 1, 2, 4, 5, 6, 7, 10, 15, 26]⟩) [(7, [2], [3])] Try.func49 rfl rfl (by kernel_rfl) (by kernel_rfl) Try.ntmps49 (Nat.le_of_ble_eq_true rfl) rfl ?_
  iterate 2 refine ⟨_, rfl, ?_⟩
  refine AW.cutM (2) st [(1, vS p t.length), (2, vL 2 0 (0)), (4, vL 4 0 (1))] [(2, 0, [vS s.p s.x.items.length, vS s.q s.x.floors.length]), (4, 1, [.slice none 0 0, .slice none 0 0])] ⟨rfl, rfl, rfl, trivial⟩ ⟨rfl, rfl, trivial⟩ rfl fun ρ0 ff => ?_
  refine ⟨_, op_ldo rfl rfl rfl rfl, ?_⟩
  refine ⟨_, rfl, (ac_spec_StateOk s st hR (by first | assumption | omega)).mono ?_⟩
  rintro _ st ⟨x9, rfl, h9, rfl⟩
  rcases x9 with _|_
  · replace h9 := fun k => Bool.false_ne_true (h9.2 k)
    refine ⟨_, rfl, ?_⟩
    refine AW.cutM (2) st [(1, vS p t.length), (2, vL 2 0 (0)), (4, vL 4 0 (1)), (10, vB true)] [(2, 0, [vS s.p s.x.items.length, vS s.q s.x.floors.length]), (4, 1, [.slice none 0 0, .slice none 0 0])] ⟨rfl, rfl, rfl, rfl, trivial⟩ ⟨rfl, rfl, trivial⟩ rfl fun ρ0 ff => ?_
    refine ⟨_, op_ldo rfl rfl rfl rfl, ?_⟩
    refine ⟨_, rfl, (ac_spec_l3Copy s st hR (by first | assumption | omega)).mono ?_⟩
    rintro _ s12 ⟨u12, rfl, h12, hO12, hN12, hP12⟩
    refine ⟨_, op_sto rfl rfl rfl rfl rfl rfl rfl, ?_⟩
    refine cx_sound _ _ _ _ _ ?_
    exact ⟨.inl rfl, _, rfl, u12, rfl, h12.trans (by rw [pruneF, if_neg h9]), hO12, hN12, hP12⟩
  · replace h9 := h9.1 rfl
    refine ⟨_, rfl, ?_⟩
    refine AW.cutM (2) st [(1, vS p t.length), (2, vL 2 0 (0)), (4, vL 4 0 (1)), (10, vB false)] [(2, 0, [vS s.p s.x.items.length, vS s.q s.x.floors.length]), (4, 1, [.slice none 0 0, .slice none 0 0])] ⟨rfl, rfl, rfl, rfl, trivial⟩ ⟨rfl, rfl, trivial⟩ rfl fun ρ0 ff => ?_
    refine cx_sound _ _ _ _ _ ?_
    iterate 2 refine ⟨_, rfl, ?_⟩
    refine ⟨_, op_sto rfl rfl rfl rfl rfl rfl rfl, ?_⟩
    refine cx_sound _ _ _ _ _ ?_
    refine AW.cutM (3) st [(1, vS p t.length), (2, vL 2 0 (0)), (4, vL 4 0 (1)), (5, vL 5 0 (2)), (6, vI (0))] [(2, 0, [vS s.p s.x.items.length, vS s.q s.x.floors.length]), (4, 1, [.slice none 0 0, .slice none 0 0]), (5, 2, [.slice none 0 0, .slice none 0 0])] ⟨rfl, rfl, rfl, rfl, rfl, trivial⟩ ⟨rfl, rfl, rfl, trivial⟩ rfl fun ρ0 ff => ?_
    refine AW.loopM (fun x : Nat × Option Addr => [(1, vS p t.length), (2, vL 2 0 (0)), (4, vL 4 0 (1)), (5, vL 5 0 (2)), (6, vI (x.1 : Int))]) (fun x : Nat × Option Addr => [(2, 0, [vS s.p s.x.items.length, vS s.q s.x.floors.length]), (4, 1, [.slice none 0 0, .slice none 0 0]), (5, 2, [.slice none 0 0, vS x.2 (marksF (pruneG s.x (rls t)) x.1).length])]) (fun m (x : Nat × Option Addr) st' => m = 5 - x.1 ∧ x.1 ≤ 5 ∧ OwnR st' 2 cFlr x.2 (marksF (pruneG s.x (rls t)) x.1) ∧ New st.next x.2 ∧ Pres st st') (0, none) _ ⟨rfl, rfl, rfl, rfl, rfl, trivial⟩ ⟨rfl, rfl, rfl, trivial⟩ ⟨rfl, Nat.zero_le _, OwnR.nil, New.none, Pres.refl _⟩ ?_
    rintro m ⟨i, q⟩ ρ0 ff gg st' ⟨rfl, hi, hO, hN, hP⟩
    simp only at hi hO hN
    have hml := marksF_len (pruneG s.x (rls t)) i
    have hm := marksF_succ (pruneG s.x (rls t)) i
    refine ⟨_, rfl, ?_⟩
    rintro (_|_) h15
    · replace h15 : ¬ ((i : Int) < (5)) := of_decide_eq_false h15
      refine AW.cutM (gg) st' [(1, vS p t.length), (2, vL 2 0 (0)), (4, vL 4 0 (1)), (5, vL 5 0 (2)), (6, vI (i : Int)), (15, vB false)] [(2, 0, [vS s.p s.x.items.length, vS s.q s.x.floors.length]), (4, 1, [.slice none 0 0, .slice none 0 0]), (5, 2, [.slice none 0 0, vS q (marksF (pruneG s.x (rls t)) i).length])] ⟨rfl, rfl, rfl, rfl, rfl, rfl, trivial⟩ ⟨rfl, rfl, rfl, trivial⟩ rfl fun ρ0 ff => ?_
      have hil : i = 5 := by omega
      subst hil
      refine cx_sound _ _ _ _ _ ?_
      refine ⟨_, op_ldo rfl rfl rfl rfl, ?_⟩
      refine ⟨_, op_ldo rfl rfl rfl rfl, ?_⟩
      refine ⟨_, rfl, (ac_spec_l3Join s ⟨none, q, ⟨[], marksF (pruneG s.x (rls t)) 5⟩⟩ st' (hR.pres hP) ⟨Rows.nil, hO.rows len_cFlr⟩ hb (big_floors hml) h9 (stateOk_floors (marksOk_F fun i => by have := goneAt_le h9 i; unfold pruneG; omega))).mono ?_⟩
      rintro _ s37 ⟨u, rfl, hu, hO37, hN37, hP37⟩
      refine ⟨_, op_sto rfl rfl rfl rfl rfl rfl rfl, ?_⟩
      refine cx_sound _ _ _ _ _ ?_
      exact ⟨.inl rfl, _, rfl, u, rfl, by rw [hu, pruneF, if_pos h9], hO37, hN37.le hP.1, hP.trans hP37⟩
    · replace h15 : (i : Int) < (5) := of_decide_eq_true h15
      refine AW.cutM (gg) st' [(1, vS p t.length), (2, vL 2 0 (0)), (4, vL 4 0 (1)), (5, vL 5 0 (2)), (6, vI (i : Int)), (15, vB true)] [(2, 0, [vS s.p s.x.items.length, vS s.q s.x.floors.length]), (4, 1, [.slice none 0 0, .slice none 0 0]), (5, 2, [.slice none 0 0, vS q (marksF (pruneG s.x (rls t)) i).length])] ⟨rfl, rfl, rfl, rfl, rfl, rfl, trivial⟩ ⟨rfl, rfl, rfl, trivial⟩ rfl fun ρ0 ff => ?_
      refine cx_sound _ _ _ _ _ ?_
      refine ⟨_, rfl, (ac_spec_Common p t (i : Int) st' (hT.pres hP) (by first | assumption | omega) (by first | assumption | omega)).mono ?_⟩
      rintro _ st' ⟨rfl, rfl⟩
      refine ⟨fun _ _ => rfl, ?_⟩
      refine ⟨_, op_ldo rfl rfl rfl rfl, ?_⟩
      refine ⟨ld_own rfl rfl rfl, ?_⟩
      refine ⟨_, rfl, (ac_spec_GoneAt s (i : Int) st' (hR.pres hP) (by first | assumption | omega)).mono ?_⟩
      rintro _ st' ⟨rfl, rfl⟩
      refine ⟨_, rfl, (ac_spec_l1Min (common (rls t) (i : Int)) (goneAt s.x (i : Int)) st').mono ?_⟩
      rintro _ st' ⟨rfl, rfl⟩
      refine AW.cutM (gg) st' [(1, vS p t.length), (2, vL 2 0 (0)), (4, vL 4 0 (1)), (5, vL 5 0 (2)), (6, vI (i : Int)), (7, vI (min (common (rls t) (i : Int)) (goneAt s.x (i : Int)))), (15, vB true)] [(2, 0, [vS s.p s.x.items.length, vS s.q s.x.floors.length]), (4, 1, [.slice none 0 0, .slice none 0 0]), (5, 2, [.slice none 0 0, vS q (marksF (pruneG s.x (rls t)) i).length])] ⟨rfl, rfl, rfl, rfl, rfl, rfl, rfl, trivial⟩ ⟨rfl, rfl, rfl, trivial⟩ rfl fun ρ0 ff => ?_
      refine ⟨_, rfl, ?_⟩
      rintro (_|_) h26
      · replace h26 : ¬ ((min (common (rls t) (i : Int)) (goneAt s.x (i : Int))) > (0)) := of_decide_eq_false h26
        refine AW.cutM (gg) st' [(1, vS p t.length), (2, vL 2 0 (0)), (4, vL 4 0 (1)), (5, vL 5 0 (2)), (6, vI (i : Int)), (7, vI (min (common (rls t) (i : Int)) (goneAt s.x (i : Int)))), (15, vB true), (26, vB false)] [(2, 0, [vS s.p s.x.items.length, vS s.q s.x.floors.length]), (4, 1, [.slice none 0 0, .slice none 0 0]), (5, 2, [.slice none 0 0, vS q (marksF (pruneG s.x (rls t)) i).length])] ⟨rfl, rfl, rfl, rfl, rfl, rfl, rfl, rfl, trivial⟩ ⟨rfl, rfl, rfl, trivial⟩ rfl fun ρ0 ff => ?_
        refine cx_sound _ _ _ _ _ ?_
        have ew17 : IntKind.wrap .i64 ((i : Int) + (1)) = ((i + 1 : Nat) : Int) := (wrap_i64 (by omega) (by omega)).trans (by omega)
        refine ⟨_, rfl, ?_⟩
        rw [if_neg h26] at hm
        exact ⟨(i + 1, q), 5 - (i + 1), by omega, ⟨rfl, rfl, rfl, rfl, congrArg (Value.int .i64) ew17, trivial⟩, ⟨rfl, rfl, (show some (2, [.slice none 0 0, vS q (marksF (pruneG s.x (rls t)) i).length]) = some (2, [.slice none 0 0, vS q (marksF (pruneG s.x (rls t)) (i + 1)).length]) by rw [hm]), trivial⟩, rfl, by omega, by rw [hm]; exact hO, hN, hP⟩
      · replace h26 : (min (common (rls t) (i : Int)) (goneAt s.x (i : Int))) > (0) := of_decide_eq_true h26
        refine AW.cutM (gg) st' [(1, vS p t.length), (2, vL 2 0 (0)), (4, vL 4 0 (1)), (5, vL 5 0 (2)), (6, vI (i : Int)), (7, vI (min (common (rls t) (i : Int)) (goneAt s.x (i : Int)))), (15, vB true), (26, vB true)] [(2, 0, [vS s.p s.x.items.length, vS s.q s.x.floors.length]), (4, 1, [.slice none 0 0, .slice none 0 0]), (5, 2, [.slice none 0 0, vS q (marksF (pruneG s.x (rls t)) i).length])] ⟨rfl, rfl, rfl, rfl, rfl, rfl, rfl, rfl, trivial⟩ ⟨rfl, rfl, rfl, trivial⟩ rfl fun ρ0 ff => ?_
        refine ⟨_, rfl, ?_⟩
        refine ⟨_, op_ldo rfl rfl rfl rfl, ?_⟩
        refine ⟨_, rfl, ?_⟩
        refine op_one (z := 2) (a := (⟨(i : Int), pruneG s.x (rls t) i⟩ : Flr)) (f := cFlr) rfl rfl rfl rfl rfl (by decide) rfl (Nat.le_of_ble_eq_true rfl) rfl rfl rfl ?_
        refine op_add (z := 2) (st := st') (f := cFlr) (b := 16) (l := marksF (pruneG s.x (rls t)) i) rfl rfl rfl rfl rfl rfl rfl (by decide) len_cFlr rfl rfl rfl (by omega) (by unfold maxLen; omega) hO ?_
        intro q33 s33 hO33 hP33 hN33
        refine ⟨_, rfl, ?_⟩
        refine ⟨_, op_sto rfl rfl rfl rfl rfl rfl rfl, ?_⟩
        refine AW.cutM (gg) s33 [(1, vS p t.length), (2, vL 2 0 (0)), (4, vL 4 0 (1)), (5, vL 5 0 (2)), (6, vI (i : Int)), (7, vI (min (common (rls t) (i : Int)) (goneAt s.x (i : Int)))), (15, vB true), (26, vB true)] [(2, 0, [vS s.p s.x.items.length, vS s.q s.x.floors.length]), (4, 1, [.slice none 0 0, .slice none 0 0]), (5, 2, [.slice none 0 0, vS q33 ((marksF (pruneG s.x (rls t)) i).length + 1)])] ⟨rfl, rfl, rfl, rfl, rfl, rfl, rfl, rfl, trivial⟩ ⟨rfl, rfl, rfl, trivial⟩ rfl fun ρ0 ff => ?_
        have ew17 : IntKind.wrap .i64 ((i : Int) + (1)) = ((i + 1 : Nat) : Int) := (wrap_i64 (by omega) (by omega)).trans (by omega)
        refine ⟨_, rfl, ?_⟩
        rw [if_pos h26] at hm
        exact ⟨(i + 1, q33), 5 - (i + 1), by omega, ⟨rfl, rfl, rfl, rfl, congrArg (Value.int .i64) ew17, trivial⟩, ⟨rfl, rfl, (show some (2, [.slice none 0 0, vS q33 ((marksF (pruneG s.x (rls t)) i).length + 1)]) = some (2, [.slice none 0 0, vS q33 (marksF (pruneG s.x (rls t)) (i + 1)).length]) by rw [hm, List.length_append]; rfl), trivial⟩, rfl, by omega, by rw [hm]; exact hO33, hN33.le hP.1, hP33.pres hP hN⟩
end Go.Proofs.Ytopcpcoklgepnaa.AM
