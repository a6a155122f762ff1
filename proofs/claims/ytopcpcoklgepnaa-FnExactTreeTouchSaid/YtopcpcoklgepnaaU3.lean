/- Trees in the shape that all laws read, mark and hold. -/
import Derived.Test.YtopcpcoklgepnaaU2
import Derived.Test.YtopcpcoklgepnaaV1a
import Derived.Test.YtopcpcoklgepnaaB8
namespace Go.Proofs.Ytopcpcoklgepnaa.AM
open Go Go.Proofs
set_option linter.unusedVariables false
set_option linter.unusedSimpArgs false
set_option maxRecDepth 100000
set_option maxHeartbeats 4000000
abbrev pcTV (u : TV) : List Pc := pcIs u.toRV
theorem OwnP.rdTV {st : St} {u : TV} (h : OwnP st (pcTV u)) : Rows st 1 fI u.p u.l := OwnP.rdIs h
def mkTV (u : TV) (k : Int) : TV := ⟨mkIs u.toRV k, u.root⟩
theorem mkp_TV (u : TV) (k : Int) : (pcTV (mkTV u k)).map (·.p) = (pcTV u).map (·.p) := rfl
def RdTr (st : St) (t : TV) : Prop := Rows st 1 fI t.p t.l
theorem RdTr.pres {st st' : St} {t : TV} (h : RdTr st t) (k : Pres st st') : RdTr st' t := k.rows h
abbrev cntTV (t : Tr) : Nat := t.leaves.length
def bigTr (t : Tr) : Prop := t.leaves.length ≤ 1048576
theorem touch_big {t r : Tr} {s : Sta} {id : Int} (h : r = touchF t s id) (hb : bigTr t) : bigTr r := by
  rw [h]
  unfold touchF
  split
  · show (t.leaves.set _ _).length ≤ 1048576
    rw [List.length_set]; exact hb
  · exact hb
theorem touch_cnt {t r : Tr} {s : Sta} {id : Int} {n : Nat} (h : r = touchF t s id) (hb : cntTV t ≤ n) : cntTV r ≤ n := by
  rw [h]
  unfold touchF
  split
  · show (t.leaves.set _ _).length ≤ n
    rw [List.length_set]; exact hb
  · exact hb
theorem uc_toTree (g : TV) (st : St) (hR : RdTr st g) (hb : bigTr g.x) : C 59 [.agg #[vS g.p g.l.length, vI g.root]] st (fun v s => ∃ u : TV, v = .agg #[vS u.p u.l.length, vI u.root] ∧ u.x = g.x ∧ OwnP s (pcTV u) ∧ NewP st.next (pcTV u) ∧ Pres st s) :=
  (ac_laws_toTree g st hR hb).mono fun v s ⟨u, h1, h2, h3⟩ => ⟨u, h1, h2, h3.1, h3.2.1, h3.2.2⟩
theorem uc_eqTree (a b : TV) (st : St) (hA : Rows st 1 fI a.p a.l) (hB : Rows st 1 fI b.p b.l) (hb : bigTr a.x) : C 61 [.agg #[vS a.p a.l.length, vI a.root], .agg #[vS b.p b.l.length, vI b.root]] st (fun v s => ∃ x, v = .bool x ∧ (x = true ↔ a.x = b.x) ∧ s = st) := ac_laws_eqTree a b st hA hB hb
theorem uc_markTree (u : TV) (k : Int) (st : St) (hO : OwnP st (pcTV u)) (hb : bigTr u.x) (h0 : 0 ≤ k) (hk : k ≤ 137438953472) : C 62 [.agg #[vS u.p u.l.length, vI u.root], vI k] st (fun v s => v = vI (k + (cntTV u.x : Int)) ∧ OwnP s (pcTV (mkTV u k)) ∧ PrL ((pcTV u).map (·.p)) st s) := by
  refine AC.enterX (i := ⟨[2], [2, 5], [0, 1, 2, 4]⟩) [] Try.func62 rfl rfl (by kernel_rfl) (by kernel_rfl) Try.ntmps62 (Nat.le_of_ble_eq_true rfl) rfl ?_
  refine ⟨_, rfl, ?_⟩
  refine AW.cutM (1) st [(1, vI k), (2, vL 2 0 (0)), (4, vI (0))] [(2, 0, [vS u.p u.l.length, vI u.root])] ⟨rfl, rfl, rfl, trivial⟩ ⟨rfl, trivial⟩ rfl fun ρ0 ff => ?_
  refine ⟨_, rfl, ?_⟩
  refine ⟨_, op_ldo rfl rfl rfl rfl, ?_⟩
  refine ⟨_, rfl, (uc_markIntS u.toRV k st hO hb h0 hk).mono ?_⟩
  rintro _ s8 ⟨rfl, hO8, hP8⟩
  refine cx_sound _ _ _ _ _ ?_
  refine cx_sound _ _ _ _ _ ?_
  exact ⟨.inl rfl, _, rfl, rfl, hO8, hP8⟩
theorem uc_heldTree (u : TV) (k : Int) (st : St) (hR : Rows st 1 fI (mkTV u k).p (mkTV u k).l) (hb : bigTr u.x) (h0 : 0 ≤ k) (hk : k ≤ 137438953472) : C 63 [.agg #[vS u.p u.l.length, vI u.root], vI k] st (fun v s => v = vI (k + (cntTV u.x : Int)) ∧ Pres st s) := by
  refine AC.enterX (i := ⟨[2], [2, 5], [0, 1, 2, 4, 10]⟩) [] Try.func63 rfl rfl (by kernel_rfl) (by kernel_rfl) Try.ntmps63 (Nat.le_of_ble_eq_true rfl) rfl ?_
  refine ⟨_, rfl, ?_⟩
  refine AW.cutM (1) st [(1, vI k), (2, vL 2 0 (0)), (4, vI (0))] [(2, 0, [vS u.p u.l.length, vI u.root])] ⟨rfl, rfl, rfl, trivial⟩ ⟨rfl, trivial⟩ rfl fun ρ0 ff => ?_
  refine ⟨_, rfl, ?_⟩
  refine ⟨_, op_ldo rfl rfl rfl rfl, ?_⟩
  refine ⟨_, rfl, (uc_heldIntS u.toRV k st hR hb h0 hk).mono ?_⟩
  rintro _ s8 ⟨rfl, hP8⟩
  refine AW.cutM (1) s8 [(1, vI (k + (cntIs u.l : Int))), (4, vI (0))] [] ⟨rfl, rfl, trivial⟩ trivial rfl fun ρ0 ff => ?_
  refine ⟨_, rfl, ?_⟩
  rintro (_|_) h10
  rotate_left
  · exact absurd (of_decide_eq_true h10) ((by unfold cntIs; omega))
  refine AW.cutM (1) s8 [(1, vI (k + (cntIs u.l : Int))), (4, vI (0)), (10, vB false)] [] ⟨rfl, rfl, rfl, trivial⟩ trivial rfl fun ρ0 ff => ?_
  refine cx_sound _ _ _ _ _ ?_
  refine cx_sound _ _ _ _ _ ?_
  exact ⟨.inl rfl, _, rfl, rfl, hP8⟩
theorem tc_spec_TreeTouch (t : TV) (s : SV) (id : Int) (st : St) (hT : Rows st 1 fI t.p t.l) (hs : bigTr t.x) (hR : RdS st s) (hb : bigS s.x) : C 58 [.agg #[vS t.p t.l.length, vI t.root], .agg #[vS s.p s.x.items.length, vS s.q s.x.floors.length], vI id] st (fun v s' => ∃ u : TV, v = .agg #[vS u.p u.l.length, vI u.root] ∧ u.x = touchF t.x s.x id ∧ OwnP s' (pcTV u) ∧ NewP st.next (pcTV u) ∧ Pres st s') :=
  (ac_spec_TreeTouch t s id st hT hs hR hb).mono fun v s' ⟨u, h1, h2, h3, h4, h5⟩ => ⟨u, h1, h2, OwnP.one (own_pc h3), NewP.cons h4 NewP.nil, h5⟩
theorem tc_impl_TreeTouch (t : TV) (s : SV) (id : Int) (st : St) (hT : Rows st 1 fI t.p t.l) (hs : bigTr t.x) (hR : RdS st s) (hb : bigS s.x) : C 60 [.agg #[vS t.p t.l.length, vI t.root], .agg #[vS s.p s.x.items.length, vS s.q s.x.floors.length], vI id] st (fun v s' => ∃ u : TV, v = .agg #[vS u.p u.l.length, vI u.root] ∧ u.x = touchF t.x s.x id ∧ OwnP s' (pcTV u) ∧ NewP st.next (pcTV u) ∧ Pres st s') :=
  (ac_impl_TreeTouch t s id st hT hs hR hb).mono fun v s' ⟨u, h1, h2, h3, h4, h5⟩ => ⟨u, h1, h2, OwnP.one (own_pc h3), NewP.cons h4 NewP.nil, h5⟩
end Go.Proofs.Ytopcpcoklgepnaa.AM
