/- Contracts of trees touched. -/
import Derived.Test.YtopcpcoklgepnaaB7
namespace Go.Proofs.Ytopcpcoklgepnaa.AM
open Go Go.Proofs
set_option linter.unusedVariables false
set_option linter.unusedSimpArgs false
set_option maxRecDepth 100000
set_option maxHeartbeats 4000000
open Classical in
noncomputable def touchF (t : Tr) (s : Sta) (id : Int) : Tr :=
  if stateOk s ∧ (0 ≤ id ∧ id ≤ 4) ∧ t.leaves.length = 4 then ⟨t.leaves.set (leafOf id).toNat (leafSum s (leafOf id)), rootF (t.leaves.set (leafOf id).toNat (leafSum s (leafOf id)))⟩ else t
theorem touch_no {t : Tr} {s : Sta} {id : Int} (h : ¬ (stateOk s ∧ (0 ≤ id ∧ id ≤ 4) ∧ t.leaves.length = 4)) : touchF t s id = t := if_neg h
theorem touch_yes {t : Tr} {s : Sta} {id : Int} (h : stateOk s ∧ (0 ≤ id ∧ id ≤ 4) ∧ t.leaves.length = 4) : touchF t s id = ⟨t.leaves.set (leafOf id).toNat (leafSum s (leafOf id)), rootF (t.leaves.set (leafOf id).toNat (leafSum s (leafOf id)))⟩ := if_pos h
theorem tv_x {u t : TV} (h1 : u.l = t.l) (h2 : u.root = t.root) : u.x = t.x := by show (⟨u.l, u.root⟩ : Tr) = ⟨t.l, t.root⟩; rw [h1, h2]
theorem ac_spec_TreeTouch (t : TV) (s : SV) (id : Int) (st : St) (hT : Rows st 1 fI t.p t.l) (hs : szOk t.l.length) (hR : RdS st s) (hb : bigS s.x) : C 58 [.agg #[vS t.p t.l.length, vI t.root], .agg #[vS s.p s.x.items.length, vS s.q s.x.floors.length], vI id] st (fun v s' => ∃ u : TV, v = .agg #[vS u.p u.l.length, vI u.root] ∧ u.x = touchF t.x s.x id ∧ OwnR s' 1 fI u.p u.l ∧ New st.next u.p ∧ Pres st s') := by
  have hs : t.l.length ≤ 1048576 := hs
  refine AC.enterX (i := ⟨[3, 4, 6, 7], [3, 4, 6, 7, 19, 25, 34, 37], [0, 1, 2, 3, 4, 6, 7, 23]⟩) [(4, [3, 6, 7], [1, 4])] Try.func58 rfl rfl (by kernel_rfl) (by kernel_rfl) Try.ntmps58 (Nat.le_of_ble_eq_true rfl) rfl ?_
  iterate 3 refine ⟨_, rfl, ?_⟩
  refine AW.cutM (3) st [(2, vI id), (3, vL 3 0 (0)), (4, vL 4 0 (1)), (6, vL 6 0 (2))] [(3, 0, [vS t.p t.l.length, vI t.root]), (4, 1, [vS s.p s.x.items.length, vS s.q s.x.floors.length]), (6, 2, [.slice none 0 0, vI 0])] ⟨rfl, rfl, rfl, rfl, trivial⟩ ⟨rfl, rfl, rfl, trivial⟩ rfl fun ρ0 ff => ?_
  refine ⟨_, op_ldo rfl rfl rfl rfl, ?_⟩
  refine ⟨_, rfl, (ac_spec_l6Copy t st hT hs).mono ?_⟩
  rintro _ s9 ⟨u, rfl, hul, hur, hO9, hN9, hP9⟩
  refine ⟨_, rfl, ?_⟩
  refine ⟨_, op_sto rfl rfl rfl rfl rfl rfl rfl, ?_⟩
  refine AW.cutM (4) s9 [(2, vI id), (3, vL 3 0 (0)), (4, vL 4 0 (1)), (6, vL 6 0 (2)), (7, vL 7 0 (3))] [(3, 0, [vS t.p t.l.length, vI t.root]), (4, 1, [vS s.p s.x.items.length, vS s.q s.x.floors.length]), (6, 2, [.slice none 0 0, vI 0]), (7, 3, [vS u.p u.l.length, vI u.root])] ⟨rfl, rfl, rfl, rfl, rfl, trivial⟩ ⟨rfl, rfl, rfl, rfl, trivial⟩ rfl fun ρ0 ff => ?_
  refine ⟨_, op_ldo rfl rfl rfl rfl, ?_⟩
  refine ⟨_, rfl, (ac_spec_StateOk s s9 (hR.pres hP9) (by first | assumption | omega)).mono ?_⟩
  rintro _ s9 ⟨x11, rfl, h11, rfl⟩
  rcases x11 with _|_
  · replace h11 := fun k => Bool.false_ne_true (h11.2 k)
    iterate 3 refine ⟨_, rfl, ?_⟩
    refine AW.cutM (4) s9 [(2, vI id), (4, vL 4 0 (1)), (6, vL 6 0 (2)), (7, vL 7 0 (3)), (23, vB true)] [(4, 1, [vS s.p s.x.items.length, vS s.q s.x.floors.length]), (6, 2, [.slice none 0 0, vI 0]), (7, 3, [vS u.p u.l.length, vI u.root])] ⟨rfl, rfl, rfl, rfl, rfl, trivial⟩ ⟨rfl, rfl, rfl, trivial⟩ rfl fun ρ0 ff => ?_
    refine ⟨_, op_ldo rfl rfl rfl rfl, ?_⟩
    refine ⟨_, op_sto rfl rfl rfl rfl rfl rfl rfl, ?_⟩
    refine cx_sound _ _ _ _ _ ?_
    exact ⟨.inl rfl, _, rfl, u, rfl, by rw [touch_no (fun h => h11 h.1)]; exact tv_x hul hur, hO9, hN9, hP9⟩
  · replace h11 := h11.1 rfl
    refine ⟨_, rfl, ?_⟩
    refine ⟨_, rfl, (ac_spec_l3Node id s9).mono ?_⟩
    rintro _ s9 ⟨x15, rfl, h15, rfl⟩
    rcases x15 with _|_
    · replace h15 := of_decide_eq_false h15.symm
      iterate 3 refine ⟨_, rfl, ?_⟩
      refine AW.cutM (4) s9 [(2, vI id), (4, vL 4 0 (1)), (6, vL 6 0 (2)), (7, vL 7 0 (3)), (23, vB true)] [(4, 1, [vS s.p s.x.items.length, vS s.q s.x.floors.length]), (6, 2, [.slice none 0 0, vI 0]), (7, 3, [vS u.p u.l.length, vI u.root])] ⟨rfl, rfl, rfl, rfl, rfl, trivial⟩ ⟨rfl, rfl, rfl, trivial⟩ rfl fun ρ0 ff => ?_
      refine ⟨_, op_ldo rfl rfl rfl rfl, ?_⟩
      refine ⟨_, op_sto rfl rfl rfl rfl rfl rfl rfl, ?_⟩
      refine cx_sound _ _ _ _ _ ?_
      exact ⟨.inl rfl, _, rfl, u, rfl, by rw [touch_no (fun h => h15 h.2.1)]; exact tv_x hul hur, hO9, hN9, hP9⟩
    · replace h15 := of_decide_eq_true h15.symm
      iterate 3 refine ⟨_, rfl, ?_⟩
      refine ⟨_, op_ldo rfl rfl rfl rfl, ?_⟩
      iterate 2 refine ⟨_, rfl, ?_⟩
      rintro (_|_) h22
      · replace h22 : (t.l.length : Int) = (4) := bne_eq_false_iff_eq.1 h22
        refine ⟨_, rfl, ?_⟩
        refine AW.cutM (4) s9 [(2, vI id), (4, vL 4 0 (1)), (6, vL 6 0 (2)), (7, vL 7 0 (3)), (23, vB false)] [(4, 1, [vS s.p s.x.items.length, vS s.q s.x.floors.length]), (6, 2, [.slice none 0 0, vI 0]), (7, 3, [vS u.p u.l.length, vI u.root])] ⟨rfl, rfl, rfl, rfl, rfl, trivial⟩ ⟨rfl, rfl, rfl, trivial⟩ rfl fun ρ0 ff => ?_
        have h4 : u.l.length = 4 := by rw [hul]; omega
        have hlr := leafOf_rng h15
        have ⟨a, ha⟩ := hO9.some (by omega)
        refine cx_sound _ _ _ _ _ ?_
        refine ⟨_, rfl, ?_⟩
        refine ⟨_, op_ldo rfl rfl rfl rfl, ?_⟩
        refine ⟨ld_own rfl rfl rfl, ?_⟩
        refine ⟨_, rfl, (ac_spec_LeafOf id s9).mono ?_⟩
        rintro _ s28 ⟨rfl, hP28⟩
        refine ⟨hP28.2, ?_⟩
        refine ⟨_, op_ldo rfl rfl rfl rfl, ?_⟩
        refine ⟨ld_own rfl rfl rfl, ?_⟩
        refine ⟨_, rfl, (ac_spec_LeafOf id s28).mono ?_⟩
        rintro _ s31 ⟨rfl, hP31⟩
        refine ⟨hP31.low hP28, ?_⟩
        refine ⟨_, rfl, (ac_spec_LeafSum s (leafOf id) s31 (hR.pres ((hP9.trans hP28).trans hP31)) (by first | assumption | omega)).mono ?_⟩
        rintro _ s32 ⟨rfl, hP32⟩
        refine ⟨hP32.low (hP28.trans hP31), ?_⟩
        refine ⟨_, op_idx (j := leafOf id) (n := u.l.length) (q := ⟨a, 0, none⟩) rfl (congrArg (fun v => vS v u.l.length) ha) rfl rfl rfl hlr.1 (by omega), ?_⟩
        refine op_put (st := s32) (f := fI) (j := (leafOf id).toNat) (l := u.l) (y := leafSum s.x (leafOf id)) (p := u.p) (d := 0 + (leafOf id).toNat * 1) rfl rfl (Nat.zero_add _) rfl rfl fI_len rfl rfl (by omega) (((hP28.trans hP31).trans hP32).ownR hO9) ha ?_
        intro s5 hO5 hP5 hn5
        refine AW.cutM (4) s5 [(6, vL 6 0 (2)), (7, vL 7 0 (3))] [(6, 2, [.slice none 0 0, vI 0]), (7, 3, [vS u.p u.l.length, vI u.root])] ⟨rfl, rfl, trivial⟩ ⟨rfl, rfl, trivial⟩ rfl fun ρ0 ff => ?_
        have hQ5 : Pres st s5 := hP5.pres (hP9.trans ((hP28.trans hP31).trans hP32)) hN9
        refine ⟨_, rfl, ?_⟩
        refine ⟨_, op_ldo rfl rfl rfl rfl, ?_⟩
        have hroot := ac_spec_l6Root u.p (u.l.set (leafOf id).toNat (leafSum s.x (leafOf id))) s5 (hO5.rows fI_len) (by rw [List.length_set]; show u.l.length ≤ 1048576; omega)
        rw [List.length_set] at hroot
        refine ⟨_, rfl, (hroot).mono ?_⟩
        rintro _ s36 ⟨rfl, hP36⟩
        refine ⟨_, rfl, ?_⟩
        refine ⟨_, op_sto rfl rfl rfl rfl rfl rfl rfl, ?_⟩
        refine AW.cutM (4) s36 [(6, vL 6 0 (2)), (7, vL 7 0 (3))] [(6, 2, [.slice none 0 0, vI 0]), (7, 3, [vS u.p u.l.length, vI (rootF (u.l.set (leafOf id).toNat (leafSum s.x (leafOf id))))])] ⟨rfl, rfl, trivial⟩ ⟨rfl, rfl, trivial⟩ rfl fun ρ0 ff => ?_
        refine ⟨_, op_ldo rfl rfl rfl rfl, ?_⟩
        refine ⟨_, op_sto rfl rfl rfl rfl rfl rfl rfl, ?_⟩
        refine cx_sound _ _ _ _ _ ?_
        refine ⟨.inl rfl, _, rfl, ⟨⟨u.p, u.l.set (leafOf id).toNat (leafSum s.x (leafOf id))⟩, rootF (u.l.set (leafOf id).toNat (leafSum s.x (leafOf id)))⟩, ?_, ?_, hP36.ownR hO5, hN9, hQ5.trans hP36⟩
        · show Value.agg #[vS u.p u.l.length, _] = Value.agg #[vS u.p (u.l.set _ _).length, _]
          rw [List.length_set]
        · rw [touch_yes ⟨h11, h15, show t.l.length = 4 by omega⟩]
          show (⟨u.l.set _ _, _⟩ : Tr) = _
          rw [hul]
      · replace h22 : ¬ ((t.l.length : Int) = (4)) := bne_iff_ne.1 h22
        refine ⟨_, rfl, ?_⟩
        refine AW.cutM (4) s9 [(2, vI id), (4, vL 4 0 (1)), (6, vL 6 0 (2)), (7, vL 7 0 (3)), (23, vB true)] [(4, 1, [vS s.p s.x.items.length, vS s.q s.x.floors.length]), (6, 2, [.slice none 0 0, vI 0]), (7, 3, [vS u.p u.l.length, vI u.root])] ⟨rfl, rfl, rfl, rfl, rfl, trivial⟩ ⟨rfl, rfl, rfl, trivial⟩ rfl fun ρ0 ff => ?_
        refine ⟨_, op_ldo rfl rfl rfl rfl, ?_⟩
        refine ⟨_, op_sto rfl rfl rfl rfl rfl rfl rfl, ?_⟩
        refine cx_sound _ _ _ _ _ ?_
        exact ⟨.inl rfl, _, rfl, u, rfl, by rw [touch_no (fun h => h22 (by have h4 : t.l.length = 4 := h.2.2; omega))]; exact tv_x hul hur, hO9, hN9, hP9⟩
theorem ac_impl_TreeTouch (t : TV) (s : SV) (id : Int) (st : St) (hT : Rows st 1 fI t.p t.l) (hs : szOk t.l.length) (hR : RdS st s) (hb : bigS s.x) : C 60 [.agg #[vS t.p t.l.length, vI t.root], .agg #[vS s.p s.x.items.length, vS s.q s.x.floors.length], vI id] st (fun v s' => ∃ u : TV, v = .agg #[vS u.p u.l.length, vI u.root] ∧ u.x = touchF t.x s.x id ∧ OwnR s' 1 fI u.p u.l ∧ New st.next u.p ∧ Pres st s') := by
  have hs : t.l.length ≤ 1048576 := hs
  refine AC.enterX (i := ⟨[3, 4, 6, 7], [3, 4, 6, 7, 20, 28, 35, 38], [0, 1, 2, 3, 4, 6, 7, 8, 24]⟩) [(5, [5], [1])] Try.func60 rfl rfl (by kernel_rfl) (by kernel_rfl) Try.ntmps60 (Nat.le_of_ble_eq_true rfl) rfl ?_
  iterate 3 refine ⟨_, rfl, ?_⟩
  refine AW.cutM (3) st [(2, vI id), (3, vL 3 0 (0)), (4, vL 4 0 (1)), (6, vL 6 0 (2))] [(3, 0, [vS t.p t.l.length, vI t.root]), (4, 1, [vS s.p s.x.items.length, vS s.q s.x.floors.length]), (6, 2, [.slice none 0 0, vI 0])] ⟨rfl, rfl, rfl, rfl, trivial⟩ ⟨rfl, rfl, rfl, trivial⟩ rfl fun ρ0 ff => ?_
  refine ⟨_, op_ldo rfl rfl rfl rfl, ?_⟩
  refine ⟨_, rfl, (ac_impl_copyTree t st hT hs).mono ?_⟩
  rintro _ s9 ⟨u, rfl, hul, hur, hO9, hN9, hP9⟩
  refine ⟨_, rfl, ?_⟩
  refine ⟨_, op_sto rfl rfl rfl rfl rfl rfl rfl, ?_⟩
  refine AW.cutM (4) s9 [(2, vI id), (3, vL 3 0 (0)), (4, vL 4 0 (1)), (6, vL 6 0 (2)), (7, vL 7 0 (3))] [(3, 0, [vS t.p t.l.length, vI t.root]), (4, 1, [vS s.p s.x.items.length, vS s.q s.x.floors.length]), (6, 2, [.slice none 0 0, vI 0]), (7, 3, [vS u.p u.l.length, vI u.root])] ⟨rfl, rfl, rfl, rfl, rfl, trivial⟩ ⟨rfl, rfl, rfl, rfl, trivial⟩ rfl fun ρ0 ff => ?_
  refine ⟨_, op_ldo rfl rfl rfl rfl, ?_⟩
  refine ⟨_, rfl, (ac_impl_StateOk s s9 (hR.pres hP9) (by first | assumption | omega)).mono ?_⟩
  rintro _ s9 ⟨x12, rfl, h12, rfl⟩
  rcases x12 with _|_
  · replace h12 := fun k => Bool.false_ne_true (h12.2 k)
    iterate 3 refine ⟨_, rfl, ?_⟩
    refine AW.cutM (4) s9 [(2, vI id), (4, vL 4 0 (1)), (6, vL 6 0 (2)), (7, vL 7 0 (3)), (24, vB true)] [(4, 1, [vS s.p s.x.items.length, vS s.q s.x.floors.length]), (6, 2, [.slice none 0 0, vI 0]), (7, 3, [vS u.p u.l.length, vI u.root])] ⟨rfl, rfl, rfl, rfl, rfl, trivial⟩ ⟨rfl, rfl, rfl, trivial⟩ rfl fun ρ0 ff => ?_
    refine ⟨_, op_ldo rfl rfl rfl rfl, ?_⟩
    refine ⟨_, op_sto rfl rfl rfl rfl rfl rfl rfl, ?_⟩
    refine cx_sound _ _ _ _ _ ?_
    exact ⟨.inl rfl, _, rfl, u, rfl, by rw [touch_no (fun h => h12 h.1)]; exact tv_x hul hur, hO9, hN9, hP9⟩
  · replace h12 := h12.1 rfl
    refine ⟨_, rfl, ?_⟩
    refine ⟨_, rfl, (ac_impl_isNode id s9).mono ?_⟩
    rintro _ s9 ⟨x16, rfl, h16, rfl⟩
    rcases x16 with _|_
    · replace h16 := of_decide_eq_false h16.symm
      iterate 3 refine ⟨_, rfl, ?_⟩
      refine AW.cutM (4) s9 [(2, vI id), (4, vL 4 0 (1)), (6, vL 6 0 (2)), (7, vL 7 0 (3)), (24, vB true)] [(4, 1, [vS s.p s.x.items.length, vS s.q s.x.floors.length]), (6, 2, [.slice none 0 0, vI 0]), (7, 3, [vS u.p u.l.length, vI u.root])] ⟨rfl, rfl, rfl, rfl, rfl, trivial⟩ ⟨rfl, rfl, rfl, trivial⟩ rfl fun ρ0 ff => ?_
      refine ⟨_, op_ldo rfl rfl rfl rfl, ?_⟩
      refine ⟨_, op_sto rfl rfl rfl rfl rfl rfl rfl, ?_⟩
      refine cx_sound _ _ _ _ _ ?_
      exact ⟨.inl rfl, _, rfl, u, rfl, by rw [touch_no (fun h => h16 h.2.1)]; exact tv_x hul hur, hO9, hN9, hP9⟩
    · replace h16 := of_decide_eq_true h16.symm
      iterate 3 refine ⟨_, rfl, ?_⟩
      refine ⟨_, op_ldo rfl rfl rfl rfl, ?_⟩
      iterate 2 refine ⟨_, rfl, ?_⟩
      rintro (_|_) h23
      · replace h23 : (t.l.length : Int) = (4) := bne_eq_false_iff_eq.1 h23
        refine ⟨_, rfl, ?_⟩
        refine AW.cutM (4) s9 [(2, vI id), (4, vL 4 0 (1)), (6, vL 6 0 (2)), (7, vL 7 0 (3)), (24, vB false)] [(4, 1, [vS s.p s.x.items.length, vS s.q s.x.floors.length]), (6, 2, [.slice none 0 0, vI 0]), (7, 3, [vS u.p u.l.length, vI u.root])] ⟨rfl, rfl, rfl, rfl, rfl, trivial⟩ ⟨rfl, rfl, rfl, trivial⟩ rfl fun ρ0 ff => ?_
        have h4 : u.l.length = 4 := by rw [hul]; omega
        have hlr := leafOf_rng h16
        have ⟨a, ha⟩ := hO9.some (by omega)
        refine cx_sound _ _ _ _ _ ?_
        refine ⟨_, rfl, (ac_impl_LeafOf id s9).mono ?_⟩
        rintro _ s27 ⟨rfl, hP27⟩
        refine AW.cutM (4) s27 [(4, vL 4 0 (1)), (6, vL 6 0 (2)), (7, vL 7 0 (3)), (8, vI (leafOf id))] [(4, 1, [vS s.p s.x.items.length, vS s.q s.x.floors.length]), (6, 2, [.slice none 0 0, vI 0]), (7, 3, [vS u.p u.l.length, vI u.root])] ⟨rfl, rfl, rfl, rfl, trivial⟩ ⟨rfl, rfl, rfl, trivial⟩ rfl fun ρ0 ff => ?_
        refine ⟨_, rfl, ?_⟩
        refine ⟨_, op_ldo rfl rfl rfl rfl, ?_⟩
        refine ⟨ld_own rfl rfl rfl, ?_⟩
        refine ⟨_, op_ldo rfl rfl rfl rfl, ?_⟩
        refine ⟨_, rfl, (ac_impl_LeafSum s (leafOf id) s27 (hR.pres (hP9.trans hP27)) (by first | assumption | omega)).mono ?_⟩
        rintro _ s33 ⟨rfl, hP33⟩
        refine ⟨hP33.2, ?_⟩
        refine ⟨_, op_idx (j := leafOf id) (n := u.l.length) (q := ⟨a, 0, none⟩) rfl (congrArg (fun v => vS v u.l.length) ha) rfl rfl rfl hlr.1 (by omega), ?_⟩
        refine op_put (st := s33) (f := fI) (j := (leafOf id).toNat) (l := u.l) (y := leafSum s.x (leafOf id)) (p := u.p) (d := 0 + (leafOf id).toNat * 1) rfl rfl (Nat.zero_add _) rfl rfl fI_len rfl rfl (by omega) ((hP27.trans hP33).ownR hO9) ha ?_
        intro s5 hO5 hP5 hn5
        refine AW.cutM (4) s5 [(6, vL 6 0 (2)), (7, vL 7 0 (3))] [(6, 2, [.slice none 0 0, vI 0]), (7, 3, [vS u.p u.l.length, vI u.root])] ⟨rfl, rfl, trivial⟩ ⟨rfl, rfl, trivial⟩ rfl fun ρ0 ff => ?_
        have hQ5 : Pres st s5 := hP5.pres (hP9.trans (hP27.trans hP33)) hN9
        refine ⟨_, rfl, ?_⟩
        refine ⟨_, op_ldo rfl rfl rfl rfl, ?_⟩
        have hroot := ac_impl_rootOf u.p (u.l.set (leafOf id).toNat (leafSum s.x (leafOf id))) s5 (hO5.rows fI_len) (by rw [List.length_set]; show u.l.length ≤ 1048576; omega)
        rw [List.length_set] at hroot
        refine ⟨_, rfl, (hroot).mono ?_⟩
        rintro _ s36 ⟨rfl, hP36⟩
        refine ⟨_, rfl, ?_⟩
        refine ⟨_, op_sto rfl rfl rfl rfl rfl rfl rfl, ?_⟩
        refine AW.cutM (4) s36 [(6, vL 6 0 (2)), (7, vL 7 0 (3))] [(6, 2, [.slice none 0 0, vI 0]), (7, 3, [vS u.p u.l.length, vI (rootF (u.l.set (leafOf id).toNat (leafSum s.x (leafOf id))))])] ⟨rfl, rfl, trivial⟩ ⟨rfl, rfl, trivial⟩ rfl fun ρ0 ff => ?_
        refine ⟨_, op_ldo rfl rfl rfl rfl, ?_⟩
        refine ⟨_, op_sto rfl rfl rfl rfl rfl rfl rfl, ?_⟩
        refine cx_sound _ _ _ _ _ ?_
        refine ⟨.inl rfl, _, rfl, ⟨⟨u.p, u.l.set (leafOf id).toNat (leafSum s.x (leafOf id))⟩, rootF (u.l.set (leafOf id).toNat (leafSum s.x (leafOf id)))⟩, ?_, ?_, hP36.ownR hO5, hN9, hQ5.trans hP36⟩
        · show Value.agg #[vS u.p u.l.length, _] = Value.agg #[vS u.p (u.l.set _ _).length, _]
          rw [List.length_set]
        · rw [touch_yes ⟨h12, h16, show t.l.length = 4 by omega⟩]
          show (⟨u.l.set _ _, _⟩ : Tr) = _
          rw [hul]
      · replace h23 : ¬ ((t.l.length : Int) = (4)) := bne_iff_ne.1 h23
        refine ⟨_, rfl, ?_⟩
        refine AW.cutM (4) s9 [(2, vI id), (4, vL 4 0 (1)), (6, vL 6 0 (2)), (7, vL 7 0 (3)), (24, vB true)] [(4, 1, [vS s.p s.x.items.length, vS s.q s.x.floors.length]), (6, 2, [.slice none 0 0, vI 0]), (7, 3, [vS u.p u.l.length, vI u.root])] ⟨rfl, rfl, rfl, rfl, rfl, trivial⟩ ⟨rfl, rfl, rfl, trivial⟩ rfl fun ρ0 ff => ?_
        refine ⟨_, op_ldo rfl rfl rfl rfl, ?_⟩
        refine ⟨_, op_sto rfl rfl rfl rfl rfl rfl rfl, ?_⟩
        refine cx_sound _ _ _ _ _ ?_
        exact ⟨.inl rfl, _, rfl, u, rfl, by rw [touch_no (fun h => h23 (by have h4 : t.l.length = 4 := h.2.2; omega))]; exact tv_x hul hur, hO9, hN9, hP9⟩
end Go.Proofs.Ytopcpcoklgepnaa.AM
