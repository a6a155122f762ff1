/- Slices of right states are right; contracts of leaves' sums and of trees touched. -/
import Derived.Test.YtopcpcoklgepnaaB6
namespace Go.Proofs.Ytopcpcoklgepnaa.AM
open Go Go.Proofs
set_option linter.unusedVariables false
set_option linter.unusedSimpArgs false
set_option maxRecDepth 100000
set_option maxHeartbeats 4000000
theorem pw_of {α : Type} {id : α → Int} {l : List α} (h : ∀ (j : Nat) x, l[j]? = some x → ∀ y, 0 < j → l[j - 1]? = some y → id y < id x) : l.Pairwise (fun a b => id a < id b) := by
  have key : ∀ (d i : Nat) (hd : i + d + 1 < l.length), id (l[i]'(by omega)) < id (l[i + d + 1]'hd) := by
    intro d
    induction d with
    | zero =>
      intro i hd
      exact h (i + 1) _ (List.getElem?_eq_getElem hd) _ (by omega) (List.getElem?_eq_getElem (by omega))
    | succ d ih =>
      intro i hd
      have h1 := ih i (by omega)
      have h2 := h (i + (d + 1) + 1) _ (List.getElem?_eq_getElem hd) (l[i + d + 1]'(by omega)) (by omega) (List.getElem?_eq_getElem (by omega))
      omega
  refine List.pairwise_iff_getElem.2 fun i j hi hj hij => ?_
  have := key (j - i - 1) i (by omega)
  simpa only [show i + (j - i - 1) + 1 = j by omega] using this
theorem of_pw {α : Type} {id : α → Int} {l : List α} (h : l.Pairwise (fun a b => id a < id b)) (j : Nat) (x : α) (hx : l[j]? = some x) (y : α) (h0 : 0 < j) (hy : l[j - 1]? = some y) : id y < id x := by
  obtain ⟨hj, rfl⟩ := List.getElem?_eq_some_iff.1 hx
  obtain ⟨hj', rfl⟩ := List.getElem?_eq_some_iff.1 hy
  exact List.pairwise_iff_getElem.1 h (j - 1) j hj' hj (by omega)
theorem floorOf_fl (L : List Int) (id : Int) : ∀ l : List Flr, floorOf (flS L l) id = if leafOf id ∈ L then floorOf l id else 0
  | [] => by simp [flS, floorOf]
  | f :: l => by
    have ih := floorOf_fl L id l
    by_cases hf : leafOf f.id ∈ L
    · rw [show flS L (f :: l) = f :: flS L l from List.filter_cons_of_pos (decide_eq_true hf), floorOf, floorOf]
      by_cases he : f.id = id
      · rw [if_pos he, if_pos he, if_pos (he ▸ hf)]
      · rw [if_neg he, if_neg he, ih]
    · rw [show flS L (f :: l) = flS L l from List.filter_cons_of_neg (by simpa [inL] using hf), floorOf, ih]
      by_cases he : f.id = id
      · rw [if_neg (he ▸ hf), if_neg (he ▸ hf)]
      · rw [if_neg he]
theorem slice_ok {s : Sta} (h : stateOk s) (L : List Int) : stateOk (sliceF s L) := by
  obtain ⟨h1, h2⟩ := h
  have p1 : (itS L s.items).Pairwise (fun a b => Itm.id a < Itm.id b) := (pw_of (id := Itm.id) fun j x hx => (h1 j x hx).2.2.2).filter _
  have p2 : (flS L s.floors).Pairwise (fun a b => Flr.id a < Flr.id b) := (pw_of (id := Flr.id) fun j x hx => (h2 j x hx).2.2).filter _
  refine ⟨fun j x hx => ?_, fun j x hx => ?_⟩
  · obtain ⟨k, hk⟩ := List.getElem?_of_mem ((List.mem_filter.1 (List.mem_of_getElem? hx)).1)
    have hx' := h1 k x hk
    refine ⟨hx'.1, hx'.2.1, ?_, of_pw p1 j x hx⟩
    show floorOf (flS L s.floors) x.id < x.e.inc
    rw [floorOf_fl]
    split
    · exact hx'.2.2.1
    · have := hx'.2.1.1.1; omega
  · obtain ⟨k, hk⟩ := List.getElem?_of_mem ((List.mem_filter.1 (List.mem_of_getElem? hx)).1)
    have hx' := h2 k x hk
    exact ⟨hx'.1, hx'.2.1, of_pw p2 j x hx⟩
theorem slice_big {s : Sta} (h : bigS s) (L : List Int) : bigS (sliceF s L) :=
  ⟨Nat.le_trans (List.length_filter_le _ _) h.1, Nat.le_trans (List.length_filter_le _ _) h.2.1, fun x hx => h.2.2 x ((List.mem_filter.1 hx).1)⟩
open Classical in
noncomputable def leafSum (s : Sta) (k : Int) : Int := if stateOk s ∧ 0 ≤ k ∧ k ≤ 3 then crc (stB (sliceF s [k])) % 1024 else 0
theorem ac_spec_LeafSum (s : SV) (k : Int) (st : St) (hR : RdS st s) (hb : bigS s.x) : C 131 [.agg #[vS s.p s.x.items.length, vS s.q s.x.floors.length], vI k] st (fun v s' => v = vI (leafSum s.x k) ∧ Pres st s') := by
  refine AC.enterX (i := ⟨[2], [2], [0, 1, 2, 4, 12]⟩) [] Try.func131 rfl rfl (by kernel_rfl) (by kernel_rfl) Try.ntmps131 (Nat.le_of_ble_eq_true rfl) rfl ?_
  refine ⟨_, rfl, ?_⟩
  refine AW.cutM (1) st [(1, vI k), (2, vL 2 0 (0)), (4, vI (0))] [(2, 0, [vS s.p s.x.items.length, vS s.q s.x.floors.length])] ⟨rfl, rfl, rfl, trivial⟩ ⟨rfl, trivial⟩ rfl fun ρ0 ff => ?_
  refine ⟨_, op_ldo rfl rfl rfl rfl, ?_⟩
  refine ⟨_, rfl, (ac_spec_StateOk s st hR (by first | assumption | omega)).mono ?_⟩
  rintro _ st ⟨x6, rfl, h6, rfl⟩
  rcases x6 with _|_
  · replace h6 := fun k => Bool.false_ne_true (h6.2 k)
    iterate 2 refine ⟨_, rfl, ?_⟩
    refine AW.cutM (1) st [(1, vI k), (2, vL 2 0 (0)), (4, vI (0)), (12, vB true)] [(2, 0, [vS s.p s.x.items.length, vS s.q s.x.floors.length])] ⟨rfl, rfl, rfl, rfl, trivial⟩ ⟨rfl, trivial⟩ rfl fun ρ0 ff => ?_
    refine cx_sound _ _ _ _ _ ?_
    exact ⟨.inl rfl, _, rfl, congrArg vI (by rw [leafSum, if_neg (fun h => h6 h.1)]), Pres.refl _⟩
  · replace h6 := h6.1 rfl
    refine ⟨_, rfl, ?_⟩
    refine ⟨_, rfl, (ac_spec_l1In k 0 3 st).mono ?_⟩
    rintro _ st ⟨x10, rfl, h10, rfl⟩
    rcases x10 with _|_
    · replace h10 := of_decide_eq_false h10.symm
      iterate 2 refine ⟨_, rfl, ?_⟩
      refine AW.cutM (1) st [(1, vI k), (2, vL 2 0 (0)), (4, vI (0)), (12, vB true)] [(2, 0, [vS s.p s.x.items.length, vS s.q s.x.floors.length])] ⟨rfl, rfl, rfl, rfl, trivial⟩ ⟨rfl, trivial⟩ rfl fun ρ0 ff => ?_
      refine cx_sound _ _ _ _ _ ?_
      exact ⟨.inl rfl, _, rfl, congrArg vI (by rw [leafSum, if_neg (fun h => h10 h.2)]), Pres.refl _⟩
    · replace h10 := of_decide_eq_true h10.symm
      iterate 2 refine ⟨_, rfl, ?_⟩
      refine AW.cutM (1) st [(1, vI k), (2, vL 2 0 (0)), (4, vI (0)), (12, vB false)] [(2, 0, [vS s.p s.x.items.length, vS s.q s.x.floors.length])] ⟨rfl, rfl, rfl, rfl, trivial⟩ ⟨rfl, trivial⟩ rfl fun ρ0 ff => ?_
      refine cx_sound _ _ _ _ _ ?_
      refine ⟨_, op_ldo rfl rfl rfl rfl, ?_⟩
      refine op_litI (k := .i64) (l := [k]) rfl rfl rfl rfl rfl rfl (by decide) ?_
      intro q15 s15 hO15 hP15 hN15
      refine ⟨_, rfl, (ac_spec_l6Slice s q15 [k] s15 (hR.pres hP15) hb (OwnR.rows (f := fI) fI_len hO15) (by show (1 : Nat) ≤ 1048576; omega)).mono ?_⟩
      rintro _ s16 ⟨u16, rfl, hu16, hO16, hN16, hP16⟩
      refine ⟨_, rfl, (ac_spec_l6Bytes u16 s16 hO16.rdS (by rw [hu16]; exact slice_big hb _) (by rw [hu16]; exact slice_ok h6 _)).mono ?_⟩
      rintro _ s17 ⟨q17, rfl, hO17, hN17, hP17⟩
      have hbl := stB_len (s := u16.x) (by rw [hu16]; exact slice_ok h6 _)
      have hbg : bigS u16.x := by rw [hu16]; exact slice_big hb _
      have hb1 : u16.x.items.length ≤ 1048576 := hbg.1
      have hb2 : u16.x.floors.length ≤ 1048576 := hbg.2.1
      have hc0 : 0 ≤ crc (stB u16.x) := (crc_rng (stB_ok _)).1
      refine ⟨_, rfl, (ac_spec_Crc q17 (stB u16.x) s17 (hO17.rows fB_len) (stB_ok _) (by omega)).mono ?_⟩
      rintro _ s17 ⟨rfl, rfl⟩
      refine ⟨_, op_rm (r := crc (stB u16.x) % 1024) rfl rfl rfl (by decide) (tm_emod 1024 hc0), ?_⟩
      refine cx_sound _ _ _ _ _ ?_
      exact ⟨.inl rfl, _, rfl, congrArg vI (by rw [leafSum, if_pos ⟨h6, h10⟩, hu16]), (hP15.trans hP16).trans hP17⟩
theorem ac_impl_LeafSum (s : SV) (k : Int) (st : St) (hR : RdS st s) (hb : bigS s.x) : C 136 [.agg #[vS s.p s.x.items.length, vS s.q s.x.floors.length], vI k] st (fun v s' => v = vI (leafSum s.x k) ∧ Pres st s') := by
  refine AC.enterX (i := ⟨[2], [2], [0, 1, 2, 4, 12]⟩) [] Try.func136 rfl rfl (by kernel_rfl) (by kernel_rfl) Try.ntmps136 (Nat.le_of_ble_eq_true rfl) rfl ?_
  refine ⟨_, rfl, ?_⟩
  refine AW.cutM (1) st [(1, vI k), (2, vL 2 0 (0)), (4, vI (0))] [(2, 0, [vS s.p s.x.items.length, vS s.q s.x.floors.length])] ⟨rfl, rfl, rfl, trivial⟩ ⟨rfl, trivial⟩ rfl fun ρ0 ff => ?_
  refine ⟨_, op_ldo rfl rfl rfl rfl, ?_⟩
  refine ⟨_, rfl, (ac_impl_StateOk s st hR (by first | assumption | omega)).mono ?_⟩
  rintro _ st ⟨x6, rfl, h6, rfl⟩
  rcases x6 with _|_
  · replace h6 := fun k => Bool.false_ne_true (h6.2 k)
    iterate 2 refine ⟨_, rfl, ?_⟩
    refine AW.cutM (1) st [(1, vI k), (2, vL 2 0 (0)), (4, vI (0)), (12, vB true)] [(2, 0, [vS s.p s.x.items.length, vS s.q s.x.floors.length])] ⟨rfl, rfl, rfl, rfl, trivial⟩ ⟨rfl, trivial⟩ rfl fun ρ0 ff => ?_
    refine cx_sound _ _ _ _ _ ?_
    exact ⟨.inl rfl, _, rfl, congrArg vI (by rw [leafSum, if_neg (fun h => h6 h.1)]), Pres.refl _⟩
  · replace h6 := h6.1 rfl
    refine ⟨_, rfl, ?_⟩
    refine ⟨_, rfl, (ac_impl_within k 0 3 st).mono ?_⟩
    rintro _ st ⟨x10, rfl, h10, rfl⟩
    rcases x10 with _|_
    · replace h10 := of_decide_eq_false h10.symm
      iterate 2 refine ⟨_, rfl, ?_⟩
      refine AW.cutM (1) st [(1, vI k), (2, vL 2 0 (0)), (4, vI (0)), (12, vB true)] [(2, 0, [vS s.p s.x.items.length, vS s.q s.x.floors.length])] ⟨rfl, rfl, rfl, rfl, trivial⟩ ⟨rfl, trivial⟩ rfl fun ρ0 ff => ?_
      refine cx_sound _ _ _ _ _ ?_
      exact ⟨.inl rfl, _, rfl, congrArg vI (by rw [leafSum, if_neg (fun h => h10 h.2)]), Pres.refl _⟩
    · replace h10 := of_decide_eq_true h10.symm
      iterate 2 refine ⟨_, rfl, ?_⟩
      refine AW.cutM (1) st [(1, vI k), (2, vL 2 0 (0)), (4, vI (0)), (12, vB false)] [(2, 0, [vS s.p s.x.items.length, vS s.q s.x.floors.length])] ⟨rfl, rfl, rfl, rfl, trivial⟩ ⟨rfl, trivial⟩ rfl fun ρ0 ff => ?_
      refine cx_sound _ _ _ _ _ ?_
      refine ⟨_, op_ldo rfl rfl rfl rfl, ?_⟩
      refine op_litI (k := .i64) (l := [k]) rfl rfl rfl rfl rfl rfl (by decide) ?_
      intro q15 s15 hO15 hP15 hN15
      refine ⟨_, rfl, (ac_impl_Slice s q15 [k] s15 (hR.pres hP15) hb (OwnR.rows (f := fI) fI_len hO15) (by show (1 : Nat) ≤ 1048576; omega) h6).mono ?_⟩
      rintro _ s16 ⟨u16, rfl, hu16, hO16, hN16, hP16⟩
      refine ⟨_, rfl, (ac_impl_StateBytes u16 s16 hO16.rdS (by rw [hu16]; exact slice_big hb _) (by rw [hu16]; exact slice_ok h6 _)).mono ?_⟩
      rintro _ s17 ⟨q17, rfl, hO17, hN17, hP17⟩
      have hbl := stB_len (s := u16.x) (by rw [hu16]; exact slice_ok h6 _)
      have hbg : bigS u16.x := by rw [hu16]; exact slice_big hb _
      have hb1 : u16.x.items.length ≤ 1048576 := hbg.1
      have hb2 : u16.x.floors.length ≤ 1048576 := hbg.2.1
      have hc0 : 0 ≤ crc (stB u16.x) := (crc_rng (stB_ok _)).1
      refine ⟨_, rfl, (ac_impl_Crc q17 (stB u16.x) s17 (hO17.rows fB_len) (stB_ok _) (by omega)).mono ?_⟩
      rintro _ s17 ⟨rfl, rfl⟩
      refine ⟨_, op_rm (r := crc (stB u16.x) % 1024) rfl rfl rfl (by decide) (tm_emod 1024 hc0), ?_⟩
      refine cx_sound _ _ _ _ _ ?_
      exact ⟨.inl rfl, _, rfl, congrArg vI (by rw [leafSum, if_pos ⟨h6, h10⟩, hu16]), (hP15.trans hP16).trans hP17⟩
end Go.Proofs.Ytopcpcoklgepnaa.AM
