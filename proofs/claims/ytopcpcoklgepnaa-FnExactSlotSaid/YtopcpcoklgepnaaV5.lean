/- Messages checked. -/
import Derived.Test.YtopcpcoklgepnaaV4
namespace Go.Proofs.Ytopcpcoklgepnaa.AM
open Go Go.Proofs
set_option linter.unusedVariables false
set_option linter.unusedSimpArgs false
set_option maxRecDepth 100000
set_option maxHeartbeats 4000000
def numsOk (l : List Int) (most top : Int) : Prop := (l.length : Int) ≤ most ∧ ∀ (j : Nat) x, l[j]? = some x → 0 ≤ x ∧ x ≤ top
def trOk (t : Tr) : Prop := if t.leaves.length = 0 then t.root = 0 else t.leaves.length = 4 ∧ (∀ (j : Nat) x, t.leaves[j]? = some x → 0 ≤ x ∧ x ≤ 1023) ∧ (0 ≤ t.root ∧ t.root ≤ 1023)
def incOk (l : List Int) : Prop := ∀ (j : Nat) x, l[j]? = some x → (0 ≤ x ∧ x ≤ 3) ∧ ∀ y, 0 < j → l[j - 1]? = some y → y < x
def msgOk (m : Mg) : Prop := ((0 ≤ m.kind ∧ m.kind ≤ 5) ∧ (0 ≤ m.frm ∧ m.frm ≤ 4) ∧ (0 ≤ m.to ∧ m.to ≤ 4) ∧ ¬ m.frm = m.to) ∧ ((0 ≤ m.num ∧ m.num ≤ 100000) ∧ (0 ≤ m.hi ∧ m.hi ≤ 100000)) ∧ trOk m.tree ∧ numsOk m.vec 5 100000 ∧ incOk m.leaves ∧ stateOk m.part ∧ marksOk m.marks
theorem inc_ge {l : List Int} (h : incOk l) : ∀ (j : Nat) x, l[j]? = some x → (j : Int) ≤ x := by
  intro j
  induction j with
  | zero => intro x hx; have := (h 0 x hx).1.1; omega
  | succ j ih =>
    intro x hx
    have hj := (List.getElem?_eq_some_iff.1 hx).1
    have hy : l[j]? = some l[j] := List.getElem?_eq_getElem (by omega)
    have h1 := ih _ hy
    have h2 := (h (j + 1) x hx).2 l[j] (by omega) hy
    omega
theorem inc_len {l : List Int} (h : incOk l) : l.length ≤ 4 := by
  rcases Nat.lt_or_ge 4 l.length with h1 | h1
  · have hx : l[4]? = some l[4] := List.getElem?_eq_getElem h1
    have h2 := inc_ge h 4 _ hx
    have h3 := (h 4 _ hx).1.2
    omega
  · exact h1
theorem inc_nums {l : List Int} (h : incOk l) : numsOk l 4 3 := ⟨by have := inc_len h; omega, fun j x hx => (h j x hx).1⟩
theorem ac_spec_l10Nums (p : Option Addr) (l : List Int) (most top : Int) (st : St) (hR : Rows st 1 fI p l) (hs : szOk l.length) : C 100 [vS p l.length, vI most, vI top] st (fun v s => ∃ x, v = .bool x ∧ (x = true ↔ numsOk l most top) ∧ s = st) := by
  have hs : l.length ≤ 1048576 := hs
  refine AC.enterX (i := ⟨[], [], [0, 1, 2, 6, 7, 11, 15, 24]⟩) [] Try.func100 rfl rfl (by kernel_rfl) (by kernel_rfl) Try.ntmps100 (Nat.le_of_ble_eq_true rfl) rfl ?_
  refine AW.cut lo0 st [(0, vS p l.length), (1, vI most), (2, vI top), (6, vB false)] ⟨rfl, rfl, rfl, rfl, trivial⟩ fun ρ0 => ?_
  iterate 2 refine ⟨_, rfl, ?_⟩
  rintro (_|_) h11
  · replace h11 : ¬ ((l.length : Int) > most) := of_decide_eq_false h11
    refine AW.cut lo0 st [(0, vS p l.length), (2, vI top), (6, vB false), (11, vB false)] ⟨rfl, rfl, rfl, rfl, trivial⟩ fun ρ0 => ?_
    refine cx_sound _ _ _ _ _ ?_
    refine AW.cut lo0 st [(0, vS p l.length), (2, vI top), (6, vB false), (7, vI (0))] ⟨rfl, rfl, rfl, rfl, trivial⟩ fun ρ0 => ?_
    refine AW.loop0 (fun i : Nat => [(0, vS p l.length), (2, vI top), (7, vI (i : Int))]) (fun m (i : Nat) st' => m = l.length - i ∧ i ≤ l.length ∧ (∀ (j : Nat) x, j < i → l[j]? = some x → 0 ≤ x ∧ x ≤ top) ∧ st = st') 0 _ ⟨rfl, rfl, rfl, trivial⟩ rfl ⟨rfl, Nat.zero_le _, fun j x h => absurd h (Nat.not_lt_zero _), rfl⟩ ?_
    rintro m i ρ0 st' ⟨rfl, hi, hok, rfl⟩
    iterate 2 refine ⟨_, rfl, ?_⟩
    rintro (_|_) h15
    · replace h15 : ¬ ((i : Int) < (l.length : Int)) := of_decide_eq_false h15
      refine AW.cut lo0 st [(0, vS p l.length), (2, vI top), (7, vI (i : Int)), (15, vB false)] ⟨rfl, rfl, rfl, rfl, trivial⟩ fun ρ0 => ?_
      refine cx_sound _ _ _ _ _ ?_
      refine cx_sound _ _ _ _ _ ?_
      exact ⟨.inl rfl, _, rfl, true, rfl, ⟨fun _ => ⟨by omega, fun j x hx => hok j x (by have := (List.getElem?_eq_some_iff.1 hx).1; omega) hx⟩, fun _ => rfl⟩, rfl⟩
    · replace h15 : (i : Int) < (l.length : Int) := of_decide_eq_true h15
      refine AW.cut lo0 st [(0, vS p l.length), (2, vI top), (7, vI (i : Int)), (15, vB true)] ⟨rfl, rfl, rfl, rfl, trivial⟩ fun ρ0 => ?_
      refine cx_sound _ _ _ _ _ ?_
      refine op_at i hR (by omega) rfl rfl rfl rfl rfl rfl rfl ?_
      intro x20 b20 d20 k20 hy20 hb20 hm20 hc20 ho20
      refine ⟨_, op_ldc (i := 0) rfl rfl rfl rfl hm20 hc20 rfl rfl, ?_⟩
      refine ⟨_, rfl, (ac_spec_l1In x20 0 top st).mono ?_⟩
      rintro _ st ⟨x23, rfl, h23, rfl⟩
      rcases x23 with _|_
      · replace h23 := of_decide_eq_false h23.symm
        refine ⟨_, rfl, ?_⟩
        refine AW.cut lo0 st [(0, vS p l.length), (2, vI top), (7, vI (i : Int)), (15, vB true), (24, vB true)] ⟨rfl, rfl, rfl, rfl, rfl, trivial⟩ fun ρ0 => ?_
        refine cx_sound _ _ _ _ _ ?_
        exact ⟨.inl rfl, _, rfl, false, rfl, ⟨fun h => absurd h Bool.false_ne_true, fun h => (show False from (absurd (h.2 i x20 hy20) h23)).elim⟩, rfl⟩
      · replace h23 := of_decide_eq_true h23.symm
        refine ⟨_, rfl, ?_⟩
        refine AW.cut lo0 st [(0, vS p l.length), (2, vI top), (7, vI (i : Int)), (15, vB true), (24, vB false)] ⟨rfl, rfl, rfl, rfl, rfl, trivial⟩ fun ρ0 => ?_
        refine cx_sound _ _ _ _ _ ?_
        have ew17 : IntKind.wrap .i64 ((i : Int) + (1)) = ((i + 1 : Nat) : Int) := (wrap_i64 (by omega) (by omega)).trans (by omega)
        refine ⟨_, rfl, ?_⟩
        refine ⟨i + 1, l.length - (i + 1), by omega, ⟨rfl, rfl, congrArg (Value.int .i64) ew17, trivial⟩, rfl, rfl, by omega, fun j x hj hx => ?_, rfl⟩
        rcases Nat.lt_or_ge j i with h | h
        · exact hok j x h hx
        · obtain rfl : j = i := by omega
          rw [hy20] at hx; injection hx with hx; rw [← hx]; exact h23
  · replace h11 : (l.length : Int) > most := of_decide_eq_true h11
    refine AW.cut lo0 st [(0, vS p l.length), (2, vI top), (6, vB false), (11, vB true)] ⟨rfl, rfl, rfl, rfl, trivial⟩ fun ρ0 => ?_
    refine cx_sound _ _ _ _ _ ?_
    exact ⟨.inl rfl, _, rfl, false, rfl, ⟨fun h => absurd h Bool.false_ne_true, fun h => (show False from (absurd h.1 (by omega))).elim⟩, rfl⟩
theorem ac_spec_l10Tree (t : TV) (st : St) (hR : Rows st 1 fI t.p t.l) (hs : szOk t.l.length) : C 99 [.agg #[vS t.p t.l.length, vI t.root]] st (fun v s => ∃ x, v = .bool x ∧ (x = true ↔ trOk t.x) ∧ s = st) := by
  refine AC.enterX (i := ⟨[1], [1, 3, 7, 10, 15, 20], [0, 1, 2, 6]⟩) [] Try.func99 rfl rfl (by kernel_rfl) (by kernel_rfl) Try.ntmps99 (Nat.le_of_ble_eq_true rfl) rfl ?_
  refine ⟨_, rfl, ?_⟩
  refine AW.cutM (1) st [(1, vL 1 0 (0)), (2, vB false)] [(1, 0, [vS t.p t.l.length, vI t.root])] ⟨rfl, rfl, trivial⟩ ⟨rfl, trivial⟩ rfl fun ρ0 ff => ?_
  refine ⟨_, rfl, ?_⟩
  refine ⟨_, op_ldo rfl rfl rfl rfl, ?_⟩
  iterate 2 refine ⟨_, rfl, ?_⟩
  rintro (_|_) h6
  · replace h6 : ¬ ((t.l.length : Int) = (0)) := beq_eq_false_iff_ne.1 h6
    refine AW.cutM (1) st [(1, vL 1 0 (0)), (2, vB false), (6, vB false)] [(1, 0, [vS t.p t.l.length, vI t.root])] ⟨rfl, rfl, rfl, trivial⟩ ⟨rfl, trivial⟩ rfl fun ρ0 ff => ?_
    have h0 : ¬ t.l.length = 0 := by omega
    refine cx_sound _ _ _ _ _ ?_
    refine ⟨_, rfl, ?_⟩
    refine ⟨_, op_ldo rfl rfl rfl rfl, ?_⟩
    iterate 2 refine ⟨_, rfl, ?_⟩
    rintro (_|_) h13
    · replace h13 : ¬ ((t.l.length : Int) = (4)) := beq_eq_false_iff_ne.1 h13
      iterate 2 refine ⟨_, rfl, ?_⟩
      refine cx_sound _ _ _ _ _ ?_
      exact ⟨.inl rfl, _, rfl, false, rfl, ⟨fun h => absurd h Bool.false_ne_true, fun h => (show False from (by rw [trOk, if_neg h0] at h; have h1 : t.l.length = 4 := h.1; omega)).elim⟩, rfl⟩
    · replace h13 : (t.l.length : Int) = (4) := beq_iff_eq.1 h13
      refine ⟨_, rfl, ?_⟩
      refine ⟨_, op_ldo rfl rfl rfl rfl, ?_⟩
      refine ⟨_, rfl, (ac_spec_l10Nums t.p t.l 4 1023 st hR (by first | assumption | omega)).mono ?_⟩
      rintro _ st ⟨x17, rfl, h17, rfl⟩
      rcases x17 with _|_
      · replace h17 := fun k => Bool.false_ne_true (h17.2 k)
        iterate 2 refine ⟨_, rfl, ?_⟩
        refine cx_sound _ _ _ _ _ ?_
        exact ⟨.inl rfl, _, rfl, false, rfl, ⟨fun h => absurd h Bool.false_ne_true, fun h => (show False from (by rw [trOk, if_neg h0] at h; exact h17 ⟨by have h1 : t.l.length = 4 := h.1; omega, h.2.1⟩)).elim⟩, rfl⟩
      · replace h17 := h17.1 rfl
        iterate 2 refine ⟨_, rfl, ?_⟩
        refine ⟨_, op_ldo rfl rfl rfl rfl, ?_⟩
        refine ⟨_, rfl, (ac_spec_l1In t.root 0 1023 st).mono ?_⟩
        rintro _ st ⟨x22, rfl, h22, rfl⟩
        rcases x22 with _|_
        · replace h22 := of_decide_eq_false h22.symm
          refine ⟨_, rfl, ?_⟩
          refine cx_sound _ _ _ _ _ ?_
          exact ⟨.inl rfl, _, rfl, false, rfl, ⟨fun h => absurd h Bool.false_ne_true, fun h => (show False from (by rw [trOk, if_neg h0] at h; exact h22 h.2.2)).elim⟩, rfl⟩
        · replace h22 := of_decide_eq_true h22.symm
          refine ⟨_, rfl, ?_⟩
          refine cx_sound _ _ _ _ _ ?_
          exact ⟨.inl rfl, _, rfl, true, rfl, ⟨fun _ => by rw [trOk, if_neg h0]; exact ⟨by show t.l.length = 4; omega, h17.2, h22⟩, fun _ => rfl⟩, rfl⟩
  · replace h6 : (t.l.length : Int) = (0) := beq_iff_eq.1 h6
    refine AW.cutM (1) st [(1, vL 1 0 (0)), (2, vB false), (6, vB true)] [(1, 0, [vS t.p t.l.length, vI t.root])] ⟨rfl, rfl, rfl, trivial⟩ ⟨rfl, trivial⟩ rfl fun ρ0 ff => ?_
    have h0 : t.l.length = 0 := by omega
    refine ⟨_, rfl, ?_⟩
    refine ⟨_, op_ldo rfl rfl rfl rfl, ?_⟩
    refine ⟨_, rfl, ?_⟩
    rintro (_|_) h9
    · replace h9 : ¬ (t.root = (0)) := beq_eq_false_iff_ne.1 h9
      refine cx_sound _ _ _ _ _ ?_
      exact ⟨.inl rfl, _, rfl, false, rfl, ⟨fun h => absurd h Bool.false_ne_true, fun h => (show False from (by rw [trOk, if_pos h0] at h; exact h9 h)).elim⟩, rfl⟩
    · replace h9 : t.root = (0) := beq_iff_eq.1 h9
      refine cx_sound _ _ _ _ _ ?_
      exact ⟨.inl rfl, _, rfl, true, rfl, ⟨fun _ => by rw [trOk, if_pos h0]; exact h9, fun _ => rfl⟩, rfl⟩
theorem ac_impl_treeOk (t : TV) (st : St) (hR : Rows st 1 fI t.p t.l) (hs : szOk t.l.length) : C 104 [.agg #[vS t.p t.l.length, vI t.root]] st (fun v s => ∃ x, v = .bool x ∧ (x = true ↔ trOk t.x) ∧ s = st) := by
  have hs : t.l.length ≤ 1048576 := hs
  refine AC.enterX (i := ⟨[1], [1, 5, 9, 12, 23, 28], [0, 1, 2, 4, 8, 13, 14, 15, 16, 21]⟩) [] Try.func104 rfl rfl (by kernel_rfl) (by kernel_rfl) Try.ntmps104 (Nat.le_of_ble_eq_true rfl) rfl ?_
  refine ⟨_, rfl, ?_⟩
  refine AW.cutM (1) st [(1, vL 1 0 (0)), (2, vB false)] [(1, 0, [vS t.p t.l.length, vI t.root])] ⟨rfl, rfl, trivial⟩ ⟨rfl, trivial⟩ rfl fun ρ0 ff => ?_
  refine ⟨_, rfl, ?_⟩
  refine ⟨_, op_ldo rfl rfl rfl rfl, ?_⟩
  iterate 2 refine ⟨_, rfl, ?_⟩
  rintro (_|_) h8
  · replace h8 : ¬ ((t.l.length : Int) = (0)) := beq_eq_false_iff_ne.1 h8
    refine AW.cutM (1) st [(1, vL 1 0 (0)), (2, vB false), (8, vB false)] [(1, 0, [vS t.p t.l.length, vI t.root])] ⟨rfl, rfl, rfl, trivial⟩ ⟨rfl, trivial⟩ rfl fun ρ0 ff => ?_
    have h0 : ¬ t.l.length = 0 := by omega
    refine cx_sound _ _ _ _ _ ?_
    refine ⟨_, rfl, ?_⟩
    refine ⟨_, op_ldo rfl rfl rfl rfl, ?_⟩
    refine ⟨_, rfl, ?_⟩
    refine AW.cutM (1) st [(1, vL 1 0 (0)), (2, vB false), (13, vS t.p t.l.length), (14, vI (t.l.length : Int)), (15, vI (0))] [(1, 0, [vS t.p t.l.length, vI t.root])] ⟨rfl, rfl, rfl, rfl, rfl, trivial⟩ ⟨rfl, trivial⟩ rfl fun ρ0 ff => ?_
    refine AW.loopM (fun i : Nat => [(1, vL 1 0 (0)), (13, vS t.p t.l.length), (14, vI (t.l.length : Int)), (15, vI (i : Int))]) (fun i : Nat => [(1, 0, [vS t.p t.l.length, vI t.root])]) (fun m (i : Nat) st' => m = t.l.length - i ∧ i ≤ t.l.length ∧ (∀ (j : Nat) x, j < i → t.l[j]? = some x → 0 ≤ x ∧ x ≤ 1023) ∧ st = st') 0 _ ⟨rfl, rfl, rfl, rfl, trivial⟩ ⟨rfl, trivial⟩ ⟨rfl, Nat.zero_le _, fun j x h => absurd h (Nat.not_lt_zero _), rfl⟩ ?_
    rintro m i ρ0 ff gg st' ⟨rfl, hi, hok, rfl⟩
    refine ⟨_, rfl, ?_⟩
    rintro (_|_) h16
    · replace h16 : ¬ ((i : Int) < (t.l.length : Int)) := of_decide_eq_false h16
      refine AW.cutM (gg) st [(1, vL 1 0 (0)), (13, vS t.p t.l.length), (14, vI (t.l.length : Int)), (15, vI (i : Int)), (16, vB false)] [(1, 0, [vS t.p t.l.length, vI t.root])] ⟨rfl, rfl, rfl, rfl, rfl, trivial⟩ ⟨rfl, trivial⟩ rfl fun ρ0 ff => ?_
      refine cx_sound _ _ _ _ _ ?_
      refine ⟨_, rfl, ?_⟩
      refine ⟨_, op_ldo rfl rfl rfl rfl, ?_⟩
      iterate 2 refine ⟨_, rfl, ?_⟩
      rintro (_|_) h26
      · replace h26 : ¬ ((t.l.length : Int) = (4)) := beq_eq_false_iff_ne.1 h26
        refine ⟨_, rfl, ?_⟩
        refine cx_sound _ _ _ _ _ ?_
        exact ⟨.inl rfl, _, rfl, false, rfl, ⟨fun h => absurd h Bool.false_ne_true, fun h => (show False from (by rw [trOk, if_neg h0] at h; have h1 : t.l.length = 4 := h.1; omega)).elim⟩, rfl⟩
      · replace h26 : (t.l.length : Int) = (4) := beq_iff_eq.1 h26
        refine ⟨_, rfl, ?_⟩
        refine ⟨_, op_ldo rfl rfl rfl rfl, ?_⟩
        refine ⟨_, rfl, (ac_impl_within t.root 0 1023 st).mono ?_⟩
        rintro _ st ⟨x30, rfl, h30, rfl⟩
        rcases x30 with _|_
        · replace h30 := of_decide_eq_false h30.symm
          refine ⟨_, rfl, ?_⟩
          refine cx_sound _ _ _ _ _ ?_
          exact ⟨.inl rfl, _, rfl, false, rfl, ⟨fun h => absurd h Bool.false_ne_true, fun h => (show False from (by rw [trOk, if_neg h0] at h; exact h30 h.2.2)).elim⟩, rfl⟩
        · replace h30 := of_decide_eq_true h30.symm
          refine ⟨_, rfl, ?_⟩
          refine cx_sound _ _ _ _ _ ?_
          exact ⟨.inl rfl, _, rfl, true, rfl, ⟨fun _ => by rw [trOk, if_neg h0]; exact ⟨by show t.l.length = 4; omega, fun j x hx => hok j x (by have := (List.getElem?_eq_some_iff.1 hx).1; simp only [TV.x] at this; omega) hx, h30⟩, fun _ => rfl⟩, rfl⟩
    · replace h16 : (i : Int) < (t.l.length : Int) := of_decide_eq_true h16
      refine AW.cutM (gg) st [(1, vL 1 0 (0)), (13, vS t.p t.l.length), (14, vI (t.l.length : Int)), (15, vI (i : Int)), (16, vB true)] [(1, 0, [vS t.p t.l.length, vI t.root])] ⟨rfl, rfl, rfl, rfl, rfl, trivial⟩ ⟨rfl, trivial⟩ rfl fun ρ0 ff => ?_
      refine cx_sound _ _ _ _ _ ?_
      refine op_at i hR (by omega) rfl rfl rfl rfl rfl rfl rfl ?_
      intro x17 b17 d17 k17 hy17 hb17 hm17 hc17 ho17
      refine ⟨_, op_ldc (i := 0) rfl rfl rfl rfl hm17 hc17 rfl rfl, ?_⟩
      refine AW.cutM (gg) st [(1, vL 1 0 (0)), (4, vI x17), (13, vS t.p t.l.length), (14, vI (t.l.length : Int)), (15, vI (i : Int)), (16, vB true)] [(1, 0, [vS t.p t.l.length, vI t.root])] ⟨rfl, rfl, rfl, rfl, rfl, rfl, trivial⟩ ⟨rfl, trivial⟩ rfl fun ρ0 ff => ?_
      refine ⟨_, rfl, (ac_impl_within x17 0 1023 st).mono ?_⟩
      rintro _ st ⟨x20, rfl, h20, rfl⟩
      rcases x20 with _|_
      · replace h20 := of_decide_eq_false h20.symm
        refine ⟨_, rfl, ?_⟩
        refine AW.cutM (gg) st [(1, vL 1 0 (0)), (4, vI x17), (13, vS t.p t.l.length), (14, vI (t.l.length : Int)), (15, vI (i : Int)), (16, vB true), (21, vB true)] [(1, 0, [vS t.p t.l.length, vI t.root])] ⟨rfl, rfl, rfl, rfl, rfl, rfl, rfl, trivial⟩ ⟨rfl, trivial⟩ rfl fun ρ0 ff => ?_
        refine cx_sound _ _ _ _ _ ?_
        exact ⟨.inl rfl, _, rfl, false, rfl, ⟨fun h => absurd h Bool.false_ne_true, fun h => (show False from (by rw [trOk, if_neg h0] at h; exact h20 (h.2.1 i x17 hy17))).elim⟩, rfl⟩
      · replace h20 := of_decide_eq_true h20.symm
        refine ⟨_, rfl, ?_⟩
        refine AW.cutM (gg) st [(1, vL 1 0 (0)), (4, vI x17), (13, vS t.p t.l.length), (14, vI (t.l.length : Int)), (15, vI (i : Int)), (16, vB true), (21, vB false)] [(1, 0, [vS t.p t.l.length, vI t.root])] ⟨rfl, rfl, rfl, rfl, rfl, rfl, rfl, trivial⟩ ⟨rfl, trivial⟩ rfl fun ρ0 ff => ?_
        refine cx_sound _ _ _ _ _ ?_
        have ew22 : IntKind.wrap .i64 ((i : Int) + (1)) = ((i + 1 : Nat) : Int) := (wrap_i64 (by omega) (by omega)).trans (by omega)
        refine ⟨_, rfl, ?_⟩
        refine ⟨i + 1, t.l.length - (i + 1), by omega, ⟨rfl, rfl, rfl, congrArg (Value.int .i64) ew22, trivial⟩, ⟨rfl, trivial⟩, rfl, by omega, fun j x hj hx => ?_, rfl⟩
        rcases Nat.lt_or_ge j i with h | h
        · exact hok j x h hx
        · obtain rfl : j = i := by omega
          rw [hy17] at hx; injection hx with hx; rw [← hx]; exact h20
  · replace h8 : (t.l.length : Int) = (0) := beq_iff_eq.1 h8
    refine AW.cutM (1) st [(1, vL 1 0 (0)), (2, vB false), (8, vB true)] [(1, 0, [vS t.p t.l.length, vI t.root])] ⟨rfl, rfl, rfl, trivial⟩ ⟨rfl, trivial⟩ rfl fun ρ0 ff => ?_
    have h0 : t.l.length = 0 := by omega
    refine ⟨_, rfl, ?_⟩
    refine ⟨_, op_ldo rfl rfl rfl rfl, ?_⟩
    refine ⟨_, rfl, ?_⟩
    rintro (_|_) h11
    · replace h11 : ¬ (t.root = (0)) := beq_eq_false_iff_ne.1 h11
      refine cx_sound _ _ _ _ _ ?_
      exact ⟨.inl rfl, _, rfl, false, rfl, ⟨fun h => absurd h Bool.false_ne_true, fun h => (show False from (by rw [trOk, if_pos h0] at h; exact h11 h)).elim⟩, rfl⟩
    · replace h11 : t.root = (0) := beq_iff_eq.1 h11
      refine cx_sound _ _ _ _ _ ?_
      exact ⟨.inl rfl, _, rfl, true, rfl, ⟨fun _ => by rw [trOk, if_pos h0]; exact h11, fun _ => rfl⟩, rfl⟩
theorem ac_impl_MsgOk (g : MV) (st : St) (hR : RdM st g) (hb : bigM g.x) : C 38 [.agg #[vI g.kind, vI g.frm, vI g.to, vI g.num, vI g.hi, vS g.tree.p g.tree.l.length, vI g.tree.root, vS g.vec.p g.vec.l.length, vS g.leaves.p g.leaves.l.length, vS g.part.p g.part.x.items.length, vS g.part.q g.part.x.floors.length, vS g.marks.p g.marks.l.length]] st (fun v s => ∃ x, v = .bool x ∧ (x = true ↔ msgOk g.x) ∧ s = st) := by
  have hs1 : g.leaves.l.length ≤ 1048576 := hb.leaves
  have hs2 : g.vec.l.length ≤ 1048576 := hb.vec
  refine AC.enterX (i := ⟨[1], [1, 7, 12, 18, 24, 26, 30, 45, 56, 67, 71, 76, 81, 87, 92], [0, 1, 2, 3, 4, 6, 29, 31, 32, 33, 34, 54, 57, 58, 59, 60, 65]⟩) [] Try.func38 rfl rfl (by kernel_rfl) (by kernel_rfl) Try.ntmps38 (Nat.le_of_ble_eq_true rfl) rfl ?_
  refine ⟨_, rfl, ?_⟩
  refine AW.cutM (1) st [(1, vL 1 0 (0)), (2, vB false)] [(1, 0, [vI g.kind, vI g.frm, vI g.to, vI g.num, vI g.hi, vS g.tree.p g.tree.l.length, vI g.tree.root, vS g.vec.p g.vec.l.length, vS g.leaves.p g.leaves.l.length, vS g.part.p g.part.x.items.length, vS g.part.q g.part.x.floors.length, vS g.marks.p g.marks.l.length])] ⟨rfl, rfl, trivial⟩ ⟨rfl, trivial⟩ rfl fun ρ0 ff => ?_
  refine ⟨_, rfl, ?_⟩
  refine ⟨_, op_ldo rfl rfl rfl rfl, ?_⟩
  refine ⟨_, rfl, (ac_impl_within g.kind 0 5 st).mono ?_⟩
  rintro _ st ⟨x9, rfl, h9, rfl⟩
  rcases x9 with _|_
  · replace h9 := of_decide_eq_false h9.symm
    iterate 4 refine ⟨_, rfl, ?_⟩
    refine AW.cutM (1) st [(1, vL 1 0 (0)), (2, vB false), (29, vB true)] [(1, 0, [vI g.kind, vI g.frm, vI g.to, vI g.num, vI g.hi, vS g.tree.p g.tree.l.length, vI g.tree.root, vS g.vec.p g.vec.l.length, vS g.leaves.p g.leaves.l.length, vS g.part.p g.part.x.items.length, vS g.part.q g.part.x.floors.length, vS g.marks.p g.marks.l.length])] ⟨rfl, rfl, rfl, trivial⟩ ⟨rfl, trivial⟩ rfl fun ρ0 ff => ?_
    refine cx_sound _ _ _ _ _ ?_
    exact ⟨.inl rfl, _, rfl, false, rfl, ⟨fun h => absurd h Bool.false_ne_true, fun h => (show False from (h9 h.1.1)).elim⟩, rfl⟩
  · replace h9 := of_decide_eq_true h9.symm
    iterate 2 refine ⟨_, rfl, ?_⟩
    refine ⟨_, op_ldo rfl rfl rfl rfl, ?_⟩
    refine ⟨_, rfl, (ac_impl_isNode g.frm st).mono ?_⟩
    rintro _ st ⟨x14, rfl, h14, rfl⟩
    rcases x14 with _|_
    · replace h14 := of_decide_eq_false h14.symm
      iterate 4 refine ⟨_, rfl, ?_⟩
      refine AW.cutM (1) st [(1, vL 1 0 (0)), (2, vB false), (29, vB true)] [(1, 0, [vI g.kind, vI g.frm, vI g.to, vI g.num, vI g.hi, vS g.tree.p g.tree.l.length, vI g.tree.root, vS g.vec.p g.vec.l.length, vS g.leaves.p g.leaves.l.length, vS g.part.p g.part.x.items.length, vS g.part.q g.part.x.floors.length, vS g.marks.p g.marks.l.length])] ⟨rfl, rfl, rfl, trivial⟩ ⟨rfl, trivial⟩ rfl fun ρ0 ff => ?_
      refine cx_sound _ _ _ _ _ ?_
      exact ⟨.inl rfl, _, rfl, false, rfl, ⟨fun h => absurd h Bool.false_ne_true, fun h => (show False from (h14 h.1.2.1)).elim⟩, rfl⟩
    · replace h14 := of_decide_eq_true h14.symm
      iterate 3 refine ⟨_, rfl, ?_⟩
      refine ⟨_, op_ldo rfl rfl rfl rfl, ?_⟩
      refine ⟨_, rfl, (ac_impl_isNode g.to st).mono ?_⟩
      rintro _ st ⟨x20, rfl, h20, rfl⟩
      rcases x20 with _|_
      · replace h20 := of_decide_eq_false h20.symm
        iterate 3 refine ⟨_, rfl, ?_⟩
        refine AW.cutM (1) st [(1, vL 1 0 (0)), (2, vB false), (29, vB true)] [(1, 0, [vI g.kind, vI g.frm, vI g.to, vI g.num, vI g.hi, vS g.tree.p g.tree.l.length, vI g.tree.root, vS g.vec.p g.vec.l.length, vS g.leaves.p g.leaves.l.length, vS g.part.p g.part.x.items.length, vS g.part.q g.part.x.floors.length, vS g.marks.p g.marks.l.length])] ⟨rfl, rfl, rfl, trivial⟩ ⟨rfl, trivial⟩ rfl fun ρ0 ff => ?_
        refine cx_sound _ _ _ _ _ ?_
        exact ⟨.inl rfl, _, rfl, false, rfl, ⟨fun h => absurd h Bool.false_ne_true, fun h => (show False from (h20 h.1.2.2.1)).elim⟩, rfl⟩
      · replace h20 := of_decide_eq_true h20.symm
        iterate 3 refine ⟨_, rfl, ?_⟩
        refine ⟨_, op_ldo rfl rfl rfl rfl, ?_⟩
        refine ⟨_, rfl, ?_⟩
        refine ⟨_, op_ldo rfl rfl rfl rfl, ?_⟩
        refine ⟨_, rfl, ?_⟩
        rintro (_|_) h28
        · replace h28 : ¬ (g.frm = g.to) := beq_eq_false_iff_ne.1 h28
          refine ⟨_, rfl, ?_⟩
          refine AW.cutM (1) st [(1, vL 1 0 (0)), (2, vB false), (29, vB false)] [(1, 0, [vI g.kind, vI g.frm, vI g.to, vI g.num, vI g.hi, vS g.tree.p g.tree.l.length, vI g.tree.root, vS g.vec.p g.vec.l.length, vS g.leaves.p g.leaves.l.length, vS g.part.p g.part.x.items.length, vS g.part.q g.part.x.floors.length, vS g.marks.p g.marks.l.length])] ⟨rfl, rfl, rfl, trivial⟩ ⟨rfl, trivial⟩ rfl fun ρ0 ff => ?_
          refine cx_sound _ _ _ _ _ ?_
          refine ⟨_, rfl, ?_⟩
          refine ⟨_, op_ldo rfl rfl rfl rfl, ?_⟩
          refine ⟨_, rfl, ?_⟩
          refine AW.cutM (1) st [(1, vL 1 0 (0)), (2, vB false), (31, vS g.leaves.p g.leaves.l.length), (32, vI (g.leaves.l.length : Int)), (33, vI (0))] [(1, 0, [vI g.kind, vI g.frm, vI g.to, vI g.num, vI g.hi, vS g.tree.p g.tree.l.length, vI g.tree.root, vS g.vec.p g.vec.l.length, vS g.leaves.p g.leaves.l.length, vS g.part.p g.part.x.items.length, vS g.part.q g.part.x.floors.length, vS g.marks.p g.marks.l.length])] ⟨rfl, rfl, rfl, rfl, rfl, trivial⟩ ⟨rfl, trivial⟩ rfl fun ρ0 ff => ?_
          refine AW.loopM (fun i : Nat => [(1, vL 1 0 (0)), (31, vS g.leaves.p g.leaves.l.length), (32, vI (g.leaves.l.length : Int)), (33, vI (i : Int))]) (fun i : Nat => [(1, 0, [vI g.kind, vI g.frm, vI g.to, vI g.num, vI g.hi, vS g.tree.p g.tree.l.length, vI g.tree.root, vS g.vec.p g.vec.l.length, vS g.leaves.p g.leaves.l.length, vS g.part.p g.part.x.items.length, vS g.part.q g.part.x.floors.length, vS g.marks.p g.marks.l.length])]) (fun m (i : Nat) st' => m = g.leaves.l.length - i ∧ i ≤ g.leaves.l.length ∧ (∀ (j : Nat) x, j < i → g.leaves.l[j]? = some x → (0 ≤ x ∧ x ≤ 3) ∧ ∀ y, 0 < j → g.leaves.l[j - 1]? = some y → y < x) ∧ st = st') 0 _ ⟨rfl, rfl, rfl, rfl, trivial⟩ ⟨rfl, trivial⟩ ⟨rfl, Nat.zero_le _, fun j x h => absurd h (Nat.not_lt_zero _), rfl⟩ ?_
          rintro m i ρ0 ff gg st' ⟨rfl, hi, hok, rfl⟩
          refine ⟨_, rfl, ?_⟩
          rintro (_|_) h34
          · replace h34 : ¬ ((i : Int) < (g.leaves.l.length : Int)) := of_decide_eq_false h34
            refine AW.cutM (gg) st [(1, vL 1 0 (0)), (31, vS g.leaves.p g.leaves.l.length), (32, vI (g.leaves.l.length : Int)), (33, vI (i : Int)), (34, vB false)] [(1, 0, [vI g.kind, vI g.frm, vI g.to, vI g.num, vI g.hi, vS g.tree.p g.tree.l.length, vI g.tree.root, vS g.vec.p g.vec.l.length, vS g.leaves.p g.leaves.l.length, vS g.part.p g.part.x.items.length, vS g.part.q g.part.x.floors.length, vS g.marks.p g.marks.l.length])] ⟨rfl, rfl, rfl, rfl, rfl, trivial⟩ ⟨rfl, trivial⟩ rfl fun ρ0 ff => ?_
            have hL : incOk g.leaves.l := fun j x hx => hok j x (by have := (List.getElem?_eq_some_iff.1 hx).1; omega) hx
            clear hok
            refine cx_sound _ _ _ _ _ ?_
            refine ⟨_, rfl, ?_⟩
            refine ⟨_, op_ldo rfl rfl rfl rfl, ?_⟩
            refine ⟨_, rfl, ?_⟩
            refine AW.cutM (gg) st [(1, vL 1 0 (0)), (57, vS g.vec.p g.vec.l.length), (58, vI (g.vec.l.length : Int)), (59, vI (0))] [(1, 0, [vI g.kind, vI g.frm, vI g.to, vI g.num, vI g.hi, vS g.tree.p g.tree.l.length, vI g.tree.root, vS g.vec.p g.vec.l.length, vS g.leaves.p g.leaves.l.length, vS g.part.p g.part.x.items.length, vS g.part.q g.part.x.floors.length, vS g.marks.p g.marks.l.length])] ⟨rfl, rfl, rfl, rfl, trivial⟩ ⟨rfl, trivial⟩ rfl fun ρ0 ff => ?_
            refine AW.loopM (fun i : Nat => [(1, vL 1 0 (0)), (57, vS g.vec.p g.vec.l.length), (58, vI (g.vec.l.length : Int)), (59, vI (i : Int))]) (fun i : Nat => [(1, 0, [vI g.kind, vI g.frm, vI g.to, vI g.num, vI g.hi, vS g.tree.p g.tree.l.length, vI g.tree.root, vS g.vec.p g.vec.l.length, vS g.leaves.p g.leaves.l.length, vS g.part.p g.part.x.items.length, vS g.part.q g.part.x.floors.length, vS g.marks.p g.marks.l.length])]) (fun m (i : Nat) st' => m = g.vec.l.length - i ∧ i ≤ g.vec.l.length ∧ (∀ (j : Nat) x, j < i → g.vec.l[j]? = some x → 0 ≤ x ∧ x ≤ 100000) ∧ st = st') 0 _ ⟨rfl, rfl, rfl, rfl, trivial⟩ ⟨rfl, trivial⟩ ⟨rfl, Nat.zero_le _, fun j x h => absurd h (Nat.not_lt_zero _), rfl⟩ ?_
            rintro m i ρ0 ff gg st' ⟨rfl, hi, hok, rfl⟩
            refine ⟨_, rfl, ?_⟩
            rintro (_|_) h60
            · replace h60 : ¬ ((i : Int) < (g.vec.l.length : Int)) := of_decide_eq_false h60
              refine AW.cutM (gg) st [(1, vL 1 0 (0)), (57, vS g.vec.p g.vec.l.length), (58, vI (g.vec.l.length : Int)), (59, vI (i : Int)), (60, vB false)] [(1, 0, [vI g.kind, vI g.frm, vI g.to, vI g.num, vI g.hi, vS g.tree.p g.tree.l.length, vI g.tree.root, vS g.vec.p g.vec.l.length, vS g.leaves.p g.leaves.l.length, vS g.part.p g.part.x.items.length, vS g.part.q g.part.x.floors.length, vS g.marks.p g.marks.l.length])] ⟨rfl, rfl, rfl, rfl, rfl, trivial⟩ ⟨rfl, trivial⟩ rfl fun ρ0 ff => ?_
              have hV : ∀ (j : Nat) x, g.vec.l[j]? = some x → 0 ≤ x ∧ x ≤ 100000 := fun j x hx => hok j x (by have := (List.getElem?_eq_some_iff.1 hx).1; omega) hx
              clear hok
              refine cx_sound _ _ _ _ _ ?_
              refine ⟨_, rfl, ?_⟩
              refine ⟨_, op_ldo rfl rfl rfl rfl, ?_⟩
              refine ⟨_, rfl, (ac_impl_within g.num 0 100000 st).mono ?_⟩
              rintro _ st ⟨x69, rfl, h69, rfl⟩
              rcases x69 with _|_
              · replace h69 := of_decide_eq_false h69.symm
                iterate 3 refine ⟨_, rfl, ?_⟩
                refine ow_cut [(1, vL 1 0 (0)), (85, vB false)] ⟨rfl, rfl, trivial⟩ fun ρ0 => ?_
                iterate 2 refine ⟨_, rfl, ?_⟩
                refine cx_sound _ _ _ _ _ ?_
                exact ⟨.inl rfl, _, rfl, false, rfl, ⟨fun h => absurd h Bool.false_ne_true, fun h => (show False from (h69 h.2.1.1)).elim⟩, rfl⟩
              · replace h69 := of_decide_eq_true h69.symm
                refine ⟨_, rfl, ?_⟩
                refine ⟨_, op_ldo rfl rfl rfl rfl, ?_⟩
                refine ⟨_, rfl, (ac_impl_within g.hi 0 100000 st).mono ?_⟩
                rintro _ st ⟨x73, rfl, h73, rfl⟩
                rcases x73 with _|_
                · replace h73 := of_decide_eq_false h73.symm
                  iterate 3 refine ⟨_, rfl, ?_⟩
                  refine ow_cut [(1, vL 1 0 (0)), (85, vB false)] ⟨rfl, rfl, trivial⟩ fun ρ0 => ?_
                  iterate 2 refine ⟨_, rfl, ?_⟩
                  refine cx_sound _ _ _ _ _ ?_
                  exact ⟨.inl rfl, _, rfl, false, rfl, ⟨fun h => absurd h Bool.false_ne_true, fun h => (show False from (h73 h.2.1.2)).elim⟩, rfl⟩
                · replace h73 := of_decide_eq_true h73.symm
                  iterate 2 refine ⟨_, rfl, ?_⟩
                  refine ⟨_, op_ldo rfl rfl rfl rfl, ?_⟩
                  refine ⟨_, rfl, (ac_impl_treeOk g.tree st hR.tree (hb.tree)).mono ?_⟩
                  rintro _ st ⟨x78, rfl, h78, rfl⟩
                  rcases x78 with _|_
                  · replace h78 := fun k => Bool.false_ne_true (h78.2 k)
                    iterate 2 refine ⟨_, rfl, ?_⟩
                    refine ow_cut [(1, vL 1 0 (0)), (85, vB false)] ⟨rfl, rfl, trivial⟩ fun ρ0 => ?_
                    iterate 2 refine ⟨_, rfl, ?_⟩
                    refine cx_sound _ _ _ _ _ ?_
                    exact ⟨.inl rfl, _, rfl, false, rfl, ⟨fun h => absurd h Bool.false_ne_true, fun h => (show False from (h78 h.2.2.1)).elim⟩, rfl⟩
                  · replace h78 := h78.1 rfl
                    iterate 2 refine ⟨_, rfl, ?_⟩
                    refine ⟨_, op_ldo rfl rfl rfl rfl, ?_⟩
                    iterate 2 refine ⟨_, rfl, ?_⟩
                    rintro (_|_) h84
                    · replace h84 : ¬ ((g.vec.l.length : Int) ≤ (5)) := of_decide_eq_false h84
                      refine ow_cut [(1, vL 1 0 (0)), (80, vB true), (84, vB false)] ⟨rfl, rfl, rfl, trivial⟩ fun ρ0 => ?_
                      iterate 3 refine ⟨_, rfl, ?_⟩
                      refine cx_sound _ _ _ _ _ ?_
                      exact ⟨.inl rfl, _, rfl, false, rfl, ⟨fun h => absurd h Bool.false_ne_true, fun h => (show False from (absurd h.2.2.2.1.1 h84)).elim⟩, rfl⟩
                    · replace h84 : (g.vec.l.length : Int) ≤ (5) := of_decide_eq_true h84
                      refine ow_cut [(1, vL 1 0 (0)), (80, vB true), (84, vB true)] ⟨rfl, rfl, rfl, trivial⟩ fun ρ0 => ?_
                      iterate 2 refine ⟨_, rfl, ?_⟩
                      refine ⟨_, op_ldo rfl rfl rfl rfl, ?_⟩
                      refine ⟨_, rfl, (ac_impl_StateOk g.part st hR.part (hb.part)).mono ?_⟩
                      rintro _ st ⟨x89, rfl, h89, rfl⟩
                      rcases x89 with _|_
                      · replace h89 := fun k => Bool.false_ne_true (h89.2 k)
                        iterate 2 refine ⟨_, rfl, ?_⟩
                        refine cx_sound _ _ _ _ _ ?_
                        exact ⟨.inl rfl, _, rfl, false, rfl, ⟨fun h => absurd h Bool.false_ne_true, fun h => (show False from (h89 h.2.2.2.2.2.1)).elim⟩, rfl⟩
                      · replace h89 := h89.1 rfl
                        iterate 2 refine ⟨_, rfl, ?_⟩
                        refine ⟨_, op_ldo rfl rfl rfl rfl, ?_⟩
                        refine ⟨_, rfl, (ac_impl_MarksOk g.marks.p g.marks.l st hR.marks (hb.marks)).mono ?_⟩
                        rintro _ st ⟨x94, rfl, h94, rfl⟩
                        rcases x94 with _|_
                        · replace h94 := fun k => Bool.false_ne_true (h94.2 k)
                          refine ⟨_, rfl, ?_⟩
                          refine cx_sound _ _ _ _ _ ?_
                          exact ⟨.inl rfl, _, rfl, false, rfl, ⟨fun h => absurd h Bool.false_ne_true, fun h => (show False from (h94 h.2.2.2.2.2.2)).elim⟩, rfl⟩
                        · replace h94 := h94.1 rfl
                          refine ⟨_, rfl, ?_⟩
                          refine cx_sound _ _ _ _ _ ?_
                          exact ⟨.inl rfl, _, rfl, true, rfl, ⟨fun _ => ⟨⟨h9, h14, h20, h28⟩, ⟨h69, h73⟩, h78, ⟨h84, hV⟩, hL, h89, h94⟩, fun _ => rfl⟩, rfl⟩
            · replace h60 : (i : Int) < (g.vec.l.length : Int) := of_decide_eq_true h60
              refine AW.cutM (gg) st [(1, vL 1 0 (0)), (57, vS g.vec.p g.vec.l.length), (58, vI (g.vec.l.length : Int)), (59, vI (i : Int)), (60, vB true)] [(1, 0, [vI g.kind, vI g.frm, vI g.to, vI g.num, vI g.hi, vS g.tree.p g.tree.l.length, vI g.tree.root, vS g.vec.p g.vec.l.length, vS g.leaves.p g.leaves.l.length, vS g.part.p g.part.x.items.length, vS g.part.q g.part.x.floors.length, vS g.marks.p g.marks.l.length])] ⟨rfl, rfl, rfl, rfl, rfl, trivial⟩ ⟨rfl, trivial⟩ rfl fun ρ0 ff => ?_
              refine cx_sound _ _ _ _ _ ?_
              refine op_at i hR.vec (by omega) rfl rfl rfl rfl rfl rfl rfl ?_
              intro x61 b61 d61 k61 hy61 hb61 hm61 hc61 ho61
              refine ⟨_, op_ldc (i := 0) rfl rfl rfl rfl hm61 hc61 rfl rfl, ?_⟩
              refine AW.cutM (gg) st [(1, vL 1 0 (0)), (6, vI x61), (57, vS g.vec.p g.vec.l.length), (58, vI (g.vec.l.length : Int)), (59, vI (i : Int)), (60, vB true)] [(1, 0, [vI g.kind, vI g.frm, vI g.to, vI g.num, vI g.hi, vS g.tree.p g.tree.l.length, vI g.tree.root, vS g.vec.p g.vec.l.length, vS g.leaves.p g.leaves.l.length, vS g.part.p g.part.x.items.length, vS g.part.q g.part.x.floors.length, vS g.marks.p g.marks.l.length])] ⟨rfl, rfl, rfl, rfl, rfl, rfl, trivial⟩ ⟨rfl, trivial⟩ rfl fun ρ0 ff => ?_
              refine ⟨_, rfl, (ac_impl_within x61 0 100000 st).mono ?_⟩
              rintro _ st ⟨x64, rfl, h64, rfl⟩
              rcases x64 with _|_
              · replace h64 := of_decide_eq_false h64.symm
                refine ⟨_, rfl, ?_⟩
                refine AW.cutM (gg) st [(1, vL 1 0 (0)), (6, vI x61), (57, vS g.vec.p g.vec.l.length), (58, vI (g.vec.l.length : Int)), (59, vI (i : Int)), (60, vB true), (65, vB true)] [(1, 0, [vI g.kind, vI g.frm, vI g.to, vI g.num, vI g.hi, vS g.tree.p g.tree.l.length, vI g.tree.root, vS g.vec.p g.vec.l.length, vS g.leaves.p g.leaves.l.length, vS g.part.p g.part.x.items.length, vS g.part.q g.part.x.floors.length, vS g.marks.p g.marks.l.length])] ⟨rfl, rfl, rfl, rfl, rfl, rfl, rfl, trivial⟩ ⟨rfl, trivial⟩ rfl fun ρ0 ff => ?_
                refine cx_sound _ _ _ _ _ ?_
                exact ⟨.inl rfl, _, rfl, false, rfl, ⟨fun h => absurd h Bool.false_ne_true, fun h => (show False from (h64 (h.2.2.2.1.2 i x61 hy61))).elim⟩, rfl⟩
              · replace h64 := of_decide_eq_true h64.symm
                refine ⟨_, rfl, ?_⟩
                refine AW.cutM (gg) st [(1, vL 1 0 (0)), (6, vI x61), (57, vS g.vec.p g.vec.l.length), (58, vI (g.vec.l.length : Int)), (59, vI (i : Int)), (60, vB true), (65, vB false)] [(1, 0, [vI g.kind, vI g.frm, vI g.to, vI g.num, vI g.hi, vS g.tree.p g.tree.l.length, vI g.tree.root, vS g.vec.p g.vec.l.length, vS g.leaves.p g.leaves.l.length, vS g.part.p g.part.x.items.length, vS g.part.q g.part.x.floors.length, vS g.marks.p g.marks.l.length])] ⟨rfl, rfl, rfl, rfl, rfl, rfl, rfl, trivial⟩ ⟨rfl, trivial⟩ rfl fun ρ0 ff => ?_
                refine cx_sound _ _ _ _ _ ?_
                have ew66 : IntKind.wrap .i64 ((i : Int) + (1)) = ((i + 1 : Nat) : Int) := (wrap_i64 (by omega) (by omega)).trans (by omega)
                refine ⟨_, rfl, ?_⟩
                refine ⟨i + 1, g.vec.l.length - (i + 1), by omega, ⟨rfl, rfl, rfl, congrArg (Value.int .i64) ew66, trivial⟩, ⟨rfl, trivial⟩, rfl, by omega, fun j x hj hx => ?_, rfl⟩
                rcases Nat.lt_or_ge j i with h | h
                · exact hok j x h hx
                · obtain rfl : j = i := by omega
                  rw [hy61] at hx; injection hx with hx; rw [← hx]; exact h64
          · replace h34 : (i : Int) < (g.leaves.l.length : Int) := of_decide_eq_true h34
            refine AW.cutM (gg) st [(1, vL 1 0 (0)), (31, vS g.leaves.p g.leaves.l.length), (32, vI (g.leaves.l.length : Int)), (33, vI (i : Int)), (34, vB true)] [(1, 0, [vI g.kind, vI g.frm, vI g.to, vI g.num, vI g.hi, vS g.tree.p g.tree.l.length, vI g.tree.root, vS g.vec.p g.vec.l.length, vS g.leaves.p g.leaves.l.length, vS g.part.p g.part.x.items.length, vS g.part.q g.part.x.floors.length, vS g.marks.p g.marks.l.length])] ⟨rfl, rfl, rfl, rfl, rfl, trivial⟩ ⟨rfl, trivial⟩ rfl fun ρ0 ff => ?_
            refine cx_sound _ _ _ _ _ ?_
            refine op_at i hR.leaves (by omega) rfl rfl rfl rfl rfl rfl rfl ?_
            intro x36 b36 d36 k36 hy36 hb36 hm36 hc36 ho36
            refine ⟨_, op_ldc (i := 0) rfl rfl rfl rfl hm36 hc36 rfl rfl, ?_⟩
            refine AW.cutM (gg) st [(1, vL 1 0 (0)), (3, vI (i : Int)), (4, vI x36), (31, vS g.leaves.p g.leaves.l.length), (32, vI (g.leaves.l.length : Int)), (33, vI (i : Int)), (34, vB true)] [(1, 0, [vI g.kind, vI g.frm, vI g.to, vI g.num, vI g.hi, vS g.tree.p g.tree.l.length, vI g.tree.root, vS g.vec.p g.vec.l.length, vS g.leaves.p g.leaves.l.length, vS g.part.p g.part.x.items.length, vS g.part.q g.part.x.floors.length, vS g.marks.p g.marks.l.length])] ⟨rfl, rfl, rfl, rfl, rfl, rfl, rfl, trivial⟩ ⟨rfl, trivial⟩ rfl fun ρ0 ff => ?_
            refine ⟨_, rfl, (ac_impl_within x36 0 3 st).mono ?_⟩
            rintro _ st ⟨x39, rfl, h39, rfl⟩
            rcases x39 with _|_
            · replace h39 := of_decide_eq_false h39.symm
              iterate 2 refine ⟨_, rfl, ?_⟩
              refine AW.cutM (gg) st [(1, vL 1 0 (0)), (3, vI (i : Int)), (4, vI x36), (31, vS g.leaves.p g.leaves.l.length), (32, vI (g.leaves.l.length : Int)), (33, vI (i : Int)), (34, vB true), (54, vB true)] [(1, 0, [vI g.kind, vI g.frm, vI g.to, vI g.num, vI g.hi, vS g.tree.p g.tree.l.length, vI g.tree.root, vS g.vec.p g.vec.l.length, vS g.leaves.p g.leaves.l.length, vS g.part.p g.part.x.items.length, vS g.part.q g.part.x.floors.length, vS g.marks.p g.marks.l.length])] ⟨rfl, rfl, rfl, rfl, rfl, rfl, rfl, rfl, trivial⟩ ⟨rfl, trivial⟩ rfl fun ρ0 ff => ?_
              refine cx_sound _ _ _ _ _ ?_
              exact ⟨.inl rfl, _, rfl, false, rfl, ⟨fun h => absurd h Bool.false_ne_true, fun h => (show False from (h39 (h.2.2.2.2.1 i x36 hy36).1)).elim⟩, rfl⟩
            · replace h39 := of_decide_eq_true h39.symm
              iterate 2 refine ⟨_, rfl, ?_⟩
              rintro (_|_) h43
              · replace h43 : ¬ ((i : Int) > (0)) := of_decide_eq_false h43
                iterate 2 refine ⟨_, rfl, ?_⟩
                refine AW.cutM (gg) st [(1, vL 1 0 (0)), (3, vI (i : Int)), (4, vI x36), (31, vS g.leaves.p g.leaves.l.length), (32, vI (g.leaves.l.length : Int)), (33, vI (i : Int)), (34, vB true), (54, vB false)] [(1, 0, [vI g.kind, vI g.frm, vI g.to, vI g.num, vI g.hi, vS g.tree.p g.tree.l.length, vI g.tree.root, vS g.vec.p g.vec.l.length, vS g.leaves.p g.leaves.l.length, vS g.part.p g.part.x.items.length, vS g.part.q g.part.x.floors.length, vS g.marks.p g.marks.l.length])] ⟨rfl, rfl, rfl, rfl, rfl, rfl, rfl, rfl, trivial⟩ ⟨rfl, trivial⟩ rfl fun ρ0 ff => ?_
                have hnew : (0 ≤ x36 ∧ x36 ≤ 3) ∧ ∀ y, 0 < i → g.leaves.l[i - 1]? = some y → y < x36 := ⟨h39, fun y h0 _ => by omega⟩
                refine cx_sound _ _ _ _ _ ?_
                have ew55 : IntKind.wrap .i64 ((i : Int) + (1)) = ((i + 1 : Nat) : Int) := (wrap_i64 (by omega) (by omega)).trans (by omega)
                refine ⟨_, rfl, ?_⟩
                refine ⟨i + 1, g.leaves.l.length - (i + 1), by omega, ⟨rfl, rfl, rfl, congrArg (Value.int .i64) ew55, trivial⟩, ⟨rfl, trivial⟩, rfl, by omega, fun j x hj hx => ?_, rfl⟩
                rcases Nat.lt_or_ge j i with h | h
                · exact hok j x h hx
                · obtain rfl : j = i := by omega
                  rw [hy36] at hx; injection hx with hx; rw [← hx]; exact hnew
              · replace h43 : (i : Int) > (0) := of_decide_eq_true h43
                refine ⟨_, rfl, ?_⟩
                refine ⟨_, op_ldo rfl rfl rfl rfl, ?_⟩
                have ew48 : IntKind.wrap .i64 ((i : Int) - (1)) = (i : Int) - (1) := wrap_i64 (by omega) (by omega)
                refine ⟨_, rfl, ?_⟩
                refine op_at (i - 1) hR.leaves (by omega) rfl rfl rfl rfl (by rw [ew48]; omega) rfl rfl ?_
                intro x49 b49 d49 k49 hy49 hb49 hm49 hc49 ho49
                refine ⟨_, op_ldc (i := 0) rfl rfl rfl rfl hm49 hc49 rfl rfl, ?_⟩
                refine ⟨_, rfl, ?_⟩
                rintro (_|_) h52
                · replace h52 : ¬ (x49 ≥ x36) := of_decide_eq_false h52
                  iterate 2 refine ⟨_, rfl, ?_⟩
                  refine AW.cutM (gg) st [(1, vL 1 0 (0)), (3, vI (i : Int)), (4, vI x36), (31, vS g.leaves.p g.leaves.l.length), (32, vI (g.leaves.l.length : Int)), (33, vI (i : Int)), (34, vB true), (54, vB false)] [(1, 0, [vI g.kind, vI g.frm, vI g.to, vI g.num, vI g.hi, vS g.tree.p g.tree.l.length, vI g.tree.root, vS g.vec.p g.vec.l.length, vS g.leaves.p g.leaves.l.length, vS g.part.p g.part.x.items.length, vS g.part.q g.part.x.floors.length, vS g.marks.p g.marks.l.length])] ⟨rfl, rfl, rfl, rfl, rfl, rfl, rfl, rfl, trivial⟩ ⟨rfl, trivial⟩ rfl fun ρ0 ff => ?_
                  have hnew : (0 ≤ x36 ∧ x36 ≤ 3) ∧ ∀ y, 0 < i → g.leaves.l[i - 1]? = some y → y < x36 := ⟨h39, fun y h0 hy => by rw [hy49] at hy; injection hy with hy; omega⟩
                  refine cx_sound _ _ _ _ _ ?_
                  have ew55 : IntKind.wrap .i64 ((i : Int) + (1)) = ((i + 1 : Nat) : Int) := (wrap_i64 (by omega) (by omega)).trans (by omega)
                  refine ⟨_, rfl, ?_⟩
                  refine ⟨i + 1, g.leaves.l.length - (i + 1), by omega, ⟨rfl, rfl, rfl, congrArg (Value.int .i64) ew55, trivial⟩, ⟨rfl, trivial⟩, rfl, by omega, fun j x hj hx => ?_, rfl⟩
                  rcases Nat.lt_or_ge j i with h | h
                  · exact hok j x h hx
                  · obtain rfl : j = i := by omega
                    rw [hy36] at hx; injection hx with hx; rw [← hx]; exact hnew
                · replace h52 : x49 ≥ x36 := of_decide_eq_true h52
                  iterate 2 refine ⟨_, rfl, ?_⟩
                  refine AW.cutM (gg) st [(1, vL 1 0 (0)), (3, vI (i : Int)), (4, vI x36), (31, vS g.leaves.p g.leaves.l.length), (32, vI (g.leaves.l.length : Int)), (33, vI (i : Int)), (34, vB true), (54, vB true)] [(1, 0, [vI g.kind, vI g.frm, vI g.to, vI g.num, vI g.hi, vS g.tree.p g.tree.l.length, vI g.tree.root, vS g.vec.p g.vec.l.length, vS g.leaves.p g.leaves.l.length, vS g.part.p g.part.x.items.length, vS g.part.q g.part.x.floors.length, vS g.marks.p g.marks.l.length])] ⟨rfl, rfl, rfl, rfl, rfl, rfl, rfl, rfl, trivial⟩ ⟨rfl, trivial⟩ rfl fun ρ0 ff => ?_
                  refine cx_sound _ _ _ _ _ ?_
                  exact ⟨.inl rfl, _, rfl, false, rfl, ⟨fun h => absurd h Bool.false_ne_true, fun h => (show False from (absurd ((h.2.2.2.2.1 i x36 hy36).2 x49 (by omega) hy49) (by omega))).elim⟩, rfl⟩
        · replace h28 : g.frm = g.to := beq_iff_eq.1 h28
          refine ⟨_, rfl, ?_⟩
          refine AW.cutM (1) st [(1, vL 1 0 (0)), (2, vB false), (29, vB true)] [(1, 0, [vI g.kind, vI g.frm, vI g.to, vI g.num, vI g.hi, vS g.tree.p g.tree.l.length, vI g.tree.root, vS g.vec.p g.vec.l.length, vS g.leaves.p g.leaves.l.length, vS g.part.p g.part.x.items.length, vS g.part.q g.part.x.floors.length, vS g.marks.p g.marks.l.length])] ⟨rfl, rfl, rfl, trivial⟩ ⟨rfl, trivial⟩ rfl fun ρ0 ff => ?_
          refine cx_sound _ _ _ _ _ ?_
          exact ⟨.inl rfl, _, rfl, false, rfl, ⟨fun h => absurd h Bool.false_ne_true, fun h => (show False from (h.1.2.2.2 h28)).elim⟩, rfl⟩
theorem ac_spec_MsgOk (g : MV) (st : St) (hR : RdM st g) (hb : bigM g.x) : C 37 [.agg #[vI g.kind, vI g.frm, vI g.to, vI g.num, vI g.hi, vS g.tree.p g.tree.l.length, vI g.tree.root, vS g.vec.p g.vec.l.length, vS g.leaves.p g.leaves.l.length, vS g.part.p g.part.x.items.length, vS g.part.q g.part.x.floors.length, vS g.marks.p g.marks.l.length]] st (fun v s => ∃ x, v = .bool x ∧ (x = true ↔ msgOk g.x) ∧ s = st) := by
  have hs1 : g.leaves.l.length ≤ 1048576 := hb.leaves
  refine AC.enterX (i := ⟨[1], [1, 4, 9, 15, 21, 23, 28, 34, 39, 44, 50, 56, 62, 68, 74, 79], [0, 1, 2, 3, 38, 66, 71, 85]⟩) [(8, [], [])] Try.func37 rfl rfl (by kernel_rfl) (by kernel_rfl) Try.ntmps37 (Nat.le_of_ble_eq_true rfl) rfl ?_
  refine ⟨_, rfl, ?_⟩
  refine AW.cutM (1) st [(1, vL 1 0 (0)), (2, vB false)] [(1, 0, [vI g.kind, vI g.frm, vI g.to, vI g.num, vI g.hi, vS g.tree.p g.tree.l.length, vI g.tree.root, vS g.vec.p g.vec.l.length, vS g.leaves.p g.leaves.l.length, vS g.part.p g.part.x.items.length, vS g.part.q g.part.x.floors.length, vS g.marks.p g.marks.l.length])] ⟨rfl, rfl, trivial⟩ ⟨rfl, trivial⟩ rfl fun ρ0 ff => ?_
  refine ⟨_, rfl, ?_⟩
  refine ⟨_, op_ldo rfl rfl rfl rfl, ?_⟩
  refine ⟨_, rfl, (ac_spec_l1In g.kind 0 5 st).mono ?_⟩
  rintro _ st ⟨x6, rfl, h6, rfl⟩
  rcases x6 with _|_
  · replace h6 := of_decide_eq_false h6.symm
    iterate 4 refine ⟨_, rfl, ?_⟩
    refine ow_cut [(1, vL 1 0 (0)), (2, vB false), (26, vB true)] ⟨rfl, rfl, rfl, trivial⟩ fun ρ0 => ?_
    iterate 2 refine ⟨_, rfl, ?_⟩
    refine AW.cutM (1) st [(1, vL 1 0 (0)), (2, vB false), (38, vB true)] [(1, 0, [vI g.kind, vI g.frm, vI g.to, vI g.num, vI g.hi, vS g.tree.p g.tree.l.length, vI g.tree.root, vS g.vec.p g.vec.l.length, vS g.leaves.p g.leaves.l.length, vS g.part.p g.part.x.items.length, vS g.part.q g.part.x.floors.length, vS g.marks.p g.marks.l.length])] ⟨rfl, rfl, rfl, trivial⟩ ⟨rfl, trivial⟩ rfl fun ρ0 ff => ?_
    refine cx_sound _ _ _ _ _ ?_
    exact ⟨.inl rfl, _, rfl, false, rfl, ⟨fun h => absurd h Bool.false_ne_true, fun h => (show False from (h6 h.1.1)).elim⟩, rfl⟩
  · replace h6 := of_decide_eq_true h6.symm
    iterate 2 refine ⟨_, rfl, ?_⟩
    refine ⟨_, op_ldo rfl rfl rfl rfl, ?_⟩
    refine ⟨_, rfl, (ac_spec_l3Node g.frm st).mono ?_⟩
    rintro _ st ⟨x11, rfl, h11, rfl⟩
    rcases x11 with _|_
    · replace h11 := of_decide_eq_false h11.symm
      iterate 4 refine ⟨_, rfl, ?_⟩
      refine ow_cut [(1, vL 1 0 (0)), (2, vB false), (26, vB true)] ⟨rfl, rfl, rfl, trivial⟩ fun ρ0 => ?_
      iterate 2 refine ⟨_, rfl, ?_⟩
      refine AW.cutM (1) st [(1, vL 1 0 (0)), (2, vB false), (38, vB true)] [(1, 0, [vI g.kind, vI g.frm, vI g.to, vI g.num, vI g.hi, vS g.tree.p g.tree.l.length, vI g.tree.root, vS g.vec.p g.vec.l.length, vS g.leaves.p g.leaves.l.length, vS g.part.p g.part.x.items.length, vS g.part.q g.part.x.floors.length, vS g.marks.p g.marks.l.length])] ⟨rfl, rfl, rfl, trivial⟩ ⟨rfl, trivial⟩ rfl fun ρ0 ff => ?_
      refine cx_sound _ _ _ _ _ ?_
      exact ⟨.inl rfl, _, rfl, false, rfl, ⟨fun h => absurd h Bool.false_ne_true, fun h => (show False from (h11 h.1.2.1)).elim⟩, rfl⟩
    · replace h11 := of_decide_eq_true h11.symm
      iterate 3 refine ⟨_, rfl, ?_⟩
      refine ⟨_, op_ldo rfl rfl rfl rfl, ?_⟩
      refine ⟨_, rfl, (ac_spec_l3Node g.to st).mono ?_⟩
      rintro _ st ⟨x17, rfl, h17, rfl⟩
      rcases x17 with _|_
      · replace h17 := of_decide_eq_false h17.symm
        iterate 3 refine ⟨_, rfl, ?_⟩
        refine ow_cut [(1, vL 1 0 (0)), (2, vB false), (26, vB true)] ⟨rfl, rfl, rfl, trivial⟩ fun ρ0 => ?_
        iterate 2 refine ⟨_, rfl, ?_⟩
        refine AW.cutM (1) st [(1, vL 1 0 (0)), (2, vB false), (38, vB true)] [(1, 0, [vI g.kind, vI g.frm, vI g.to, vI g.num, vI g.hi, vS g.tree.p g.tree.l.length, vI g.tree.root, vS g.vec.p g.vec.l.length, vS g.leaves.p g.leaves.l.length, vS g.part.p g.part.x.items.length, vS g.part.q g.part.x.floors.length, vS g.marks.p g.marks.l.length])] ⟨rfl, rfl, rfl, trivial⟩ ⟨rfl, trivial⟩ rfl fun ρ0 ff => ?_
        refine cx_sound _ _ _ _ _ ?_
        exact ⟨.inl rfl, _, rfl, false, rfl, ⟨fun h => absurd h Bool.false_ne_true, fun h => (show False from (h17 h.1.2.2.1)).elim⟩, rfl⟩
      · replace h17 := of_decide_eq_true h17.symm
        iterate 3 refine ⟨_, rfl, ?_⟩
        refine ow_cut [(1, vL 1 0 (0)), (2, vB false), (20, vB false), (21, vL 1 1 (0))] ⟨rfl, rfl, rfl, rfl, trivial⟩ fun ρ0 => ?_
        refine ⟨_, op_ldo rfl rfl rfl rfl, ?_⟩
        refine ⟨_, rfl, ?_⟩
        refine ⟨_, op_ldo rfl rfl rfl rfl, ?_⟩
        refine ⟨_, rfl, ?_⟩
        rintro (_|_) h25
        · replace h25 : ¬ (g.frm = g.to) := beq_eq_false_iff_ne.1 h25
          iterate 2 refine ⟨_, rfl, ?_⟩
          refine ⟨_, op_ldo rfl rfl rfl rfl, ?_⟩
          refine ⟨_, rfl, (ac_spec_l1In g.num 0 100000 st).mono ?_⟩
          rintro _ st ⟨x30, rfl, h30, rfl⟩
          rcases x30 with _|_
          · replace h30 := of_decide_eq_false h30.symm
            iterate 3 refine ⟨_, rfl, ?_⟩
            refine AW.cutM (1) st [(1, vL 1 0 (0)), (2, vB false), (38, vB true)] [(1, 0, [vI g.kind, vI g.frm, vI g.to, vI g.num, vI g.hi, vS g.tree.p g.tree.l.length, vI g.tree.root, vS g.vec.p g.vec.l.length, vS g.leaves.p g.leaves.l.length, vS g.part.p g.part.x.items.length, vS g.part.q g.part.x.floors.length, vS g.marks.p g.marks.l.length])] ⟨rfl, rfl, rfl, trivial⟩ ⟨rfl, trivial⟩ rfl fun ρ0 ff => ?_
            refine cx_sound _ _ _ _ _ ?_
            exact ⟨.inl rfl, _, rfl, false, rfl, ⟨fun h => absurd h Bool.false_ne_true, fun h => (show False from (h30 h.2.1.1)).elim⟩, rfl⟩
          · replace h30 := of_decide_eq_true h30.symm
            iterate 3 refine ⟨_, rfl, ?_⟩
            refine ⟨_, op_ldo rfl rfl rfl rfl, ?_⟩
            refine ⟨_, rfl, (ac_spec_l1In g.hi 0 100000 st).mono ?_⟩
            rintro _ st ⟨x36, rfl, h36, rfl⟩
            rcases x36 with _|_
            · replace h36 := of_decide_eq_false h36.symm
              iterate 2 refine ⟨_, rfl, ?_⟩
              refine AW.cutM (1) st [(1, vL 1 0 (0)), (2, vB false), (38, vB true)] [(1, 0, [vI g.kind, vI g.frm, vI g.to, vI g.num, vI g.hi, vS g.tree.p g.tree.l.length, vI g.tree.root, vS g.vec.p g.vec.l.length, vS g.leaves.p g.leaves.l.length, vS g.part.p g.part.x.items.length, vS g.part.q g.part.x.floors.length, vS g.marks.p g.marks.l.length])] ⟨rfl, rfl, rfl, trivial⟩ ⟨rfl, trivial⟩ rfl fun ρ0 ff => ?_
              refine cx_sound _ _ _ _ _ ?_
              exact ⟨.inl rfl, _, rfl, false, rfl, ⟨fun h => absurd h Bool.false_ne_true, fun h => (show False from (h36 h.2.1.2)).elim⟩, rfl⟩
            · replace h36 := of_decide_eq_true h36.symm
              iterate 2 refine ⟨_, rfl, ?_⟩
              refine AW.cutM (1) st [(1, vL 1 0 (0)), (2, vB false), (38, vB false)] [(1, 0, [vI g.kind, vI g.frm, vI g.to, vI g.num, vI g.hi, vS g.tree.p g.tree.l.length, vI g.tree.root, vS g.vec.p g.vec.l.length, vS g.leaves.p g.leaves.l.length, vS g.part.p g.part.x.items.length, vS g.part.q g.part.x.floors.length, vS g.marks.p g.marks.l.length])] ⟨rfl, rfl, rfl, trivial⟩ ⟨rfl, trivial⟩ rfl fun ρ0 ff => ?_
              refine cx_sound _ _ _ _ _ ?_
              refine ⟨_, rfl, ?_⟩
              refine ⟨_, op_ldo rfl rfl rfl rfl, ?_⟩
              refine ⟨_, rfl, (ac_spec_l10Tree g.tree st hR.tree (hb.tree)).mono ?_⟩
              rintro _ st ⟨x41, rfl, h41, rfl⟩
              rcases x41 with _|_
              · replace h41 := fun k => Bool.false_ne_true (h41.2 k)
                iterate 5 refine ⟨_, rfl, ?_⟩
                refine AW.cutM (1) st [(1, vL 1 0 (0)), (2, vB false), (66, vB true)] [(1, 0, [vI g.kind, vI g.frm, vI g.to, vI g.num, vI g.hi, vS g.tree.p g.tree.l.length, vI g.tree.root, vS g.vec.p g.vec.l.length, vS g.leaves.p g.leaves.l.length, vS g.part.p g.part.x.items.length, vS g.part.q g.part.x.floors.length, vS g.marks.p g.marks.l.length])] ⟨rfl, rfl, rfl, trivial⟩ ⟨rfl, trivial⟩ rfl fun ρ0 ff => ?_
                refine cx_sound _ _ _ _ _ ?_
                exact ⟨.inl rfl, _, rfl, false, rfl, ⟨fun h => absurd h Bool.false_ne_true, fun h => (show False from (h41 h.2.2.1)).elim⟩, rfl⟩
              · replace h41 := h41.1 rfl
                iterate 2 refine ⟨_, rfl, ?_⟩
                refine ⟨_, op_ldo rfl rfl rfl rfl, ?_⟩
                refine ⟨_, rfl, (ac_spec_l10Nums g.vec.p g.vec.l 5 100000 st hR.vec (hb.vec)).mono ?_⟩
                rintro _ st ⟨x46, rfl, h46, rfl⟩
                rcases x46 with _|_
                · replace h46 := fun k => Bool.false_ne_true (h46.2 k)
                  iterate 5 refine ⟨_, rfl, ?_⟩
                  refine AW.cutM (1) st [(1, vL 1 0 (0)), (2, vB false), (66, vB true)] [(1, 0, [vI g.kind, vI g.frm, vI g.to, vI g.num, vI g.hi, vS g.tree.p g.tree.l.length, vI g.tree.root, vS g.vec.p g.vec.l.length, vS g.leaves.p g.leaves.l.length, vS g.part.p g.part.x.items.length, vS g.part.q g.part.x.floors.length, vS g.marks.p g.marks.l.length])] ⟨rfl, rfl, rfl, trivial⟩ ⟨rfl, trivial⟩ rfl fun ρ0 ff => ?_
                  refine cx_sound _ _ _ _ _ ?_
                  exact ⟨.inl rfl, _, rfl, false, rfl, ⟨fun h => absurd h Bool.false_ne_true, fun h => (show False from (h46 h.2.2.2.1)).elim⟩, rfl⟩
                · replace h46 := h46.1 rfl
                  iterate 3 refine ⟨_, rfl, ?_⟩
                  refine ⟨_, op_ldo rfl rfl rfl rfl, ?_⟩
                  refine ⟨_, rfl, (ac_spec_l10Nums g.leaves.p g.leaves.l 4 3 st hR.leaves (hb.leaves)).mono ?_⟩
                  rintro _ st ⟨x52, rfl, h52, rfl⟩
                  rcases x52 with _|_
                  · replace h52 := fun k => Bool.false_ne_true (h52.2 k)
                    iterate 4 refine ⟨_, rfl, ?_⟩
                    refine AW.cutM (1) st [(1, vL 1 0 (0)), (2, vB false), (66, vB true)] [(1, 0, [vI g.kind, vI g.frm, vI g.to, vI g.num, vI g.hi, vS g.tree.p g.tree.l.length, vI g.tree.root, vS g.vec.p g.vec.l.length, vS g.leaves.p g.leaves.l.length, vS g.part.p g.part.x.items.length, vS g.part.q g.part.x.floors.length, vS g.marks.p g.marks.l.length])] ⟨rfl, rfl, rfl, trivial⟩ ⟨rfl, trivial⟩ rfl fun ρ0 ff => ?_
                    refine cx_sound _ _ _ _ _ ?_
                    exact ⟨.inl rfl, _, rfl, false, rfl, ⟨fun h => absurd h Bool.false_ne_true, fun h => (show False from (h52 (inc_nums h.2.2.2.2.1))).elim⟩, rfl⟩
                  · replace h52 := h52.1 rfl
                    iterate 3 refine ⟨_, rfl, ?_⟩
                    refine ow_cut [(1, vL 1 0 (0)), (2, vB false), (55, vB false), (56, vL 1 9 (0))] ⟨rfl, rfl, rfl, rfl, trivial⟩ fun ρ0 => ?_
                    refine ⟨_, op_ldo rfl rfl rfl rfl, ?_⟩
                    refine ⟨_, rfl, (ac_spec_StateOk g.part st hR.part (hb.part)).mono ?_⟩
                    rintro _ st ⟨x58, rfl, h58, rfl⟩
                    rcases x58 with _|_
                    · replace h58 := fun k => Bool.false_ne_true (h58.2 k)
                      iterate 3 refine ⟨_, rfl, ?_⟩
                      refine AW.cutM (1) st [(1, vL 1 0 (0)), (2, vB false), (66, vB true)] [(1, 0, [vI g.kind, vI g.frm, vI g.to, vI g.num, vI g.hi, vS g.tree.p g.tree.l.length, vI g.tree.root, vS g.vec.p g.vec.l.length, vS g.leaves.p g.leaves.l.length, vS g.part.p g.part.x.items.length, vS g.part.q g.part.x.floors.length, vS g.marks.p g.marks.l.length])] ⟨rfl, rfl, rfl, trivial⟩ ⟨rfl, trivial⟩ rfl fun ρ0 ff => ?_
                      refine cx_sound _ _ _ _ _ ?_
                      exact ⟨.inl rfl, _, rfl, false, rfl, ⟨fun h => absurd h Bool.false_ne_true, fun h => (show False from (h58 h.2.2.2.2.2.1)).elim⟩, rfl⟩
                    · replace h58 := h58.1 rfl
                      iterate 3 refine ⟨_, rfl, ?_⟩
                      refine ⟨_, op_ldo rfl rfl rfl rfl, ?_⟩
                      refine ⟨_, rfl, (ac_spec_MarksOk g.marks.p g.marks.l st hR.marks (hb.marks)).mono ?_⟩
                      rintro _ st ⟨x64, rfl, h64, rfl⟩
                      rcases x64 with _|_
                      · replace h64 := fun k => Bool.false_ne_true (h64.2 k)
                        iterate 2 refine ⟨_, rfl, ?_⟩
                        refine AW.cutM (1) st [(1, vL 1 0 (0)), (2, vB false), (66, vB true)] [(1, 0, [vI g.kind, vI g.frm, vI g.to, vI g.num, vI g.hi, vS g.tree.p g.tree.l.length, vI g.tree.root, vS g.vec.p g.vec.l.length, vS g.leaves.p g.leaves.l.length, vS g.part.p g.part.x.items.length, vS g.part.q g.part.x.floors.length, vS g.marks.p g.marks.l.length])] ⟨rfl, rfl, rfl, trivial⟩ ⟨rfl, trivial⟩ rfl fun ρ0 ff => ?_
                        refine cx_sound _ _ _ _ _ ?_
                        exact ⟨.inl rfl, _, rfl, false, rfl, ⟨fun h => absurd h Bool.false_ne_true, fun h => (show False from (h64 h.2.2.2.2.2.2)).elim⟩, rfl⟩
                      · replace h64 := h64.1 rfl
                        iterate 2 refine ⟨_, rfl, ?_⟩
                        refine AW.cutM (1) st [(1, vL 1 0 (0)), (2, vB false), (66, vB false)] [(1, 0, [vI g.kind, vI g.frm, vI g.to, vI g.num, vI g.hi, vS g.tree.p g.tree.l.length, vI g.tree.root, vS g.vec.p g.vec.l.length, vS g.leaves.p g.leaves.l.length, vS g.part.p g.part.x.items.length, vS g.part.q g.part.x.floors.length, vS g.marks.p g.marks.l.length])] ⟨rfl, rfl, rfl, trivial⟩ ⟨rfl, trivial⟩ rfl fun ρ0 ff => ?_
                        refine cx_sound _ _ _ _ _ ?_
                        refine AW.cutM (1) st [(1, vL 1 0 (0)), (2, vB false), (3, vI (1))] [(1, 0, [vI g.kind, vI g.frm, vI g.to, vI g.num, vI g.hi, vS g.tree.p g.tree.l.length, vI g.tree.root, vS g.vec.p g.vec.l.length, vS g.leaves.p g.leaves.l.length, vS g.part.p g.part.x.items.length, vS g.part.q g.part.x.floors.length, vS g.marks.p g.marks.l.length])] ⟨rfl, rfl, rfl, trivial⟩ ⟨rfl, trivial⟩ rfl fun ρ0 ff => ?_
                        refine AW.loopM (fun i : Nat => [(1, vL 1 0 (0)), (3, vI ((i + 1 : Nat) : Int))]) (fun i : Nat => [(1, 0, [vI g.kind, vI g.frm, vI g.to, vI g.num, vI g.hi, vS g.tree.p g.tree.l.length, vI g.tree.root, vS g.vec.p g.vec.l.length, vS g.leaves.p g.leaves.l.length, vS g.part.p g.part.x.items.length, vS g.part.q g.part.x.floors.length, vS g.marks.p g.marks.l.length])]) (fun m (i : Nat) st' => m = g.leaves.l.length - i ∧ (i = 0 ∨ i + 1 ≤ g.leaves.l.length) ∧ (∀ (j : Nat) x y, j < i → g.leaves.l[j + 1]? = some x → g.leaves.l[j]? = some y → y < x) ∧ st = st') 0 _ ⟨rfl, rfl, trivial⟩ ⟨rfl, trivial⟩ ⟨rfl, .inl rfl, fun j x y h => absurd h (Nat.not_lt_zero _), rfl⟩ ?_
                        rintro m i ρ0 ff gg st' ⟨rfl, hi, hok, rfl⟩
                        refine ⟨_, rfl, ?_⟩
                        refine ⟨_, op_ldo rfl rfl rfl rfl, ?_⟩
                        iterate 2 refine ⟨_, rfl, ?_⟩
                        rintro (_|_) h71
                        · replace h71 : ¬ (((i + 1 : Nat) : Int) < (g.leaves.l.length : Int)) := of_decide_eq_false h71
                          refine AW.cutM (gg) st [(1, vL 1 0 (0)), (3, vI ((i + 1 : Nat) : Int)), (71, vB false)] [(1, 0, [vI g.kind, vI g.frm, vI g.to, vI g.num, vI g.hi, vS g.tree.p g.tree.l.length, vI g.tree.root, vS g.vec.p g.vec.l.length, vS g.leaves.p g.leaves.l.length, vS g.part.p g.part.x.items.length, vS g.part.q g.part.x.floors.length, vS g.marks.p g.marks.l.length])] ⟨rfl, rfl, rfl, trivial⟩ ⟨rfl, trivial⟩ rfl fun ρ0 ff => ?_
                          refine cx_sound _ _ _ _ _ ?_
                          refine cx_sound _ _ _ _ _ ?_
                          refine ⟨.inl rfl, _, rfl, true, rfl, ⟨fun _ => ⟨⟨h6, h11, h17, h25⟩, ⟨h30, h36⟩, h41, h46, fun j x hx => ⟨h52.2 j x hx, fun y h0 hy => ?_⟩, h58, h64⟩, fun _ => rfl⟩, rfl⟩
                          have hj := (List.getElem?_eq_some_iff.1 hx).1
                          simp only [MV.x] at hj
                          exact hok (j - 1) x y (by omega) (by rw [show j - 1 + 1 = j by omega]; exact hx) hy
                        · replace h71 : ((i + 1 : Nat) : Int) < (g.leaves.l.length : Int) := of_decide_eq_true h71
                          refine AW.cutM (gg) st [(1, vL 1 0 (0)), (3, vI ((i + 1 : Nat) : Int)), (71, vB true)] [(1, 0, [vI g.kind, vI g.frm, vI g.to, vI g.num, vI g.hi, vS g.tree.p g.tree.l.length, vI g.tree.root, vS g.vec.p g.vec.l.length, vS g.leaves.p g.leaves.l.length, vS g.part.p g.part.x.items.length, vS g.part.q g.part.x.floors.length, vS g.marks.p g.marks.l.length])] ⟨rfl, rfl, rfl, trivial⟩ ⟨rfl, trivial⟩ rfl fun ρ0 ff => ?_
                          refine cx_sound _ _ _ _ _ ?_
                          refine ⟨_, rfl, ?_⟩
                          refine ⟨_, op_ldo rfl rfl rfl rfl, ?_⟩
                          refine op_at (i + 1) hR.leaves (by omega) rfl rfl rfl rfl rfl rfl rfl ?_
                          intro x77 b77 d77 k77 hy77 hb77 hm77 hc77 ho77
                          refine ⟨_, op_ldc (i := 0) rfl rfl rfl rfl hm77 hc77 rfl rfl, ?_⟩
                          refine ⟨_, rfl, ?_⟩
                          refine ⟨_, op_ldo rfl rfl rfl rfl, ?_⟩
                          have ew82 : IntKind.wrap .i64 (((i + 1 : Nat) : Int) - (1)) = ((i + 1 : Nat) : Int) - (1) := wrap_i64 (by omega) (by omega)
                          refine ⟨_, rfl, ?_⟩
                          refine op_at i ((hR.leaves)) (by omega) rfl rfl rfl rfl (by rw [ew82]; omega) rfl rfl ?_
                          intro x83 b83 d83 k83 hy83 hb83 hm83 hc83 ho83
                          refine ⟨_, op_ldc (i := 0) rfl rfl rfl rfl hm83 hc83 rfl rfl, ?_⟩
                          refine ⟨_, rfl, ?_⟩
                          rintro (_|_) h85
                          · replace h85 : ¬ (x77 ≤ x83) := of_decide_eq_false h85
                            refine AW.cutM (gg) st [(1, vL 1 0 (0)), (3, vI ((i + 1 : Nat) : Int)), (71, vB true), (85, vB false)] [(1, 0, [vI g.kind, vI g.frm, vI g.to, vI g.num, vI g.hi, vS g.tree.p g.tree.l.length, vI g.tree.root, vS g.vec.p g.vec.l.length, vS g.leaves.p g.leaves.l.length, vS g.part.p g.part.x.items.length, vS g.part.q g.part.x.floors.length, vS g.marks.p g.marks.l.length])] ⟨rfl, rfl, rfl, rfl, trivial⟩ ⟨rfl, trivial⟩ rfl fun ρ0 ff => ?_
                            refine cx_sound _ _ _ _ _ ?_
                            have ew73 : IntKind.wrap .i64 (((i + 1 : Nat) : Int) + (1)) = ((i + 1 + 1 : Nat) : Int) := (wrap_i64 (by omega) (by omega)).trans (by omega)
                            refine ⟨_, rfl, ?_⟩
                            refine ⟨i + 1, g.leaves.l.length - (i + 1), by omega, ⟨rfl, congrArg (Value.int .i64) ew73, trivial⟩, ⟨rfl, trivial⟩, rfl, .inr (by omega), fun j x y hj hx hy => ?_, rfl⟩
                            rcases Nat.lt_or_ge j i with h | h
                            · exact hok j x y h hx hy
                            · obtain rfl : j = i := by omega
                              rw [hy77] at hx; injection hx with hx; rw [hy83] at hy; injection hy with hy; omega
                          · replace h85 : x77 ≤ x83 := of_decide_eq_true h85
                            refine AW.cutM (gg) st [(1, vL 1 0 (0)), (3, vI ((i + 1 : Nat) : Int)), (71, vB true), (85, vB true)] [(1, 0, [vI g.kind, vI g.frm, vI g.to, vI g.num, vI g.hi, vS g.tree.p g.tree.l.length, vI g.tree.root, vS g.vec.p g.vec.l.length, vS g.leaves.p g.leaves.l.length, vS g.part.p g.part.x.items.length, vS g.part.q g.part.x.floors.length, vS g.marks.p g.marks.l.length])] ⟨rfl, rfl, rfl, rfl, trivial⟩ ⟨rfl, trivial⟩ rfl fun ρ0 ff => ?_
                            refine cx_sound _ _ _ _ _ ?_
                            exact ⟨.inl rfl, _, rfl, false, rfl, ⟨fun h => absurd h Bool.false_ne_true, fun h => (show False from (absurd ((h.2.2.2.2.1 (i + 1) x77 hy77).2 x83 (by omega) hy83) (by omega))).elim⟩, rfl⟩
        · replace h25 : g.frm = g.to := beq_iff_eq.1 h25
          iterate 3 refine ⟨_, rfl, ?_⟩
          refine AW.cutM (1) st [(1, vL 1 0 (0)), (2, vB false), (38, vB true)] [(1, 0, [vI g.kind, vI g.frm, vI g.to, vI g.num, vI g.hi, vS g.tree.p g.tree.l.length, vI g.tree.root, vS g.vec.p g.vec.l.length, vS g.leaves.p g.leaves.l.length, vS g.part.p g.part.x.items.length, vS g.part.q g.part.x.floors.length, vS g.marks.p g.marks.l.length])] ⟨rfl, rfl, rfl, trivial⟩ ⟨rfl, trivial⟩ rfl fun ρ0 ff => ?_
          refine cx_sound _ _ _ _ _ ?_
          exact ⟨.inl rfl, _, rfl, false, rfl, ⟨fun h => absurd h Bool.false_ne_true, fun h => (show False from (h.1.2.2.2 h25)).elim⟩, rfl⟩
end Go.Proofs.Ytopcpcoklgepnaa.AM
