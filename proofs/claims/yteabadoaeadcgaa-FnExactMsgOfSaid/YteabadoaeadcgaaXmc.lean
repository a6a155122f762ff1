/- Part 3 of the texts on which the law's proof rests. -/
import Derived.Test.YteabadoaeadcgaaXmb
import Derived.Lib.Bytealg
namespace Go.Proofs.Yteabadoaeadcgaa.AM
open Go Go.Proofs
set_option linter.unusedVariables false
set_option linter.unusedSimpArgs false
set_option maxRecDepth 100000
set_option maxHeartbeats 4000000
def numsOk (l : List Int) (most top : Int) : Prop := (l.length : Int) ≤ most ∧ ∀ (j : Nat) x,l[j]? = some x → 0 ≤ x ∧ x ≤ top
def trOk (t : Tr) : Prop := if t.leaves.length = 0 then t.root = 0 else t.leaves.length = 4 ∧ (∀ (j : Nat) x,t.leaves[j]? = some x → 0 ≤ x ∧ x ≤ 1023) ∧ (0 ≤ t.root ∧ t.root ≤ 1023)
def incOk (l : List Int) : Prop := ∀ (j : Nat) x,l[j]? = some x → (0 ≤ x ∧ x ≤ 3) ∧ ∀ y,0 < j → l[j - 1]? = some y → y < x
def msgOk (m : Mg) : Prop := ((0 ≤ m.kind ∧ m.kind ≤ 5) ∧ (0 ≤ m.frm ∧ m.frm ≤ 4) ∧ (0 ≤ m.to ∧ m.to ≤ 4) ∧ ¬ m.frm = m.to) ∧ ((0 ≤ m.num ∧ m.num ≤ 100000) ∧ (0 ≤ m.hi ∧ m.hi ≤ 100000)) ∧ trOk m.tree ∧ numsOk m.vec 5 100000 ∧ incOk m.leaves ∧ stateOk m.part ∧ marksOk m.marks
theorem inc_ge {l : List Int} (h : incOk l) : ∀ (j : Nat) x,l[j]? = some x → (j : Int) ≤ x := by
 intro j
 induction j with
 | zero => intro x hx; have := (h 0 x hx).1.1; omega
 | succ j ih =>
  intro x hx
  have hj := (List.getElem?_eq_some_iff.1 hx).1
  have hy : l[j]? = some l[j] := List.getElem?_eq_getElem (by omega)
  have h1 := ih _ hy
  have h2 := (h (j + 1) x hx).2 l[j] (by omega) hy
  omega
theorem inc_len {l : List Int} (h : incOk l) : l.length ≤ 4 := by
 rcases Nat.lt_or_ge 4 l.length with h1 | h1
 ·have hx : l[4]? = some l[4] := List.getElem?_eq_getElem h1
  have h2 := inc_ge h 4 _ hx
  have h3 := (h 4 _ hx).1.2
  omega
 ·exact h1
theorem inc_nums {l : List Int} (h : incOk l) : numsOk l 4 3 := ⟨by have := inc_len h; omega,fun j x hx => (h j x hx).1⟩
theorem ac_spec_l10Nums (p : Option Addr) (l : List Int) (most top : Int) (st : St) (hR : Rows st 1 fI p l) (hs : szOk l.length) : C 122 [vS p l.length,vI most,vI top] st (fun v s => ∃ x,v = .bool x ∧ (x = true ↔ numsOk l most top) ∧ s = st) := by
 have hs : l.length ≤ 1048576 := hs
 refine AC.enterX (i := ⟨[],[],[0,1,2,6,7,11,15,24],[]⟩) [] Try.func122 rfl rfl (by kernel_rfl) (by kernel_rfl) Try.ntmps122 (Lb rfl) rfl ?_
 refine Cu lo0 st [(0,vS p l.length),(1,vI most),(2,vI top),(6,vB false)] fun _ => ?_
 iterate 2 refine ⟨_,rfl,?_⟩
 rintro (_|_) h11
 ·replace h11 : ¬ ((l.length : Int) > most) := of_decide_eq_false h11
  refine Cu lo0 st [(0,vS p l.length),(2,vI top),(6,vB false),(11,vB false)] fun _ => ?_
  refine cxs ?_
  refine Cu lo0 st [(0,vS p l.length),(2,vI top),(6,vB false),(7,vI 0)] fun _ => ?_
  refine AW.loop0 (fun i : Nat => [(0,vS p l.length),(2,vI top),(7,vI (i : Int))]) (fun m (i : Nat) st' => m = l.length - i ∧ i ≤ l.length ∧ (∀ (j : Nat) x,j < i → l[j]? = some x → 0 ≤ x ∧ x ≤ top) ∧ st = st') 0 _ ⟨rfl,rfl,rfl,trivial⟩ rfl ⟨rfl,Nat.zero_le _,fun j x h => absurd h (Nat.not_lt_zero _),rfl⟩ ?_
  rintro m i ρ0 st' ⟨rfl,hi,hok,rfl⟩
  iterate 2 refine ⟨_,rfl,?_⟩
  rintro (_|_) h15
  ·replace h15 : ¬ ((i : Int) < (l.length : Int)) := of_decide_eq_false h15
   refine Cu lo0 st [(0,vS p l.length),(2,vI top),(7,vI (i : Int)),(15,vB false)] fun _ => ?_
   refine cxs ?_
   exact cxs (Rt ⟨true,rfl,⟨fun _ => ⟨by omega,fun j x hx => hok j x (by have := (List.getElem?_eq_some_iff.1 hx).1; omega) hx⟩,fun _ => rfl⟩,rfl⟩)
  ·replace h15 : (i : Int) < (l.length : Int) := of_decide_eq_true h15
   refine Cu lo0 st [(0,vS p l.length),(2,vI top),(7,vI (i : Int)),(15,vB true)] fun _ => ?_
   refine cxs ?_
   refine op_at i hR (by omega) rfl rfl rfl rfl rfl rfl rfl ?_
   intro x20 b20 d20 k20 hy20 hb20 hm20 hc20 ho20
   refine ⟨_,op_ldc (i := 0) rfl rfl rfl rfl hm20 hc20 rfl rfl,?_⟩
   refine ⟨_,rfl,(ac_spec_l1In x20 0 top st).mono ?_⟩
   rintro _ st ⟨x23,rfl,h23,rfl⟩
   rcases x23 with _|_
   ·replace h23 := of_decide_eq_false h23.symm
    refine ⟨_,rfl,?_⟩
    refine Cu lo0 st [(0,vS p l.length),(2,vI top),(7,vI (i : Int)),(15,vB true),(24,vB true)] fun _ => ?_
    exact cxs (Rt ⟨false,rfl,⟨fun h => absurd h Bool.false_ne_true,fun h => (show False from (absurd (h.2 i x20 hy20) h23)).elim⟩,rfl⟩)
   ·replace h23 := of_decide_eq_true h23.symm
    refine ⟨_,rfl,?_⟩
    refine Cu lo0 st [(0,vS p l.length),(2,vI top),(7,vI (i : Int)),(15,vB true),(24,vB false)] fun _ => ?_
    refine cxs ?_
    have ew17 : IntKind.wrap .i64 ((i : Int) + (1)) = ((i + 1 : Nat) : Int) := (wrap_i64 (by omega) (by omega)).trans (by omega)
    refine ⟨_,rfl,?_⟩
    refine ⟨i + 1,l.length - (i + 1),by omega,⟨rfl,rfl,congrArg (Value.int .i64) ew17,trivial⟩,rfl,rfl,by omega,fun j x hj hx => ?_,rfl⟩
    rcases Nat.lt_or_ge j i with h | h
    ·exact hok j x h hx
    ·obtain rfl : j = i := by omega
     rw [hy20] at hx; injection hx with hx; rw [← hx]; exact h23
 ·replace h11 : (l.length : Int) > most := of_decide_eq_true h11
  refine Cu lo0 st [(0,vS p l.length),(2,vI top),(6,vB false),(11,vB true)] fun _ => ?_
  exact cxs (Rt ⟨false,rfl,⟨fun h => absurd h Bool.false_ne_true,fun h => (show False from (absurd h.1 (by omega))).elim⟩,rfl⟩)
theorem ac_spec_l10Tree (t : TV) (st : St) (hR : Rows st 1 fI t.p t.l) (hs : szOk t.l.length) : C 121 [.agg #[vS t.p t.l.length,vI t.root]] st (fun v s => ∃ x,v = .bool x ∧ (x = true ↔ trOk t.x) ∧ s = st) := by
 refine AC.enterX (i := ⟨[1],[1,3,7,10,15,20],[0,1,2,6],[]⟩) [] Try.func121 rfl rfl (by kernel_rfl) (by kernel_rfl) Try.ntmps121 (Lb rfl) rfl ?_
 refine ⟨_,rfl,?_⟩
 refine Cm 1 st [Ml 1 0,(2,vB false)] [(1,0,[vS t.p t.l.length,vI t.root])] fun _ _ => ?_
 refine ⟨_,rfl,?_⟩
 refine ⟨_,Od rfl,?_⟩
 iterate 2 refine ⟨_,rfl,?_⟩
 rintro (_|_) h6
 ·replace h6 : ¬ ((t.l.length : Int) = (0)) := beq_eq_false_iff_ne.1 h6
  refine Cm 1 st [Ml 1 0,(2,vB false),(6,vB false)] [(1,0,[vS t.p t.l.length,vI t.root])] fun _ _ => ?_
  have h0 : ¬ t.l.length = 0 := by omega
  refine cxs ?_
  refine ⟨_,rfl,?_⟩
  refine ⟨_,Od rfl,?_⟩
  iterate 2 refine ⟨_,rfl,?_⟩
  rintro (_|_) h13
  ·replace h13 : ¬ ((t.l.length : Int) = (4)) := beq_eq_false_iff_ne.1 h13
   iterate 2 refine ⟨_,rfl,?_⟩
   exact cxs (Rt ⟨false,rfl,⟨fun h => absurd h Bool.false_ne_true,fun h => (show False from (by rw [trOk,if_neg h0] at h; have h1 : t.l.length = 4 := h.1; omega)).elim⟩,rfl⟩)
  ·replace h13 : (t.l.length : Int) = (4) := beq_iff_eq.1 h13
   refine ⟨_,rfl,?_⟩
   refine ⟨_,Od rfl,?_⟩
   refine ⟨_,rfl,(ac_spec_l10Nums t.p t.l 4 1023 st hR (by first | assumption | omega)).mono ?_⟩
   rintro _ st ⟨x17,rfl,h17,rfl⟩
   rcases x17 with _|_
   ·replace h17 := fun k => Bool.false_ne_true (h17.2 k)
    iterate 2 refine ⟨_,rfl,?_⟩
    exact cxs (Rt ⟨false,rfl,⟨fun h => absurd h Bool.false_ne_true,fun h => (show False from (by rw [trOk,if_neg h0] at h; exact h17 ⟨by have h1 : t.l.length = 4 := h.1; omega,h.2.1⟩)).elim⟩,rfl⟩)
   ·replace h17 := h17.1 rfl
    iterate 2 refine ⟨_,rfl,?_⟩
    refine ⟨_,Od rfl,?_⟩
    refine ⟨_,rfl,(ac_spec_l1In t.root 0 1023 st).mono ?_⟩
    rintro _ st ⟨x22,rfl,h22,rfl⟩
    rcases x22 with _|_
    ·replace h22 := of_decide_eq_false h22.symm
     refine ⟨_,rfl,?_⟩
     exact cxs (Rt ⟨false,rfl,⟨fun h => absurd h Bool.false_ne_true,fun h => (show False from (by rw [trOk,if_neg h0] at h; exact h22 h.2.2)).elim⟩,rfl⟩)
    ·replace h22 := of_decide_eq_true h22.symm
     refine ⟨_,rfl,?_⟩
     exact cxs (Rt ⟨true,rfl,⟨fun _ => by rw [trOk,if_neg h0]; exact ⟨by show t.l.length = 4; omega,h17.2,h22⟩,fun _ => rfl⟩,rfl⟩)
 ·replace h6 : (t.l.length : Int) = (0) := beq_iff_eq.1 h6
  refine Cm 1 st [Ml 1 0,(2,vB false),(6,vB true)] [(1,0,[vS t.p t.l.length,vI t.root])] fun _ _ => ?_
  have h0 : t.l.length = 0 := by omega
  refine ⟨_,rfl,?_⟩
  refine ⟨_,Od rfl,?_⟩
  refine ⟨_,rfl,?_⟩
  rintro (_|_) h9
  ·replace h9 : ¬ (t.root = (0)) := beq_eq_false_iff_ne.1 h9
   exact cxs (Rt ⟨false,rfl,⟨fun h => absurd h Bool.false_ne_true,fun h => (show False from (by rw [trOk,if_pos h0] at h; exact h9 h)).elim⟩,rfl⟩)
  ·replace h9 : t.root = (0) := beq_iff_eq.1 h9
   exact cxs (Rt ⟨true,rfl,⟨fun _ => by rw [trOk,if_pos h0]; exact h9,fun _ => rfl⟩,rfl⟩)
theorem ac_impl_treeOk (t : TV) (st : St) (hR : Rows st 1 fI t.p t.l) (hs : szOk t.l.length) : C 147 [.agg #[vS t.p t.l.length,vI t.root]] st (fun v s => ∃ x,v = .bool x ∧ (x = true ↔ trOk t.x) ∧ s = st) := by
 have hs : t.l.length ≤ 1048576 := hs
 refine AC.enterX (i := ⟨[1],[1,5,9,12,23,28],[0,1,2,4,8,13,14,15,16,21],[]⟩) [] Try.func147 rfl rfl (by kernel_rfl) (by kernel_rfl) Try.ntmps147 (Lb rfl) rfl ?_
 refine ⟨_,rfl,?_⟩
 refine Cm 1 st [Ml 1 0,(2,vB false)] [(1,0,[vS t.p t.l.length,vI t.root])] fun _ _ => ?_
 refine ⟨_,rfl,?_⟩
 refine ⟨_,Od rfl,?_⟩
 iterate 2 refine ⟨_,rfl,?_⟩
 rintro (_|_) h8
 ·replace h8 : ¬ ((t.l.length : Int) = (0)) := beq_eq_false_iff_ne.1 h8
  refine Cm 1 st [Ml 1 0,(2,vB false),(8,vB false)] [(1,0,[vS t.p t.l.length,vI t.root])] fun _ _ => ?_
  have h0 : ¬ t.l.length = 0 := by omega
  refine cxs ?_
  refine ⟨_,rfl,?_⟩
  refine ⟨_,Od rfl,?_⟩
  refine ⟨_,rfl,?_⟩
  refine Cm 1 st [Ml 1 0,(2,vB false),(13,vS t.p t.l.length),(14,vI (t.l.length : Int)),(15,vI 0)] [(1,0,[vS t.p t.l.length,vI t.root])] fun _ _ => ?_
  refine AW.loopM (fun i : Nat => [(1,vL 1 0 (0)),(13,vS t.p t.l.length),(14,vI (t.l.length : Int)),(15,vI (i : Int))]) (fun i : Nat => [(1,0,[vS t.p t.l.length,vI t.root])]) (fun m (i : Nat) st' => m = t.l.length - i ∧ i ≤ t.l.length ∧ (∀ (j : Nat) x,j < i → t.l[j]? = some x → 0 ≤ x ∧ x ≤ 1023) ∧ st = st') 0 _ ⟨rfl,rfl,rfl,rfl,trivial⟩ ⟨rfl,trivial⟩ ⟨rfl,Nat.zero_le _,fun j x h => absurd h (Nat.not_lt_zero _),rfl⟩ ?_
  rintro m i ρ0 ff gg st' ⟨rfl,hi,hok,rfl⟩
  refine ⟨_,rfl,?_⟩
  rintro (_|_) h16
  ·replace h16 : ¬ ((i : Int) < (t.l.length : Int)) := of_decide_eq_false h16
   refine Cm gg st [Ml 1 0,(13,vS t.p t.l.length),(14,vI (t.l.length : Int)),(15,vI (i : Int)),(16,vB false)] [(1,0,[vS t.p t.l.length,vI t.root])] fun _ _ => ?_
   refine cxs ?_
   refine ⟨_,rfl,?_⟩
   refine ⟨_,Od rfl,?_⟩
   iterate 2 refine ⟨_,rfl,?_⟩
   rintro (_|_) h26
   ·replace h26 : ¬ ((t.l.length : Int) = (4)) := beq_eq_false_iff_ne.1 h26
    refine ⟨_,rfl,?_⟩
    exact cxs (Rt ⟨false,rfl,⟨fun h => absurd h Bool.false_ne_true,fun h => (show False from (by rw [trOk,if_neg h0] at h; have h1 : t.l.length = 4 := h.1; omega)).elim⟩,rfl⟩)
   ·replace h26 : (t.l.length : Int) = (4) := beq_iff_eq.1 h26
    refine ⟨_,rfl,?_⟩
    refine ⟨_,Od rfl,?_⟩
    refine ⟨_,rfl,(ac_impl_within t.root 0 1023 st).mono ?_⟩
    rintro _ st ⟨x30,rfl,h30,rfl⟩
    rcases x30 with _|_
    ·replace h30 := of_decide_eq_false h30.symm
     refine ⟨_,rfl,?_⟩
     exact cxs (Rt ⟨false,rfl,⟨fun h => absurd h Bool.false_ne_true,fun h => (show False from (by rw [trOk,if_neg h0] at h; exact h30 h.2.2)).elim⟩,rfl⟩)
    ·replace h30 := of_decide_eq_true h30.symm
     refine ⟨_,rfl,?_⟩
     exact cxs (Rt ⟨true,rfl,⟨fun _ => by rw [trOk,if_neg h0]; exact ⟨by show t.l.length = 4; omega,fun j x hx => hok j x (by have := (List.getElem?_eq_some_iff.1 hx).1; simp only [TV.x] at this; omega) hx,h30⟩,fun _ => rfl⟩,rfl⟩)
  ·replace h16 : (i : Int) < (t.l.length : Int) := of_decide_eq_true h16
   refine Cm gg st [Ml 1 0,(13,vS t.p t.l.length),(14,vI (t.l.length : Int)),(15,vI (i : Int)),(16,vB true)] [(1,0,[vS t.p t.l.length,vI t.root])] fun _ _ => ?_
   refine cxs ?_
   refine op_at i hR (by omega) rfl rfl rfl rfl rfl rfl rfl ?_
   intro x17 b17 d17 k17 hy17 hb17 hm17 hc17 ho17
   refine ⟨_,op_ldc (i := 0) rfl rfl rfl rfl hm17 hc17 rfl rfl,?_⟩
   refine Cm gg st [Ml 1 0,(4,vI x17),(13,vS t.p t.l.length),(14,vI (t.l.length : Int)),(15,vI (i : Int)),(16,vB true)] [(1,0,[vS t.p t.l.length,vI t.root])] fun _ _ => ?_
   refine ⟨_,rfl,(ac_impl_within x17 0 1023 st).mono ?_⟩
   rintro _ st ⟨x20,rfl,h20,rfl⟩
   rcases x20 with _|_
   ·replace h20 := of_decide_eq_false h20.symm
    refine ⟨_,rfl,?_⟩
    refine Cm gg st [Ml 1 0,(4,vI x17),(13,vS t.p t.l.length),(14,vI (t.l.length : Int)),(15,vI (i : Int)),(16,vB true),(21,vB true)] [(1,0,[vS t.p t.l.length,vI t.root])] fun _ _ => ?_
    exact cxs (Rt ⟨false,rfl,⟨fun h => absurd h Bool.false_ne_true,fun h => (show False from (by rw [trOk,if_neg h0] at h; exact h20 (h.2.1 i x17 hy17))).elim⟩,rfl⟩)
   ·replace h20 := of_decide_eq_true h20.symm
    refine ⟨_,rfl,?_⟩
    refine Cm gg st [Ml 1 0,(4,vI x17),(13,vS t.p t.l.length),(14,vI (t.l.length : Int)),(15,vI (i : Int)),(16,vB true),(21,vB false)] [(1,0,[vS t.p t.l.length,vI t.root])] fun _ _ => ?_
    refine cxs ?_
    have ew22 : IntKind.wrap .i64 ((i : Int) + (1)) = ((i + 1 : Nat) : Int) := (wrap_i64 (by omega) (by omega)).trans (by omega)
    refine ⟨_,rfl,?_⟩
    refine ⟨i + 1,t.l.length - (i + 1),by omega,⟨rfl,rfl,rfl,congrArg (Value.int .i64) ew22,trivial⟩,⟨rfl,trivial⟩,rfl,by omega,fun j x hj hx => ?_,rfl⟩
    rcases Nat.lt_or_ge j i with h | h
    ·exact hok j x h hx
    ·obtain rfl : j = i := by omega
     rw [hy17] at hx; injection hx with hx; rw [← hx]; exact h20
 ·replace h8 : (t.l.length : Int) = (0) := beq_iff_eq.1 h8
  refine Cm 1 st [Ml 1 0,(2,vB false),(8,vB true)] [(1,0,[vS t.p t.l.length,vI t.root])] fun _ _ => ?_
  have h0 : t.l.length = 0 := by omega
  refine ⟨_,rfl,?_⟩
  refine ⟨_,Od rfl,?_⟩
  refine ⟨_,rfl,?_⟩
  rintro (_|_) h11
  ·replace h11 : ¬ (t.root = (0)) := beq_eq_false_iff_ne.1 h11
   exact cxs (Rt ⟨false,rfl,⟨fun h => absurd h Bool.false_ne_true,fun h => (show False from (by rw [trOk,if_pos h0] at h; exact h11 h)).elim⟩,rfl⟩)
  ·replace h11 : t.root = (0) := beq_iff_eq.1 h11
   exact cxs (Rt ⟨true,rfl,⟨fun _ => by rw [trOk,if_pos h0]; exact h11,fun _ => rfl⟩,rfl⟩)
theorem ac_impl_MsgOk (g : MV) (st : St) (hR : RdM st g) (hb : bigM g.x) : C 67 [.agg #[vI g.kind,vI g.frm,vI g.to,vI g.num,vI g.hi,vS g.tree.p g.tree.l.length,vI g.tree.root,vS g.vec.p g.vec.l.length,vS g.leaves.p g.leaves.l.length,vS g.part.p g.part.x.items.length,vS g.part.q g.part.x.floors.length,vS g.marks.p g.marks.l.length]] st (fun v s => ∃ x,v = .bool x ∧ (x = true ↔ msgOk g.x) ∧ s = st) := by
 have hs1 : g.leaves.l.length ≤ 1048576 := hb.leaves
 have hs2 : g.vec.l.length ≤ 1048576 := hb.vec
 refine AC.enterX (i := ⟨[1],[1,7,12,18,24,26,30,45,56,67,71,76,81,87,92],[0,1,2,3,4,6,29,31,32,33,34,54,57,58,59,60,65],[]⟩) [] Try.func67 rfl rfl (by kernel_rfl) (by kernel_rfl) Try.ntmps67 (Lb rfl) rfl ?_
 refine ⟨_,rfl,?_⟩
 refine Cm 1 st [Ml 1 0,(2,vB false)] [(1,0,cMV g)] fun _ _ => ?_
 refine ⟨_,rfl,?_⟩
 refine ⟨_,Od rfl,?_⟩
 refine ⟨_,rfl,(ac_impl_within g.kind 0 5 st).mono ?_⟩
 rintro _ st ⟨x9,rfl,h9,rfl⟩
 rcases x9 with _|_
 ·replace h9 := of_decide_eq_false h9.symm
  iterate 4 refine ⟨_,rfl,?_⟩
  refine Cm 1 st [Ml 1 0,(2,vB false),(29,vB true)] [(1,0,cMV g)] fun _ _ => ?_
  exact cxs (Rt ⟨false,rfl,⟨fun h => absurd h Bool.false_ne_true,fun h => (show False from (h9 h.1.1)).elim⟩,rfl⟩)
 ·replace h9 := of_decide_eq_true h9.symm
  iterate 2 refine ⟨_,rfl,?_⟩
  refine ⟨_,Od rfl,?_⟩
  refine ⟨_,rfl,(ac_impl_isNode g.frm st).mono ?_⟩
  rintro _ st ⟨x14,rfl,h14,rfl⟩
  rcases x14 with _|_
  ·replace h14 := of_decide_eq_false h14.symm
   iterate 4 refine ⟨_,rfl,?_⟩
   refine Cm 1 st [Ml 1 0,(2,vB false),(29,vB true)] [(1,0,cMV g)] fun _ _ => ?_
   exact cxs (Rt ⟨false,rfl,⟨fun h => absurd h Bool.false_ne_true,fun h => (show False from (h14 h.1.2.1)).elim⟩,rfl⟩)
  ·replace h14 := of_decide_eq_true h14.symm
   iterate 3 refine ⟨_,rfl,?_⟩
   refine ⟨_,Od rfl,?_⟩
   refine ⟨_,rfl,(ac_impl_isNode g.to st).mono ?_⟩
   rintro _ st ⟨x20,rfl,h20,rfl⟩
   rcases x20 with _|_
   ·replace h20 := of_decide_eq_false h20.symm
    iterate 3 refine ⟨_,rfl,?_⟩
    refine Cm 1 st [Ml 1 0,(2,vB false),(29,vB true)] [(1,0,cMV g)] fun _ _ => ?_
    exact cxs (Rt ⟨false,rfl,⟨fun h => absurd h Bool.false_ne_true,fun h => (show False from (h20 h.1.2.2.1)).elim⟩,rfl⟩)
   ·replace h20 := of_decide_eq_true h20.symm
    iterate 3 refine ⟨_,rfl,?_⟩
    refine ⟨_,Od rfl,?_⟩
    refine ⟨_,rfl,?_⟩
    refine ⟨_,Od rfl,?_⟩
    refine ⟨_,rfl,?_⟩
    rintro (_|_) h28
    ·replace h28 : ¬ (g.frm = g.to) := beq_eq_false_iff_ne.1 h28
     refine ⟨_,rfl,?_⟩
     refine Cm 1 st [Ml 1 0,(2,vB false),(29,vB false)] [(1,0,cMV g)] fun _ _ => ?_
     refine cxs ?_
     refine ⟨_,rfl,?_⟩
     refine ⟨_,Od rfl,?_⟩
     refine ⟨_,rfl,?_⟩
     refine Cm 1 st [Ml 1 0,(2,vB false),(31,vS g.leaves.p g.leaves.l.length),(32,vI (g.leaves.l.length : Int)),(33,vI 0)] [(1,0,cMV g)] fun _ _ => ?_
     refine AW.loopM (fun i : Nat => [(1,vL 1 0 (0)),(31,vS g.leaves.p g.leaves.l.length),(32,vI (g.leaves.l.length : Int)),(33,vI (i : Int))]) (fun i : Nat => [(1,0,cMV g)]) (fun m (i : Nat) st' => m = g.leaves.l.length - i ∧ i ≤ g.leaves.l.length ∧ (∀ (j : Nat) x,j < i → g.leaves.l[j]? = some x → (0 ≤ x ∧ x ≤ 3) ∧ ∀ y,0 < j → g.leaves.l[j - 1]? = some y → y < x) ∧ st = st') 0 _ ⟨rfl,rfl,rfl,rfl,trivial⟩ ⟨rfl,trivial⟩ ⟨rfl,Nat.zero_le _,fun j x h => absurd h (Nat.not_lt_zero _),rfl⟩ ?_
     rintro m i ρ0 ff gg st' ⟨rfl,hi,hok,rfl⟩
     refine ⟨_,rfl,?_⟩
     rintro (_|_) h34
     ·replace h34 : ¬ ((i : Int) < (g.leaves.l.length : Int)) := of_decide_eq_false h34
      refine Cm gg st [Ml 1 0,(31,vS g.leaves.p g.leaves.l.length),(32,vI (g.leaves.l.length : Int)),(33,vI (i : Int)),(34,vB false)] [(1,0,cMV g)] fun _ _ => ?_
      have hL : incOk g.leaves.l := fun j x hx => hok j x (by have := (List.getElem?_eq_some_iff.1 hx).1; omega) hx
      clear hok
      refine cxs ?_
      refine ⟨_,rfl,?_⟩
      refine ⟨_,Od rfl,?_⟩
      refine ⟨_,rfl,?_⟩
      refine Cm gg st [Ml 1 0,(57,vS g.vec.p g.vec.l.length),(58,vI (g.vec.l.length : Int)),(59,vI 0)] [(1,0,cMV g)] fun _ _ => ?_
      refine AW.loopM (fun i : Nat => [(1,vL 1 0 (0)),(57,vS g.vec.p g.vec.l.length),(58,vI (g.vec.l.length : Int)),(59,vI (i : Int))]) (fun i : Nat => [(1,0,cMV g)]) (fun m (i : Nat) st' => m = g.vec.l.length - i ∧ i ≤ g.vec.l.length ∧ (∀ (j : Nat) x,j < i → g.vec.l[j]? = some x → 0 ≤ x ∧ x ≤ 100000) ∧ st = st') 0 _ ⟨rfl,rfl,rfl,rfl,trivial⟩ ⟨rfl,trivial⟩ ⟨rfl,Nat.zero_le _,fun j x h => absurd h (Nat.not_lt_zero _),rfl⟩ ?_
      rintro m i ρ0 ff gg st' ⟨rfl,hi,hok,rfl⟩
      refine ⟨_,rfl,?_⟩
      rintro (_|_) h60
      ·replace h60 : ¬ ((i : Int) < (g.vec.l.length : Int)) := of_decide_eq_false h60
       refine Cm gg st [Ml 1 0,(57,vS g.vec.p g.vec.l.length),(58,vI (g.vec.l.length : Int)),(59,vI (i : Int)),(60,vB false)] [(1,0,cMV g)] fun _ _ => ?_
       have hV : ∀ (j : Nat) x,g.vec.l[j]? = some x → 0 ≤ x ∧ x ≤ 100000 := fun j x hx => hok j x (by have := (List.getElem?_eq_some_iff.1 hx).1; omega) hx
       clear hok
       refine cxs ?_
       refine ⟨_,rfl,?_⟩
       refine ⟨_,Od rfl,?_⟩
       refine ⟨_,rfl,(ac_impl_within g.num 0 100000 st).mono ?_⟩
       rintro _ st ⟨x69,rfl,h69,rfl⟩
       rcases x69 with _|_
       ·replace h69 := of_decide_eq_false h69.symm
        iterate 3 refine ⟨_,rfl,?_⟩
        refine ow_cut [(1,vL 1 0 (0)),(85,vB false)] ⟨rfl,rfl,trivial⟩ fun _ => ?_
        iterate 2 refine ⟨_,rfl,?_⟩
        exact cxs (Rt ⟨false,rfl,⟨fun h => absurd h Bool.false_ne_true,fun h => (show False from (h69 h.2.1.1)).elim⟩,rfl⟩)
       ·replace h69 := of_decide_eq_true h69.symm
        refine ⟨_,rfl,?_⟩
        refine ⟨_,Od rfl,?_⟩
        refine ⟨_,rfl,(ac_impl_within g.hi 0 100000 st).mono ?_⟩
        rintro _ st ⟨x73,rfl,h73,rfl⟩
        rcases x73 with _|_
        ·replace h73 := of_decide_eq_false h73.symm
         iterate 3 refine ⟨_,rfl,?_⟩
         refine ow_cut [(1,vL 1 0 (0)),(85,vB false)] ⟨rfl,rfl,trivial⟩ fun _ => ?_
         iterate 2 refine ⟨_,rfl,?_⟩
         exact cxs (Rt ⟨false,rfl,⟨fun h => absurd h Bool.false_ne_true,fun h => (show False from (h73 h.2.1.2)).elim⟩,rfl⟩)
        ·replace h73 := of_decide_eq_true h73.symm
         iterate 2 refine ⟨_,rfl,?_⟩
         refine ⟨_,Od rfl,?_⟩
         refine ⟨_,rfl,(ac_impl_treeOk g.tree st hR.tree (hb.tree)).mono ?_⟩
         rintro _ st ⟨x78,rfl,h78,rfl⟩
         rcases x78 with _|_
         ·replace h78 := fun k => Bool.false_ne_true (h78.2 k)
          iterate 2 refine ⟨_,rfl,?_⟩
          refine ow_cut [(1,vL 1 0 (0)),(85,vB false)] ⟨rfl,rfl,trivial⟩ fun _ => ?_
          iterate 2 refine ⟨_,rfl,?_⟩
          exact cxs (Rt ⟨false,rfl,⟨fun h => absurd h Bool.false_ne_true,fun h => (show False from (h78 h.2.2.1)).elim⟩,rfl⟩)
         ·replace h78 := h78.1 rfl
          iterate 2 refine ⟨_,rfl,?_⟩
          refine ⟨_,Od rfl,?_⟩
          iterate 2 refine ⟨_,rfl,?_⟩
          rintro (_|_) h84
          ·replace h84 : ¬ ((g.vec.l.length : Int) ≤ (5)) := of_decide_eq_false h84
           refine ow_cut [(1,vL 1 0 (0)),(80,vB true),(84,vB false)] ⟨rfl,rfl,rfl,trivial⟩ fun _ => ?_
           iterate 3 refine ⟨_,rfl,?_⟩
           exact cxs (Rt ⟨false,rfl,⟨fun h => absurd h Bool.false_ne_true,fun h => (show False from (absurd h.2.2.2.1.1 h84)).elim⟩,rfl⟩)
          ·replace h84 : (g.vec.l.length : Int) ≤ (5) := of_decide_eq_true h84
           refine ow_cut [(1,vL 1 0 (0)),(80,vB true),(84,vB true)] ⟨rfl,rfl,rfl,trivial⟩ fun _ => ?_
           iterate 2 refine ⟨_,rfl,?_⟩
           refine ⟨_,Od rfl,?_⟩
           refine ⟨_,rfl,(ac_impl_StateOk g.part st hR.part (hb.part)).mono ?_⟩
           rintro _ st ⟨x89,rfl,h89,rfl⟩
           rcases x89 with _|_
           ·replace h89 := fun k => Bool.false_ne_true (h89.2 k)
            iterate 2 refine ⟨_,rfl,?_⟩
            exact cxs (Rt ⟨false,rfl,⟨fun h => absurd h Bool.false_ne_true,fun h => (show False from (h89 h.2.2.2.2.2.1)).elim⟩,rfl⟩)
           ·replace h89 := h89.1 rfl
            iterate 2 refine ⟨_,rfl,?_⟩
            refine ⟨_,Od rfl,?_⟩
            refine ⟨_,rfl,(ac_impl_MarksOk g.marks.p g.marks.l st hR.marks (hb.marks)).mono ?_⟩
            rintro _ st ⟨x94,rfl,h94,rfl⟩
            rcases x94 with _|_
            ·replace h94 := fun k => Bool.false_ne_true (h94.2 k)
             refine ⟨_,rfl,?_⟩
             exact cxs (Rt ⟨false,rfl,⟨fun h => absurd h Bool.false_ne_true,fun h => (show False from (h94 h.2.2.2.2.2.2)).elim⟩,rfl⟩)
            ·replace h94 := h94.1 rfl
             refine ⟨_,rfl,?_⟩
             exact cxs (Rt ⟨true,rfl,⟨fun _ => ⟨⟨h9,h14,h20,h28⟩,⟨h69,h73⟩,h78,⟨h84,hV⟩,hL,h89,h94⟩,fun _ => rfl⟩,rfl⟩)
      ·replace h60 : (i : Int) < (g.vec.l.length : Int) := of_decide_eq_true h60
       refine Cm gg st [Ml 1 0,(57,vS g.vec.p g.vec.l.length),(58,vI (g.vec.l.length : Int)),(59,vI (i : Int)),(60,vB true)] [(1,0,cMV g)] fun _ _ => ?_
       refine cxs ?_
       refine op_at i hR.vec (by omega) rfl rfl rfl rfl rfl rfl rfl ?_
       intro x61 b61 d61 k61 hy61 hb61 hm61 hc61 ho61
       refine ⟨_,op_ldc (i := 0) rfl rfl rfl rfl hm61 hc61 rfl rfl,?_⟩
       refine Cm gg st [Ml 1 0,(6,vI x61),(57,vS g.vec.p g.vec.l.length),(58,vI (g.vec.l.length : Int)),(59,vI (i : Int)),(60,vB true)] [(1,0,cMV g)] fun _ _ => ?_
       refine ⟨_,rfl,(ac_impl_within x61 0 100000 st).mono ?_⟩
       rintro _ st ⟨x64,rfl,h64,rfl⟩
       rcases x64 with _|_
       ·replace h64 := of_decide_eq_false h64.symm
        refine ⟨_,rfl,?_⟩
        refine Cm gg st [Ml 1 0,(6,vI x61),(57,vS g.vec.p g.vec.l.length),(58,vI (g.vec.l.length : Int)),(59,vI (i : Int)),(60,vB true),(65,vB true)] [(1,0,cMV g)] fun _ _ => ?_
        exact cxs (Rt ⟨false,rfl,⟨fun h => absurd h Bool.false_ne_true,fun h => (show False from (h64 (h.2.2.2.1.2 i x61 hy61))).elim⟩,rfl⟩)
       ·replace h64 := of_decide_eq_true h64.symm
        refine ⟨_,rfl,?_⟩
        refine Cm gg st [Ml 1 0,(6,vI x61),(57,vS g.vec.p g.vec.l.length),(58,vI (g.vec.l.length : Int)),(59,vI (i : Int)),(60,vB true),(65,vB false)] [(1,0,cMV g)] fun _ _ => ?_
        refine cxs ?_
        have ew66 : IntKind.wrap .i64 ((i : Int) + (1)) = ((i + 1 : Nat) : Int) := (wrap_i64 (by omega) (by omega)).trans (by omega)
        refine ⟨_,rfl,?_⟩
        refine ⟨i + 1,g.vec.l.length - (i + 1),by omega,⟨rfl,rfl,rfl,congrArg (Value.int .i64) ew66,trivial⟩,⟨rfl,trivial⟩,rfl,by omega,fun j x hj hx => ?_,rfl⟩
        rcases Nat.lt_or_ge j i with h | h
        ·exact hok j x h hx
        ·obtain rfl : j = i := by omega
         rw [hy61] at hx; injection hx with hx; rw [← hx]; exact h64
     ·replace h34 : (i : Int) < (g.leaves.l.length : Int) := of_decide_eq_true h34
      refine Cm gg st [Ml 1 0,(31,vS g.leaves.p g.leaves.l.length),(32,vI (g.leaves.l.length : Int)),(33,vI (i : Int)),(34,vB true)] [(1,0,cMV g)] fun _ _ => ?_
      refine cxs ?_
      refine op_at i hR.leaves (by omega) rfl rfl rfl rfl rfl rfl rfl ?_
      intro x36 b36 d36 k36 hy36 hb36 hm36 hc36 ho36
      refine ⟨_,op_ldc (i := 0) rfl rfl rfl rfl hm36 hc36 rfl rfl,?_⟩
      refine Cm gg st [Ml 1 0,(3,vI (i : Int)),(4,vI x36),(31,vS g.leaves.p g.leaves.l.length),(32,vI (g.leaves.l.length : Int)),(33,vI (i : Int)),(34,vB true)] [(1,0,cMV g)] fun _ _ => ?_
      refine ⟨_,rfl,(ac_impl_within x36 0 3 st).mono ?_⟩
      rintro _ st ⟨x39,rfl,h39,rfl⟩
      rcases x39 with _|_
      ·replace h39 := of_decide_eq_false h39.symm
       iterate 2 refine ⟨_,rfl,?_⟩
       refine Cm gg st [Ml 1 0,(3,vI (i : Int)),(4,vI x36),(31,vS g.leaves.p g.leaves.l.length),(32,vI (g.leaves.l.length : Int)),(33,vI (i : Int)),(34,vB true),(54,vB true)] [(1,0,cMV g)] fun _ _ => ?_
       exact cxs (Rt ⟨false,rfl,⟨fun h => absurd h Bool.false_ne_true,fun h => (show False from (h39 (h.2.2.2.2.1 i x36 hy36).1)).elim⟩,rfl⟩)
      ·replace h39 := of_decide_eq_true h39.symm
       iterate 2 refine ⟨_,rfl,?_⟩
       rintro (_|_) h43
       ·replace h43 : ¬ ((i : Int) > (0)) := of_decide_eq_false h43
        iterate 2 refine ⟨_,rfl,?_⟩
        refine Cm gg st [Ml 1 0,(3,vI (i : Int)),(4,vI x36),(31,vS g.leaves.p g.leaves.l.length),(32,vI (g.leaves.l.length : Int)),(33,vI (i : Int)),(34,vB true),(54,vB false)] [(1,0,cMV g)] fun _ _ => ?_
        have hnew : (0 ≤ x36 ∧ x36 ≤ 3) ∧ ∀ y,0 < i → g.leaves.l[i - 1]? = some y → y < x36 := ⟨h39,fun y h0 _ => by omega⟩
        refine cxs ?_
        have ew55 : IntKind.wrap .i64 ((i : Int) + (1)) = ((i + 1 : Nat) : Int) := (wrap_i64 (by omega) (by omega)).trans (by omega)
        refine ⟨_,rfl,?_⟩
        refine ⟨i + 1,g.leaves.l.length - (i + 1),by omega,⟨rfl,rfl,rfl,congrArg (Value.int .i64) ew55,trivial⟩,⟨rfl,trivial⟩,rfl,by omega,fun j x hj hx => ?_,rfl⟩
        rcases Nat.lt_or_ge j i with h | h
        ·exact hok j x h hx
        ·obtain rfl : j = i := by omega
         rw [hy36] at hx; injection hx with hx; rw [← hx]; exact hnew
       ·replace h43 : (i : Int) > (0) := of_decide_eq_true h43
        refine ⟨_,rfl,?_⟩
        refine ⟨_,Od rfl,?_⟩
        have ew48 : IntKind.wrap .i64 ((i : Int) - (1)) = (i : Int) - (1) := wrap_i64 (by omega) (by omega)
        refine ⟨_,rfl,?_⟩
        refine op_at (i - 1) hR.leaves (by omega) rfl rfl rfl rfl (by rw [ew48]; omega) rfl rfl ?_
        intro x49 b49 d49 k49 hy49 hb49 hm49 hc49 ho49
        refine ⟨_,op_ldc (i := 0) rfl rfl rfl rfl hm49 hc49 rfl rfl,?_⟩
        refine ⟨_,rfl,?_⟩
        rintro (_|_) h52
        ·replace h52 : ¬ (x49 ≥ x36) := of_decide_eq_false h52
         iterate 2 refine ⟨_,rfl,?_⟩
         refine Cm gg st [Ml 1 0,(3,vI (i : Int)),(4,vI x36),(31,vS g.leaves.p g.leaves.l.length),(32,vI (g.leaves.l.length : Int)),(33,vI (i : Int)),(34,vB true),(54,vB false)] [(1,0,cMV g)] fun _ _ => ?_
         have hnew : (0 ≤ x36 ∧ x36 ≤ 3) ∧ ∀ y,0 < i → g.leaves.l[i - 1]? = some y → y < x36 := ⟨h39,fun y h0 hy => by rw [hy49] at hy; injection hy with hy; omega⟩
         refine cxs ?_
         have ew55 : IntKind.wrap .i64 ((i : Int) + (1)) = ((i + 1 : Nat) : Int) := (wrap_i64 (by omega) (by omega)).trans (by omega)
         refine ⟨_,rfl,?_⟩
         refine ⟨i + 1,g.leaves.l.length - (i + 1),by omega,⟨rfl,rfl,rfl,congrArg (Value.int .i64) ew55,trivial⟩,⟨rfl,trivial⟩,rfl,by omega,fun j x hj hx => ?_,rfl⟩
         rcases Nat.lt_or_ge j i with h | h
         ·exact hok j x h hx
         ·obtain rfl : j = i := by omega
          rw [hy36] at hx; injection hx with hx; rw [← hx]; exact hnew
        ·replace h52 : x49 ≥ x36 := of_decide_eq_true h52
         iterate 2 refine ⟨_,rfl,?_⟩
         refine Cm gg st [Ml 1 0,(3,vI (i : Int)),(4,vI x36),(31,vS g.leaves.p g.leaves.l.length),(32,vI (g.leaves.l.length : Int)),(33,vI (i : Int)),(34,vB true),(54,vB true)] [(1,0,cMV g)] fun _ _ => ?_
         exact cxs (Rt ⟨false,rfl,⟨fun h => absurd h Bool.false_ne_true,fun h => (show False from (absurd ((h.2.2.2.2.1 i x36 hy36).2 x49 (by omega) hy49) (by omega))).elim⟩,rfl⟩)
    ·replace h28 : g.frm = g.to := beq_iff_eq.1 h28
     refine ⟨_,rfl,?_⟩
     refine Cm 1 st [Ml 1 0,(2,vB false),(29,vB true)] [(1,0,cMV g)] fun _ _ => ?_
     exact cxs (Rt ⟨false,rfl,⟨fun h => absurd h Bool.false_ne_true,fun h => (show False from (h.1.2.2.2 h28)).elim⟩,rfl⟩)
theorem ac_spec_MsgOk (g : MV) (st : St) (hR : RdM st g) (hb : bigM g.x) : C 54 [.agg #[vI g.kind,vI g.frm,vI g.to,vI g.num,vI g.hi,vS g.tree.p g.tree.l.length,vI g.tree.root,vS g.vec.p g.vec.l.length,vS g.leaves.p g.leaves.l.length,vS g.part.p g.part.x.items.length,vS g.part.q g.part.x.floors.length,vS g.marks.p g.marks.l.length]] st (fun v s => ∃ x,v = .bool x ∧ (x = true ↔ msgOk g.x) ∧ s = st) := by
 have hs1 : g.leaves.l.length ≤ 1048576 := hb.leaves
 refine AC.enterX (i := ⟨[1],[1,4,9,15,21,23,28,34,39,44,50,56,62,68,74,79],[0,1,2,3,38,66,71,85],[]⟩) [(8,[],[])] Try.func54 rfl rfl (by kernel_rfl) (by kernel_rfl) Try.ntmps54 (Lb rfl) rfl ?_
 refine ⟨_,rfl,?_⟩
 refine Cm 1 st [Ml 1 0,(2,vB false)] [(1,0,cMV g)] fun _ _ => ?_
 refine ⟨_,rfl,?_⟩
 refine ⟨_,Od rfl,?_⟩
 refine ⟨_,rfl,(ac_spec_l1In g.kind 0 5 st).mono ?_⟩
 rintro _ st ⟨x6,rfl,h6,rfl⟩
 rcases x6 with _|_
 ·replace h6 := of_decide_eq_false h6.symm
  iterate 4 refine ⟨_,rfl,?_⟩
  refine ow_cut [(1,vL 1 0 (0)),(2,vB false),(26,vB true)] ⟨rfl,rfl,rfl,trivial⟩ fun _ => ?_
  iterate 2 refine ⟨_,rfl,?_⟩
  refine Cm 1 st [Ml 1 0,(2,vB false),(38,vB true)] [(1,0,cMV g)] fun _ _ => ?_
  exact cxs (Rt ⟨false,rfl,⟨fun h => absurd h Bool.false_ne_true,fun h => (show False from (h6 h.1.1)).elim⟩,rfl⟩)
 ·replace h6 := of_decide_eq_true h6.symm
  iterate 2 refine ⟨_,rfl,?_⟩
  refine ⟨_,Od rfl,?_⟩
  refine ⟨_,rfl,(ac_spec_l3Node g.frm st).mono ?_⟩
  rintro _ st ⟨x11,rfl,h11,rfl⟩
  rcases x11 with _|_
  ·replace h11 := of_decide_eq_false h11.symm
   iterate 4 refine ⟨_,rfl,?_⟩
   refine ow_cut [(1,vL 1 0 (0)),(2,vB false),(26,vB true)] ⟨rfl,rfl,rfl,trivial⟩ fun _ => ?_
   iterate 2 refine ⟨_,rfl,?_⟩
   refine Cm 1 st [Ml 1 0,(2,vB false),(38,vB true)] [(1,0,cMV g)] fun _ _ => ?_
   exact cxs (Rt ⟨false,rfl,⟨fun h => absurd h Bool.false_ne_true,fun h => (show False from (h11 h.1.2.1)).elim⟩,rfl⟩)
  ·replace h11 := of_decide_eq_true h11.symm
   iterate 3 refine ⟨_,rfl,?_⟩
   refine ⟨_,Od rfl,?_⟩
   refine ⟨_,rfl,(ac_spec_l3Node g.to st).mono ?_⟩
   rintro _ st ⟨x17,rfl,h17,rfl⟩
   rcases x17 with _|_
   ·replace h17 := of_decide_eq_false h17.symm
    iterate 3 refine ⟨_,rfl,?_⟩
    refine ow_cut [(1,vL 1 0 (0)),(2,vB false),(26,vB true)] ⟨rfl,rfl,rfl,trivial⟩ fun _ => ?_
    iterate 2 refine ⟨_,rfl,?_⟩
    refine Cm 1 st [Ml 1 0,(2,vB false),(38,vB true)] [(1,0,cMV g)] fun _ _ => ?_
    exact cxs (Rt ⟨false,rfl,⟨fun h => absurd h Bool.false_ne_true,fun h => (show False from (h17 h.1.2.2.1)).elim⟩,rfl⟩)
   ·replace h17 := of_decide_eq_true h17.symm
    iterate 3 refine ⟨_,rfl,?_⟩
    refine ow_cut [(1,vL 1 0 (0)),(2,vB false),(20,vB false),(21,vL 1 1 (0))] ⟨rfl,rfl,rfl,rfl,trivial⟩ fun _ => ?_
    refine ⟨_,Od rfl,?_⟩
    refine ⟨_,rfl,?_⟩
    refine ⟨_,Od rfl,?_⟩
    refine ⟨_,rfl,?_⟩
    rintro (_|_) h25
    ·replace h25 : ¬ (g.frm = g.to) := beq_eq_false_iff_ne.1 h25
     iterate 2 refine ⟨_,rfl,?_⟩
     refine ⟨_,Od rfl,?_⟩
     refine ⟨_,rfl,(ac_spec_l1In g.num 0 100000 st).mono ?_⟩
     rintro _ st ⟨x30,rfl,h30,rfl⟩
     rcases x30 with _|_
     ·replace h30 := of_decide_eq_false h30.symm
      iterate 3 refine ⟨_,rfl,?_⟩
      refine Cm 1 st [Ml 1 0,(2,vB false),(38,vB true)] [(1,0,cMV g)] fun _ _ => ?_
      exact cxs (Rt ⟨false,rfl,⟨fun h => absurd h Bool.false_ne_true,fun h => (show False from (h30 h.2.1.1)).elim⟩,rfl⟩)
     ·replace h30 := of_decide_eq_true h30.symm
      iterate 3 refine ⟨_,rfl,?_⟩
      refine ⟨_,Od rfl,?_⟩
      refine ⟨_,rfl,(ac_spec_l1In g.hi 0 100000 st).mono ?_⟩
      rintro _ st ⟨x36,rfl,h36,rfl⟩
      rcases x36 with _|_
      ·replace h36 := of_decide_eq_false h36.symm
       iterate 2 refine ⟨_,rfl,?_⟩
       refine Cm 1 st [Ml 1 0,(2,vB false),(38,vB true)] [(1,0,cMV g)] fun _ _ => ?_
       exact cxs (Rt ⟨false,rfl,⟨fun h => absurd h Bool.false_ne_true,fun h => (show False from (h36 h.2.1.2)).elim⟩,rfl⟩)
      ·replace h36 := of_decide_eq_true h36.symm
       iterate 2 refine ⟨_,rfl,?_⟩
       refine Cm 1 st [Ml 1 0,(2,vB false),(38,vB false)] [(1,0,cMV g)] fun _ _ => ?_
       refine cxs ?_
       refine ⟨_,rfl,?_⟩
       refine ⟨_,Od rfl,?_⟩
       refine ⟨_,rfl,(ac_spec_l10Tree g.tree st hR.tree (hb.tree)).mono ?_⟩
       rintro _ st ⟨x41,rfl,h41,rfl⟩
       rcases x41 with _|_
       ·replace h41 := fun k => Bool.false_ne_true (h41.2 k)
        iterate 5 refine ⟨_,rfl,?_⟩
        refine Cm 1 st [Ml 1 0,(2,vB false),(66,vB true)] [(1,0,cMV g)] fun _ _ => ?_
        exact cxs (Rt ⟨false,rfl,⟨fun h => absurd h Bool.false_ne_true,fun h => (show False from (h41 h.2.2.1)).elim⟩,rfl⟩)
       ·replace h41 := h41.1 rfl
        iterate 2 refine ⟨_,rfl,?_⟩
        refine ⟨_,Od rfl,?_⟩
        refine ⟨_,rfl,(ac_spec_l10Nums g.vec.p g.vec.l 5 100000 st hR.vec (hb.vec)).mono ?_⟩
        rintro _ st ⟨x46,rfl,h46,rfl⟩
        rcases x46 with _|_
        ·replace h46 := fun k => Bool.false_ne_true (h46.2 k)
         iterate 5 refine ⟨_,rfl,?_⟩
         refine Cm 1 st [Ml 1 0,(2,vB false),(66,vB true)] [(1,0,cMV g)] fun _ _ => ?_
         exact cxs (Rt ⟨false,rfl,⟨fun h => absurd h Bool.false_ne_true,fun h => (show False from (h46 h.2.2.2.1)).elim⟩,rfl⟩)
        ·replace h46 := h46.1 rfl
         iterate 3 refine ⟨_,rfl,?_⟩
         refine ⟨_,Od rfl,?_⟩
         refine ⟨_,rfl,(ac_spec_l10Nums g.leaves.p g.leaves.l 4 3 st hR.leaves (hb.leaves)).mono ?_⟩
         rintro _ st ⟨x52,rfl,h52,rfl⟩
         rcases x52 with _|_
         ·replace h52 := fun k => Bool.false_ne_true (h52.2 k)
          iterate 4 refine ⟨_,rfl,?_⟩
          refine Cm 1 st [Ml 1 0,(2,vB false),(66,vB true)] [(1,0,cMV g)] fun _ _ => ?_
          exact cxs (Rt ⟨false,rfl,⟨fun h => absurd h Bool.false_ne_true,fun h => (show False from (h52 (inc_nums h.2.2.2.2.1))).elim⟩,rfl⟩)
         ·replace h52 := h52.1 rfl
          iterate 3 refine ⟨_,rfl,?_⟩
          refine ow_cut [(1,vL 1 0 (0)),(2,vB false),(55,vB false),(56,vL 1 9 (0))] ⟨rfl,rfl,rfl,rfl,trivial⟩ fun _ => ?_
          refine ⟨_,Od rfl,?_⟩
          refine ⟨_,rfl,(ac_spec_StateOk g.part st hR.part (hb.part)).mono ?_⟩
          rintro _ st ⟨x58,rfl,h58,rfl⟩
          rcases x58 with _|_
          ·replace h58 := fun k => Bool.false_ne_true (h58.2 k)
           iterate 3 refine ⟨_,rfl,?_⟩
           refine Cm 1 st [Ml 1 0,(2,vB false),(66,vB true)] [(1,0,cMV g)] fun _ _ => ?_
           exact cxs (Rt ⟨false,rfl,⟨fun h => absurd h Bool.false_ne_true,fun h => (show False from (h58 h.2.2.2.2.2.1)).elim⟩,rfl⟩)
          ·replace h58 := h58.1 rfl
           iterate 3 refine ⟨_,rfl,?_⟩
           refine ⟨_,Od rfl,?_⟩
           refine ⟨_,rfl,(ac_spec_MarksOk g.marks.p g.marks.l st hR.marks (hb.marks)).mono ?_⟩
           rintro _ st ⟨x64,rfl,h64,rfl⟩
           rcases x64 with _|_
           ·replace h64 := fun k => Bool.false_ne_true (h64.2 k)
            iterate 2 refine ⟨_,rfl,?_⟩
            refine Cm 1 st [Ml 1 0,(2,vB false),(66,vB true)] [(1,0,cMV g)] fun _ _ => ?_
            exact cxs (Rt ⟨false,rfl,⟨fun h => absurd h Bool.false_ne_true,fun h => (show False from (h64 h.2.2.2.2.2.2)).elim⟩,rfl⟩)
           ·replace h64 := h64.1 rfl
            iterate 2 refine ⟨_,rfl,?_⟩
            refine Cm 1 st [Ml 1 0,(2,vB false),(66,vB false)] [(1,0,cMV g)] fun _ _ => ?_
            refine cxs ?_
            refine Cm 1 st [Ml 1 0,(2,vB false),(3,vI 1)] [(1,0,cMV g)] fun _ _ => ?_
            refine AW.loopM (fun i : Nat => [(1,vL 1 0 (0)),(3,vI ((i + 1 : Nat) : Int))]) (fun i : Nat => [(1,0,cMV g)]) (fun m (i : Nat) st' => m = g.leaves.l.length - i ∧ (i = 0 ∨ i + 1 ≤ g.leaves.l.length) ∧ (∀ (j : Nat) x y,j < i → g.leaves.l[j + 1]? = some x → g.leaves.l[j]? = some y → y < x) ∧ st = st') 0 _ ⟨rfl,rfl,trivial⟩ ⟨rfl,trivial⟩ ⟨rfl,.inl rfl,fun j x y h => absurd h (Nat.not_lt_zero _),rfl⟩ ?_
            rintro m i ρ0 ff gg st' ⟨rfl,hi,hok,rfl⟩
            refine ⟨_,rfl,?_⟩
            refine ⟨_,Od rfl,?_⟩
            iterate 2 refine ⟨_,rfl,?_⟩
            rintro (_|_) h71
            ·replace h71 : ¬ (((i + 1 : Nat) : Int) < (g.leaves.l.length : Int)) := of_decide_eq_false h71
             refine Cm gg st [Ml 1 0,(3,vI ((i + 1 : Nat) : Int)),(71,vB false)] [(1,0,cMV g)] fun _ _ => ?_
             refine cxs ?_
             refine cxs ?_
             refine ⟨.inl rfl,_,rfl,true,rfl,⟨fun _ => ⟨⟨h6,h11,h17,h25⟩,⟨h30,h36⟩,h41,h46,fun j x hx => ⟨h52.2 j x hx,fun y h0 hy => ?_⟩,h58,h64⟩,fun _ => rfl⟩,rfl⟩
             have hj := (List.getElem?_eq_some_iff.1 hx).1
             simp only [MV.x] at hj
             exact hok (j - 1) x y (by omega) (by rw [show j - 1 + 1 = j by omega]; exact hx) hy
            ·replace h71 : ((i + 1 : Nat) : Int) < (g.leaves.l.length : Int) := of_decide_eq_true h71
             refine Cm gg st [Ml 1 0,(3,vI ((i + 1 : Nat) : Int)),(71,vB true)] [(1,0,cMV g)] fun _ _ => ?_
             refine cxs ?_
             refine ⟨_,rfl,?_⟩
             refine ⟨_,Od rfl,?_⟩
             refine op_at (i + 1) hR.leaves (by omega) rfl rfl rfl rfl rfl rfl rfl ?_
             intro x77 b77 d77 k77 hy77 hb77 hm77 hc77 ho77
             refine ⟨_,op_ldc (i := 0) rfl rfl rfl rfl hm77 hc77 rfl rfl,?_⟩
             refine ⟨_,rfl,?_⟩
             refine ⟨_,Od rfl,?_⟩
             have ew82 : IntKind.wrap .i64 (((i + 1 : Nat) : Int) - (1)) = ((i + 1 : Nat) : Int) - (1) := wrap_i64 (by omega) (by omega)
             refine ⟨_,rfl,?_⟩
             refine op_at i ((hR.leaves)) (by omega) rfl rfl rfl rfl (by rw [ew82]; omega) rfl rfl ?_
             intro x83 b83 d83 k83 hy83 hb83 hm83 hc83 ho83
             refine ⟨_,op_ldc (i := 0) rfl rfl rfl rfl hm83 hc83 rfl rfl,?_⟩
             refine ⟨_,rfl,?_⟩
             rintro (_|_) h85
             ·replace h85 : ¬ (x77 ≤ x83) := of_decide_eq_false h85
              refine Cm gg st [Ml 1 0,(3,vI ((i + 1 : Nat) : Int)),(71,vB true),(85,vB false)] [(1,0,cMV g)] fun _ _ => ?_
              refine cxs ?_
              have ew73 : IntKind.wrap .i64 (((i + 1 : Nat) : Int) + (1)) = ((i + 1 + 1 : Nat) : Int) := (wrap_i64 (by omega) (by omega)).trans (by omega)
              refine ⟨_,rfl,?_⟩
              refine ⟨i + 1,g.leaves.l.length - (i + 1),by omega,⟨rfl,congrArg (Value.int .i64) ew73,trivial⟩,⟨rfl,trivial⟩,rfl,.inr (by omega),fun j x y hj hx hy => ?_,rfl⟩
              rcases Nat.lt_or_ge j i with h | h
              ·exact hok j x y h hx hy
              ·obtain rfl : j = i := by omega
               rw [hy77] at hx; injection hx with hx; rw [hy83] at hy; injection hy with hy; omega
             ·replace h85 : x77 ≤ x83 := of_decide_eq_true h85
              refine Cm gg st [Ml 1 0,(3,vI ((i + 1 : Nat) : Int)),(71,vB true),(85,vB true)] [(1,0,cMV g)] fun _ _ => ?_
              exact cxs (Rt ⟨false,rfl,⟨fun h => absurd h Bool.false_ne_true,fun h => (show False from (absurd ((h.2.2.2.2.1 (i + 1) x77 hy77).2 x83 (by omega) hy83) (by omega))).elim⟩,rfl⟩)
    ·replace h25 : g.frm = g.to := beq_iff_eq.1 h25
     iterate 3 refine ⟨_,rfl,?_⟩
     refine Cm 1 st [Ml 1 0,(2,vB false),(38,vB true)] [(1,0,cMV g)] fun _ _ => ?_
     exact cxs (Rt ⟨false,rfl,⟨fun h => absurd h Bool.false_ne_true,fun h => (show False from (h.1.2.2.2 h25)).elim⟩,rfl⟩)
def numsL (l : List Int) : List Int := putN (l.length : Int) ++ numsB l
def crcB (l : List Int) : List Int := [crc l / 16777216,crc l / 65536 % 256,crc l / 256 % 256,crc l % 256]
def mgN (g : Mg) : List Int := [g.kind,g.frm,g.to,g.num,g.hi]
def mgH (g : Mg) : List Int := [82,75] ++ numsB (mgN g) ++ numsL g.tree.leaves ++ putN g.tree.root ++ numsL g.vec ++ numsL g.leaves ++ putN ((stB g.part).length : Int) ++ stB g.part ++ putN (g.marks.length : Int)
def mgB0 (g : Mg) : List Int := mgH g ++ flsB g.marks
def mgB (g : Mg) : List Int := mgB0 g ++ crcB (mgB0 g)
open Classical in
noncomputable def mgBz (g : Mg) : List Int := if msgOk g then mgB g else []
theorem numsL_len (l : List Int) : (numsL l).length ≤ 5 + 5 * l.length := by
 have h1 := putN_len (l.length : Int)
 have h2 := numsB_len l
 rw [numsL,List.length_append]
 omega
theorem numsL_ok (l : List Int) : bytesOk (numsL l) := (putN_ok _).app (numsB_ok _)
theorem crcB_ok {l : List Int} (hl : bytesOk l) : bytesOk (crcB l) := by
 have h := crc_rng hl
 have h0 := h.1
 have h1 := h.2
 intro x hx
 simp only [crcB,List.mem_cons,List.not_mem_nil,or_false] at hx
 rcases hx with rfl | rfl | rfl | rfl <;> omega
theorem mgH_ok (g : Mg) : bytesOk (mgH g) := by
 unfold mgH
 refine ((((((((bytesOk.app ?_ (numsB_ok _)).app (numsL_ok _)).app (putN_ok _)).app (numsL_ok _)).app (numsL_ok _)).app (putN_ok _)).app (stB_ok _)).app (putN_ok _))
 intro x hx
 simp only [List.mem_cons,List.not_mem_nil,or_false] at hx
 rcases hx with rfl | rfl <;> omega
theorem flsB_ok (l : List Flr) : bytesOk (flsB l) := fm_ok fun x => (putN_ok _).app (putN_ok _)
theorem mgB0_ok (g : Mg) : bytesOk (mgB0 g) := (mgH_ok g).app (flsB_ok _)
theorem mgB_ok (g : Mg) : bytesOk (mgB g) := (mgB0_ok g).app (crcB_ok (mgB0_ok g))
theorem mgH_len {g : Mg} (hb : bigM g) (hk : stateOk g.part) : (mgH g).length ≤ 100000000 := by
 have h1 := numsL_len g.tree.leaves
 have h2 := numsL_len g.vec
 have h3 := numsL_len g.leaves
 have h4 := stB_len hk
 have h5 := putN_len g.tree.root
 have h6 := putN_len ((stB g.part).length : Int)
 have h7 := putN_len (g.marks.length : Int)
 have h8 := numsB_len (mgN g)
 have e8 : (mgN g).length = 5 := rfl
 have b1 : g.tree.leaves.length ≤ 1048576 := hb.tree
 have b2 : g.vec.length ≤ 1048576 := hb.vec
 have b3 : g.leaves.length ≤ 1048576 := hb.leaves
 have b4 : g.part.items.length ≤ 1048576 := hb.part.1
 have b5 : g.part.floors.length ≤ 1048576 := hb.part.2.1
 simp only [mgH,List.length_append,List.length_cons,List.length_nil]
 omega
section
variable {P : Program} {ls : List Tmp} {call : ACallT} {o : Oper} {e : Operand → Value} {lo : Lo} {st : St}
theorem op_fz {t el : TypeId} {x : Operand} {q : Option Addr} {l : List Int} (ho : o.op = .convert t t x) (hx : e x = vS q l.length) (hO : OwnR st 1 fB q l) (hl : 0 < l.length) (he : telem P t = some el) (hk : tint P el = some .u8) : aoper P ls call o e lo st = some (vS q l.length,lo,st) := by
 rcases hO with ⟨_,h⟩ | ⟨a,rfl,_,hm⟩
 ·rw [h] at hl; exact absurd hl (Nat.lt_irrefl 0)
 ·obtain ⟨d,op,tt,pos,after,gd⟩ := o
  simp only at ho
  subst ho
  simp only [aoper,he,hx,abytesOf,hm,hk]
  rw [if_pos ⟨trivial,trivial,trivial,trivial,hl⟩]
theorem op_shr {t ty : TypeId} {x y : Operand} {k : IntKind} {a b r : Int} (ho : o.op = .binOp .shr t x y ty) (hx : e x = vI a) (hy : e y = .int k b) (hb : 0 ≤ b ∧ b ≤ 64) (hr : a / 2 ^ b.toNat = r) : aoper P ls call o e lo st = some (vI r,lo,st) := by
 subst hr
 obtain ⟨d,op,tt,pos,after,gd⟩ := o
 simp only at ho
 subst ho
 simp only [aoper,rop,hx,hy,abin]
 rw [if_pos (show 0 ≤ b ∧ b ≤ (IntKind.bits .i64 : Int) from hb)]
 rfl
theorem op_a255 {t ty : TypeId} {x y : Operand} {a r : Int} (ho : o.op = .binOp .and t x y ty) (hx : e x = vI a) (hy : e y = vI 255) (h0 : 0 ≤ a) (h1 : a < 9223372036854775808) (hr : a % 256 = r) : aoper P ls call o e lo st = some (vI r,lo,st) := by
 subst hr
 obtain ⟨d,op,tt,pos,after,gd⟩ := o
 simp only at ho
 subst ho
 obtain ⟨n,rfl⟩ := Int.eq_ofNat_of_zero_le h0
 have h2 : (BitVec.ofInt 64 (n : Int) &&& BitVec.ofInt 64 255).toNat = n % 256 := by
  rw [BitVec.toNat_and,BitVec.ofInt_natCast,show BitVec.ofInt 64 255 = BitVec.ofNat 64 255 from rfl,BitVec.toNat_ofNat,BitVec.toNat_ofNat,Nat.mod_eq_of_lt (by omega),show 255 % 2 ^ 64 = 2 ^ 8 - 1 from rfl,Nat.and_two_pow_sub_one_eq_mod]
 simp only [aoper,rop,hx,hy,abin,aint,if_true,Option.map_some]
 show some (Value.int .i64 (IntKind.wrap .i64 (((BitVec.ofInt 64 (n : Int) &&& BitVec.ofInt 64 255).toNat : Nat) : Int)),lo,st) = _
 rw [h2,wrap_nat _ (by omega)]
 rfl
end
theorem ac_impl_crcBytes (p : Option Addr) (l : List Int) (st : St) (hR : Rows st 1 fB p l) (hl : bytesOk l) (hs : l.length ≤ 1099511627776) : C 120 [vS p l.length] st (fun v s => ∃ q,v = vS q (crcB l).length ∧ OwnR s 1 fB q (crcB l) ∧ New st.next q ∧ Pres st s) := by
 have hr := crc_rng hl
 have h0 : 0 ≤ crc l := hr.1
 have h1 : crc l < 4294967296 := hr.2
 refine AC.enterX (i := ⟨[],[],[0,2,3],[]⟩) [] Try.func120 rfl rfl (by kernel_rfl) (by kernel_rfl) Try.ntmps120 (Lb rfl) rfl ?_
 refine Cu lo0 st [(0,vS p l.length),(2,Sn)] fun _ => ?_
 refine ⟨_,rfl,(ac_impl_Crc p l st hR (by first | assumption | omega) (by first | assumption | omega)).mono ?_⟩
 rintro _ st ⟨rfl,rfl⟩
 refine Cu lo0 st [(2,Sn),(3,vI (crc l))] fun _ => ?_
 refine ⟨_,op_shr (r := crc l / 16777216) rfl rfl rfl (by decide) (congrArg (crc l / ·) (by decide)),?_⟩
 refine ⟨_,op_a255 (r := crc l / 16777216) rfl rfl rfl (by omega) (by omega) (by omega),?_⟩
 refine ⟨_,op_toB (r := crc l / 16777216) rfl rfl rfl rfl rfl rfl (by omega) (by omega),?_⟩
 refine ⟨_,op_shr (r := crc l / 65536) rfl rfl rfl (by decide) (congrArg (crc l / ·) (by decide)),?_⟩
 refine ⟨_,op_a255 (r := crc l / 65536 % 256) rfl rfl rfl (by omega) (by omega) rfl,?_⟩
 refine ⟨_,op_toB (r := crc l / 65536 % 256) rfl rfl rfl rfl rfl rfl (by omega) (by omega),?_⟩
 refine ⟨_,op_shr (r := crc l / 256) rfl rfl rfl (by decide) (congrArg (crc l / ·) (by decide)),?_⟩
 refine ⟨_,op_a255 (r := crc l / 256 % 256) rfl rfl rfl (by omega) (by omega) rfl,?_⟩
 refine ⟨_,op_toB (r := crc l / 256 % 256) rfl rfl rfl rfl rfl rfl (by omega) (by omega),?_⟩
 refine ⟨_,op_a255 (r := crc l % 256) rfl rfl rfl (by omega) (by omega) rfl,?_⟩
 refine ⟨_,op_toB (r := crc l % 256) rfl rfl rfl rfl rfl rfl (by omega) (by omega),?_⟩
 refine op_litI (k := .u8) (l := crcB l) rfl rfl rfl rfl rfl rfl (by decide) ?_
 intro q21 s21 hO21 hP21 hN21
 exact cxs (Rt ⟨q21,rfl,hO21,hN21,hP21⟩)
theorem ac_spec_l10Sum (p : Option Addr) (l : List Int) (st : St) (hR : Rows st 1 fB p l) (hl : bytesOk l) (hs : l.length ≤ 1099511627776) : C 129 [vS p l.length] st (fun v s => ∃ q,v = vS q (crcB l).length ∧ OwnR s 1 fB q (crcB l) ∧ New st.next q ∧ Pres st s) := by
 have hr := crc_rng hl
 have h0 : 0 ≤ crc l := hr.1
 have h1 : crc l < 4294967296 := hr.2
 refine AC.enterX (i := ⟨[],[],[0,2,3],[]⟩) [] Try.func129 rfl rfl (by kernel_rfl) (by kernel_rfl) Try.ntmps129 (Lb rfl) rfl ?_
 refine Cu lo0 st [(0,vS p l.length),(2,Sn)] fun _ => ?_
 refine ⟨_,rfl,(ac_spec_Crc p l st hR (by first | assumption | omega) (by first | assumption | omega)).mono ?_⟩
 rintro _ st ⟨rfl,rfl⟩
 refine Cu lo0 st [(2,Sn),(3,vI (crc l))] fun _ => ?_
 refine ⟨_,op_qo (r := crc l / 16777216) rfl rfl rfl (by decide) (td_ediv 16777216 h0) (by omega) (by omega),?_⟩
 refine ⟨_,op_toB (r := crc l / 16777216) rfl rfl rfl rfl rfl rfl (by omega) (by omega),?_⟩
 refine ⟨_,op_qo (r := crc l / 65536) rfl rfl rfl (by decide) (td_ediv 65536 h0) (by omega) (by omega),?_⟩
 refine ⟨_,op_rm (r := crc l / 65536 % 256) rfl rfl rfl (by decide) (tm_emod 256 (by omega)),?_⟩
 refine ⟨_,op_toB (r := crc l / 65536 % 256) rfl rfl rfl rfl rfl rfl (by omega) (by omega),?_⟩
 refine ⟨_,op_qo (r := crc l / 256) rfl rfl rfl (by decide) (td_ediv 256 h0) (by omega) (by omega),?_⟩
 refine ⟨_,op_rm (r := crc l / 256 % 256) rfl rfl rfl (by decide) (tm_emod 256 (by omega)),?_⟩
 refine ⟨_,op_toB (r := crc l / 256 % 256) rfl rfl rfl rfl rfl rfl (by omega) (by omega),?_⟩
 refine ⟨_,op_rm (r := crc l % 256) rfl rfl rfl (by decide) (tm_emod 256 h0),?_⟩
 refine ⟨_,op_toB (r := crc l % 256) rfl rfl rfl rfl rfl rfl (by omega) (by omega),?_⟩
 refine op_litI (k := .u8) (l := crcB l) rfl rfl rfl rfl rfl rfl (by decide) ?_
 intro q20 s20 hO20 hP20 hN20
 exact cxs (Rt ⟨q20,rfl,hO20,hN20,hP20⟩)
theorem ac_impl_putNums (p : Option Addr) (l : List Int) (st : St) (hR : Rows st 1 fI p l) (hs : szOk l.length) : C 119 [vS p l.length] st (fun v s => ∃ q,v = vS q (numsL l).length ∧ OwnR s 1 fB q (numsL l) ∧ New st.next q ∧ Pres st s) := by
 have hs : l.length ≤ 1048576 := hs
 have hpl := putN_len (l.length : Int)
 refine AC.enterX (i := ⟨[],[],[0,2,3,5,9,10,11,12],[]⟩) [] Try.func119 rfl rfl (by kernel_rfl) (by kernel_rfl) Try.ntmps119 (Lb rfl) rfl ?_
 refine Cu lo0 st [(0,vS p l.length),(2,Sn)] fun _ => ?_
 refine ⟨_,rfl,?_⟩
 refine ⟨_,rfl,(ac_impl_PutNum (l.length : Int) st).mono ?_⟩
 rintro _ s8 ⟨q8,rfl,hO8,hN8,hP8⟩
 refine Cu lo0 s8 [(0,vS p l.length),(2,Sn),(3,vS q8 (putN (l.length : Int)).length)] fun _ => ?_
 refine ⟨_,rfl,?_⟩
 refine Cu lo0 s8 [(2,Sn),(3,vS q8 (putN (l.length : Int)).length),(9,vS p l.length),(10,vI (l.length : Int)),(11,vI 0)] fun _ => ?_
 refine AW.loop0 (fun x : Nat × Option Addr × List Int => [(2,.slice none 0 0),(3,vS x.2.1 x.2.2.length),(9,vS p l.length),(10,vI (l.length : Int)),(11,vI (x.1 : Int))]) (fun m (x : Nat × Option Addr × List Int) st' => m = l.length - x.1 ∧ x.1 ≤ l.length ∧ x.2.2 = putN (l.length : Int) ++ numsB (l.take x.1) ∧ OwnR st' 1 fB x.2.1 x.2.2 ∧ New st.next x.2.1 ∧ Pres st st') (0,q8,putN (l.length : Int)) _ ⟨rfl,rfl,rfl,rfl,rfl,trivial⟩ rfl ⟨rfl,Nat.zero_le _,(List.append_nil _).symm,hO8,hN8,hP8⟩ ?_
 rintro m ⟨i,q,b⟩ ρ0 st' ⟨rfl,hi,hv,hO,hN,hP⟩
 simp only at hi hv hO hN
 have hbl : b.length ≤ 5 + 5 * l.length := by rw [hv,List.length_append]; have := numsB_len (l.take i); rw [List.length_take] at this; omega
 refine ⟨_,rfl,?_⟩
 rintro (_|_) h12
 ·replace h12 : ¬ ((i : Int) < (l.length : Int)) := of_decide_eq_false h12
  refine Cu lo0 st' [(2,Sn),(3,vS q b.length),(9,vS p l.length),(10,vI (l.length : Int)),(11,vI (i : Int)),(12,vB false)] fun _ => ?_
  refine cxs ?_
  refine cxs ?_
  refine ⟨.inl rfl,_,rfl,q,?_⟩
  rw [show numsL l = b by rw [hv,show i = l.length by omega,List.take_length]; rfl]
  exact ⟨rfl,hO,hN,hP⟩
 ·replace h12 : (i : Int) < (l.length : Int) := of_decide_eq_true h12
  refine Cu lo0 st' [(2,Sn),(3,vS q b.length),(9,vS p l.length),(10,vI (l.length : Int)),(11,vI (i : Int)),(12,vB true)] fun _ => ?_
  refine cxs ?_
  refine op_at i (hP.rows hR) (by omega) rfl rfl rfl rfl rfl rfl rfl ?_
  intro x13 b13 d13 k13 hy13 hb13 hm13 hc13 ho13
  refine ⟨_,op_ldc (i := 0) rfl rfl rfl rfl hm13 hc13 rfl rfl,?_⟩
  refine Cu lo0 st' [(2,Sn),(3,vS q b.length),(5,vI x13),(9,vS p l.length),(10,vI (l.length : Int)),(11,vI (i : Int)),(12,vB true)] fun _ => ?_
  obtain ⟨s1,hs1'⟩ : ∃ s1,s1 = st' := ⟨_,rfl⟩
  subst hs1'
  refine ⟨_,rfl,(ac_impl_PutNum x13 s1).mono ?_⟩
  rintro _ s17 ⟨q17,rfl,hO17,hN17,hP17⟩
  have hpn := putN_len x13
  have hfl : fl [⟨q,b⟩,⟨q17,putN x13⟩] = b ++ putN x13 := by simp [fl]
  refine op_litR [⟨q,b⟩,⟨q17,putN x13⟩] rfl rfl rfl (by decide) rfl rfl rfl (by decide) ?_
  intro q18 s18 hO18 hP18 hN18
  refine ⟨_,rfl,(ac_impl_joined q18 [⟨q,b⟩,⟨q17,putN x13⟩] s18 (hO18.rows cRV_len) (fun r hr => by
  simp only [List.mem_cons,List.not_mem_nil,or_false] at hr
  rcases hr with rfl | rfl
  ·exact (hP17.trans hP18).rows (hO.rows fB_len)
  ·exact hP18.rows (hO17.rows fB_len)) (by show (2 : Nat) ≤ 1048576; omega) (by rw [hfl,List.length_append]; omega)).mono ?_⟩
  rintro _ s19 ⟨q19,rfl,hO19,hN19,hP19⟩
  refine Cu lo0 s19 [(2,Sn),(3,vS q19 (fl [⟨q,b⟩,⟨q17,putN x13⟩]).length),(5,vI x13),(9,vS p l.length),(10,vI (l.length : Int)),(11,vI (i : Int)),(12,vB true)] fun _ => ?_
  have ew20 : IntKind.wrap .i64 ((i : Int) + (1)) = ((i + 1 : Nat) : Int) := (wrap_i64 (by omega) (by omega)).trans (by omega)
  refine ⟨_,rfl,?_⟩
  exact ⟨(i + 1,q19,fl [⟨q,b⟩,⟨q17,putN x13⟩]),l.length - (i + 1),by omega,⟨rfl,rfl,rfl,rfl,congrArg (Value.int .i64) ew20,trivial⟩,rfl,rfl,by simp only; omega,by rw [numsB_succ hy13,← List.append_assoc,← hv]; exact hfl,hO19,hN19.le ((hP.trans hP17).trans hP18).1,((hP.trans hP17).trans hP18).trans hP19⟩
theorem ac_spec_l10List (p : Option Addr) (l : List Int) (st : St) (hR : Rows st 1 fI p l) (hs : szOk l.length) : C 171 [vS p l.length] st (fun v s => ∃ q,v = vS q (numsL l).length ∧ OwnR s 1 fB q (numsL l) ∧ New st.next q ∧ Pres st s) := by
 have hs : l.length ≤ 1048576 := hs
 have hpl := putN_len (l.length : Int)
 refine AC.enterX (i := ⟨[],[],[0,2,3,4,11],[]⟩) [] Try.func171 rfl rfl (by kernel_rfl) (by kernel_rfl) Try.ntmps171 (Lb rfl) rfl ?_
 refine Cu lo0 st [(0,vS p l.length),(2,Sn)] fun _ => ?_
 refine ⟨_,rfl,?_⟩
 refine ⟨_,rfl,(ac_spec_PutNum (l.length : Int) st).mono ?_⟩
 rintro _ s7 ⟨q7,rfl,hO7,hN7,hP7⟩
 refine cxs ?_
 refine Cu lo0 s7 [(0,vS p l.length),(2,Sn),(3,vS q7 (putN (l.length : Int)).length),(4,vI 0)] fun _ => ?_
 refine AW.loop0 (fun x : Nat × Option Addr × List Int => [(0,vS p l.length),(2,.slice none 0 0),(3,vS x.2.1 x.2.2.length),(4,vI (x.1 : Int))]) (fun m (x : Nat × Option Addr × List Int) st' => m = l.length - x.1 ∧ x.1 ≤ l.length ∧ x.2.2 = putN (l.length : Int) ++ numsB (l.take x.1) ∧ OwnR st' 1 fB x.2.1 x.2.2 ∧ New st.next x.2.1 ∧ Pres st st') (0,q7,putN (l.length : Int)) _ ⟨rfl,rfl,rfl,rfl,trivial⟩ rfl ⟨rfl,Nat.zero_le _,(List.append_nil _).symm,hO7,hN7,hP7⟩ ?_
 rintro m ⟨i,q,b⟩ ρ0 st' ⟨rfl,hi,hv,hO,hN,hP⟩
 simp only at hi hv hO hN
 have hbl : b.length ≤ 5 + 5 * l.length := by rw [hv,List.length_append]; have := numsB_len (l.take i); rw [List.length_take] at this; omega
 iterate 2 refine ⟨_,rfl,?_⟩
 rintro (_|_) h11
 ·replace h11 : ¬ ((i : Int) < (l.length : Int)) := of_decide_eq_false h11
  refine Cu lo0 st' [(0,vS p l.length),(2,Sn),(3,vS q b.length),(4,vI (i : Int)),(11,vB false)] fun _ => ?_
  refine cxs ?_
  refine cxs ?_
  refine ⟨.inl rfl,_,rfl,q,?_⟩
  rw [show numsL l = b by rw [hv,show i = l.length by omega,List.take_length]; rfl]
  exact ⟨rfl,hO,hN,hP⟩
 ·replace h11 : (i : Int) < (l.length : Int) := of_decide_eq_true h11
  refine Cu lo0 st' [(0,vS p l.length),(2,Sn),(3,vS q b.length),(4,vI (i : Int)),(11,vB true)] fun _ => ?_
  obtain ⟨s1,hs1'⟩ : ∃ s1,s1 = st' := ⟨_,rfl⟩
  subst hs1'
  refine cxs ?_
  refine op_at i (hP.rows hR) (by omega) rfl rfl rfl rfl rfl rfl rfl ?_
  intro x17 b17 d17 k17 hy17 hb17 hm17 hc17 ho17
  refine ⟨_,op_ldc (i := 0) rfl rfl rfl rfl hm17 hc17 rfl rfl,?_⟩
  refine ⟨_,rfl,(ac_spec_PutNum x17 s1).mono ?_⟩
  rintro _ s19 ⟨q19,rfl,hO19,hN19,hP19⟩
  have hpn := putN_len x17
  refine op_cat' (z := 1) (st := s19) (f := fB) (b := 1) (l := b) (l2 := putN x17) rfl rfl rfl rfl rfl rfl rfl (by decide) fB_len rfl rfl rfl rfl (by first | omega | (simp only [List.length_nil]; omega)) (by unfold maxLen; first | omega | (simp only [List.length_nil]; omega)) (hP19.ownR hO) (hO19.rows fB_len) ?_
  intro q20 s20 hO20 hPr20 hN20
  refine Cu lo0 s20 [(0,vS p l.length),(2,Sn),(3,vS q20 (b ++ (putN x17)).length),(4,vI (i : Int)),(11,vB true)] fun _ => ?_
  have ew13 : IntKind.wrap .i64 ((i : Int) + (1)) = ((i + 1 : Nat) : Int) := (wrap_i64 (by omega) (by omega)).trans (by omega)
  refine ⟨_,rfl,?_⟩
  exact ⟨(i + 1,q20,b ++ putN x17),l.length - (i + 1),by omega,⟨rfl,rfl,rfl,congrArg (Value.int .i64) ew13,trivial⟩,rfl,rfl,by simp only; omega,by rw [numsB_succ hy17,← List.append_assoc,← hv],hO20,cat_new (hP.trans hP19) hN hN20,hPr20.pres (hP.trans hP19) hN⟩
theorem mgB0_len {g : Mg} (hb : bigM g) (hk : stateOk g.part) : (mgB0 g).length ≤ 120000000 := by
 have h1 := mgH_len hb hk
 have h2 := fls_len g.marks g.marks.length
 rw [List.take_length] at h2
 have h3 : g.marks.length ≤ 1048576 := hb.marks
 rw [mgB0,List.length_append]
 omega
theorem mgB_len {g : Mg} (hb : bigM g) (hk : stateOk g.part) : (mgB g).length ≤ 120000004 := by
 have h1 := mgB0_len hb hk
 rw [mgB,List.length_append]
 have : (crcB (mgB0 g)).length = 4 := rfl
 omega
theorem ac_spec_l10Body (g : MV) (st : St) (hR : RdM st g) (hb : bigM g.x) (hk : stateOk g.part.x) : C 128 [.agg #[vI g.kind,vI g.frm,vI g.to,vI g.num,vI g.hi,vS g.tree.p g.tree.l.length,vI g.tree.root,vS g.vec.p g.vec.l.length,vS g.leaves.p g.leaves.l.length,vS g.part.p g.part.x.items.length,vS g.part.q g.part.x.floors.length,vS g.marks.p g.marks.l.length]] st (fun v s => ∃ q,v = vS q (mgB0 g.x).length ∧ OwnR s 1 fB q (mgB0 g.x) ∧ New st.next q ∧ Pres st s) := by
 have hb1 : g.tree.l.length ≤ 1048576 := hb.tree
 have hb2 : g.vec.l.length ≤ 1048576 := hb.vec
 have hb3 : g.leaves.l.length ≤ 1048576 := hb.leaves
 have hb4 : g.part.x.items.length ≤ 1048576 := hb.part.1
 have hb5 : g.part.x.floors.length ≤ 1048576 := hb.part.2.1
 have hb6 : g.marks.l.length ≤ 1048576 := hb.marks
 have hbH := mgH_len hb hk
 have hpl := stB_len hk
 refine AC.enterX (i := ⟨[1],[1,9,11,13,15,17,34,35,40,41,46,51,55,67,73,80,89],[0,1,2,3,4,5,6,7,23,76],[]⟩) [] Try.func128 rfl rfl (by kernel_rfl) (by kernel_rfl) Try.ntmps128 (Lb rfl) rfl ?_
 refine ⟨_,rfl,?_⟩
 refine Cm 1 st [Ml 1 0,(2,Sn)] [(1,0,cMV g)] fun _ _ => ?_
 refine op_litI (k := .u8) (l := [82,75]) rfl rfl rfl rfl rfl rfl (by decide) ?_
 intro q8 s8 hO8 hP8 hN8
 refine Cm 1 s8 [Ml 1 0,(2,Sn),(3,vS q8 ([82,75] : List Int).length)] [(1,0,cMV g)] fun _ _ => ?_
 have hO8 : OwnR s8 1 fB q8 [82,75] := hO8
 refine ⟨_,rfl,?_⟩
 refine ⟨_,Od rfl,?_⟩
 refine ⟨_,rfl,?_⟩
 refine ⟨_,Od rfl,?_⟩
 refine ⟨_,rfl,?_⟩
 refine ⟨_,Od rfl,?_⟩
 refine ⟨_,rfl,?_⟩
 refine ⟨_,Od rfl,?_⟩
 refine ⟨_,rfl,?_⟩
 refine ⟨_,Od rfl,?_⟩
 refine op_litI (k := .i64) (l := mgN g.x) rfl rfl rfl rfl rfl rfl (by decide) ?_
 intro q19 s19 hO19 hP19 hN19
 refine cxs ?_
 have hO19 : OwnR s19 1 fI q19 (mgN g.x) := hO19
 have h5 : (mgN g.x).length = 5 := rfl
 refine Cm 1 s19 [Ml 1 0,(2,Sn),(3,vS q8 ([82,75] : List Int).length),(4,vS q19 (mgN g.x).length),(5,vI 0)] [(1,0,cMV g)] fun _ _ => ?_
 refine AW.loopM (fun x : Nat × Option Addr × List Int => [(1,vL 1 0 (0)),(2,.slice none 0 0),(3,vS x.2.1 x.2.2.length),(4,vS q19 (mgN g.x).length),(5,vI (x.1 : Int))]) (fun x : Nat × Option Addr × List Int => [(1,0,cMV g)]) (fun m (x : Nat × Option Addr × List Int) st' => m = 5 - x.1 ∧ x.1 ≤ 5 ∧ x.2.2 = [82,75] ++ numsB ((mgN g.x).take x.1) ∧ OwnR st' 1 fB x.2.1 x.2.2 ∧ New st.next x.2.1 ∧ OwnR st' 1 fI q19 (mgN g.x) ∧ Dis x.2.1 q19 ∧ Pres st st') (0,q8,[82,75]) _ ⟨rfl,rfl,rfl,rfl,rfl,trivial⟩ ⟨rfl,trivial⟩ ⟨rfl,Nat.zero_le _,(List.append_nil _).symm,hP19.ownR hO8,hN8,hO19,Dis.of hO8.old hN19,hP8.trans hP19⟩ ?_
 rintro m ⟨i,q,b⟩ ρ0 ff gg st' ⟨rfl,hi,hv,hO,hN,hO5,hd5,hP⟩
 simp only at hi hv hO hN hd5
 have hbl : b.length ≤ 27 := by rw [hv,List.length_append]; have := numsB_len ((mgN g.x).take i); rw [List.length_take] at this; simp only [List.length_cons,List.length_nil]; omega
 iterate 2 refine ⟨_,rfl,?_⟩
 rintro (_|_) h23
 ·replace h23 : ¬ ((i : Int) < ((mgN g.x).length : Int)) := of_decide_eq_false h23
  refine Cm gg st' [Ml 1 0,(2,Sn),(3,vS q b.length),(4,vS q19 (mgN g.x).length),(5,vI (i : Int)),(23,vB false)] [(1,0,cMV g)] fun _ _ => ?_
  have hv1 : b = [82,75] ++ numsB (mgN g.x) := by rw [hv,show i = 5 by omega]; rfl
  obtain ⟨s1,hs1'⟩ : ∃ s1,s1 = st' := ⟨_,rfl⟩
  subst hs1'
  clear hv
  refine cxs ?_
  iterate 2 refine ⟨_,rfl,?_⟩
  refine ⟨_,Od rfl,?_⟩
  refine ⟨_,rfl,(ac_spec_l10List g.tree.p g.tree.l s1 (hP.rows hR.tree) (hb.tree)).mono ?_⟩
  rintro _ s37 ⟨q37,rfl,hO37,hN37,hP37⟩
  have hn38 := numsL_len g.tree.l
  refine op_cat' (z := 1) (st := s37) (f := fB) (b := 1) (l := b) (l2 := numsL g.tree.l) rfl rfl rfl rfl rfl rfl rfl (by decide) fB_len rfl rfl rfl rfl (by first | omega | (simp only [List.length_nil]; omega)) (by unfold maxLen; first | omega | (simp only [List.length_nil]; omega)) (hP37.ownR hO) (hO37.rows fB_len) ?_
  intro q38 s38 hO38 hPr38 hN38
  refine Cm gg s38 [Ml 1 0,(2,Sn),(3,vS q38 (b ++ (numsL g.tree.l)).length)] [(1,0,cMV g)] fun _ _ => ?_
  have hl38 : (b ++ numsL g.tree.l).length ≤ b.length + (numsL g.tree.l).length := by rw [List.length_append]; omega
  have hN38' := cat_new (hP.trans hP37) hN hN38
  have hP38' := hPr38.pres (hP.trans hP37) hN
  iterate 2 refine ⟨_,rfl,?_⟩
  refine ⟨_,Od rfl,?_⟩
  refine ⟨_,rfl,(ac_spec_PutNum g.tree.root s38).mono ?_⟩
  rintro _ s43 ⟨q43,rfl,hO43,hN43,hP43⟩
  have hn44 := putN_len g.tree.root
  refine op_cat' (z := 1) (st := s43) (f := fB) (b := 1) (l := (b ++ numsL g.tree.l)) (l2 := putN g.tree.root) rfl rfl rfl rfl rfl rfl rfl (by decide) fB_len rfl rfl rfl rfl (by first | omega | (simp only [List.length_nil]; omega)) (by unfold maxLen; first | omega | (simp only [List.length_nil]; omega)) (hP43.ownR hO38) (hO43.rows fB_len) ?_
  intro q44 s44 hO44 hPr44 hN44
  refine Cm gg s44 [Ml 1 0,(2,Sn),(3,vS q44 ((b ++ numsL g.tree.l) ++ (putN g.tree.root)).length)] [(1,0,cMV g)] fun _ _ => ?_
  have hl44 : (b ++ numsL g.tree.l ++ putN g.tree.root).length ≤ (b ++ numsL g.tree.l).length + (putN g.tree.root).length := by rw [List.length_append]; omega
  have hN44' := cat_new (hP38'.trans hP43) hN38' hN44
  have hP44' := hPr44.pres (hP38'.trans hP43) hN38'
  refine ⟨_,rfl,?_⟩
  refine ⟨_,Od rfl,?_⟩
  refine ⟨_,rfl,(ac_spec_l10List g.vec.p g.vec.l s44 (hP44'.rows hR.vec) (hb.vec)).mono ?_⟩
  rintro _ s48 ⟨q48,rfl,hO48,hN48,hP48⟩
  have hn49 := numsL_len g.vec.l
  refine op_cat' (z := 1) (st := s48) (f := fB) (b := 1) (l := (b ++ numsL g.tree.l ++ putN g.tree.root)) (l2 := numsL g.vec.l) rfl rfl rfl rfl rfl rfl rfl (by decide) fB_len rfl rfl rfl rfl (by first | omega | (simp only [List.length_nil]; omega)) (by unfold maxLen; first | omega | (simp only [List.length_nil]; omega)) (hP48.ownR hO44) (hO48.rows fB_len) ?_
  intro q49 s49 hO49 hPr49 hN49
  refine Cm gg s49 [Ml 1 0,(2,Sn),(3,vS q49 ((b ++ numsL g.tree.l ++ putN g.tree.root) ++ (numsL g.vec.l)).length)] [(1,0,cMV g)] fun _ _ => ?_
  have hl49 : (b ++ numsL g.tree.l ++ putN g.tree.root ++ numsL g.vec.l).length ≤ (b ++ numsL g.tree.l ++ putN g.tree.root).length + (numsL g.vec.l).length := by rw [List.length_append]; omega
  have hN49' := cat_new (hP44'.trans hP48) hN44' hN49
  have hP49' := hPr49.pres (hP44'.trans hP48) hN44'
  refine ⟨_,rfl,?_⟩
  refine ⟨_,Od rfl,?_⟩
  refine ⟨_,rfl,(ac_spec_l10List g.leaves.p g.leaves.l s49 (hP49'.rows hR.leaves) (hb.leaves)).mono ?_⟩
  rintro _ s53 ⟨q53,rfl,hO53,hN53,hP53⟩
  have hn54 := numsL_len g.leaves.l
  refine op_cat' (z := 1) (st := s53) (f := fB) (b := 1) (l := (b ++ numsL g.tree.l ++ putN g.tree.root ++ numsL g.vec.l)) (l2 := numsL g.leaves.l) rfl rfl rfl rfl rfl rfl rfl (by decide) fB_len rfl rfl rfl rfl (by first | omega | (simp only [List.length_nil]; omega)) (by unfold maxLen; first | omega | (simp only [List.length_nil]; omega)) (hP53.ownR hO49) (hO53.rows fB_len) ?_
  intro q54 s54 hO54 hPr54 hN54
  refine Cm gg s54 [Ml 1 0,(2,Sn),(3,vS q54 ((b ++ numsL g.tree.l ++ putN g.tree.root ++ numsL g.vec.l) ++ (numsL g.leaves.l)).length)] [(1,0,cMV g)] fun _ _ => ?_
  have hl54 : (b ++ numsL g.tree.l ++ putN g.tree.root ++ numsL g.vec.l ++ numsL g.leaves.l).length ≤ (b ++ numsL g.tree.l ++ putN g.tree.root ++ numsL g.vec.l).length + (numsL g.leaves.l).length := by rw [List.length_append]; omega
  have hN54' := cat_new (hP49'.trans hP53) hN49' hN54
  have hP54' := hPr54.pres (hP49'.trans hP53) hN49'
  refine ⟨_,rfl,?_⟩
  refine ⟨_,Od rfl,?_⟩
  refine ⟨_,rfl,(ac_spec_l6Bytes g.part s54 (hR.part.pres hP54') hb.part hk).mono ?_⟩
  rintro _ s57 ⟨q57,rfl,hO57,hN57,hP57⟩
  refine Cm gg s57 [Ml 1 0,(2,Sn),(3,vS q54 ((b ++ numsL g.tree.l ++ putN g.tree.root ++ numsL g.vec.l) ++ (numsL g.leaves.l)).length),(6,vS q57 (stB g.part.x).length)] [(1,0,cMV g)] fun _ _ => ?_
  have hd57 := Dis.of hO54.old hN57
  have hP57' := hP54'.trans hP57
  refine ⟨_,rfl,?_⟩
  refine ⟨_,rfl,(ac_spec_PutNum ((stB g.part.x).length : Int) s57).mono ?_⟩
  rintro _ s61 ⟨q61,rfl,hO61,hN61,hP61⟩
  have hn62 := putN_len ((stB g.part.x).length : Int)
  refine op_cat' (z := 1) (st := s61) (f := fB) (b := 1) (l := (b ++ numsL g.tree.l ++ putN g.tree.root ++ numsL g.vec.l ++ numsL g.leaves.l)) (l2 := putN ((stB g.part.x).length : Int)) rfl rfl rfl rfl rfl rfl rfl (by decide) fB_len rfl rfl rfl rfl (by first | omega | (simp only [List.length_nil]; omega)) (by unfold maxLen; first | omega | (simp only [List.length_nil]; omega)) (hP61.ownR (hP57.ownR hO54)) (hO61.rows fB_len) ?_
  intro q62 s62 hO62 hPr62 hN62
  refine Cm gg s62 [Ml 1 0,(2,Sn),(3,vS q62 ((b ++ numsL g.tree.l ++ putN g.tree.root ++ numsL g.vec.l ++ numsL g.leaves.l) ++ (putN ((stB g.part.x).length : Int))).length),(6,vS q57 (stB g.part.x).length)] [(1,0,cMV g)] fun _ _ => ?_
  have hl62 : (b ++ numsL g.tree.l ++ putN g.tree.root ++ numsL g.vec.l ++ numsL g.leaves.l ++ putN ((stB g.part.x).length : Int)).length ≤ (b ++ numsL g.tree.l ++ putN g.tree.root ++ numsL g.vec.l ++ numsL g.leaves.l).length + (putN ((stB g.part.x).length : Int)).length := by rw [List.length_append]; omega
  have hN62' := cat_new (hP57'.trans hP61) hN54' hN62
  have hP62' := hPr62.pres (hP57'.trans hP61) hN54'
  have hO62p := hPr62.ownR hd57 (hP61.ownR hO57)
  skip
  refine op_cat' (z := 1) (st := s62) (f := fB) (b := 1) (l := (b ++ numsL g.tree.l ++ putN g.tree.root ++ numsL g.vec.l ++ numsL g.leaves.l ++ putN ((stB g.part.x).length : Int))) (l2 := stB g.part.x) rfl rfl rfl rfl rfl rfl rfl (by decide) fB_len rfl rfl rfl rfl (by first | omega | (simp only [List.length_nil]; omega)) (by unfold maxLen; first | omega | (simp only [List.length_nil]; omega)) (hO62) (hO62p.rows fB_len) ?_
  intro q65 s65 hO65 hPr65 hN65
  refine Cm gg s65 [Ml 1 0,(2,Sn),(3,vS q65 ((b ++ numsL g.tree.l ++ putN g.tree.root ++ numsL g.vec.l ++ numsL g.leaves.l ++ putN ((stB g.part.x).length : Int)) ++ (stB g.part.x)).length)] [(1,0,cMV g)] fun _ _ => ?_
  have hl65 : (b ++ numsL g.tree.l ++ putN g.tree.root ++ numsL g.vec.l ++ numsL g.leaves.l ++ putN ((stB g.part.x).length : Int) ++ stB g.part.x).length ≤ (b ++ numsL g.tree.l ++ putN g.tree.root ++ numsL g.vec.l ++ numsL g.leaves.l ++ putN ((stB g.part.x).length : Int)).length + (stB g.part.x).length := by rw [List.length_append]; omega
  have hN65' := cat_new hP62' hN62' hN65
  have hP65' := hPr65.pres hP62' hN62'
  refine ⟨_,rfl,?_⟩
  refine ⟨_,Od rfl,?_⟩
  refine ⟨_,rfl,?_⟩
  refine ⟨_,rfl,(ac_spec_PutNum (g.marks.l.length : Int) s65).mono ?_⟩
  rintro _ s70 ⟨q70,rfl,hO70,hN70,hP70⟩
  have hn71 := putN_len (g.marks.l.length : Int)
  refine op_cat' (z := 1) (st := s70) (f := fB) (b := 1) (l := (b ++ numsL g.tree.l ++ putN g.tree.root ++ numsL g.vec.l ++ numsL g.leaves.l ++ putN ((stB g.part.x).length : Int) ++ stB g.part.x)) (l2 := putN (g.marks.l.length : Int)) rfl rfl rfl rfl rfl rfl rfl (by decide) fB_len rfl rfl rfl rfl (by first | omega | (simp only [List.length_nil]; omega)) (by unfold maxLen; first | omega | (simp only [List.length_nil]; omega)) (hP70.ownR hO65) (hO70.rows fB_len) ?_
  intro q71 s71 hO71 hPr71 hN71
  refine cxs ?_
  have hl71 : (b ++ numsL g.tree.l ++ putN g.tree.root ++ numsL g.vec.l ++ numsL g.leaves.l ++ putN ((stB g.part.x).length : Int) ++ stB g.part.x ++ putN (g.marks.l.length : Int)).length ≤ (b ++ numsL g.tree.l ++ putN g.tree.root ++ numsL g.vec.l ++ numsL g.leaves.l ++ putN ((stB g.part.x).length : Int) ++ stB g.part.x).length + (putN (g.marks.l.length : Int)).length := by rw [List.length_append]; omega
  have hN71' := cat_new (hP65'.trans hP70) hN65' hN71
  have hP71' := hPr71.pres (hP65'.trans hP70) hN65'
  have e71 : b ++ numsL g.tree.l ++ putN g.tree.root ++ numsL g.vec.l ++ numsL g.leaves.l ++ putN ((stB g.part.x).length : Int) ++ stB g.part.x ++ putN (g.marks.l.length : Int) = mgH g.x := by rw [hv1]; rfl
  have hO71m : OwnR s71 1 fB q71 (mgH g.x) := e71 ▸ hO71
  refine AW.cutM (gg) s71 [Ml 1 0,(2,Sn),(3,vS q71 (mgH g.x).length),(7,vI 0)] [(1,0,cMV g)] ⟨rfl,rfl,(show vS q71 ((b ++ numsL g.tree.l ++ putN g.tree.root ++ numsL g.vec.l ++ numsL g.leaves.l ++ putN ((stB g.part.x).length : Int) ++ stB g.part.x) ++ (putN (g.marks.l.length : Int))).length = vS q71 (mgH g.x).length by rw [e71]),rfl,trivial⟩ ⟨rfl,trivial⟩ rfl fun _ _ => ?_
  refine AW.loopM (fun z : Nat × Option Addr × List Int => [(1,vL 1 0 (0)),(2,.slice none 0 0),(3,vS z.2.1 z.2.2.length),(7,vI (z.1 : Int))]) (fun z : Nat × Option Addr × List Int => [(1,0,cMV g)]) (fun m (z : Nat × Option Addr × List Int) st' => m = g.marks.l.length - z.1 ∧ z.1 ≤ g.marks.l.length ∧ z.2.2 = mgH g.x ++ flsB (g.marks.l.take z.1) ∧ OwnR st' 1 fB z.2.1 z.2.2 ∧ New st.next z.2.1 ∧ Pres st st') (0,q71,mgH g.x) _ ⟨rfl,rfl,rfl,rfl,trivial⟩ ⟨rfl,trivial⟩ ⟨rfl,Nat.zero_le _,(List.append_nil _).symm,hO71m,hN71',hP71'⟩ ?_
  rintro m ⟨j,r,f⟩ ρ0 ff gg st' ⟨rfl,hj,hw,hOf,hNf,hPf⟩
  simp only at hj hw hOf hNf
  have hfl : f.length ≤ 100000000 + 10 * g.marks.l.length := by rw [hw,List.length_append]; have := fls_len g.marks.l j; have h9 : (mgH g.x).length ≤ 100000000 := hbH; omega
  refine ⟨_,rfl,?_⟩
  refine ⟨_,Od rfl,?_⟩
  iterate 2 refine ⟨_,rfl,?_⟩
  rintro (_|_) h76
  ·replace h76 : ¬ ((j : Int) < (g.marks.l.length : Int)) := of_decide_eq_false h76
   refine Cm gg st' [Ml 1 0,(2,Sn),(3,vS r f.length),(7,vI (j : Int)),(76,vB false)] [(1,0,cMV g)] fun _ _ => ?_
   have hw1 : f = mgB0 g.x := by rw [hw,show j = g.marks.l.length by omega,List.take_length]; rfl
   refine cxs ?_
   refine cxs ?_
   refine ⟨.inl rfl,_,rfl,r,?_⟩
   rw [← hw1]
   exact ⟨rfl,hOf,hNf,hPf⟩
  ·replace h76 : (j : Int) < (g.marks.l.length : Int) := of_decide_eq_true h76
   refine Cm gg st' [Ml 1 0,(2,Sn),(3,vS r f.length),(7,vI (j : Int)),(76,vB true)] [(1,0,cMV g)] fun _ _ => ?_
   refine cxs ?_
   refine ⟨_,rfl,?_⟩
   refine ⟨_,Od rfl,?_⟩
   refine op_at j (hPf.rows hR.marks) (by omega) rfl rfl rfl rfl rfl rfl rfl ?_
   intro x83 b83 d83 k83 hy83 hb83 hm83 hc83 ho83
   refine ⟨_,rfl,?_⟩
   refine ⟨_,op_ldc (i := 0) rfl rfl rfl rfl hm83 hc83 rfl rfl,?_⟩
   have hpa := putN_len x83.id
   refine ⟨_,rfl,(ac_spec_PutNum x83.id st').mono ?_⟩
   rintro _ s86 ⟨q86,rfl,hO86,hN86,hP86⟩
   refine op_cat' (z := 1) (st := s86) (f := fB) (b := 1) (l := f) (l2 := putN x83.id) rfl rfl rfl rfl rfl rfl rfl (by decide) fB_len rfl rfl rfl rfl (by first | omega | (simp only [List.length_nil]; omega)) (by unfold maxLen; first | omega | (simp only [List.length_nil]; omega)) (hP86.ownR hOf) (hO86.rows fB_len) ?_
   intro q87 s87 hO87 hPr87 hN87
   refine Cm gg s87 [Ml 1 0,(2,Sn),(3,vS q87 (f ++ (putN x83.id)).length),(7,vI (j : Int)),(76,vB true)] [(1,0,cMV g)] fun _ _ => ?_
   have hfa : (f ++ putN x83.id).length = f.length + (putN x83.id).length := List.length_append
   have hN87' := cat_new (hPf.trans hP86) hNf hN87
   have hP87' := hPr87.pres (hPf.trans hP86) hNf
   refine ⟨_,rfl,?_⟩
   refine ⟨_,Od rfl,?_⟩
   refine op_el j (hP87'.rows hR.marks) hy83 rfl rfl rfl rfl rfl rfl rfl ?_
   intro b92 d92 k92 hb92 hm92 hc92 ho92
   refine ⟨_,rfl,?_⟩
   refine ⟨_,op_ldc (i := 1) rfl rfl rfl rfl hm92 hc92 rfl rfl,?_⟩
   have hpb := putN_len x83.inc
   refine ⟨_,rfl,(ac_spec_PutNum x83.inc s87).mono ?_⟩
   rintro _ s95 ⟨q95,rfl,hO95,hN95,hP95⟩
   refine op_cat' (z := 1) (st := s95) (f := fB) (b := 1) (l := (f ++ putN x83.id)) (l2 := putN x83.inc) rfl rfl rfl rfl rfl rfl rfl (by decide) fB_len rfl rfl rfl rfl (by first | omega | (simp only [List.length_nil]; omega)) (by unfold maxLen; first | omega | (simp only [List.length_nil]; omega)) (hP95.ownR hO87) (hO95.rows fB_len) ?_
   intro q96 s96 hO96 hPr96 hN96
   refine Cm gg s96 [Ml 1 0,(2,Sn),(3,vS q96 ((f ++ putN x83.id) ++ (putN x83.inc)).length),(7,vI (j : Int)),(76,vB true)] [(1,0,cMV g)] fun _ _ => ?_
   have ew78 : IntKind.wrap .i64 ((j : Int) + (1)) = ((j + 1 : Nat) : Int) := (wrap_i64 (by omega) (by omega)).trans (by omega)
   refine ⟨_,rfl,?_⟩
   exact ⟨(j + 1,q96,f ++ putN x83.id ++ putN x83.inc),g.marks.l.length - (j + 1),by omega,⟨rfl,rfl,rfl,congrArg (Value.int .i64) ew78,trivial⟩,⟨rfl,trivial⟩,rfl,by first | omega | (simp only; omega),by rw [show flsB (g.marks.l.take (j + 1)) = flsB (g.marks.l.take j) ++ flB x83 from fm_succ hy83,← List.append_assoc,← hw,List.append_assoc]; rfl,hO96,cat_new (hP87'.trans hP95) hN87' hN96,hPr96.pres (hP87'.trans hP95) hN87'⟩
 ·replace h23 : (i : Int) < ((mgN g.x).length : Int) := of_decide_eq_true h23
  refine Cm gg st' [Ml 1 0,(2,Sn),(3,vS q b.length),(4,vS q19 (mgN g.x).length),(5,vI (i : Int)),(23,vB true)] [(1,0,cMV g)] fun _ _ => ?_
  refine cxs ?_
  refine op_at i (hO5.rows fI_len) (by omega) rfl rfl rfl rfl rfl rfl rfl ?_
  intro x29 b29 d29 k29 hy29 hb29 hm29 hc29 ho29
  refine ⟨_,op_ldc (i := 0) rfl rfl rfl rfl hm29 hc29 rfl rfl,?_⟩
  have hpn := putN_len x29
  refine ⟨_,rfl,(ac_spec_PutNum x29 st').mono ?_⟩
  rintro _ s31 ⟨q31,rfl,hO31,hN31,hP31⟩
  refine op_cat' (z := 1) (st := s31) (f := fB) (b := 1) (l := b) (l2 := putN x29) rfl rfl rfl rfl rfl rfl rfl (by decide) fB_len rfl rfl rfl rfl (by first | omega | (simp only [List.length_nil]; omega)) (by unfold maxLen; first | omega | (simp only [List.length_nil]; omega)) (hP31.ownR hO) (hO31.rows fB_len) ?_
  intro q32 s32 hO32 hPr32 hN32
  refine Cm gg s32 [Ml 1 0,(2,Sn),(3,vS q32 (b ++ (putN x29)).length),(4,vS q19 (mgN g.x).length),(5,vI (i : Int)),(23,vB true)] [(1,0,cMV g)] fun _ _ => ?_
  have ew25 : IntKind.wrap .i64 ((i : Int) + (1)) = ((i + 1 : Nat) : Int) := (wrap_i64 (by omega) (by omega)).trans (by omega)
  refine ⟨_,rfl,?_⟩
  exact ⟨(i + 1,q32,b ++ putN x29),5 - (i + 1),by omega,⟨rfl,rfl,rfl,rfl,congrArg (Value.int .i64) ew25,trivial⟩,⟨rfl,trivial⟩,rfl,by first | omega | (simp only; omega),by rw [numsB_succ hy29,← List.append_assoc,← hv],hO32,cat_new (hP.trans hP31) hN hN32,hPr32.ownR hd5 (hP31.ownR hO5),cat_dis hd5 (hP31.ownR hO5).old hN32,hPr32.pres (hP.trans hP31) hN⟩
theorem ac_spec_MsgBytes (g : MV) (st : St) (hR : RdM st g) (hb : bigM g.x) : C 58 [.agg #[vI g.kind,vI g.frm,vI g.to,vI g.num,vI g.hi,vS g.tree.p g.tree.l.length,vI g.tree.root,vS g.vec.p g.vec.l.length,vS g.leaves.p g.leaves.l.length,vS g.part.p g.part.x.items.length,vS g.part.q g.part.x.floors.length,vS g.marks.p g.marks.l.length]] st (fun v s => ∃ q,v = vS q (mgBz g.x).length ∧ OwnR s 1 fB q (mgBz g.x) ∧ New st.next q ∧ Pres st s) := by
 refine AC.enterX (i := ⟨[1],[1],[0,1,2,3,6],[]⟩) [] Try.func58 rfl rfl (by kernel_rfl) (by kernel_rfl) Try.ntmps58 (Lb rfl) rfl ?_
 refine ⟨_,rfl,?_⟩
 refine Cm 1 st [Ml 1 0,(2,Sn)] [(1,0,cMV g)] fun _ _ => ?_
 refine ⟨_,op_ldo (v := (vMV g)) rfl rfl rfl rfl,?_⟩
 refine ⟨_,rfl,(ac_spec_MsgOk g st hR hb).mono ?_⟩
 rintro _ st ⟨x5,rfl,h5,rfl⟩
 rcases x5 with _|_
 ·replace h5 := fun k => Bool.false_ne_true (h5.2 k)
  refine ⟨_,rfl,?_⟩
  refine Cm 1 st [Ml 1 0,(2,Sn),(6,vB true)] [(1,0,cMV g)] fun _ _ => ?_
  refine op_nilK (z := 1) (f := fB) rfl rfl rfl rfl (by decide) rfl ?_
  intro q7 s7 hO7 hP7 hN7
  refine cxs ?_
  refine ⟨.inl rfl,_,rfl,q7,?_⟩
  rw [show mgBz g.x = [] from if_neg h5]
  exact ⟨rfl,hO7,hN7,hP7⟩
 ·replace h5 := h5.1 rfl
  refine ⟨_,rfl,?_⟩
  refine Cm 1 st [Ml 1 0,(2,Sn),(6,vB false)] [(1,0,cMV g)] fun _ _ => ?_
  refine cxs ?_
  refine ⟨_,op_ldo (v := (vMV g)) rfl rfl rfl rfl,?_⟩
  refine ⟨_,rfl,(ac_spec_l10Body g st hR hb (show stateOk g.part.x from h5.2.2.2.2.2.1)).mono ?_⟩
  rintro _ s9 ⟨q9,rfl,hO9,hN9,hP9⟩
  refine Cm 1 s9 [(2,Sn),(3,vS q9 (mgB0 g.x).length)] [] fun _ _ => ?_
  have hbl := mgB0_len hb (show stateOk g.x.part from h5.2.2.2.2.2.1)
  refine ⟨_,rfl,(ac_spec_l10Sum q9 (mgB0 g.x) s9 (hO9.rows fB_len) (mgB0_ok _) (by omega)).mono ?_⟩
  rintro _ s12 ⟨q12,rfl,hO12,hN12,hP12⟩
  have h4 : (crcB (mgB0 g.x)).length = 4 := rfl
  refine op_cat' (z := 1) (st := s12) (f := fB) (b := 1) (l := (mgB0 g.x)) (l2 := crcB (mgB0 g.x)) rfl rfl rfl rfl rfl rfl rfl (by decide) fB_len rfl rfl rfl rfl (by first | omega | (simp only [List.length_nil]; omega)) (by unfold maxLen; first | omega | (simp only [List.length_nil]; omega)) (hP12.ownR hO9) (hO12.rows fB_len) ?_
  intro q13 s13 hO13 hPr13 hN13
  refine cxs ?_
  refine ⟨.inl rfl,_,rfl,q13,?_⟩
  rw [show mgBz g.x = mgB g.x from if_pos h5]
  exact ⟨rfl,hO13,cat_new (hP9.trans hP12) hN9 hN13,hPr13.pres (hP9.trans hP12) hN9⟩
theorem ac_impl_MsgBytes (g : MV) (st : St) (hR : RdM st g) (hb : bigM g.x) : C 53 [.agg #[vI g.kind,vI g.frm,vI g.to,vI g.num,vI g.hi,vS g.tree.p g.tree.l.length,vI g.tree.root,vS g.vec.p g.vec.l.length,vS g.leaves.p g.leaves.l.length,vS g.part.p g.part.x.items.length,vS g.part.q g.part.x.floors.length,vS g.marks.p g.marks.l.length]] st (fun v s => ∃ q,v = vS q (mgBz g.x).length ∧ OwnR s 1 fB q (mgBz g.x) ∧ New st.next q ∧ Pres st s) := by
 refine AC.enterX (i := ⟨[1,6],[1,6,10,15,18,21,24,27,30,31,34,35,38,41,48,54,62,65],[0,1,2,3,4,6,9,55,56,57,58],[(4,[2,3,4,5,6,7,8,9,10,11,12,13,14,15,16,17,18,19,20,21,22,23,24,25,26,27,28,29,30,31,32,33,34,35,36,37,38,0,1,39,40,41])]⟩) [(2004,[],[1]),(4,[2,5,8,11,14,18,22,25,28,31,37],[1,4,7,10,13,17,21,24,27,34]),(8,[3],[5])] Try.func53 rfl rfl (by kernel_rfl) (by kernel_rfl) Try.ntmps53 (Lb rfl) rfl ?_
 refine ⟨_,rfl,?_⟩
 refine Cm 1 st [Ml 1 0,(2,Sn)] [(1,0,cMV g)] fun _ _ => ?_
 refine ⟨_,op_ldo (v := (vMV g)) rfl rfl rfl rfl,?_⟩
 refine ⟨_,rfl,(ac_impl_MsgOk g st hR hb).mono ?_⟩
 rintro _ st ⟨x8,rfl,h8,rfl⟩
 rcases x8 with _|_
 ·replace h8 := fun k => Bool.false_ne_true (h8.2 k)
  refine ⟨_,rfl,?_⟩
  refine Cm 1 st [Ml 1 0,(2,Sn),(9,vB true)] [(1,0,cMV g)] fun _ _ => ?_
  refine cxs ?_
  refine ⟨.inl rfl,_,rfl,none,?_⟩
  rw [show mgBz g.x = [] from if_neg h8]
  exact ⟨rfl,OwnR.nil,New.none,Pres.refl _⟩
 ·replace h8 := h8.1 rfl
  refine ⟨_,rfl,?_⟩
  refine Cm 1 st [Ml 1 0,(2,Sn),(9,vB false)] [(1,0,cMV g)] fun _ _ => ?_
  refine cxs ?_
  refine ⟨_,rfl,?_⟩
  refine ⟨_,Od rfl,?_⟩
  refine ⟨_,rfl,(ac_impl_StateBytes g.part st hR.part hb.part (show stateOk g.part.x from h8.2.2.2.2.2.1)).mono ?_⟩
  rintro _ s12 ⟨q12,rfl,hO12,hN12,hP12⟩
  refine Cm 1 s12 [Ml 1 0,(2,Sn),(3,vS q12 (stB g.part.x).length)] [(1,0,cMV g)] fun _ _ => ?_
  have hbH := mgH_len hb (show stateOk g.x.part from h8.2.2.2.2.2.1)
  refine ⟨fun _ => False,?_⟩
  refine ⟨_,rfl,?_⟩
  refine ⟨_,Od rfl,?_⟩
  refine ⟨ld_own rfl rfl rfl,?_⟩
  refine ⟨_,rfl,(ac_impl_PutNum g.kind s12).mono ?_⟩
  rintro _ s17 ⟨q17,rfl,hO17,hN17,hP17⟩
  refine ⟨fun _ h => h.elim,?_⟩
  refine ⟨_,rfl,?_⟩
  refine ⟨_,Od rfl,?_⟩
  refine ⟨ld_own rfl rfl rfl,?_⟩
  refine ⟨_,rfl,(ac_impl_PutNum g.frm s17).mono ?_⟩
  rintro _ s20 ⟨q20,rfl,hO20,hN20,hP20⟩
  refine ⟨fun _ h => h.elim,?_⟩
  refine ⟨_,rfl,?_⟩
  refine ⟨_,Od rfl,?_⟩
  refine ⟨ld_own rfl rfl rfl,?_⟩
  refine ⟨_,rfl,(ac_impl_PutNum g.to s20).mono ?_⟩
  rintro _ s23 ⟨q23,rfl,hO23,hN23,hP23⟩
  refine ⟨fun _ h => h.elim,?_⟩
  refine ⟨_,rfl,?_⟩
  refine ⟨_,Od rfl,?_⟩
  refine ⟨ld_own rfl rfl rfl,?_⟩
  refine ⟨_,rfl,(ac_impl_PutNum g.num s23).mono ?_⟩
  rintro _ s26 ⟨q26,rfl,hO26,hN26,hP26⟩
  refine ⟨fun _ h => h.elim,?_⟩
  refine ⟨_,rfl,?_⟩
  refine ⟨_,Od rfl,?_⟩
  refine ⟨ld_own rfl rfl rfl,?_⟩
  refine ⟨_,rfl,(ac_impl_PutNum g.hi s26).mono ?_⟩
  rintro _ s29 ⟨q29,rfl,hO29,hN29,hP29⟩
  refine ⟨fun _ h => h.elim,?_⟩
  iterate 2 refine ⟨_,rfl,?_⟩
  refine ⟨_,Od rfl,?_⟩
  refine ⟨ld_own rfl rfl rfl,?_⟩
  refine owE_cut [(1,vL 1 0 (0)),(2,.slice none 0 0),(3,vS q12 (stB g.part.x).length),(17,vS q17 (putN g.kind).length),(20,vS q20 (putN g.frm).length),(23,vS q23 (putN g.to).length),(26,vS q26 (putN g.num).length),(29,vS q29 (putN g.hi).length),(32,vS g.tree.p g.tree.l.length)] ⟨rfl,rfl,rfl,rfl,rfl,rfl,rfl,rfl,rfl,trivial⟩ fun _ => ?_
  refine ⟨_,rfl,(ac_impl_putNums g.tree.p g.tree.l s29 ((((((hP12.trans hP17).trans hP20).trans hP23).trans hP26).trans hP29).rows hR.tree) (hb.tree)).mono ?_⟩
  rintro _ s33 ⟨q33,rfl,hO33,hN33,hP33⟩
  refine ⟨fun _ h => h.elim,?_⟩
  iterate 2 refine ⟨_,rfl,?_⟩
  refine ⟨_,Od rfl,?_⟩
  refine ⟨ld_own rfl rfl rfl,?_⟩
  refine ⟨_,rfl,(ac_impl_PutNum g.tree.root s33).mono ?_⟩
  rintro _ s37 ⟨q37,rfl,hO37,hN37,hP37⟩
  refine ⟨fun _ h => h.elim,?_⟩
  refine ⟨_,rfl,?_⟩
  refine ⟨_,Od rfl,?_⟩
  refine ⟨ld_own rfl rfl rfl,?_⟩
  refine ⟨_,rfl,(ac_impl_putNums g.vec.p g.vec.l s37 ((((((((hP12.trans hP17).trans hP20).trans hP23).trans hP26).trans hP29).trans hP33).trans hP37).rows hR.vec) (hb.vec)).mono ?_⟩
  rintro _ s40 ⟨q40,rfl,hO40,hN40,hP40⟩
  refine ⟨fun _ h => h.elim,?_⟩
  refine ⟨_,rfl,?_⟩
  refine ⟨_,Od rfl,?_⟩
  refine ⟨ld_own rfl rfl rfl,?_⟩
  refine ⟨_,rfl,(ac_impl_putNums g.leaves.p g.leaves.l s40 (((((((((hP12.trans hP17).trans hP20).trans hP23).trans hP26).trans hP29).trans hP33).trans hP37).trans hP40).rows hR.leaves) (hb.leaves)).mono ?_⟩
  rintro _ s43 ⟨q43,rfl,hO43,hN43,hP43⟩
  refine ⟨fun _ h => h.elim,?_⟩
  refine ⟨_,rfl,?_⟩
  refine ⟨_,rfl,(ac_impl_PutNum ((stB g.part.x).length : Int) s43).mono ?_⟩
  rintro _ s46 ⟨q46,rfl,hO46,hN46,hP46⟩
  refine ⟨fun _ h => h.elim,?_⟩
  refine ⟨_,rfl,?_⟩
  refine ⟨_,Od rfl,?_⟩
  refine ⟨ld_own rfl rfl rfl,?_⟩
  refine ⟨_,rfl,?_⟩
  refine ⟨_,rfl,(ac_impl_PutNum (g.marks.l.length : Int) s46).mono ?_⟩
  rintro _ s51 ⟨q51,rfl,hO51,hN51,hP51⟩
  refine op_litI (k := .u8) (l := [82,75]) rfl rfl rfl rfl rfl rfl (by decide) ?_
  intro q13 s13 hO13 hP13 hN13
  refine ⟨fun _ h => h.elim,?_⟩
  refine ⟨_,op_fz (l := [82,75]) rfl rfl hO13 (by decide) rfl rfl,?_⟩
  have g51 := hP13
  have g46 := hP51.trans g51
  have g43 := hP46.trans g46
  have g40 := hP43.trans g43
  have g37 := hP40.trans g40
  have g33 := hP37.trans g37
  have g29 := hP33.trans g33
  have g26 := hP29.trans g29
  have g23 := hP26.trans g26
  have g20 := hP23.trans g23
  have g17 := hP20.trans g20
  have g12 := hP17.trans g17
  have hfl : fl [⟨q13,[82,75]⟩,⟨q17,putN g.kind⟩,⟨q20,putN g.frm⟩,⟨q23,putN g.to⟩,⟨q26,putN g.num⟩,⟨q29,putN g.hi⟩,⟨q33,numsL g.tree.l⟩,⟨q37,putN g.tree.root⟩,⟨q40,numsL g.vec.l⟩,⟨q43,numsL g.leaves.l⟩,⟨q46,putN ((stB g.part.x).length : Int)⟩,⟨q12,stB g.part.x⟩,⟨q51,putN (g.marks.l.length : Int)⟩] = mgH g.x := by simp [fl,mgH,numsB,mgN]
  refine op_litR [⟨q13,[82,75]⟩,⟨q17,putN g.kind⟩,⟨q20,putN g.frm⟩,⟨q23,putN g.to⟩,⟨q26,putN g.num⟩,⟨q29,putN g.hi⟩,⟨q33,numsL g.tree.l⟩,⟨q37,putN g.tree.root⟩,⟨q40,numsL g.vec.l⟩,⟨q43,numsL g.leaves.l⟩,⟨q46,putN ((stB g.part.x).length : Int)⟩,⟨q12,stB g.part.x⟩,⟨q51,putN (g.marks.l.length : Int)⟩] rfl rfl rfl (by decide) rfl rfl rfl (by decide) ?_
  intro q52 s52 hO52 hP52 hN52
  refine ⟨_,rfl,(ac_impl_joined q52 [⟨q13,[82,75]⟩,⟨q17,putN g.kind⟩,⟨q20,putN g.frm⟩,⟨q23,putN g.to⟩,⟨q26,putN g.num⟩,⟨q29,putN g.hi⟩,⟨q33,numsL g.tree.l⟩,⟨q37,putN g.tree.root⟩,⟨q40,numsL g.vec.l⟩,⟨q43,numsL g.leaves.l⟩,⟨q46,putN ((stB g.part.x).length : Int)⟩,⟨q12,stB g.part.x⟩,⟨q51,putN (g.marks.l.length : Int)⟩] s52 (hO52.rows cRV_len) (fun r hr => by
  simp only [List.mem_cons,List.not_mem_nil,or_false] at hr
  rcases hr with rfl | rfl | rfl | rfl | rfl | rfl | rfl | rfl | rfl | rfl | rfl | rfl | rfl
  ·exact hP52.rows (hO13.rows fB_len)
  ·exact (g17.trans hP52).rows (hO17.rows fB_len)
  ·exact (g20.trans hP52).rows (hO20.rows fB_len)
  ·exact (g23.trans hP52).rows (hO23.rows fB_len)
  ·exact (g26.trans hP52).rows (hO26.rows fB_len)
  ·exact (g29.trans hP52).rows (hO29.rows fB_len)
  ·exact (g33.trans hP52).rows (hO33.rows fB_len)
  ·exact (g37.trans hP52).rows (hO37.rows fB_len)
  ·exact (g40.trans hP52).rows (hO40.rows fB_len)
  ·exact (g43.trans hP52).rows (hO43.rows fB_len)
  ·exact (g46.trans hP52).rows (hO46.rows fB_len)
  ·exact (g12.trans hP52).rows (hO12.rows fB_len)
  ·exact (g51.trans hP52).rows (hO51.rows fB_len)
  ) (by show (13 : Nat) ≤ 1048576; omega) (by rw [hfl]; omega)).mono ?_⟩
  rintro _ s53 ⟨q53,rfl,hO53,hN53,hP53⟩
  refine AW.cutM (1) s53 [Ml 1 0,(2,Sn),(4,vS q53 (mgH g.x).length)] [(1,0,cMV g)] ⟨rfl,rfl,congrArg (fun l : List Int => vS q53 l.length) hfl,trivial⟩ ⟨rfl,trivial⟩ rfl fun _ _ => ?_
  have hO53 : OwnR s53 1 fB q53 (mgH g.x) := hfl ▸ hO53
  have hP53a := ((hP12.trans g12).trans hP52)
  have hN53' := hN53.le hP53a.1
  have hP53' := hP53a.trans hP53
  refine ⟨_,rfl,?_⟩
  refine ⟨_,Od rfl,?_⟩
  refine ⟨_,rfl,?_⟩
  refine Cm 1 s53 [(2,Sn),(4,vS q53 (mgH g.x).length),(55,vS g.marks.p g.marks.l.length),(56,vI (g.marks.l.length : Int)),(57,vI 0)] [] fun _ _ => ?_
  refine AW.loopM (fun z : Nat × Option Addr × List Int => [(2,.slice none 0 0),(4,vS z.2.1 z.2.2.length),(55,vS g.marks.p g.marks.l.length),(56,vI (g.marks.l.length : Int)),(57,vI (z.1 : Int))]) (fun z : Nat × Option Addr × List Int => []) (fun m (z : Nat × Option Addr × List Int) st' => m = g.marks.l.length - z.1 ∧ z.1 ≤ g.marks.l.length ∧ z.2.2 = mgH g.x ++ flsB (g.marks.l.take z.1) ∧ OwnR st' 1 fB z.2.1 z.2.2 ∧ New st.next z.2.1 ∧ Pres st st') (0,q53,mgH g.x) _ ⟨rfl,rfl,rfl,rfl,rfl,trivial⟩ trivial ⟨rfl,Nat.zero_le _,(List.append_nil _).symm,hO53,hN53',hP53'⟩ ?_
  rintro m ⟨j,r,f⟩ ρ0 ff gg st' ⟨rfl,hj,hw,hOf,hNf,hPf⟩
  simp only at hj hw hOf hNf
  have hb6 : g.marks.l.length ≤ 1048576 := hb.marks
  have hfl2 : f.length ≤ 100000000 + 10 * g.marks.l.length := by rw [hw,List.length_append]; have := fls_len g.marks.l j; omega
  refine ⟨_,rfl,?_⟩
  rintro (_|_) h58
  ·replace h58 : ¬ ((j : Int) < (g.marks.l.length : Int)) := of_decide_eq_false h58
   refine Cm gg st' [(2,Sn),(4,vS r f.length),(55,vS g.marks.p g.marks.l.length),(56,vI (g.marks.l.length : Int)),(57,vI (j : Int)),(58,vB false)] [] fun _ _ => ?_
   have hw1 : f = mgB0 g.x := by rw [hw,show j = g.marks.l.length by omega,List.take_length]; rfl
   have hO1 : OwnR st' 1 fB r (mgB0 g.x) := hw1 ▸ hOf
   have hbl := mgB0_len hb (show stateOk g.x.part from h8.2.2.2.2.2.1)
   have h4 : (crcB (mgB0 g.x)).length = 4 := rfl
   subst hw1
   refine cxs ?_
   refine ⟨_,rfl,(ac_impl_crcBytes r (mgB0 g.x) st' (hO1.rows fB_len) (mgB0_ok _) (by omega)).mono ?_⟩
   rintro _ s73 ⟨q73,rfl,hO73,hN73,hP73⟩
   have hfz : fl [⟨r,mgB0 g.x⟩,⟨q73,crcB (mgB0 g.x)⟩] = mgB g.x := by simp [fl,mgB]
   have hbz := mgB_len hb (show stateOk g.x.part from h8.2.2.2.2.2.1)
   refine op_litR [⟨r,mgB0 g.x⟩,⟨q73,crcB (mgB0 g.x)⟩] rfl rfl rfl (by decide) rfl rfl rfl (by decide) ?_
   intro q74 s74 hO74 hP74 hN74
   refine ⟨_,rfl,(ac_impl_joined q74 [⟨r,mgB0 g.x⟩,⟨q73,crcB (mgB0 g.x)⟩] s74 (hO74.rows cRV_len) (fun r hr => by
  simp only [List.mem_cons,List.not_mem_nil,or_false] at hr
  rcases hr with rfl | rfl
  ·exact (hP73.trans hP74).rows (hO1.rows fB_len)
  ·exact hP74.rows (hO73.rows fB_len)) (by show (2 : Nat) ≤ 1048576; omega) (by rw [hfz]; omega)).mono ?_⟩
   rintro _ s75 ⟨q75,rfl,hO75,hN75,hP75⟩
   refine cxs ?_
   refine ⟨.inl rfl,_,rfl,q75,?_⟩
   rw [show mgBz g.x = mgB g.x from if_pos h8,← hfz]
   exact ⟨rfl,hO75,hN75.le ((hPf.trans hP73).trans hP74).1,((hPf.trans hP73).trans hP74).trans hP75⟩
  ·replace h58 : (j : Int) < (g.marks.l.length : Int) := of_decide_eq_true h58
   refine Cm gg st' [(2,Sn),(4,vS r f.length),(55,vS g.marks.p g.marks.l.length),(56,vI (g.marks.l.length : Int)),(57,vI (j : Int)),(58,vB true)] [] fun _ _ => ?_
   refine cxs ?_
   refine op_at j (hPf.rows hR.marks) (by omega) rfl rfl rfl rfl rfl rfl rfl ?_
   intro x59 b59 d59 k59 hy59 hb59 hm59 hc59 ho59
   refine ⟨_,op_lda rfl rfl rfl rfl rfl hm59 hc59 rfl,?_⟩
   refine ⟨_,rfl,?_⟩
   refine ⟨_,Os rfl,?_⟩
   refine Cm (gg + 1) st' [(2,Sn),(4,vS r f.length),Ml 6 gg,(55,vS g.marks.p g.marks.l.length),(56,vI (g.marks.l.length : Int)),(57,vI (j : Int)),(58,vB true)] [(6,gg,[vI x59.id,vI x59.inc])] fun _ _ => ?_
   refine ⟨_,rfl,?_⟩
   refine ⟨_,Od rfl,?_⟩
   refine ⟨_,rfl,(ac_impl_PutNum x59.id st').mono ?_⟩
   rintro _ s64 ⟨q64,rfl,hO64,hN64,hP64⟩
   refine ⟨hP64.2,?_⟩
   refine ⟨_,rfl,?_⟩
   refine ⟨_,Od rfl,?_⟩
   refine ⟨ld_own rfl rfl rfl,?_⟩
   refine ⟨_,rfl,(ac_impl_PutNum x59.inc s64).mono ?_⟩
   rintro _ s67 ⟨q67,rfl,hO67,hN67,hP67⟩
   have hpa := putN_len x59.id
   have hpb := putN_len x59.inc
   have g64 := hP64.trans hP67
   have hfn : fl [⟨r,f⟩,⟨q64,putN x59.id⟩,⟨q67,putN x59.inc⟩] = f ++ flB x59 := by simp [fl,flB]
   have hil := flB_len x59
   refine op_litR [⟨r,f⟩,⟨q64,putN x59.id⟩,⟨q67,putN x59.inc⟩] rfl rfl rfl (by decide) rfl rfl rfl (by decide) ?_
   intro q68 s68 hO68 hP68 hN68
   refine ⟨_,rfl,(ac_impl_joined q68 [⟨r,f⟩,⟨q64,putN x59.id⟩,⟨q67,putN x59.inc⟩] s68 (hO68.rows cRV_len) (fun r hr => by
  simp only [List.mem_cons,List.not_mem_nil,or_false] at hr
  rcases hr with rfl | rfl | rfl
  ·exact (g64.trans hP68).rows (hOf.rows fB_len)
  ·exact (hP67.trans hP68).rows (hO64.rows fB_len)
  ·exact hP68.rows (hO67.rows fB_len)) (by show (3 : Nat) ≤ 1048576; omega) (by rw [hfn,List.length_append]; omega)).mono ?_⟩
   rintro _ s69 ⟨q69,rfl,hO69,hN69,hP69⟩
   refine Cm (gg + 1) s69 [(2,Sn),(4,vS q69 (fl [⟨r,f⟩,⟨q64,putN x59.id⟩,⟨q67,putN x59.inc⟩]).length),Ml 6 gg,(55,vS g.marks.p g.marks.l.length),(56,vI (g.marks.l.length : Int)),(57,vI (j : Int)),(58,vB true)] [(6,gg,[vI x59.id,vI x59.inc])] fun _ _ => ?_
   have ew70 : IntKind.wrap .i64 ((j : Int) + (1)) = ((j + 1 : Nat) : Int) := (wrap_i64 (by omega) (by omega)).trans (by omega)
   refine ⟨_,rfl,?_⟩
   exact ⟨(j + 1,q69,fl [⟨r,f⟩,⟨q64,putN x59.id⟩,⟨q67,putN x59.inc⟩]),g.marks.l.length - (j + 1),by omega,⟨rfl,rfl,rfl,rfl,congrArg (Value.int .i64) ew70,trivial⟩,trivial,rfl,by first | omega | (simp only; omega),by rw [show flsB (g.marks.l.take (j + 1)) = flsB (g.marks.l.take j) ++ flB x59 from fm_succ hy59,← List.append_assoc,← hw]; exact hfn,hO69,hN69.le ((hPf.trans g64).trans hP68).1,((hPf.trans g64).trans hP68).trans hP69⟩
structure BV where
 p : Option Addr
 l : List Int
 ok : bytesOk l
abbrev pcBs (g : BV) : List Pc := [pcR 1 fB g.p g.l]
theorem OwnP.rdBs {st : St} {g : BV} (h : OwnP st (pcBs g)) : Rows st 1 fB g.p g.l := (own_one Nat.one_pos fB_len h).rows fB_len
abbrev cntBs (l : List Int) : Nat := l.length
def mkB (n : Nat) (k : Int) : List Int := (List.range n).map fun (j : Nat) => IntKind.wrap .u8 (k + (j : Int))
theorem wrap8 (x : Int) : 0 ≤ IntKind.wrap .u8 x ∧ IntKind.wrap .u8 x < 256 := by
 simp only [IntKind.wrap]
 exact ⟨Int.emod_nonneg _ (by decide),Int.emod_lt_of_pos _ (by decide)⟩
theorem mkB_ok (n : Nat) (k : Int) : bytesOk (mkB n k) := fun x hx => by
 obtain ⟨j,_,rfl⟩ := List.mem_map.1 hx
 exact wrap8 _
theorem mkB_len (n : Nat) (k : Int) : (mkB n k).length = n := by simp [mkB]
def mkBs (g : BV) (k : Int) : BV := ⟨g.p,mkB g.l.length k,mkB_ok _ _⟩
theorem mkp_Bs (g : BV) (k : Int) : (pcBs (mkBs g k)).map (·.p) = (pcBs g).map (·.p) := rfl
theorem markB_set {l : List Int} {k : Int} {i : Nat} (hi : i < l.length) : (mkB i k ++ l.drop i).set i (IntKind.wrap .u8 (k + (i : Int))) = mkB (i + 1) k ++ l.drop (i + 1) := by
 rw [List.set_append_right _ _ (by rw [mkB_len]; exact Nat.le_refl _),mkB_len,Nat.sub_self,List.drop_eq_getElem_cons hi,List.set_cons_zero,mkB,mkB,List.range_succ,List.map_append,List.append_assoc]
 rfl
theorem uc_toByteS (g : BV) (st : St) (hR : Rows st 1 fB g.p g.l) (hb : szOk g.l.length) : C 39 [vS g.p g.l.length] st (fun v s => ∃ u : BV,v = vS u.p u.l.length ∧ u.l = g.l ∧ OwnP s (pcBs u) ∧ NewP st.next (pcBs u) ∧ Pres st s) := by
 have hs : g.l.length ≤ 1048576 := hb
 refine AC.enterX (i := ⟨[],[],[0,2,3,4,11],[]⟩) [] Try.func39 rfl rfl (by kernel_rfl) (by kernel_rfl) Try.ntmps39 (Lb rfl) rfl ?_
 refine Cu lo0 st [(0,vS g.p g.l.length),(2,Sn)] fun _ => ?_
 refine ⟨_,rfl,?_⟩
 refine op_mkK (z := 1) (f := fB) (a := (0 : Int)) (b := 1) (i := g.l.length) rfl rfl rfl rfl rfl rfl rfl rfl rfl Nat.one_pos rfl rfl (by omega) (by omega) ?_
 intro q s1 hO1 hP1 hN1
 refine cxs ?_
 refine Cu lo0 s1 [(0,vS g.p g.l.length),(2,Sn),(3,vS q g.l.length),(4,vI 0)] fun _ => ?_
 refine AW.loop0 (fun x : Nat × List Int => [(0,vS g.p g.l.length),(2,.slice none 0 0),(3,vS q g.l.length),(4,vI (x.1 : Int))]) (fun m (x : Nat × List Int) st' => m = g.l.length - x.1 ∧ x.1 ≤ g.l.length ∧ x.2 = g.l.take x.1 ++ List.replicate (g.l.length - x.1) 0 ∧ OwnR st' 1 fB q x.2 ∧ Pr q s1 st') (0,List.replicate g.l.length 0) _ ⟨rfl,rfl,rfl,rfl,trivial⟩ rfl ⟨rfl,Nat.zero_le _,rfl,hO1,Pr.refl _ _⟩ ?_
 rintro m ⟨i,L⟩ ρ0 st' ⟨rfl,hi,hL,hO,hP⟩
 simp only at hi hL hO
 have hRs : Rows st' 1 fB g.p g.l := (hP.pres hP1 hN1).rows hR
 iterate 2 refine ⟨_,rfl,?_⟩
 rintro (_|_) h11
 ·replace h11 : ¬ ((i : Int) < (g.l.length : Int)) := of_decide_eq_false h11
  refine Cu lo0 st' [(0,vS g.p g.l.length),(2,Sn),(3,vS q g.l.length),(4,vI (i : Int)),(11,vB false)] fun _ => ?_
  refine cxs ?_
  refine cxs ?_
  have hfull : L = g.l := by rw [hL,show i = g.l.length by omega,List.take_length,Nat.sub_self]; exact List.append_nil _
  rw [hfull] at hO
  exact Rt ⟨⟨q,g.l,g.ok⟩,rfl,rfl,OwnP.one (own_pc hO),NewP.cons hN1 NewP.nil,hP.pres hP1 hN1⟩
 ·replace h11 : (i : Int) < (g.l.length : Int) := of_decide_eq_true h11
  refine Cu lo0 st' [(0,vS g.p g.l.length),(2,Sn),(3,vS q g.l.length),(4,vI (i : Int)),(11,vB true)] fun _ => ?_
  refine cxs ?_
  have hlen : L.length = g.l.length := by rw [hL,List.length_append,List.length_take,List.length_replicate]; omega
  refine op_at i hRs (by omega) rfl rfl rfl rfl rfl rfl rfl ?_
  intro x18 b18 d18 k18 hy18 hb18 hm18 hc18 ho18
  refine ⟨_,op_ldc (i := 0) rfl rfl rfl rfl hm18 hc18 rfl rfl,?_⟩
  obtain ⟨a,ha⟩ := hO.some (by omega)
  refine ⟨_,op_idx (j := (i : Int)) (n := g.l.length) (q := ⟨a,0,none⟩) rfl (congrArg (fun v => vS v g.l.length) ha) rfl rfl rfl (Int.natCast_nonneg _) h11,?_⟩
  refine op_put (st := st') (f := fB) (j := i) (l := L) (y := x18) (p := q) (d := 0 + i * 1) rfl rfl (Nat.zero_add _) rfl rfl fB_len rfl rfl (by omega) hO ha ?_
  intro s20 hO20 hP20 hn20
  refine Cu lo0 s20 [(0,vS g.p g.l.length),(2,Sn),(3,vS q g.l.length),(4,vI (i : Int)),(11,vB true)] fun _ => ?_
  have ew13 : IntKind.wrap .i64 ((i : Int) + (1)) = ((i + 1 : Nat) : Int) := (wrap_i64 (by omega) (by omega)).trans (by omega)
  refine ⟨_,rfl,?_⟩
  exact ⟨(i + 1,L.set i x18),g.l.length - (i + 1),by omega,⟨rfl,rfl,rfl,congrArg (Value.int .i64) ew13,trivial⟩,rfl,rfl,by simp only; omega,by simp only; rw [hL]; exact fill_set hy18,hO20,hP.trans hP20⟩
theorem uc_eqByteS (a b : BV) (st : St) (hA : Rows st 1 fB a.p a.l) (hB : Rows st 1 fB b.p b.l) (hb : szOk a.l.length) : C 42 [vS a.p a.l.length,vS b.p b.l.length] st (fun v s => ∃ x,v = .bool x ∧ (x = true ↔ a.l = b.l) ∧ s = st) := by
 have hs : a.l.length ≤ 1048576 := hb
 refine AC.enterX (i := ⟨[],[],[0,1,4,5,10,14,25],[]⟩) [(6,[],[])] Try.func42 rfl rfl (by kernel_rfl) (by kernel_rfl) Try.ntmps42 (Lb rfl) rfl ?_
 refine Cu lo0 st [(0,vS a.p a.l.length),(1,vS b.p b.l.length),(4,vB false)] fun _ => ?_
 iterate 3 refine ⟨_,rfl,?_⟩
 rintro (_|_) h10
 ·replace h10 : (a.l.length : Int) = (b.l.length : Int) := bne_eq_false_iff_eq.1 h10
  refine Cu lo0 st [(0,vS a.p a.l.length),(1,vS b.p b.l.length),(4,vB false),(10,vB false)] fun _ => ?_
  refine cxs ?_
  refine Cu lo0 st [(0,vS a.p a.l.length),(1,vS b.p b.l.length),(4,vB false),(5,vI 0)] fun _ => ?_
  refine AW.loop0 (fun i : Nat => [(0,vS a.p a.l.length),(1,vS b.p b.l.length),(5,vI (i : Int))]) (fun m (i : Nat) st' => m = a.l.length - i ∧ i ≤ a.l.length ∧ (∀ (j : Nat) x y,j < i → a.l[j]? = some x → b.l[j]? = some y → x = y) ∧ st = st') 0 _ ⟨rfl,rfl,rfl,trivial⟩ rfl ⟨rfl,Nat.zero_le _,fun j x y h => absurd h (Nat.not_lt_zero _),rfl⟩ ?_
  rintro m i ρ0 st' ⟨rfl,hi,heq,rfl⟩
  iterate 2 refine ⟨_,rfl,?_⟩
  rintro (_|_) h14
  ·replace h14 : ¬ ((i : Int) < (a.l.length : Int)) := of_decide_eq_false h14
   refine Cu lo0 st [(0,vS a.p a.l.length),(1,vS b.p b.l.length),(5,vI (i : Int)),(14,vB false)] fun _ => ?_
   refine cxs ?_
   exact cxs (Rt ⟨true,rfl,⟨fun _ => iff_lists (by omega) (fun j u v hj hu hv => heq j u v (by omega) hu hv),fun _ => rfl⟩,rfl⟩)
  ·replace h14 : (i : Int) < (a.l.length : Int) := of_decide_eq_true h14
   refine Cu lo0 st [(0,vS a.p a.l.length),(1,vS b.p b.l.length),(5,vI (i : Int)),(14,vB true)] fun _ => ?_
   refine cxs ?_
   refine op_at i hA (by omega) rfl rfl rfl rfl rfl rfl rfl ?_
   intro x19 b19 d19 k19 hy19 hb19 hm19 hc19 ho19
   refine ⟨_,op_ldc (i := 0) rfl rfl rfl rfl hm19 hc19 rfl rfl,?_⟩
   refine op_at i hB (by omega) rfl rfl rfl rfl rfl rfl rfl ?_
   intro x23 b23 d23 k23 hy23 hb23 hm23 hc23 ho23
   refine ⟨_,op_ldc (i := 0) rfl rfl rfl rfl hm23 hc23 rfl rfl,?_⟩
   refine ⟨_,rfl,?_⟩
   rintro (_|_) h25
   ·replace h25 : x19 = x23 := bne_eq_false_iff_eq.1 h25
    refine Cu lo0 st [(0,vS a.p a.l.length),(1,vS b.p b.l.length),(5,vI (i : Int)),(14,vB true),(25,vB false)] fun _ => ?_
    refine cxs ?_
    have ew16 : IntKind.wrap .i64 ((i : Int) + (1)) = ((i + 1 : Nat) : Int) := (wrap_i64 (by omega) (by omega)).trans (by omega)
    refine ⟨_,rfl,?_⟩
    refine ⟨i + 1,a.l.length - (i + 1),by omega,⟨rfl,rfl,congrArg (Value.int .i64) ew16,trivial⟩,rfl,rfl,by omega,fun j u v hj hu hv => ?_,rfl⟩
    rcases Nat.lt_or_ge j i with h | h
    ·exact heq j u v h hu hv
    ·obtain rfl : j = i := by omega
     rw [hy19] at hu
     rw [hy23] at hv
     injection hu with hu
     injection hv with hv
     rw [← hu,← hv]; exact h25
   ·replace h25 : ¬ (x19 = x23) := bne_iff_ne.1 h25
    refine Cu lo0 st [(0,vS a.p a.l.length),(1,vS b.p b.l.length),(5,vI (i : Int)),(14,vB true),(25,vB true)] fun _ => ?_
    exact cxs (Rt ⟨false,rfl,⟨fun h => absurd h Bool.false_ne_true,fun h => (show False from (h25 (by rw [h] at hy19; rw [hy19] at hy23; injection hy23))).elim⟩,rfl⟩)
 ·replace h10 : ¬ ((a.l.length : Int) = (b.l.length : Int)) := bne_iff_ne.1 h10
  refine Cu lo0 st [(0,vS a.p a.l.length),(1,vS b.p b.l.length),(4,vB false),(10,vB true)] fun _ => ?_
  exact cxs (Rt ⟨false,rfl,⟨fun h => absurd h Bool.false_ne_true,fun h => (show False from (h10 (by rw [h]))).elim⟩,rfl⟩)
theorem uc_markByteS (u : BV) (k : Int) (st : St) (hO : OwnP st (pcBs u)) (hb : szOk u.l.length) (h0 : 0 ≤ k) (hk : k ≤ 137438953472) : C 43 [vS u.p u.l.length,vI k] st (fun v s => v = vI (k + (cntBs u.l : Int)) ∧ OwnP s (pcBs (mkBs u k)) ∧ PrL ((pcBs u).map (·.p)) st s) := by
 have hs : u.l.length ≤ 1048576 := hb
 have hO0 : OwnR st 1 fB u.p u.l := own_one Nat.one_pos fB_len hO
 refine AC.enterX (i := ⟨[],[],[0,1,4,5,9],[]⟩) [] Try.func43 rfl rfl (by kernel_rfl) (by kernel_rfl) Try.ntmps43 (Lb rfl) rfl ?_
 refine cxs ?_
 refine Cu lo0 st [(0,vS u.p u.l.length),(1,vI k),(4,vI 0),(5,vI 0)] fun _ => ?_
 refine AW.loop0 (fun i : Nat => [(0,vS u.p u.l.length),(1,vI (k + (i : Int))),(5,vI (i : Int))]) (fun m (i : Nat) st' => m = u.l.length - i ∧ i ≤ u.l.length ∧ OwnR st' 1 fB u.p (mkB i k ++ u.l.drop i) ∧ Pr u.p st st') 0 _ ⟨rfl,congrArg (Value.int .i64) (Int.add_zero k).symm,rfl,trivial⟩ rfl ⟨rfl,Nat.zero_le _,by simpa [mkB] using hO0,Pr.refl _ _⟩ ?_
 rintro m i ρ0 st' ⟨rfl,hi,hO',hP'⟩
 iterate 2 refine ⟨_,rfl,?_⟩
 rintro (_|_) h1
 ·replace h1 : ¬ ((i : Int) < (u.l.length : Int)) := of_decide_eq_false h1
  refine Cu lo0 st' [(0,vS u.p u.l.length),(1,vI (k + (i : Int))),(5,vI (i : Int)),(9,vB false)] fun _ => ?_
  refine cxs ?_
  refine cxs ?_
  have hil : i = u.l.length := by omega
  rw [hil,List.drop_length,List.append_nil] at hO'
  exact Rt ⟨(by rw [hil]; rfl),OwnP.one (own_pc (f := fB) (l := (mkBs u k).l) hO'),hP'.l (List.mem_singleton_self _)⟩
 ·replace h1 : (i : Int) < (u.l.length : Int) := of_decide_eq_true h1
  refine Cu lo0 st' [(0,vS u.p u.l.length),(1,vI (k + (i : Int))),(5,vI (i : Int)),(9,vB true)] fun _ => ?_
  have h1' := Int.ofNat_lt.1 h1
  have hlen : i < (mkB i k ++ u.l.drop i).length := by rw [List.length_append,mkB_len,List.length_drop]; omega
  have ⟨a,ha⟩ := hO'.some (by omega)
  refine cxs ?_
  refine ⟨_,rfl,?_⟩
  refine ⟨_,op_idx (j := (i : Int)) (n := u.l.length) (q := ⟨a,0,none⟩) rfl (congrArg (fun v => vS v u.l.length) ha) rfl rfl rfl (Int.natCast_nonneg _) h1,?_⟩
  refine op_put (st := st') (f := fB) (j := i) (l := mkB i k ++ u.l.drop i) (y := IntKind.wrap .u8 (k + (i : Int))) (p := u.p) (d := 0 + i * 1) rfl rfl ((Nat.zero_add _)) rfl rfl fB_len rfl rfl hlen hO' ha ?_
  intro s5 hO5 hP5 hn5
  rw [markB_set h1'] at hO5
  refine Cu lo0 s5 [(0,vS u.p u.l.length),(1,vI (k + (i : Int))),(5,vI (i : Int)),(9,vB true)] fun _ => ?_
  have e18 : IntKind.wrap .i64 (k + (i : Int) + 1) = k + ((i + 1 : Nat) : Int) := (wrap_i64 (by omega) (by omega)).trans (by omega)
  refine ⟨_,rfl,?_⟩
  refine AW.cut lo0 s5 [(0,vS u.p u.l.length),(1,vI (k + ((i + 1 : Nat) : Int))),(5,vI (i : Int)),(9,vB true)] ⟨rfl,congrArg (Value.int .i64) e18,rfl,rfl,trivial⟩ fun _ => ?_
  have e11 : IntKind.wrap .i64 ((i : Int) + 1) = ((i + 1 : Nat) : Int) := (wrap_i64 (by omega) (by omega)).trans (by omega)
  refine ⟨_,rfl,?_⟩
  exact ⟨i + 1,u.l.length - (i + 1),by omega,⟨rfl,rfl,congrArg (Value.int .i64) e11,trivial⟩,rfl,rfl,h1',hO5,hP'.trans hP5⟩
theorem wt_bytesB {L : LL} {us : List Value} (h : WT Try.prog Try.prog.globals.size 12 22 L us) : ∃ p l,us = [vS p l.length] ∧ Rows (stL Try.prog.globals.size L) 1 fB p l ∧ l.length ≤ maxLen ∧ bytesOk l := by
 obtain ⟨p,l,h1,h2,h3,h4⟩ := WT.rows (f := fB) (Q := fun x => 0 ≤ x ∧ x < 256) Try.underlying22 (z := 1) (by kernel_rfl) (fun us h => by
  obtain ⟨n,h,hw⟩ := WT.int Try.underlying5 h
  refine ⟨n,h,?_⟩
  have e1 : IntKind.u8.min = 0 := by decide
  have e2 : IntKind.u8.max = 255 := by decide
  simp only [Lit.wf,Bool.and_eq_true,decide_eq_true_eq,e1,e2] at hw
  omega) h
 exact ⟨p,l,h1,h2,h3,h4⟩
def Cur (st : St) (c : Nat) (p : Option Addr) (bs : List Int) : Prop := c < st.next ∧ ∃ (z : Nat) (i : Nat) (h : Int),st.mem c = some ⟨true,z,[.slice p bs.length bs.length,.int .i64 i,.int .i64 h]⟩ ∧ Ints st .u8 p bs ∧ (bs.length = 0 ∨ ∀ q,p = some q → q.block ≠ c) ∧ i ≤ bs.length
def PresC (c : Nat) (st st' : St) : Prop := st.next ≤ st'.next ∧ ∀ a,a < st.next → a ≠ c → st'.mem a = st.mem a
theorem PresC.refl (c : Nat) (st : St) : PresC c st st := ⟨Nat.le_refl _,fun _ _ _ => rfl⟩
theorem PresC.trans {c : Nat} {x y z : St} (h : PresC c x y) (k : PresC c y z) : PresC c x z := ⟨Nat.le_trans h.1 k.1,fun a ha hc => (k.2 a (Nat.lt_of_lt_of_le ha h.1) hc).trans (h.2 a ha hc)⟩
theorem PresC.ints {c : Nat} {st st' : St} {k : IntKind} {p : Option Addr} {l : List Int} (h : PresC c st st') (hi : Ints st k p l) (hp : l.length = 0 ∨ ∀ q,p = some q → q.block ≠ c) : Ints st' k p l := by
 rcases hi with hi | ⟨b,off,blk,rfl,hm,hb,hc⟩
 ·exact .inl hi
 rcases hp with h0 | hp
 ·exact .inl h0
 ·exact .inr ⟨b,off,blk,rfl,(h.2 b hb (hp _ rfl)).trans hm,Nat.lt_of_lt_of_le hb h.1,hc⟩
theorem PresC.own {c : Nat} {st st' : St} {k : IntKind} {p : Option Addr} {l : List Int} (h : PresC c st st') (hi : Own st k p l) (hp : ∀ q,p = some q → q.block ≠ c) : Own st' k p l := by
 rcases hi with ⟨rfl,rfl⟩ | ⟨a,rfl,ha,hm⟩
 ·exact .inl ⟨rfl,rfl⟩
 ·exact .inr ⟨a,rfl,Nat.lt_of_lt_of_le ha h.1,(h.2 a ha (hp _ rfl)).trans hm⟩
theorem Pres.c {c : Nat} {st st' : St} (h : Pres st st') : PresC c st st' := ⟨h.1,fun a ha _ => h.2 a ha⟩
theorem Cur.pres {c : Nat} {st st' : St} {bs : List Int} {p : Option Addr} (h : Pres st st') (hc : Cur st c p bs) : Cur st' c p bs := by
 obtain ⟨h1,z,i,x,hm,hI,hp,hi⟩ := hc
 exact ⟨Nat.lt_of_lt_of_le h1 h.1,z,i,x,(h.2 c h1).trans hm,h.ints hI,hp,hi⟩
theorem Cur.grow {c : Nat} {p q : Option Addr} {st0 st1 st2 : St} {bs : List Int} (h0 : Cur st0 c p bs) (h1 : PresC c st0 st1) (hc : Cur st1 c p bs) (h2 : ∀ a,a < st1.next → (∀ r,q = some r → a ≠ r.block) → st2.mem a = st1.mem a) (hn : st1.next ≤ st2.next) (hq : ∀ r,q = some r → st0.next ≤ r.block) : Cur st2 c p bs := by
 obtain ⟨hlt,_,_,_,_,hI,hp,_⟩ := h0
 obtain ⟨hl,z,i,h,hm,_,_,hi⟩ := hc
 have hP : PresC c st0 st2 := ⟨Nat.le_trans h1.1 hn,fun a ha hne => (h2 a (Nat.lt_of_lt_of_le ha h1.1) fun r hr he => by have := hq r hr; omega).trans (h1.2 a ha hne)⟩
 exact ⟨Nat.lt_of_lt_of_le hl hn,z,i,h,(h2 c hl fun r hr he => by have := hq r hr; omega).trans hm,hP.ints hI hp,hp,hi⟩
theorem PresC.of {c : Nat} {st st' : St} : PresC c st st' ↔ Pr (some ⟨c,0,none⟩) st st' :=
 ⟨fun h => ⟨h.1,fun a ha hn => h.2 a ha (hn _ rfl)⟩,fun h => ⟨h.1,fun a ha hn => h.2 a ha fun q hq => by injection hq with hq; subst hq; exact hn⟩⟩
theorem PresC.pres {c : Nat} {st st1 st2 : St} (h : Pres st st1) (k : PresC c st1 st2) (hc : st.next ≤ c) : Pres st st2 := ⟨Nat.le_trans h.1 k.1,fun a ha => (k.2 a (Nat.lt_of_lt_of_le ha h.1) (by omega)).trans (h.2 a ha)⟩
def cmpI (a b : Int) : Int := if a < b then -1 else if a > b then 1 else 0
def firstNZ : List Int → Int
 | [] => 0
 | x :: l => if x = 0 then firstNZ l else x
def cmpB (a b : ByteArray) : Int := Lib.compareBytes a.data.toList b.data.toList
def entCmp (a b : Ent) : Int := firstNZ [cmpI a.inc b.inc,cmpI a.rank b.rank,cmpI a.beat b.beat,cmpI a.ver b.ver,cmpB a.data b.data]
def entMax (a b : Ent) : Ent := if entCmp a b < 0 then b else a
abbrev topF (a b : Sta) (id : Int) : Int := max (floorOf a.floors id) (floorOf b.floors id)
abbrev topE (a b : Sta) (id : Int) : Ent := entMax (entP a.items id).1 (entP b.items id).1
def joinF (a b : Sta) (n : Nat) : Sta := ⟨(List.range n).filterMap fun (j : Nat) => if (topE a b (j : Int)).inc > topF a b (j : Int) then some ⟨(j : Int),topE a b (j : Int)⟩ else none,
 (List.range n).filterMap fun (j : Nat) => if topF a b (j : Int) > 0 then some ⟨(j : Int),topF a b (j : Int)⟩ else none⟩
theorem pcS_items {st st' : St} {q1 q2 q : Option Addr} {l1 l1' : List Itm} {l2 : List Flr} (h : OwnP st [pcR 6 cItm q1 l1,pcR 2 cFlr q2 l2]) (hp : Pr q1 st st') (ho : OwnR st' 6 cItm q l1') (hn : New st.next q) : OwnP st' [pcR 6 cItm q l1',pcR 2 cFlr q2 l2] :=
 OwnP.renew (l := []) (m := [pcR 2 cFlr q2 l2]) h hp (own_pc ho) hn
theorem pcS_floors {st st' : St} {q1 q2 q : Option Addr} {l1 : List Itm} {l2 l2' : List Flr} (h : OwnP st [pcR 6 cItm q1 l1,pcR 2 cFlr q2 l2]) (hp : Pr q2 st st') (ho : OwnR st' 2 cFlr q l2') (hn : New st.next q) : OwnP st' [pcR 6 cItm q1 l1,pcR 2 cFlr q l2'] :=
 OwnP.renew (l := [pcR 6 cItm q1 l1]) (m := []) h hp (own_pc ho) hn
def NC (c : Nat) (q : Option Addr) : Prop := ∀ a,q = some a → a.block ≠ c
theorem NC.new {c n : Nat} {q : Option Addr} (hN : New n q) (h : c < n) : NC c q := fun a ha => Nat.ne_of_gt (Nat.lt_of_lt_of_le h (hN a ha))
theorem Cur.lt {st : St} {c : Nat} {p : Option Addr} {bs : List Int} (h : Cur st c p bs) : c < st.next := h.1
def FrC (c : Nat) (a b : St) (l : List Pc) : Prop := OwnP b l ∧ NewP a.next l ∧ PresC c a b ∧ c < a.next
theorem FrC.nil {c : Nat} {a : St} (h : c < a.next) : FrC c a a [] := ⟨OwnP.nil,NewP.nil,PresC.refl _ _,h⟩
theorem Frs.toC {c : Nat} {a b : St} {l : List Pc} (h : Frs a b l) (hc : c < a.next) : FrC c a b l := ⟨h.1,h.2.1,h.2.2.c,hc⟩
theorem OwnP.presC {c n : Nat} {st st' : St} {l : List Pc} (h : OwnP st l) (hP : PresC c st st') (hN : NewP n l) (hn : c < n) : OwnP st' l :=
 h.keep hP.1 fun x hx q hq => hP.2 _ ((h.1 x hx).old q hq) (Nat.ne_of_gt (Nat.lt_of_lt_of_le hn (hN x hx q hq)))
theorem FrC.later {c : Nat} {a b d : St} {l : List Pc} (h : FrC c a b l) (k : PresC c b d) : FrC c a d l := ⟨h.1.presC k h.2.1 h.2.2.2,h.2.1,h.2.2.1.trans k,h.2.2.2⟩
theorem FrC.step {c : Nat} {a b d : St} {l : List Pc} (h : FrC c a b l) (k : Pres b d) : FrC c a d l := h.later k.c
theorem FrC.sooner {c : Nat} {a b d : St} {l : List Pc} (h : FrC c b d l) (k : PresC c a b) (hc : c < a.next) : FrC c a d l := ⟨h.1,h.2.1.le k.1,k.trans h.2.2.1,hc⟩
theorem FrC.join {c : Nat} {a b d : St} {l m : List Pc} (h : FrC c a b l) (k : FrC c b d m) : FrC c a d (l ++ m) :=
 ⟨(h.later k.2.2.1).1.app k.1 fun x hx y hy => Dis.of (h.1.1 x hx).old (k.2.1 y hy),h.2.1.app (k.2.1.le h.2.2.1.1),h.2.2.1.trans k.2.2.1,h.2.2.2⟩
theorem FrC.lt {c : Nat} {a b : St} {l : List Pc} (h : FrC c a b l) : c < b.next := Nat.lt_of_lt_of_le h.2.2.2 h.2.2.1.1
theorem FrC.add {c : Nat} {a b d : St} {l m : List Pc} (h : FrC c a b l) (k : Frs b d m) : FrC c a d (l ++ m) := h.join (k.toC h.lt)
theorem FrC.left {c : Nat} {a b : St} {l m : List Pc} (h : FrC c a b (l ++ m)) : FrC c a b l := ⟨h.1.left,fun x hx => h.2.1 x (List.mem_append_left _ hx),h.2.2⟩
theorem FrC.right {c : Nat} {a b : St} {l m : List Pc} (h : FrC c a b (l ++ m)) : FrC c a b m := ⟨h.1.right,fun x hx => h.2.1 x (List.mem_append_right _ hx),h.2.2⟩
theorem FrC.out {st s1 s2 : St} {l : List Pc} (hF : FrC st.next s1 s2 l) (hP : Pres st s1) : Frs st s2 l := ⟨hF.1,hF.2.1.le hP.1,PresC.pres hP hF.2.2.1 (Nat.le_refl _)⟩
theorem PresC.thenNew {c : Nat} {q : Option Addr} {a b d : St} (h : PresC c a b) (k : Pr q b d) (hn : New a.next q) : PresC c a d :=
 ⟨Nat.le_trans h.1 k.1,fun x hx hc => (k.2 x (Nat.lt_of_lt_of_le hx h.1) fun r hr he => by have := hn r hr; omega).trans (h.2 x hx hc)⟩
theorem Cur.thenNew {c : Nat} {p q : Option Addr} {bs : List Int} {s0 s1 s2 : St} (h1 : Cur s1 c p bs) (h0 : Cur s0 c p bs) (h : PresC c s0 s1) (k : Pr q s1 s2) (hn : New s0.next q) : Cur s2 c p bs := Cur.grow h0 h h1 k.2 k.1 hn
theorem FrC.items {c : Nat} {a b d : St} {u : SV} {q : Option Addr} {l : List Itm} (h : FrC c a b (pcS u)) (hp : Pr u.p b d) (ho : OwnR d 6 cItm q l) (hn : New b.next q) : FrC c a d (pcS ⟨q,u.q,⟨l,u.x.floors⟩⟩) ∧ PresC c a d :=
 have hP := PresC.thenNew h.2.2.1 hp (h.2.1 _ (List.mem_cons_self ..))
 ⟨⟨pcS_items h.1 hp ho hn,NewP.cons (hn.le h.2.2.1.1) (NewP.cons (h.2.1 _ (List.mem_cons_of_mem _ (List.mem_cons_self ..))) NewP.nil),hP,h.2.2.2⟩,hP⟩
theorem FrC.floors {c : Nat} {a b d : St} {u : SV} {q : Option Addr} {l : List Flr} (h : FrC c a b (pcS u)) (hp : Pr u.q b d) (ho : OwnR d 2 cFlr q l) (hn : New b.next q) : FrC c a d (pcS ⟨u.p,q,⟨u.x.items,l⟩⟩) ∧ PresC c a d :=
 have hP := PresC.thenNew h.2.2.1 hp (h.2.1 _ (List.mem_cons_of_mem _ (List.mem_cons_self ..)))
 ⟨⟨pcS_floors h.1 hp ho hn,NewP.cons (h.2.1 _ (List.mem_cons_self ..)) (NewP.cons (hn.le h.2.2.1.1) NewP.nil),hP,h.2.2.2⟩,hP⟩
theorem Frs.nlS {a : St} : Frs a a (pcS ⟨none,none,nilS⟩) := ⟨pcS_nil,newS_nil,Pres.refl _⟩
structure smS (n : Nat) (x : Sta) : Prop where
 i : x.items.length ≤ n
 f : x.floors.length ≤ n
 d : ∀ y ∈ x.items,y.e.data.size ≤ 9
theorem smS.big {n : Nat} {x : Sta} (h : smS n x) (hn : n ≤ 1048576) : bigS x := ⟨Nat.le_trans h.i hn,Nat.le_trans h.f hn,fun y hy => Nat.le_trans (h.d y hy) (by decide)⟩
theorem smS.le {n m : Nat} {x : Sta} (h : smS n x) (k : n ≤ m) : smS m x := ⟨Nat.le_trans h.i k,Nat.le_trans h.f k,h.d⟩
theorem ids_len {α : Type} {id : α → Int} {l : List α} (h : ∀ (j : Nat) x,l[j]? = some x → (0 ≤ id x ∧ id x ≤ 4) ∧ ∀ y,0 < j → l[j - 1]? = some y → id y < id x) : l.length ≤ 5 := by
 have key : ∀ (j : Nat) x,l[j]? = some x → (j : Int) ≤ id x := by
  intro j
  induction j with
  | zero => intro x hx; exact (h 0 x hx).1.1
  | succ j ih =>
   intro x hx
   obtain ⟨hj,_⟩ := List.getElem?_eq_some_iff.1 hx
   have hy : l[j]? = some l[j] := List.getElem?_eq_getElem (by omega)
   have := ih _ hy
   have := (h _ _ hx).2 l[j] (Nat.succ_pos j) hy
   omega
 rcases Nat.lt_or_ge 5 l.length with h5 | h5
 ·have hx : l[5]? = some l[5] := List.getElem?_eq_getElem h5
  have := key 5 _ hx
  have := (h 5 _ hx).1.2
  omega
 ·exact h5
theorem marks_len {l : List Flr} (h : marksOk l) : l.length ≤ 5 := ids_len (id := fun x => x.id) fun j x hx => ⟨(h j x hx).1,(h j x hx).2.2⟩
theorem items_len {s : Sta} (h : stateOk s) : s.items.length ≤ 5 := ids_len (id := fun x => x.id) fun j x hx => ⟨(h.1 j x hx).1,(h.1 j x hx).2.2.2⟩
theorem sm_ok {s : Sta} (h : stateOk s) : smS 5 s := ⟨items_len h,marks_len h.2,fun y hy => by
 obtain ⟨j,hj⟩ := List.getElem?_of_mem hy
 have := (h.1 j y hj).2.1.2.2.2.2
 omega⟩
theorem big_ok {s : Sta} (h : stateOk s) : bigS s := (sm_ok h).big (by decide)
section
variable {P : Program} {ls : List Tmp} {call : ACallT} {o : Oper} {e : Operand → Value} {lo : Lo} {st : St} {K : Value × Lo × St → Prop}
end
structure smM (g : Mg) : Prop where
 tree : g.tree.leaves.length ≤ 4
 vec : g.vec.length ≤ 5
 leaves : g.leaves.length ≤ 4
 items : g.part.items.length ≤ 5
 floors : g.part.floors.length ≤ 5
 part : stateOk g.part
 marks : g.marks.length ≤ 5
theorem msg_sm {g : Mg} (h : msgOk g) : smM g := by
 obtain ⟨_,_,h1,h2,h3,h4,h5⟩ := h
 refine ⟨?_,?_,?_,items_len h4,marks_len h4.2,h4,marks_len h5⟩
 ·unfold trOk at h1
  split at h1
  ·omega
  ·omega
 ·have := h2.1
  omega
 ·rcases Nat.lt_or_ge g.leaves.length 5 with h6 | h6
  ·omega
  ·have h7 := inc_ge h3 4 _ (List.getElem?_eq_getElem (by omega))
   have h8 := (h3 4 _ (List.getElem?_eq_getElem (by omega))).1.2
   omega
theorem mgBz_ok (g : Mg) : bytesOk (mgBz g) := by
 unfold mgBz
 split
 ·exact mgB_ok g
 ·intro x hx; cases hx
def gnF : List Int → Nat → Int → Option (Int × Nat)
 | [],_,_ => none
 | b :: t,i,n => if 5 ≤ i then none else if b < 128 then (if (0 < i ∧ b = 0) ∨ 2147483647 < n + b * 2 ^ (7 * i) then none else some (n + b * 2 ^ (7 * i),i + 1)) else gnF t (i + 1) (n + b % 128 * 2 ^ (7 * i))
theorem gnF_vlq : ∀ (k i n : Nat) (r : List Int),n + k * 2 ^ (7 * i) ≤ 2147483647 → (0 < k ∨ i = 0) → gnF (vlq k ++ r) i n = some (((n + k * 2 ^ (7 * i) : Nat) : Int),i + (vlq k).length) := by
 intro k
 induction k using Nat.strongRecOn with
 | _ k ih =>
  intro i n r h hk
  have h5 : ¬ 5 ≤ i := by
   intro h5
   rcases hk with hk | hk
   ·have h1 : 2 ^ 35 ≤ 2 ^ (7 * i) := Nat.pow_le_pow_right (by decide) (by omega)
    have h2 : 2 ^ (7 * i) ≤ k * 2 ^ (7 * i) := Nat.le_mul_of_pos_left _ hk
    have h3 : (2 : Nat) ^ 35 = 34359738368 := by decide
    omega
   ·omega
  by_cases hlt : k < 128
  ·rw [vlq_lt hlt]
   simp only [List.cons_append,List.nil_append,gnF]
   rw [if_neg h5,if_pos (by omega)]
   have hc : ((n : Int) + (k : Int) * 2 ^ (7 * i)) = ((n + k * 2 ^ (7 * i) : Nat) : Int) := by push_cast; rfl
   rw [if_neg (by rw [hc]; omega),hc]
   rfl
  ·rw [vlq_ge hlt]
   simp only [List.cons_append,gnF]
   rw [if_neg h5,if_neg (by omega)]
   have hm : (((k % 128 + 128 : Nat) : Int) % 128) = ((k % 128 : Nat) : Int) := by omega
   have hc : ((n : Int) + ((k % 128 : Nat) : Int) * 2 ^ (7 * i)) = ((n + k % 128 * 2 ^ (7 * i) : Nat) : Int) := by push_cast; rfl
   have hp : n + k % 128 * 2 ^ (7 * i) + k / 128 * 2 ^ (7 * (i + 1)) = n + k * 2 ^ (7 * i) := by
    have e1 : 2 ^ (7 * (i + 1)) = 128 * 2 ^ (7 * i) := by rw [Nat.mul_add,Nat.pow_add,Nat.mul_comm]
    rw [e1,← Nat.mul_assoc,Nat.add_assoc,← Nat.add_mul]
    congr 2
    omega
   rw [hm,hc,ih (k / 128) (by omega) (i + 1) (n + k % 128 * 2 ^ (7 * i)) r (by rw [hp]; exact h) (.inl (by omega)),hp]
   simp only [List.length_cons]
   rw [show i + 1 + (vlq (k / 128)).length = i + ((vlq (k / 128)).length + 1) by omega]
def gnAt (l : List Int) (at_ : Int) : Option (Int × Int) := if at_ < 0 then none else (gnF (l.drop at_.toNat) 0 0).map fun r => (r.1,at_ + r.2)
theorem gnAt_put {a r : List Int} {n : Int} (h : 0 ≤ n ∧ n ≤ 2147483647) : gnAt (a ++ (putN n ++ r)) a.length = some (n,(a.length : Int) + (putN n).length) := by
 unfold gnAt
 rw [if_neg (by omega),Int.toNat_natCast,List.drop_left]
 have : putN n = vlq n.toNat := if_pos h
 rw [this,show (0 : Int) = ((0 : Nat) : Int) from rfl,gnF_vlq n.toNat 0 0 r (by omega) (.inr rfl)]
 simp only [Option.map_some,Nat.mul_zero,Nat.pow_zero,Nat.mul_one,Nat.zero_add]
 congr 2
 omega
section
variable {P : Program} {ls : List Tmp} {call : ACallT} {o : Oper} {e : Operand → Value} {lo : Lo} {st : St}
theorem op_sl {t ty : TypeId} {x y : Operand} {a r : Int} {b : Nat} (ho : o.op = .binOp .shl t x y ty) (hx : e x = vI a) (hy : e y = vI (b : Int)) (hb : b ≤ 63) (hr : a * 2 ^ b = r) (h1 : -9223372036854775808 ≤ r) (h2 : r < 9223372036854775808) : aoper P ls call o e lo st = some (vI r,lo,st) := by
 obtain ⟨d,op,tt,pos,after,gd⟩ := o
 simp only at ho
 subst ho hr
 have h3 : (0 : Int) ≤ (b : Int) ∧ (b : Int) ≤ IntKind.bits .i64 := ⟨by omega,by show (b : Int) ≤ 64; omega⟩
 simp only [aoper,rop,hx,hy,abin,if_pos h3,Int.toNat_natCast,Option.map_some]
 rw [wrap_i64 h1 h2]
theorem op_ad {t ty : TypeId} {x y : Operand} {a b r : Int} (ho : o.op = .binOp .add t x y ty) (hx : e x = vI a) (hy : e y = vI b) (hr : a + b = r) (h1 : -9223372036854775808 ≤ r) (h2 : r < 9223372036854775808) : aoper P ls call o e lo st = some (vI r,lo,st) := by
 obtain ⟨d,op,tt,pos,after,gd⟩ := o
 simp only at ho
 subst ho hr
 simp only [aoper,rop,hx,hy,abin,aint,if_true,Option.map_some]
 rw [wrap_i64 h1 h2]
theorem bits_or {a b : Nat} (ha : a < 4294967296) (hb : b < 1099511627776) : bits .or .i64 (a : Int) (b : Int) = ((a ||| b : Nat) : Int) := by
 have h : a ||| b < 2 ^ 40 := Nat.or_lt_two_pow (n := 40) (by omega) (by omega)
 have h1 : (BitVec.ofInt 64 (a : Int) ||| BitVec.ofInt 64 (b : Int)).toNat = a ||| b := by
  rw [BitVec.toNat_or,BitVec.ofInt_natCast,BitVec.ofInt_natCast,BitVec.toNat_ofNat,BitVec.toNat_ofNat,Nat.mod_eq_of_lt (by omega),Nat.mod_eq_of_lt (by omega)]
 show IntKind.wrap .i64 (((BitVec.ofInt 64 (a : Int) ||| BitVec.ofInt 64 (b : Int)).toNat : Nat) : Int) = _
 rw [h1]
 exact wrap_nat _ (by omega)
theorem op_or {t ty : TypeId} {x y : Operand} {a b r : Int} (ho : o.op = .binOp .or t x y ty) (hx : e x = vI a) (hy : e y = vI b) (hr : bits .or .i64 a b = r) : aoper P ls call o e lo st = some (vI r,lo,st) := by
 obtain ⟨d,op,tt,pos,after,gd⟩ := o
 simp only at ho
 subst ho hr
 simp [aoper,rop,hx,hy,abin,aint]
end
theorem or_add {n c i : Nat} (hn : n < 2 ^ (7 * i)) (hc : c < 128) (hi : i ≤ 4) : bits .or .i64 (n : Int) ((c * 2 ^ (7 * i) : Nat) : Int) = ((n + c * 2 ^ (7 * i) : Nat) : Int) := by
 have h1 : 2 ^ (7 * i) ≤ 2 ^ 28 := Nat.pow_le_pow_right (by decide) (by omega)
 have h2 : c * 2 ^ (7 * i) ≤ 127 * 2 ^ 28 := Nat.mul_le_mul (by omega) h1
 have h3 : (2 : Nat) ^ 28 = 268435456 := by decide
 rw [bits_or (by omega) (by omega)]
 congr 1
 rw [Nat.or_comm,Nat.mul_comm,← Nat.two_pow_add_eq_or_of_lt hn,Nat.add_comm]
def gnR (l : List Int) (a : Int) : Int × Int × Bool := match gnAt l a with
 | some r => (r.1,r.2,true)
 | none => (0,0,false)
theorem gnR_neg {l : List Int} {a : Int} (h : a < 0) : gnR l a = (0,0,false) := by unfold gnR gnAt; rw [if_pos h]
theorem gnR_of {l : List Int} {a : Nat} : gnR l a = match gnF (l.drop a) 0 0 with
  | some r => (r.1,(a : Int) + r.2,true)
  | none => (0,0,false) := by
 unfold gnR gnAt
 rw [if_neg (by omega),Int.toNat_natCast]
 cases gnF (l.drop a) 0 0 <;> rfl
theorem dropCons {α : Type} {l : List α} {j : Nat} {x : α} (h : l[j]? = some x) : l.drop j = x :: l.drop (j + 1) := by
 obtain ⟨h1,rfl⟩ := List.getElem?_eq_some_iff.1 h
 exact List.drop_eq_getElem_cons h1
theorem gnF_five {l : List Int} {n : Int} : gnF l 5 n = none := by cases l <;> rfl
theorem gnF_go {l : List Int} {j i n c : Nat} {b : Int} (hb : l[j]? = some b) (hi : i ≤ 4) (h1 : ¬ b < 128) (hc : b % 128 = (c : Int)) : gnF (l.drop j) i n = gnF (l.drop (j + 1)) (i + 1) ((n + c * 2 ^ (7 * i) : Nat) : Int) := by
 rw [dropCons hb]
 simp only [gnF]
 rw [if_neg (by omega),if_neg h1,hc]
 congr 1
theorem gnF_no {l : List Int} {j i n : Nat} {b : Int} (hb : l[j]? = some b) (h1 : b < 128) (h2 : (0 < i ∧ b = 0) ∨ 2147483647 < n + b * 2 ^ (7 * i)) : gnF (l.drop j) i n = none := by
 rw [dropCons hb]
 simp only [gnF]
 by_cases h5 : 5 ≤ i
 ·rw [if_pos h5]
 ·rw [if_neg h5,if_pos h1,if_pos h2]
theorem gnF_yes {l : List Int} {j i n : Nat} {b : Int} (hb : l[j]? = some b) (hi : i ≤ 4) (h1 : b < 128) (h2 : ¬ ((0 < i ∧ b = 0) ∨ 2147483647 < n + b * 2 ^ (7 * i))) : gnF (l.drop j) i n = some (n + b * 2 ^ (7 * i),i + 1) := by
 rw [dropCons hb]
 simp only [gnF]
 rw [if_neg (by omega),if_pos h1,if_neg h2]
theorem pow7 {i : Nat} (h : i ≤ 4) (c : Nat) : c % 128 * 2 ^ (7 * i) ≤ 34091302912 := by
 have h1 : 2 ^ (7 * i) ≤ 2 ^ 28 := Nat.pow_le_pow_right (by decide) (by omega)
 have h2 : c % 128 * 2 ^ (7 * i) ≤ 127 * 2 ^ 28 := Nat.mul_le_mul (by omega) h1
 omega
theorem pow7n {i n : Nat} (h : i ≤ 4) (hn : n < 2 ^ (7 * i)) : n < 268435456 := by
 have h1 : 2 ^ (7 * i) ≤ 2 ^ 28 := Nat.pow_le_pow_right (by decide) (by omega)
 omega
theorem pow7s {i n c : Nat} (hn : n < 2 ^ (7 * i)) : n + c % 128 * 2 ^ (7 * i) < 2 ^ (7 * (i + 1)) := by
 have e1 : 2 ^ (7 * (i + 1)) = 128 * 2 ^ (7 * i) := by rw [Nat.mul_add,Nat.pow_add,Nat.mul_comm]
 have h2 : c % 128 * 2 ^ (7 * i) ≤ 127 * 2 ^ (7 * i) := Nat.mul_le_mul_right _ (by omega)
 omega
theorem gnR_yes {l : List Int} {a i n c : Nat} (hg : gnF (l.drop a) 0 0 = gnF (l.drop (a + i)) i n) (hb : l[a + i]? = some (c : Int)) (hi : i ≤ 4) (h1 : c < 128) (h2 : ¬ ((0 < i ∧ c = 0) ∨ 2147483647 < n + c % 128 * 2 ^ (7 * i))) : (((n + c % 128 * 2 ^ (7 * i) : Nat) : Int),(a : Int) + i + 1,true) = gnR l a := by
 have hm : c % 128 = c := Nat.mod_eq_of_lt h1
 have hc : ((n : Int) + (c : Int) * 2 ^ (7 * i)) = ((n + c * 2 ^ (7 * i) : Nat) : Int) := by push_cast; rfl
 rw [hm] at h2 ⊢
 rw [gnR_of,hg,gnF_yes hb hi (by omega) (by rw [hc]; omega),hc]
 simp only [Int.natCast_add,Int.natCast_one,Int.add_assoc]
theorem gnR_no {l : List Int} {a i n c : Nat} (hg : gnF (l.drop a) 0 0 = gnF (l.drop (a + i)) i n) (hb : l[a + i]? = some (c : Int)) (h1 : c < 128) (h2 : (0 < i ∧ c = 0) ∨ 2147483647 < n + c % 128 * 2 ^ (7 * i)) : (0,0,false) = gnR l a := by
 have hm : c % 128 = c := Nat.mod_eq_of_lt h1
 have hc : ((n : Int) + (c : Int) * 2 ^ (7 * i)) = ((n + c * 2 ^ (7 * i) : Nat) : Int) := by push_cast; rfl
 rw [hm] at h2
 rw [gnR_of,hg,gnF_no hb (by omega) (by rw [hc]; omega)]
theorem gnR_end {l : List Int} {a i n : Nat} (hg : gnF (l.drop a) 0 0 = gnF (l.drop (a + i)) i n) (h : i = 5 ∨ l.length ≤ a + i) : (0,0,false) = gnR l a := by
 rw [gnR_of,hg]
 rcases h with rfl | h
 ·rw [gnF_five]
 ·rw [List.drop_eq_nil_of_le h]; rfl
theorem ac_impl_GetNum (p : Option Addr) (l : List Int) (a : Int) (st : St) (hR : Rows st 1 fB p l) (hl : bytesOk l) (hs : l.length ≤ 1099511627776) (ha : a ≤ 1099511627776) : C 162 [vS p l.length,vI a] st (fun v s => ∃ n k b,v = .tuple #[vI n,vI k,vB b] ∧ (n,k,b) = gnR l a ∧ s = st) := by
 refine AC.enterX (i := ⟨[],[],[0,1,4,5,6,7,8,9,17,27,45,55],[]⟩) [] Try.func162 rfl rfl (by kernel_rfl) (by kernel_rfl) Try.ntmps162 (Lb rfl) rfl ?_
 refine Cu lo0 st [(0,vS p l.length),(1,vI a),(4,vI 0),(5,vI 0),(6,vB false)] fun _ => ?_
 refine ⟨_,rfl,?_⟩
 rintro (_|_) h11
 ·replace h11 : ¬ (a < (0)) := of_decide_eq_false h11
  iterate 2 refine ⟨_,rfl,?_⟩
  rintro (_|_) h16
  ·replace h16 : ¬ (a ≥ (l.length : Int)) := of_decide_eq_false h16
   refine ⟨_,rfl,?_⟩
   refine Cu lo0 st [(0,vS p l.length),(1,vI a),(4,vI 0),(5,vI 0),(6,vB false),(17,vB false)] fun _ => ?_
   obtain ⟨a,rfl⟩ := Int.eq_ofNat_of_zero_le (show 0 ≤ a by omega)
   refine cxs ?_
   refine cxs ?_
   refine Cu lo0 st [(0,vS p l.length),(1,vI a),(4,vI 0),(5,vI 0),(6,vB false),(7,vI 0),(8,vI 0)] fun _ => ?_
   refine AW.loop0 (fun x : Nat × Nat => [(0,vS p l.length),(1,vI a),(7,vI (x.2 : Int)),(8,vI (x.1 : Int))]) (fun m (x : Nat × Nat) st' => m = 5 - x.1 ∧ x.1 ≤ 5 ∧ x.2 < 2 ^ (7 * x.1) ∧ gnF (l.drop a) 0 0 = gnF (l.drop (a + x.1)) x.1 x.2 ∧ st = st') (0,0) _ ⟨rfl,rfl,rfl,rfl,trivial⟩ rfl ⟨rfl,Nat.zero_le _,Nat.one_pos,rfl,rfl⟩ ?_
   rintro m ⟨i,n⟩ ρ0 st' ⟨rfl,hi,hn,hg,rfl⟩
   simp only at hi hn hg
   refine ⟨_,rfl,?_⟩
   rintro (_|_) h19
   ·replace h19 : ¬ ((i : Int) < (5)) := of_decide_eq_false h19
    refine ⟨_,rfl,?_⟩
    refine Cu lo0 st [(0,vS p l.length),(1,vI a),(7,vI (n : Int)),(8,vI (i : Int)),(27,vB false)] fun _ => ?_
    refine cxs ?_
    exact cxs (Rt ⟨0,0,false,rfl,gnR_end hg (.inl (by omega)),rfl⟩)
   ·replace h19 : (i : Int) < (5) := of_decide_eq_true h19
    have ew23 : IntKind.wrap .i64 (a + (i : Int)) = a + (i : Int) := wrap_i64 (by omega) (by omega)
    iterate 3 refine ⟨_,rfl,?_⟩
    rintro (_|_) h26
    ·replace h26 : ¬ ((IntKind.wrap .i64 (a + (i : Int))) < (l.length : Int)) := of_decide_eq_false h26
     rw [ew23] at h26
     refine ⟨_,rfl,?_⟩
     refine Cu lo0 st [(0,vS p l.length),(1,vI a),(7,vI (n : Int)),(8,vI (i : Int)),(27,vB false)] fun _ => ?_
     refine cxs ?_
     exact cxs (Rt ⟨0,0,false,rfl,gnR_end hg (.inr (by omega)),rfl⟩)
    ·replace h26 : (IntKind.wrap .i64 (a + (i : Int))) < (l.length : Int) := of_decide_eq_true h26
     rw [ew23] at h26
     refine ⟨_,rfl,?_⟩
     refine Cu lo0 st [(0,vS p l.length),(1,vI a),(7,vI (n : Int)),(8,vI (i : Int)),(27,vB true)] fun _ => ?_
     refine cxs ?_
     have ew33 : IntKind.wrap .i64 (a + (i : Int)) = a + (i : Int) := wrap_i64 (by omega) (by omega)
     refine ⟨_,rfl,?_⟩
     refine op_at ((a + (i : Int)).toNat) hR (by omega) rfl rfl rfl rfl (by rw [ew33]; omega) rfl rfl ?_
     intro x34 b34 d34 k34 hy34 hb34 hm34 hc34 ho34
     refine ⟨_,op_ldc (i := 0) rfl rfl rfl rfl hm34 hc34 rfl rfl,?_⟩
     refine ⟨_,op_ofB rfl rfl rfl rfl rfl (hl.at hy34),?_⟩
     refine Cu lo0 st [(0,vS p l.length),(1,vI a),(7,vI (n : Int)),(8,vI (i : Int)),(9,vI (x34 : Int)),(27,vB true)] fun _ => ?_
     obtain ⟨x34,rfl⟩ := Int.eq_ofNat_of_zero_le (show 0 ≤ x34 from (hl _ (List.mem_of_getElem? hy34)).1)
     rw [show ((a : Int) + (i : Int)).toNat = a + i by omega] at hy34
     have hi4 : i ≤ 4 := by omega
     have hq := pow7 hi4 x34
     have hn4 := pow7n hi4 hn
     have hx := (hl _ (List.mem_of_getElem? hy34)).2
     refine ⟨_,op_rm (r := ((x34 % 128 : Nat) : Int)) rfl rfl rfl (by decide) ((tm_emod 128 (by omega)).trans (by omega)),?_⟩
     have ew41 : IntKind.wrap .i64 ((7) * (i : Int)) = (7) * (i : Int) := wrap_i64 (by omega) (by omega)
     refine ⟨_,rfl,?_⟩
     refine ⟨_,op_sl (b := 7 * i) (r := ((x34 % 128 * 2 ^ (7 * i) : Nat) : Int)) rfl rfl (congrArg vI (ew41.trans (by omega))) (by omega) (by push_cast; rfl) (by omega) (by omega),?_⟩
     refine ⟨_,op_ad (r := ((n + x34 % 128 * 2 ^ (7 * i) : Nat) : Int)) rfl rfl rfl (by omega) (by omega) (by omega),?_⟩
     refine Cu lo0 st [(0,vS p l.length),(1,vI a),(7,vI ((n + x34 % 128 * 2 ^ (7 * i) : Nat) : Int)),(8,vI (i : Int)),(9,vI (x34 : Int)),(27,vB true)] fun _ => ?_
     refine ⟨_,rfl,?_⟩
     rintro (_|_) h45
     ·replace h45 : ¬ ((x34 : Int) ≥ (128)) := of_decide_eq_false h45
      refine Cu lo0 st [(0,vS p l.length),(1,vI a),(7,vI ((n + x34 % 128 * 2 ^ (7 * i) : Nat) : Int)),(8,vI (i : Int)),(9,vI (x34 : Int)),(27,vB true),(45,vB false)] fun _ => ?_
      refine cxs ?_
      refine ⟨_,rfl,?_⟩
      rintro (_|_) h47
      ·replace h47 : ¬ ((i : Int) > (0)) := of_decide_eq_false h47
       iterate 2 refine ⟨_,rfl,?_⟩
       rintro (_|_) h54
       ·replace h54 : ¬ (((n + x34 % 128 * 2 ^ (7 * i) : Nat) : Int) > (2147483647)) := of_decide_eq_false h54
        refine ⟨_,rfl,?_⟩
        refine Cu lo0 st [(0,vS p l.length),(1,vI a),(7,vI ((n + x34 % 128 * 2 ^ (7 * i) : Nat) : Int)),(8,vI (i : Int)),(9,vI (x34 : Int)),(27,vB true),(45,vB false),(55,vB false)] fun _ => ?_
        refine cxs ?_
        have ew59 : IntKind.wrap .i64 (a + (i : Int)) = a + (i : Int) := wrap_i64 (by omega) (by omega)
        refine ⟨_,rfl,?_⟩
        have ew60 : IntKind.wrap .i64 ((IntKind.wrap .i64 (a + (i : Int))) + (1)) = (a + (i : Int)) + (1) := by rw [ew59]; exact wrap_i64 (by omega) (by omega)
        refine ⟨_,rfl,?_⟩
        exact cxs (Rt ⟨_,_,true,rfl,(by rw [ew60]; exact gnR_yes hg hy34 hi4 (by omega) (by omega)),rfl⟩)
       ·replace h54 : ((n + x34 % 128 * 2 ^ (7 * i) : Nat) : Int) > (2147483647) := of_decide_eq_true h54
        refine ⟨_,rfl,?_⟩
        refine Cu lo0 st [(0,vS p l.length),(1,vI a),(7,vI ((n + x34 % 128 * 2 ^ (7 * i) : Nat) : Int)),(8,vI (i : Int)),(9,vI (x34 : Int)),(27,vB true),(45,vB false),(55,vB true)] fun _ => ?_
        exact cxs (Rt ⟨0,0,false,rfl,gnR_no hg hy34 (by omega) (by omega),rfl⟩)
      ·replace h47 : (i : Int) > (0) := of_decide_eq_true h47
       refine ⟨_,rfl,?_⟩
       rintro (_|_) h50
       ·replace h50 : ¬ ((x34 : Int) = (0)) := beq_eq_false_iff_ne.1 h50
        iterate 2 refine ⟨_,rfl,?_⟩
        rintro (_|_) h54
        ·replace h54 : ¬ (((n + x34 % 128 * 2 ^ (7 * i) : Nat) : Int) > (2147483647)) := of_decide_eq_false h54
         refine ⟨_,rfl,?_⟩
         refine Cu lo0 st [(0,vS p l.length),(1,vI a),(7,vI ((n + x34 % 128 * 2 ^ (7 * i) : Nat) : Int)),(8,vI (i : Int)),(9,vI (x34 : Int)),(27,vB true),(45,vB false),(55,vB false)] fun _ => ?_
         refine cxs ?_
         have ew59 : IntKind.wrap .i64 (a + (i : Int)) = a + (i : Int) := wrap_i64 (by omega) (by omega)
         refine ⟨_,rfl,?_⟩
         have ew60 : IntKind.wrap .i64 ((IntKind.wrap .i64 (a + (i : Int))) + (1)) = (a + (i : Int)) + (1) := by rw [ew59]; exact wrap_i64 (by omega) (by omega)
         refine ⟨_,rfl,?_⟩
         exact cxs (Rt ⟨_,_,true,rfl,(by rw [ew60]; exact gnR_yes hg hy34 hi4 (by omega) (by omega)),rfl⟩)
        ·replace h54 : ((n + x34 % 128 * 2 ^ (7 * i) : Nat) : Int) > (2147483647) := of_decide_eq_true h54
         refine ⟨_,rfl,?_⟩
         refine Cu lo0 st [(0,vS p l.length),(1,vI a),(7,vI ((n + x34 % 128 * 2 ^ (7 * i) : Nat) : Int)),(8,vI (i : Int)),(9,vI (x34 : Int)),(27,vB true),(45,vB false),(55,vB true)] fun _ => ?_
         exact cxs (Rt ⟨0,0,false,rfl,gnR_no hg hy34 (by omega) (by omega),rfl⟩)
       ·replace h50 : (x34 : Int) = (0) := beq_iff_eq.1 h50
        iterate 2 refine ⟨_,rfl,?_⟩
        refine Cu lo0 st [(0,vS p l.length),(1,vI a),(7,vI ((n + x34 % 128 * 2 ^ (7 * i) : Nat) : Int)),(8,vI (i : Int)),(9,vI (x34 : Int)),(27,vB true),(45,vB false),(55,vB true)] fun _ => ?_
        exact cxs (Rt ⟨0,0,false,rfl,gnR_no hg hy34 (by omega) (by omega),rfl⟩)
     ·replace h45 : (x34 : Int) ≥ (128) := of_decide_eq_true h45
      refine Cu lo0 st [(0,vS p l.length),(1,vI a),(7,vI ((n + x34 % 128 * 2 ^ (7 * i) : Nat) : Int)),(8,vI (i : Int)),(9,vI (x34 : Int)),(27,vB true),(45,vB true)] fun _ => ?_
      refine cxs ?_
      have ew29 : IntKind.wrap .i64 ((i : Int) + (1)) = ((i + 1 : Nat) : Int) := (wrap_i64 (by omega) (by omega)).trans (by omega)
      refine ⟨_,rfl,?_⟩
      exact ⟨(i + 1,n + x34 % 128 * 2 ^ (7 * i)),5 - (i + 1),by omega,⟨rfl,rfl,rfl,congrArg (Value.int .i64) ew29,trivial⟩,rfl,rfl,by simp only; omega,pow7s hn,hg.trans (gnF_go (c := x34 % 128) hy34 hi4 (by omega) (by omega)),rfl⟩
  ·replace h16 : a ≥ (l.length : Int) := of_decide_eq_true h16
   refine ⟨_,rfl,?_⟩
   refine Cu lo0 st [(0,vS p l.length),(1,vI a),(4,vI 0),(5,vI 0),(6,vB false),(17,vB true)] fun _ => ?_
   obtain ⟨a,rfl⟩ := Int.eq_ofNat_of_zero_le (show 0 ≤ a by omega)
   exact cxs (Rt ⟨0,0,false,rfl,by rw [gnR_of,List.drop_eq_nil_of_le (by omega)]; rfl,rfl⟩)
 ·replace h11 : a < (0) := of_decide_eq_true h11
  refine ⟨_,rfl,?_⟩
  refine Cu lo0 st [(0,vS p l.length),(1,vI a),(4,vI 0),(5,vI 0),(6,vB false),(17,vB true)] fun _ => ?_
  exact cxs (Rt ⟨0,0,false,rfl,(gnR_neg h11).symm,rfl⟩)
theorem ac_spec_GetNum (p : Option Addr) (l : List Int) (a : Int) (st : St) (hR : Rows st 1 fB p l) (hl : bytesOk l) (hs : l.length ≤ 1099511627776) (ha : a ≤ 1099511627776) : C 159 [vS p l.length,vI a] st (fun v s => ∃ n k b,v = .tuple #[vI n,vI k,vB b] ∧ (n,k,b) = gnR l a ∧ s = st) := by
 refine AC.enterX (i := ⟨[],[],[0,1,4,5,6,7,8,9,11,23,39,49],[]⟩) [] Try.func159 rfl rfl (by kernel_rfl) (by kernel_rfl) Try.ntmps159 (Lb rfl) rfl ?_
 refine cxs ?_
 refine cxs ?_
 refine Cu lo0 st [(0,vS p l.length),(1,vI a),(4,vI 0),(5,vI 0),(6,vB false),(7,vI 0),(8,vI 0)] fun _ => ?_
 refine AW.loop0 (fun x : Nat × Nat => [(0,vS p l.length),(1,vI a),(7,vI (x.2 : Int)),(8,vI (x.1 : Int))]) (fun m (x : Nat × Nat) st' => m = 5 - x.1 ∧ x.1 ≤ 5 ∧ x.2 < 2 ^ (7 * x.1) ∧ gnF (l.drop a.toNat) 0 0 = gnF (l.drop (a.toNat + x.1)) x.1 x.2 ∧ (x.1 = 0 ∨ 0 ≤ a) ∧ st = st') (0,0) _ ⟨rfl,rfl,rfl,rfl,trivial⟩ rfl ⟨rfl,Nat.zero_le _,Nat.one_pos,rfl,.inl rfl,rfl⟩ ?_
 rintro m ⟨i,n⟩ ρ0 st' ⟨rfl,hi,hn,hg,h0a,rfl⟩
 simp only at hi hn hg h0a
 refine ⟨_,rfl,?_⟩
 rintro (_|_) h11
 ·replace h11 : ¬ ((i : Int) < (5)) := of_decide_eq_false h11
  refine Cu lo0 st [(0,vS p l.length),(1,vI a),(7,vI (n : Int)),(8,vI (i : Int)),(11,vB false)] fun _ => ?_
  refine cxs ?_
  exact cxs (Rt ⟨0,0,false,rfl,(by rw [← Int.toNat_of_nonneg (show 0 ≤ a by omega)]; exact gnR_end hg (.inl (by omega))),rfl⟩)
 ·replace h11 : (i : Int) < (5) := of_decide_eq_true h11
  refine Cu lo0 st [(0,vS p l.length),(1,vI a),(7,vI (n : Int)),(8,vI (i : Int)),(11,vB true)] fun _ => ?_
  refine cxs ?_
  refine ⟨_,rfl,?_⟩
  rintro (_|_) h15
  ·replace h15 : ¬ (a < (0)) := of_decide_eq_false h15
   refine ⟨_,rfl,?_⟩
   have ew21 : IntKind.wrap .i64 ((l.length : Int) - (i : Int)) = (l.length : Int) - (i : Int) := wrap_i64 (by omega) (by omega)
   iterate 2 refine ⟨_,rfl,?_⟩
   rintro (_|_) h22
   ·replace h22 : ¬ (a ≥ (IntKind.wrap .i64 ((l.length : Int) - (i : Int)))) := of_decide_eq_false h22
    rw [ew21] at h22
    refine ⟨_,rfl,?_⟩
    refine Cu lo0 st [(0,vS p l.length),(1,vI a),(7,vI (n : Int)),(8,vI (i : Int)),(11,vB true),(23,vB false)] fun _ => ?_
    obtain ⟨a,rfl⟩ := Int.eq_ofNat_of_zero_le (show 0 ≤ a by omega)
    rw [Int.toNat_natCast] at hg
    refine cxs ?_
    have ew27 : IntKind.wrap .i64 (a + (i : Int)) = a + (i : Int) := wrap_i64 (by omega) (by omega)
    refine ⟨_,rfl,?_⟩
    refine op_at ((a + (i : Int)).toNat) hR (by omega) rfl rfl rfl rfl (by rw [ew27]; omega) rfl rfl ?_
    intro x28 b28 d28 k28 hy28 hb28 hm28 hc28 ho28
    refine ⟨_,op_ldc (i := 0) rfl rfl rfl rfl hm28 hc28 rfl rfl,?_⟩
    refine ⟨_,op_ofB rfl rfl rfl rfl rfl (hl.at hy28),?_⟩
    refine Cu lo0 st [(0,vS p l.length),(1,vI a),(7,vI (n : Int)),(8,vI (i : Int)),(9,vI (x28 : Int)),(11,vB true),(23,vB false)] fun _ => ?_
    obtain ⟨x28,rfl⟩ := Int.eq_ofNat_of_zero_le (show 0 ≤ x28 from (hl _ (List.mem_of_getElem? hy28)).1)
    rw [show ((a : Int) + (i : Int)).toNat = a + i by omega] at hy28
    have hi4 : i ≤ 4 := by omega
    have hq := pow7 hi4 x28
    have hn4 := pow7n hi4 hn
    have hx := (hl _ (List.mem_of_getElem? hy28)).2
    refine ⟨_,op_rm (r := ((x28 % 128 : Nat) : Int)) rfl rfl rfl (by decide) ((tm_emod 128 (by omega)).trans (by omega)),?_⟩
    have ew35 : IntKind.wrap .i64 ((7) * (i : Int)) = (7) * (i : Int) := wrap_i64 (by omega) (by omega)
    refine ⟨_,rfl,?_⟩
    refine ⟨_,op_sl (b := 7 * i) (r := ((x28 % 128 * 2 ^ (7 * i) : Nat) : Int)) rfl rfl (congrArg vI (ew35.trans (by omega))) (by omega) (by push_cast; rfl) (by omega) (by omega),?_⟩
    refine ⟨_,op_or (r := ((n + x28 % 128 * 2 ^ (7 * i) : Nat) : Int)) rfl rfl rfl (or_add hn (by omega) hi4),?_⟩
    refine Cu lo0 st [(0,vS p l.length),(1,vI a),(7,vI ((n + x28 % 128 * 2 ^ (7 * i) : Nat) : Int)),(8,vI (i : Int)),(9,vI (x28 : Int)),(11,vB true),(23,vB false)] fun _ => ?_
    refine ⟨_,rfl,?_⟩
    rintro (_|_) h39
    ·replace h39 : ¬ ((x28 : Int) < (128)) := of_decide_eq_false h39
     refine Cu lo0 st [(0,vS p l.length),(1,vI a),(7,vI ((n + x28 % 128 * 2 ^ (7 * i) : Nat) : Int)),(8,vI (i : Int)),(9,vI (x28 : Int)),(11,vB true),(23,vB false),(39,vB false)] fun _ => ?_
     refine cxs ?_
     have ew13 : IntKind.wrap .i64 ((i : Int) + (1)) = ((i + 1 : Nat) : Int) := (wrap_i64 (by omega) (by omega)).trans (by omega)
     refine ⟨_,rfl,?_⟩
     exact ⟨(i + 1,n + x28 % 128 * 2 ^ (7 * i)),5 - (i + 1),by omega,⟨rfl,rfl,rfl,congrArg (Value.int .i64) ew13,trivial⟩,rfl,rfl,by simp only; omega,pow7s hn,hg.trans (gnF_go (c := x28 % 128) hy28 hi4 (by omega) (by omega)),.inr (by omega),rfl⟩
    ·replace h39 : (x28 : Int) < (128) := of_decide_eq_true h39
     refine Cu lo0 st [(0,vS p l.length),(1,vI a),(7,vI ((n + x28 % 128 * 2 ^ (7 * i) : Nat) : Int)),(8,vI (i : Int)),(9,vI (x28 : Int)),(11,vB true),(23,vB false),(39,vB true)] fun _ => ?_
     refine ⟨_,rfl,?_⟩
     rintro (_|_) h41
     ·replace h41 : ¬ ((i : Int) > (0)) := of_decide_eq_false h41
      iterate 2 refine ⟨_,rfl,?_⟩
      rintro (_|_) h48
      ·replace h48 : ¬ (((n + x28 % 128 * 2 ^ (7 * i) : Nat) : Int) > (2147483647)) := of_decide_eq_false h48
       refine ⟨_,rfl,?_⟩
       refine Cu lo0 st [(0,vS p l.length),(1,vI a),(7,vI ((n + x28 % 128 * 2 ^ (7 * i) : Nat) : Int)),(8,vI (i : Int)),(9,vI (x28 : Int)),(11,vB true),(23,vB false),(39,vB true),(49,vB false)] fun _ => ?_
       refine cxs ?_
       have ew53 : IntKind.wrap .i64 (a + (i : Int)) = a + (i : Int) := wrap_i64 (by omega) (by omega)
       refine ⟨_,rfl,?_⟩
       have ew54 : IntKind.wrap .i64 ((IntKind.wrap .i64 (a + (i : Int))) + (1)) = (a + (i : Int)) + (1) := by rw [ew53]; exact wrap_i64 (by omega) (by omega)
       refine ⟨_,rfl,?_⟩
       exact cxs (Rt ⟨_,_,true,rfl,(by rw [ew54]; exact gnR_yes hg hy28 hi4 (by omega) (by omega)),rfl⟩)
      ·replace h48 : ((n + x28 % 128 * 2 ^ (7 * i) : Nat) : Int) > (2147483647) := of_decide_eq_true h48
       refine ⟨_,rfl,?_⟩
       refine Cu lo0 st [(0,vS p l.length),(1,vI a),(7,vI ((n + x28 % 128 * 2 ^ (7 * i) : Nat) : Int)),(8,vI (i : Int)),(9,vI (x28 : Int)),(11,vB true),(23,vB false),(39,vB true),(49,vB true)] fun _ => ?_
       exact cxs (Rt ⟨0,0,false,rfl,gnR_no hg hy28 (by omega) (by omega),rfl⟩)
     ·replace h41 : (i : Int) > (0) := of_decide_eq_true h41
      refine ⟨_,rfl,?_⟩
      rintro (_|_) h44
      ·replace h44 : ¬ ((x28 : Int) = (0)) := beq_eq_false_iff_ne.1 h44
       iterate 2 refine ⟨_,rfl,?_⟩
       rintro (_|_) h48
       ·replace h48 : ¬ (((n + x28 % 128 * 2 ^ (7 * i) : Nat) : Int) > (2147483647)) := of_decide_eq_false h48
        refine ⟨_,rfl,?_⟩
        refine Cu lo0 st [(0,vS p l.length),(1,vI a),(7,vI ((n + x28 % 128 * 2 ^ (7 * i) : Nat) : Int)),(8,vI (i : Int)),(9,vI (x28 : Int)),(11,vB true),(23,vB false),(39,vB true),(49,vB false)] fun _ => ?_
        refine cxs ?_
        have ew53 : IntKind.wrap .i64 (a + (i : Int)) = a + (i : Int) := wrap_i64 (by omega) (by omega)
        refine ⟨_,rfl,?_⟩
        have ew54 : IntKind.wrap .i64 ((IntKind.wrap .i64 (a + (i : Int))) + (1)) = (a + (i : Int)) + (1) := by rw [ew53]; exact wrap_i64 (by omega) (by omega)
        refine ⟨_,rfl,?_⟩
        exact cxs (Rt ⟨_,_,true,rfl,(by rw [ew54]; exact gnR_yes hg hy28 hi4 (by omega) (by omega)),rfl⟩)
       ·replace h48 : ((n + x28 % 128 * 2 ^ (7 * i) : Nat) : Int) > (2147483647) := of_decide_eq_true h48
        refine ⟨_,rfl,?_⟩
        refine Cu lo0 st [(0,vS p l.length),(1,vI a),(7,vI ((n + x28 % 128 * 2 ^ (7 * i) : Nat) : Int)),(8,vI (i : Int)),(9,vI (x28 : Int)),(11,vB true),(23,vB false),(39,vB true),(49,vB true)] fun _ => ?_
        exact cxs (Rt ⟨0,0,false,rfl,gnR_no hg hy28 (by omega) (by omega),rfl⟩)
      ·replace h44 : (x28 : Int) = (0) := beq_iff_eq.1 h44
       iterate 2 refine ⟨_,rfl,?_⟩
       refine Cu lo0 st [(0,vS p l.length),(1,vI a),(7,vI ((n + x28 % 128 * 2 ^ (7 * i) : Nat) : Int)),(8,vI (i : Int)),(9,vI (x28 : Int)),(11,vB true),(23,vB false),(39,vB true),(49,vB true)] fun _ => ?_
       exact cxs (Rt ⟨0,0,false,rfl,gnR_no hg hy28 (by omega) (by omega),rfl⟩)
   ·replace h22 : a ≥ (IntKind.wrap .i64 ((l.length : Int) - (i : Int))) := of_decide_eq_true h22
    rw [ew21] at h22
    refine ⟨_,rfl,?_⟩
    refine Cu lo0 st [(0,vS p l.length),(1,vI a),(7,vI (n : Int)),(8,vI (i : Int)),(11,vB true),(23,vB true)] fun _ => ?_
    exact cxs (Rt ⟨0,0,false,rfl,(by rw [← Int.toNat_of_nonneg (show 0 ≤ a by omega)]; exact gnR_end hg (.inr (by omega))),rfl⟩)
  ·replace h15 : a < (0) := of_decide_eq_true h15
   refine ⟨_,rfl,?_⟩
   refine Cu lo0 st [(0,vS p l.length),(1,vI a),(7,vI (n : Int)),(8,vI (i : Int)),(11,vB true),(23,vB true)] fun _ => ?_
   exact cxs (Rt ⟨0,0,false,rfl,(gnR_neg h15).symm,rfl⟩)
end Go.Proofs.Yteabadoaeadcgaa.AM
