/- Part 4 of the texts on which the law's proof rests. -/
import Derived.Test.YtpnolkhfeliehaaGreatXkc
import Derived.Lib.Bytealg
namespace Go.Proofs.YtpnolkhfeliehaaGreat.AM
open Go Go.Proofs
set_option linter.unusedVariables false
set_option linter.unusedSimpArgs false
set_option maxRecDepth 100000
set_option maxHeartbeats 4000000
def vecOk (l : List Int) (n : Int) : Prop := (1 ≤ n ∧ n ≤ 5) ∧ (l.length : Int) = n ∧ ∀ (j : Nat) x,l[j]? = some x → 0 ≤ x ∧ x ≤ 100000
theorem upto {α : Type} {l : List α} {P : Nat → α → Prop} {i : Nat} {y : α} (h : ∀ (j : Nat) x,j < i → l[j]? = some x → P j x) (hy : l[i]? = some y) (hp : P i y) : ∀ (j : Nat) x,j < i + 1 → l[j]? = some x → P j x := fun j x hj hx => by
 rcases Nat.lt_or_ge j i with h1 | h1
 ·exact h j x h1 hx
 ·obtain rfl : j = i := by omega
  rw [hy] at hx
  injection hx with hx
  rw [← hx]; exact hp
theorem upall {α : Type} {l : List α} {P : Nat → α → Prop} {i : Nat} (h : ∀ (j : Nat) x,j < i → l[j]? = some x → P j x) (hi : l.length ≤ i) : ∀ (j : Nat) x,l[j]? = some x → P j x := fun j x hx => h j x (by have := (List.getElem?_eq_some_iff.1 hx).1; omega) hx
theorem ac_impl_VecOk (p : Option Addr) (l : List Int) (n : Int) (st : St) (hR : Rows st 1 fI p l) (hs : szOk l.length) : C 65 [vS p l.length,vI n] st (fun v s => ∃ x,v = .bool x ∧ (x = true ↔ vecOk l n) ∧ s = st) := by
 have hs : l.length ≤ 1048576 := hs
 refine AC.enterX (i := ⟨[],[],[0,1,4,6,7,8,9,10,15],[]⟩) [] Tryz.func65 rfl rfl (by kernel_rfl) (by kernel_rfl) Tryz.ntmps65 (Lb rfl) rfl ?_
 refine Cu lo0 st [(0,vS p l.length),(1,vI n),(4,vB false)] fun _ => ?_
 refine ⟨_,rfl,?_⟩
 refine Cu lo0 st [(0,vS p l.length),(1,vI n),(4,vB false),(7,vS p l.length),(8,vI (l.length : Int)),(9,vI 0)] fun _ => ?_
 refine AW.loop0 (fun i : Nat => [(0,vS p l.length),(1,vI n),(7,vS p l.length),(8,vI (l.length : Int)),(9,vI (i : Int))]) (fun m (i : Nat) st' => m = l.length - i ∧ i ≤ l.length ∧ (∀ (j : Nat) x,j < i → l[j]? = some x → 0 ≤ x ∧ x ≤ 100000) ∧ st = st') 0 _ ⟨rfl,rfl,rfl,rfl,rfl,trivial⟩ rfl ⟨rfl,Nat.zero_le _,fun j x h => absurd h (Nat.not_lt_zero _),rfl⟩ ?_
 rintro m i ρ0 st' ⟨rfl,hi,hok,rfl⟩
 refine ⟨_,rfl,?_⟩
 rintro (_|_) h10
 ·replace h10 : ¬ ((i : Int) < (l.length : Int)) := of_decide_eq_false h10
  refine Cu lo0 st [(0,vS p l.length),(1,vI n),(7,vS p l.length),(8,vI (l.length : Int)),(9,vI (i : Int)),(10,vB false)] fun _ => ?_
  refine cxs ?_
  refine ⟨_,rfl,(ac_impl_within n 1 5 st).mono ?_⟩
  rintro _ st ⟨x18,rfl,h18,rfl⟩
  rcases x18 with _|_
  ·replace h18 := of_decide_eq_false h18.symm
   refine ⟨_,rfl,?_⟩
   exact cxs (Rt ⟨false,rfl,⟨fun h => absurd h Bool.false_ne_true,fun h => (show False from (h18 h.1)).elim⟩,rfl⟩)
  ·replace h18 := of_decide_eq_true h18.symm
   iterate 2 refine ⟨_,rfl,?_⟩
   rintro (_|_) h23
   ·replace h23 : ¬ ((l.length : Int) = n) := beq_eq_false_iff_ne.1 h23
    refine ⟨_,rfl,?_⟩
    exact cxs (Rt ⟨false,rfl,⟨fun h => absurd h Bool.false_ne_true,fun h => (show False from (h23 h.2.1)).elim⟩,rfl⟩)
   ·replace h23 : (l.length : Int) = n := beq_iff_eq.1 h23
    refine ⟨_,rfl,?_⟩
    exact cxs (Rt ⟨true,rfl,⟨fun _ => ⟨h18,h23,upall (P := fun _ x => 0 ≤ x ∧ x ≤ 100000) hok (by omega)⟩,fun _ => rfl⟩,rfl⟩)
 ·replace h10 : (i : Int) < (l.length : Int) := of_decide_eq_true h10
  refine Cu lo0 st [(0,vS p l.length),(1,vI n),(7,vS p l.length),(8,vI (l.length : Int)),(9,vI (i : Int)),(10,vB true)] fun _ => ?_
  refine cxs ?_
  refine op_at i hR (by omega) rfl rfl rfl rfl rfl rfl rfl ?_
  intro x11 b11 d11 k11 hy11 hb11 hm11 hc11 ho11
  refine ⟨_,op_ldc (i := 0) rfl rfl rfl rfl hm11 hc11 rfl rfl,?_⟩
  refine Cu lo0 st [(0,vS p l.length),(1,vI n),(6,vI x11),(7,vS p l.length),(8,vI (l.length : Int)),(9,vI (i : Int)),(10,vB true)] fun _ => ?_
  refine ⟨_,rfl,(ac_impl_within x11 0 100000 st).mono ?_⟩
  rintro _ st ⟨x14,rfl,h14,rfl⟩
  rcases x14 with _|_
  ·replace h14 := of_decide_eq_false h14.symm
   refine ⟨_,rfl,?_⟩
   refine Cu lo0 st [(0,vS p l.length),(1,vI n),(6,vI x11),(7,vS p l.length),(8,vI (l.length : Int)),(9,vI (i : Int)),(10,vB true),(15,vB true)] fun _ => ?_
   exact cxs (Rt ⟨false,rfl,⟨fun h => absurd h Bool.false_ne_true,fun h => (show False from (absurd (h.2.2 i x11 hy11) h14)).elim⟩,rfl⟩)
  ·replace h14 := of_decide_eq_true h14.symm
   refine ⟨_,rfl,?_⟩
   refine Cu lo0 st [(0,vS p l.length),(1,vI n),(6,vI x11),(7,vS p l.length),(8,vI (l.length : Int)),(9,vI (i : Int)),(10,vB true),(15,vB false)] fun _ => ?_
   refine cxs ?_
   have ew16 : IntKind.wrap .i64 ((i : Int) + (1)) = ((i + 1 : Nat) : Int) := (wrap_i64 (by omega) (by omega)).trans (by omega)
   refine ⟨_,rfl,?_⟩
   exact ⟨i + 1,l.length - (i + 1),by omega,⟨rfl,rfl,rfl,rfl,congrArg (Value.int .i64) ew16,trivial⟩,rfl,rfl,by omega,upto (P := fun _ x => 0 ≤ x ∧ x ≤ 100000) hok hy11 h14,rfl⟩
theorem ac_spec_VecOk (p : Option Addr) (l : List Int) (n : Int) (st : St) (hR : Rows st 1 fI p l) (hs : szOk l.length) : C 76 [vS p l.length,vI n] st (fun v s => ∃ x,v = .bool x ∧ (x = true ↔ vecOk l n) ∧ s = st) := by
 have hs : l.length ≤ 1048576 := hs
 refine AC.enterX (i := ⟨[],[],[0,1,4,5,14,17,25],[]⟩) [] Tryz.func76 rfl rfl (by kernel_rfl) (by kernel_rfl) Tryz.ntmps76 (Lb rfl) rfl ?_
 refine Cu lo0 st [(0,vS p l.length),(1,vI n),(4,vB false)] fun _ => ?_
 refine ⟨_,rfl,(ac_spec_l1In n 1 5 st).mono ?_⟩
 rintro _ st ⟨x7,rfl,h7,rfl⟩
 rcases x7 with _|_
 ·replace h7 := of_decide_eq_false h7.symm
  iterate 2 refine ⟨_,rfl,?_⟩
  refine Cu lo0 st [(0,vS p l.length),(1,vI n),(4,vB false),(14,vB true)] fun _ => ?_
  exact cxs (Rt ⟨false,rfl,⟨fun h => absurd h Bool.false_ne_true,fun h => (show False from (h7 h.1)).elim⟩,rfl⟩)
 ·replace h7 := of_decide_eq_true h7.symm
  iterate 3 refine ⟨_,rfl,?_⟩
  rintro (_|_) h13
  ·replace h13 : (l.length : Int) = n := bne_eq_false_iff_eq.1 h13
   refine ⟨_,rfl,?_⟩
   refine Cu lo0 st [(0,vS p l.length),(1,vI n),(4,vB false),(14,vB false)] fun _ => ?_
   refine cxs ?_
   refine Cu lo0 st [(0,vS p l.length),(1,vI n),(4,vB false),(5,vI 0)] fun _ => ?_
   refine AW.loop0 (fun i : Nat => [(0,vS p l.length),(1,vI n),(5,vI (i : Int))]) (fun m (i : Nat) st' => m = l.length - i ∧ i ≤ l.length ∧ (∀ (j : Nat) x,j < i → l[j]? = some x → 0 ≤ x ∧ x ≤ 100000) ∧ st = st') 0 _ ⟨rfl,rfl,rfl,trivial⟩ rfl ⟨rfl,Nat.zero_le _,fun j x h => absurd h (Nat.not_lt_zero _),rfl⟩ ?_
   rintro m i ρ0 st' ⟨rfl,hi,hok,rfl⟩
   refine ⟨_,rfl,?_⟩
   rintro (_|_) h17
   ·replace h17 : ¬ ((i : Int) < n) := of_decide_eq_false h17
    refine Cu lo0 st [(0,vS p l.length),(1,vI n),(5,vI (i : Int)),(17,vB false)] fun _ => ?_
    refine cxs ?_
    exact cxs (Rt ⟨true,rfl,⟨fun _ => ⟨h7,h13,upall (P := fun _ x => 0 ≤ x ∧ x ≤ 100000) hok (by omega)⟩,fun _ => rfl⟩,rfl⟩)
   ·replace h17 : (i : Int) < n := of_decide_eq_true h17
    refine Cu lo0 st [(0,vS p l.length),(1,vI n),(5,vI (i : Int)),(17,vB true)] fun _ => ?_
    refine cxs ?_
    refine op_at i hR (by omega) rfl rfl rfl rfl rfl rfl rfl ?_
    intro x22 b22 d22 k22 hy22 hb22 hm22 hc22 ho22
    refine ⟨_,op_ldc (i := 0) rfl rfl rfl rfl hm22 hc22 rfl rfl,?_⟩
    refine ⟨_,rfl,(ac_spec_l1In x22 0 100000 st).mono ?_⟩
    rintro _ st ⟨x24,rfl,h24,rfl⟩
    rcases x24 with _|_
    ·replace h24 := of_decide_eq_false h24.symm
     refine ⟨_,rfl,?_⟩
     refine Cu lo0 st [(0,vS p l.length),(1,vI n),(5,vI (i : Int)),(17,vB true),(25,vB true)] fun _ => ?_
     exact cxs (Rt ⟨false,rfl,⟨fun h => absurd h Bool.false_ne_true,fun h => (show False from (absurd (h.2.2 i x22 hy22) h24)).elim⟩,rfl⟩)
    ·replace h24 := of_decide_eq_true h24.symm
     refine ⟨_,rfl,?_⟩
     refine Cu lo0 st [(0,vS p l.length),(1,vI n),(5,vI (i : Int)),(17,vB true),(25,vB false)] fun _ => ?_
     refine cxs ?_
     have ew19 : IntKind.wrap .i64 ((i : Int) + (1)) = ((i + 1 : Nat) : Int) := (wrap_i64 (by omega) (by omega)).trans (by omega)
     refine ⟨_,rfl,?_⟩
     exact ⟨i + 1,l.length - (i + 1),by omega,⟨rfl,rfl,congrArg (Value.int .i64) ew19,trivial⟩,rfl,rfl,by omega,upto (P := fun _ x => 0 ≤ x ∧ x ≤ 100000) hok hy22 h24,rfl⟩
  ·replace h13 : ¬ ((l.length : Int) = n) := bne_iff_ne.1 h13
   refine ⟨_,rfl,?_⟩
   refine Cu lo0 st [(0,vS p l.length),(1,vI n),(4,vB false),(14,vB true)] fun _ => ?_
   exact cxs (Rt ⟨false,rfl,⟨fun h => absurd h Bool.false_ne_true,fun h => (show False from (h13 h.2.1)).elim⟩,rfl⟩)
theorem ac_slices_Max (p : Option Addr) (l : List Int) (st : St) (hR : Rows st 1 fI p l) (hs : szOk l.length) (h0 : 0 < l.length) : C 66 [vS p l.length] st (fun v s => ∃ x,v = vI x ∧ (∀ (c : Int),x ≤ c ↔ ∀ (j : Nat) y,l[j]? = some y → y ≤ c) ∧ s = st) := by
 have hs : l.length ≤ 1048576 := hs
 refine AC.enterX (i := ⟨[],[],[0,2,3,4,7,15],[]⟩) [] Tryz.func66 rfl rfl (by kernel_rfl) (by kernel_rfl) Tryz.ntmps66 (Lb rfl) rfl ?_
 refine Cu lo0 st [(0,vS p l.length),(2,vI 0)] fun _ => ?_
 iterate 2 refine ⟨_,rfl,?_⟩
 rintro (_|_) h7
 rotate_left
 ·exact absurd (of_decide_eq_true h7) ((by omega))
 refine Cu lo0 st [(0,vS p l.length),(2,vI 0),(7,vB false)] fun _ => ?_
 refine cxs ?_
 refine op_at 0 hR (by omega) rfl rfl rfl rfl rfl rfl rfl ?_
 intro x10 b10 d10 k10 hy10 hb10 hm10 hc10 ho10
 refine ⟨_,op_ldc (i := 0) rfl rfl rfl rfl hm10 hc10 rfl rfl,?_⟩
 refine cxs ?_
 refine Cu lo0 st [(0,vS p l.length),(2,vI 0),(3,vI x10),(4,vI 1)] fun _ => ?_
 refine AW.loop0 (fun x : Nat × Int => [(0,vS p l.length),(2,vI (0)),(3,vI x.2),(4,vI (x.1 : Int))]) (fun m (x : Nat × Int) st' => m = l.length - x.1 ∧ x.1 ≤ l.length ∧ (∀ (c : Int),x.2 ≤ c ↔ ∀ (j : Nat) y,j < x.1 → l[j]? = some y → y ≤ c) ∧ st = st') (1,x10) _ ⟨rfl,rfl,rfl,rfl,trivial⟩ rfl ⟨rfl,h0,fun c => ⟨fun h j y hj hy => by obtain rfl : j = 0 := (by omega : j = 0); rw [hy10] at hy; injection hy with hy; rw [← hy]; exact h,fun h => h 0 x10 Nat.one_pos hy10⟩,rfl⟩ ?_
 rintro m ⟨i,w⟩ ρ0 st' ⟨rfl,hi,hok,rfl⟩
 simp only at hi hok
 iterate 2 refine ⟨_,rfl,?_⟩
 rintro (_|_) h15
 ·replace h15 : ¬ ((i : Int) < (l.length : Int)) := of_decide_eq_false h15
  refine Cu lo0 st [(0,vS p l.length),(2,vI 0),(3,vI w),(4,vI (i : Int)),(15,vB false)] fun _ => ?_
  refine cxs ?_
  exact cxs (Rt ⟨w,rfl,fun c => (hok c).trans ⟨fun h => upall (P := fun _ x => x ≤ c) h (by omega),fun h j y _ hy => h j y hy⟩,rfl⟩)
 ·replace h15 : (i : Int) < (l.length : Int) := of_decide_eq_true h15
  refine Cu lo0 st [(0,vS p l.length),(2,vI 0),(3,vI w),(4,vI (i : Int)),(15,vB true)] fun _ => ?_
  refine cxs ?_
  refine op_at i hR (by omega) rfl rfl rfl rfl rfl rfl rfl ?_
  intro x21 b21 d21 k21 hy21 hb21 hm21 hc21 ho21
  refine ⟨_,op_ldc (i := 0) rfl rfl rfl rfl hm21 hc21 rfl rfl,?_⟩
  refine ⟨.int .i64 (max w x21),ammL_max _ _,?_⟩
  refine Cu lo0 st [(0,vS p l.length),(2,vI 0),(3,vI (max w x21)),(4,vI (i : Int)),(15,vB true)] fun _ => ?_
  have ew17 : IntKind.wrap .i64 ((i : Int) + (1)) = ((i + 1 : Nat) : Int) := (wrap_i64 (by omega) (by omega)).trans (by omega)
  refine ⟨_,rfl,?_⟩
  refine ⟨(i + 1,max w x21),l.length - (i + 1),by omega,⟨rfl,rfl,rfl,congrArg (Value.int .i64) ew17,trivial⟩,rfl,rfl,by simp only; omega,fun c => ⟨fun h => ?_,fun h => ?_⟩,rfl⟩
  ·simp only at h
   exact upto (P := fun _ x => x ≤ c) ((hok c).1 (by omega)) hy21 (by omega)
  ·have h1 := (hok c).2 fun j y hj hy => h j y (Nat.lt_succ_of_lt hj) hy
   have h2 := h i x21 (Nat.lt_succ_self i) hy21
   show max w x21 ≤ c
   omega
theorem ac_impl_isPeer (g : NV) (k : Int) (st : St) (hn : 1 ≤ g.n ∧ g.n ≤ 5) : C 89 [(vNV g),vI k] st (fun v s => ∃ x,v = .bool x ∧ (x = true ↔ (0 ≤ k ∧ k ≤ g.n - 1) ∧ ¬ k = g.id) ∧ s = st) := by
 refine AC.enterX (i := ⟨[2],[2,6,12],[0,1,2,4],[]⟩) [] Tryz.func89 rfl rfl (by kernel_rfl) (by kernel_rfl) Tryz.ntmps89 (Lb rfl) rfl ?_
 refine ⟨_,rfl,?_⟩
 refine Cm 1 st [(1,vI k),Ml 2 0,(4,vB false)] [(2,0,cNV g)] fun _ _ => ?_
 refine ⟨_,rfl,?_⟩
 refine ⟨_,Od rfl,?_⟩
 have ew8 : IntKind.wrap .i64 (g.n - (1)) = g.n - (1) := wrap_i64 (by omega) (by omega)
 refine ⟨_,rfl,?_⟩
 refine ⟨_,rfl,(ac_impl_within k 0 (IntKind.wrap .i64 (g.n - (1))) st).mono ?_⟩
 rintro _ st ⟨x9,rfl,h9,rfl⟩
 rcases x9 with _|_
 ·replace h9 := of_decide_eq_false h9.symm
  rw [ew8] at h9
  refine ⟨_,rfl,?_⟩
  exact cxs (Rt ⟨false,rfl,⟨fun h => absurd h Bool.false_ne_true,fun h => (show False from (h9 h.1)).elim⟩,rfl⟩)
 ·replace h9 := of_decide_eq_true h9.symm
  rw [ew8] at h9
  refine ⟨_,rfl,?_⟩
  refine ⟨_,Od rfl,?_⟩
  refine ⟨_,rfl,?_⟩
  rintro (_|_) h14
  ·replace h14 : k = g.id := bne_eq_false_iff_eq.1 h14
   refine ⟨_,rfl,?_⟩
   exact cxs (Rt ⟨false,rfl,⟨fun h => absurd h Bool.false_ne_true,fun h => (show False from (h.2 h14)).elim⟩,rfl⟩)
  ·replace h14 : ¬ (k = g.id) := bne_iff_ne.1 h14
   refine ⟨_,rfl,?_⟩
   exact cxs (Rt ⟨true,rfl,⟨fun _ => ⟨h9,h14⟩,fun _ => rfl⟩,rfl⟩)
theorem ac_spec_l13Peer (g : NV) (k : Int) (st : St) (hn : 1 ≤ g.n ∧ g.n ≤ 5) : C 92 [(vNV g),vI k] st (fun v s => ∃ x,v = .bool x ∧ (x = true ↔ (0 ≤ k ∧ k ≤ g.n - 1) ∧ ¬ k = g.id) ∧ s = st) := by
 refine AC.enterX (i := ⟨[2],[2,6,12],[0,1,2,4],[]⟩) [] Tryz.func92 rfl rfl (by kernel_rfl) (by kernel_rfl) Tryz.ntmps92 (Lb rfl) rfl ?_
 refine ⟨_,rfl,?_⟩
 refine Cm 1 st [(1,vI k),Ml 2 0,(4,vB false)] [(2,0,cNV g)] fun _ _ => ?_
 refine ⟨_,rfl,?_⟩
 refine ⟨_,Od rfl,?_⟩
 have ew8 : IntKind.wrap .i64 (g.n - (1)) = g.n - (1) := wrap_i64 (by omega) (by omega)
 refine ⟨_,rfl,?_⟩
 refine ⟨_,rfl,(ac_spec_l1In k 0 (IntKind.wrap .i64 (g.n - (1))) st).mono ?_⟩
 rintro _ st ⟨x9,rfl,h9,rfl⟩
 rcases x9 with _|_
 ·replace h9 := of_decide_eq_false h9.symm
  rw [ew8] at h9
  refine ⟨_,rfl,?_⟩
  exact cxs (Rt ⟨false,rfl,⟨fun h => absurd h Bool.false_ne_true,fun h => (show False from (h9 h.1)).elim⟩,rfl⟩)
 ·replace h9 := of_decide_eq_true h9.symm
  rw [ew8] at h9
  refine ⟨_,rfl,?_⟩
  refine ⟨_,Od rfl,?_⟩
  refine ⟨_,rfl,?_⟩
  rintro (_|_) h14
  ·replace h14 : k = g.id := bne_eq_false_iff_eq.1 h14
   refine ⟨_,rfl,?_⟩
   exact cxs (Rt ⟨false,rfl,⟨fun h => absurd h Bool.false_ne_true,fun h => (show False from (h.2 h14)).elim⟩,rfl⟩)
  ·replace h14 : ¬ (k = g.id) := bne_iff_ne.1 h14
   refine ⟨_,rfl,?_⟩
   exact cxs (Rt ⟨true,rfl,⟨fun _ => ⟨h9,h14⟩,fun _ => rfl⟩,rfl⟩)
def sesOk (x : Nd) (j : Nat) (y : Ses) : Prop := ((0 ≤ y.peer ∧ y.peer ≤ x.n - 1) ∧ ¬ y.peer = x.id) ∧ (0 ≤ y.num ∧ y.num ≤ 100000) ∧ (0 ≤ y.age ∧ y.age ≤ x.wait) ∧ ∀ (k : Nat) z,k < j → x.sess[k]? = some z → ¬ (z.peer = y.peer ∧ z.inn = y.inn)
def sessOk (x : Nd) : Prop := (x.sess.length : Int) ≤ x.slots ∧ ∀ (j : Nat) y,x.sess[j]? = some y → sesOk x j y
def risOk (x : Nd) (r : Ris) : Prop := (0 ≤ r.inc ∧ r.inc ≤ 1000) ∧ (0 ≤ r.beat ∧ r.beat ≤ 100000) ∧ (0 ≤ r.tick ∧ r.tick ≤ x.clock)
def risesOk (x : Nd) : Prop := x.rises.length = 5 ∧ ∀ (j : Nat) r,x.rises[j]? = some r → risOk x r
theorem slot_first : ∀ (l : List Ses) (p : Int) (b : Bool) (k j : Nat) (y : Ses),l[j]? = some y → y.peer = p → y.inn = b → (slotF l p b k = ((k + j : Nat) : Int) ↔ ∀ (i : Nat) z,i < j → l[i]? = some z → ¬ (z.peer = p ∧ z.inn = b))
 | [],_,_,_,_,_,h,_,_ => by cases h
 | x :: l,p,b,k,0,y,h,h1,h2 => by
  rw [List.getElem?_cons_zero] at h
  injection h with h
  subst h
  rw [slotF,if_pos ⟨h1,h2⟩]
  exact ⟨fun _ i z hi => absurd hi (Nat.not_lt_zero _),fun _ => rfl⟩
 | x :: l,p,b,k,j + 1,y,h,h1,h2 => by
  rw [List.getElem?_cons_succ] at h
  have ih := slot_first l p b (k + 1) j y h h1 h2
  rw [slotF]
  by_cases hx : x.peer = p ∧ x.inn = b
  ·rw [if_pos hx]
   exact ⟨fun h => by omega,fun h => absurd hx (h 0 x (Nat.succ_pos _) List.getElem?_cons_zero)⟩
  ·rw [if_neg hx,show k + (j + 1) = k + 1 + j by omega,ih]
   refine ⟨fun h i z hi hz => ?_,fun h i z hi hz => h (i + 1) z (by omega) (by rw [List.getElem?_cons_succ]; exact hz)⟩
   cases i with
   | zero =>
    rw [List.getElem?_cons_zero] at hz
    injection hz with hz
    rw [← hz]; exact hx
   | succ i =>
    rw [List.getElem?_cons_succ] at hz
    exact h i z (by omega) hz
theorem slot_at {l : List Ses} {j : Nat} {y : Ses} (h : l[j]? = some y) : slotF l y.peer y.inn 0 = (j : Int) ↔ ∀ (i : Nat) z,i < j → l[i]? = some z → ¬ (z.peer = y.peer ∧ z.inn = y.inn) := by
 have := slot_first l y.peer y.inn 0 j y h rfl rfl
 rwa [Nat.zero_add] at this
theorem ac_impl_sessOk (g : NV) (st : St) (hR : RdN st g) (hb : bigN g.x) (hn : 1 ≤ g.n ∧ g.n ≤ 5) : C 68 [(vNV g)] st (fun v s => ∃ x,v = .bool x ∧ (x = true ↔ (1 ≤ g.slots ∧ g.slots ≤ 4) ∧ sessOk g.x) ∧ s = st) := by
 have hs : g.sess.l.length ≤ 1048576 := hb.sess
 refine AC.enterX (i := ⟨[1,4],[1,4,5,14,19,25,27,34,36,43,47,50],[0,1,2,3,4,6,7,8,9,41],[]⟩) [] Tryz.func68 rfl rfl (by kernel_rfl) (by kernel_rfl) Tryz.ntmps68 (Lb rfl) rfl ?_
 refine ⟨_,rfl,?_⟩
 refine Cm 1 st [Ml 1 0,(2,vB false)] [(1,0,cNV g)] fun _ _ => ?_
 refine ⟨_,rfl,?_⟩
 refine ⟨_,Od rfl,?_⟩
 refine ⟨_,rfl,?_⟩
 refine Cm 1 st [Ml 1 0,(2,vB false),(6,vS g.sess.p g.sess.l.length),(7,vI (g.sess.l.length : Int)),(8,vI 0)] [(1,0,cNV g)] fun _ _ => ?_
 refine AW.loopM (fun i : Nat => [(1,vL 1 0 (0)),(6,vS g.sess.p g.sess.l.length),(7,vI (g.sess.l.length : Int)),(8,vI (i : Int))]) (fun i : Nat => [(1,0,cNV g)]) (fun m (i : Nat) st' => m = g.sess.l.length - i ∧ i ≤ g.sess.l.length ∧ (∀ (j : Nat) x,j < i → g.sess.l[j]? = some x → sesOk g.x j x) ∧ st = st') 0 _ ⟨rfl,rfl,rfl,rfl,trivial⟩ ⟨rfl,trivial⟩ ⟨rfl,Nat.zero_le _,fun j x h => absurd h (Nat.not_lt_zero _),rfl⟩ ?_
 rintro m i ρ0 ff gg st' ⟨rfl,hi,hok,rfl⟩
 refine ⟨_,rfl,?_⟩
 rintro (_|_) h9
 ·replace h9 : ¬ ((i : Int) < (g.sess.l.length : Int)) := of_decide_eq_false h9
  refine Cm gg st [Ml 1 0,(6,vS g.sess.p g.sess.l.length),(7,vI (g.sess.l.length : Int)),(8,vI (i : Int)),(9,vB false)] [(1,0,cNV g)] fun _ _ => ?_
  refine cxs ?_
  refine ⟨_,rfl,?_⟩
  refine ⟨_,Od rfl,?_⟩
  refine ⟨_,rfl,(ac_impl_within g.slots 1 4 st).mono ?_⟩
  rintro _ st ⟨x45,rfl,h45,rfl⟩
  rcases x45 with _|_
  ·replace h45 := of_decide_eq_false h45.symm
   refine ⟨_,rfl,?_⟩
   exact cxs (Rt ⟨false,rfl,⟨fun h => absurd h Bool.false_ne_true,fun h => (show False from (h45 h.1)).elim⟩,rfl⟩)
  ·replace h45 := of_decide_eq_true h45.symm
   refine ⟨_,rfl,?_⟩
   refine ⟨_,Od rfl,?_⟩
   iterate 2 refine ⟨_,rfl,?_⟩
   refine ⟨_,Od rfl,?_⟩
   refine ⟨_,rfl,?_⟩
   rintro (_|_) h52
   ·replace h52 : ¬ ((g.sess.l.length : Int) ≤ g.slots) := of_decide_eq_false h52
    refine ⟨_,rfl,?_⟩
    exact cxs (Rt ⟨false,rfl,⟨fun h => absurd h Bool.false_ne_true,fun h => (show False from (h52 h.2.1)).elim⟩,rfl⟩)
   ·replace h52 : (g.sess.l.length : Int) ≤ g.slots := of_decide_eq_true h52
    refine ⟨_,rfl,?_⟩
    exact cxs (Rt ⟨true,rfl,⟨fun _ => ⟨h45,h52,upall (P := sesOk g.x) hok (by show g.sess.l.length ≤ i; omega)⟩,fun _ => rfl⟩,rfl⟩)
 ·replace h9 : (i : Int) < (g.sess.l.length : Int) := of_decide_eq_true h9
  refine Cm gg st [Ml 1 0,(6,vS g.sess.p g.sess.l.length),(7,vI (g.sess.l.length : Int)),(8,vI (i : Int)),(9,vB true)] [(1,0,cNV g)] fun _ _ => ?_
  refine cxs ?_
  refine op_at i hR.sess (by omega) rfl rfl rfl rfl rfl rfl rfl ?_
  intro x11 b11 d11 k11 hy11 hb11 hm11 hc11 ho11
  refine ⟨_,op_lda rfl rfl rfl rfl rfl hm11 hc11 rfl,?_⟩
  refine ⟨_,rfl,?_⟩
  refine ⟨_,Os rfl,?_⟩
  refine Cm (gg + 1) st [Ml 1 0,(3,vI (i : Int)),Ml 4 gg,(6,vS g.sess.p g.sess.l.length),(7,vI (g.sess.l.length : Int)),(8,vI (i : Int)),(9,vB true)] [(1,0,cNV g),(4,gg,[vI x11.peer,vI x11.num,vB x11.inn,vI x11.age])] fun _ _ => ?_
  refine ⟨_,op_ldo (v := (vNV g)) rfl rfl rfl rfl,?_⟩
  refine ⟨_,rfl,?_⟩
  refine ⟨_,Od rfl,?_⟩
  refine ⟨_,rfl,(ac_impl_isPeer g x11.peer st (by first | assumption | omega)).mono ?_⟩
  rintro _ st ⟨x16,rfl,h16,rfl⟩
  rcases x16 with _|_
  ·replace h16 := fun k => Bool.false_ne_true (h16.2 k)
   iterate 3 refine ⟨_,rfl,?_⟩
   refine ow_cut [(1,vL 1 0 (0)),(3,vI (i : Int)),(4,vL 4 0 (gg)),(6,vS g.sess.p g.sess.l.length),(7,vI (g.sess.l.length : Int)),(8,vI (i : Int)),(9,vB true),(31,vB true)] ⟨rfl,rfl,rfl,rfl,rfl,rfl,rfl,rfl,trivial⟩ fun _ => ?_
   refine ⟨_,rfl,?_⟩
   refine Cm (gg + 1) st [Ml 1 0,(3,vI (i : Int)),Ml 4 gg,(6,vS g.sess.p g.sess.l.length),(7,vI (g.sess.l.length : Int)),(8,vI (i : Int)),(9,vB true),(41,vB true)] [(1,0,cNV g),(4,gg,[vI x11.peer,vI x11.num,vB x11.inn,vI x11.age])] fun _ _ => ?_
   exact cxs (Rt ⟨false,rfl,⟨fun h => absurd h Bool.false_ne_true,fun h => (show False from (h16 (h.2.2 i x11 hy11).1)).elim⟩,rfl⟩)
  ·replace h16 := h16.1 rfl
   iterate 2 refine ⟨_,rfl,?_⟩
   refine ⟨_,Od rfl,?_⟩
   refine ⟨_,rfl,(ac_impl_within x11.num 0 100000 st).mono ?_⟩
   rintro _ st ⟨x21,rfl,h21,rfl⟩
   rcases x21 with _|_
   ·replace h21 := of_decide_eq_false h21.symm
    iterate 3 refine ⟨_,rfl,?_⟩
    refine ow_cut [(1,vL 1 0 (0)),(3,vI (i : Int)),(4,vL 4 0 (gg)),(6,vS g.sess.p g.sess.l.length),(7,vI (g.sess.l.length : Int)),(8,vI (i : Int)),(9,vB true),(31,vB true)] ⟨rfl,rfl,rfl,rfl,rfl,rfl,rfl,rfl,trivial⟩ fun _ => ?_
    refine ⟨_,rfl,?_⟩
    refine Cm (gg + 1) st [Ml 1 0,(3,vI (i : Int)),Ml 4 gg,(6,vS g.sess.p g.sess.l.length),(7,vI (g.sess.l.length : Int)),(8,vI (i : Int)),(9,vB true),(41,vB true)] [(1,0,cNV g),(4,gg,[vI x11.peer,vI x11.num,vB x11.inn,vI x11.age])] fun _ _ => ?_
    exact cxs (Rt ⟨false,rfl,⟨fun h => absurd h Bool.false_ne_true,fun h => (show False from (h21 (h.2.2 i x11 hy11).2.1)).elim⟩,rfl⟩)
   ·replace h21 := of_decide_eq_true h21.symm
    iterate 3 refine ⟨_,rfl,?_⟩
    refine ⟨_,Od rfl,?_⟩
    refine ⟨_,rfl,?_⟩
    refine ⟨_,Od rfl,?_⟩
    refine ⟨_,rfl,(ac_impl_within x11.age 0 g.wait st).mono ?_⟩
    rintro _ st ⟨x29,rfl,h29,rfl⟩
    rcases x29 with _|_
    ·replace h29 := of_decide_eq_false h29.symm
     refine ⟨_,rfl,?_⟩
     refine ow_cut [(1,vL 1 0 (0)),(3,vI (i : Int)),(4,vL 4 0 (gg)),(6,vS g.sess.p g.sess.l.length),(7,vI (g.sess.l.length : Int)),(8,vI (i : Int)),(9,vB true),(24,vB false),(30,vB true)] ⟨rfl,rfl,rfl,rfl,rfl,rfl,rfl,rfl,rfl,trivial⟩ fun _ => ?_
     iterate 2 refine ⟨_,rfl,?_⟩
     refine Cm (gg + 1) st [Ml 1 0,(3,vI (i : Int)),Ml 4 gg,(6,vS g.sess.p g.sess.l.length),(7,vI (g.sess.l.length : Int)),(8,vI (i : Int)),(9,vB true),(41,vB true)] [(1,0,cNV g),(4,gg,[vI x11.peer,vI x11.num,vB x11.inn,vI x11.age])] fun _ _ => ?_
     exact cxs (Rt ⟨false,rfl,⟨fun h => absurd h Bool.false_ne_true,fun h => (show False from (h29 (h.2.2 i x11 hy11).2.2.1)).elim⟩,rfl⟩)
    ·replace h29 := of_decide_eq_true h29.symm
     refine ⟨_,rfl,?_⟩
     refine ow_cut [(1,vL 1 0 (0)),(3,vI (i : Int)),(4,vL 4 0 (gg)),(6,vS g.sess.p g.sess.l.length),(7,vI (g.sess.l.length : Int)),(8,vI (i : Int)),(9,vB true),(24,vB false),(30,vB false)] ⟨rfl,rfl,rfl,rfl,rfl,rfl,rfl,rfl,rfl,trivial⟩ fun _ => ?_
     refine ⟨_,rfl,?_⟩
     refine ⟨_,op_ldo (v := (vNV g)) rfl rfl rfl rfl,?_⟩
     refine ⟨_,rfl,?_⟩
     refine ⟨_,Od rfl,?_⟩
     refine ⟨_,rfl,?_⟩
     refine ⟨_,Od rfl,?_⟩
     refine ⟨_,rfl,(ac_impl_Slot g x11.peer x11.inn st hR (by first | assumption | omega)).mono ?_⟩
     rintro _ st ⟨rfl,rfl⟩
     refine ⟨_,rfl,?_⟩
     rintro (_|_) h40
     ·replace h40 : (slotF g.sess.l x11.peer x11.inn 0) = (i : Int) := bne_eq_false_iff_eq.1 h40
      refine ⟨_,rfl,?_⟩
      refine Cm (gg + 1) st [Ml 1 0,(3,vI (i : Int)),Ml 4 gg,(6,vS g.sess.p g.sess.l.length),(7,vI (g.sess.l.length : Int)),(8,vI (i : Int)),(9,vB true),(41,vB false)] [(1,0,cNV g),(4,gg,[vI x11.peer,vI x11.num,vB x11.inn,vI x11.age])] fun _ _ => ?_
      refine cxs ?_
      have ew42 : IntKind.wrap .i64 ((i : Int) + (1)) = ((i + 1 : Nat) : Int) := (wrap_i64 (by omega) (by omega)).trans (by omega)
      refine ⟨_,rfl,?_⟩
      exact ⟨i + 1,g.sess.l.length - (i + 1),by omega,⟨rfl,rfl,rfl,congrArg (Value.int .i64) ew42,trivial⟩,⟨rfl,trivial⟩,rfl,by omega,upto (P := sesOk g.x) hok hy11 ⟨h16,h21,h29,(slot_at hy11).1 h40⟩,rfl⟩
     ·replace h40 : ¬ ((slotF g.sess.l x11.peer x11.inn 0) = (i : Int)) := bne_iff_ne.1 h40
      refine ⟨_,rfl,?_⟩
      refine Cm (gg + 1) st [Ml 1 0,(3,vI (i : Int)),Ml 4 gg,(6,vS g.sess.p g.sess.l.length),(7,vI (g.sess.l.length : Int)),(8,vI (i : Int)),(9,vB true),(41,vB true)] [(1,0,cNV g),(4,gg,[vI x11.peer,vI x11.num,vB x11.inn,vI x11.age])] fun _ _ => ?_
      exact cxs (Rt ⟨false,rfl,⟨fun h => absurd h Bool.false_ne_true,fun h => (show False from (h40 ((slot_at hy11).2 (h.2.2 i x11 hy11).2.2.2))).elim⟩,rfl⟩)
theorem ac_spec_l11Sess (g : NV) (st : St) (hR : RdN st g) (hb : bigN g.x) (hn : 1 ≤ g.n ∧ g.n ≤ 5) : C 79 [(vNV g)] st (fun v s => ∃ x,v = .bool x ∧ (x = true ↔ sessOk g.x) ∧ s = st) := by
 have hs : g.sess.l.length ≤ 1048576 := hb.sess
 refine AC.enterX (i := ⟨[1,4],[1,4,6,9,13,19,24,26,32,34,39,45,47,57,63,67,73],[0,1,2,3,4,5,11,16,51,54,76],[]⟩) [(12,[],[])] Tryz.func79 rfl rfl (by kernel_rfl) (by kernel_rfl) Tryz.ntmps79 (Lb rfl) rfl ?_
 refine ⟨_,rfl,?_⟩
 refine Cm 1 st [Ml 1 0,(2,vB false)] [(1,0,cNV g)] fun _ _ => ?_
 refine ⟨_,rfl,?_⟩
 refine ⟨_,Od rfl,?_⟩
 iterate 2 refine ⟨_,rfl,?_⟩
 refine ⟨_,Od rfl,?_⟩
 refine ⟨_,rfl,?_⟩
 rintro (_|_) h11
 ·replace h11 : ¬ ((g.sess.l.length : Int) > g.slots) := of_decide_eq_false h11
  refine Cm 1 st [Ml 1 0,(2,vB false),(11,vB false)] [(1,0,cNV g)] fun _ _ => ?_
  refine cxs ?_
  refine Cm 1 st [Ml 1 0,(2,vB false),(3,vI 0)] [(1,0,cNV g)] fun _ _ => ?_
  refine AW.loopM (fun i : Nat => [(1,vL 1 0 (0)),(3,vI (i : Int))]) (fun i : Nat => [(1,0,cNV g)]) (fun m (i : Nat) st' => m = g.sess.l.length - i ∧ i ≤ g.sess.l.length ∧ (∀ (j : Nat) x,j < i → g.sess.l[j]? = some x → sesOk g.x j x) ∧ st = st') 0 _ ⟨rfl,rfl,trivial⟩ ⟨rfl,trivial⟩ ⟨rfl,Nat.zero_le _,fun j x h => absurd h (Nat.not_lt_zero _),rfl⟩ ?_
  rintro m i ρ0 ff gg st' ⟨rfl,hi,hok,rfl⟩
  refine ⟨_,rfl,?_⟩
  refine ⟨_,Od rfl,?_⟩
  iterate 2 refine ⟨_,rfl,?_⟩
  rintro (_|_) h16
  ·replace h16 : ¬ ((i : Int) < (g.sess.l.length : Int)) := of_decide_eq_false h16
   refine Cm gg st [Ml 1 0,(3,vI (i : Int)),(16,vB false)] [(1,0,cNV g)] fun _ _ => ?_
   refine cxs ?_
   exact cxs (Rt ⟨true,rfl,⟨fun _ => ⟨by show (g.sess.l.length : Int) ≤ g.slots; omega,upall (P := sesOk g.x) hok (by show g.sess.l.length ≤ i; omega)⟩,fun _ => rfl⟩,rfl⟩)
  ·replace h16 : (i : Int) < (g.sess.l.length : Int) := of_decide_eq_true h16
   refine Cm gg st [Ml 1 0,(3,vI (i : Int)),(16,vB true)] [(1,0,cNV g)] fun _ _ => ?_
   refine cxs ?_
   refine ⟨_,rfl,?_⟩
   refine ⟨_,Od rfl,?_⟩
   refine op_at i hR.sess (by omega) rfl rfl rfl rfl rfl rfl rfl ?_
   intro x22 b22 d22 k22 hy22 hb22 hm22 hc22 ho22
   refine ⟨_,op_lda rfl rfl rfl rfl rfl hm22 hc22 rfl,?_⟩
   refine ⟨_,rfl,?_⟩
   refine ⟨_,Os rfl,?_⟩
   refine Cm (gg + 1) st [Ml 1 0,(3,vI (i : Int)),Ml 4 gg,(16,vB true)] [(1,0,cNV g),(4,gg,[vI x22.peer,vI x22.num,vB x22.inn,vI x22.age])] fun _ _ => ?_
   refine ⟨_,rfl,?_⟩
   refine ⟨_,Od rfl,?_⟩
   refine ⟨_,rfl,?_⟩
   refine ⟨_,Od rfl,?_⟩
   have ew28 : IntKind.wrap .i64 (g.n - (1)) = g.n - (1) := wrap_i64 (by omega) (by omega)
   refine ⟨_,rfl,?_⟩
   refine ⟨_,rfl,(ac_spec_l1In x22.peer 0 (IntKind.wrap .i64 (g.n - (1))) st).mono ?_⟩
   rintro _ st ⟨x29,rfl,h29,rfl⟩
   rcases x29 with _|_
   ·replace h29 := of_decide_eq_false h29.symm
    rw [ew28] at h29
    iterate 3 refine ⟨_,rfl,?_⟩
    refine ow_cut [(1,vL 1 0 (0)),(3,vI (i : Int)),(4,vL 4 0 (gg)),(16,vB true),(43,vB true)] ⟨rfl,rfl,rfl,rfl,rfl,trivial⟩ fun _ => ?_
    refine ⟨_,rfl,?_⟩
    refine Cm (gg + 1) st [Ml 1 0,(3,vI (i : Int)),Ml 4 gg,(16,vB true),(51,vB true)] [(1,0,cNV g),(4,gg,[vI x22.peer,vI x22.num,vB x22.inn,vI x22.age])] fun _ _ => ?_
    exact cxs (Rt ⟨false,rfl,⟨fun h => absurd h Bool.false_ne_true,fun h => (show False from (h29 (h.2 i x22 hy22).1.1)).elim⟩,rfl⟩)
   ·replace h29 := of_decide_eq_true h29.symm
    rw [ew28] at h29
    iterate 2 refine ⟨_,rfl,?_⟩
    refine ⟨_,Od rfl,?_⟩
    refine ⟨_,rfl,?_⟩
    refine ⟨_,Od rfl,?_⟩
    refine ⟨_,rfl,?_⟩
    rintro (_|_) h36
    ·replace h36 : ¬ (x22.peer = g.id) := beq_eq_false_iff_ne.1 h36
     iterate 2 refine ⟨_,rfl,?_⟩
     refine ⟨_,Od rfl,?_⟩
     refine ⟨_,rfl,(ac_spec_l1In x22.num 0 100000 st).mono ?_⟩
     rintro _ st ⟨x41,rfl,h41,rfl⟩
     rcases x41 with _|_
     ·replace h41 := of_decide_eq_false h41.symm
      refine ow_cut [(1,vL 1 0 (0)),(3,vI (i : Int)),(4,vL 4 0 (gg)),(16,vB true),(38,vB false),(41,vB false)] ⟨rfl,rfl,rfl,rfl,rfl,rfl,trivial⟩ fun _ => ?_
      iterate 3 refine ⟨_,rfl,?_⟩
      refine Cm (gg + 1) st [Ml 1 0,(3,vI (i : Int)),Ml 4 gg,(16,vB true),(51,vB true)] [(1,0,cNV g),(4,gg,[vI x22.peer,vI x22.num,vB x22.inn,vI x22.age])] fun _ _ => ?_
      exact cxs (Rt ⟨false,rfl,⟨fun h => absurd h Bool.false_ne_true,fun h => (show False from (h41 (h.2 i x22 hy22).2.1)).elim⟩,rfl⟩)
     ·replace h41 := of_decide_eq_true h41.symm
      refine ow_cut [(1,vL 1 0 (0)),(3,vI (i : Int)),(4,vL 4 0 (gg)),(16,vB true),(38,vB false),(41,vB true)] ⟨rfl,rfl,rfl,rfl,rfl,rfl,trivial⟩ fun _ => ?_
      iterate 3 refine ⟨_,rfl,?_⟩
      refine ⟨_,Od rfl,?_⟩
      refine ⟨_,rfl,?_⟩
      refine ⟨_,Od rfl,?_⟩
      refine ⟨_,rfl,(ac_spec_l1In x22.age 0 g.wait st).mono ?_⟩
      rintro _ st ⟨x49,rfl,h49,rfl⟩
      rcases x49 with _|_
      ·replace h49 := of_decide_eq_false h49.symm
       iterate 2 refine ⟨_,rfl,?_⟩
       refine Cm (gg + 1) st [Ml 1 0,(3,vI (i : Int)),Ml 4 gg,(16,vB true),(51,vB true)] [(1,0,cNV g),(4,gg,[vI x22.peer,vI x22.num,vB x22.inn,vI x22.age])] fun _ _ => ?_
       exact cxs (Rt ⟨false,rfl,⟨fun h => absurd h Bool.false_ne_true,fun h => (show False from (h49 (h.2 i x22 hy22).2.2.1)).elim⟩,rfl⟩)
      ·replace h49 := of_decide_eq_true h49.symm
       iterate 2 refine ⟨_,rfl,?_⟩
       refine Cm (gg + 1) st [Ml 1 0,(3,vI (i : Int)),Ml 4 gg,(16,vB true),(51,vB false)] [(1,0,cNV g),(4,gg,[vI x22.peer,vI x22.num,vB x22.inn,vI x22.age])] fun _ _ => ?_
       refine cxs ?_
       refine Cm (gg + 1) st [Ml 1 0,(3,vI (i : Int)),Ml 4 gg,(5,vI 0),(16,vB true),(51,vB false)] [(1,0,cNV g),(4,gg,[vI x22.peer,vI x22.num,vB x22.inn,vI x22.age])] fun _ _ => ?_
       refine AW.loopM (fun k : Nat => [(1,vL 1 0 (0)),(3,vI (i : Int)),(4,vL 4 0 (gg)),(5,vI (k : Int)),(16,vB true),(51,vB false)]) (fun k : Nat => [(1,0,cNV g),(4,gg,[vI x22.peer,vI x22.num,vB x22.inn,vI x22.age])]) (fun m (k : Nat) st' => m = i - k ∧ k ≤ i ∧ (∀ (j : Nat) z,j < k → g.sess.l[j]? = some z → ¬ (z.peer = x22.peer ∧ z.inn = x22.inn)) ∧ st = st') 0 _ ⟨rfl,rfl,rfl,rfl,rfl,rfl,trivial⟩ ⟨rfl,rfl,trivial⟩ ⟨rfl,Nat.zero_le _,fun j x h => absurd h (Nat.not_lt_zero _),rfl⟩ ?_
       rintro m k ρ0 ff gg2 st' ⟨rfl,hk,hno,rfl⟩
       refine ⟨_,rfl,?_⟩
       rintro (_|_) h54
       ·replace h54 : ¬ ((k : Int) < (i : Int)) := of_decide_eq_false h54
        refine Cm gg2 st [Ml 1 0,(3,vI (i : Int)),Ml 4 gg,(5,vI (k : Int)),(16,vB true),(51,vB false),(54,vB false)] [(1,0,cNV g),(4,gg,[vI x22.peer,vI x22.num,vB x22.inn,vI x22.age])] fun _ _ => ?_
        refine cxs ?_
        have ew18 : IntKind.wrap .i64 ((i : Int) + (1)) = ((i + 1 : Nat) : Int) := (wrap_i64 (by omega) (by omega)).trans (by omega)
        refine ⟨_,rfl,?_⟩
        exact ⟨i + 1,g.sess.l.length - (i + 1),by omega,⟨rfl,congrArg (Value.int .i64) ew18,trivial⟩,⟨rfl,trivial⟩,rfl,by omega,upto (P := sesOk g.x) hok hy22 ⟨⟨h29,h36⟩,h41,h49,fun j z hj hz => hno j z (by omega) hz⟩,rfl⟩
       ·replace h54 : (k : Int) < (i : Int) := of_decide_eq_true h54
        refine Cm gg2 st [Ml 1 0,(3,vI (i : Int)),Ml 4 gg,(5,vI (k : Int)),(16,vB true),(51,vB false),(54,vB true)] [(1,0,cNV g),(4,gg,[vI x22.peer,vI x22.num,vB x22.inn,vI x22.age])] fun _ _ => ?_
        refine cxs ?_
        refine ⟨_,rfl,?_⟩
        refine ⟨_,Od rfl,?_⟩
        refine op_at k hR.sess (by omega) rfl rfl rfl rfl rfl rfl rfl ?_
        intro x60 b60 d60 k60 hy60 hb60 hm60 hc60 ho60
        refine ⟨_,rfl,?_⟩
        refine ⟨_,op_ldc (i := 0) rfl rfl rfl rfl hm60 hc60 rfl rfl,?_⟩
        refine ⟨_,rfl,?_⟩
        refine ⟨_,Od rfl,?_⟩
        refine ⟨_,rfl,?_⟩
        rintro (_|_) h65
        ·replace h65 : ¬ (x60.peer = x22.peer) := beq_eq_false_iff_ne.1 h65
         refine ⟨_,rfl,?_⟩
         refine Cm gg2 st [Ml 1 0,(3,vI (i : Int)),Ml 4 gg,(5,vI (k : Int)),(16,vB true),(51,vB false),(54,vB true),(76,vB false)] [(1,0,cNV g),(4,gg,[vI x22.peer,vI x22.num,vB x22.inn,vI x22.age])] fun _ _ => ?_
         refine cxs ?_
         have ew56 : IntKind.wrap .i64 ((k : Int) + (1)) = ((k + 1 : Nat) : Int) := (wrap_i64 (by omega) (by omega)).trans (by omega)
         refine ⟨_,rfl,?_⟩
         exact ⟨k + 1,i - (k + 1),by omega,⟨rfl,rfl,rfl,congrArg (Value.int .i64) ew56,rfl,rfl,trivial⟩,⟨rfl,rfl,trivial⟩,rfl,by omega,upto (P := fun _ (z : Ses) => ¬ (z.peer = x22.peer ∧ z.inn = x22.inn)) hno hy60 (fun q => h65 q.1),rfl⟩
        ·replace h65 : x60.peer = x22.peer := beq_iff_eq.1 h65
         refine ⟨_,rfl,?_⟩
         refine ⟨_,Od rfl,?_⟩
         refine op_el k hR.sess hy60 rfl rfl rfl rfl rfl rfl rfl ?_
         intro b70 d70 k70 hb70 hm70 hc70 ho70
         refine ⟨_,rfl,?_⟩
         refine ⟨_,op_ldc (i := 2) rfl rfl rfl rfl hm70 hc70 rfl rfl,?_⟩
         refine ⟨_,rfl,?_⟩
         refine ⟨_,Od rfl,?_⟩
         refine ⟨_,rfl,?_⟩
         rintro (_|_) h75
         ·replace h75 : ¬ (x60.inn = x22.inn) := beq_eq_false_iff_ne.1 h75
          refine ⟨_,rfl,?_⟩
          refine Cm gg2 st [Ml 1 0,(3,vI (i : Int)),Ml 4 gg,(5,vI (k : Int)),(16,vB true),(51,vB false),(54,vB true),(76,vB false)] [(1,0,cNV g),(4,gg,[vI x22.peer,vI x22.num,vB x22.inn,vI x22.age])] fun _ _ => ?_
          refine cxs ?_
          have ew56 : IntKind.wrap .i64 ((k : Int) + (1)) = ((k + 1 : Nat) : Int) := (wrap_i64 (by omega) (by omega)).trans (by omega)
          refine ⟨_,rfl,?_⟩
          exact ⟨k + 1,i - (k + 1),by omega,⟨rfl,rfl,rfl,congrArg (Value.int .i64) ew56,rfl,rfl,trivial⟩,⟨rfl,rfl,trivial⟩,rfl,by omega,upto (P := fun _ (z : Ses) => ¬ (z.peer = x22.peer ∧ z.inn = x22.inn)) hno hy60 (fun q => h75 q.2),rfl⟩
         ·replace h75 : x60.inn = x22.inn := beq_iff_eq.1 h75
          refine ⟨_,rfl,?_⟩
          refine Cm gg2 st [Ml 1 0,(3,vI (i : Int)),Ml 4 gg,(5,vI (k : Int)),(16,vB true),(51,vB false),(54,vB true),(76,vB true)] [(1,0,cNV g),(4,gg,[vI x22.peer,vI x22.num,vB x22.inn,vI x22.age])] fun _ _ => ?_
          exact cxs (Rt ⟨false,rfl,⟨fun h => absurd h Bool.false_ne_true,fun h => (show False from ((h.2 i x22 hy22).2.2.2 k x60 (by omega) hy60 ⟨h65,h75⟩)).elim⟩,rfl⟩)
    ·replace h36 : x22.peer = g.id := beq_iff_eq.1 h36
     iterate 2 refine ⟨_,rfl,?_⟩
     refine ow_cut [(1,vL 1 0 (0)),(3,vI (i : Int)),(4,vL 4 0 (gg)),(16,vB true),(43,vB true)] ⟨rfl,rfl,rfl,rfl,rfl,trivial⟩ fun _ => ?_
     refine ⟨_,rfl,?_⟩
     refine Cm (gg + 1) st [Ml 1 0,(3,vI (i : Int)),Ml 4 gg,(16,vB true),(51,vB true)] [(1,0,cNV g),(4,gg,[vI x22.peer,vI x22.num,vB x22.inn,vI x22.age])] fun _ _ => ?_
     exact cxs (Rt ⟨false,rfl,⟨fun h => absurd h Bool.false_ne_true,fun h => (show False from ((h.2 i x22 hy22).1.2 h36)).elim⟩,rfl⟩)
 ·replace h11 : (g.sess.l.length : Int) > g.slots := of_decide_eq_true h11
  refine Cm 1 st [Ml 1 0,(2,vB false),(11,vB true)] [(1,0,cNV g)] fun _ _ => ?_
  exact cxs (Rt ⟨false,rfl,⟨fun h => absurd h Bool.false_ne_true,fun h => (show False from (absurd h.1 (by show ¬ (g.sess.l.length : Int) ≤ g.slots; omega))).elim⟩,rfl⟩)
theorem ac_impl_risesOk (g : NV) (st : St) (hR : RdN st g) (hb : bigN g.x) : C 69 [(vNV g)] st (fun v s => ∃ x,v = .bool x ∧ (x = true ↔ risesOk g.x) ∧ s = st) := by
 have hs : g.rises.l.length ≤ 1048576 := hb.rises
 refine AC.enterX (i := ⟨[1,4],[1,4,5,12,17,23,25,31],[0,1,2,4,6,7,8,9,29],[]⟩) [] Tryz.func69 rfl rfl (by kernel_rfl) (by kernel_rfl) Tryz.ntmps69 (Lb rfl) rfl ?_
 refine ⟨_,rfl,?_⟩
 refine Cm 1 st [Ml 1 0,(2,vB false)] [(1,0,cNV g)] fun _ _ => ?_
 refine ⟨_,rfl,?_⟩
 refine ⟨_,Od rfl,?_⟩
 refine ⟨_,rfl,?_⟩
 refine Cm 1 st [Ml 1 0,(2,vB false),(6,vS g.rises.p g.rises.l.length),(7,vI (g.rises.l.length : Int)),(8,vI 0)] [(1,0,cNV g)] fun _ _ => ?_
 refine AW.loopM (fun i : Nat => [(1,vL 1 0 (0)),(6,vS g.rises.p g.rises.l.length),(7,vI (g.rises.l.length : Int)),(8,vI (i : Int))]) (fun i : Nat => [(1,0,cNV g)]) (fun m (i : Nat) st' => m = g.rises.l.length - i ∧ i ≤ g.rises.l.length ∧ (∀ (j : Nat) x,j < i → g.rises.l[j]? = some x → risOk g.x x) ∧ st = st') 0 _ ⟨rfl,rfl,rfl,rfl,trivial⟩ ⟨rfl,trivial⟩ ⟨rfl,Nat.zero_le _,fun j x h => absurd h (Nat.not_lt_zero _),rfl⟩ ?_
 rintro m i ρ0 ff gg st' ⟨rfl,hi,hok,rfl⟩
 refine ⟨_,rfl,?_⟩
 rintro (_|_) h9
 ·replace h9 : ¬ ((i : Int) < (g.rises.l.length : Int)) := of_decide_eq_false h9
  refine Cm gg st [Ml 1 0,(6,vS g.rises.p g.rises.l.length),(7,vI (g.rises.l.length : Int)),(8,vI (i : Int)),(9,vB false)] [(1,0,cNV g)] fun _ _ => ?_
  refine cxs ?_
  refine ⟨_,rfl,?_⟩
  refine ⟨_,Od rfl,?_⟩
  iterate 2 refine ⟨_,rfl,?_⟩
  rintro (_|_) h34
  ·replace h34 : ¬ ((g.rises.l.length : Int) = (5)) := beq_eq_false_iff_ne.1 h34
   exact cxs (Rt ⟨false,rfl,⟨fun h => absurd h Bool.false_ne_true,fun h => (show False from (h34 (by have h1 : g.rises.l.length = 5 := h.1; omega))).elim⟩,rfl⟩)
  ·replace h34 : (g.rises.l.length : Int) = (5) := beq_iff_eq.1 h34
   exact cxs (Rt ⟨true,rfl,⟨fun _ => ⟨by show g.rises.l.length = 5; omega,upall (P := fun _ => risOk g.x) hok (by show g.rises.l.length ≤ i; omega)⟩,fun _ => rfl⟩,rfl⟩)
 ·replace h9 : (i : Int) < (g.rises.l.length : Int) := of_decide_eq_true h9
  refine Cm gg st [Ml 1 0,(6,vS g.rises.p g.rises.l.length),(7,vI (g.rises.l.length : Int)),(8,vI (i : Int)),(9,vB true)] [(1,0,cNV g)] fun _ _ => ?_
  refine cxs ?_
  refine op_at i hR.rises (by omega) rfl rfl rfl rfl rfl rfl rfl ?_
  intro x10 b10 d10 k10 hy10 hb10 hm10 hc10 ho10
  refine ⟨_,op_lda rfl rfl rfl rfl rfl hm10 hc10 rfl,?_⟩
  refine ⟨_,rfl,?_⟩
  refine ⟨_,Os rfl,?_⟩
  refine Cm (gg + 1) st [Ml 1 0,Ml 4 gg,(6,vS g.rises.p g.rises.l.length),(7,vI (g.rises.l.length : Int)),(8,vI (i : Int)),(9,vB true)] [(1,0,cNV g),(4,gg,[vI x10.inc,vI x10.beat,vI x10.tick])] fun _ _ => ?_
  refine ⟨_,rfl,?_⟩
  refine ⟨_,Od rfl,?_⟩
  refine ⟨_,rfl,(ac_impl_within x10.inc 0 1000 st).mono ?_⟩
  rintro _ st ⟨x14,rfl,h14,rfl⟩
  rcases x14 with _|_
  ·replace h14 := of_decide_eq_false h14.symm
   iterate 3 refine ⟨_,rfl,?_⟩
   refine Cm (gg + 1) st [Ml 1 0,Ml 4 gg,(6,vS g.rises.p g.rises.l.length),(7,vI (g.rises.l.length : Int)),(8,vI (i : Int)),(9,vB true),(29,vB true)] [(1,0,cNV g),(4,gg,[vI x10.inc,vI x10.beat,vI x10.tick])] fun _ _ => ?_
   exact cxs (Rt ⟨false,rfl,⟨fun h => absurd h Bool.false_ne_true,fun h => (show False from (h14 (h.2 i x10 hy10).1)).elim⟩,rfl⟩)
  ·replace h14 := of_decide_eq_true h14.symm
   iterate 2 refine ⟨_,rfl,?_⟩
   refine ⟨_,Od rfl,?_⟩
   refine ⟨_,rfl,(ac_impl_within x10.beat 0 100000 st).mono ?_⟩
   rintro _ st ⟨x19,rfl,h19,rfl⟩
   rcases x19 with _|_
   ·replace h19 := of_decide_eq_false h19.symm
    iterate 3 refine ⟨_,rfl,?_⟩
    refine Cm (gg + 1) st [Ml 1 0,Ml 4 gg,(6,vS g.rises.p g.rises.l.length),(7,vI (g.rises.l.length : Int)),(8,vI (i : Int)),(9,vB true),(29,vB true)] [(1,0,cNV g),(4,gg,[vI x10.inc,vI x10.beat,vI x10.tick])] fun _ _ => ?_
    exact cxs (Rt ⟨false,rfl,⟨fun h => absurd h Bool.false_ne_true,fun h => (show False from (h19 (h.2 i x10 hy10).2.1)).elim⟩,rfl⟩)
   ·replace h19 := of_decide_eq_true h19.symm
    iterate 3 refine ⟨_,rfl,?_⟩
    refine ⟨_,Od rfl,?_⟩
    refine ⟨_,rfl,?_⟩
    refine ⟨_,Od rfl,?_⟩
    refine ⟨_,rfl,(ac_impl_within x10.tick 0 g.clock st).mono ?_⟩
    rintro _ st ⟨x27,rfl,h27,rfl⟩
    rcases x27 with _|_
    ·replace h27 := of_decide_eq_false h27.symm
     iterate 2 refine ⟨_,rfl,?_⟩
     refine Cm (gg + 1) st [Ml 1 0,Ml 4 gg,(6,vS g.rises.p g.rises.l.length),(7,vI (g.rises.l.length : Int)),(8,vI (i : Int)),(9,vB true),(29,vB true)] [(1,0,cNV g),(4,gg,[vI x10.inc,vI x10.beat,vI x10.tick])] fun _ _ => ?_
     exact cxs (Rt ⟨false,rfl,⟨fun h => absurd h Bool.false_ne_true,fun h => (show False from (h27 (h.2 i x10 hy10).2.2)).elim⟩,rfl⟩)
    ·replace h27 := of_decide_eq_true h27.symm
     iterate 2 refine ⟨_,rfl,?_⟩
     refine Cm (gg + 1) st [Ml 1 0,Ml 4 gg,(6,vS g.rises.p g.rises.l.length),(7,vI (g.rises.l.length : Int)),(8,vI (i : Int)),(9,vB true),(29,vB false)] [(1,0,cNV g),(4,gg,[vI x10.inc,vI x10.beat,vI x10.tick])] fun _ _ => ?_
     refine cxs ?_
     have ew30 : IntKind.wrap .i64 ((i : Int) + (1)) = ((i + 1 : Nat) : Int) := (wrap_i64 (by omega) (by omega)).trans (by omega)
     refine ⟨_,rfl,?_⟩
     exact ⟨i + 1,g.rises.l.length - (i + 1),by omega,⟨rfl,rfl,rfl,congrArg (Value.int .i64) ew30,trivial⟩,⟨rfl,trivial⟩,rfl,by omega,upto (P := fun _ => risOk g.x) hok hy10 ⟨h14,h19,h27⟩,rfl⟩
structure nodeOk (x : Nd) : Prop where
 n : 1 ≤ x.n ∧ x.n ≤ 5
 id : 0 ≤ x.id ∧ x.id ≤ x.n - 1
 s : stateOk x.s
 t : x.t = treeF x.s
 g : logOk x.g
 got : vecOk x.got x.n
 acked : vecOk x.acked x.n
 seq : x.got[x.id.toNat]? = some (logSeq x.g)
 ack : ∀ (j : Nat) y,x.acked[j]? = some y → y ≤ logSeq x.g
 seen : tableOk x.seen x.n
 num : 0 ≤ x.num ∧ x.num ≤ 100000
 clock : 0 ≤ x.clock ∧ x.clock ≤ 100000
 wait : 1 ≤ x.wait ∧ x.wait ≤ 20
 limit : 1 ≤ x.limit ∧ x.limit ≤ 50
 slots : 1 ≤ x.slots ∧ x.slots ≤ 4
 sess : sessOk x
 rises : risesOk x
theorem ac_impl_NodeOk (g : NV) (st : St) (hR : RdN st g) (hb : bigN g.x) : C 17 [(vNV g)] st (fun v s => ∃ x,v = .bool x ∧ (x = true ↔ nodeOk g.x) ∧ Pres st s) := by
 have hs1 : g.got.l.length ≤ 1048576 := hb.got
 have hs2 : g.acked.l.length ≤ 1048576 := hb.acked
 refine AC.enterX (i := ⟨[1],[1,4,9,11,18,24,26,32,35,40,42,48,50,56,58,66,72,74,79,85,90,94],[0,1,2,3,31,71,89],[]⟩) [(1,[24],[21])] Tryz.func17 rfl rfl (by kernel_rfl) (by kernel_rfl) Tryz.ntmps17 (Lb rfl) rfl ?_
 refine ⟨_,rfl,?_⟩
 refine Cm 1 st [Ml 1 0,(2,vB false)] [(1,0,cNV g)] fun _ _ => ?_
 refine ⟨_,rfl,?_⟩
 refine ⟨_,Od rfl,?_⟩
 refine ⟨_,rfl,(ac_impl_within g.n 1 5 st).mono ?_⟩
 rintro _ st ⟨x6,rfl,h6,rfl⟩
 rcases x6 with _|_
 ·replace h6 := of_decide_eq_false h6.symm
  iterate 3 refine ⟨_,rfl,?_⟩
  refine owE_cut [(1,vL 1 0 (0)),(2,vB false),(22,vB true)] ⟨rfl,rfl,rfl,trivial⟩ fun _ => ?_
  refine ⟨_,rfl,?_⟩
  refine Cm 1 st [Ml 1 0,(2,vB false),(31,vB true)] [(1,0,cNV g)] fun _ _ => ?_
  exact cxs (Rt ⟨false,rfl,⟨fun h => absurd h Bool.false_ne_true,fun h => (show False from (h6 h.n)).elim⟩,Pres.refl _⟩)
 ·replace h6 := of_decide_eq_true h6.symm
  iterate 2 refine ⟨_,rfl,?_⟩
  refine ⟨_,Od rfl,?_⟩
  refine ⟨_,rfl,?_⟩
  refine ⟨_,Od rfl,?_⟩
  have ew13 : IntKind.wrap .i64 (g.n - (1)) = g.n - (1) := wrap_i64 (by omega) (by omega)
  refine ⟨_,rfl,?_⟩
  refine ⟨_,rfl,(ac_impl_within g.id 0 (IntKind.wrap .i64 (g.n - (1))) st).mono ?_⟩
  rintro _ st ⟨x14,rfl,h14,rfl⟩
  rcases x14 with _|_
  ·replace h14 := of_decide_eq_false h14.symm
   rw [ew13] at h14
   iterate 3 refine ⟨_,rfl,?_⟩
   refine owE_cut [(1,vL 1 0 (0)),(2,vB false),(22,vB true)] ⟨rfl,rfl,rfl,trivial⟩ fun _ => ?_
   refine ⟨_,rfl,?_⟩
   refine Cm 1 st [Ml 1 0,(2,vB false),(31,vB true)] [(1,0,cNV g)] fun _ _ => ?_
   exact cxs (Rt ⟨false,rfl,⟨fun h => absurd h Bool.false_ne_true,fun h => (show False from (h14 h.id)).elim⟩,Pres.refl _⟩)
  ·replace h14 := of_decide_eq_true h14.symm
   rw [ew13] at h14
   iterate 3 refine ⟨_,rfl,?_⟩
   refine ⟨_,Od rfl,?_⟩
   refine ⟨_,rfl,(ac_impl_StateOk g.s st hR.s (hb.s)).mono ?_⟩
   rintro _ st ⟨x20,rfl,h20,rfl⟩
   rcases x20 with _|_
   ·replace h20 := fun k => Bool.false_ne_true (h20.2 k)
    refine ⟨_,rfl,?_⟩
    refine owE_cut [(1,vL 1 0 (0)),(2,vB false),(17,vB false),(21,vB true)] ⟨rfl,rfl,rfl,rfl,trivial⟩ fun _ => ?_
    iterate 2 refine ⟨_,rfl,?_⟩
    refine Cm 1 st [Ml 1 0,(2,vB false),(31,vB true)] [(1,0,cNV g)] fun _ _ => ?_
    exact cxs (Rt ⟨false,rfl,⟨fun h => absurd h Bool.false_ne_true,fun h => (show False from (h20 h.s)).elim⟩,Pres.refl _⟩)
   ·replace h20 := h20.1 rfl
    refine ⟨_,rfl,?_⟩
    refine owE_cut [(1,vL 1 0 (0)),(2,vB false),(17,vB false),(21,vB false)] ⟨rfl,rfl,rfl,rfl,trivial⟩ fun _ => ?_
    iterate 2 refine ⟨_,rfl,?_⟩
    refine ⟨_,Od rfl,?_⟩
    refine ⟨ld_own rfl rfl rfl,?_⟩
    refine ⟨_,rfl,?_⟩
    refine ⟨_,Od rfl,?_⟩
    refine ⟨_,rfl,(ac_impl_TreeOf g.s st hR.s (hb.s)).mono ?_⟩
    rintro _ s28 ⟨u28,rfl,h28,hO28,hN28,hP28⟩
    refine ⟨hP28.2,?_⟩
    refine ⟨_,rfl,(ac_impl_treeSame g.t u28 s28 (hP28.rows hR.t) (hO28.rows fI_len) (hb.t)).mono ?_⟩
    rintro _ s28 ⟨x29,rfl,h29,rfl⟩
    rcases x29 with _|_
    ·replace h29 := fun k => Bool.false_ne_true (h29.2 k)
     iterate 2 refine ⟨_,rfl,?_⟩
     refine Cm 1 s28 [Ml 1 0,(2,vB false),(31,vB true)] [(1,0,cNV g)] fun _ _ => ?_
     exact cxs (Rt ⟨false,rfl,⟨fun h => absurd h Bool.false_ne_true,fun h => (show False from (h29 (h.t.trans h28.symm))).elim⟩,hP28⟩)
    ·replace h29 := h29.1 rfl
     iterate 2 refine ⟨_,rfl,?_⟩
     refine Cm 1 s28 [Ml 1 0,(2,vB false),(31,vB false)] [(1,0,cNV g)] fun _ _ => ?_
     refine cxs ?_
     refine ⟨_,rfl,?_⟩
     refine ⟨_,Od rfl,?_⟩
     refine ⟨_,rfl,(ac_impl_LogSeq g.g s28 (hR.g.pres hP28) (bigLog_iff.1 hb.g)).mono ?_⟩
     rintro _ s28 ⟨rfl,rfl⟩
     refine Cm 1 s28 [Ml 1 0,(2,vB false),(3,vI (logSeq g.g.x))] [(1,0,cNV g)] fun _ _ => ?_
     refine ⟨_,rfl,?_⟩
     refine ⟨_,Od rfl,?_⟩
     refine ⟨_,rfl,(ac_impl_LogOk g.g s28 (hR.g.pres hP28) (bigLog_iff.1 hb.g)).mono ?_⟩
     rintro _ s28 ⟨x37,rfl,h37,rfl⟩
     rcases x37 with _|_
     ·replace h37 := fun k => Bool.false_ne_true (h37.2 k)
      iterate 3 refine ⟨_,rfl,?_⟩
      refine ow_cut [(1,vL 1 0 (0)),(2,vB false),(3,vI (logSeq g.g.x)),(54,vB true)] ⟨rfl,rfl,rfl,rfl,trivial⟩ fun _ => ?_
      iterate 2 refine ⟨_,rfl,?_⟩
      refine Cm 1 s28 [Ml 1 0,(2,vB false),(71,vB true)] [(1,0,cNV g)] fun _ _ => ?_
      exact cxs (Rt ⟨false,rfl,⟨fun h => absurd h Bool.false_ne_true,fun h => (show False from (h37 h.g)).elim⟩,hP28⟩)
     ·replace h37 := h37.1 rfl
      iterate 2 refine ⟨_,rfl,?_⟩
      refine ⟨_,Od rfl,?_⟩
      refine ⟨_,rfl,?_⟩
      refine ⟨_,Od rfl,?_⟩
      refine ⟨_,rfl,(ac_impl_VecOk g.got.p g.got.l g.n s28 (hP28.rows hR.got) (hb.got)).mono ?_⟩
      rintro _ s28 ⟨x44,rfl,h44,rfl⟩
      rcases x44 with _|_
      ·replace h44 := fun k => Bool.false_ne_true (h44.2 k)
       iterate 3 refine ⟨_,rfl,?_⟩
       refine ow_cut [(1,vL 1 0 (0)),(2,vB false),(3,vI (logSeq g.g.x)),(54,vB true)] ⟨rfl,rfl,rfl,rfl,trivial⟩ fun _ => ?_
       iterate 2 refine ⟨_,rfl,?_⟩
       refine Cm 1 s28 [Ml 1 0,(2,vB false),(71,vB true)] [(1,0,cNV g)] fun _ _ => ?_
       exact cxs (Rt ⟨false,rfl,⟨fun h => absurd h Bool.false_ne_true,fun h => (show False from (h44 h.got)).elim⟩,hP28⟩)
      ·replace h44 := h44.1 rfl
       iterate 3 refine ⟨_,rfl,?_⟩
       refine ⟨_,Od rfl,?_⟩
       refine ⟨_,rfl,?_⟩
       refine ⟨_,Od rfl,?_⟩
       refine ⟨_,rfl,(ac_impl_VecOk g.acked.p g.acked.l g.n s28 (hP28.rows hR.acked) (hb.acked)).mono ?_⟩
       rintro _ s28 ⟨x52,rfl,h52,rfl⟩
       rcases x52 with _|_
       ·replace h52 := fun k => Bool.false_ne_true (h52.2 k)
        refine ow_cut [(1,vL 1 0 (0)),(2,vB false),(3,vI (logSeq g.g.x)),(47,vB false),(52,vB false)] ⟨rfl,rfl,rfl,rfl,rfl,trivial⟩ fun _ => ?_
        iterate 4 refine ⟨_,rfl,?_⟩
        refine Cm 1 s28 [Ml 1 0,(2,vB false),(71,vB true)] [(1,0,cNV g)] fun _ _ => ?_
        exact cxs (Rt ⟨false,rfl,⟨fun h => absurd h Bool.false_ne_true,fun h => (show False from (h52 h.acked)).elim⟩,hP28⟩)
       ·replace h52 := h52.1 rfl
        refine ow_cut [(1,vL 1 0 (0)),(2,vB false),(3,vI (logSeq g.g.x)),(47,vB false),(52,vB true)] ⟨rfl,rfl,rfl,rfl,rfl,trivial⟩ fun _ => ?_
        iterate 3 refine ⟨_,rfl,?_⟩
        refine ⟨_,Od rfl,?_⟩
        refine ⟨_,rfl,?_⟩
        refine ⟨_,Od rfl,?_⟩
        have hgl : (g.got.l.length : Int) = g.n := h44.2.1
        refine op_at ((g.id).toNat) (hP28.rows hR.got) (by omega) rfl rfl rfl rfl (by omega) rfl rfl ?_
        intro x60 b60 d60 k60 hy60 hb60 hm60 hc60 ho60
        refine ⟨_,op_ldc (i := 0) rfl rfl rfl rfl hm60 hc60 rfl rfl,?_⟩
        refine ⟨_,rfl,?_⟩
        rintro (_|_) h63
        ·replace h63 : x60 = (logSeq g.g.x) := bne_eq_false_iff_eq.1 h63
         iterate 2 refine ⟨_,rfl,?_⟩
         refine ⟨_,Od rfl,?_⟩
         have hal : (g.acked.l.length : Int) = g.n := h52.2.1
         refine ⟨_,rfl,(ac_slices_Max g.acked.p g.acked.l s28 (hP28.rows hR.acked) (hb.acked) (by first | assumption | omega | decide)).mono ?_⟩
         rintro _ s28 ⟨x68,rfl,h68,rfl⟩
         refine ⟨_,rfl,?_⟩
         rintro (_|_) h70
         ·replace h70 : ¬ (x68 > (logSeq g.g.x)) := of_decide_eq_false h70
          refine ⟨_,rfl,?_⟩
          refine Cm 1 s28 [Ml 1 0,(2,vB false),(71,vB false)] [(1,0,cNV g)] fun _ _ => ?_
          refine cxs ?_
          refine ⟨_,rfl,?_⟩
          refine ⟨_,Od rfl,?_⟩
          refine ⟨_,rfl,?_⟩
          refine ⟨_,Od rfl,?_⟩
          refine ⟨_,rfl,(ac_impl_TableOk g.seen.p g.seen.t g.n s28 (hR.seen.pres hP28) ((bigT_iff.1 hb.seen).1) ((bigT_iff.1 hb.seen).2)).mono ?_⟩
          rintro _ s28 ⟨x76,rfl,h76,rfl⟩
          rcases x76 with _|_
          ·replace h76 := fun k => Bool.false_ne_true (h76.2 k)
           iterate 3 refine ⟨_,rfl,?_⟩
           refine Cm 1 s28 [Ml 1 0,(2,vB false),(89,vB true)] [(1,0,cNV g)] fun _ _ => ?_
           exact cxs (Rt ⟨false,rfl,⟨fun h => absurd h Bool.false_ne_true,fun h => (show False from (h76 h.seen)).elim⟩,hP28⟩)
          ·replace h76 := h76.1 rfl
           iterate 2 refine ⟨_,rfl,?_⟩
           refine ⟨_,Od rfl,?_⟩
           refine ⟨_,rfl,(ac_impl_within g.num 0 100000 s28).mono ?_⟩
           rintro _ s28 ⟨x81,rfl,h81,rfl⟩
           rcases x81 with _|_
           ·replace h81 := of_decide_eq_false h81.symm
            iterate 3 refine ⟨_,rfl,?_⟩
            refine Cm 1 s28 [Ml 1 0,(2,vB false),(89,vB true)] [(1,0,cNV g)] fun _ _ => ?_
            exact cxs (Rt ⟨false,rfl,⟨fun h => absurd h Bool.false_ne_true,fun h => (show False from (h81 h.num)).elim⟩,hP28⟩)
           ·replace h81 := of_decide_eq_true h81.symm
            iterate 3 refine ⟨_,rfl,?_⟩
            refine ⟨_,Od rfl,?_⟩
            refine ⟨_,rfl,(ac_impl_within g.clock 0 100000 s28).mono ?_⟩
            rintro _ s28 ⟨x87,rfl,h87,rfl⟩
            rcases x87 with _|_
            ·replace h87 := of_decide_eq_false h87.symm
             iterate 2 refine ⟨_,rfl,?_⟩
             refine Cm 1 s28 [Ml 1 0,(2,vB false),(89,vB true)] [(1,0,cNV g)] fun _ _ => ?_
             exact cxs (Rt ⟨false,rfl,⟨fun h => absurd h Bool.false_ne_true,fun h => (show False from (h87 h.clock)).elim⟩,hP28⟩)
            ·replace h87 := of_decide_eq_true h87.symm
             iterate 2 refine ⟨_,rfl,?_⟩
             refine Cm 1 s28 [Ml 1 0,(2,vB false),(89,vB false)] [(1,0,cNV g)] fun _ _ => ?_
             refine cxs ?_
             refine ⟨_,rfl,?_⟩
             refine ⟨_,Od rfl,?_⟩
             refine ⟨_,rfl,(ac_impl_within g.wait 1 20 s28).mono ?_⟩
             rintro _ s28 ⟨x92,rfl,h92,rfl⟩
             rcases x92 with _|_
             ·replace h92 := of_decide_eq_false h92.symm
              iterate 3 refine ⟨_,rfl,?_⟩
              exact cxs (Rt ⟨false,rfl,⟨fun h => absurd h Bool.false_ne_true,fun h => (show False from (h92 h.wait)).elim⟩,hP28⟩)
             ·replace h92 := of_decide_eq_true h92.symm
              refine ⟨_,rfl,?_⟩
              refine ⟨_,Od rfl,?_⟩
              refine ⟨_,rfl,(ac_impl_within g.limit 1 50 s28).mono ?_⟩
              rintro _ s28 ⟨x96,rfl,h96,rfl⟩
              rcases x96 with _|_
              ·replace h96 := of_decide_eq_false h96.symm
               iterate 3 refine ⟨_,rfl,?_⟩
               exact cxs (Rt ⟨false,rfl,⟨fun h => absurd h Bool.false_ne_true,fun h => (show False from (h96 h.limit)).elim⟩,hP28⟩)
              ·replace h96 := of_decide_eq_true h96.symm
               refine ⟨_,rfl,?_⟩
               refine ⟨_,op_ldo (v := (vNV g)) rfl rfl rfl rfl,?_⟩
               refine ⟨_,rfl,(ac_impl_sessOk g s28 (hR.pres hP28) (by first | assumption | omega) (by first | assumption | omega)).mono ?_⟩
               rintro _ s28 ⟨x100,rfl,h100,rfl⟩
               rcases x100 with _|_
               ·replace h100 := fun k => Bool.false_ne_true (h100.2 k)
                iterate 2 refine ⟨_,rfl,?_⟩
                exact cxs (Rt ⟨false,rfl,⟨fun h => absurd h Bool.false_ne_true,fun h => (show False from (h100 ⟨h.slots,h.sess⟩)).elim⟩,hP28⟩)
               ·replace h100 := h100.1 rfl
                refine ⟨_,rfl,?_⟩
                refine ⟨_,op_ldo (v := (vNV g)) rfl rfl rfl rfl,?_⟩
                refine ⟨_,rfl,(ac_impl_risesOk g s28 (hR.pres hP28) (by first | assumption | omega)).mono ?_⟩
                rintro _ s28 ⟨x104,rfl,h104,rfl⟩
                rcases x104 with _|_
                ·replace h104 := fun k => Bool.false_ne_true (h104.2 k)
                 refine ⟨_,rfl,?_⟩
                 exact cxs (Rt ⟨false,rfl,⟨fun h => absurd h Bool.false_ne_true,fun h => (show False from (h104 h.rises)).elim⟩,hP28⟩)
                ·replace h104 := h104.1 rfl
                 refine ⟨_,rfl,?_⟩
                 exact cxs (Rt ⟨true,rfl,⟨fun _ => ⟨h6,h14,h20,h29.trans h28,h37,h44,h52,h63 ▸ hy60,(h68 (logSeq g.g.x)).1 (Int.not_lt.1 h70),h76,h81,h87,h92,h96,h100.1,h100.2,h104⟩,fun _ => rfl⟩,hP28⟩)
         ·replace h70 : x68 > (logSeq g.g.x) := of_decide_eq_true h70
          refine ⟨_,rfl,?_⟩
          refine Cm 1 s28 [Ml 1 0,(2,vB false),(71,vB true)] [(1,0,cNV g)] fun _ _ => ?_
          exact cxs (Rt ⟨false,rfl,⟨fun h => absurd h Bool.false_ne_true,fun h => (show False from (absurd h70 (by have h1 : x68 ≤ logSeq g.g.x := (h68 _).2 h.ack; omega))).elim⟩,hP28⟩)
        ·replace h63 : ¬ (x60 = (logSeq g.g.x)) := bne_iff_ne.1 h63
         iterate 2 refine ⟨_,rfl,?_⟩
         refine Cm 1 s28 [Ml 1 0,(2,vB false),(71,vB true)] [(1,0,cNV g)] fun _ _ => ?_
         exact cxs (Rt ⟨false,rfl,⟨fun h => absurd h Bool.false_ne_true,fun h => (show False from (h63 (Option.some.inj (hy60.symm.trans h.seq)))).elim⟩,hP28⟩)
theorem ac_spec_NodeOk (g : NV) (st : St) (hR : RdN st g) (hb : bigN g.x) : C 21 [(vNV g)] st (fun v s => ∃ x,v = .bool x ∧ (x = true ↔ nodeOk g.x) ∧ Pres st s) := by
 have hs1 : g.got.l.length ≤ 1048576 := hb.got
 have hs2 : g.acked.l.length ≤ 1048576 := hb.acked
 have hs3 : g.rises.l.length ≤ 1048576 := hb.rises
 refine AC.enterX (i := ⟨[1,5],[1,5,6,11,13,20,26,28,35,40,42,47,49,55,57,61,67,69,75,80,85,89,94,100,106,112,118,127,132,137,143,145],[0,1,2,3,4,5,39,73,77,88,122,124,149],[]⟩) [(1,[24],[21]),(3,[23],[16,18,20]),(8,[7],[1,4])] Tryz.func21 rfl rfl (by kernel_rfl) (by kernel_rfl) Tryz.ntmps21 (Lb rfl) rfl ?_
 refine ⟨_,rfl,?_⟩
 refine Cm 1 st [Ml 1 0,(2,vB false)] [(1,0,cNV g)] fun _ _ => ?_
 refine ⟨_,rfl,?_⟩
 refine ⟨_,Od rfl,?_⟩
 refine ⟨_,rfl,(ac_spec_l1In g.n 1 5 st).mono ?_⟩
 rintro _ st ⟨x8,rfl,h8,rfl⟩
 rcases x8 with _|_
 ·replace h8 := of_decide_eq_false h8.symm
  iterate 3 refine ⟨_,rfl,?_⟩
  refine owE_cut [(1,vL 1 0 (0)),(2,vB false),(24,vB true)] ⟨rfl,rfl,rfl,trivial⟩ fun _ => ?_
  iterate 2 refine ⟨_,rfl,?_⟩
  refine Cm 1 st [Ml 1 0,(2,vB false),(39,vB true)] [(1,0,cNV g)] fun _ _ => ?_
  exact cxs (Rt ⟨false,rfl,⟨fun h => absurd h Bool.false_ne_true,fun h => (show False from (h8 h.n)).elim⟩,Pres.refl _⟩)
 ·replace h8 := of_decide_eq_true h8.symm
  iterate 2 refine ⟨_,rfl,?_⟩
  refine ⟨_,Od rfl,?_⟩
  refine ⟨_,rfl,?_⟩
  refine ⟨_,Od rfl,?_⟩
  have ew15 : IntKind.wrap .i64 (g.n - (1)) = g.n - (1) := wrap_i64 (by omega) (by omega)
  refine ⟨_,rfl,?_⟩
  refine ⟨_,rfl,(ac_spec_l1In g.id 0 (IntKind.wrap .i64 (g.n - (1))) st).mono ?_⟩
  rintro _ st ⟨x16,rfl,h16,rfl⟩
  rcases x16 with _|_
  ·replace h16 := of_decide_eq_false h16.symm
   rw [ew15] at h16
   iterate 3 refine ⟨_,rfl,?_⟩
   refine owE_cut [(1,vL 1 0 (0)),(2,vB false),(24,vB true)] ⟨rfl,rfl,rfl,trivial⟩ fun _ => ?_
   iterate 2 refine ⟨_,rfl,?_⟩
   refine Cm 1 st [Ml 1 0,(2,vB false),(39,vB true)] [(1,0,cNV g)] fun _ _ => ?_
   exact cxs (Rt ⟨false,rfl,⟨fun h => absurd h Bool.false_ne_true,fun h => (show False from (h16 h.id)).elim⟩,Pres.refl _⟩)
  ·replace h16 := of_decide_eq_true h16.symm
   rw [ew15] at h16
   iterate 3 refine ⟨_,rfl,?_⟩
   refine ⟨_,Od rfl,?_⟩
   refine ⟨_,rfl,(ac_spec_StateOk g.s st hR.s (hb.s)).mono ?_⟩
   rintro _ st ⟨x22,rfl,h22,rfl⟩
   rcases x22 with _|_
   ·replace h22 := fun k => Bool.false_ne_true (h22.2 k)
    refine ⟨_,rfl,?_⟩
    refine owE_cut [(1,vL 1 0 (0)),(2,vB false),(19,vB false),(23,vB true)] ⟨rfl,rfl,rfl,rfl,trivial⟩ fun _ => ?_
    iterate 3 refine ⟨_,rfl,?_⟩
    refine Cm 1 st [Ml 1 0,(2,vB false),(39,vB true)] [(1,0,cNV g)] fun _ _ => ?_
    exact cxs (Rt ⟨false,rfl,⟨fun h => absurd h Bool.false_ne_true,fun h => (show False from (h22 h.s)).elim⟩,Pres.refl _⟩)
   ·replace h22 := h22.1 rfl
    refine ⟨_,rfl,?_⟩
    refine owE_cut [(1,vL 1 0 (0)),(2,vB false),(19,vB false),(23,vB false)] ⟨rfl,rfl,rfl,rfl,trivial⟩ fun _ => ?_
    iterate 2 refine ⟨_,rfl,?_⟩
    refine ⟨_,Od rfl,?_⟩
    refine ⟨ld_own rfl rfl rfl,?_⟩
    refine ⟨_,rfl,?_⟩
    refine ⟨_,Od rfl,?_⟩
    refine ⟨_,rfl,(ac_spec_TreeOf g.s st hR.s (hb.s)).mono ?_⟩
    rintro _ s30 ⟨u30,rfl,h30,hO30,hN30,hP30⟩
    refine ⟨hP30.2,?_⟩
    refine ⟨_,rfl,(ac_spec_l11Tree g.t u30 s30 (hP30.rows hR.t) (hO30.rows fI_len) (hb.t)).mono ?_⟩
    rintro _ s30 ⟨x31,rfl,h31,rfl⟩
    rcases x31 with _|_
    ·replace h31 := fun k => Bool.false_ne_true (h31.2 k)
     iterate 3 refine ⟨_,rfl,?_⟩
     refine Cm 1 s30 [Ml 1 0,(2,vB false),(39,vB true)] [(1,0,cNV g)] fun _ _ => ?_
     exact cxs (Rt ⟨false,rfl,⟨fun h => absurd h Bool.false_ne_true,fun h => (show False from (h31 (h.t.trans h30.symm))).elim⟩,hP30⟩)
    ·replace h31 := h31.1 rfl
     iterate 3 refine ⟨_,rfl,?_⟩
     refine ⟨_,Od rfl,?_⟩
     refine ⟨_,rfl,(ac_spec_LogOk g.g s30 (hR.g.pres hP30) (bigLog_iff.1 hb.g)).mono ?_⟩
     rintro _ s30 ⟨x37,rfl,h37,rfl⟩
     rcases x37 with _|_
     ·replace h37 := fun k => Bool.false_ne_true (h37.2 k)
      iterate 2 refine ⟨_,rfl,?_⟩
      refine Cm 1 s30 [Ml 1 0,(2,vB false),(39,vB true)] [(1,0,cNV g)] fun _ _ => ?_
      exact cxs (Rt ⟨false,rfl,⟨fun h => absurd h Bool.false_ne_true,fun h => (show False from (h37 h.g)).elim⟩,hP30⟩)
     ·replace h37 := h37.1 rfl
      iterate 2 refine ⟨_,rfl,?_⟩
      refine Cm 1 s30 [Ml 1 0,(2,vB false),(39,vB false)] [(1,0,cNV g)] fun _ _ => ?_
      refine cxs ?_
      refine ⟨_,rfl,?_⟩
      refine ⟨_,Od rfl,?_⟩
      refine ⟨_,rfl,?_⟩
      refine ⟨_,Od rfl,?_⟩
      refine ⟨_,rfl,(ac_spec_VecOk g.got.p g.got.l g.n s30 (hP30.rows hR.got) (hb.got)).mono ?_⟩
      rintro _ s30 ⟨x44,rfl,h44,rfl⟩
      rcases x44 with _|_
      ·replace h44 := fun k => Bool.false_ne_true (h44.2 k)
       iterate 3 refine ⟨_,rfl,?_⟩
       refine owE_cut [(1,vL 1 0 (0)),(2,vB false),(65,vB true)] ⟨rfl,rfl,rfl,trivial⟩ fun _ => ?_
       refine ⟨_,rfl,?_⟩
       refine Cm 1 s30 [Ml 1 0,(2,vB false),(73,vB true)] [(1,0,cNV g)] fun _ _ => ?_
       exact cxs (Rt ⟨false,rfl,⟨fun h => absurd h Bool.false_ne_true,fun h => (show False from (h44 h.got)).elim⟩,hP30⟩)
      ·replace h44 := h44.1 rfl
       iterate 2 refine ⟨_,rfl,?_⟩
       refine ⟨_,Od rfl,?_⟩
       refine ⟨_,rfl,?_⟩
       refine ⟨_,Od rfl,?_⟩
       refine ⟨_,rfl,(ac_spec_VecOk g.acked.p g.acked.l g.n s30 (hP30.rows hR.acked) (hb.acked)).mono ?_⟩
       rintro _ s30 ⟨x51,rfl,h51,rfl⟩
       rcases x51 with _|_
       ·replace h51 := fun k => Bool.false_ne_true (h51.2 k)
        iterate 3 refine ⟨_,rfl,?_⟩
        refine owE_cut [(1,vL 1 0 (0)),(2,vB false),(65,vB true)] ⟨rfl,rfl,rfl,trivial⟩ fun _ => ?_
        refine ⟨_,rfl,?_⟩
        refine Cm 1 s30 [Ml 1 0,(2,vB false),(73,vB true)] [(1,0,cNV g)] fun _ _ => ?_
        exact cxs (Rt ⟨false,rfl,⟨fun h => absurd h Bool.false_ne_true,fun h => (show False from (h51 h.acked)).elim⟩,hP30⟩)
       ·replace h51 := h51.1 rfl
        iterate 3 refine ⟨_,rfl,?_⟩
        refine ⟨_,Od rfl,?_⟩
        refine ⟨ld_own rfl rfl rfl,?_⟩
        refine ⟨_,rfl,?_⟩
        refine owE_cut [(1,vL 1 0 (0)),(2,vB false),(54,vB false),(56,vS g.got.p g.got.l.length),(57,vL 1 0 (0))] ⟨rfl,rfl,rfl,rfl,rfl,trivial⟩ fun _ => ?_
        refine ⟨_,Od rfl,?_⟩
        refine ⟨ld_own rfl rfl rfl,?_⟩
        have hgl : (g.got.l.length : Int) = g.n := h44.2.1
        refine op_at ((g.id).toNat) (hP30.rows hR.got) (by omega) rfl rfl rfl rfl (by omega) rfl rfl ?_
        intro x59 b59 d59 k59 hy59 hb59 hm59 hc59 ho59
        refine ⟨_,op_ldc (i := 0) rfl rfl rfl rfl hm59 hc59 rfl rfl,?_⟩
        refine ⟨ld_lt rfl rfl hb59,?_⟩
        refine ⟨_,rfl,?_⟩
        refine ⟨_,Od rfl,?_⟩
        refine ⟨_,rfl,(ac_spec_LogSeq g.g s30 (hR.g.pres hP30) (bigLog_iff.1 hb.g)).mono ?_⟩
        rintro _ s30 ⟨rfl,rfl⟩
        refine ⟨fun _ _ => rfl,?_⟩
        refine ⟨_,rfl,?_⟩
        rintro (_|_) h64
        ·replace h64 : x59 = (logSeq g.g.x) := bne_eq_false_iff_eq.1 h64
         iterate 2 refine ⟨_,rfl,?_⟩
         refine ⟨_,Od rfl,?_⟩
         refine ⟨_,rfl,?_⟩
         refine ⟨_,Od rfl,?_⟩
         refine ⟨_,rfl,(ac_spec_TableOk g.seen.p g.seen.t g.n s30 (hR.seen.pres hP30) ((bigT_iff.1 hb.seen).1) ((bigT_iff.1 hb.seen).2)).mono ?_⟩
         rintro _ s30 ⟨x71,rfl,h71,rfl⟩
         rcases x71 with _|_
         ·replace h71 := fun k => Bool.false_ne_true (h71.2 k)
          iterate 2 refine ⟨_,rfl,?_⟩
          refine Cm 1 s30 [Ml 1 0,(2,vB false),(73,vB true)] [(1,0,cNV g)] fun _ _ => ?_
          exact cxs (Rt ⟨false,rfl,⟨fun h => absurd h Bool.false_ne_true,fun h => (show False from (h71 h.seen)).elim⟩,hP30⟩)
         ·replace h71 := h71.1 rfl
          iterate 2 refine ⟨_,rfl,?_⟩
          refine Cm 1 s30 [Ml 1 0,(2,vB false),(73,vB false)] [(1,0,cNV g)] fun _ _ => ?_
          have hal : (g.acked.l.length : Int) = g.n := h51.2.1
          refine cxs ?_
          refine Cm 1 s30 [Ml 1 0,(2,vB false),(3,vI 0)] [(1,0,cNV g)] fun _ _ => ?_
          refine AW.loopM (fun i : Nat => [(1,vL 1 0 (0)),(3,vI (i : Int))]) (fun i : Nat => [(1,0,cNV g)]) (fun m (i : Nat) st' => m = g.acked.l.length - i ∧ i ≤ g.acked.l.length ∧ (∀ (j : Nat) x,j < i → g.acked.l[j]? = some x → x ≤ logSeq g.g.x) ∧ s30 = st') 0 _ ⟨rfl,rfl,trivial⟩ ⟨rfl,trivial⟩ ⟨rfl,Nat.zero_le _,fun j x h => absurd h (Nat.not_lt_zero _),rfl⟩ ?_
          rintro m i ρ0 ff gg st' ⟨rfl,hi,hok,rfl⟩
          refine ⟨_,rfl,?_⟩
          refine ⟨_,Od rfl,?_⟩
          refine ⟨_,rfl,?_⟩
          rintro (_|_) h77
          ·replace h77 : ¬ ((i : Int) < g.n) := of_decide_eq_false h77
           refine Cm gg s30 [Ml 1 0,(3,vI (i : Int)),(77,vB false)] [(1,0,cNV g)] fun _ _ => ?_
           refine cxs ?_
           refine ⟨_,rfl,?_⟩
           refine ⟨_,Od rfl,?_⟩
           refine ⟨_,rfl,(ac_spec_l1In g.num 0 100000 s30).mono ?_⟩
           rintro _ s30 ⟨x91,rfl,h91,rfl⟩
           rcases x91 with _|_
           ·replace h91 := of_decide_eq_false h91.symm
            iterate 4 refine ⟨_,rfl,?_⟩
            refine ow_cut [(1,vL 1 0 (0)),(110,vB true)] ⟨rfl,rfl,trivial⟩ fun _ => ?_
            iterate 2 refine ⟨_,rfl,?_⟩
            refine Cm gg s30 [Ml 1 0,(122,vB true)] [(1,0,cNV g)] fun _ _ => ?_
            exact cxs (Rt ⟨false,rfl,⟨fun h => absurd h Bool.false_ne_true,fun h => (show False from (h91 h.num)).elim⟩,hP30⟩)
           ·replace h91 := of_decide_eq_true h91.symm
            iterate 2 refine ⟨_,rfl,?_⟩
            refine ⟨_,Od rfl,?_⟩
            refine ⟨_,rfl,(ac_spec_l1In g.clock 0 100000 s30).mono ?_⟩
            rintro _ s30 ⟨x96,rfl,h96,rfl⟩
            rcases x96 with _|_
            ·replace h96 := of_decide_eq_false h96.symm
             iterate 4 refine ⟨_,rfl,?_⟩
             refine ow_cut [(1,vL 1 0 (0)),(110,vB true)] ⟨rfl,rfl,trivial⟩ fun _ => ?_
             iterate 2 refine ⟨_,rfl,?_⟩
             refine Cm gg s30 [Ml 1 0,(122,vB true)] [(1,0,cNV g)] fun _ _ => ?_
             exact cxs (Rt ⟨false,rfl,⟨fun h => absurd h Bool.false_ne_true,fun h => (show False from (h96 h.clock)).elim⟩,hP30⟩)
            ·replace h96 := of_decide_eq_true h96.symm
             iterate 3 refine ⟨_,rfl,?_⟩
             refine ⟨_,Od rfl,?_⟩
             refine ⟨_,rfl,(ac_spec_l1In g.slots 1 4 s30).mono ?_⟩
             rintro _ s30 ⟨x102,rfl,h102,rfl⟩
             rcases x102 with _|_
             ·replace h102 := of_decide_eq_false h102.symm
              iterate 3 refine ⟨_,rfl,?_⟩
              refine ow_cut [(1,vL 1 0 (0)),(110,vB true)] ⟨rfl,rfl,trivial⟩ fun _ => ?_
              iterate 2 refine ⟨_,rfl,?_⟩
              refine Cm gg s30 [Ml 1 0,(122,vB true)] [(1,0,cNV g)] fun _ _ => ?_
              exact cxs (Rt ⟨false,rfl,⟨fun h => absurd h Bool.false_ne_true,fun h => (show False from (h102 h.slots)).elim⟩,hP30⟩)
             ·replace h102 := of_decide_eq_true h102.symm
              iterate 3 refine ⟨_,rfl,?_⟩
              refine ow_cut [(1,vL 1 0 (0)),(105,vB false),(106,vL 1 15 (0))] ⟨rfl,rfl,rfl,trivial⟩ fun _ => ?_
              refine ⟨_,Od rfl,?_⟩
              refine ⟨_,rfl,(ac_spec_l1In g.wait 1 20 s30).mono ?_⟩
              rintro _ s30 ⟨x108,rfl,h108,rfl⟩
              rcases x108 with _|_
              ·replace h108 := of_decide_eq_false h108.symm
               iterate 4 refine ⟨_,rfl,?_⟩
               refine Cm gg s30 [Ml 1 0,(122,vB true)] [(1,0,cNV g)] fun _ _ => ?_
               exact cxs (Rt ⟨false,rfl,⟨fun h => absurd h Bool.false_ne_true,fun h => (show False from (h108 h.wait)).elim⟩,hP30⟩)
              ·replace h108 := of_decide_eq_true h108.symm
               iterate 3 refine ⟨_,rfl,?_⟩
               refine ⟨_,Od rfl,?_⟩
               refine ⟨_,rfl,(ac_spec_l1In g.limit 1 50 s30).mono ?_⟩
               rintro _ s30 ⟨x114,rfl,h114,rfl⟩
               rcases x114 with _|_
               ·replace h114 := of_decide_eq_false h114.symm
                iterate 3 refine ⟨_,rfl,?_⟩
                refine Cm gg s30 [Ml 1 0,(122,vB true)] [(1,0,cNV g)] fun _ _ => ?_
                exact cxs (Rt ⟨false,rfl,⟨fun h => absurd h Bool.false_ne_true,fun h => (show False from (h114 h.limit)).elim⟩,hP30⟩)
               ·replace h114 := of_decide_eq_true h114.symm
                iterate 3 refine ⟨_,rfl,?_⟩
                refine ⟨_,Od rfl,?_⟩
                iterate 2 refine ⟨_,rfl,?_⟩
                rintro (_|_) h121
                ·replace h121 : (g.rises.l.length : Int) = (5) := bne_eq_false_iff_eq.1 h121
                 refine ⟨_,rfl,?_⟩
                 refine Cm gg s30 [Ml 1 0,(122,vB false)] [(1,0,cNV g)] fun _ _ => ?_
                 refine cxs ?_
                 refine Cm gg s30 [Ml 1 0,(4,vI 0)] [(1,0,cNV g)] fun _ _ => ?_
                 refine AW.loopM (fun i : Nat => [(1,vL 1 0 (0)),(4,vI (i : Int))]) (fun i : Nat => [(1,0,cNV g)]) (fun m (i : Nat) st' => m = 5 - i ∧ i ≤ 5 ∧ (∀ (j : Nat) x,j < i → g.rises.l[j]? = some x → risOk g.x x) ∧ s30 = st') 0 _ ⟨rfl,rfl,trivial⟩ ⟨rfl,trivial⟩ ⟨rfl,Nat.zero_le _,fun j x h => absurd h (Nat.not_lt_zero _),rfl⟩ ?_
                 rintro m i ρ0 ff gg st' ⟨rfl,hi2,hris,rfl⟩
                 refine ⟨_,rfl,?_⟩
                 rintro (_|_) h124
                 ·replace h124 : ¬ ((i : Int) < (5)) := of_decide_eq_false h124
                  refine Cm gg s30 [Ml 1 0,(4,vI (i : Int)),(124,vB false)] [(1,0,cNV g)] fun _ _ => ?_
                  refine cxs ?_
                  refine ⟨_,op_ldo (v := (vNV g)) rfl rfl rfl rfl,?_⟩
                  refine ⟨_,rfl,(ac_spec_l11Sess g s30 (hR.pres hP30) (by first | assumption | omega) (by first | assumption | omega)).mono ?_⟩
                  rintro _ s30 ⟨x151,rfl,h151,rfl⟩
                  rcases x151 with _|_
                  ·replace h151 := fun k => Bool.false_ne_true (h151.2 k)
                   exact cxs (Rt ⟨false,rfl,⟨fun h => absurd h Bool.false_ne_true,fun h => (show False from (h151 h.sess)).elim⟩,hP30⟩)
                  ·replace h151 := h151.1 rfl
                   exact cxs (Rt ⟨true,rfl,⟨fun _ => ⟨h8,h16,h22,h31.trans h30,h37,h44,h51,h64 ▸ hy59,upall (P := fun _ x => x ≤ logSeq g.g.x) hok (by show g.acked.l.length ≤ _; omega),h71,h91,h96,h108,h114,h102,h151,by show g.rises.l.length = 5; omega,upall (P := fun _ => risOk g.x) hris (by show g.rises.l.length ≤ i; omega)⟩,fun _ => rfl⟩,hP30⟩)
                 ·replace h124 : (i : Int) < (5) := of_decide_eq_true h124
                  refine Cm gg s30 [Ml 1 0,(4,vI (i : Int)),(124,vB true)] [(1,0,cNV g)] fun _ _ => ?_
                  refine cxs ?_
                  refine ⟨_,rfl,?_⟩
                  refine ⟨_,Od rfl,?_⟩
                  refine op_at i (hP30.rows hR.rises) (by omega) rfl rfl rfl rfl rfl rfl rfl ?_
                  intro x130 b130 d130 k130 hy130 hb130 hm130 hc130 ho130
                  refine ⟨_,op_lda rfl rfl rfl rfl rfl hm130 hc130 rfl,?_⟩
                  refine ⟨_,rfl,?_⟩
                  refine ⟨_,Os rfl,?_⟩
                  refine Cm (gg + 1) s30 [Ml 1 0,(4,vI (i : Int)),Ml 5 gg,(124,vB true)] [(1,0,cNV g),(5,gg,[vI x130.inc,vI x130.beat,vI x130.tick])] fun _ _ => ?_
                  refine ⟨_,rfl,?_⟩
                  refine ⟨_,Od rfl,?_⟩
                  refine ⟨_,rfl,(ac_spec_l1In x130.inc 0 1000 s30).mono ?_⟩
                  rintro _ s30 ⟨x134,rfl,h134,rfl⟩
                  rcases x134 with _|_
                  ·replace h134 := of_decide_eq_false h134.symm
                   iterate 3 refine ⟨_,rfl,?_⟩
                   refine Cm (gg + 1) s30 [Ml 1 0,(4,vI (i : Int)),Ml 5 gg,(124,vB true),(149,vB true)] [(1,0,cNV g),(5,gg,[vI x130.inc,vI x130.beat,vI x130.tick])] fun _ _ => ?_
                   exact cxs (Rt ⟨false,rfl,⟨fun h => absurd h Bool.false_ne_true,fun h => (show False from (h134 (h.rises.2 i x130 hy130).1)).elim⟩,hP30⟩)
                  ·replace h134 := of_decide_eq_true h134.symm
                   iterate 2 refine ⟨_,rfl,?_⟩
                   refine ⟨_,Od rfl,?_⟩
                   refine ⟨_,rfl,(ac_spec_l1In x130.beat 0 100000 s30).mono ?_⟩
                   rintro _ s30 ⟨x139,rfl,h139,rfl⟩
                   rcases x139 with _|_
                   ·replace h139 := of_decide_eq_false h139.symm
                    iterate 3 refine ⟨_,rfl,?_⟩
                    refine Cm (gg + 1) s30 [Ml 1 0,(4,vI (i : Int)),Ml 5 gg,(124,vB true),(149,vB true)] [(1,0,cNV g),(5,gg,[vI x130.inc,vI x130.beat,vI x130.tick])] fun _ _ => ?_
                    exact cxs (Rt ⟨false,rfl,⟨fun h => absurd h Bool.false_ne_true,fun h => (show False from (h139 (h.rises.2 i x130 hy130).2.1)).elim⟩,hP30⟩)
                   ·replace h139 := of_decide_eq_true h139.symm
                    iterate 3 refine ⟨_,rfl,?_⟩
                    refine ⟨_,Od rfl,?_⟩
                    refine ⟨_,rfl,?_⟩
                    refine ⟨_,Od rfl,?_⟩
                    refine ⟨_,rfl,(ac_spec_l1In x130.tick 0 g.clock s30).mono ?_⟩
                    rintro _ s30 ⟨x147,rfl,h147,rfl⟩
                    rcases x147 with _|_
                    ·replace h147 := of_decide_eq_false h147.symm
                     iterate 2 refine ⟨_,rfl,?_⟩
                     refine Cm (gg + 1) s30 [Ml 1 0,(4,vI (i : Int)),Ml 5 gg,(124,vB true),(149,vB true)] [(1,0,cNV g),(5,gg,[vI x130.inc,vI x130.beat,vI x130.tick])] fun _ _ => ?_
                     exact cxs (Rt ⟨false,rfl,⟨fun h => absurd h Bool.false_ne_true,fun h => (show False from (h147 (h.rises.2 i x130 hy130).2.2)).elim⟩,hP30⟩)
                    ·replace h147 := of_decide_eq_true h147.symm
                     iterate 2 refine ⟨_,rfl,?_⟩
                     refine Cm (gg + 1) s30 [Ml 1 0,(4,vI (i : Int)),Ml 5 gg,(124,vB true),(149,vB false)] [(1,0,cNV g),(5,gg,[vI x130.inc,vI x130.beat,vI x130.tick])] fun _ _ => ?_
                     refine cxs ?_
                     have ew126 : IntKind.wrap .i64 ((i : Int) + (1)) = ((i + 1 : Nat) : Int) := (wrap_i64 (by omega) (by omega)).trans (by omega)
                     refine ⟨_,rfl,?_⟩
                     exact ⟨i + 1,5 - (i + 1),by omega,⟨rfl,congrArg (Value.int .i64) ew126,trivial⟩,⟨rfl,trivial⟩,rfl,by omega,upto (P := fun _ => risOk g.x) hris hy130 ⟨h134,h139,h147⟩,rfl⟩
                ·replace h121 : ¬ ((g.rises.l.length : Int) = (5)) := bne_iff_ne.1 h121
                 refine ⟨_,rfl,?_⟩
                 refine Cm gg s30 [Ml 1 0,(122,vB true)] [(1,0,cNV g)] fun _ _ => ?_
                 exact cxs (Rt ⟨false,rfl,⟨fun h => absurd h Bool.false_ne_true,fun h => (show False from (h121 (by have h1 : g.rises.l.length = 5 := h.rises.1; omega))).elim⟩,hP30⟩)
          ·replace h77 : (i : Int) < g.n := of_decide_eq_true h77
           refine Cm gg s30 [Ml 1 0,(3,vI (i : Int)),(77,vB true)] [(1,0,cNV g)] fun _ _ => ?_
           refine cxs ?_
           refine ⟨_,rfl,?_⟩
           refine ⟨_,Od rfl,?_⟩
           refine ⟨ld_own rfl rfl rfl,?_⟩
           refine op_at i (hP30.rows hR.acked) (by omega) rfl rfl rfl rfl rfl rfl rfl ?_
           intro x83 b83 d83 k83 hy83 hb83 hm83 hc83 ho83
           refine ⟨_,op_ldc (i := 0) rfl rfl rfl rfl hm83 hc83 rfl rfl,?_⟩
           refine ⟨ld_lt rfl rfl hb83,?_⟩
           refine ⟨_,rfl,?_⟩
           refine ⟨_,Od rfl,?_⟩
           refine ⟨_,rfl,(ac_spec_LogSeq g.g s30 (hR.g.pres hP30) (bigLog_iff.1 hb.g)).mono ?_⟩
           rintro _ s30 ⟨rfl,rfl⟩
           refine ⟨fun _ _ => rfl,?_⟩
           refine ⟨_,rfl,?_⟩
           rintro (_|_) h88
           ·replace h88 : ¬ (x83 > (logSeq g.g.x)) := of_decide_eq_false h88
            refine Cm gg s30 [Ml 1 0,(3,vI (i : Int)),(77,vB true),(88,vB false)] [(1,0,cNV g)] fun _ _ => ?_
            refine cxs ?_
            have ew79 : IntKind.wrap .i64 ((i : Int) + (1)) = ((i + 1 : Nat) : Int) := (wrap_i64 (by omega) (by omega)).trans (by omega)
            refine ⟨_,rfl,?_⟩
            exact ⟨i + 1,g.acked.l.length - (i + 1),by omega,⟨rfl,congrArg (Value.int .i64) ew79,trivial⟩,⟨rfl,trivial⟩,rfl,by omega,upto (P := fun _ x => x ≤ logSeq g.g.x) hok hy83 (by omega),rfl⟩
           ·replace h88 : x83 > (logSeq g.g.x) := of_decide_eq_true h88
            refine Cm gg s30 [Ml 1 0,(3,vI (i : Int)),(77,vB true),(88,vB true)] [(1,0,cNV g)] fun _ _ => ?_
            exact cxs (Rt ⟨false,rfl,⟨fun h => absurd h Bool.false_ne_true,fun h => (show False from (absurd (h.ack i x83 hy83) (by show ¬ x83 ≤ logSeq g.g.x; omega))).elim⟩,hP30⟩)
        ·replace h64 : ¬ (x59 = (logSeq g.g.x)) := bne_iff_ne.1 h64
         iterate 2 refine ⟨_,rfl,?_⟩
         refine Cm 1 s30 [Ml 1 0,(2,vB false),(73,vB true)] [(1,0,cNV g)] fun _ _ => ?_
         exact cxs (Rt ⟨false,rfl,⟨fun h => absurd h Bool.false_ne_true,fun h => (show False from (h64 (Option.some.inj (hy59.symm.trans h.seq)))).elim⟩,hP30⟩)
theorem ac_spec_l9Copy (p : Option Addr) (t : List RV) (st : St) (hR : RdT st p t) (hs : szOk t.length) (hr : ∀ r ∈ t,szOk r.l.length) : C 159 [vS p t.length] st (fun v s => ∃ q u,v = vS q t.length ∧ u.map (·.l) = t.map (·.l) ∧ OwnP s (pcT q u) ∧ NewP st.next (pcT q u) ∧ Pres st s) := by
 have hs : t.length ≤ 1048576 := hs
 refine AC.enterX (i := ⟨[],[],[0,2,3,4,9],[]⟩) [] Tryz.func159 rfl rfl (by kernel_rfl) (by kernel_rfl) Tryz.ntmps159 (Lb rfl) rfl ?_
 refine Cu lo0 st [(0,vS p t.length),(2,Sn)] fun _ => ?_
 refine op_nilK (z := 1) (f := cRV) rfl rfl rfl rfl Nat.one_pos rfl ?_
 intro q0 s0 hO0 hP0 hN0
 refine cxs ?_
 refine Cu lo0 s0 [(0,vS p t.length),(2,Sn),(3,vS q0 0),(4,vI 0)] fun _ => ?_
 refine AW.loop0 (fun x : List RV × Option Addr => [(0,vS p t.length),(3,vS x.2 x.1.length),(4,vI (x.1.length : Int))]) (fun m (x : List RV × Option Addr) st' => m = t.length - x.1.length ∧ x.1.length ≤ t.length ∧ x.1.map (·.l) = (t.take x.1.length).map (·.l) ∧ OwnP st' (pcT x.2 x.1) ∧ NewP st.next (pcT x.2 x.1) ∧ Pres st st') ([],q0) _ ⟨rfl,rfl,rfl,trivial⟩ rfl ⟨rfl,Nat.zero_le _,rfl,OwnP.one (own_pc hO0),NewP.cons hN0 NewP.nil,hP0⟩ ?_
 rintro m x ρ0 st' ⟨rfl,hi,hl,hO,hN,hP⟩
 iterate 2 refine ⟨_,rfl,?_⟩
 rintro (_|_) h1
 ·replace h1 : ¬ ((x.1.length : Int) < (t.length : Int)) := of_decide_eq_false h1
  refine Cu lo0 st' [(0,vS p t.length),(3,vS x.2 x.1.length),(4,vI (x.1.length : Int)),(9,vB false)] fun _ => ?_
  refine cxs ?_
  refine cxs ?_
  have hil : x.1.length = t.length := by omega
  exact Rt ⟨x.2,x.1,congrArg (vS x.2) hil,by rw [hl,hil,List.take_length],hO,hN,hP⟩
 ·replace h1 : (x.1.length : Int) < (t.length : Int) := of_decide_eq_true h1
  refine Cu lo0 st' [(0,vS p t.length),(3,vS x.2 x.1.length),(4,vI (x.1.length : Int)),(9,vB true)] fun _ => ?_
  have h1' := Int.ofNat_lt.1 h1
  have hRd := hR.pres hP
  have ⟨b1,o1,k1,r,hpe,hr1,hm1,hc1,hb1⟩ := hRd.1.atB h1'
  have hmem := List.mem_of_getElem? hr1
  have hrs : r.l.length ≤ 1048576 := hr r hmem
  obtain ⟨d1,d2,d3⟩ := split_at hr1
  refine cxs ?_
  refine op_nilK (z := 1) (f := fI) rfl rfl rfl rfl Nat.one_pos rfl ?_
  intro q1 s1 hO1 hP1 hN1
  have hm1' := (hP1.2 b1 hb1).trans hm1
  refine ⟨_,op_idx (j := (x.1.length : Int)) (n := t.length) (q := ⟨b1,o1,none⟩) rfl (congrArg (fun u => vS u t.length) hpe) rfl rfl rfl (Int.natCast_nonneg _) h1,?_⟩
  refine ⟨_,op_ldc (i := 0) (v := vS r.p r.l.length) rfl rfl rfl rfl hm1' hc1 rfl rfl,?_⟩
  refine op_app (z := 1) (st := s1) (f := fI) (b := 8) (l := []) (l2 := r.l) rfl rfl rfl rfl rfl rfl rfl Nat.one_pos fI_len rfl rfl rfl rfl (by omega) (by unfold maxLen; omega) hO1 (hP1.rows (hRd.2 r hmem)) ?_
  intro q2 s2 hO2 hPr2 hN2
  refine op_one (z := 1) (a := (⟨q2,r.l⟩ : RV)) (f := cRV) rfl (congrArg (vS q2) (Nat.zero_add _)) rfl rfl rfl Nat.one_pos rfl (Lb rfl) rfl rfl rfl ?_
  have hP2 : Pres st' s2 := hPr2.pres hP1 hN1
  have hN2 : New st'.next q2 := by
   rcases hN2 with ⟨h,_,_⟩ | ⟨_,h⟩
   ·rw [h]; exact hN1
   ·exact h.le hP1.1
  refine op_add (z := 1) (st := s2) (f := cRV) (b := 24) (l := x.1) rfl rfl rfl rfl rfl rfl rfl Nat.one_pos cRV_len rfl rfl rfl (by omega) (by unfold maxLen; omega) (hP2.ownR hO.outer) ?_
  intro q4 s4 hO4 hP4 hN4
  refine Cu lo0 s4 [(0,vS p t.length),(3,vS q4 (x.1.length + 1)),(4,vI (x.1.length : Int)),(9,vB true)] fun _ => ?_
  have hA := OwnP.renew (l := []) (m := x.1.map pcRV ++ [pcRV ⟨q2,r.l⟩]) (c := pcR 1 cRV x.2 x.1) (OwnP.join (l := pcT x.2 x.1) (m := [pcRV ⟨q2,r.l⟩]) hO hP2 (OwnP.one (own_pc hO2)) (NewP.cons hN2 NewP.nil)) hP4 (own_pc hO4) hN4
  have hA : OwnP s4 (pcT q4 (x.1 ++ [⟨q2,r.l⟩])) := by simpa [pcT] using hA
  have e11 : IntKind.wrap .i64 ((x.1.length : Int) + 1) = ((x.1.length + 1 : Nat) : Int) := (wrap_i64 (by omega) (by omega)).trans (by omega)
  refine ⟨_,rfl,?_⟩
  refine ⟨(x.1 ++ [⟨q2,r.l⟩],q4),t.length - (x.1.length + 1),by omega,⟨rfl,?_,?_,trivial⟩,rfl,?_,?_,?_,hA,?_,?_⟩
  ·rw [List.length_append]; rfl
  ·rw [List.length_append]; exact congrArg (Value.int .i64) e11
  ·rw [List.length_append]; rfl
  ·rw [List.length_append]; exact h1'
  ·rw [List.map_append,hl,List.length_append,List.length_singleton,d2,List.map_append]; rfl
  ·refine NewP.cons (hN4.le (Nat.le_trans hP.1 hP2.1)) ?_
   rw [List.map_append]
   exact NewP.app (fun c hc => hN c (List.mem_cons_of_mem _ hc)) (NewP.cons (hN2.le hP.1) NewP.nil)
  ·exact hP4.pres (hP.trans hP2) (hN _ (List.mem_cons_self ..))
theorem ac_impl_copyTable (p : Option Addr) (t : List RV) (st : St) (hR : RdT st p t) (hs : szOk t.length) (hr : ∀ r ∈ t,szOk r.l.length) : C 150 [vS p t.length] st (fun v s => ∃ q u,v = vS q t.length ∧ u.map (·.l) = t.map (·.l) ∧ OwnP s (pcT q u) ∧ NewP st.next (pcT q u) ∧ Pres st s) := by
 have hs : t.length ≤ 1048576 := hs
 refine AC.enterX (i := ⟨[],[],[0,2,3,5,7,8,9,10],[]⟩) [] Tryz.func150 rfl rfl (by kernel_rfl) (by kernel_rfl) Tryz.ntmps150 (Lb rfl) rfl ?_
 refine Cu lo0 st [(0,vS p t.length),(2,Sn)] fun _ => ?_
 refine op_nilK (z := 1) (f := cRV) rfl rfl rfl rfl Nat.one_pos rfl ?_
 intro q0 s0 hO0 hP0 hN0
 refine Cu lo0 s0 [(0,vS p t.length),(2,Sn),(3,vS q0 0)] fun _ => ?_
 refine ⟨_,rfl,?_⟩
 refine Cu lo0 s0 [(0,vS p t.length),(2,Sn),(3,vS q0 0),(7,vS p t.length),(8,vI (t.length)),(9,vI 0)] fun _ => ?_
 refine AW.loop0 (fun x : List RV × Option Addr => [(0,vS p t.length),(3,vS x.2 x.1.length),(7,vS p t.length),(8,vI (t.length : Int)),(9,vI (x.1.length : Int))]) (fun m (x : List RV × Option Addr) st' => m = t.length - x.1.length ∧ x.1.length ≤ t.length ∧ x.1.map (·.l) = (t.take x.1.length).map (·.l) ∧ OwnP st' (pcT x.2 x.1) ∧ NewP st.next (pcT x.2 x.1) ∧ Pres st st') ([],q0) _ ⟨rfl,rfl,rfl,rfl,rfl,trivial⟩ rfl ⟨rfl,Nat.zero_le _,rfl,OwnP.one (own_pc hO0),NewP.cons hN0 NewP.nil,hP0⟩ ?_
 rintro m x ρ0 st' ⟨rfl,hi,hl,hO,hN,hP⟩
 refine ⟨_,rfl,?_⟩
 rintro (_|_) h1
 ·replace h1 : ¬ ((x.1.length : Int) < (t.length : Int)) := of_decide_eq_false h1
  refine Cu lo0 st' [(0,vS p t.length),(3,vS x.2 x.1.length),(7,vS p t.length),(8,vI (t.length : Int)),(9,vI (x.1.length : Int)),(10,vB false)] fun _ => ?_
  refine cxs ?_
  refine cxs ?_
  have hil : x.1.length = t.length := by omega
  exact Rt ⟨x.2,x.1,congrArg (vS x.2) hil,by rw [hl,hil,List.take_length],hO,hN,hP⟩
 ·replace h1 : (x.1.length : Int) < (t.length : Int) := of_decide_eq_true h1
  refine Cu lo0 st' [(0,vS p t.length),(3,vS x.2 x.1.length),(7,vS p t.length),(8,vI (t.length : Int)),(9,vI (x.1.length : Int)),(10,vB true)] fun _ => ?_
  have h1' := Int.ofNat_lt.1 h1
  have hRd := hR.pres hP
  have ⟨b1,o1,k1,r,hpe,hr1,hm1,hc1,hb1⟩ := hRd.1.atB h1'
  have hmem := List.mem_of_getElem? hr1
  have hrs : r.l.length ≤ 1048576 := hr r hmem
  obtain ⟨d1,d2,d3⟩ := split_at hr1
  refine cxs ?_
  refine ⟨_,op_idx (j := (x.1.length : Int)) (n := t.length) (q := ⟨b1,o1,none⟩) rfl (congrArg (fun u => vS u t.length) hpe) rfl rfl rfl (Int.natCast_nonneg _) h1,?_⟩
  refine ⟨_,op_ldc (i := 0) (v := vS r.p r.l.length) rfl rfl rfl rfl hm1 hc1 rfl rfl,?_⟩
  refine Cu lo0 st' [(0,vS p t.length),(3,vS x.2 x.1.length),(5,vS r.p r.l.length),(7,vS p t.length),(8,vI (t.length : Int)),(9,vI (x.1.length : Int)),(10,vB true)] fun _ => ?_
  refine ⟨_,rfl,(ac_impl_copyInts r.p r.l st' (hRd.2 r hmem).ints (by omega)).mono ?_⟩
  rintro _ s2 ⟨q2,rfl,hO2,hP2,hN2⟩
  have hO2 : OwnR s2 1 fI q2 r.l := Own.r.1 hO2
  refine op_one (z := 1) (a := (⟨q2,r.l⟩ : RV)) (f := cRV) rfl rfl rfl rfl rfl Nat.one_pos rfl (Lb rfl) rfl rfl rfl ?_
  refine op_add (z := 1) (st := s2) (f := cRV) (b := 24) (l := x.1) rfl rfl rfl rfl rfl rfl rfl Nat.one_pos cRV_len rfl rfl rfl (by omega) (by unfold maxLen; omega) (hP2.ownR hO.outer) ?_
  intro q4 s4 hO4 hP4 hN4
  refine Cu lo0 s4 [(0,vS p t.length),(3,vS q4 (x.1.length + 1)),(5,vS r.p r.l.length),(7,vS p t.length),(8,vI (t.length : Int)),(9,vI (x.1.length : Int)),(10,vB true)] fun _ => ?_
  have hA := OwnP.renew (l := []) (m := x.1.map pcRV ++ [pcRV ⟨q2,r.l⟩]) (c := pcR 1 cRV x.2 x.1) (OwnP.join (l := pcT x.2 x.1) (m := [pcRV ⟨q2,r.l⟩]) hO hP2 (OwnP.one (own_pc hO2)) (NewP.cons hN2 NewP.nil)) hP4 (own_pc hO4) hN4
  have hA : OwnP s4 (pcT q4 (x.1 ++ [⟨q2,r.l⟩])) := by simpa [pcT] using hA
  have e18 : IntKind.wrap .i64 ((x.1.length : Int) + 1) = ((x.1.length + 1 : Nat) : Int) := (wrap_i64 (by omega) (by omega)).trans (by omega)
  refine ⟨_,rfl,?_⟩
  refine ⟨(x.1 ++ [⟨q2,r.l⟩],q4),t.length - (x.1.length + 1),by omega,⟨rfl,?_,rfl,rfl,?_,trivial⟩,rfl,?_,?_,?_,hA,?_,?_⟩
  ·rw [List.length_append]; rfl
  ·rw [List.length_append]; exact congrArg (Value.int .i64) e18
  ·rw [List.length_append]; rfl
  ·rw [List.length_append]; exact h1'
  ·rw [List.map_append,hl,List.length_append,List.length_singleton,d2,List.map_append]; rfl
  ·refine NewP.cons (hN4.le (Nat.le_trans hP.1 hP2.1)) ?_
   rw [List.map_append]
   exact NewP.app (fun c hc => hN c (List.mem_cons_of_mem _ hc)) (NewP.cons (hN2.le hP.1) NewP.nil)
  ·exact hP4.pres (hP.trans hP2) (hN _ (List.mem_cons_self ..))
def addMarks (l : List Int) (ms : List Flr) : List Int := ms.foldl (fun r m => r.set m.id.toNat (max (r.getD m.id.toNat 0) m.inc)) l
theorem addMarks_len : ∀ (ms : List Flr) (l : List Int),(addMarks l ms).length = l.length
 | [],l => rfl
 | m :: ms,l => by
  have := addMarks_len ms (l.set m.id.toNat (max (l.getD m.id.toNat 0) m.inc))
  rw [List.length_set] at this
  exact this
theorem addMarks_snoc (l : List Int) (ms : List Flr) (m : Flr) : addMarks l (ms ++ [m]) = (addMarks l ms).set m.id.toNat (max ((addMarks l ms).getD m.id.toNat 0) m.inc) := by simp [addMarks]
def putT {α : Type} (t : List α) (K : Nat) (x : α) : List α := t.take K ++ x :: t.drop (K + 1)
open Classical in
noncomputable def tableAdd (t : List (List Int)) (k : Int) (ms : List Flr) : List (List Int) :=
 if (0 ≤ k ∧ k ≤ (t.length : Int) - 1) ∧ marksOk ms ∧ 5 ≤ (t.getD k.toNat []).length then putT t k.toNat (addMarks (t.getD k.toNat []) ms) else t
theorem putT_map {u : List RV} {K : Nat} {x : RV} : (putT u K x).map (·.l) = putT (u.map (·.l)) K x.l := by simp [putT,List.map_take,List.map_drop]
theorem putT_self {α : Type} {u : List α} {K : Nat} {x : α} (h : u[K]? = some x) : putT u K x = u := (split_at h).1.symm
theorem putT_get {α : Type} {u : List α} {K : Nat} {x : α} (h : K < u.length) : (putT u K x)[K]? = some x := by
 unfold putT
 rw [List.getElem?_append_right (by rw [List.length_take]; omega),List.length_take,show K - min K u.length = 0 by omega]
 rfl
theorem putT_len {α : Type} {u : List α} {K : Nat} {x : α} (h : K < u.length) : (putT u K x).length = u.length := by
 unfold putT
 rw [List.length_append,List.length_take,List.length_cons,List.length_drop]; omega
theorem OwnP.put {st st' : St} {q : Option Addr} {u : List RV} {K : Nat} {a : Option Addr} {l l' : List Int} (h : OwnP st (pcT q (putT u K ⟨a,l⟩))) (hp : Pr a st st') (ho : OwnR st' 1 fI a l') (hl : l'.length = l.length) : OwnP st' (pcT q (putT u K ⟨a,l'⟩)) := by
 have h1 : pcT q (putT u K ⟨a,l⟩) = (pcR 1 cRV q (putT u K ⟨a,l⟩) :: (u.take K).map pcRV) ++ pcRV ⟨a,l⟩ :: (u.drop (K + 1)).map pcRV := by simp [pcT,putT]
 have h2 : pcT q (putT u K ⟨a,l'⟩) = (pcR 1 cRV q (putT u K ⟨a,l⟩) :: (u.take K).map pcRV) ++ pcRV ⟨a,l'⟩ :: (u.drop (K + 1)).map pcRV := by simp [pcT,putT,pcR,hl]
 rw [h1] at h
 rw [h2]
 exact OwnP.update h hp (own_pc ho) rfl
theorem Frs.lw {a b : St} {u : LV} (h : Frs a b (pcL u.p u.l)) : ∃ w : LW,w.v = u ∧ Frs a b (pcLog w) := by
 obtain ⟨w,hw,hO,hC⟩ := h.1.lw
 refine ⟨w,hw,hO,?_,h.2.2⟩
 subst hw
 show NewP a.next (w.C :: w.l.flatMap pcS)
 rw [hC]; exact h.2.1
theorem Frs.one {α : Type} {a b : St} {z : Nat} {f : α → List Value} {p : Option Addr} {l : List α} (hO : OwnR b z f p l) (hN : New a.next p) (hP : Pres a b) : Frs a b [pcR z f p l] := ⟨OwnP.one (own_pc hO),NewP.cons hN NewP.nil,hP⟩
theorem Frs.nil (a : St) : Frs a a [] := ⟨OwnP.nil,NewP.nil,Pres.refl _⟩
theorem Frs.later {a b c : St} {l : List Pc} (h : Frs a b l) (k : Pres b c) : Frs a c l := ⟨h.1.pres k,h.2.1,h.2.2.trans k⟩
theorem Frs.sooner {a b c : St} {l : List Pc} (h : Frs b c l) (k : Pres a b) : Frs a c l := ⟨h.1,h.2.1.le k.1,k.trans h.2.2⟩
theorem nd_mk {id n num slots wait limit clock : Int} {s s' : Sta} {t t' : Tr} {g g' : Lg} {got acked : List Int} {seen seen' : List (List Int)} {sess : List Ses} {rises : List Ris} (h1 : s = s') (h2 : t = t') (h3 : g = g') (h4 : seen = seen') : (⟨id,n,s,t,g,got,acked,seen,num,slots,sess,wait,limit,clock,rises⟩ : Nd) = ⟨id,n,s',t',g',got,acked,seen',num,slots,sess,wait,limit,clock,rises⟩ := by rw [h1,h2,h3,h4]
theorem tv_xx {u t : TV} (h1 : u.l = t.l) (h2 : u.root = t.root) : u.x = t.x := by show (⟨u.l,u.root⟩ : Tr) = ⟨t.l,t.root⟩; rw [h1,h2]
theorem tc_impl_copyTable (g : TT) (st : St) (hR : RdT st g.p g.t) (hb : bigT g.x) : C 150 [vS g.p g.t.length] st (fun v s => ∃ u : TT,v = vS u.p u.t.length ∧ u.x = g.x ∧ OwnP s (pcTT u) ∧ NewP st.next (pcTT u) ∧ Pres st s) :=
 (ac_impl_copyTable g.p g.t st hR (bigT_iff.1 hb).1 (bigT_iff.1 hb).2).mono fun v s ⟨q,u,h1,h2,h3,h4,h5⟩ => ⟨⟨q,u⟩,h1.trans (congrArg (vS q) (by have := congrArg List.length h2; simpa using this.symm)),h2,h3,h4,h5⟩
theorem tc_spec_l9Copy (g : TT) (st : St) (hR : RdT st g.p g.t) (hb : bigT g.x) : C 159 [vS g.p g.t.length] st (fun v s => ∃ u : TT,v = vS u.p u.t.length ∧ u.x = g.x ∧ OwnP s (pcTT u) ∧ NewP st.next (pcTT u) ∧ Pres st s) :=
 (ac_spec_l9Copy g.p g.t st hR (bigT_iff.1 hb).1 (bigT_iff.1 hb).2).mono fun v s ⟨q,u,h1,h2,h3,h4,h5⟩ => ⟨⟨q,u⟩,h1.trans (congrArg (vS q) (by have := congrArg List.length h2; simpa using this.symm)),h2,h3,h4,h5⟩
theorem ac_impl_copyNode (g : NV) (st : St) (hR : RdN st g) (hb : bigN g.x) : C 49 [(vNV g)] st (fun v s => ∃ u : NW,v = (vNV u) ∧ u.x = g.x ∧ OwnP s (pcNW u) ∧ NewP st.next (pcNW u) ∧ Pres st s) := by
 have hs1 : g.sess.l.length ≤ 1048576 := hb.sess
 have hs2 : g.rises.l.length ≤ 1048576 := hb.rises
 refine AC.enterX (i := ⟨[1,2],[1,2,3,6,9,12,13,14,15,18,21,24,25,26,28,31,33,36],[0,1,2],[]⟩) [(1,[2,5],[4,7]),(2,[2,5],[4,7])] Tryz.func49 rfl rfl (by kernel_rfl) (by kernel_rfl) Tryz.ntmps49 (Lb rfl) rfl ?_
 iterate 2 refine ⟨_,rfl,?_⟩
 refine Cm 2 st [Ml 1 0,Ml 2 1] [(1,0,cNV g),(2,1,Zn)] fun _ _ => ?_
 refine ⟨_,rfl,?_⟩
 refine ⟨_,Od rfl,?_⟩
 refine ⟨_,rfl,(ac_impl_copyState g.s st hR.s (hb.s)).mono ?_⟩
 rintro _ s5 ⟨u5,rfl,h5,hO5,hN5,hP5⟩
 refine ⟨hP5.2,?_⟩
 refine ⟨_,rfl,?_⟩
 refine ⟨_,Od rfl,?_⟩
 refine ⟨ld_own rfl rfl rfl,?_⟩
 refine ⟨_,rfl,(ac_impl_copyTree g.t s5 (hP5.rows hR.t) (hb.t)).mono ?_⟩
 rintro _ s8 ⟨u8,rfl,h8,h8',hO8,hN8,hP8⟩
 refine ⟨hP8.low hP5,?_⟩
 refine ⟨_,rfl,?_⟩
 refine ⟨_,Od rfl,?_⟩
 refine ⟨ld_own rfl rfl rfl,?_⟩
 refine ⟨_,rfl,(ac_impl_copyLog g.g s8 (hR.g.pres (hP5.trans hP8)) (bigLog_iff.1 hb.g)).mono ?_⟩
 rintro _ s11 ⟨u11,rfl,h11,hO11,hN11,hP11⟩
 refine ⟨_,rfl,?_⟩
 refine ⟨_,Os rfl,?_⟩
 refine ⟨_,rfl,?_⟩
 refine ⟨_,Os rfl,?_⟩
 refine ⟨_,rfl,?_⟩
 refine ⟨_,Os rfl,?_⟩
 refine Cm 2 s11 [Ml 1 0,Ml 2 1] [(1,0,Nv g [(2,vS u5.p u5.x.items.length),(3,vS u5.q u5.x.floors.length),(4,vS u8.p u8.l.length),(5,vI u8.root),(6,vI u11.cap),(7,vI u11.frm),(8,vS u11.p u11.l.length)]),(2,1,Zn)] fun _ _ => ?_
 have hQ1 : Pres st s11 := (hP5.trans hP8).trans hP11
 refine ⟨_,rfl,?_⟩
 refine ⟨_,Od rfl,?_⟩
 refine ⟨_,rfl,(ac_copyInts g.got.p g.got.l s11 (hQ1.rows hR.got) hb.got).mono ?_⟩
 rintro _ s17 ⟨q17,rfl,hO17,hN17,hP17⟩
 refine ⟨hP17.2,?_⟩
 refine ⟨_,rfl,?_⟩
 refine ⟨_,Od rfl,?_⟩
 refine ⟨ld_own rfl rfl rfl,?_⟩
 refine ⟨_,rfl,(ac_copyInts g.acked.p g.acked.l s17 ((hQ1.trans hP17).rows hR.acked) hb.acked).mono ?_⟩
 rintro _ s20 ⟨q20,rfl,hO20,hN20,hP20⟩
 refine ⟨hP20.low hP17,?_⟩
 refine ⟨_,rfl,?_⟩
 refine ⟨_,Od rfl,?_⟩
 refine ⟨ld_own rfl rfl rfl,?_⟩
 refine ⟨_,rfl,(tc_impl_copyTable g.seen s20 (hR.seen.pres ((hQ1.trans hP17).trans hP20)) hb.seen).mono ?_⟩
 rintro _ s23 ⟨u23,rfl,h23,hO23,hN23,hP23⟩
 refine ⟨_,rfl,?_⟩
 refine ⟨_,Os rfl,?_⟩
 refine ⟨_,rfl,?_⟩
 refine ⟨_,Os rfl,?_⟩
 refine ⟨_,rfl,?_⟩
 refine ⟨_,Os rfl,?_⟩
 refine Cm 2 s23 [Ml 1 0,Ml 2 1] [(1,0,Nv g [(2,vS u5.p u5.x.items.length),(3,vS u5.q u5.x.floors.length),(4,vS u8.p u8.l.length),(5,vI u8.root),(6,vI u11.cap),(7,vI u11.frm),(8,vS u11.p u11.l.length),(9,vS q17 g.got.l.length),(10,vS q20 g.acked.l.length),(11,vS u23.p u23.t.length)]),(2,1,Zn)] fun _ _ => ?_
 have hQ2 : Pres st s23 := ((hQ1.trans hP17).trans hP20).trans hP23
 have hRs := hQ2.rows hR.sess
 have hRr := hQ2.rows hR.rises
 refine op_nilK (z := 4) (f := cSess) rfl rfl rfl rfl (by decide) rfl ?_
 intro q27 s27 hO27 hP27 hN27
 refine ⟨_,rfl,?_⟩
 refine ⟨_,Od rfl,?_⟩
 refine op_cat' (z := 4) (st := s27) (f := cSess) (b := 32) (l := []) (l2 := g.sess.l) rfl rfl rfl rfl rfl rfl rfl (by decide) len_cSess rfl rfl rfl rfl (by first | omega | (simp only [List.length_nil]; omega)) (by unfold maxLen; first | omega | (simp only [List.length_nil]; omega)) hO27 (hP27.rows hRs) ?_
 intro q30 s30 hO30 hPr30 hN30
 refine ⟨_,rfl,?_⟩
 refine ⟨_,Os rfl,?_⟩
 refine Cm 2 s30 [Ml 1 0,Ml 2 1] [(1,0,Nv g [(2,vS u5.p u5.x.items.length),(3,vS u5.q u5.x.floors.length),(4,vS u8.p u8.l.length),(5,vI u8.root),(6,vI u11.cap),(7,vI u11.frm),(8,vS u11.p u11.l.length),(9,vS q17 g.got.l.length),(10,vS q20 g.acked.l.length),(11,vS u23.p u23.t.length),(14,vS q30 g.sess.l.length)]),(2,1,Zn)] fun _ _ => ?_
 have hP30 : Pres s23 s30 := hPr30.pres hP27 hN27
 refine op_nilK (z := 3) (f := cRise) rfl rfl rfl rfl (by decide) rfl ?_
 intro q32 s32 hO32 hP32 hN32
 refine ⟨_,rfl,?_⟩
 refine ⟨_,Od rfl,?_⟩
 refine op_cat' (z := 3) (st := s32) (f := cRise) (b := 24) (l := []) (l2 := g.rises.l) rfl rfl rfl rfl rfl rfl rfl (by decide) len_cRise rfl rfl rfl rfl (by first | omega | (simp only [List.length_nil]; omega)) (by unfold maxLen; first | omega | (simp only [List.length_nil]; omega)) hO32 (hP32.rows (hP30.rows hRr)) ?_
 intro q35 s35 hO35 hPr35 hN35
 refine ⟨_,rfl,?_⟩
 refine ⟨_,Os rfl,?_⟩
 refine Cm 2 s35 [Ml 1 0,Ml 2 1] [(1,0,[vI g.id,vI g.n,vS u5.p u5.x.items.length,vS u5.q u5.x.floors.length,vS u8.p u8.l.length,vI u8.root,vI u11.cap,vI u11.frm,vS u11.p u11.l.length,vS q17 g.got.l.length,vS q20 g.acked.l.length,vS u23.p u23.t.length,vI g.num,vI g.slots,vS q30 g.sess.l.length,vI g.wait,vI g.limit,vI g.clock,vS q35 g.rises.l.length]),(2,1,Zn)] fun _ _ => ?_
 refine ⟨_,op_ldo (v := .agg #[vI g.id,vI g.n,vS u5.p u5.x.items.length,vS u5.q u5.x.floors.length,vS u8.p u8.l.length,vI u8.root,vI u11.cap,vI u11.frm,vS u11.p u11.l.length,vS q17 g.got.l.length,vS q20 g.acked.l.length,vS u23.p u23.t.length,vI g.num,vI g.slots,vS q30 g.sess.l.length,vI g.wait,vI g.limit,vI g.clock,vS q35 g.rises.l.length]) rfl rfl rfl rfl,?_⟩
 refine ⟨_,op_stw (vs := [vI g.id,vI g.n,vS u5.p u5.x.items.length,vS u5.q u5.x.floors.length,vS u8.p u8.l.length,vI u8.root,vI u11.cap,vI u11.frm,vS u11.p u11.l.length,vS q17 g.got.l.length,vS q20 g.acked.l.length,vS u23.p u23.t.length,vI g.num,vI g.slots,vS q30 g.sess.l.length,vI g.wait,vI g.limit,vI g.clock,vS q35 g.rises.l.length]) rfl rfl rfl rfl rfl rfl rfl rfl,?_⟩
 refine cxs ?_
 obtain ⟨w,rfl,hF11⟩ := Frs.lw ⟨hO11,hN11,hP11⟩
 have hF30 : Frs s23 s30 (pcSes ⟨q30,g.sess.l⟩) := Frs.one hO30 (cat_new hP27 hN27 hN30) hP30
 have hF35 : Frs s30 s35 (pcRis ⟨q35,g.rises.l⟩) := Frs.one hO35 (cat_new hP32 hN32 hN35) (hPr35.pres hP32 hN32)
 have hF : Frs st s35 (pcNW ⟨g.id,g.n,u5,u8,w,⟨q17,g.got.l⟩,⟨q20,g.acked.l⟩,u23,g.num,g.slots,⟨q30,g.sess.l⟩,g.wait,g.limit,g.clock,⟨q35,g.rises.l⟩⟩) := Frs.join ⟨hO5,hN5,hP5⟩ ((Frs.one hO8 hN8 hP8).join (hF11.join ((Frs.one hO17 hN17 hP17).join ((Frs.one hO20 hN20 hP20).join (Frs.join ⟨hO23,hN23,hP23⟩ (hF30.join hF35))))))
 exact Rt ⟨_,rfl,nd_mk h5 (tv_xx h8 h8') h11 h23,hF.1,hF.2.1,hF.2.2⟩
theorem ac_spec_l11Copy (g : NV) (st : St) (hR : RdN st g) (hb : bigN g.x) : C 55 [(vNV g)] st (fun v s => ∃ u : NW,v = (vNV u) ∧ u.x = g.x ∧ OwnP s (pcNW u) ∧ NewP st.next (pcNW u) ∧ Pres st s) := by
 have hs1 : g.sess.l.length ≤ 1048576 := hb.sess
 have hs2 : g.rises.l.length ≤ 1048576 := hb.rises
 have hs3 : g.got.l.length ≤ 1048576 := hb.got
 have hs4 : g.acked.l.length ≤ 1048576 := hb.acked
 refine AC.enterX (i := ⟨[1,2,3],[1,2,3,5,8,9,12,13,16,18,21,23,26,27,30,32,35,37,40],[0,1,2,3],[]⟩) [] Tryz.func55 rfl rfl (by kernel_rfl) (by kernel_rfl) Tryz.ntmps55 (Lb rfl) rfl ?_
 iterate 2 refine ⟨_,rfl,?_⟩
 refine Cm 2 st [Ml 1 0,Ml 2 1] [(1,0,cNV g),(2,1,Zn)] fun _ _ => ?_
 refine ⟨_,op_ldo (v := (vNV g)) rfl rfl rfl rfl,?_⟩
 refine ⟨_,rfl,?_⟩
 refine ⟨_,op_stw (vs := cNV g) rfl rfl rfl rfl rfl rfl rfl rfl,?_⟩
 refine Cm 3 st [Ml 1 0,Ml 2 1,Ml 3 2] [(1,0,cNV g),(2,1,Zn),(3,2,cNV g)] fun _ _ => ?_
 refine ⟨_,rfl,?_⟩
 refine ⟨_,Od rfl,?_⟩
 refine ⟨_,rfl,(ac_spec_l3Copy g.s st hR.s (hb.s)).mono ?_⟩
 rintro _ s7 ⟨u7,rfl,h7,hO7,hN7,hP7⟩
 refine ⟨_,rfl,?_⟩
 refine ⟨_,Os rfl,?_⟩
 refine Cm 3 s7 [Ml 1 0,Ml 2 1,Ml 3 2] [(1,0,cNV g),(2,1,Zn),(3,2,Nv g [(2,vS u7.p u7.x.items.length),(3,vS u7.q u7.x.floors.length)])] fun _ _ => ?_
 refine ⟨_,rfl,?_⟩
 refine ⟨_,Od rfl,?_⟩
 refine ⟨_,rfl,(ac_spec_l6Copy g.t s7 (hP7.rows hR.t) (hb.t)).mono ?_⟩
 rintro _ s11 ⟨u11,rfl,h11,h11',hO11,hN11,hP11⟩
 refine ⟨_,rfl,?_⟩
 refine ⟨_,Os rfl,?_⟩
 refine Cm 3 s11 [Ml 1 0,Ml 2 1,Ml 3 2] [(1,0,cNV g),(2,1,Zn),(3,2,Nv g [(2,vS u7.p u7.x.items.length),(3,vS u7.q u7.x.floors.length),(4,vS u11.p u11.l.length),(5,vI u11.root)])] fun _ _ => ?_
 refine ⟨_,rfl,?_⟩
 refine ⟨_,Od rfl,?_⟩
 refine ⟨_,rfl,(ac_spec_l7Copy g.g s11 (hR.g.pres (hP7.trans hP11)) (bigLog_iff.1 hb.g)).mono ?_⟩
 rintro _ s15 ⟨u15,rfl,h15,hO15,hN15,hP15⟩
 refine ⟨_,rfl,?_⟩
 refine ⟨_,Os rfl,?_⟩
 refine Cm 3 s15 [Ml 1 0,Ml 2 1,Ml 3 2] [(1,0,cNV g),(2,1,Zn),(3,2,Nv g [(2,vS u7.p u7.x.items.length),(3,vS u7.q u7.x.floors.length),(4,vS u11.p u11.l.length),(5,vI u11.root),(6,vI u15.cap),(7,vI u15.frm),(8,vS u15.p u15.l.length)])] fun _ _ => ?_
 have hQ1 : Pres st s15 := (hP7.trans hP11).trans hP15
 have hRg := hQ1.rows hR.got
 refine op_nilK (z := 1) (f := fI) rfl rfl rfl rfl (by decide) rfl ?_
 intro q17 s17 hO17 hP17 hN17
 refine ⟨_,rfl,?_⟩
 refine ⟨_,Od rfl,?_⟩
 refine op_cat' (z := 1) (st := s17) (f := fI) (b := 8) (l := []) (l2 := g.got.l) rfl rfl rfl rfl rfl rfl rfl (by decide) fI_len rfl rfl rfl rfl (by first | omega | (simp only [List.length_nil]; omega)) (by unfold maxLen; first | omega | (simp only [List.length_nil]; omega)) hO17 (hP17.rows hRg) ?_
 intro q20 s20 hO20 hPr20 hN20
 refine ⟨_,rfl,?_⟩
 refine ⟨_,Os rfl,?_⟩
 refine Cm 3 s20 [Ml 1 0,Ml 2 1,Ml 3 2] [(1,0,cNV g),(2,1,Zn),(3,2,Nv g [(2,vS u7.p u7.x.items.length),(3,vS u7.q u7.x.floors.length),(4,vS u11.p u11.l.length),(5,vI u11.root),(6,vI u15.cap),(7,vI u15.frm),(8,vS u15.p u15.l.length),(9,vS q20 g.got.l.length)])] fun _ _ => ?_
 have hP20 : Pres s15 s20 := hPr20.pres hP17 hN17
 have hQ2 := hQ1.trans hP20
 have hRa := hQ2.rows hR.acked
 refine op_nilK (z := 1) (f := fI) rfl rfl rfl rfl (by decide) rfl ?_
 intro q22 s22 hO22 hP22 hN22
 refine ⟨_,rfl,?_⟩
 refine ⟨_,Od rfl,?_⟩
 refine op_cat' (z := 1) (st := s22) (f := fI) (b := 8) (l := []) (l2 := g.acked.l) rfl rfl rfl rfl rfl rfl rfl (by decide) fI_len rfl rfl rfl rfl (by first | omega | (simp only [List.length_nil]; omega)) (by unfold maxLen; first | omega | (simp only [List.length_nil]; omega)) hO22 (hP22.rows hRa) ?_
 intro q25 s25 hO25 hPr25 hN25
 refine ⟨_,rfl,?_⟩
 refine ⟨_,Os rfl,?_⟩
 refine Cm 3 s25 [Ml 1 0,Ml 2 1,Ml 3 2] [(1,0,cNV g),(2,1,Zn),(3,2,Nv g [(2,vS u7.p u7.x.items.length),(3,vS u7.q u7.x.floors.length),(4,vS u11.p u11.l.length),(5,vI u11.root),(6,vI u15.cap),(7,vI u15.frm),(8,vS u15.p u15.l.length),(9,vS q20 g.got.l.length),(10,vS q25 g.acked.l.length)])] fun _ _ => ?_
 have hP25 : Pres s20 s25 := hPr25.pres hP22 hN22
 have hQ3 := hQ2.trans hP25
 refine ⟨_,rfl,?_⟩
 refine ⟨_,Od rfl,?_⟩
 refine ⟨_,rfl,(tc_spec_l9Copy g.seen s25 (hR.seen.pres hQ3) hb.seen).mono ?_⟩
 rintro _ s29 ⟨u29,rfl,h29,hO29,hN29,hP29⟩
 refine ⟨_,rfl,?_⟩
 refine ⟨_,Os rfl,?_⟩
 refine Cm 3 s29 [Ml 1 0,Ml 2 1,Ml 3 2] [(1,0,cNV g),(2,1,Zn),(3,2,Nv g [(2,vS u7.p u7.x.items.length),(3,vS u7.q u7.x.floors.length),(4,vS u11.p u11.l.length),(5,vI u11.root),(6,vI u15.cap),(7,vI u15.frm),(8,vS u15.p u15.l.length),(9,vS q20 g.got.l.length),(10,vS q25 g.acked.l.length),(11,vS u29.p u29.t.length)])] fun _ _ => ?_
 have hQ4 : Pres st s29 := hQ3.trans hP29
 have hRs := hQ4.rows hR.sess
 have hRr := hQ4.rows hR.rises
 refine op_nilK (z := 4) (f := cSess) rfl rfl rfl rfl (by decide) rfl ?_
 intro q31 s31 hO31 hP31 hN31
 refine ⟨_,rfl,?_⟩
 refine ⟨_,Od rfl,?_⟩
 refine op_cat' (z := 4) (st := s31) (f := cSess) (b := 32) (l := []) (l2 := g.sess.l) rfl rfl rfl rfl rfl rfl rfl (by decide) len_cSess rfl rfl rfl rfl (by first | omega | (simp only [List.length_nil]; omega)) (by unfold maxLen; first | omega | (simp only [List.length_nil]; omega)) hO31 (hP31.rows hRs) ?_
 intro q34 s34 hO34 hPr34 hN34
 refine ⟨_,rfl,?_⟩
 refine ⟨_,Os rfl,?_⟩
 refine Cm 3 s34 [Ml 1 0,Ml 2 1,Ml 3 2] [(1,0,cNV g),(2,1,Zn),(3,2,Nv g [(2,vS u7.p u7.x.items.length),(3,vS u7.q u7.x.floors.length),(4,vS u11.p u11.l.length),(5,vI u11.root),(6,vI u15.cap),(7,vI u15.frm),(8,vS u15.p u15.l.length),(9,vS q20 g.got.l.length),(10,vS q25 g.acked.l.length),(11,vS u29.p u29.t.length),(14,vS q34 g.sess.l.length)])] fun _ _ => ?_
 have hP34 : Pres s29 s34 := hPr34.pres hP31 hN31
 refine op_nilK (z := 3) (f := cRise) rfl rfl rfl rfl (by decide) rfl ?_
 intro q36 s36 hO36 hP36 hN36
 refine ⟨_,rfl,?_⟩
 refine ⟨_,Od rfl,?_⟩
 refine op_cat' (z := 3) (st := s36) (f := cRise) (b := 24) (l := []) (l2 := g.rises.l) rfl rfl rfl rfl rfl rfl rfl (by decide) len_cRise rfl rfl rfl rfl (by first | omega | (simp only [List.length_nil]; omega)) (by unfold maxLen; first | omega | (simp only [List.length_nil]; omega)) hO36 (hP36.rows (hP34.rows hRr)) ?_
 intro q39 s39 hO39 hPr39 hN39
 refine ⟨_,rfl,?_⟩
 refine ⟨_,Os rfl,?_⟩
 refine Cm 3 s39 [Ml 2 1,Ml 3 2] [(2,1,Zn),(3,2,[vI g.id,vI g.n,vS u7.p u7.x.items.length,vS u7.q u7.x.floors.length,vS u11.p u11.l.length,vI u11.root,vI u15.cap,vI u15.frm,vS u15.p u15.l.length,vS q20 g.got.l.length,vS q25 g.acked.l.length,vS u29.p u29.t.length,vI g.num,vI g.slots,vS q34 g.sess.l.length,vI g.wait,vI g.limit,vI g.clock,vS q39 g.rises.l.length])] fun _ _ => ?_
 refine ⟨_,op_ldo (v := .agg #[vI g.id,vI g.n,vS u7.p u7.x.items.length,vS u7.q u7.x.floors.length,vS u11.p u11.l.length,vI u11.root,vI u15.cap,vI u15.frm,vS u15.p u15.l.length,vS q20 g.got.l.length,vS q25 g.acked.l.length,vS u29.p u29.t.length,vI g.num,vI g.slots,vS q34 g.sess.l.length,vI g.wait,vI g.limit,vI g.clock,vS q39 g.rises.l.length]) rfl rfl rfl rfl,?_⟩
 refine ⟨_,op_stw (vs := [vI g.id,vI g.n,vS u7.p u7.x.items.length,vS u7.q u7.x.floors.length,vS u11.p u11.l.length,vI u11.root,vI u15.cap,vI u15.frm,vS u15.p u15.l.length,vS q20 g.got.l.length,vS q25 g.acked.l.length,vS u29.p u29.t.length,vI g.num,vI g.slots,vS q34 g.sess.l.length,vI g.wait,vI g.limit,vI g.clock,vS q39 g.rises.l.length]) rfl rfl rfl rfl rfl rfl rfl rfl,?_⟩
 refine cxs ?_
 obtain ⟨w,rfl,hF15⟩ := Frs.lw ⟨hO15,hN15,hP15⟩
 have hF20 : Frs s15 s20 (pcIs ⟨q20,g.got.l⟩) := Frs.one hO20 (cat_new hP17 hN17 hN20) hP20
 have hF25 : Frs s20 s25 (pcIs ⟨q25,g.acked.l⟩) := Frs.one hO25 (cat_new hP22 hN22 hN25) hP25
 have hF34 : Frs s29 s34 (pcSes ⟨q34,g.sess.l⟩) := Frs.one hO34 (cat_new hP31 hN31 hN34) hP34
 have hF39 : Frs s34 s39 (pcRis ⟨q39,g.rises.l⟩) := Frs.one hO39 (cat_new hP36 hN36 hN39) (hPr39.pres hP36 hN36)
 have hF : Frs st s39 (pcNW ⟨g.id,g.n,u7,u11,w,⟨q20,g.got.l⟩,⟨q25,g.acked.l⟩,u29,g.num,g.slots,⟨q34,g.sess.l⟩,g.wait,g.limit,g.clock,⟨q39,g.rises.l⟩⟩) := Frs.join ⟨hO7,hN7,hP7⟩ ((Frs.one hO11 hN11 hP11).join (hF15.join (hF20.join (hF25.join (Frs.join ⟨hO29,hN29,hP29⟩ (hF34.join hF39))))))
 exact Rt ⟨_,rfl,nd_mk h7 (tv_xx h11 h11') h15 h29,hF.1,hF.2.1,hF.2.2⟩
theorem OwnP.swap {st st' : St} {a c d b : List Pc} (h : OwnP st (a ++ (c ++ b))) (hF : Frs st st' d) : OwnP st' (a ++ (d ++ b)) :=
 (OwnP.joinF (OwnP.right (OwnP.front1 h)) hF.2.2 hF.1 hF.2.1).front1
theorem NewP.left {n : Nat} {a b : List Pc} (h : NewP n (a ++ b)) : NewP n a := fun c hc => h c (List.mem_append_left _ hc)
theorem NewP.right {n : Nat} {a b : List Pc} (h : NewP n (a ++ b)) : NewP n b := fun c hc => h c (List.mem_append_right _ hc)
theorem Frs.swap {s0 st st' : St} {a c d b : List Pc} (h : Frs s0 st (a ++ (c ++ b))) (hF : Frs st st' d) : Frs s0 st' (a ++ (d ++ b)) :=
 ⟨h.1.swap hF,h.2.1.left.app ((hF.2.1.le h.2.2.1).app h.2.1.right.right),h.2.2.trans hF.2.2⟩
theorem Frs.sess {s0 st st' : St} {v : NW} {q : SesV} (h : Frs s0 st (pcNW v)) (hF : Frs st st' (pcSes q)) : Frs s0 st' (pcNW { v with sess := q }) := by
 have e : ∀ x : SesV,pcNW { v with sess := x } = (pcS v.s ++ (pcIs v.t.toRV ++ (pcLog v.g ++ (pcIs v.got ++ (pcIs v.acked ++ pcTT v.seen))))) ++ (pcSes x ++ pcRis v.rises) := fun x => by simp only [List.append_assoc]
 rw [e]
 exact Frs.swap (c := pcSes v.sess) (by rw [← e]; exact h) hF
theorem Frs.ses0 {a : St} : Frs a a (pcSes ⟨none,[]⟩) := ⟨OwnP.one (.inl ⟨rfl,rfl⟩),NewP.cons New.none NewP.nil,Pres.refl _⟩
theorem Frs.ownS {a b : St} {q : Option Addr} {l : List Ses} (h : Frs a b (pcSes ⟨q,l⟩)) : OwnR b 4 cSess q l := own_one (by decide) len_cSess h.1
theorem Frs.newS {a b : St} {q : Option Addr} {l : List Ses} (h : Frs a b (pcSes ⟨q,l⟩)) : New a.next q := h.2.1 _ (List.mem_cons_self ..)
def older (x : Ses) : Ses := ⟨x.peer,x.num,x.inn,x.age + 1⟩
abbrev agedL (w : Int) (l : List Ses) : List Ses := (l.map older).filter fun x => decide (x.age ≤ w)
theorem aged_in {w : Int} {l : List Ses} {i : Nat} {x : Ses} (h : l[i]? = some x) (hx : x.age + 1 ≤ w) : agedL w (l.take (i + 1)) = agedL w (l.take i) ++ [older x] := by
 unfold agedL
 rw [List.take_add_one,h,List.map_append,List.filter_append]
 congr 1
 show List.filter _ [older x] = [older x]
 exact List.filter_cons_of_pos (decide_eq_true hx)
theorem aged_out {w : Int} {l : List Ses} {i : Nat} {x : Ses} (h : l[i]? = some x) (hx : ¬ x.age + 1 ≤ w) : agedL w (l.take (i + 1)) = agedL w (l.take i) := by
 unfold agedL
 rw [List.take_add_one,h,List.map_append,List.filter_append]
 have : List.filter (fun x : Ses => decide (x.age ≤ w)) [older x] = [] := List.filter_cons_of_neg (fun h => hx (of_decide_eq_true h))
 show _ ++ List.filter _ [older x] = _
 rw [this,List.append_nil]
theorem aged_len (w : Int) (l : List Ses) : (agedL w l).length ≤ l.length := Nat.le_trans (List.length_filter_le _ _) (by rw [List.length_map]; exact Nat.le_refl _)
open Classical in
noncomputable def tickF (x : Nd) : Nd := if nodeOk x ∧ ¬ x.clock = 100000 then { x with clock := x.clock + 1,sess := agedL x.wait x.sess } else x
theorem tick_no {x : Nd} (h : ¬ (nodeOk x ∧ ¬ x.clock = 100000)) : tickF x = x := if_neg h
theorem tick_yes {x : Nd} (h : nodeOk x ∧ ¬ x.clock = 100000) : tickF x = { x with clock := x.clock + 1,sess := agedL x.wait x.sess } := if_pos h
theorem tick_eq {g x : Nd} {l : List Ses} (h : x = g) (hk : nodeOk g ∧ ¬ g.clock = 100000) (hl : l = agedL g.wait g.sess) : ({ x with clock := x.clock + 1,sess := l } : Nd) = tickF g := by rw [tick_yes hk,h,hl]
theorem ac_spec_Tick (g : NV) (st : St) (hR : RdN st g) (hb : bigN g.x) : C 194 [(vNV g)] st (fun v s => ∃ u : NW,v = (vNV u) ∧ u.x = tickF g.x ∧ OwnP s (pcNW u) ∧ NewP st.next (pcNW u) ∧ Pres st s) := by
 have hs1 : g.sess.l.length ≤ 1048576 := hb.sess
 refine AC.enterX (i := ⟨[1,2,3,5],[1,2,3,5,12,17,20,21,23,29,34,37,38,40,43,48],[0,1,2,3,4,5,15,26,42],[]⟩) [] Tryz.func194 rfl rfl (by kernel_rfl) (by kernel_rfl) Tryz.ntmps194 (Lb rfl) rfl ?_
 iterate 2 refine ⟨_,rfl,?_⟩
 refine Cm 2 st [Ml 1 0,Ml 2 1] [(1,0,cNV g),(2,1,Zn)] fun _ _ => ?_
 refine ⟨_,op_ldo (v := (vNV g)) rfl rfl rfl rfl,?_⟩
 refine ⟨_,rfl,(ac_spec_l11Copy g st hR (by first | assumption | omega)).mono ?_⟩
 rintro _ s7 ⟨u7,rfl,h7,hO7,hN7,hP7⟩
 refine ⟨_,rfl,?_⟩
 refine ⟨_,op_stw (vs := cNV u7.v) rfl rfl rfl rfl rfl rfl rfl rfl,?_⟩
 refine Cm 3 s7 [Ml 1 0,Ml 2 1,Ml 3 2] [(1,0,cNV g),(2,1,Zn),(3,2,cNV u7.v)] fun _ _ => ?_
 refine ⟨_,op_ldo (v := (vNV g)) rfl rfl rfl rfl,?_⟩
 refine ⟨_,rfl,(ac_spec_NodeOk g s7 (hR.pres hP7) (by first | assumption | omega)).mono ?_⟩
 rintro _ s9 ⟨x9,rfl,h9,hP9⟩
 rcases x9 with _|_
 ·replace h9 := fun k => Bool.false_ne_true (h9.2 k)
  iterate 2 refine ⟨_,rfl,?_⟩
  refine Cm 3 s9 [Ml 1 0,Ml 2 1,Ml 3 2,(15,vB true)] [(1,0,cNV g),(2,1,Zn),(3,2,cNV u7.v)] fun _ _ => ?_
  have hF9 : Frs st s9 (pcNW u7) := ⟨hO7.pres hP9,hN7,hP7.trans hP9⟩
  refine ⟨_,op_ldo (v := (vNV u7.v)) rfl rfl rfl rfl,?_⟩
  refine ⟨_,op_stw (vs := cNV u7.v) rfl rfl rfl rfl rfl rfl rfl rfl,?_⟩
  exact cxs (Rt ⟨u7,rfl,h7.trans (tick_no fun k => h9 k.1).symm,hF9.1,hF9.2.1,hF9.2.2⟩)
 ·replace h9 := h9.1 rfl
  iterate 2 refine ⟨_,rfl,?_⟩
  refine ⟨_,Od rfl,?_⟩
  refine ⟨_,rfl,?_⟩
  rintro (_|_) h14
  ·replace h14 : ¬ (g.clock = (100000)) := beq_eq_false_iff_ne.1 h14
   refine ⟨_,rfl,?_⟩
   refine Cm 3 s9 [Ml 1 0,Ml 2 1,Ml 3 2,(15,vB false)] [(1,0,cNV g),(2,1,Zn),(3,2,cNV u7.v)] fun _ _ => ?_
   have hF9 : Frs st s9 (pcNW u7) := ⟨hO7.pres hP9,hN7,hP7.trans hP9⟩
   refine cxs ?_
   refine ⟨_,rfl,?_⟩
   refine ⟨_,Od rfl,?_⟩
   have hc7 : u7.clock = g.clock := congrArg Nd.clock h7
   have hcl : 0 ≤ g.clock ∧ g.clock ≤ 100000 := h9.clock
   have hwt : 1 ≤ g.wait ∧ g.wait ≤ 20 := h9.wait
   have ew19 : IntKind.wrap .i64 (u7.clock + (1)) = u7.clock + (1) := wrap_i64 (by omega) (by omega)
   iterate 2 refine ⟨_,rfl,?_⟩
   refine ⟨_,Os rfl,?_⟩
   refine AW.cutM (3) s9 [Ml 1 0,Ml 2 1,Ml 3 2] [(1,0,cNV g),(2,1,Zn),(3,2,Nv u7 [(17,vI (u7.clock + (1)))])] ⟨rfl,rfl,rfl,trivial⟩ ⟨rfl,rfl,(show some (2,[vI u7.id,vI u7.n,vS u7.s.p u7.s.x.items.length,vS u7.s.q u7.s.x.floors.length,vS u7.t.p u7.t.l.length,vI u7.t.root,vI u7.g.cap,vI u7.g.frm,vS u7.g.p u7.g.l.length,vS u7.got.p u7.got.l.length,vS u7.acked.p u7.acked.l.length,vS u7.seen.p u7.seen.t.length,vI u7.num,vI u7.slots,vS u7.sess.p u7.sess.l.length,vI u7.wait,vI u7.limit,vI (IntKind.wrap .i64 (u7.clock + (1))),vS u7.rises.p u7.rises.l.length]) = some (2,[vI u7.id,vI u7.n,vS u7.s.p u7.s.x.items.length,vS u7.s.q u7.s.x.floors.length,vS u7.t.p u7.t.l.length,vI u7.t.root,vI u7.g.cap,vI u7.g.frm,vS u7.g.p u7.g.l.length,vS u7.got.p u7.got.l.length,vS u7.acked.p u7.acked.l.length,vS u7.seen.p u7.seen.t.length,vI u7.num,vI u7.slots,vS u7.sess.p u7.sess.l.length,vI u7.wait,vI u7.limit,vI (u7.clock + (1)),vS u7.rises.p u7.rises.l.length]) by rw [ew19]),trivial⟩ rfl fun _ _ => ?_
   refine ⟨_,rfl,?_⟩
   refine ⟨_,Os rfl,?_⟩
   refine cxs ?_
   refine Cm 3 s9 [Ml 1 0,Ml 2 1,Ml 3 2,(4,vI 0)] [(1,0,cNV g),(2,1,Zn),(3,2,Nv u7 [(14,Sn),(17,vI (u7.clock + (1)))])] fun _ _ => ?_
   refine AW.loopM (fun x : Nat × Option Addr × List Ses => [(1,vL 1 0 (0)),(2,vL 2 0 (1)),(3,vL 3 0 (2)),(4,vI (x.1 : Int))]) (fun x : Nat × Option Addr × List Ses => [(1,0,cNV g),(2,1,[vI 0,vI 0,.slice none 0 0,.slice none 0 0,.slice none 0 0,vI 0,vI 0,vI 0,.slice none 0 0,.slice none 0 0,.slice none 0 0,.slice none 0 0,vI 0,vI 0,.slice none 0 0,vI 0,vI 0,vI 0,.slice none 0 0]),(3,2,[vI u7.id,vI u7.n,vS u7.s.p u7.s.x.items.length,vS u7.s.q u7.s.x.floors.length,vS u7.t.p u7.t.l.length,vI u7.t.root,vI u7.g.cap,vI u7.g.frm,vS u7.g.p u7.g.l.length,vS u7.got.p u7.got.l.length,vS u7.acked.p u7.acked.l.length,vS u7.seen.p u7.seen.t.length,vI u7.num,vI u7.slots,vS x.2.1 x.2.2.length,vI u7.wait,vI u7.limit,vI (u7.clock + 1),vS u7.rises.p u7.rises.l.length])]) (fun m (x : Nat × Option Addr × List Ses) st' => m = g.sess.l.length - x.1 ∧ x.1 ≤ g.sess.l.length ∧ x.2.2 = agedL g.wait (g.sess.l.take x.1) ∧ Frs s9 st' (pcSes ⟨x.2.1,x.2.2⟩)) (0,none,[]) _ ⟨rfl,rfl,rfl,rfl,trivial⟩ ⟨rfl,rfl,rfl,trivial⟩ ⟨rfl,Nat.zero_le _,rfl,Frs.ses0⟩ ?_
   rintro m ⟨i,q,l⟩ ρ0 ff gg st' ⟨rfl,hi,hv,hF⟩
   simp only at hi hv hF
   have hll : l.length ≤ i := by rw [hv]; exact Nat.le_trans (aged_len _ _) (by rw [List.length_take]; omega)
   refine ⟨_,rfl,?_⟩
   refine ⟨_,Od rfl,?_⟩
   iterate 2 refine ⟨_,rfl,?_⟩
   rintro (_|_) h26
   ·replace h26 : ¬ ((i : Int) < (g.sess.l.length : Int)) := of_decide_eq_false h26
    refine Cm gg st' [Ml 1 0,Ml 2 1,Ml 3 2,(4,vI (i : Int)),(26,vB false)] [(1,0,cNV g),(2,1,Zn),(3,2,Nv u7 [(14,vS q l.length),(17,vI (u7.clock + 1))])] fun _ _ => ?_
    refine cxs ?_
    refine ⟨_,op_ldo (v := .agg #[vI u7.id,vI u7.n,vS u7.s.p u7.s.x.items.length,vS u7.s.q u7.s.x.floors.length,vS u7.t.p u7.t.l.length,vI u7.t.root,vI u7.g.cap,vI u7.g.frm,vS u7.g.p u7.g.l.length,vS u7.got.p u7.got.l.length,vS u7.acked.p u7.acked.l.length,vS u7.seen.p u7.seen.t.length,vI u7.num,vI u7.slots,vS q l.length,vI u7.wait,vI u7.limit,vI (u7.clock + 1),vS u7.rises.p u7.rises.l.length]) rfl rfl rfl rfl,?_⟩
    refine ⟨_,op_stw (vs := [vI u7.id,vI u7.n,vS u7.s.p u7.s.x.items.length,vS u7.s.q u7.s.x.floors.length,vS u7.t.p u7.t.l.length,vI u7.t.root,vI u7.g.cap,vI u7.g.frm,vS u7.g.p u7.g.l.length,vS u7.got.p u7.got.l.length,vS u7.acked.p u7.acked.l.length,vS u7.seen.p u7.seen.t.length,vI u7.num,vI u7.slots,vS q l.length,vI u7.wait,vI u7.limit,vI (u7.clock + 1),vS u7.rises.p u7.rises.l.length]) rfl rfl rfl rfl rfl rfl rfl rfl,?_⟩
    refine cxs ?_
    have hF2 := hF9.sess hF
    exact Rt ⟨{ u7 with sess := ⟨q,l⟩,clock := u7.clock + 1 },rfl,tick_eq (x := u7.x) h7 ⟨h9,h14⟩ (by rw [hv,show i = g.sess.l.length by omega,List.take_length]),hF2.1,hF2.2.1,hF2.2.2⟩
   ·replace h26 : (i : Int) < (g.sess.l.length : Int) := of_decide_eq_true h26
    refine Cm gg st' [Ml 1 0,Ml 2 1,Ml 3 2,(4,vI (i : Int)),(26,vB true)] [(1,0,cNV g),(2,1,Zn),(3,2,Nv u7 [(14,vS q l.length),(17,vI (u7.clock + 1))])] fun _ _ => ?_
    refine cxs ?_
    refine ⟨_,rfl,?_⟩
    refine ⟨_,Od rfl,?_⟩
    refine op_at i ((hF9.2.2.trans hF.2.2).rows hR.sess) (by omega) rfl rfl rfl rfl rfl rfl rfl ?_
    intro x32 b32 d32 k32 hy32 hb32 hm32 hc32 ho32
    refine ⟨_,op_lda rfl rfl rfl rfl rfl hm32 hc32 rfl,?_⟩
    refine ⟨_,rfl,?_⟩
    refine ⟨_,Os rfl,?_⟩
    refine Cm (gg + 1) st' [Ml 1 0,Ml 2 1,Ml 3 2,(4,vI (i : Int)),Ml 5 gg,(26,vB true)] [(1,0,cNV g),(2,1,Zn),(3,2,Nv u7 [(14,vS q l.length),(17,vI (u7.clock + 1))]),(5,gg,[vI x32.peer,vI x32.num,vB x32.inn,vI x32.age])] fun _ _ => ?_
    refine ⟨_,rfl,?_⟩
    refine ⟨_,Od rfl,?_⟩
    have hag : 0 ≤ x32.age ∧ x32.age ≤ g.wait := (h9.sess.2 i x32 hy32).2.2.1
    have ew36 : IntKind.wrap .i64 (x32.age + (1)) = x32.age + (1) := wrap_i64 (by omega) (by omega)
    iterate 2 refine ⟨_,rfl,?_⟩
    refine ⟨_,Os rfl,?_⟩
    refine AW.cutM (gg + 1) st' [Ml 1 0,Ml 2 1,Ml 3 2,(4,vI (i : Int)),Ml 5 gg,(26,vB true)] [(1,0,cNV g),(2,1,Zn),(3,2,Nv u7 [(14,vS q l.length),(17,vI (u7.clock + 1))]),(5,gg,[vI x32.peer,vI x32.num,vB x32.inn,vI (x32.age + (1))])] ⟨rfl,rfl,rfl,rfl,rfl,rfl,trivial⟩ ⟨rfl,rfl,rfl,(show some (gg,[vI x32.peer,vI x32.num,vB x32.inn,vI (IntKind.wrap .i64 (x32.age + (1)))]) = some (gg,[vI x32.peer,vI x32.num,vB x32.inn,vI (x32.age + (1))]) by rw [ew36]),trivial⟩ rfl fun _ _ => ?_
    refine ⟨_,rfl,?_⟩
    refine ⟨_,Od rfl,?_⟩
    refine ⟨_,rfl,?_⟩
    refine ⟨_,Od rfl,?_⟩
    refine ⟨_,rfl,?_⟩
    rintro (_|_) h42
    ·replace h42 : ¬ ((x32.age + (1)) ≤ g.wait) := of_decide_eq_false h42
     refine Cm (gg + 1) st' [Ml 1 0,Ml 2 1,Ml 3 2,(4,vI (i : Int)),Ml 5 gg,(26,vB true),(42,vB false)] [(1,0,cNV g),(2,1,Zn),(3,2,Nv u7 [(14,vS q l.length),(17,vI (u7.clock + 1))]),(5,gg,[vI x32.peer,vI x32.num,vB x32.inn,vI (x32.age + (1))])] fun _ _ => ?_
     refine cxs ?_
     have ew28 : IntKind.wrap .i64 ((i : Int) + (1)) = ((i + 1 : Nat) : Int) := (wrap_i64 (by omega) (by omega)).trans (by omega)
     refine ⟨_,rfl,?_⟩
     exact ⟨(i + 1,q,l),g.sess.l.length - (i + 1),by omega,⟨rfl,rfl,rfl,congrArg (Value.int .i64) ew28,trivial⟩,⟨rfl,rfl,rfl,trivial⟩,rfl,by simp only; omega,by rw [aged_out hy32 h42]; exact hv,hF⟩
    ·replace h42 : (x32.age + (1)) ≤ g.wait := of_decide_eq_true h42
     refine Cm (gg + 1) st' [Ml 1 0,Ml 2 1,Ml 3 2,(4,vI (i : Int)),Ml 5 gg,(26,vB true),(42,vB true)] [(1,0,cNV g),(2,1,Zn),(3,2,Nv u7 [(14,vS q l.length),(17,vI (u7.clock + 1))]),(5,gg,[vI x32.peer,vI x32.num,vB x32.inn,vI (x32.age + (1))])] fun _ _ => ?_
     refine ⟨_,rfl,?_⟩
     refine ⟨_,Od rfl,?_⟩
     refine ⟨_,Od rfl,?_⟩
     refine op_one (z := 4) (a := ((older x32) : Ses)) (f := cSess) rfl rfl rfl rfl rfl (by decide) rfl (Lb rfl) rfl rfl rfl ?_
     refine op_snoc (z := 4) (st := st') (f := cSess) (b := 32) (l := l) (x := older x32) rfl rfl rfl rfl rfl rfl rfl (by decide) len_cSess rfl rfl rfl (by omega) (by unfold maxLen; omega) hF.ownS ?_
     intro q47 s47 hO47 hP47 hN47
     refine ⟨_,rfl,?_⟩
     refine ⟨_,Os rfl,?_⟩
     refine Cm (gg + 1) s47 [Ml 1 0,Ml 2 1,Ml 3 2,(4,vI (i : Int)),Ml 5 gg,(26,vB true),(42,vB true)] [(1,0,cNV g),(2,1,Zn),(3,2,[vI u7.id,vI u7.n,vS u7.s.p u7.s.x.items.length,vS u7.s.q u7.s.x.floors.length,vS u7.t.p u7.t.l.length,vI u7.t.root,vI u7.g.cap,vI u7.g.frm,vS u7.g.p u7.g.l.length,vS u7.got.p u7.got.l.length,vS u7.acked.p u7.acked.l.length,vS u7.seen.p u7.seen.t.length,vI u7.num,vI u7.slots,vS q47 (l ++ [older x32]).length,vI u7.wait,vI u7.limit,vI (u7.clock + 1),vS u7.rises.p u7.rises.l.length]),(5,gg,[vI x32.peer,vI x32.num,vB x32.inn,vI (x32.age + (1))])] fun _ _ => ?_
     have ew28 : IntKind.wrap .i64 ((i : Int) + (1)) = ((i + 1 : Nat) : Int) := (wrap_i64 (by omega) (by omega)).trans (by omega)
     refine ⟨_,rfl,?_⟩
     exact ⟨(i + 1,q47,l ++ [older x32]),g.sess.l.length - (i + 1),by omega,⟨rfl,rfl,rfl,congrArg (Value.int .i64) ew28,trivial⟩,⟨rfl,rfl,rfl,trivial⟩,rfl,by simp only; omega,by rw [aged_in hy32 h42,← hv],OwnP.one (own_pc hO47),NewP.cons (hN47.le hF.2.2.1) NewP.nil,hP47.pres hF.2.2 hF.newS⟩
  ·replace h14 : g.clock = (100000) := beq_iff_eq.1 h14
   refine ⟨_,rfl,?_⟩
   refine Cm 3 s9 [Ml 1 0,Ml 2 1,Ml 3 2,(15,vB true)] [(1,0,cNV g),(2,1,Zn),(3,2,cNV u7.v)] fun _ _ => ?_
   have hF9 : Frs st s9 (pcNW u7) := ⟨hO7.pres hP9,hN7,hP7.trans hP9⟩
   refine ⟨_,op_ldo (v := (vNV u7.v)) rfl rfl rfl rfl,?_⟩
   refine ⟨_,op_stw (vs := cNV u7.v) rfl rfl rfl rfl rfl rfl rfl rfl,?_⟩
   exact cxs (Rt ⟨u7,rfl,h7.trans (tick_no fun k => k.2 h14).symm,hF9.1,hF9.2.1,hF9.2.2⟩)
def cmpI (a b : Int) : Int := if a < b then -1 else if a > b then 1 else 0
def firstNZ : List Int → Int
 | [] => 0
 | x :: l => if x = 0 then firstNZ l else x
def cmpB (a b : ByteArray) : Int := Lib.compareBytes a.data.toList b.data.toList
def entCmp (a b : Ent) : Int := firstNZ [cmpI a.inc b.inc,cmpI a.rank b.rank,cmpI a.beat b.beat,cmpI a.ver b.ver,cmpB a.data b.data]
def entMax (a b : Ent) : Ent := if entCmp a b < 0 then b else a
theorem compareBytes_less : ∀ (a b : List UInt8),Lib.compareBytes a b = if Op.bytesLess a b = true then -1 else if (a == b) = true then 0 else 1
 | [],[] => by simp [Lib.compareBytes,Op.bytesLess]
 | [],b :: bs => by simp [Lib.compareBytes,Op.bytesLess]
 | a :: l,[] => by simp [Lib.compareBytes,Op.bytesLess]
 | a :: l,b :: bs => by
  have ih := compareBytes_less l bs
  unfold Lib.compareBytes
  by_cases h1 : a < b
  ·simp [Op.bytesLess,h1]
  ·by_cases h2 : b < a
   ·have hne : ¬ a = b := fun h => by rw [h] at h2; exact UInt8.lt_irrefl _ h2
    simp [Op.bytesLess,h1,h2,hne]
   ·have he : a = b := UInt8.le_antisymm (UInt8.not_lt.1 h2) (UInt8.not_lt.1 h1)
    subst he
    simp only [h1,if_false,ih,Op.bytesLess,beq_self_eq_true,Bool.true_and,Bool.false_or,decide_false]
    simp
theorem ac_cmpstring (a b : ByteArray) (st : St) : C 245 [.string a,.string b] st (fun v s => v = vI (cmpB a b) ∧ s = st) :=
 AC.ext Tryz.func245 rfl rfl ⟨rfl,rfl⟩
theorem ac_bytealg_CompareString (a b : ByteArray) (st : St) : C 242 [.string a,.string b] st (fun v s => v = vI (cmpB a b) ∧ s = st) := by
 refine AC.enterX (i := ⟨[],[],[0,1,4],[]⟩) [] Tryz.func242 rfl rfl (by kernel_rfl) (by kernel_rfl) Tryz.ntmps242 (Lb rfl) rfl ?_
 refine Cu lo0 st [(0,.string a),(1,.string b),(4,vI 0)] fun _ => ?_
 refine ⟨_,rfl,(ac_cmpstring a b st).mono ?_⟩
 rintro _ st ⟨rfl,rfl⟩
 exact cxs (Rt ⟨rfl,rfl⟩)
theorem ac_strings_Compare (a b : ByteArray) (st : St) : C 228 [.string a,.string b] st (fun v s => v = vI (cmpB a b) ∧ s = st) := by
 refine AC.enterX (i := ⟨[],[],[0,1,4],[]⟩) [] Tryz.func228 rfl rfl (by kernel_rfl) (by kernel_rfl) Tryz.ntmps228 (Lb rfl) rfl ?_
 refine Cu lo0 st [(0,.string a),(1,.string b),(4,vI 0)] fun _ => ?_
 refine ⟨_,rfl,(ac_bytealg_CompareString a b st).mono ?_⟩
 rintro _ st ⟨rfl,rfl⟩
 exact cxs (Rt ⟨rfl,rfl⟩)
theorem ac_cmp_isNaN (a : Int) (st : St) : C 241 [vI a] st (fun v s => v = vB false ∧ s = st) := by
 refine AC.enterX (i := ⟨[],[],[0,2],[]⟩) [] Tryz.func241 rfl rfl (by kernel_rfl) (by kernel_rfl) Tryz.ntmps241 (Lb rfl) rfl ?_
 refine Cu lo0 st [(0,vI a),(2,vB false)] fun _ => ?_
 refine ⟨_,rfl,?_⟩
 rintro (_|_) h
 rotate_left
 ·exact absurd (rfl) (bne_iff_ne.1 h)
 exact cxs (Rt ⟨rfl,rfl⟩)
theorem ac_cmp_Compare (a b : Int) (st : St) : C 227 [vI a,vI b] st (fun v s => v = vI (cmpI a b) ∧ s = st) := by
 refine AC.enterX (i := ⟨[],[],[0,1,4,5,6,11,12,13,16,19],[]⟩) [] Tryz.func227 rfl rfl (by kernel_rfl) (by kernel_rfl) Tryz.ntmps227 (Lb rfl) rfl ?_
 refine Cu lo0 st [(0,vI a),(1,vI b),(4,vI 0)] fun _ => ?_
 refine ⟨_,rfl,(ac_cmp_isNaN a st).mono ?_⟩
 rintro _ st ⟨rfl,rfl⟩
 refine Cu lo0 st [(0,vI a),(1,vI b),(4,vI 0),(5,vB false)] fun _ => ?_
 refine ⟨_,rfl,(ac_cmp_isNaN b st).mono ?_⟩
 rintro _ st ⟨rfl,rfl⟩
 refine cxs ?_
 refine Cu lo0 st [(0,vI a),(1,vI b),(4,vI 0),(6,vB false),(11,vB false)] fun _ => ?_
 refine cxs ?_
 refine Cu lo0 st [(0,vI a),(1,vI b),(4,vI 0),(13,vB false)] fun _ => ?_
 refine cxs ?_
 refine ⟨_,rfl,?_⟩
 rintro (_|_) h1
 ·replace h1 : ¬ (a < b) := of_decide_eq_false h1
  refine Cu lo0 st [(0,vI a),(1,vI b),(4,vI 0),(16,vB false)] fun _ => ?_
  refine cxs ?_
  refine ⟨_,rfl,?_⟩
  rintro (_|_) h2
  ·replace h2 : ¬ (a > b) := of_decide_eq_false h2
   refine Cu lo0 st [(4,vI 0),(19,vB false)] fun _ => ?_
   refine cxs ?_
   exact cxs (Rt ⟨congrArg vI (by rw [cmpI,if_neg h1,if_neg h2]),rfl⟩)
  ·replace h2 : a > b := of_decide_eq_true h2
   refine Cu lo0 st [(4,vI 0),(19,vB true)] fun _ => ?_
   exact cxs (Rt ⟨congrArg vI (by rw [cmpI,if_neg h1,if_pos h2]),rfl⟩)
 ·replace h1 : a < b := of_decide_eq_true h1
  refine Cu lo0 st [(0,vI a),(1,vI b),(4,vI 0),(16,vB true)] fun _ => ?_
  exact cxs (Rt ⟨congrArg vI (by rw [cmpI,if_pos h1]),rfl⟩)
theorem ac_cmp_Or (p : Option Addr) (l : List Int) (st : St) (hR : Rows st 1 fI p l) (hs : szOk l.length) : C 226 [vS p l.length] st (fun v s => v = vI (firstNZ l) ∧ s = st) := by
 have hs : l.length ≤ 1048576 := hs
 refine AC.enterX (i := ⟨[],[],[0,2,3,5,6,7,8,9,14],[]⟩) [] Tryz.func226 rfl rfl (by kernel_rfl) (by kernel_rfl) Tryz.ntmps226 (Lb rfl) rfl ?_
 refine cxs ?_
 refine Cu lo0 st [(0,vS p l.length),(2,vI 0),(3,vI 0)] fun _ => ?_
 refine ⟨_,rfl,?_⟩
 refine Cu lo0 st [(2,vI 0),(3,vI 0),(6,vS p l.length),(7,vI (l.length)),(8,vI 0)] fun _ => ?_
 refine AW.loop0 (fun i : Nat => [(3,vI 0),(6,vS p l.length),(7,vI (l.length : Int)),(8,vI (i : Int))]) (fun m (i : Nat) st' => m = l.length - i ∧ i ≤ l.length ∧ firstNZ l = firstNZ (l.drop i) ∧ st = st') 0 _ ⟨rfl,rfl,rfl,rfl,trivial⟩ rfl ⟨rfl,Nat.zero_le _,rfl,rfl⟩ ?_
 rintro m i ρ0 st' ⟨rfl,hi,hf,rfl⟩
 refine ⟨_,rfl,?_⟩
 rintro (_|_) h1
 ·replace h1 : ¬ ((i : Int) < (l.length : Int)) := of_decide_eq_false h1
  refine Cu lo0 st [(3,vI 0),(6,vS p l.length),(7,vI (l.length : Int)),(8,vI (i : Int)),(9,vB false)] fun _ => ?_
  refine cxs ?_
  refine cxs ?_
  have hil : i = l.length := by omega
  exact Rt ⟨congrArg vI (by rw [hf,hil,List.drop_length]; rfl),rfl⟩
 ·replace h1 : (i : Int) < (l.length : Int) := of_decide_eq_true h1
  refine Cu lo0 st [(3,vI 0),(6,vS p l.length),(7,vI (l.length : Int)),(8,vI (i : Int)),(9,vB true)] fun _ => ?_
  have h1' := Int.ofNat_lt.1 h1
  have ⟨b1,o1,k1,x,hpe,hx,hm1,hc1,hb1⟩ := hR.atB h1'
  rw [(split_at' hx).2.2,firstNZ] at hf
  refine cxs ?_
  refine ⟨_,op_idx (j := (i : Int)) (n := l.length) (q := ⟨b1,o1,none⟩) rfl (congrArg (fun u => vS u l.length) hpe) rfl rfl rfl (Int.natCast_nonneg _) h1,?_⟩
  refine ⟨_,op_ldc (i := 0) rfl rfl rfl rfl hm1 hc1 rfl rfl,?_⟩
  refine Cu lo0 st [(3,vI 0),(5,vI x),(6,vS p l.length),(7,vI (l.length : Int)),(8,vI (i : Int)),(9,vB true)] fun _ => ?_
  refine ⟨_,rfl,?_⟩
  rintro (_|_) h2
  ·replace h2 : x = 0 := bne_eq_false_iff_eq.1 h2
   refine Cu lo0 st [(3,vI 0),(5,vI x),(6,vS p l.length),(7,vI (l.length : Int)),(8,vI (i : Int)),(9,vB true),(14,vB false)] fun _ => ?_
   refine cxs ?_
   have e16 : IntKind.wrap .i64 ((i : Int) + 1) = ((i + 1 : Nat) : Int) := (wrap_i64 (by omega) (by omega)).trans (by omega)
   refine ⟨_,rfl,?_⟩
   exact ⟨i + 1,l.length - (i + 1),by omega,⟨rfl,rfl,rfl,congrArg (Value.int .i64) e16,trivial⟩,rfl,rfl,h1',by rw [hf,if_pos h2],rfl⟩
  ·replace h2 : ¬ (x = 0) := bne_iff_ne.1 h2
   refine Cu lo0 st [(3,vI 0),(5,vI x),(6,vS p l.length),(7,vI (l.length : Int)),(8,vI (i : Int)),(9,vB true),(14,vB true)] fun _ => ?_
   exact cxs (Rt ⟨congrArg vI (by rw [hf,if_neg h2]),rfl⟩)
theorem ac_impl_EntryCmp (a b : Ent) (st : St) : C 199 [.agg #[vI a.inc,vI a.rank,vI a.beat,vI a.ver,.string a.data],.agg #[vI b.inc,vI b.rank,vI b.beat,vI b.ver,.string b.data]] st (fun v s => v = vI (entCmp a b) ∧ Pres st s) := by
 refine AC.enterX (i := ⟨[2,3],[2,3,5,7,10,12,15,17,20,22,25,27],[0,1,2,3,4],[]⟩) [(1,[4,9,14,19],[6,8,11,13,16,18,21,23])] Tryz.func199 rfl rfl (by kernel_rfl) (by kernel_rfl) Tryz.ntmps199 (Lb rfl) rfl ?_
 iterate 2 refine ⟨_,rfl,?_⟩
 refine Cm 2 st [Ml 2 0,Ml 3 1,(4,vI 0)] [(2,0,[vI a.inc,vI a.rank,vI a.beat,vI a.ver,.string a.data]),(3,1,[vI b.inc,vI b.rank,vI b.beat,vI b.ver,.string b.data])] fun _ _ => ?_
 iterate 4 refine ⟨_,rfl,?_⟩
 refine ⟨_,rfl,(ac_cmp_Compare a.inc b.inc st).mono ?_⟩
 rintro _ st ⟨rfl,rfl⟩
 refine ⟨fun _ _ => rfl,?_⟩
 iterate 2 refine ⟨_,rfl,?_⟩
 refine ⟨ld_own rfl rfl rfl,?_⟩
 iterate 2 refine ⟨_,rfl,?_⟩
 refine ⟨ld_own rfl rfl rfl,?_⟩
 refine ⟨_,rfl,(ac_cmp_Compare a.rank b.rank st).mono ?_⟩
 rintro _ st ⟨rfl,rfl⟩
 refine ⟨fun _ _ => rfl,?_⟩
 iterate 2 refine ⟨_,rfl,?_⟩
 refine ⟨ld_own rfl rfl rfl,?_⟩
 iterate 2 refine ⟨_,rfl,?_⟩
 refine ⟨ld_own rfl rfl rfl,?_⟩
 refine ⟨_,rfl,(ac_cmp_Compare a.beat b.beat st).mono ?_⟩
 rintro _ st ⟨rfl,rfl⟩
 refine ⟨fun _ _ => rfl,?_⟩
 iterate 2 refine ⟨_,rfl,?_⟩
 refine ⟨ld_own rfl rfl rfl,?_⟩
 iterate 2 refine ⟨_,rfl,?_⟩
 refine ⟨ld_own rfl rfl rfl,?_⟩
 refine ⟨_,rfl,(ac_cmp_Compare a.ver b.ver st).mono ?_⟩
 rintro _ st ⟨rfl,rfl⟩
 refine ⟨fun _ _ => rfl,?_⟩
 iterate 2 refine ⟨_,rfl,?_⟩
 refine ⟨ld_own rfl rfl rfl,?_⟩
 iterate 2 refine ⟨_,rfl,?_⟩
 refine ⟨ld_own rfl rfl rfl,?_⟩
 refine ⟨_,rfl,(ac_strings_Compare a.data b.data st).mono ?_⟩
 rintro _ st ⟨rfl,rfl⟩
 refine op_litI (k := .i64) (l := [cmpI a.inc b.inc,cmpI a.rank b.rank,cmpI a.beat b.beat,cmpI a.ver b.ver,cmpB a.data b.data]) rfl rfl rfl rfl rfl rfl (Lb rfl) ?_
 intro q s1 hO1 hP1 hN1
 refine ⟨_,rfl,(ac_cmp_Or q [cmpI a.inc b.inc,cmpI a.rank b.rank,cmpI a.beat b.beat,cmpI a.ver b.ver,cmpB a.data b.data] s1 (hO1.rows fI_len) (show 5 ≤ 1048576 by decide)).mono ?_⟩
 rintro _ s1 ⟨rfl,rfl⟩
 exact cxs (Rt ⟨rfl,hP1⟩)
theorem ac_impl_EntryMax (a b : Ent) (st : St) : C 152 [.agg #[vI a.inc,vI a.rank,vI a.beat,vI a.ver,.string a.data],.agg #[vI b.inc,vI b.rank,vI b.beat,vI b.ver,.string b.data]] st (fun v s => ∃ e,v = .agg #[vI e.inc,vI e.rank,vI e.beat,vI e.ver,.string e.data] ∧ e = entMax a b ∧ Pres st s) := by
 refine AC.enterX (i := ⟨[2,3,4],[2,3,4],[0,1,2,3,4,8],[]⟩) [] Tryz.func152 rfl rfl (by kernel_rfl) (by kernel_rfl) Tryz.ntmps152 (Lb rfl) rfl ?_
 iterate 3 refine ⟨_,rfl,?_⟩
 refine Cm 3 st [Ml 2 0,Ml 3 1,Ml 4 2] [(2,0,[vI a.inc,vI a.rank,vI a.beat,vI a.ver,.string a.data]),(3,1,[vI b.inc,vI b.rank,vI b.beat,vI b.ver,.string b.data]),(4,2,[vI 0,vI 0,vI 0,vI 0,.string ⟨#[]⟩])] fun _ _ => ?_
 iterate 2 refine ⟨_,rfl,?_⟩
 refine ⟨_,rfl,(ac_impl_EntryCmp a b st).mono ?_⟩
 rintro _ s1 ⟨rfl,hP1⟩
 refine ⟨_,rfl,?_⟩
 rintro (_|_) h1
 ·replace h1 : ¬ (entCmp a b < 0) := of_decide_eq_false h1
  refine Cm 3 s1 [Ml 2 0,Ml 3 1,Ml 4 2,(8,vB false)] [(2,0,[vI a.inc,vI a.rank,vI a.beat,vI a.ver,.string a.data]),(3,1,[vI b.inc,vI b.rank,vI b.beat,vI b.ver,.string b.data]),(4,2,[vI 0,vI 0,vI 0,vI 0,.string ⟨#[]⟩])] fun _ _ => ?_
  refine cxs ?_
  iterate 2 refine ⟨_,rfl,?_⟩
  exact cxs (Rt ⟨a,rfl,by rw [entMax,if_neg h1],hP1⟩)
 ·replace h1 : entCmp a b < 0 := of_decide_eq_true h1
  refine Cm 3 s1 [Ml 2 0,Ml 3 1,Ml 4 2,(8,vB true)] [(2,0,[vI a.inc,vI a.rank,vI a.beat,vI a.ver,.string a.data]),(3,1,[vI b.inc,vI b.rank,vI b.beat,vI b.ver,.string b.data]),(4,2,[vI 0,vI 0,vI 0,vI 0,.string ⟨#[]⟩])] fun _ _ => ?_
  iterate 2 refine ⟨_,rfl,?_⟩
  exact cxs (Rt ⟨b,rfl,by rw [entMax,if_pos h1],hP1⟩)
theorem ac_spec_l1BitT (st : St) : C 233 [vB true] st (fun v s => v = vI 1 ∧ s = st) := by
 refine AC.enterX (i := ⟨[],[],[0,2,3],[]⟩) [] Tryz.func233 rfl rfl (by kernel_rfl) (by kernel_rfl) Tryz.ntmps233 (Lb rfl) rfl ?_
 refine cxs ?_
 refine Cu lo0 st [(2,vI 0),(3,vB true)] fun _ => ?_
 exact cxs (Rt ⟨rfl,rfl⟩)
theorem ac_spec_l1BitF (st : St) : C 233 [vB false] st (fun v s => v = vI 0 ∧ s = st) := by
 refine AC.enterX (i := ⟨[],[],[0,2,3],[]⟩) [] Tryz.func233 rfl rfl (by kernel_rfl) (by kernel_rfl) Tryz.ntmps233 (Lb rfl) rfl ?_
 refine cxs ?_
 refine Cu lo0 st [(2,vI 0),(3,vB false)] fun _ => ?_
 refine cxs ?_
 exact cxs (Rt ⟨rfl,rfl⟩)
theorem ac_spec_l2Cmp (a b : Int) (st : St) : C 232 [vI a,vI b] st (fun v s => v = vI (cmpI a b) ∧ s = st) := by
 refine AC.enterX (i := ⟨[],[],[0,1,4,7],[]⟩) [] Tryz.func232 rfl rfl (by kernel_rfl) (by kernel_rfl) Tryz.ntmps232 (Lb rfl) rfl ?_
 refine Cu lo0 st [(0,vI a),(1,vI b),(4,vI 0)] fun _ => ?_
 refine ⟨_,rfl,?_⟩
 rintro (_|_) h1
 ·replace h1 : ¬ (a < b) := of_decide_eq_false h1
  refine Cu lo0 st [(0,vI a),(1,vI b),(4,vI 0),(7,vB false)] fun _ => ?_
  refine cxs ?_
  refine ⟨_,rfl,?_⟩
  rintro (_|_) h2
  ·replace h2 : ¬ (a > b) := of_decide_eq_false h2
   refine ⟨_,rfl,(ac_spec_l1BitF st).mono ?_⟩
   rintro _ st ⟨rfl,rfl⟩
   exact cxs (Rt ⟨congrArg vI (by rw [cmpI,if_neg h1,if_neg h2]),rfl⟩)
  ·replace h2 : a > b := of_decide_eq_true h2
   refine ⟨_,rfl,(ac_spec_l1BitT st).mono ?_⟩
   rintro _ st ⟨rfl,rfl⟩
   exact cxs (Rt ⟨congrArg vI (by rw [cmpI,if_neg h1,if_pos h2]),rfl⟩)
 ·replace h1 : a < b := of_decide_eq_true h1
  refine Cu lo0 st [(0,vI a),(1,vI b),(4,vI 0),(7,vB true)] fun _ => ?_
  exact cxs (Rt ⟨congrArg vI (by rw [cmpI,if_pos h1]),rfl⟩)
abbrev four (a b : Ent) : List Int := [cmpI a.inc b.inc,cmpI a.rank b.rank,cmpI a.beat b.beat,cmpI a.ver b.ver]
theorem ac_spec_EntryCmp (a b : Ent) (st : St) : C 207 [.agg #[vI a.inc,vI a.rank,vI a.beat,vI a.ver,.string a.data],.agg #[vI b.inc,vI b.rank,vI b.beat,vI b.ver,.string b.data]] st (fun v s => v = vI (entCmp a b) ∧ Pres st s) := by
 refine AC.enterX (i := ⟨[2,3],[2,3,7,9,12,14,17,19,22,24,43,45,48,50],[0,1,2,3,4,5,6,31,38,47],[]⟩) [(1,[4,9,14],[6,8,11,13,16,18])] Tryz.func207 rfl rfl (by kernel_rfl) (by kernel_rfl) Tryz.ntmps207 (Lb rfl) rfl ?_
 iterate 2 refine ⟨_,rfl,?_⟩
 refine Cm 2 st [Ml 2 0,Ml 3 1,(4,vI 0)] [(2,0,[vI a.inc,vI a.rank,vI a.beat,vI a.ver,.string a.data]),(3,1,[vI b.inc,vI b.rank,vI b.beat,vI b.ver,.string b.data])] fun _ _ => ?_
 iterate 4 refine ⟨_,rfl,?_⟩
 refine ⟨_,rfl,(ac_spec_l2Cmp a.inc b.inc st).mono ?_⟩
 rintro _ st ⟨rfl,rfl⟩
 refine ⟨fun _ _ => rfl,?_⟩
 iterate 2 refine ⟨_,rfl,?_⟩
 refine ⟨ld_own rfl rfl rfl,?_⟩
 iterate 2 refine ⟨_,rfl,?_⟩
 refine ⟨ld_own rfl rfl rfl,?_⟩
 refine ⟨_,rfl,(ac_spec_l2Cmp a.rank b.rank st).mono ?_⟩
 rintro _ st ⟨rfl,rfl⟩
 refine ⟨fun _ _ => rfl,?_⟩
 iterate 2 refine ⟨_,rfl,?_⟩
 refine ⟨ld_own rfl rfl rfl,?_⟩
 iterate 2 refine ⟨_,rfl,?_⟩
 refine ⟨ld_own rfl rfl rfl,?_⟩
 refine ⟨_,rfl,(ac_spec_l2Cmp a.beat b.beat st).mono ?_⟩
 rintro _ st ⟨rfl,rfl⟩
 refine ⟨fun _ _ => rfl,?_⟩
 iterate 2 refine ⟨_,rfl,?_⟩
 refine ⟨ld_own rfl rfl rfl,?_⟩
 iterate 2 refine ⟨_,rfl,?_⟩
 refine ⟨ld_own rfl rfl rfl,?_⟩
 refine ⟨_,rfl,(ac_spec_l2Cmp a.ver b.ver st).mono ?_⟩
 rintro _ st ⟨rfl,rfl⟩
 refine op_litI (k := .i64) (l := four a b) rfl rfl rfl rfl rfl rfl (Lb rfl) ?_
 intro q s1 hO1 hP1 hN1
 refine cxs ?_
 refine Cm 2 s1 [Ml 2 0,Ml 3 1,(4,vI 0),(5,vS q 4),(6,vI 0)] [(2,0,[vI a.inc,vI a.rank,vI a.beat,vI a.ver,.string a.data]),(3,1,[vI b.inc,vI b.rank,vI b.beat,vI b.ver,.string b.data])] fun _ _ => ?_
 refine AW.loopM (fun i : Nat => [(2,vL 2 0 (0)),(3,vL 3 0 (1)),(5,vS q 4),(6,vI (i : Int))]) (fun i : Nat => [(2,0,[vI a.inc,vI a.rank,vI a.beat,vI a.ver,.string a.data]),(3,1,[vI b.inc,vI b.rank,vI b.beat,vI b.ver,.string b.data])]) (fun m (i : Nat) st' => m = 4 - i ∧ i ≤ 4 ∧ entCmp a b = firstNZ ((four a b).drop i ++ [cmpB a.data b.data]) ∧ s1 = st') 0 _ ⟨rfl,rfl,rfl,rfl,trivial⟩ ⟨rfl,rfl,trivial⟩ ⟨rfl,Nat.zero_le _,rfl,rfl⟩ ?_
 rintro m i ρ0 ff gg st' ⟨rfl,hi,hf,rfl⟩
 iterate 2 refine ⟨_,rfl,?_⟩
 rintro (_|_) h1
 ·replace h1 : ¬ ((i : Int) < 4) := of_decide_eq_false h1
  refine Cm gg s1 [Ml 2 0,Ml 3 1,(5,vS q 4),(6,vI (i : Int)),(31,vB false)] [(2,0,[vI a.inc,vI a.rank,vI a.beat,vI a.ver,.string a.data]),(3,1,[vI b.inc,vI b.rank,vI b.beat,vI b.ver,.string b.data])] fun _ _ => ?_
  have hil : i = 4 := by omega
  have hf : entCmp a b = firstNZ [cmpB a.data b.data] := by rw [hf,hil]; rfl
  have hf : entCmp a b = cmpB a.data b.data := by rw [hf,firstNZ,firstNZ]; split <;> simp [*]
  have hcb := compareBytes_less a.data.data.toList b.data.data.toList
  have hcb : cmpB a.data b.data = if Op.bytesLess a.data.toList b.data.toList = true then -1 else if (a.data.toList == b.data.toList) = true then 0 else 1 := by rw [ByteArray.toList_eq,ByteArray.toList_eq]; exact hcb
  refine cxs ?_
  refine ⟨_,rfl,?_⟩
  refine ⟨_,Od rfl,?_⟩
  refine ⟨_,rfl,?_⟩
  refine ⟨_,Od rfl,?_⟩
  refine ⟨_,rfl,?_⟩
  rintro (_|_) h3
  ·refine Cm gg s1 [Ml 2 0,Ml 3 1,(47,vB false)] [(2,0,[vI a.inc,vI a.rank,vI a.beat,vI a.ver,.string a.data]),(3,1,[vI b.inc,vI b.rank,vI b.beat,vI b.ver,.string b.data])] fun _ _ => ?_
   refine cxs ?_
   refine ⟨_,rfl,?_⟩
   refine ⟨_,Od rfl,?_⟩
   refine ⟨_,rfl,?_⟩
   refine ⟨_,Od rfl,?_⟩
   refine ⟨_,rfl,?_⟩
   rintro (_|_) h4
   ·refine ⟨_,rfl,(ac_spec_l1BitF s1).mono ?_⟩
    rintro _ s1 ⟨rfl,rfl⟩
    refine cxs ?_
    have h3 : Op.bytesLess a.data.toList b.data.toList = false := h3
    have h4 : (!(Op.bytesLess a.data.toList b.data.toList || a.data.toList == b.data.toList)) = false := h4
    have h5 : (a.data.toList == b.data.toList) = true := by rw [h3,Bool.false_or] at h4; simpa using h4
    exact Rt ⟨congrArg vI (by rw [hf,hcb,h3,h5]; rfl),hP1⟩
   ·refine ⟨_,rfl,(ac_spec_l1BitT s1).mono ?_⟩
    rintro _ s1 ⟨rfl,rfl⟩
    refine cxs ?_
    have h3 : Op.bytesLess a.data.toList b.data.toList = false := h3
    have h4 : (!(Op.bytesLess a.data.toList b.data.toList || a.data.toList == b.data.toList)) = true := h4
    have h5 : (a.data.toList == b.data.toList) = false := by rw [h3,Bool.false_or] at h4; simpa using h4
    exact Rt ⟨congrArg vI (by rw [hf,hcb,h3,h5]; rfl),hP1⟩
  ·refine Cm gg s1 [Ml 2 0,Ml 3 1,(47,vB true)] [(2,0,[vI a.inc,vI a.rank,vI a.beat,vI a.ver,.string a.data]),(3,1,[vI b.inc,vI b.rank,vI b.beat,vI b.ver,.string b.data])] fun _ _ => ?_
   refine cxs ?_
   have h3 : Op.bytesLess a.data.toList b.data.toList = true := h3
   exact Rt ⟨congrArg vI (by rw [hf,hcb,if_pos h3]),hP1⟩
 ·replace h1 : (i : Int) < 4 := of_decide_eq_true h1
  refine Cm gg s1 [Ml 2 0,Ml 3 1,(5,vS q 4),(6,vI (i : Int)),(31,vB true)] [(2,0,[vI a.inc,vI a.rank,vI a.beat,vI a.ver,.string a.data]),(3,1,[vI b.inc,vI b.rank,vI b.beat,vI b.ver,.string b.data])] fun _ _ => ?_
  have h1' : i < (four a b).length := by simp only [List.length_cons,List.length_nil]; omega
  have ⟨b1,o1,k1,x,hpe,hx,hm1,hc1,hb1⟩ := (hO1.rows fI_len).atB h1'
  rw [(split_at' hx).2.2,List.cons_append,firstNZ] at hf
  refine cxs ?_
  refine ⟨_,op_idx (j := (i : Int)) (n := 4) (q := ⟨b1,o1,none⟩) rfl (congrArg (fun u => vS u 4) hpe) rfl rfl rfl (Int.natCast_nonneg _) h1,?_⟩
  refine ⟨_,op_ldc (i := 0) rfl rfl rfl rfl hm1 hc1 rfl rfl,?_⟩
  refine ⟨_,rfl,?_⟩
  rintro (_|_) h2
  ·replace h2 : x = 0 := bne_eq_false_iff_eq.1 h2
   refine Cm gg s1 [Ml 2 0,Ml 3 1,(5,vS q 4),(6,vI (i : Int)),(31,vB true),(38,vB false)] [(2,0,[vI a.inc,vI a.rank,vI a.beat,vI a.ver,.string a.data]),(3,1,[vI b.inc,vI b.rank,vI b.beat,vI b.ver,.string b.data])] fun _ _ => ?_
   refine cxs ?_
   have e33 : IntKind.wrap .i64 ((i : Int) + 1) = ((i + 1 : Nat) : Int) := (wrap_i64 (by omega) (by omega)).trans (by omega)
   refine ⟨_,rfl,?_⟩
   exact ⟨i + 1,4 - (i + 1),by omega,⟨rfl,rfl,rfl,congrArg (Value.int .i64) e33,trivial⟩,⟨rfl,rfl,trivial⟩,rfl,by omega,by rw [hf,if_pos h2],rfl⟩
  ·replace h2 : ¬ (x = 0) := bne_iff_ne.1 h2
   refine Cm gg s1 [Ml 2 0,Ml 3 1,(5,vS q 4),(6,vI (i : Int)),(31,vB true),(38,vB true)] [(2,0,[vI a.inc,vI a.rank,vI a.beat,vI a.ver,.string a.data]),(3,1,[vI b.inc,vI b.rank,vI b.beat,vI b.ver,.string b.data])] fun _ _ => ?_
   refine ⟨_,op_idx (j := (i : Int)) (n := 4) (q := ⟨b1,o1,none⟩) rfl (congrArg (fun u => vS u 4) hpe) rfl rfl rfl (Int.natCast_nonneg _) h1,?_⟩
   refine ⟨_,op_ldc (i := 0) rfl rfl rfl rfl hm1 hc1 rfl rfl,?_⟩
   exact cxs (Rt ⟨congrArg vI (by rw [hf,if_neg h2]),hP1⟩)
abbrev topF (a b : Sta) (id : Int) : Int := max (floorOf a.floors id) (floorOf b.floors id)
abbrev topE (a b : Sta) (id : Int) : Ent := entMax (entP a.items id).1 (entP b.items id).1
def joinF (a b : Sta) (n : Nat) : Sta := ⟨(List.range n).filterMap fun (j : Nat) => if (topE a b (j : Int)).inc > topF a b (j : Int) then some ⟨(j : Int),topE a b (j : Int)⟩ else none,
 (List.range n).filterMap fun (j : Nat) => if topF a b (j : Int) > 0 then some ⟨(j : Int),topF a b (j : Int)⟩ else none⟩
theorem joinF_items (a b : Sta) (n : Nat) : (joinF a b (n + 1)).items = if (topE a b (n : Int)).inc > topF a b (n : Int) then (joinF a b n).items ++ [⟨(n : Int),topE a b (n : Int)⟩] else (joinF a b n).items := by
 unfold joinF
 simp only [List.range_succ,List.filterMap_append]
 split <;> simp [*]
theorem joinF_floors (a b : Sta) (n : Nat) : (joinF a b (n + 1)).floors = if topF a b (n : Int) > 0 then (joinF a b n).floors ++ [⟨(n : Int),topF a b (n : Int)⟩] else (joinF a b n).floors := by
 unfold joinF
 simp only [List.range_succ,List.filterMap_append]
 split <;> simp [*]
theorem joinF_len (a b : Sta) : ∀ n,(joinF a b n).items.length ≤ n ∧ (joinF a b n).floors.length ≤ n
 | 0 => by simp [joinF]
 | n + 1 => by
  have := joinF_len a b n
  rw [joinF_items,joinF_floors]
  refine ⟨?_,?_⟩ <;> split <;> (try rw [List.length_append,List.length_singleton]) <;> omega
end Go.Proofs.YtpnolkhfeliehaaGreat.AM
