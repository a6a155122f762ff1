/- Part 2 of the texts on which the law's proof rests. -/
import Derived.Test.YtpnolkhfeliehaaGreatXsa
namespace Go.Proofs.YtpnolkhfeliehaaGreat.AM
open Go Go.Proofs
set_option linter.unusedVariables false
set_option linter.unusedSimpArgs false
set_option maxRecDepth 100000
set_option maxHeartbeats 4000000
def itemOk (s : Sta) (j : Nat) (x : Itm) : Prop := (0 ≤ x.id ∧ x.id ≤ 4) ∧ entOk x.e ∧ floorOf s.floors x.id < x.e.inc ∧ ∀ y,0 < j → s.items[j - 1]? = some y → y.id < x.id
def stateOk (s : Sta) : Prop := (∀ (j : Nat) x,s.items[j]? = some x → itemOk s j x) ∧ marksOk s.floors
theorem ac_spec_StateOk (s : SV) (st : St) (hR : RdS st s) (hb : bigS s.x) : C 14 [.agg #[vS s.p s.x.items.length,vS s.q s.x.floors.length]] st (fun v s' => ∃ x,v = .bool x ∧ (x = true ↔ stateOk s.x) ∧ s' = st) := by
 have hs1 : s.x.items.length ≤ 1048576 := hb.1
 have hs2 : s.x.floors.length ≤ 1048576 := hb.2.1
 refine AC.enterX (i := ⟨[1,4,6],[1,4,6,8,14,19,27,29,40,46,47,50,56,62,67,75,77,88],[0,1,2,3,4,5,6,11,54,59,92],[]⟩) [(5,[33],[29]),(11,[],[])] Tryz.func14 rfl rfl (by kernel_rfl) (by kernel_rfl) Tryz.ntmps14 (Lb rfl) rfl ?_
 refine ⟨_,rfl,?_⟩
 refine cxs ?_
 refine Cm 1 st [Ml 1 0,(2,vB false),(3,vI 0)] [(1,0,cSV s)] fun _ _ => ?_
 refine AW.loopM (fun i : Nat => [(1,vL 1 0 (0)),(3,vI (i : Int))]) (fun i : Nat => [(1,0,[vS s.p s.x.items.length,vS s.q s.x.floors.length])]) (fun m (i : Nat) st' => m = s.x.items.length - i ∧ i ≤ s.x.items.length ∧ (∀ (j : Nat) x,j < i → s.x.items[j]? = some x → itemOk s.x j x) ∧ st = st') 0 _ ⟨rfl,rfl,trivial⟩ ⟨rfl,trivial⟩ ⟨rfl,Nat.zero_le _,fun j x h => absurd h (Nat.not_lt_zero _),rfl⟩ ?_
 rintro m i ρ0 ff gg st' ⟨rfl,hi,hok,rfl⟩
 refine ⟨_,rfl,?_⟩
 refine ⟨_,Od rfl,?_⟩
 iterate 2 refine ⟨_,rfl,?_⟩
 rintro (_|_) h1
 ·replace h1 : ¬ ((i : Int) < (s.x.items.length : Int)) := of_decide_eq_false h1
  refine Cm gg st [Ml 1 0,(3,vI (i : Int)),(11,vB false)] [(1,0,cSV s)] fun _ _ => ?_
  refine cxs ?_
  refine Cm gg st [Ml 1 0,(5,vI 0)] [(1,0,cSV s)] fun _ _ => ?_
  refine AW.loopM (fun v : Nat => [(1,vL 1 0 (0)),(5,vI (v : Int))]) (fun v : Nat => [(1,0,[vS s.p s.x.items.length,vS s.q s.x.floors.length])]) (fun m (v : Nat) st' => m = s.x.floors.length - v ∧ v ≤ s.x.floors.length ∧ (∀ (j : Nat) x,j < v → s.x.floors[j]? = some x → markOk s.x.floors j x) ∧ st = st') 0 _ ⟨rfl,rfl,trivial⟩ ⟨rfl,trivial⟩ ⟨rfl,Nat.zero_le _,fun j x h => absurd h (Nat.not_lt_zero _),rfl⟩ ?_
  rintro m v ρ0 ff gg st' ⟨rfl,hi2,hok2,rfl⟩
  refine ⟨_,rfl,?_⟩
  refine ⟨_,Od rfl,?_⟩
  iterate 2 refine ⟨_,rfl,?_⟩
  rintro (_|_) h7
  ·replace h7 : ¬ ((v : Int) < (s.x.floors.length : Int)) := of_decide_eq_false h7
   refine Cm gg st [Ml 1 0,(5,vI (v : Int)),(59,vB false)] [(1,0,cSV s)] fun _ _ => ?_
   refine cxs ?_
   exact cxs (Rt ⟨true,rfl,⟨fun _ => ⟨fun j x hx => hok j x (by have := (List.getElem?_eq_some_iff.1 hx).1; omega) hx,fun j x hx => hok2 j x (by have := (List.getElem?_eq_some_iff.1 hx).1; omega) hx⟩,fun _ => rfl⟩,rfl⟩)
  ·replace h7 : (v : Int) < (s.x.floors.length : Int) := of_decide_eq_true h7
   refine Cm gg st [Ml 1 0,(5,vI (v : Int)),(59,vB true)] [(1,0,cSV s)] fun _ _ => ?_
   have h7' := Int.ofNat_lt.1 h7
   have ⟨b3,o3,k3,x,hpe,hx,hm1,hc1,hb1⟩ := hR.2.atB h7'
   refine cxs ?_
   refine ⟨_,rfl,?_⟩
   refine ⟨_,Od rfl,?_⟩
   refine ⟨_,op_idx (j := (v : Int)) (n := s.x.floors.length) (q := ⟨b3,o3,none⟩) rfl (congrArg (fun u => vS u s.x.floors.length) hpe) rfl rfl rfl (Int.natCast_nonneg _) h7,?_⟩
   refine ⟨_,op_lda rfl rfl rfl rfl rfl hm1 hc1 rfl,?_⟩
   refine ⟨_,rfl,?_⟩
   refine ⟨_,Os rfl,?_⟩
   refine Cm (gg + 1) st [Ml 1 0,(5,vI (v : Int)),Ml 6 gg,(59,vB true)] [(1,0,cSV s),(6,gg,[vI x.id,vI x.inc])] fun _ _ => ?_
   refine ⟨_,rfl,?_⟩
   refine ⟨_,Od rfl,?_⟩
   refine ⟨_,rfl,(ac_spec_l3Node x.id st).mono ?_⟩
   rintro _ st ⟨c,rfl,h8,rfl⟩
   rcases c with _|_
   ·replace h8 := of_decide_eq_false h8.symm
    iterate 3 refine ⟨_,rfl,?_⟩
    refine Cm (gg + 1) st [Ml 1 0,(5,vI (v : Int)),Ml 6 gg,(59,vB true),(92,vB true)] [(1,0,cSV s),(6,gg,[vI x.id,vI x.inc])] fun _ _ => ?_
    exact cxs (Rt ⟨false,rfl,⟨fun h => absurd h Bool.false_ne_true,fun h => absurd (h.2 v x hx).1 h8⟩,rfl⟩)
   ·replace h8 := of_decide_eq_true h8.symm
    iterate 2 refine ⟨_,rfl,?_⟩
    rintro (_|_) h9
    ·replace h9 : ¬ (0 < (v : Int)) := of_decide_eq_false h9
     iterate 3 refine ⟨_,rfl,?_⟩
     refine ⟨_,Od rfl,?_⟩
     refine ⟨_,rfl,(ac_spec_l1In x.inc 1 1000 st).mono ?_⟩
     rintro _ st ⟨d,rfl,h11,rfl⟩
     rcases d with _|_
     ·replace h11 := of_decide_eq_false h11.symm
      iterate 2 refine ⟨_,rfl,?_⟩
      refine Cm (gg + 1) st [Ml 1 0,(5,vI (v : Int)),Ml 6 gg,(59,vB true),(92,vB true)] [(1,0,cSV s),(6,gg,[vI x.id,vI x.inc])] fun _ _ => ?_
      exact cxs (Rt ⟨false,rfl,⟨fun h => absurd h Bool.false_ne_true,fun h => absurd (h.2 v x hx).2.1 h11⟩,rfl⟩)
     ·replace h11 := of_decide_eq_true h11.symm
      iterate 2 refine ⟨_,rfl,?_⟩
      refine Cm (gg + 1) st [Ml 1 0,(5,vI (v : Int)),Ml 6 gg,(59,vB true),(92,vB false)] [(1,0,cSV s),(6,gg,[vI x.id,vI x.inc])] fun _ _ => ?_
      refine cxs ?_
      have e61 : IntKind.wrap .i64 ((v : Int) + 1) = ((v + 1 : Nat) : Int) := (wrap_i64 (by omega) (by omega)).trans (by omega)
      refine ⟨_,rfl,?_⟩
      refine ⟨v + 1,s.x.floors.length - (v + 1),by omega,⟨rfl,congrArg (Value.int .i64) e61,trivial⟩,⟨rfl,trivial⟩,rfl,h7',fun j u hj hu => ?_,rfl⟩
      rcases Nat.lt_or_ge j v with h | h
      ·exact hok2 j u h hu
      ·obtain rfl : j = v := by omega
       rw [hx] at hu
       injection hu with hu
       subst hu
       exact ⟨h8,h11,fun y h0 hy => absurd h0 (by omega)⟩
    ·replace h9 : 0 < (v : Int) := of_decide_eq_true h9
     refine ⟨_,rfl,?_⟩
     refine ⟨_,Od rfl,?_⟩
     refine ⟨_,rfl,?_⟩
     refine ⟨_,Od rfl,?_⟩
     have ⟨b2,o2,k2,y,hqe,hy,hm2,hc2,hb2⟩ := hR.2.atB (j := v - 1) (by omega)
     have e80 : IntKind.wrap .i64 ((v : Int) - 1) = ((v - 1 : Nat) : Int) := (wrap_i64 (by omega) (by omega)).trans (by omega)
     refine ⟨_,rfl,?_⟩
     refine ⟨_,op_idx (j := ((v - 1 : Nat) : Int)) (n := s.x.floors.length) (q := ⟨b2,o2,none⟩) rfl (congrArg (fun u => vS u s.x.floors.length) hqe) (congrArg (Value.int .i64) e80) rfl rfl (Int.natCast_nonneg _) (by omega),?_⟩
     refine ⟨_,rfl,?_⟩
     refine ⟨_,op_ldc (i := 0) rfl rfl rfl rfl hm2 hc2 rfl rfl,?_⟩
     refine ⟨_,rfl,?_⟩
     rintro (_|_) h10
     ·replace h10 : ¬ (x.id ≤ y.id) := of_decide_eq_false h10
      iterate 3 refine ⟨_,rfl,?_⟩
      refine ⟨_,Od rfl,?_⟩
      refine ⟨_,rfl,(ac_spec_l1In x.inc 1 1000 st).mono ?_⟩
      rintro _ st ⟨d,rfl,h11,rfl⟩
      rcases d with _|_
      ·replace h11 := of_decide_eq_false h11.symm
       iterate 2 refine ⟨_,rfl,?_⟩
       refine Cm (gg + 1) st [Ml 1 0,(5,vI (v : Int)),Ml 6 gg,(59,vB true),(92,vB true)] [(1,0,cSV s),(6,gg,[vI x.id,vI x.inc])] fun _ _ => ?_
       exact cxs (Rt ⟨false,rfl,⟨fun h => absurd h Bool.false_ne_true,fun h => absurd (h.2 v x hx).2.1 h11⟩,rfl⟩)
      ·replace h11 := of_decide_eq_true h11.symm
       iterate 2 refine ⟨_,rfl,?_⟩
       refine Cm (gg + 1) st [Ml 1 0,(5,vI (v : Int)),Ml 6 gg,(59,vB true),(92,vB false)] [(1,0,cSV s),(6,gg,[vI x.id,vI x.inc])] fun _ _ => ?_
       refine cxs ?_
       have e61 : IntKind.wrap .i64 ((v : Int) + 1) = ((v + 1 : Nat) : Int) := (wrap_i64 (by omega) (by omega)).trans (by omega)
       refine ⟨_,rfl,?_⟩
       refine ⟨v + 1,s.x.floors.length - (v + 1),by omega,⟨rfl,congrArg (Value.int .i64) e61,trivial⟩,⟨rfl,trivial⟩,rfl,h7',fun j u hj hu => ?_,rfl⟩
       rcases Nat.lt_or_ge j v with h | h
       ·exact hok2 j u h hu
       ·obtain rfl : j = v := by omega
        rw [hx] at hu
        injection hu with hu
        subst hu
        refine ⟨h8,h11,fun z h0 hz => ?_⟩
        rw [hy] at hz
        injection hz with hz
        subst hz
        exact Int.not_le.1 h10
     ·replace h10 : x.id ≤ y.id := of_decide_eq_true h10
      iterate 3 refine ⟨_,rfl,?_⟩
      refine Cm (gg + 1) st [Ml 1 0,(5,vI (v : Int)),Ml 6 gg,(59,vB true),(92,vB true)] [(1,0,cSV s),(6,gg,[vI x.id,vI x.inc])] fun _ _ => ?_
      exact cxs (Rt ⟨false,rfl,⟨fun h => absurd h Bool.false_ne_true,fun h => absurd ((h.2 v x hx).2.2 y (by omega) hy) (Int.not_lt.2 h10)⟩,rfl⟩)
 ·replace h1 : (i : Int) < (s.x.items.length : Int) := of_decide_eq_true h1
  refine Cm gg st [Ml 1 0,(3,vI (i : Int)),(11,vB true)] [(1,0,cSV s)] fun _ _ => ?_
  have h1' := Int.ofNat_lt.1 h1
  have ⟨b1,o1,k1,x,hpe,hx,hm1,hc1,hb1⟩ := hR.1.atB h1'
  refine cxs ?_
  refine ⟨_,rfl,?_⟩
  refine ⟨_,Od rfl,?_⟩
  refine ⟨_,op_idx (j := (i : Int)) (n := s.x.items.length) (q := ⟨b1,o1,none⟩) rfl (congrArg (fun u => vS u s.x.items.length) hpe) rfl rfl rfl (Int.natCast_nonneg _) h1,?_⟩
  refine ⟨_,op_lda rfl rfl rfl rfl rfl hm1 hc1 rfl,?_⟩
  refine ⟨_,rfl,?_⟩
  refine ⟨_,Os rfl,?_⟩
  refine Cm (gg + 1) st [Ml 1 0,(3,vI (i : Int)),Ml 4 gg,(11,vB true)] [(1,0,cSV s),(4,gg,[vI x.id,vI x.e.inc,vI x.e.rank,vI x.e.beat,vI x.e.ver,.string x.e.data])] fun _ _ => ?_
  refine ⟨_,rfl,?_⟩
  refine ⟨_,Od rfl,?_⟩
  refine ⟨_,rfl,(ac_spec_l3Node x.id st).mono ?_⟩
  rintro _ st ⟨c,rfl,h2,rfl⟩
  rcases c with _|_
  ·replace h2 := of_decide_eq_false h2.symm
   iterate 4 refine ⟨_,rfl,?_⟩
   refine Cm (gg + 1) st [Ml 1 0,(3,vI (i : Int)),Ml 4 gg,(11,vB true),(54,vB true)] [(1,0,cSV s),(4,gg,[vI x.id,vI x.e.inc,vI x.e.rank,vI x.e.beat,vI x.e.ver,.string x.e.data])] fun _ _ => ?_
   exact cxs (Rt ⟨false,rfl,⟨fun h => absurd h Bool.false_ne_true,fun h => absurd (h.1 i x hx).1 h2⟩,rfl⟩)
  ·replace h2 := of_decide_eq_true h2.symm
   iterate 2 refine ⟨_,rfl,?_⟩
   rintro (_|_) h3
   ·replace h3 : ¬ (0 < (i : Int)) := of_decide_eq_false h3
    iterate 3 refine ⟨_,rfl,?_⟩
    refine ⟨_,Od rfl,?_⟩
    refine ⟨_,rfl,(ac_spec_EntryOk x.e st).mono ?_⟩
    rintro _ st ⟨d,rfl,h5,rfl⟩
    rcases d with _|_
    ·replace h5 := fun k => Bool.false_ne_true (h5.2 k)
     iterate 3 refine ⟨_,rfl,?_⟩
     refine Cm (gg + 1) st [Ml 1 0,(3,vI (i : Int)),Ml 4 gg,(11,vB true),(54,vB true)] [(1,0,cSV s),(4,gg,[vI x.id,vI x.e.inc,vI x.e.rank,vI x.e.beat,vI x.e.ver,.string x.e.data])] fun _ _ => ?_
     exact cxs (Rt ⟨false,rfl,⟨fun h => absurd h Bool.false_ne_true,fun h => absurd (h.1 i x hx).2.1 h5⟩,rfl⟩)
    ·replace h5 := h5.1 rfl
     iterate 4 refine ⟨_,rfl,?_⟩
     refine ⟨_,Od rfl,?_⟩
     refine ⟨ld_own rfl rfl rfl,?_⟩
     refine ⟨_,Od rfl,?_⟩
     refine ⟨_,rfl,?_⟩
     refine ⟨_,Od rfl,?_⟩
     refine ⟨_,rfl,(ac_spec_FloorOf s x.id st hR hb).mono ?_⟩
     rintro _ st ⟨rfl,rfl⟩
     refine ⟨fun _ _ => rfl,?_⟩
     refine ⟨_,rfl,?_⟩
     rintro (_|_) h6
     ·replace h6 : ¬ (x.e.inc ≤ floorOf s.x.floors x.id) := of_decide_eq_false h6
      refine ⟨_,rfl,?_⟩
      refine Cm (gg + 1) st [Ml 1 0,(3,vI (i : Int)),Ml 4 gg,(11,vB true),(54,vB false)] [(1,0,cSV s),(4,gg,[vI x.id,vI x.e.inc,vI x.e.rank,vI x.e.beat,vI x.e.ver,.string x.e.data])] fun _ _ => ?_
      refine cxs ?_
      have e13 : IntKind.wrap .i64 ((i : Int) + 1) = ((i + 1 : Nat) : Int) := (wrap_i64 (by omega) (by omega)).trans (by omega)
      refine ⟨_,rfl,?_⟩
      refine ⟨i + 1,s.x.items.length - (i + 1),by omega,⟨rfl,congrArg (Value.int .i64) e13,trivial⟩,⟨rfl,trivial⟩,rfl,h1',fun j u hj hu => ?_,rfl⟩
      rcases Nat.lt_or_ge j i with h | h
      ·exact hok j u h hu
      ·obtain rfl : j = i := by omega
       rw [hx] at hu
       injection hu with hu
       subst hu
       exact ⟨h2,h5,Int.not_le.1 h6,fun y h0 hy => absurd h0 (by omega)⟩
     ·replace h6 : x.e.inc ≤ floorOf s.x.floors x.id := of_decide_eq_true h6
      refine ⟨_,rfl,?_⟩
      refine Cm (gg + 1) st [Ml 1 0,(3,vI (i : Int)),Ml 4 gg,(11,vB true),(54,vB true)] [(1,0,cSV s),(4,gg,[vI x.id,vI x.e.inc,vI x.e.rank,vI x.e.beat,vI x.e.ver,.string x.e.data])] fun _ _ => ?_
      exact cxs (Rt ⟨false,rfl,⟨fun h => absurd h Bool.false_ne_true,fun h => absurd (h.1 i x hx).2.2.1 (Int.not_lt.2 h6)⟩,rfl⟩)
   ·replace h3 : 0 < (i : Int) := of_decide_eq_true h3
    refine ⟨_,rfl,?_⟩
    refine ⟨_,Od rfl,?_⟩
    refine ⟨_,rfl,?_⟩
    refine ⟨_,Od rfl,?_⟩
    have ⟨b2,o2,k2,y,hqe,hy,hm2,hc2,hb2⟩ := hR.1.atB (j := i - 1) (by omega)
    have e32 : IntKind.wrap .i64 ((i : Int) - 1) = ((i - 1 : Nat) : Int) := (wrap_i64 (by omega) (by omega)).trans (by omega)
    refine ⟨_,rfl,?_⟩
    refine ⟨_,op_idx (j := ((i - 1 : Nat) : Int)) (n := s.x.items.length) (q := ⟨b2,o2,none⟩) rfl (congrArg (fun u => vS u s.x.items.length) hqe) (congrArg (Value.int .i64) e32) rfl rfl (Int.natCast_nonneg _) (by omega),?_⟩
    refine ⟨_,rfl,?_⟩
    refine ⟨_,op_ldc (i := 0) rfl rfl rfl rfl hm2 hc2 rfl rfl,?_⟩
    refine ⟨_,rfl,?_⟩
    rintro (_|_) h4
    ·replace h4 : ¬ (x.id ≤ y.id) := of_decide_eq_false h4
     iterate 3 refine ⟨_,rfl,?_⟩
     refine ⟨_,Od rfl,?_⟩
     refine ⟨_,rfl,(ac_spec_EntryOk x.e st).mono ?_⟩
     rintro _ st ⟨d,rfl,h5,rfl⟩
     rcases d with _|_
     ·replace h5 := fun k => Bool.false_ne_true (h5.2 k)
      iterate 3 refine ⟨_,rfl,?_⟩
      refine Cm (gg + 1) st [Ml 1 0,(3,vI (i : Int)),Ml 4 gg,(11,vB true),(54,vB true)] [(1,0,cSV s),(4,gg,[vI x.id,vI x.e.inc,vI x.e.rank,vI x.e.beat,vI x.e.ver,.string x.e.data])] fun _ _ => ?_
      exact cxs (Rt ⟨false,rfl,⟨fun h => absurd h Bool.false_ne_true,fun h => absurd (h.1 i x hx).2.1 h5⟩,rfl⟩)
     ·replace h5 := h5.1 rfl
      iterate 4 refine ⟨_,rfl,?_⟩
      refine ⟨_,Od rfl,?_⟩
      refine ⟨ld_own rfl rfl rfl,?_⟩
      refine ⟨_,Od rfl,?_⟩
      refine ⟨_,rfl,?_⟩
      refine ⟨_,Od rfl,?_⟩
      refine ⟨_,rfl,(ac_spec_FloorOf s x.id st hR hb).mono ?_⟩
      rintro _ st ⟨rfl,rfl⟩
      refine ⟨fun _ _ => rfl,?_⟩
      refine ⟨_,rfl,?_⟩
      rintro (_|_) h6
      ·replace h6 : ¬ (x.e.inc ≤ floorOf s.x.floors x.id) := of_decide_eq_false h6
       refine ⟨_,rfl,?_⟩
       refine Cm (gg + 1) st [Ml 1 0,(3,vI (i : Int)),Ml 4 gg,(11,vB true),(54,vB false)] [(1,0,cSV s),(4,gg,[vI x.id,vI x.e.inc,vI x.e.rank,vI x.e.beat,vI x.e.ver,.string x.e.data])] fun _ _ => ?_
       refine cxs ?_
       have e13 : IntKind.wrap .i64 ((i : Int) + 1) = ((i + 1 : Nat) : Int) := (wrap_i64 (by omega) (by omega)).trans (by omega)
       refine ⟨_,rfl,?_⟩
       refine ⟨i + 1,s.x.items.length - (i + 1),by omega,⟨rfl,congrArg (Value.int .i64) e13,trivial⟩,⟨rfl,trivial⟩,rfl,h1',fun j u hj hu => ?_,rfl⟩
       rcases Nat.lt_or_ge j i with h | h
       ·exact hok j u h hu
       ·obtain rfl : j = i := by omega
        rw [hx] at hu
        injection hu with hu
        subst hu
        refine ⟨h2,h5,Int.not_le.1 h6,fun z h0 hz => ?_⟩
        rw [hy] at hz
        injection hz with hz
        subst hz
        exact Int.not_le.1 h4
      ·replace h6 : x.e.inc ≤ floorOf s.x.floors x.id := of_decide_eq_true h6
       refine ⟨_,rfl,?_⟩
       refine Cm (gg + 1) st [Ml 1 0,(3,vI (i : Int)),Ml 4 gg,(11,vB true),(54,vB true)] [(1,0,cSV s),(4,gg,[vI x.id,vI x.e.inc,vI x.e.rank,vI x.e.beat,vI x.e.ver,.string x.e.data])] fun _ _ => ?_
       exact cxs (Rt ⟨false,rfl,⟨fun h => absurd h Bool.false_ne_true,fun h => absurd (h.1 i x hx).2.2.1 (Int.not_lt.2 h6)⟩,rfl⟩)
    ·replace h4 : x.id ≤ y.id := of_decide_eq_true h4
     iterate 4 refine ⟨_,rfl,?_⟩
     refine Cm (gg + 1) st [Ml 1 0,(3,vI (i : Int)),Ml 4 gg,(11,vB true),(54,vB true)] [(1,0,cSV s),(4,gg,[vI x.id,vI x.e.inc,vI x.e.rank,vI x.e.beat,vI x.e.ver,.string x.e.data])] fun _ _ => ?_
     exact cxs (Rt ⟨false,rfl,⟨fun h => absurd h Bool.false_ne_true,fun h => absurd ((h.1 i x hx).2.2.2 y (by omega) hy) (Int.not_lt.2 h4)⟩,rfl⟩)
theorem ac_impl_StateOk (s : SV) (st : St) (hR : RdS st s) (hb : bigS s.x) : C 24 [.agg #[vS s.p s.x.items.length,vS s.q s.x.floors.length]] st (fun v s' => ∃ x,v = .bool x ∧ (x = true ↔ stateOk s.x) ∧ s' = st) := by
 have hs1 : s.x.items.length ≤ 1048576 := hb.1
 have hs2 : s.x.floors.length ≤ 1048576 := hb.2.1
 refine AC.enterX (i := ⟨[1,4,6],[1,4,6,7,15,20,29,36,42,50,55,61,62,65,74,81],[0,1,2,3,4,5,6,8,9,10,11,40,43,44,45,46,85],[]⟩) [(4,[],[]),(10,[17],[13])] Tryz.func24 rfl rfl (by kernel_rfl) (by kernel_rfl) Tryz.ntmps24 (Lb rfl) rfl ?_
 refine ⟨_,rfl,?_⟩
 refine Cm 1 st [Ml 1 0,(2,vB false)] [(1,0,cSV s)] fun _ _ => ?_
 iterate 3 refine ⟨_,rfl,?_⟩
 refine Cm 1 st [Ml 1 0,(2,vB false),(8,vS s.q s.x.floors.length),(9,vI (s.x.floors.length)),(10,vI 0)] [(1,0,cSV s)] fun _ _ => ?_
 refine AW.loopM (fun v : Nat => [(1,vL 1 0 (0)),(8,vS s.q s.x.floors.length),(9,vI (s.x.floors.length : Int)),(10,vI (v : Int))]) (fun v : Nat => [(1,0,[vS s.p s.x.items.length,vS s.q s.x.floors.length])]) (fun m (v : Nat) st' => m = s.x.floors.length - v ∧ v ≤ s.x.floors.length ∧ (∀ (j : Nat) x,j < v → s.x.floors[j]? = some x → markOk s.x.floors j x) ∧ st = st') 0 _ ⟨rfl,rfl,rfl,rfl,trivial⟩ ⟨rfl,trivial⟩ ⟨rfl,Nat.zero_le _,fun j x h => absurd h (Nat.not_lt_zero _),rfl⟩ ?_
 rintro m v ρ0 ff gg st' ⟨rfl,hi2,hok2,rfl⟩
 refine ⟨_,rfl,?_⟩
 rintro (_|_) h7
 ·replace h7 : ¬ ((v : Int) < (s.x.floors.length : Int)) := of_decide_eq_false h7
  refine Cm gg st [Ml 1 0,(8,vS s.q s.x.floors.length),(9,vI (s.x.floors.length : Int)),(10,vI (v : Int)),(11,vB false)] [(1,0,cSV s)] fun _ _ => ?_
  refine cxs ?_
  refine ⟨_,rfl,?_⟩
  refine ⟨_,Od rfl,?_⟩
  refine ⟨_,rfl,?_⟩
  refine Cm gg st [Ml 1 0,(43,vS s.p s.x.items.length),(44,vI (s.x.items.length)),(45,vI 0)] [(1,0,cSV s)] fun _ _ => ?_
  refine AW.loopM (fun i : Nat => [(1,vL 1 0 (0)),(43,vS s.p s.x.items.length),(44,vI (s.x.items.length : Int)),(45,vI (i : Int))]) (fun i : Nat => [(1,0,[vS s.p s.x.items.length,vS s.q s.x.floors.length])]) (fun m (i : Nat) st' => m = s.x.items.length - i ∧ i ≤ s.x.items.length ∧ (∀ (j : Nat) x,j < i → s.x.items[j]? = some x → itemOk s.x j x) ∧ st = st') 0 _ ⟨rfl,rfl,rfl,rfl,trivial⟩ ⟨rfl,trivial⟩ ⟨rfl,Nat.zero_le _,fun j x h => absurd h (Nat.not_lt_zero _),rfl⟩ ?_
  rintro m i ρ0 ff gg st' ⟨rfl,hi,hok,rfl⟩
  refine ⟨_,rfl,?_⟩
  rintro (_|_) h1
  ·replace h1 : ¬ ((i : Int) < (s.x.items.length : Int)) := of_decide_eq_false h1
   refine Cm gg st [Ml 1 0,(43,vS s.p s.x.items.length),(44,vI (s.x.items.length : Int)),(45,vI (i : Int)),(46,vB false)] [(1,0,cSV s)] fun _ _ => ?_
   refine cxs ?_
   exact cxs (Rt ⟨true,rfl,⟨fun _ => ⟨fun j x hx => hok j x (by have := (List.getElem?_eq_some_iff.1 hx).1; omega) hx,fun j x hx => hok2 j x (by have := (List.getElem?_eq_some_iff.1 hx).1; omega) hx⟩,fun _ => rfl⟩,rfl⟩)
  ·replace h1 : (i : Int) < (s.x.items.length : Int) := of_decide_eq_true h1
   refine Cm gg st [Ml 1 0,(43,vS s.p s.x.items.length),(44,vI (s.x.items.length : Int)),(45,vI (i : Int)),(46,vB true)] [(1,0,cSV s)] fun _ _ => ?_
   have h1' := Int.ofNat_lt.1 h1
   have ⟨b1,o1,k1,x,hpe,hx,hm1,hc1,hb1⟩ := hR.1.atB h1'
   refine cxs ?_
   refine ⟨_,op_idx (j := (i : Int)) (n := s.x.items.length) (q := ⟨b1,o1,none⟩) rfl (congrArg (fun u => vS u s.x.items.length) hpe) rfl rfl rfl (Int.natCast_nonneg _) h1,?_⟩
   refine ⟨_,op_lda rfl rfl rfl rfl rfl hm1 hc1 rfl,?_⟩
   refine ⟨_,rfl,?_⟩
   refine ⟨_,Os rfl,?_⟩
   refine Cm (gg + 1) st [Ml 1 0,(5,vI (i : Int)),Ml 6 gg,(43,vS s.p s.x.items.length),(44,vI (s.x.items.length : Int)),(45,vI (i : Int)),(46,vB true)] [(1,0,cSV s),(6,gg,[vI x.id,vI x.e.inc,vI x.e.rank,vI x.e.beat,vI x.e.ver,.string x.e.data])] fun _ _ => ?_
   refine ⟨_,rfl,?_⟩
   refine ⟨_,Od rfl,?_⟩
   refine ⟨_,rfl,(ac_impl_isNode x.id st).mono ?_⟩
   rintro _ st ⟨c,rfl,h2,rfl⟩
   rcases c with _|_
   ·replace h2 := of_decide_eq_false h2.symm
    iterate 4 refine ⟨_,rfl,?_⟩
    refine Cm (gg + 1) st [Ml 1 0,(5,vI (i : Int)),Ml 6 gg,(43,vS s.p s.x.items.length),(44,vI (s.x.items.length : Int)),(45,vI (i : Int)),(46,vB true),(85,vB true)] [(1,0,cSV s),(6,gg,[vI x.id,vI x.e.inc,vI x.e.rank,vI x.e.beat,vI x.e.ver,.string x.e.data])] fun _ _ => ?_
    exact cxs (Rt ⟨false,rfl,⟨fun h => absurd h Bool.false_ne_true,fun h => absurd (h.1 i x hx).1 h2⟩,rfl⟩)
   ·replace h2 := of_decide_eq_true h2.symm
    iterate 2 refine ⟨_,rfl,?_⟩
    refine ⟨_,Od rfl,?_⟩
    refine ⟨_,rfl,(ac_impl_EntryOk x.e st).mono ?_⟩
    rintro _ st ⟨d,rfl,h5,rfl⟩
    rcases d with _|_
    ·replace h5 := fun k => Bool.false_ne_true (h5.2 k)
     iterate 4 refine ⟨_,rfl,?_⟩
     refine Cm (gg + 1) st [Ml 1 0,(5,vI (i : Int)),Ml 6 gg,(43,vS s.p s.x.items.length),(44,vI (s.x.items.length : Int)),(45,vI (i : Int)),(46,vB true),(85,vB true)] [(1,0,cSV s),(6,gg,[vI x.id,vI x.e.inc,vI x.e.rank,vI x.e.beat,vI x.e.ver,.string x.e.data])] fun _ _ => ?_
     exact cxs (Rt ⟨false,rfl,⟨fun h => absurd h Bool.false_ne_true,fun h => absurd (h.1 i x hx).2.1 h5⟩,rfl⟩)
    ·replace h5 := h5.1 rfl
     iterate 4 refine ⟨_,rfl,?_⟩
     refine ⟨_,Od rfl,?_⟩
     refine ⟨ld_own rfl rfl rfl,?_⟩
     refine ⟨_,Od rfl,?_⟩
     refine ⟨_,rfl,?_⟩
     refine ⟨_,Od rfl,?_⟩
     refine ⟨_,rfl,(ac_impl_FloorOf s x.id st hR hb).mono ?_⟩
     rintro _ st ⟨rfl,rfl⟩
     refine ⟨fun _ _ => rfl,?_⟩
     refine ⟨_,rfl,?_⟩
     rintro (_|_) h6
     ·replace h6 : ¬ (x.e.inc ≤ floorOf s.x.floors x.id) := of_decide_eq_false h6
      iterate 2 refine ⟨_,rfl,?_⟩
      rintro (_|_) h3
      ·replace h3 : ¬ (0 < (i : Int)) := of_decide_eq_false h3
       iterate 2 refine ⟨_,rfl,?_⟩
       refine Cm (gg + 1) st [Ml 1 0,(5,vI (i : Int)),Ml 6 gg,(43,vS s.p s.x.items.length),(44,vI (s.x.items.length : Int)),(45,vI (i : Int)),(46,vB true),(85,vB false)] [(1,0,cSV s),(6,gg,[vI x.id,vI x.e.inc,vI x.e.rank,vI x.e.beat,vI x.e.ver,.string x.e.data])] fun _ _ => ?_
       refine cxs ?_
       have e86 : IntKind.wrap .i64 ((i : Int) + 1) = ((i + 1 : Nat) : Int) := (wrap_i64 (by omega) (by omega)).trans (by omega)
       refine ⟨_,rfl,?_⟩
       refine ⟨i + 1,s.x.items.length - (i + 1),by omega,⟨rfl,rfl,rfl,congrArg (Value.int .i64) e86,trivial⟩,⟨rfl,trivial⟩,rfl,h1',fun j u hj hu => ?_,rfl⟩
       rcases Nat.lt_or_ge j i with h | h
       ·exact hok j u h hu
       ·obtain rfl : j = i := by omega
        rw [hx] at hu
        injection hu with hu
        subst hu
        exact ⟨h2,h5,Int.not_le.1 h6,fun y h0 hy => absurd h0 (by omega)⟩
      ·replace h3 : 0 < (i : Int) := of_decide_eq_true h3
       refine ⟨_,rfl,?_⟩
       refine ⟨_,Od rfl,?_⟩
       have ⟨b2,o2,k2,y,hqe,hy,hm2,hc2,hb2⟩ := hR.1.atB (j := i - 1) (by omega)
       have e77 : IntKind.wrap .i64 ((i : Int) - 1) = ((i - 1 : Nat) : Int) := (wrap_i64 (by omega) (by omega)).trans (by omega)
       refine ⟨_,rfl,?_⟩
       refine ⟨_,op_idx (j := ((i - 1 : Nat) : Int)) (n := s.x.items.length) (q := ⟨b2,o2,none⟩) rfl (congrArg (fun u => vS u s.x.items.length) hqe) (congrArg (Value.int .i64) e77) rfl rfl (Int.natCast_nonneg _) (by omega),?_⟩
       refine ⟨_,rfl,?_⟩
       refine ⟨_,op_ldc (i := 0) rfl rfl rfl rfl hm2 hc2 rfl rfl,?_⟩
       refine ⟨_,rfl,?_⟩
       refine ⟨_,Od rfl,?_⟩
       refine ⟨_,rfl,?_⟩
       rintro (_|_) h4
       ·replace h4 : ¬ (x.id ≤ y.id) := of_decide_eq_false h4
        iterate 2 refine ⟨_,rfl,?_⟩
        refine Cm (gg + 1) st [Ml 1 0,(5,vI (i : Int)),Ml 6 gg,(43,vS s.p s.x.items.length),(44,vI (s.x.items.length : Int)),(45,vI (i : Int)),(46,vB true),(85,vB false)] [(1,0,cSV s),(6,gg,[vI x.id,vI x.e.inc,vI x.e.rank,vI x.e.beat,vI x.e.ver,.string x.e.data])] fun _ _ => ?_
        refine cxs ?_
        have e86 : IntKind.wrap .i64 ((i : Int) + 1) = ((i + 1 : Nat) : Int) := (wrap_i64 (by omega) (by omega)).trans (by omega)
        refine ⟨_,rfl,?_⟩
        refine ⟨i + 1,s.x.items.length - (i + 1),by omega,⟨rfl,rfl,rfl,congrArg (Value.int .i64) e86,trivial⟩,⟨rfl,trivial⟩,rfl,h1',fun j u hj hu => ?_,rfl⟩
        rcases Nat.lt_or_ge j i with h | h
        ·exact hok j u h hu
        ·obtain rfl : j = i := by omega
         rw [hx] at hu
         injection hu with hu
         subst hu
         refine ⟨h2,h5,Int.not_le.1 h6,fun z h0 hz => ?_⟩
         rw [hy] at hz
         injection hz with hz
         subst hz
         exact Int.not_le.1 h4
       ·replace h4 : x.id ≤ y.id := of_decide_eq_true h4
        iterate 2 refine ⟨_,rfl,?_⟩
        refine Cm (gg + 1) st [Ml 1 0,(5,vI (i : Int)),Ml 6 gg,(43,vS s.p s.x.items.length),(44,vI (s.x.items.length : Int)),(45,vI (i : Int)),(46,vB true),(85,vB true)] [(1,0,cSV s),(6,gg,[vI x.id,vI x.e.inc,vI x.e.rank,vI x.e.beat,vI x.e.ver,.string x.e.data])] fun _ _ => ?_
        exact cxs (Rt ⟨false,rfl,⟨fun h => absurd h Bool.false_ne_true,fun h => absurd ((h.1 i x hx).2.2.2 y (by omega) hy) (Int.not_lt.2 h4)⟩,rfl⟩)
     ·replace h6 : x.e.inc ≤ floorOf s.x.floors x.id := of_decide_eq_true h6
      iterate 2 refine ⟨_,rfl,?_⟩
      refine Cm (gg + 1) st [Ml 1 0,(5,vI (i : Int)),Ml 6 gg,(43,vS s.p s.x.items.length),(44,vI (s.x.items.length : Int)),(45,vI (i : Int)),(46,vB true),(85,vB true)] [(1,0,cSV s),(6,gg,[vI x.id,vI x.e.inc,vI x.e.rank,vI x.e.beat,vI x.e.ver,.string x.e.data])] fun _ _ => ?_
      exact cxs (Rt ⟨false,rfl,⟨fun h => absurd h Bool.false_ne_true,fun h => absurd (h.1 i x hx).2.2.1 (Int.not_lt.2 h6)⟩,rfl⟩)
 ·replace h7 : (v : Int) < (s.x.floors.length : Int) := of_decide_eq_true h7
  refine Cm gg st [Ml 1 0,(8,vS s.q s.x.floors.length),(9,vI (s.x.floors.length : Int)),(10,vI (v : Int)),(11,vB true)] [(1,0,cSV s)] fun _ _ => ?_
  have h7' := Int.ofNat_lt.1 h7
  have ⟨b3,o3,k3,x,hpe,hx,hm1,hc1,hb1⟩ := hR.2.atB h7'
  refine cxs ?_
  refine ⟨_,op_idx (j := (v : Int)) (n := s.x.floors.length) (q := ⟨b3,o3,none⟩) rfl (congrArg (fun u => vS u s.x.floors.length) hpe) rfl rfl rfl (Int.natCast_nonneg _) h7,?_⟩
  refine ⟨_,op_lda rfl rfl rfl rfl rfl hm1 hc1 rfl,?_⟩
  refine ⟨_,rfl,?_⟩
  refine ⟨_,Os rfl,?_⟩
  refine Cm (gg + 1) st [Ml 1 0,(3,vI (v : Int)),Ml 4 gg,(8,vS s.q s.x.floors.length),(9,vI (s.x.floors.length : Int)),(10,vI (v : Int)),(11,vB true)] [(1,0,cSV s),(4,gg,[vI x.id,vI x.inc])] fun _ _ => ?_
  refine ⟨_,rfl,?_⟩
  refine ⟨_,Od rfl,?_⟩
  refine ⟨_,rfl,(ac_impl_isNode x.id st).mono ?_⟩
  rintro _ st ⟨c,rfl,h8,rfl⟩
  rcases c with _|_
  ·replace h8 := of_decide_eq_false h8.symm
   iterate 3 refine ⟨_,rfl,?_⟩
   refine Cm (gg + 1) st [Ml 1 0,(3,vI (v : Int)),Ml 4 gg,(8,vS s.q s.x.floors.length),(9,vI (s.x.floors.length : Int)),(10,vI (v : Int)),(11,vB true),(40,vB true)] [(1,0,cSV s),(4,gg,[vI x.id,vI x.inc])] fun _ _ => ?_
   exact cxs (Rt ⟨false,rfl,⟨fun h => absurd h Bool.false_ne_true,fun h => absurd (h.2 v x hx).1 h8⟩,rfl⟩)
  ·replace h8 := of_decide_eq_true h8.symm
   iterate 2 refine ⟨_,rfl,?_⟩
   refine ⟨_,Od rfl,?_⟩
   refine ⟨_,rfl,(ac_impl_within x.inc 1 1000 st).mono ?_⟩
   rintro _ st ⟨d,rfl,h11,rfl⟩
   rcases d with _|_
   ·replace h11 := of_decide_eq_false h11.symm
    iterate 3 refine ⟨_,rfl,?_⟩
    refine Cm (gg + 1) st [Ml 1 0,(3,vI (v : Int)),Ml 4 gg,(8,vS s.q s.x.floors.length),(9,vI (s.x.floors.length : Int)),(10,vI (v : Int)),(11,vB true),(40,vB true)] [(1,0,cSV s),(4,gg,[vI x.id,vI x.inc])] fun _ _ => ?_
    exact cxs (Rt ⟨false,rfl,⟨fun h => absurd h Bool.false_ne_true,fun h => absurd (h.2 v x hx).2.1 h11⟩,rfl⟩)
   ·replace h11 := of_decide_eq_true h11.symm
    iterate 3 refine ⟨_,rfl,?_⟩
    rintro (_|_) h9
    ·replace h9 : ¬ (0 < (v : Int)) := of_decide_eq_false h9
     iterate 2 refine ⟨_,rfl,?_⟩
     refine Cm (gg + 1) st [Ml 1 0,(3,vI (v : Int)),Ml 4 gg,(8,vS s.q s.x.floors.length),(9,vI (s.x.floors.length : Int)),(10,vI (v : Int)),(11,vB true),(40,vB false)] [(1,0,cSV s),(4,gg,[vI x.id,vI x.inc])] fun _ _ => ?_
     refine cxs ?_
     have e41 : IntKind.wrap .i64 ((v : Int) + 1) = ((v + 1 : Nat) : Int) := (wrap_i64 (by omega) (by omega)).trans (by omega)
     refine ⟨_,rfl,?_⟩
     refine ⟨v + 1,s.x.floors.length - (v + 1),by omega,⟨rfl,rfl,rfl,congrArg (Value.int .i64) e41,trivial⟩,⟨rfl,trivial⟩,rfl,h7',fun j u hj hu => ?_,rfl⟩
     rcases Nat.lt_or_ge j v with h | h
     ·exact hok2 j u h hu
     ·obtain rfl : j = v := by omega
      rw [hx] at hu
      injection hu with hu
      subst hu
      exact ⟨h8,h11,fun y h0 hy => absurd h0 (by omega)⟩
    ·replace h9 : 0 < (v : Int) := of_decide_eq_true h9
     refine ⟨_,rfl,?_⟩
     refine ⟨_,Od rfl,?_⟩
     have ⟨b2,o2,k2,y,hqe,hy,hm2,hc2,hb2⟩ := hR.2.atB (j := v - 1) (by omega)
     have e32 : IntKind.wrap .i64 ((v : Int) - 1) = ((v - 1 : Nat) : Int) := (wrap_i64 (by omega) (by omega)).trans (by omega)
     refine ⟨_,rfl,?_⟩
     refine ⟨_,op_idx (j := ((v - 1 : Nat) : Int)) (n := s.x.floors.length) (q := ⟨b2,o2,none⟩) rfl (congrArg (fun u => vS u s.x.floors.length) hqe) (congrArg (Value.int .i64) e32) rfl rfl (Int.natCast_nonneg _) (by omega),?_⟩
     refine ⟨_,rfl,?_⟩
     refine ⟨_,op_ldc (i := 0) rfl rfl rfl rfl hm2 hc2 rfl rfl,?_⟩
     refine ⟨_,rfl,?_⟩
     refine ⟨_,Od rfl,?_⟩
     refine ⟨_,rfl,?_⟩
     rintro (_|_) h10
     ·replace h10 : ¬ (x.id ≤ y.id) := of_decide_eq_false h10
      iterate 2 refine ⟨_,rfl,?_⟩
      refine Cm (gg + 1) st [Ml 1 0,(3,vI (v : Int)),Ml 4 gg,(8,vS s.q s.x.floors.length),(9,vI (s.x.floors.length : Int)),(10,vI (v : Int)),(11,vB true),(40,vB false)] [(1,0,cSV s),(4,gg,[vI x.id,vI x.inc])] fun _ _ => ?_
      refine cxs ?_
      have e41 : IntKind.wrap .i64 ((v : Int) + 1) = ((v + 1 : Nat) : Int) := (wrap_i64 (by omega) (by omega)).trans (by omega)
      refine ⟨_,rfl,?_⟩
      refine ⟨v + 1,s.x.floors.length - (v + 1),by omega,⟨rfl,rfl,rfl,congrArg (Value.int .i64) e41,trivial⟩,⟨rfl,trivial⟩,rfl,h7',fun j u hj hu => ?_,rfl⟩
      rcases Nat.lt_or_ge j v with h | h
      ·exact hok2 j u h hu
      ·obtain rfl : j = v := by omega
       rw [hx] at hu
       injection hu with hu
       subst hu
       refine ⟨h8,h11,fun z h0 hz => ?_⟩
       rw [hy] at hz
       injection hz with hz
       subst hz
       exact Int.not_le.1 h10
     ·replace h10 : x.id ≤ y.id := of_decide_eq_true h10
      iterate 2 refine ⟨_,rfl,?_⟩
      refine Cm (gg + 1) st [Ml 1 0,(3,vI (v : Int)),Ml 4 gg,(8,vS s.q s.x.floors.length),(9,vI (s.x.floors.length : Int)),(10,vI (v : Int)),(11,vB true),(40,vB true)] [(1,0,cSV s),(4,gg,[vI x.id,vI x.inc])] fun _ _ => ?_
      exact cxs (Rt ⟨false,rfl,⟨fun h => absurd h Bool.false_ne_true,fun h => absurd ((h.2 v x hx).2.2 y (by omega) hy) (Int.not_lt.2 h10)⟩,rfl⟩)
theorem row_sub {cs r q : List Value} {d z i n : Nat} (hc : (cs.drop d).take z = r) (hq : (r.drop i).take n = q) (hle : i + n ≤ z) : (cs.drop (d + i)).take n = q := by
 subst hc hq
 rw [List.drop_take,List.take_take,List.drop_drop,Nat.min_eq_left (by omega)]
theorem copy_facts {st s1 s2 : St} {q1 q2 : Option Addr} {A B : Prop} {m : Nat} (hP : Pres st s1) (hN : New st.next q1) (hPr : Pr q1 s1 s2) (h : (q2 = q1 ∧ A ∧ B) ∨ (0 < m ∧ New s1.next q2)) : Pres st s2 ∧ New st.next q2 := by
 refine ⟨hPr.pres hP hN,?_⟩
 rcases h with ⟨h,_⟩ | ⟨_,h⟩
 ·rw [h]; exact hN
 ·exact h.le hP.1
theorem Pr.low {p : Option Addr} {st0 s s' : St} (h : Pr p s s') (hP : Pres st0 s) (hN : New st0.next p) : ∀ a,a < st0.next → s'.mem a = s.mem a :=
 fun a ha => h.2 a (Nat.lt_of_lt_of_le ha hP.1) fun q hq e => by have := hN q hq; omega
theorem Pres.low {st0 s s' : St} (h : Pres s s') (hP : Pres st0 s) : ∀ a,a < st0.next → s'.mem a = s.mem a := fun a ha => h.2 a (Nat.lt_of_lt_of_le ha hP.1)
theorem ac_impl_copyState (s : SV) (st : St) (hR : RdS st s) (hb : bigS s.x) : C 71 [.agg #[vS s.p s.x.items.length,vS s.q s.x.floors.length]] st (fun v s' => ∃ u : SV,v = .agg #[vS u.p u.x.items.length,vS u.q u.x.floors.length] ∧ u.x = s.x ∧ OwnP s' (pcS u) ∧ NewP st.next (pcS u) ∧ Pres st s') := by
 have hs1 : s.x.items.length ≤ 1048576 := hb.1
 have hs2 : s.x.floors.length ≤ 1048576 := hb.2.1
 refine AC.enterX (i := ⟨[1,2],[1,2,4,8],[0,1,2],[]⟩) [(1,[3],[6])] Tryz.func71 rfl rfl (by kernel_rfl) (by kernel_rfl) Tryz.ntmps71 (Lb rfl) rfl ?_
 iterate 2 refine ⟨_,rfl,?_⟩
 refine Cm 2 st [Ml 1 0,Ml 2 1] [(1,0,cSV s),(2,1,[Sn,Sn])] fun _ _ => ?_
 refine op_nilK (z := 6) (f := cItm) rfl rfl rfl rfl (by decide) rfl ?_
 intro q1 s1 hO1 hP1 hN1
 iterate 2 refine ⟨_,rfl,?_⟩
 refine op_app (z := 6) (st := s1) (f := cItm) (b := 56) (l := []) (l2 := s.x.items) rfl rfl rfl rfl rfl rfl rfl (by decide) len_cItm rfl rfl rfl rfl (by omega) (by unfold maxLen; omega) hO1 (hP1.rows hR.1) ?_
 intro q2 s2 hO2 hPr2 hN2
 refine ⟨hPr2.low hP1 hN1,?_⟩
 have ⟨hP2,hN2⟩ := copy_facts hP1 hN1 hPr2 hN2
 refine op_nilK (z := 2) (f := cFlr) rfl rfl rfl rfl (by decide) rfl ?_
 intro q3 s3 hO3 hP3 hN3
 iterate 2 refine ⟨_,rfl,?_⟩
 refine ⟨ld_own rfl rfl rfl,?_⟩
 refine op_app (z := 2) (st := s3) (f := cFlr) (b := 16) (l := []) (l2 := s.x.floors) rfl rfl rfl rfl rfl rfl rfl (by decide) len_cFlr rfl rfl rfl rfl (by omega) (by unfold maxLen; omega) hO3 ((hP2.trans hP3).rows hR.2) ?_
 intro q4 s4 hO4 hPr4 hN4
 iterate 2 refine ⟨_,rfl,?_⟩
 refine cxs ?_
 have ⟨hP4,hN4⟩ := copy_facts hP3 hN3 hPr4 hN4
 refine ⟨.inl rfl,_,rfl,⟨q2,q4,s.x⟩,?_,rfl,OwnP.join (l := [pcR 6 cItm q2 s.x.items]) (OwnP.one (own_pc hO2)) hP4 (OwnP.one (own_pc hO4)) (NewP.cons hN4 NewP.nil),NewP.cons hN2 (NewP.cons (hN4.le hP2.1) NewP.nil),hP2.trans hP4⟩
 show Value.agg #[vS q2 (0 + s.x.items.length),vS q4 (0 + s.x.floors.length)] = _
 rw [Nat.zero_add,Nat.zero_add]
theorem ac_spec_l3Copy (s : SV) (st : St) (hR : RdS st s) (hb : bigS s.x) : C 157 [.agg #[vS s.p s.x.items.length,vS s.q s.x.floors.length]] st (fun v s' => ∃ u : SV,v = .agg #[vS u.p u.x.items.length,vS u.q u.x.floors.length] ∧ u.x = s.x ∧ OwnP s' (pcS u) ∧ NewP st.next (pcS u) ∧ Pres st s') := by
 have hs1 : s.x.items.length ≤ 1048576 := hb.1
 have hs2 : s.x.floors.length ≤ 1048576 := hb.2.1
 refine AC.enterX (i := ⟨[1,2],[1,2,4,8],[0,1,2],[]⟩) [(1,[3],[6])] Tryz.func157 rfl rfl (by kernel_rfl) (by kernel_rfl) Tryz.ntmps157 (Lb rfl) rfl ?_
 iterate 2 refine ⟨_,rfl,?_⟩
 refine Cm 2 st [Ml 1 0,Ml 2 1] [(1,0,cSV s),(2,1,[Sn,Sn])] fun _ _ => ?_
 refine op_nilK (z := 6) (f := cItm) rfl rfl rfl rfl (by decide) rfl ?_
 intro q1 s1 hO1 hP1 hN1
 iterate 2 refine ⟨_,rfl,?_⟩
 refine op_app (z := 6) (st := s1) (f := cItm) (b := 56) (l := []) (l2 := s.x.items) rfl rfl rfl rfl rfl rfl rfl (by decide) len_cItm rfl rfl rfl rfl (by omega) (by unfold maxLen; omega) hO1 (hP1.rows hR.1) ?_
 intro q2 s2 hO2 hPr2 hN2
 refine ⟨hPr2.low hP1 hN1,?_⟩
 have ⟨hP2,hN2⟩ := copy_facts hP1 hN1 hPr2 hN2
 refine op_nilK (z := 2) (f := cFlr) rfl rfl rfl rfl (by decide) rfl ?_
 intro q3 s3 hO3 hP3 hN3
 iterate 2 refine ⟨_,rfl,?_⟩
 refine ⟨ld_own rfl rfl rfl,?_⟩
 refine op_app (z := 2) (st := s3) (f := cFlr) (b := 16) (l := []) (l2 := s.x.floors) rfl rfl rfl rfl rfl rfl rfl (by decide) len_cFlr rfl rfl rfl rfl (by omega) (by unfold maxLen; omega) hO3 ((hP2.trans hP3).rows hR.2) ?_
 intro q4 s4 hO4 hPr4 hN4
 iterate 2 refine ⟨_,rfl,?_⟩
 refine cxs ?_
 have ⟨hP4,hN4⟩ := copy_facts hP3 hN3 hPr4 hN4
 refine ⟨.inl rfl,_,rfl,⟨q2,q4,s.x⟩,?_,rfl,OwnP.join (l := [pcR 6 cItm q2 s.x.items]) (OwnP.one (own_pc hO2)) hP4 (OwnP.one (own_pc hO4)) (NewP.cons hN4 NewP.nil),NewP.cons hN2 (NewP.cons (hN4.le hP2.1) NewP.nil),hP2.trans hP4⟩
 show Value.agg #[vS q2 (0 + s.x.items.length),vS q4 (0 + s.x.floors.length)] = _
 rw [Nat.zero_add,Nat.zero_add]
def entP : List Itm → Int → Ent × Bool
 | [],_ => (zEnt,false)
 | x :: l,id => if x.id = id then (x.e,true) else entP l id
theorem ac_impl_EntryOf (s : SV) (id : Int) (st : St) (hR : RdS st s) (hb : bigS s.x) : C 151 [.agg #[vS s.p s.x.items.length,vS s.q s.x.floors.length],vI id] st (fun v s' => ∃ e b,v = .tuple #[.agg #[vI e.inc,vI e.rank,vI e.beat,vI e.ver,.string e.data],vB b] ∧ (e,b) = entP s.x.items id ∧ s' = st) := by
 have hs1 : s.x.items.length ≤ 1048576 := hb.1
 refine AC.enterX (i := ⟨[2,4,7],[2,4,7,8,15,19],[0,1,2,4,5,7,9,10,11,12,18],[]⟩) [] Tryz.func151 rfl rfl (by kernel_rfl) (by kernel_rfl) Tryz.ntmps151 (Lb rfl) rfl ?_
 iterate 2 refine ⟨_,rfl,?_⟩
 refine Cm 2 st [(1,vI id),Ml 2 0,Ml 4 1,(5,vB false)] [(2,0,cSV s),(4,1,[vI 0,vI 0,vI 0,vI 0,.string ⟨#[]⟩])] fun _ _ => ?_
 iterate 3 refine ⟨_,rfl,?_⟩
 refine Cm 2 st [(1,vI id),Ml 2 0,Ml 4 1,(5,vB false),(9,vS s.p s.x.items.length),(10,vI (s.x.items.length)),(11,vI 0)] [(2,0,cSV s),(4,1,[vI 0,vI 0,vI 0,vI 0,.string ⟨#[]⟩])] fun _ _ => ?_
 refine AW.loopM (fun i : Nat => [(1,vI id),(2,vL 2 0 (0)),(4,vL 4 0 (1)),(5,vB false),(9,vS s.p s.x.items.length),(10,vI (s.x.items.length : Int)),(11,vI (i : Int))]) (fun i : Nat => [(2,0,[vS s.p s.x.items.length,vS s.q s.x.floors.length]),(4,1,[vI 0,vI 0,vI 0,vI 0,.string ⟨#[]⟩])]) (fun m (i : Nat) st' => m = s.x.items.length - i ∧ i ≤ s.x.items.length ∧ entP s.x.items id = entP (s.x.items.drop i) id ∧ st = st') 0 _ ⟨rfl,rfl,rfl,rfl,rfl,rfl,rfl,trivial⟩ ⟨rfl,rfl,trivial⟩ ⟨rfl,Nat.zero_le _,rfl,rfl⟩ ?_
 rintro m i ρ0 ff gg st' ⟨rfl,hi,hf,rfl⟩
 refine ⟨_,rfl,?_⟩
 rintro (_|_) h1
 ·replace h1 : ¬ ((i : Int) < (s.x.items.length : Int)) := of_decide_eq_false h1
  refine Cm gg st [(1,vI id),Ml 2 0,Ml 4 1,(5,vB false),(9,vS s.p s.x.items.length),(10,vI (s.x.items.length : Int)),(11,vI (i : Int)),(12,vB false)] [(2,0,cSV s),(4,1,[vI 0,vI 0,vI 0,vI 0,.string ⟨#[]⟩])] fun _ _ => ?_
  refine cxs ?_
  refine ⟨_,rfl,?_⟩
  refine ⟨_,Os rfl,?_⟩
  refine cxs ?_
  have hil : i = s.x.items.length := by omega
  exact Rt ⟨zEnt,false,rfl,by rw [hf,hil,List.drop_length]; rfl,rfl⟩
 ·replace h1 : (i : Int) < (s.x.items.length : Int) := of_decide_eq_true h1
  refine Cm gg st [(1,vI id),Ml 2 0,Ml 4 1,(5,vB false),(9,vS s.p s.x.items.length),(10,vI (s.x.items.length : Int)),(11,vI (i : Int)),(12,vB true)] [(2,0,cSV s),(4,1,[vI 0,vI 0,vI 0,vI 0,.string ⟨#[]⟩])] fun _ _ => ?_
  have h1' := Int.ofNat_lt.1 h1
  have ⟨b1,o1,k1,x,hpe,hx,hm1,hc1,hb1⟩ := hR.1.atB h1'
  rw [(split_at' hx).2.2,entP] at hf
  refine cxs ?_
  refine ⟨_,op_idx (j := (i : Int)) (n := s.x.items.length) (q := ⟨b1,o1,none⟩) rfl (congrArg (fun u => vS u s.x.items.length) hpe) rfl rfl rfl (Int.natCast_nonneg _) h1,?_⟩
  refine ⟨_,op_lda rfl rfl rfl rfl rfl hm1 hc1 rfl,?_⟩
  refine ⟨_,rfl,?_⟩
  refine ⟨_,Os rfl,?_⟩
  refine Cm (gg + 1) st [(1,vI id),Ml 2 0,Ml 4 1,(5,vB false),Ml 7 gg,(9,vS s.p s.x.items.length),(10,vI (s.x.items.length : Int)),(11,vI (i : Int)),(12,vB true)] [(2,0,cSV s),(4,1,[vI 0,vI 0,vI 0,vI 0,.string ⟨#[]⟩]),(7,gg,[vI x.id,vI x.e.inc,vI x.e.rank,vI x.e.beat,vI x.e.ver,.string x.e.data])] fun _ _ => ?_
  refine ⟨_,rfl,?_⟩
  refine ⟨_,Od rfl,?_⟩
  refine ⟨_,rfl,?_⟩
  rintro (_|_) h2
  ·replace h2 : ¬ (x.id = id) := beq_eq_false_iff_ne.1 h2
   refine Cm (gg + 1) st [(1,vI id),Ml 2 0,Ml 4 1,(5,vB false),Ml 7 gg,(9,vS s.p s.x.items.length),(10,vI (s.x.items.length : Int)),(11,vI (i : Int)),(12,vB true),(18,vB false)] [(2,0,cSV s),(4,1,[vI 0,vI 0,vI 0,vI 0,.string ⟨#[]⟩]),(7,gg,[vI x.id,vI x.e.inc,vI x.e.rank,vI x.e.beat,vI x.e.ver,.string x.e.data])] fun _ _ => ?_
   refine cxs ?_
   have e21 : IntKind.wrap .i64 ((i : Int) + 1) = ((i + 1 : Nat) : Int) := (wrap_i64 (by omega) (by omega)).trans (by omega)
   refine ⟨_,rfl,?_⟩
   exact ⟨i + 1,s.x.items.length - (i + 1),by omega,⟨rfl,rfl,rfl,rfl,rfl,rfl,congrArg (Value.int .i64) e21,trivial⟩,⟨rfl,rfl,trivial⟩,rfl,h1',by rw [hf,if_neg h2],rfl⟩
  ·replace h2 : x.id = id := beq_iff_eq.1 h2
   refine Cm (gg + 1) st [(1,vI id),Ml 2 0,Ml 4 1,(5,vB false),Ml 7 gg,(9,vS s.p s.x.items.length),(10,vI (s.x.items.length : Int)),(11,vI (i : Int)),(12,vB true),(18,vB true)] [(2,0,cSV s),(4,1,[vI 0,vI 0,vI 0,vI 0,.string ⟨#[]⟩]),(7,gg,[vI x.id,vI x.e.inc,vI x.e.rank,vI x.e.beat,vI x.e.ver,.string x.e.data])] fun _ _ => ?_
   refine ⟨_,rfl,?_⟩
   refine ⟨_,Od rfl,?_⟩
   refine ⟨_,Os rfl,?_⟩
   exact cxs (Rt ⟨x.e,true,rfl,by rw [hf,if_pos h2],rfl⟩)
theorem ac_spec_EntryOf (s : SV) (id : Int) (st : St) (hR : RdS st s) (hb : bigS s.x) : C 206 [.agg #[vS s.p s.x.items.length,vS s.q s.x.floors.length],vI id] st (fun v s' => ∃ e b,v = .tuple #[.agg #[vI e.inc,vI e.rank,vI e.beat,vI e.ver,.string e.data],vB b] ∧ (e,b) = entP s.x.items id ∧ s' = st) := by
 have hs1 : s.x.items.length ≤ 1048576 := hb.1
 refine AC.enterX (i := ⟨[2,4],[2,4,8,14,22],[0,1,2,4,5,6,11,21],[]⟩) [] Tryz.func206 rfl rfl (by kernel_rfl) (by kernel_rfl) Tryz.ntmps206 (Lb rfl) rfl ?_
 iterate 2 refine ⟨_,rfl,?_⟩
 refine cxs ?_
 refine Cm 2 st [(1,vI id),Ml 2 0,Ml 4 1,(5,vB false),(6,vI 0)] [(2,0,cSV s),(4,1,[vI 0,vI 0,vI 0,vI 0,.string ⟨#[]⟩])] fun _ _ => ?_
 refine AW.loopM (fun i : Nat => [(1,vI id),(2,vL 2 0 (0)),(4,vL 4 0 (1)),(5,vB false),(6,vI (i : Int))]) (fun i : Nat => [(2,0,[vS s.p s.x.items.length,vS s.q s.x.floors.length]),(4,1,[vI 0,vI 0,vI 0,vI 0,.string ⟨#[]⟩])]) (fun m (i : Nat) st' => m = s.x.items.length - i ∧ i ≤ s.x.items.length ∧ entP s.x.items id = entP (s.x.items.drop i) id ∧ st = st') 0 _ ⟨rfl,rfl,rfl,rfl,rfl,trivial⟩ ⟨rfl,rfl,trivial⟩ ⟨rfl,Nat.zero_le _,rfl,rfl⟩ ?_
 rintro m i ρ0 ff gg st' ⟨rfl,hi,hf,rfl⟩
 refine ⟨_,rfl,?_⟩
 refine ⟨_,Od rfl,?_⟩
 iterate 2 refine ⟨_,rfl,?_⟩
 rintro (_|_) h1
 ·replace h1 : ¬ ((i : Int) < (s.x.items.length : Int)) := of_decide_eq_false h1
  refine Cm gg st [(1,vI id),Ml 2 0,Ml 4 1,(5,vB false),(6,vI (i : Int)),(11,vB false)] [(2,0,cSV s),(4,1,[vI 0,vI 0,vI 0,vI 0,.string ⟨#[]⟩])] fun _ _ => ?_
  refine cxs ?_
  refine ⟨_,rfl,?_⟩
  refine ⟨_,Os rfl,?_⟩
  refine cxs ?_
  have hil : i = s.x.items.length := by omega
  exact Rt ⟨zEnt,false,rfl,by rw [hf,hil,List.drop_length]; rfl,rfl⟩
 ·replace h1 : (i : Int) < (s.x.items.length : Int) := of_decide_eq_true h1
  refine Cm gg st [(1,vI id),Ml 2 0,Ml 4 1,(5,vB false),(6,vI (i : Int)),(11,vB true)] [(2,0,cSV s),(4,1,[vI 0,vI 0,vI 0,vI 0,.string ⟨#[]⟩])] fun _ _ => ?_
  have h1' := Int.ofNat_lt.1 h1
  have ⟨b1,o1,k1,x,hpe,hx,hm1,hc1,hb1⟩ := hR.1.atB h1'
  rw [(split_at' hx).2.2,entP] at hf
  have hc5 : (k1.cells.drop (o1 + i * 6 + 1)).take 5 = cEnt x.e := row_sub (i := 1) hc1 rfl (by decide)
  refine cxs ?_
  refine ⟨_,rfl,?_⟩
  refine ⟨_,Od rfl,?_⟩
  refine ⟨_,op_idx (j := (i : Int)) (n := s.x.items.length) (q := ⟨b1,o1,none⟩) rfl (congrArg (fun u => vS u s.x.items.length) hpe) rfl rfl rfl (Int.natCast_nonneg _) h1,?_⟩
  refine ⟨_,rfl,?_⟩
  refine ⟨_,op_ldc (i := 0) rfl rfl rfl rfl hm1 hc1 rfl rfl,?_⟩
  refine ⟨_,rfl,?_⟩
  rintro (_|_) h2
  ·replace h2 : ¬ (x.id = id) := beq_eq_false_iff_ne.1 h2
   refine Cm gg st [(1,vI id),Ml 2 0,Ml 4 1,(5,vB false),(6,vI (i : Int)),(11,vB true),(21,vB false)] [(2,0,cSV s),(4,1,[vI 0,vI 0,vI 0,vI 0,.string ⟨#[]⟩])] fun _ _ => ?_
   refine cxs ?_
   have e13 : IntKind.wrap .i64 ((i : Int) + 1) = ((i + 1 : Nat) : Int) := (wrap_i64 (by omega) (by omega)).trans (by omega)
   refine ⟨_,rfl,?_⟩
   exact ⟨i + 1,s.x.items.length - (i + 1),by omega,⟨rfl,rfl,rfl,rfl,congrArg (Value.int .i64) e13,trivial⟩,⟨rfl,rfl,trivial⟩,rfl,h1',by rw [hf,if_neg h2],rfl⟩
  ·replace h2 : x.id = id := beq_iff_eq.1 h2
   refine Cm gg st [(1,vI id),Ml 2 0,Ml 4 1,(5,vB false),(6,vI (i : Int)),(11,vB true),(21,vB true)] [(2,0,cSV s),(4,1,[vI 0,vI 0,vI 0,vI 0,.string ⟨#[]⟩])] fun _ _ => ?_
   refine ⟨_,rfl,?_⟩
   refine ⟨_,Od rfl,?_⟩
   refine ⟨_,op_idx (j := (i : Int)) (n := s.x.items.length) (q := ⟨b1,o1,none⟩) rfl (congrArg (fun u => vS u s.x.items.length) hpe) rfl rfl rfl (Int.natCast_nonneg _) h1,?_⟩
   refine ⟨_,rfl,?_⟩
   refine ⟨_,op_lda rfl rfl rfl rfl rfl hm1 hc5 rfl,?_⟩
   refine ⟨_,Os rfl,?_⟩
   exact cxs (Rt ⟨x.e,true,rfl,by rw [hf,if_pos h2],rfl⟩)
open Classical in
noncomputable def goneAt (s : Sta) (id : Int) : Int :=
 if stateOk s then (if (entP s.items id).2 = true then (if (entP s.items id).1.rank = 1 then (entP s.items id).1.inc else (entP s.items id).1.inc - 1) else floorOf s.floors id) else 0
theorem entP_mem : ∀ {l : List Itm} {id : Int} {e : Ent},(e,true) = entP l id → ∃ (j : Nat) (x : Itm),l[j]? = some x ∧ x.e = e ∧ x.id = id
 | [],id,e,h => by simp [entP] at h
 | x :: l,id,e,h => by
  rw [entP] at h
  split at h
  ·rename_i hx
   injection h with h
   exact ⟨0,x,rfl,h.symm,hx⟩
  ·obtain ⟨j,y,h1,h2⟩ := entP_mem h
   exact ⟨j + 1,y,by simpa using h1,h2⟩
theorem ent_ok {s : Sta} (h : stateOk s) {id : Int} {e : Ent} (he : (e,true) = entP s.items id) : entOk e := by
 obtain ⟨j,x,h1,h2,_⟩ := entP_mem he
 rw [← h2]; exact (h.1 j x h1).2.1
theorem ac_impl_GoneAt (s : SV) (id : Int) (st : St) (hR : RdS st s) (hb : bigS s.x) : C 153 [.agg #[vS s.p s.x.items.length,vS s.q s.x.floors.length],vI id] st (fun v s' => v = vI (goneAt s.x id) ∧ s' = st) := by
 refine AC.enterX (i := ⟨[2,5],[2,5,23,26,28],[0,1,2,4,5,6,9,16,22],[]⟩) [] Tryz.func153 rfl rfl (by kernel_rfl) (by kernel_rfl) Tryz.ntmps153 (Lb rfl) rfl ?_
 refine ⟨_,rfl,?_⟩
 refine Cm 1 st [(1,vI id),Ml 2 0,(4,vI 0)] [(2,0,cSV s)] fun _ _ => ?_
 refine ⟨_,rfl,?_⟩
 refine ⟨_,rfl,(ac_impl_StateOk s st hR hb).mono ?_⟩
 rintro _ st ⟨c,rfl,hk,rfl⟩
 rcases c with _|_
 ·replace hk := fun k => Bool.false_ne_true (hk.2 k)
  refine ⟨_,rfl,?_⟩
  refine Cm 1 st [(1,vI id),Ml 2 0,(4,vI 0),(9,vB true)] [(2,0,cSV s)] fun _ _ => ?_
  exact cxs (Rt ⟨congrArg vI (by rw [goneAt,if_neg hk]),rfl⟩)
 ·replace hk := hk.1 rfl
  refine ⟨_,rfl,?_⟩
  refine Cm 1 st [(1,vI id),Ml 2 0,(4,vI 0),(9,vB false)] [(2,0,cSV s)] fun _ _ => ?_
  refine cxs ?_
  refine ⟨_,rfl,?_⟩
  refine ⟨_,rfl,(ac_impl_EntryOf s id st hR hb).mono ?_⟩
  rintro _ st ⟨e,b,rfl,he,rfl⟩
  rcases b with _|_
  ·iterate 4 refine ⟨_,rfl,?_⟩
   refine Cm 2 st [(1,vI id),Ml 2 0,(4,vI 0),Ml 5 1,(6,vB false)] [(2,0,cSV s),(5,1,[vI e.inc,vI e.rank,vI e.beat,vI e.ver,.string e.data])] fun _ _ => ?_
   refine ⟨_,rfl,?_⟩
   refine Cm 2 st [(1,vI id),Ml 2 0,(4,vI 0),Ml 5 1,(16,vB true)] [(2,0,cSV s),(5,1,[vI e.inc,vI e.rank,vI e.beat,vI e.ver,.string e.data])] fun _ _ => ?_
   refine ⟨_,rfl,?_⟩
   refine ⟨_,rfl,(ac_impl_FloorOf s id st hR hb).mono ?_⟩
   rintro _ st ⟨rfl,rfl⟩
   exact cxs (Rt ⟨congrArg vI (by simp [goneAt,hk,← he]),rfl⟩)
  ·iterate 4 refine ⟨_,rfl,?_⟩
   refine Cm 2 st [(1,vI id),Ml 2 0,(4,vI 0),Ml 5 1,(6,vB true)] [(2,0,cSV s),(5,1,[vI e.inc,vI e.rank,vI e.beat,vI e.ver,.string e.data])] fun _ _ => ?_
   refine ⟨_,rfl,?_⟩
   refine Cm 2 st [(1,vI id),Ml 2 0,(4,vI 0),Ml 5 1,(16,vB false)] [(2,0,cSV s),(5,1,[vI e.inc,vI e.rank,vI e.beat,vI e.ver,.string e.data])] fun _ _ => ?_
   iterate 3 refine ⟨_,rfl,?_⟩
   rintro (_|_) h3
   ·replace h3 : ¬ (e.rank = 1) := beq_eq_false_iff_ne.1 h3
    refine Cm 2 st [(4,vI 0),Ml 5 1,(22,vB false)] [(5,1,[vI e.inc,vI e.rank,vI e.beat,vI e.ver,.string e.data])] fun _ _ => ?_
    refine cxs ?_
    iterate 2 refine ⟨_,rfl,?_⟩
    have hee := (ent_ok hk he).1
    have e30 : IntKind.wrap .i64 (e.inc - 1) = e.inc - 1 := wrap_i64 (by omega) (by omega)
    refine ⟨_,rfl,?_⟩
    exact cxs (Rt ⟨congrArg vI (by simp [goneAt,hk,← he,h3,e30]),rfl⟩)
   ·replace h3 : e.rank = 1 := beq_iff_eq.1 h3
    refine Cm 2 st [(4,vI 0),Ml 5 1,(22,vB true)] [(5,1,[vI e.inc,vI e.rank,vI e.beat,vI e.ver,.string e.data])] fun _ _ => ?_
    iterate 2 refine ⟨_,rfl,?_⟩
    exact cxs (Rt ⟨congrArg vI (by simp [goneAt,hk,← he,h3]),rfl⟩)
theorem ac_spec_GoneAt (s : SV) (id : Int) (st : St) (hR : RdS st s) (hb : bigS s.x) : C 209 [.agg #[vS s.p s.x.items.length,vS s.q s.x.floors.length],vI id] st (fun v s' => v = vI (goneAt s.x id) ∧ s' = st) := by
 refine AC.enterX (i := ⟨[2,5],[2,5,21,24,27],[0,1,2,4,5,6,9,17,23],[]⟩) [] Tryz.func209 rfl rfl (by kernel_rfl) (by kernel_rfl) Tryz.ntmps209 (Lb rfl) rfl ?_
 refine ⟨_,rfl,?_⟩
 refine Cm 1 st [(1,vI id),Ml 2 0,(4,vI 0)] [(2,0,cSV s)] fun _ _ => ?_
 refine ⟨_,rfl,?_⟩
 refine ⟨_,rfl,(ac_spec_StateOk s st hR hb).mono ?_⟩
 rintro _ st ⟨c,rfl,hk,rfl⟩
 rcases c with _|_
 ·replace hk := fun k => Bool.false_ne_true (hk.2 k)
  refine ⟨_,rfl,?_⟩
  refine Cm 1 st [(1,vI id),Ml 2 0,(4,vI 0),(9,vB true)] [(2,0,cSV s)] fun _ _ => ?_
  exact cxs (Rt ⟨congrArg vI (by rw [goneAt,if_neg hk]),rfl⟩)
 ·replace hk := hk.1 rfl
  refine ⟨_,rfl,?_⟩
  refine Cm 1 st [(1,vI id),Ml 2 0,(4,vI 0),(9,vB false)] [(2,0,cSV s)] fun _ _ => ?_
  refine cxs ?_
  refine ⟨_,rfl,?_⟩
  refine ⟨_,rfl,(ac_spec_EntryOf s id st hR hb).mono ?_⟩
  rintro _ st ⟨e,b,rfl,he,rfl⟩
  rcases b with _|_
  ·iterate 4 refine ⟨_,rfl,?_⟩
   refine Cm 2 st [(1,vI id),Ml 2 0,(4,vI 0),Ml 5 1,(6,vB false)] [(2,0,cSV s),(5,1,[vI e.inc,vI e.rank,vI e.beat,vI e.ver,.string e.data])] fun _ _ => ?_
   refine ⟨_,rfl,?_⟩
   refine Cm 2 st [(1,vI id),Ml 2 0,(4,vI 0),Ml 5 1,(17,vB true)] [(2,0,cSV s),(5,1,[vI e.inc,vI e.rank,vI e.beat,vI e.ver,.string e.data])] fun _ _ => ?_
   refine ⟨_,rfl,?_⟩
   refine ⟨_,rfl,(ac_spec_FloorOf s id st hR hb).mono ?_⟩
   rintro _ st ⟨rfl,rfl⟩
   exact cxs (Rt ⟨congrArg vI (by simp [goneAt,hk,← he]),rfl⟩)
  ·iterate 4 refine ⟨_,rfl,?_⟩
   refine Cm 2 st [(1,vI id),Ml 2 0,(4,vI 0),Ml 5 1,(6,vB true)] [(2,0,cSV s),(5,1,[vI e.inc,vI e.rank,vI e.beat,vI e.ver,.string e.data])] fun _ _ => ?_
   refine ⟨_,rfl,?_⟩
   refine Cm 2 st [(1,vI id),Ml 2 0,(4,vI 0),Ml 5 1,(17,vB false)] [(2,0,cSV s),(5,1,[vI e.inc,vI e.rank,vI e.beat,vI e.ver,.string e.data])] fun _ _ => ?_
   refine cxs ?_
   iterate 3 refine ⟨_,rfl,?_⟩
   rintro (_|_) h3
   ·replace h3 : ¬ (e.rank = 0) := beq_eq_false_iff_ne.1 h3
    refine Cm 2 st [(4,vI 0),Ml 5 1,(23,vB false)] [(5,1,[vI e.inc,vI e.rank,vI e.beat,vI e.ver,.string e.data])] fun _ _ => ?_
    refine cxs ?_
    iterate 2 refine ⟨_,rfl,?_⟩
    refine cxs ?_
    have hr := (ent_ok hk he).2.1
    have h4 : e.rank = 1 := by omega
    exact Rt ⟨congrArg vI (by simp [goneAt,hk,← he,h4]),rfl⟩
   ·replace h3 : e.rank = 0 := beq_iff_eq.1 h3
    refine Cm 2 st [(4,vI 0),Ml 5 1,(23,vB true)] [(5,1,[vI e.inc,vI e.rank,vI e.beat,vI e.ver,.string e.data])] fun _ _ => ?_
    iterate 2 refine ⟨_,rfl,?_⟩
    have hee := (ent_ok hk he).1
    have e26 : IntKind.wrap .i64 (e.inc - 1) = e.inc - 1 := wrap_i64 (by omega) (by omega)
    refine ⟨_,rfl,?_⟩
    exact cxs (Rt ⟨congrArg vI (by simp [goneAt,hk,← he,h3,e26]),rfl⟩)
def marksF (g : Int → Int) (i : Nat) : List Flr := (List.range i).filterMap fun (j : Nat) => if g (j : Int) > 0 then some ⟨(j : Int),g (j : Int)⟩ else none
theorem marksF_succ (g : Int → Int) (i : Nat) : marksF g (i + 1) = if g (i : Int) > 0 then marksF g i ++ [⟨(i : Int),g (i : Int)⟩] else marksF g i := by
 unfold marksF
 rw [List.range_succ,List.filterMap_append]
 split <;> simp [*]
theorem marksF_len (g : Int → Int) : ∀ i,(marksF g i).length ≤ i
 | 0 => by simp [marksF]
 | i + 1 => by
  have := marksF_len g i
  rw [marksF_succ]
  split <;> simp <;> omega
theorem ac_impl_MarksOf (s : SV) (st : St) (hR : RdS st s) (hb : bigS s.x) : C 52 [.agg #[vS s.p s.x.items.length,vS s.q s.x.floors.length]] st (fun v s' => ∃ q,v = vS q (marksF (goneAt s.x) 5).length ∧ OwnR s' 2 cFlr q (marksF (goneAt s.x) 5) ∧ Pres st s' ∧ New st.next q) := by
 refine AC.enterX (i := ⟨[1],[1],[0,1,2,3,4,5,8,15],[]⟩) [] Tryz.func52 rfl rfl (by kernel_rfl) (by kernel_rfl) Tryz.ntmps52 (Lb rfl) rfl ?_
 refine ⟨_,rfl,?_⟩
 refine Cm 1 st [Ml 1 0,(2,Sn)] [(1,0,cSV s)] fun _ _ => ?_
 refine op_nilK (z := 2) (f := cFlr) rfl rfl rfl rfl (by decide) rfl ?_
 intro q0 s0 hO0 hP0 hN0
 refine cxs ?_
 refine Cm 1 s0 [Ml 1 0,(2,Sn),(3,vS q0 0),(4,vI 0)] [(1,0,cSV s)] fun _ _ => ?_
 refine AW.loopM (fun x : Nat × Option Addr => [(1,vL 1 0 (0)),(3,vS x.2 (marksF (goneAt s.x) x.1).length),(4,vI (x.1 : Int))]) (fun x : Nat × Option Addr => [(1,0,[vS s.p s.x.items.length,vS s.q s.x.floors.length])]) (fun m (x : Nat × Option Addr) st' => m = 5 - x.1 ∧ x.1 ≤ 5 ∧ OwnR st' 2 cFlr x.2 (marksF (goneAt s.x) x.1) ∧ New st.next x.2 ∧ Pres st st') (0,q0) _ ⟨rfl,rfl,rfl,trivial⟩ ⟨rfl,trivial⟩ ⟨rfl,Nat.zero_le _,(show OwnR s0 2 cFlr q0 (marksF (goneAt s.x) 0) from hO0),hN0,hP0⟩ ?_
 rintro m x ρ0 ff gg st' ⟨rfl,hi,hO,hN,hP⟩
 have hml := marksF_len (goneAt s.x) x.1
 refine ⟨_,rfl,?_⟩
 rintro (_|_) h1
 ·replace h1 : ¬ ((x.1 : Int) < 5) := of_decide_eq_false h1
  refine Cm gg st' [Ml 1 0,(3,vS x.2 (marksF (goneAt s.x) x.1).length),(4,vI (x.1 : Int)),(8,vB false)] [(1,0,cSV s)] fun _ _ => ?_
  refine cxs ?_
  refine cxs ?_
  have hil : x.1 = 5 := by omega
  rw [hil] at hO
  exact Rt ⟨x.2,congrArg (fun i => vS x.2 (marksF (goneAt s.x) i).length) hil,hO,hP,hN⟩
 ·replace h1 : (x.1 : Int) < 5 := of_decide_eq_true h1
  refine Cm gg st' [Ml 1 0,(3,vS x.2 (marksF (goneAt s.x) x.1).length),(4,vI (x.1 : Int)),(8,vB true)] [(1,0,cSV s)] fun _ _ => ?_
  refine cxs ?_
  refine ⟨_,Od rfl,?_⟩
  refine ⟨_,rfl,(ac_impl_GoneAt s x.1 st' (hR.pres hP) hb).mono ?_⟩
  rintro _ st' ⟨rfl,rfl⟩
  refine Cm gg st' [Ml 1 0,(3,vS x.2 (marksF (goneAt s.x) x.1).length),(4,vI (x.1 : Int)),(5,vI (goneAt s.x (x.1 : Int))),(8,vB true)] [(1,0,cSV s)] fun _ _ => ?_
  refine ⟨_,rfl,?_⟩
  rintro (_|_) h2
  ·replace h2 : ¬ (goneAt s.x (x.1 : Int) > 0) := of_decide_eq_false h2
   refine Cm gg st' [Ml 1 0,(3,vS x.2 (marksF (goneAt s.x) x.1).length),(4,vI (x.1 : Int)),(5,vI (goneAt s.x (x.1 : Int))),(8,vB true),(15,vB false)] [(1,0,cSV s)] fun _ _ => ?_
   refine cxs ?_
   have e10 : IntKind.wrap .i64 ((x.1 : Int) + 1) = ((x.1 + 1 : Nat) : Int) := (wrap_i64 (by omega) (by omega)).trans (by omega)
   refine ⟨_,rfl,?_⟩
   have hm := marksF_succ (goneAt s.x) x.1
   rw [if_neg h2] at hm
   exact ⟨(x.1 + 1,x.2),5 - (x.1 + 1),by omega,⟨rfl,congrArg (fun l : List Flr => vS x.2 l.length) hm.symm,congrArg (Value.int .i64) e10,trivial⟩,⟨rfl,trivial⟩,rfl,by omega,by rw [hm]; exact hO,hN,hP⟩
  ·replace h2 : goneAt s.x (x.1 : Int) > 0 := of_decide_eq_true h2
   refine Cm gg st' [Ml 1 0,(3,vS x.2 (marksF (goneAt s.x) x.1).length),(4,vI (x.1 : Int)),(5,vI (goneAt s.x (x.1 : Int))),(8,vB true),(15,vB true)] [(1,0,cSV s)] fun _ _ => ?_
   refine ⟨_,rfl,?_⟩
   refine op_one (z := 2) (a := (⟨(x.1 : Int),goneAt s.x (x.1 : Int)⟩ : Flr)) (f := cFlr) rfl rfl rfl rfl rfl (by decide) rfl (Lb rfl) rfl rfl rfl ?_
   refine op_add (z := 2) (st := st') (f := cFlr) (b := 16) (l := marksF (goneAt s.x) x.1) rfl rfl rfl rfl rfl rfl rfl (by decide) len_cFlr rfl rfl rfl (by omega) (by unfold maxLen; omega) hO ?_
   intro q4 s4 hO4 hP4 hN4
   refine Cm gg s4 [Ml 1 0,(3,vS q4 ((marksF (goneAt s.x) x.1).length + 1)),(4,vI (x.1 : Int)),(5,vI (goneAt s.x (x.1 : Int))),(8,vB true),(15,vB true)] [(1,0,cSV s)] fun _ _ => ?_
   have e10 : IntKind.wrap .i64 ((x.1 : Int) + 1) = ((x.1 + 1 : Nat) : Int) := (wrap_i64 (by omega) (by omega)).trans (by omega)
   refine ⟨_,rfl,?_⟩
   have hm := marksF_succ (goneAt s.x) x.1
   rw [if_pos h2] at hm
   exact ⟨(x.1 + 1,q4),5 - (x.1 + 1),by omega,⟨rfl,(show vS q4 ((marksF (goneAt s.x) x.1).length + 1) = vS q4 (marksF (goneAt s.x) (x.1 + 1)).length by rw [hm,List.length_append]; rfl),congrArg (Value.int .i64) e10,trivial⟩,⟨rfl,trivial⟩,rfl,by omega,by rw [hm]; exact hO4,hN4.le hP.1,hP4.pres hP hN⟩
theorem ac_spec_MarksOf (s : SV) (st : St) (hR : RdS st s) (hb : bigS s.x) : C 162 [.agg #[vS s.p s.x.items.length,vS s.q s.x.floors.length]] st (fun v s' => ∃ q,v = vS q (marksF (goneAt s.x) 5).length ∧ OwnR s' 2 cFlr q (marksF (goneAt s.x) 5) ∧ Pres st s' ∧ New st.next q) := by
 refine AC.enterX (i := ⟨[1],[1],[0,1,2,3,4,5,8,15],[]⟩) [] Tryz.func162 rfl rfl (by kernel_rfl) (by kernel_rfl) Tryz.ntmps162 (Lb rfl) rfl ?_
 refine ⟨_,rfl,?_⟩
 refine Cm 1 st [Ml 1 0,(2,Sn)] [(1,0,cSV s)] fun _ _ => ?_
 refine op_nilK (z := 2) (f := cFlr) rfl rfl rfl rfl (by decide) rfl ?_
 intro q0 s0 hO0 hP0 hN0
 refine cxs ?_
 refine Cm 1 s0 [Ml 1 0,(2,Sn),(3,vS q0 0),(4,vI 0)] [(1,0,cSV s)] fun _ _ => ?_
 refine AW.loopM (fun x : Nat × Option Addr => [(1,vL 1 0 (0)),(3,vS x.2 (marksF (goneAt s.x) x.1).length),(4,vI (x.1 : Int))]) (fun x : Nat × Option Addr => [(1,0,[vS s.p s.x.items.length,vS s.q s.x.floors.length])]) (fun m (x : Nat × Option Addr) st' => m = 5 - x.1 ∧ x.1 ≤ 5 ∧ OwnR st' 2 cFlr x.2 (marksF (goneAt s.x) x.1) ∧ New st.next x.2 ∧ Pres st st') (0,q0) _ ⟨rfl,rfl,rfl,trivial⟩ ⟨rfl,trivial⟩ ⟨rfl,Nat.zero_le _,(show OwnR s0 2 cFlr q0 (marksF (goneAt s.x) 0) from hO0),hN0,hP0⟩ ?_
 rintro m x ρ0 ff gg st' ⟨rfl,hi,hO,hN,hP⟩
 have hml := marksF_len (goneAt s.x) x.1
 refine ⟨_,rfl,?_⟩
 rintro (_|_) h1
 ·replace h1 : ¬ ((x.1 : Int) < 5) := of_decide_eq_false h1
  refine Cm gg st' [Ml 1 0,(3,vS x.2 (marksF (goneAt s.x) x.1).length),(4,vI (x.1 : Int)),(8,vB false)] [(1,0,cSV s)] fun _ _ => ?_
  refine cxs ?_
  refine cxs ?_
  have hil : x.1 = 5 := by omega
  rw [hil] at hO
  exact Rt ⟨x.2,congrArg (fun i => vS x.2 (marksF (goneAt s.x) i).length) hil,hO,hP,hN⟩
 ·replace h1 : (x.1 : Int) < 5 := of_decide_eq_true h1
  refine Cm gg st' [Ml 1 0,(3,vS x.2 (marksF (goneAt s.x) x.1).length),(4,vI (x.1 : Int)),(8,vB true)] [(1,0,cSV s)] fun _ _ => ?_
  refine cxs ?_
  refine ⟨_,Od rfl,?_⟩
  refine ⟨_,rfl,(ac_spec_GoneAt s x.1 st' (hR.pres hP) hb).mono ?_⟩
  rintro _ st' ⟨rfl,rfl⟩
  refine Cm gg st' [Ml 1 0,(3,vS x.2 (marksF (goneAt s.x) x.1).length),(4,vI (x.1 : Int)),(5,vI (goneAt s.x (x.1 : Int))),(8,vB true)] [(1,0,cSV s)] fun _ _ => ?_
  refine ⟨_,rfl,?_⟩
  rintro (_|_) h2
  ·replace h2 : ¬ (goneAt s.x (x.1 : Int) > 0) := of_decide_eq_false h2
   refine Cm gg st' [Ml 1 0,(3,vS x.2 (marksF (goneAt s.x) x.1).length),(4,vI (x.1 : Int)),(5,vI (goneAt s.x (x.1 : Int))),(8,vB true),(15,vB false)] [(1,0,cSV s)] fun _ _ => ?_
   refine cxs ?_
   have e10 : IntKind.wrap .i64 ((x.1 : Int) + 1) = ((x.1 + 1 : Nat) : Int) := (wrap_i64 (by omega) (by omega)).trans (by omega)
   refine ⟨_,rfl,?_⟩
   have hm := marksF_succ (goneAt s.x) x.1
   rw [if_neg h2] at hm
   exact ⟨(x.1 + 1,x.2),5 - (x.1 + 1),by omega,⟨rfl,congrArg (fun l : List Flr => vS x.2 l.length) hm.symm,congrArg (Value.int .i64) e10,trivial⟩,⟨rfl,trivial⟩,rfl,by omega,by rw [hm]; exact hO,hN,hP⟩
  ·replace h2 : goneAt s.x (x.1 : Int) > 0 := of_decide_eq_true h2
   refine Cm gg st' [Ml 1 0,(3,vS x.2 (marksF (goneAt s.x) x.1).length),(4,vI (x.1 : Int)),(5,vI (goneAt s.x (x.1 : Int))),(8,vB true),(15,vB true)] [(1,0,cSV s)] fun _ _ => ?_
   refine ⟨_,rfl,?_⟩
   refine op_one (z := 2) (a := (⟨(x.1 : Int),goneAt s.x (x.1 : Int)⟩ : Flr)) (f := cFlr) rfl rfl rfl rfl rfl (by decide) rfl (Lb rfl) rfl rfl rfl ?_
   refine op_add (z := 2) (st := st') (f := cFlr) (b := 16) (l := marksF (goneAt s.x) x.1) rfl rfl rfl rfl rfl rfl rfl (by decide) len_cFlr rfl rfl rfl (by omega) (by unfold maxLen; omega) hO ?_
   intro q4 s4 hO4 hP4 hN4
   refine Cm gg s4 [Ml 1 0,(3,vS q4 ((marksF (goneAt s.x) x.1).length + 1)),(4,vI (x.1 : Int)),(5,vI (goneAt s.x (x.1 : Int))),(8,vB true),(15,vB true)] [(1,0,cSV s)] fun _ _ => ?_
   have e10 : IntKind.wrap .i64 ((x.1 : Int) + 1) = ((x.1 + 1 : Nat) : Int) := (wrap_i64 (by omega) (by omega)).trans (by omega)
   refine ⟨_,rfl,?_⟩
   have hm := marksF_succ (goneAt s.x) x.1
   rw [if_pos h2] at hm
   exact ⟨(x.1 + 1,q4),5 - (x.1 + 1),by omega,⟨rfl,(show vS q4 ((marksF (goneAt s.x) x.1).length + 1) = vS q4 (marksF (goneAt s.x) (x.1 + 1)).length by rw [hm,List.length_append]; rfl),congrArg (Value.int .i64) e10,trivial⟩,⟨rfl,trivial⟩,rfl,by omega,by rw [hm]; exact hO4,hN4.le hP.1,hP4.pres hP hN⟩
abbrev fB : Int → List Value := fun x => [.int .u8 x]
theorem fB_len (x : Int) : (fB x).length = 1 := rfl
def toB (l : List Int) : ByteArray := ⟨(l.map fun x => UInt8.ofNat x.toNat).toArray⟩
theorem abytes_ints : ∀ l : List Int,abytes (l.flatMap fB) = some (l.map fun x => UInt8.ofNat x.toNat)
 | [] => rfl
 | x :: l => by
  rw [List.flatMap_cons]
  show (abytes (l.flatMap fB)).map (UInt8.ofNat x.toNat :: ·) = _
  rw [abytes_ints l]
  rfl
section
variable {P : Program} {ls : List Tmp} {call : ACallT} {o : Oper} {e : Operand → Value} {lo : Lo} {st : St}
theorem op_str {src dst el : TypeId} {x : Operand} {p : Option Addr} {l : List Int} {n : Nat} (ho : o.op = .convert src dst x) (hx : e x = .slice p n n) (hn : n = l.length) (hd : telem P dst = none) (hs : tstr P dst = true) (hse : telem P src = some el) (hi : tint P el = some .u8) (hR : Rows st 1 fB p l) (hl : 0 < l.length) : aoper P ls call o e lo st = some (.string (toB l),lo,st) := by
 obtain ⟨d,op,ty,pos,after,gd⟩ := o
 simp only at ho
 subst ho hn
 rcases hR with rfl | ⟨b,off,blk,rfl,hm,_,hc⟩
 ·cases hl
 ·have h1 := take_rows (f := fB) (z := 1) (l := l) (cs := blk.cells) (off := off) fB_len hc
  rw [Nat.mul_one] at h1
  simp only [aoper,hd,hx,aconv,hs,hse,hi,astring,rdB,hm,Option.map_some,Option.bind_some,h1,flat_len fB_len l,Nat.mul_one,if_true,abytes_ints]
  rfl
theorem op_cat {t ty : TypeId} {x y : Operand} {a b : ByteArray} (ho : o.op = .binOp .add t x y ty) (hx : e x = .string a) (hy : e y = .string b) (hs : a.size + b.size ≤ 140737488355328) : aoper P ls call o e lo st = some (.string (a ++ b),lo,st) := by
 obtain ⟨d,op,tt,pos,after,gd⟩ := o
 simp only at ho
 subst ho
 simp [aoper,rop,hx,hy,abin,astrop,hs]
theorem op_quo {t ty : TypeId} {x y : Operand} {k : IntKind} {a b : Int} (ho : o.op = .binOp .quo t x y ty) (hx : e x = .int k a) (hy : e y = .int k b) (hb : b ≠ 0) : aoper P ls call o e lo st = some (.int k (k.wrap (a.tdiv b)),lo,st) := by
 obtain ⟨d,op,tt,pos,after,gd⟩ := o
 simp only at ho
 subst ho
 simp [aoper,rop,hx,hy,abin,aint,hb]
end
def digF : Nat → Nat → ByteArray → ByteArray
 | 0,_,acc => acc
 | f + 1,n,acc => if n = 0 then acc else digF f (n / 10) (toB [((48 + n % 10 : Nat) : Int)] ++ acc)
def mText (k : Int) : ByteArray := if k ≤ 0 then ⟨#[109,48]⟩ else ⟨#[109]⟩ ++ digF k.toNat k.toNat ⟨#[]⟩
theorem toB_size (l : List Int) : (toB l).size = l.length := by simp [toB,ByteArray.size]
theorem wrap_u8 {i : Int} (h0 : 0 ≤ i) (h : i < 256) : IntKind.wrap .u8 i = i := by
 unfold IntKind.wrap; simp [IntKind.bits,IntKind.signed]; omega
theorem ac_laws_markText (k : Int) (st : St) (h0 : 0 ≤ k) (hk : k ≤ 1099511627776) : C 191 [vI k] st (fun v s => v = .string (mText k) ∧ Pres st s) := by
 refine AC.enterX (i := ⟨[],[],[0,2,3,5,7],[]⟩) [] Tryz.func191 rfl rfl (by kernel_rfl) (by kernel_rfl) Tryz.ntmps191 (Lb rfl) rfl ?_
 refine Cu lo0 st [(0,vI k),(2,.string ⟨#[]⟩)] fun _ => ?_
 refine ⟨_,rfl,?_⟩
 rintro (_|_) h1
 ·replace h1 : ¬ (k ≤ 0) := of_decide_eq_false h1
  refine Cu lo0 st [(0,vI k),(2,.string ⟨#[]⟩),(5,vB false)] fun _ => ?_
  refine cxs ?_
  refine Cu lo0 st [(0,vI k),(2,.string ⟨#[]⟩),(3,.string ⟨#[]⟩)] fun _ => ?_
  refine AW.loop0 (fun x : Nat × Nat × ByteArray => [(0,vI (x.2.1 : Int)),(3,.string x.2.2)]) (fun m (x : Nat × Nat × ByteArray) st' => m = x.1 ∧ x.2.1 ≤ x.1 ∧ digF k.toNat k.toNat ⟨#[]⟩ = digF x.1 x.2.1 x.2.2 ∧ x.2.2.size + x.2.1 ≤ k.toNat ∧ Pres st st') (k.toNat,k.toNat,⟨#[]⟩) _ ⟨congrArg (Value.int .i64) (show k = ((k.toNat : Nat) : Int) by omega),rfl,trivial⟩ rfl ⟨rfl,Nat.le_refl _,rfl,Nat.le_of_eq (Nat.zero_add _),Pres.refl _⟩ ?_
  rintro m x ρ0 st' ⟨rfl,hi,hd,hsz,hP⟩
  refine ⟨_,rfl,?_⟩
  rintro (_|_) h2
  ·replace h2 : ¬ ((x.2.1 : Int) > 0) := of_decide_eq_false h2
   refine Cu lo0 st' [(0,vI (x.2.1 : Int)),(3,.string x.2.2),(7,vB false)] fun _ => ?_
   refine cxs ?_
   have hn0 : x.2.1 = 0 := by omega
   have hd2 : digF k.toNat k.toNat ⟨#[]⟩ = x.2.2 := by rw [hd,hn0]; cases x.1 <;> rfl
   refine ⟨_,op_cat (a := ⟨#[109]⟩) (b := x.2.2) rfl rfl rfl (by show 1 + x.2.2.size ≤ _; omega),?_⟩
   exact cxs (Rt ⟨congrArg Value.string (by rw [mText,if_neg h1,hd2]),hP⟩)
  ·replace h2 : (x.2.1 : Int) > 0 := of_decide_eq_true h2
   refine Cu lo0 st' [(0,vI (x.2.1 : Int)),(3,.string x.2.2),(7,vB true)] fun _ => ?_
   obtain ⟨f,hf⟩ : ∃ f,x.1 = f + 1 := ⟨x.1 - 1,by omega⟩
   rw [hf,digF,if_neg (by omega)] at hd
   have hmod : (x.2.1 : Int).tmod 10 = ((x.2.1 % 10 : Nat) : Int) := by rw [Int.tmod_eq_emod_of_nonneg (by omega)]; omega
   have e10 : IntKind.wrap .i64 (48 + (x.2.1 : Int).tmod 10) = ((48 + x.2.1 % 10 : Nat) : Int) := (wrap_i64 (by omega) (by omega)).trans (by omega)
   have e11 : IntKind.wrap .u8 (IntKind.wrap .i64 (48 + (x.2.1 : Int).tmod 10)) = ((48 + x.2.1 % 10 : Nat) : Int) := by rw [e10]; exact wrap_u8 (by omega) (by omega)
   have hdiv : (x.2.1 : Int).tdiv 10 = ((x.2.1 / 10 : Nat) : Int) := by rw [Int.tdiv_eq_ediv_of_nonneg (by omega)]; omega
   have e17 : IntKind.wrap .i64 ((x.2.1 : Int).tdiv 10) = ((x.2.1 / 10 : Nat) : Int) := by rw [hdiv]; exact wrap_i64 (by omega) (by omega)
   refine cxs ?_
   refine ⟨_,op_rem rfl rfl rfl (by decide),?_⟩
   iterate 2 refine ⟨_,rfl,?_⟩
   refine op_one (z := 1) (a := ((48 + x.2.1 % 10 : Nat) : Int)) (f := fB) (v := .int .u8 ((48 + x.2.1 % 10 : Nat) : Int)) rfl (congrArg (Value.int .u8) e11) rfl rfl rfl Nat.one_pos rfl (Lb rfl) rfl rfl rfl ?_
   refine ⟨_,op_str (l := [((48 + x.2.1 % 10 : Nat) : Int)]) rfl rfl rfl rfl rfl rfl rfl (OwnR.push.rows fB_len) Nat.one_pos,?_⟩
   refine ⟨_,op_cat (a := toB [((48 + x.2.1 % 10 : Nat) : Int)]) (b := x.2.2) rfl rfl rfl (by rw [toB_size]; simp only [List.length_singleton]; omega),?_⟩
   refine Cu lo0 (st'.push 1 ([((48 + x.2.1 % 10 : Nat) : Int)].flatMap fB)) [(0,vI (x.2.1 : Int)),(3,.string (toB [((48 + x.2.1 % 10 : Nat) : Int)] ++ x.2.2)),(7,vB true)] fun _ => ?_
   refine ⟨_,op_quo rfl rfl rfl (by decide),?_⟩
   exact ⟨(f,x.2.1 / 10,toB [((48 + x.2.1 % 10 : Nat) : Int)] ++ x.2.2),f,by omega,⟨congrArg (Value.int .i64) e17,rfl,trivial⟩,rfl,rfl,by simp only; omega,hd,by simp only [ByteArray.size_append,toB_size,List.length_singleton]; omega,hP.trans Pres.push⟩
 ·replace h1 : k ≤ 0 := of_decide_eq_true h1
  refine Cu lo0 st [(0,vI k),(2,.string ⟨#[]⟩),(5,vB true)] fun _ => ?_
  exact cxs (Rt ⟨congrArg Value.string (by rw [mText,if_pos h1]),Pres.refl _⟩)
def mkFlr (k : Int) : Flr := ⟨k,k + 1⟩
def mkItm (k : Int) : Itm := ⟨k,⟨k + 1,k + 2,k + 3,k + 4,mText (k + 5)⟩⟩
def mkRow {α : Type} (mk : Int → α) (z n : Nat) (k : Int) : List α := (List.range n).map fun (j : Nat) => mk (k + (z : Int) * (j : Int))
theorem mkRow_len {α : Type} (mk : Int → α) (z n : Nat) (k : Int) : (mkRow mk z n k).length = n := by simp [mkRow]
theorem mkRow_get {α : Type} {mk : Int → α} {z n : Nat} {k : Int} {j : Nat} {x : α} (h : (mkRow mk z n k)[j]? = some x) : x = mk (k + (z : Int) * (j : Int)) := by
 have hj := (List.getElem?_eq_some_iff.1 h).1
 rw [mkRow_len] at hj
 simp [mkRow,List.getElem?_range hj] at h
 exact h.symm
theorem mkRow_set {α : Type} {mk : Int → α} {z : Nat} {l : List α} {k : Int} {i : Nat} (hi : i < l.length) : (mkRow mk z i k ++ l.drop i).set i (mk (k + (z : Int) * (i : Int))) = mkRow mk z (i + 1) k ++ l.drop (i + 1) := by
 have h1 : mkRow mk z (i + 1) k = mkRow mk z i k ++ [mk (k + (z : Int) * (i : Int))] := by simp [mkRow,List.range_succ]
 rw [List.set_append_right _ _ (by rw [mkRow_len]; exact Nat.le_refl _),mkRow_len,Nat.sub_self,List.drop_eq_getElem_cons hi,List.set_cons_zero,h1]
 simp
theorem set_set {α : Type} (l : List α) (i : Nat) (x y : α) : (l.set i x).set i y = l.set i y := List.set_set ..
theorem getElem?_set_same {α : Type} {l : List α} {i : Nat} {x : α} (h : i < l.length) : (l.set i x)[i]? = some x := List.getElem?_set_self h
theorem ac_laws_markFloorS (p : Option Addr) (l : List Flr) (k : Int) (st : St) (hO : OwnR st 2 cFlr p l) (hs : szOk l.length) (h0 : 0 ≤ k) (hk : k ≤ 549755813888) : C 133 [vS p l.length,vI k] st (fun v s => v = vI (k + 2 * (l.length : Int)) ∧ OwnR s 2 cFlr p (mkRow mkFlr 2 l.length k) ∧ Pr p st s) := by
 have hs : l.length ≤ 1048576 := hs
 refine AC.enterX (i := ⟨[],[],[0,1,4,5,9],[]⟩) [] Tryz.func133 rfl rfl (by kernel_rfl) (by kernel_rfl) Tryz.ntmps133 (Lb rfl) rfl ?_
 refine cxs ?_
 refine Cu lo0 st [(0,vS p l.length),(1,vI k),(4,vI 0),(5,vI 0)] fun _ => ?_
 refine AW.loop0 (fun i : Nat => [(0,vS p l.length),(1,vI (k + 2 * (i : Int))),(5,vI (i : Int))]) (fun m (i : Nat) st' => m = l.length - i ∧ i ≤ l.length ∧ OwnR st' 2 cFlr p (mkRow mkFlr 2 i k ++ l.drop i) ∧ Pr p st st') 0 _ ⟨rfl,congrArg (Value.int .i64) (show k = k + 2 * ((0 : Nat) : Int) by omega),rfl,trivial⟩ rfl ⟨rfl,Nat.zero_le _,by simpa [mkRow] using hO,Pr.refl _ _⟩ ?_
 rintro m i ρ0 st' ⟨rfl,hi,hO0,hP0⟩
 iterate 2 refine ⟨_,rfl,?_⟩
 rintro (_|_) h1
 ·replace h1 : ¬ ((i : Int) < (l.length : Int)) := of_decide_eq_false h1
  refine Cu lo0 st' [(0,vS p l.length),(1,vI (k + 2 * (i : Int))),(5,vI (i : Int)),(9,vB false)] fun _ => ?_
  refine cxs ?_
  refine cxs ?_
  have hil : i = l.length := by omega
  subst hil
  rw [List.drop_length,List.append_nil] at hO0
  exact Rt ⟨rfl,hO0,hP0⟩
 ·replace h1 : (i : Int) < (l.length : Int) := of_decide_eq_true h1
  refine Cu lo0 st' [(0,vS p l.length),(1,vI (k + 2 * (i : Int))),(5,vI (i : Int)),(9,vB true)] fun _ => ?_
  have h1' := Int.ofNat_lt.1 h1
  have hlen : i < (mkRow mkFlr 2 i k ++ l.drop i).length := by rw [List.length_append,mkRow_len,List.length_drop]; omega
  have ⟨a,ha⟩ := hO0.some (by omega)
  obtain ⟨w,hw⟩ : ∃ w,(mkRow mkFlr 2 i k ++ l.drop i)[i]? = some w := ⟨_,List.getElem?_eq_getElem hlen⟩
  have hset := mkRow_set (mk := mkFlr) (z := 2) (k := k) h1'
  refine cxs ?_
  refine ⟨_,op_idx (j := (i : Int)) (n := l.length) (q := ⟨a,0,none⟩) rfl (congrArg (fun u => vS u l.length) ha) rfl rfl rfl (Int.natCast_nonneg _) h1,?_⟩
  refine ⟨_,rfl,?_⟩
  refine op_putc (z := 2) (i := 0) (st := st') (f := cFlr) (j := i) (l := (mkRow mkFlr 2 i k ++ l.drop i)) (w := w) (y := ((⟨(k + 2 * (i : Int)),w.inc⟩ : Flr) : Flr)) (p := p) (d := 0 + i * 2 + 0) rfl rfl (by omega) rfl rfl len_cFlr rfl rfl hw (by decide) rfl hO0 ha ?_
  intro s1 hO1 hP1 hn1
  have hQ1 : Pr p st s1 := hP0.trans hP1
  refine Cu lo0 s1 [(0,vS p l.length),(1,vI (k + 2 * (i : Int))),(5,vI (i : Int)),(9,vB true)] fun _ => ?_
  have e18 : IntKind.wrap .i64 (k + 2 * (i : Int) + 1) = k + 2 * (i : Int) + 1 := (wrap_i64 (by omega) (by omega)).trans (by omega)
  refine ⟨_,rfl,?_⟩
  refine AW.cut lo0 s1 [(0,vS p l.length),(1,vI (k + 2 * (i : Int) + 1)),(5,vI (i : Int)),(9,vB true)] ⟨rfl,congrArg (Value.int .i64) e18,rfl,rfl,trivial⟩ fun _ => ?_
  refine ⟨_,op_idx (j := (i : Int)) (n := l.length) (q := ⟨a,0,none⟩) rfl (congrArg (fun u => vS u l.length) ha) rfl rfl rfl (Int.natCast_nonneg _) h1,?_⟩
  refine ⟨_,rfl,?_⟩
  refine op_putc (z := 2) (i := 1) (st := s1) (f := cFlr) (j := i) (l := ((mkRow mkFlr 2 i k ++ l.drop i).set i (⟨(k + 2 * (i : Int)),w.inc⟩ : Flr))) (w := (⟨(k + 2 * (i : Int)),w.inc⟩ : Flr)) (y := ((⟨(k + 2 * (i : Int)),(k + 2 * (i : Int)) + 1⟩ : Flr) : Flr)) (p := p) (d := 0 + i * 2 + 1) rfl rfl (by omega) rfl rfl len_cFlr rfl rfl (getElem?_set_same hlen) (by decide) rfl hO1 ha ?_
  intro s2 hO2 hP2 hn2
  rw [set_set] at hO2
  have hQ2 : Pr p st s2 := hQ1.trans hP2
  refine Cu lo0 s2 [(0,vS p l.length),(1,vI (k + 2 * (i : Int) + 1)),(5,vI (i : Int)),(9,vB true)] fun _ => ?_
  have e25 : IntKind.wrap .i64 (k + 2 * (i : Int) + 1 + 1) = k + 2 * ((i + 1 : Nat) : Int) := (wrap_i64 (by omega) (by omega)).trans (by omega)
  refine ⟨_,rfl,?_⟩
  refine AW.cut lo0 s2 [(0,vS p l.length),(1,vI (k + 2 * ((i + 1 : Nat) : Int))),(5,vI (i : Int)),(9,vB true)] ⟨rfl,congrArg (Value.int .i64) e25,rfl,rfl,trivial⟩ fun _ => ?_
  have e11 : IntKind.wrap .i64 ((i : Int) + 1) = ((i + 1 : Nat) : Int) := (wrap_i64 (by omega) (by omega)).trans (by omega)
  refine ⟨_,rfl,?_⟩
  exact ⟨i + 1,l.length - (i + 1),by omega,⟨rfl,rfl,congrArg (Value.int .i64) e11,trivial⟩,rfl,rfl,h1',(show OwnR s2 2 cFlr p (mkRow mkFlr 2 (i + 1) k ++ l.drop (i + 1)) by rw [← hset]; exact hO2),hQ2⟩
theorem ac_laws_markItemS (p : Option Addr) (l : List Itm) (k : Int) (st : St) (hO : OwnR st 6 cItm p l) (hs : szOk l.length) (h0 : 0 ≤ k) (hk : k ≤ 549755813888) : C 132 [vS p l.length,vI k] st (fun v s => v = vI (k + 6 * (l.length : Int)) ∧ OwnR s 6 cItm p (mkRow mkItm 6 l.length k) ∧ Pr p st s) := by
 have hs : l.length ≤ 1048576 := hs
 refine AC.enterX (i := ⟨[],[],[0,1,4,5,9],[]⟩) [] Tryz.func132 rfl rfl (by kernel_rfl) (by kernel_rfl) Tryz.ntmps132 (Lb rfl) rfl ?_
 refine cxs ?_
 refine Cu lo0 st [(0,vS p l.length),(1,vI k),(4,vI 0),(5,vI 0)] fun _ => ?_
 refine AW.loop0 (fun i : Nat => [(0,vS p l.length),(1,vI (k + 6 * (i : Int))),(5,vI (i : Int))]) (fun m (i : Nat) st' => m = l.length - i ∧ i ≤ l.length ∧ OwnR st' 6 cItm p (mkRow mkItm 6 i k ++ l.drop i) ∧ Pr p st st') 0 _ ⟨rfl,congrArg (Value.int .i64) (show k = k + 6 * ((0 : Nat) : Int) by omega),rfl,trivial⟩ rfl ⟨rfl,Nat.zero_le _,by simpa [mkRow] using hO,Pr.refl _ _⟩ ?_
 rintro m i ρ0 st' ⟨rfl,hi,hO0,hP0⟩
 iterate 2 refine ⟨_,rfl,?_⟩
 rintro (_|_) h1
 ·replace h1 : ¬ ((i : Int) < (l.length : Int)) := of_decide_eq_false h1
  refine Cu lo0 st' [(0,vS p l.length),(1,vI (k + 6 * (i : Int))),(5,vI (i : Int)),(9,vB false)] fun _ => ?_
  refine cxs ?_
  refine cxs ?_
  have hil : i = l.length := by omega
  subst hil
  rw [List.drop_length,List.append_nil] at hO0
  exact Rt ⟨rfl,hO0,hP0⟩
 ·replace h1 : (i : Int) < (l.length : Int) := of_decide_eq_true h1
  refine Cu lo0 st' [(0,vS p l.length),(1,vI (k + 6 * (i : Int))),(5,vI (i : Int)),(9,vB true)] fun _ => ?_
  have h1' := Int.ofNat_lt.1 h1
  have hlen : i < (mkRow mkItm 6 i k ++ l.drop i).length := by rw [List.length_append,mkRow_len,List.length_drop]; omega
  have ⟨a,ha⟩ := hO0.some (by omega)
  obtain ⟨w,hw⟩ : ∃ w,(mkRow mkItm 6 i k ++ l.drop i)[i]? = some w := ⟨_,List.getElem?_eq_getElem hlen⟩
  have hset := mkRow_set (mk := mkItm) (z := 6) (k := k) h1'
  refine cxs ?_
  refine ⟨_,op_idx (j := (i : Int)) (n := l.length) (q := ⟨a,0,none⟩) rfl (congrArg (fun u => vS u l.length) ha) rfl rfl rfl (Int.natCast_nonneg _) h1,?_⟩
  refine ⟨_,rfl,?_⟩
  refine op_putc (z := 6) (i := 0) (st := st') (f := cItm) (j := i) (l := (mkRow mkItm 6 i k ++ l.drop i)) (w := w) (y := ((⟨(k + 6 * (i : Int)),⟨w.e.inc,w.e.rank,w.e.beat,w.e.ver,w.e.data⟩⟩ : Itm) : Itm)) (p := p) (d := 0 + i * 6 + 0) rfl rfl (by omega) rfl rfl len_cItm rfl rfl hw (by decide) rfl hO0 ha ?_
  intro s1 hO1 hP1 hn1
  have hQ1 : Pr p st s1 := hP0.trans hP1
  refine Cu lo0 s1 [(0,vS p l.length),(1,vI (k + 6 * (i : Int))),(5,vI (i : Int)),(9,vB true)] fun _ => ?_
  have e18 : IntKind.wrap .i64 (k + 6 * (i : Int) + 1) = k + 6 * (i : Int) + 1 := (wrap_i64 (by omega) (by omega)).trans (by omega)
  refine ⟨_,rfl,?_⟩
  refine AW.cut lo0 s1 [(0,vS p l.length),(1,vI (k + 6 * (i : Int) + 1)),(5,vI (i : Int)),(9,vB true)] ⟨rfl,congrArg (Value.int .i64) e18,rfl,rfl,trivial⟩ fun _ => ?_
  refine ⟨_,op_idx (j := (i : Int)) (n := l.length) (q := ⟨a,0,none⟩) rfl (congrArg (fun u => vS u l.length) ha) rfl rfl rfl (Int.natCast_nonneg _) h1,?_⟩
  iterate 2 refine ⟨_,rfl,?_⟩
  refine op_putc (z := 6) (i := 1) (st := s1) (f := cItm) (j := i) (l := ((mkRow mkItm 6 i k ++ l.drop i).set i (⟨(k + 6 * (i : Int)),⟨w.e.inc,w.e.rank,w.e.beat,w.e.ver,w.e.data⟩⟩ : Itm))) (w := (⟨(k + 6 * (i : Int)),⟨w.e.inc,w.e.rank,w.e.beat,w.e.ver,w.e.data⟩⟩ : Itm)) (y := ((⟨(k + 6 * (i : Int)),⟨(k + 6 * (i : Int)) + 1,w.e.rank,w.e.beat,w.e.ver,w.e.data⟩⟩ : Itm) : Itm)) (p := p) (d := 0 + i * 6 + 1) rfl rfl (by omega) rfl rfl len_cItm rfl rfl (getElem?_set_same hlen) (by decide) rfl hO1 ha ?_
  intro s2 hO2 hP2 hn2
  rw [set_set] at hO2
  have hQ2 : Pr p st s2 := hQ1.trans hP2
  refine Cu lo0 s2 [(0,vS p l.length),(1,vI (k + 6 * (i : Int) + 1)),(5,vI (i : Int)),(9,vB true)] fun _ => ?_
  have e26 : IntKind.wrap .i64 (k + 6 * (i : Int) + 1 + 1) = k + 6 * (i : Int) + 2 := (wrap_i64 (by omega) (by omega)).trans (by omega)
  refine ⟨_,rfl,?_⟩
  refine AW.cut lo0 s2 [(0,vS p l.length),(1,vI (k + 6 * (i : Int) + 2)),(5,vI (i : Int)),(9,vB true)] ⟨rfl,congrArg (Value.int .i64) e26,rfl,rfl,trivial⟩ fun _ => ?_
  refine ⟨_,op_idx (j := (i : Int)) (n := l.length) (q := ⟨a,0,none⟩) rfl (congrArg (fun u => vS u l.length) ha) rfl rfl rfl (Int.natCast_nonneg _) h1,?_⟩
  iterate 2 refine ⟨_,rfl,?_⟩
  refine op_putc (z := 6) (i := 2) (st := s2) (f := cItm) (j := i) (l := ((mkRow mkItm 6 i k ++ l.drop i).set i (⟨(k + 6 * (i : Int)),⟨(k + 6 * (i : Int)) + 1,w.e.rank,w.e.beat,w.e.ver,w.e.data⟩⟩ : Itm))) (w := (⟨(k + 6 * (i : Int)),⟨(k + 6 * (i : Int)) + 1,w.e.rank,w.e.beat,w.e.ver,w.e.data⟩⟩ : Itm)) (y := ((⟨(k + 6 * (i : Int)),⟨(k + 6 * (i : Int)) + 1,(k + 6 * (i : Int)) + 2,w.e.beat,w.e.ver,w.e.data⟩⟩ : Itm) : Itm)) (p := p) (d := 0 + i * 6 + 2) rfl rfl (by omega) rfl rfl len_cItm rfl rfl (getElem?_set_same hlen) (by decide) rfl hO2 ha ?_
  intro s3 hO3 hP3 hn3
  rw [set_set] at hO3
  have hQ3 : Pr p st s3 := hQ2.trans hP3
  refine Cu lo0 s3 [(0,vS p l.length),(1,vI (k + 6 * (i : Int) + 2)),(5,vI (i : Int)),(9,vB true)] fun _ => ?_
  have e34 : IntKind.wrap .i64 (k + 6 * (i : Int) + 2 + 1) = k + 6 * (i : Int) + 3 := (wrap_i64 (by omega) (by omega)).trans (by omega)
  refine ⟨_,rfl,?_⟩
  refine AW.cut lo0 s3 [(0,vS p l.length),(1,vI (k + 6 * (i : Int) + 3)),(5,vI (i : Int)),(9,vB true)] ⟨rfl,congrArg (Value.int .i64) e34,rfl,rfl,trivial⟩ fun _ => ?_
  refine ⟨_,op_idx (j := (i : Int)) (n := l.length) (q := ⟨a,0,none⟩) rfl (congrArg (fun u => vS u l.length) ha) rfl rfl rfl (Int.natCast_nonneg _) h1,?_⟩
  iterate 2 refine ⟨_,rfl,?_⟩
  refine op_putc (z := 6) (i := 3) (st := s3) (f := cItm) (j := i) (l := ((mkRow mkItm 6 i k ++ l.drop i).set i (⟨(k + 6 * (i : Int)),⟨(k + 6 * (i : Int)) + 1,(k + 6 * (i : Int)) + 2,w.e.beat,w.e.ver,w.e.data⟩⟩ : Itm))) (w := (⟨(k + 6 * (i : Int)),⟨(k + 6 * (i : Int)) + 1,(k + 6 * (i : Int)) + 2,w.e.beat,w.e.ver,w.e.data⟩⟩ : Itm)) (y := ((⟨(k + 6 * (i : Int)),⟨(k + 6 * (i : Int)) + 1,(k + 6 * (i : Int)) + 2,(k + 6 * (i : Int)) + 3,w.e.ver,w.e.data⟩⟩ : Itm) : Itm)) (p := p) (d := 0 + i * 6 + 3) rfl rfl (by omega) rfl rfl len_cItm rfl rfl (getElem?_set_same hlen) (by decide) rfl hO3 ha ?_
  intro s4 hO4 hP4 hn4
  rw [set_set] at hO4
  have hQ4 : Pr p st s4 := hQ3.trans hP4
  refine Cu lo0 s4 [(0,vS p l.length),(1,vI (k + 6 * (i : Int) + 3)),(5,vI (i : Int)),(9,vB true)] fun _ => ?_
  have e42 : IntKind.wrap .i64 (k + 6 * (i : Int) + 3 + 1) = k + 6 * (i : Int) + 4 := (wrap_i64 (by omega) (by omega)).trans (by omega)
  refine ⟨_,rfl,?_⟩
  refine AW.cut lo0 s4 [(0,vS p l.length),(1,vI (k + 6 * (i : Int) + 4)),(5,vI (i : Int)),(9,vB true)] ⟨rfl,congrArg (Value.int .i64) e42,rfl,rfl,trivial⟩ fun _ => ?_
  refine ⟨_,op_idx (j := (i : Int)) (n := l.length) (q := ⟨a,0,none⟩) rfl (congrArg (fun u => vS u l.length) ha) rfl rfl rfl (Int.natCast_nonneg _) h1,?_⟩
  iterate 2 refine ⟨_,rfl,?_⟩
  refine op_putc (z := 6) (i := 4) (st := s4) (f := cItm) (j := i) (l := ((mkRow mkItm 6 i k ++ l.drop i).set i (⟨(k + 6 * (i : Int)),⟨(k + 6 * (i : Int)) + 1,(k + 6 * (i : Int)) + 2,(k + 6 * (i : Int)) + 3,w.e.ver,w.e.data⟩⟩ : Itm))) (w := (⟨(k + 6 * (i : Int)),⟨(k + 6 * (i : Int)) + 1,(k + 6 * (i : Int)) + 2,(k + 6 * (i : Int)) + 3,w.e.ver,w.e.data⟩⟩ : Itm)) (y := ((⟨(k + 6 * (i : Int)),⟨(k + 6 * (i : Int)) + 1,(k + 6 * (i : Int)) + 2,(k + 6 * (i : Int)) + 3,(k + 6 * (i : Int)) + 4,w.e.data⟩⟩ : Itm) : Itm)) (p := p) (d := 0 + i * 6 + 4) rfl rfl (by omega) rfl rfl len_cItm rfl rfl (getElem?_set_same hlen) (by decide) rfl hO4 ha ?_
  intro s5 hO5 hP5 hn5
  rw [set_set] at hO5
  have hQ5 : Pr p st s5 := hQ4.trans hP5
  refine Cu lo0 s5 [(0,vS p l.length),(1,vI (k + 6 * (i : Int) + 4)),(5,vI (i : Int)),(9,vB true)] fun _ => ?_
  have e50 : IntKind.wrap .i64 (k + 6 * (i : Int) + 4 + 1) = k + 6 * (i : Int) + 5 := (wrap_i64 (by omega) (by omega)).trans (by omega)
  refine ⟨_,rfl,?_⟩
  refine AW.cut lo0 s5 [(0,vS p l.length),(1,vI (k + 6 * (i : Int) + 5)),(5,vI (i : Int)),(9,vB true)] ⟨rfl,congrArg (Value.int .i64) e50,rfl,rfl,trivial⟩ fun _ => ?_
  refine ⟨_,rfl,(ac_laws_markText (k + 6 * (i : Int) + 5) s5 (by omega) (by omega)).mono ?_⟩
  rintro _ sT ⟨rfl,hPT⟩
  have hO5T := hPT.ownR hO5
  refine ⟨_,op_idx (j := (i : Int)) (n := l.length) (q := ⟨a,0,none⟩) rfl (congrArg (fun u => vS u l.length) ha) rfl rfl rfl (Int.natCast_nonneg _) h1,?_⟩
  iterate 2 refine ⟨_,rfl,?_⟩
  refine op_putc (z := 6) (i := 5) (st := sT) (f := cItm) (j := i) (l := ((mkRow mkItm 6 i k ++ l.drop i).set i (⟨(k + 6 * (i : Int)),⟨(k + 6 * (i : Int)) + 1,(k + 6 * (i : Int)) + 2,(k + 6 * (i : Int)) + 3,(k + 6 * (i : Int)) + 4,w.e.data⟩⟩ : Itm))) (w := (⟨(k + 6 * (i : Int)),⟨(k + 6 * (i : Int)) + 1,(k + 6 * (i : Int)) + 2,(k + 6 * (i : Int)) + 3,(k + 6 * (i : Int)) + 4,w.e.data⟩⟩ : Itm)) (y := ((⟨(k + 6 * (i : Int)),⟨(k + 6 * (i : Int)) + 1,(k + 6 * (i : Int)) + 2,(k + 6 * (i : Int)) + 3,(k + 6 * (i : Int)) + 4,mText ((k + 6 * (i : Int)) + 5)⟩⟩ : Itm) : Itm)) (p := p) (d := 0 + i * 6 + 5) rfl rfl (by omega) rfl rfl len_cItm rfl rfl (getElem?_set_same hlen) (by decide) rfl hO5T ha ?_
  intro s6 hO6 hP6 hn6
  rw [set_set] at hO6
  have hQ6 : Pr p st s6 := (hQ5.trans (Pres.pr hPT)).trans hP6
  refine Cu lo0 s6 [(0,vS p l.length),(1,vI (k + 6 * (i : Int) + 5)),(5,vI (i : Int)),(9,vB true)] fun _ => ?_
  have e59 : IntKind.wrap .i64 (k + 6 * (i : Int) + 5 + 1) = k + 6 * ((i + 1 : Nat) : Int) := (wrap_i64 (by omega) (by omega)).trans (by omega)
  refine ⟨_,rfl,?_⟩
  refine AW.cut lo0 s6 [(0,vS p l.length),(1,vI (k + 6 * ((i + 1 : Nat) : Int))),(5,vI (i : Int)),(9,vB true)] ⟨rfl,congrArg (Value.int .i64) e59,rfl,rfl,trivial⟩ fun _ => ?_
  have e11 : IntKind.wrap .i64 ((i : Int) + 1) = ((i + 1 : Nat) : Int) := (wrap_i64 (by omega) (by omega)).trans (by omega)
  refine ⟨_,rfl,?_⟩
  exact ⟨i + 1,l.length - (i + 1),by omega,⟨rfl,rfl,congrArg (Value.int .i64) e11,trivial⟩,rfl,rfl,h1',(show OwnR s6 6 cItm p (mkRow mkItm 6 (i + 1) k ++ l.drop (i + 1)) by rw [← hset]; exact hO6),hQ6⟩
theorem ac_laws_heldFloorS (p : Option Addr) (n : Nat) (k : Int) (st : St) (hR : Rows st 2 cFlr p (mkRow mkFlr 2 n k)) (hs : szOk n) (h0 : 0 ≤ k) (hk : k ≤ 549755813888) : C 141 [vS p n,vI k] st (fun v s => v = vI (k + 2 * (n : Int)) ∧ Pres st s) := by
 have hs : n ≤ 1048576 := hs
 refine AC.enterX (i := ⟨[],[],[0,1,4,5,9,18,27],[]⟩) [] Tryz.func141 rfl rfl (by kernel_rfl) (by kernel_rfl) Tryz.ntmps141 (Lb rfl) rfl ?_
 refine cxs ?_
 refine Cu lo0 st [(0,vS p n),(1,vI k),(4,vI 0),(5,vI 0)] fun _ => ?_
 refine AW.loop0 (fun i : Nat => [(0,vS p n),(1,vI (k + 2 * (i : Int))),(5,vI (i : Int))]) (fun m (i : Nat) st' => m = n - i ∧ i ≤ n ∧ Pres st st') 0 _ ⟨rfl,congrArg (Value.int .i64) (show k = k + 2 * ((0 : Nat) : Int) by omega),rfl,trivial⟩ rfl ⟨rfl,Nat.zero_le _,Pres.refl _⟩ ?_
 rintro m i ρ0 st' ⟨rfl,hi,hP⟩
 iterate 2 refine ⟨_,rfl,?_⟩
 rintro (_|_) h1
 ·replace h1 : ¬ ((i : Int) < (n : Int)) := of_decide_eq_false h1
  refine Cu lo0 st' [(0,vS p n),(1,vI (k + 2 * (i : Int))),(5,vI (i : Int)),(9,vB false)] fun _ => ?_
  refine cxs ?_
  refine cxs ?_
  have hil : i = n := by omega
  subst hil
  exact Rt ⟨rfl,hP⟩
 ·replace h1 : (i : Int) < (n : Int) := of_decide_eq_true h1
  refine Cu lo0 st' [(0,vS p n),(1,vI (k + 2 * (i : Int))),(5,vI (i : Int)),(9,vB true)] fun _ => ?_
  have h1' := Int.ofNat_lt.1 h1
  have ⟨b1,o1,k1,x,hpe,hx,hm1,hc1,hb1⟩ := (hP.rows hR).atB (j := i) (by rw [mkRow_len]; exact h1')
  have hx := mkRow_get hx
  have hc1 : (k1.cells.drop (o1 + i * 2)).take 2 = cFlr (mkFlr (k + 2 * (i : Int))) := by rw [hc1,hx]; rfl
  refine cxs ?_
  refine ⟨_,op_idx (j := (i : Int)) (n := n) (q := ⟨b1,o1,none⟩) rfl (congrArg (fun u => vS u n) hpe) rfl rfl rfl (Int.natCast_nonneg _) h1,?_⟩
  refine ⟨_,rfl,?_⟩
  refine ⟨_,op_ldc (i := 0) rfl rfl rfl rfl hm1 hc1 rfl rfl,?_⟩
  refine ⟨_,rfl,?_⟩
  rintro (_|_) h18
  rotate_left
  ·exact absurd (rfl) (bne_iff_ne.1 h18)
  refine Cu lo0 st' [(0,vS p n),(1,vI (k + 2 * (i : Int))),(5,vI (i : Int)),(9,vB true),(18,vB false)] fun _ => ?_
  refine cxs ?_
  have e20 : IntKind.wrap .i64 (k + 2 * (i : Int) + 1) = k + 2 * (i : Int) + 1 := (wrap_i64 (by omega) (by omega)).trans (by omega)
  refine ⟨_,rfl,?_⟩
  refine AW.cut lo0 st' [(0,vS p n),(1,vI (k + 2 * (i : Int) + 1)),(5,vI (i : Int)),(9,vB true),(18,vB false)] ⟨rfl,congrArg (Value.int .i64) e20,rfl,rfl,rfl,trivial⟩ fun _ => ?_
  refine ⟨_,op_idx (j := (i : Int)) (n := n) (q := ⟨b1,o1,none⟩) rfl (congrArg (fun u => vS u n) hpe) rfl rfl rfl (Int.natCast_nonneg _) h1,?_⟩
  refine ⟨_,rfl,?_⟩
  refine ⟨_,op_ldc (i := 1) rfl rfl rfl rfl hm1 hc1 rfl rfl,?_⟩
  refine ⟨_,rfl,?_⟩
  rintro (_|_) h27
  rotate_left
  ·exact absurd (rfl) (bne_iff_ne.1 h27)
  refine Cu lo0 st' [(0,vS p n),(1,vI (k + 2 * (i : Int) + 1)),(5,vI (i : Int)),(9,vB true),(18,vB false),(27,vB false)] fun _ => ?_
  refine cxs ?_
  have e29 : IntKind.wrap .i64 (k + 2 * (i : Int) + 1 + 1) = k + 2 * ((i + 1 : Nat) : Int) := (wrap_i64 (by omega) (by omega)).trans (by omega)
  refine ⟨_,rfl,?_⟩
  refine AW.cut lo0 st' [(0,vS p n),(1,vI (k + 2 * ((i + 1 : Nat) : Int))),(5,vI (i : Int)),(9,vB true),(18,vB false),(27,vB false)] ⟨rfl,congrArg (Value.int .i64) e29,rfl,rfl,rfl,rfl,trivial⟩ fun _ => ?_
  have e11 : IntKind.wrap .i64 ((i : Int) + 1) = ((i + 1 : Nat) : Int) := (wrap_i64 (by omega) (by omega)).trans (by omega)
  refine ⟨_,rfl,?_⟩
  exact ⟨i + 1,n - (i + 1),by omega,⟨rfl,rfl,congrArg (Value.int .i64) e11,trivial⟩,rfl,rfl,h1',hP⟩
theorem ac_laws_heldItemS (p : Option Addr) (n : Nat) (k : Int) (st : St) (hR : Rows st 6 cItm p (mkRow mkItm 6 n k)) (hs : szOk n) (h0 : 0 ≤ k) (hk : k ≤ 549755813888) : C 140 [vS p n,vI k] st (fun v s => v = vI (k + 6 * (n : Int)) ∧ Pres st s) := by
 have hs : n ≤ 1048576 := hs
 refine AC.enterX (i := ⟨[],[],[0,1,4,5,9,18,28,38,48,58,69],[]⟩) [(19,[7],[5])] Tryz.func140 rfl rfl (by kernel_rfl) (by kernel_rfl) Tryz.ntmps140 (Lb rfl) rfl ?_
 refine cxs ?_
 refine Cu lo0 st [(0,vS p n),(1,vI k),(4,vI 0),(5,vI 0)] fun _ => ?_
 refine AW.loop0 (fun i : Nat => [(0,vS p n),(1,vI (k + 6 * (i : Int))),(5,vI (i : Int))]) (fun m (i : Nat) st' => m = n - i ∧ i ≤ n ∧ Pres st st') 0 _ ⟨rfl,congrArg (Value.int .i64) (show k = k + 6 * ((0 : Nat) : Int) by omega),rfl,trivial⟩ rfl ⟨rfl,Nat.zero_le _,Pres.refl _⟩ ?_
 rintro m i ρ0 st' ⟨rfl,hi,hP⟩
 iterate 2 refine ⟨_,rfl,?_⟩
 rintro (_|_) h1
 ·replace h1 : ¬ ((i : Int) < (n : Int)) := of_decide_eq_false h1
  refine Cu lo0 st' [(0,vS p n),(1,vI (k + 6 * (i : Int))),(5,vI (i : Int)),(9,vB false)] fun _ => ?_
  refine cxs ?_
  refine cxs ?_
  have hil : i = n := by omega
  subst hil
  exact Rt ⟨rfl,hP⟩
 ·replace h1 : (i : Int) < (n : Int) := of_decide_eq_true h1
  refine Cu lo0 st' [(0,vS p n),(1,vI (k + 6 * (i : Int))),(5,vI (i : Int)),(9,vB true)] fun _ => ?_
  have h1' := Int.ofNat_lt.1 h1
  have ⟨b1,o1,k1,x,hpe,hx,hm1,hc1,hb1⟩ := (hP.rows hR).atB (j := i) (by rw [mkRow_len]; exact h1')
  have hx := mkRow_get hx
  have hc1 : (k1.cells.drop (o1 + i * 6)).take 6 = cItm (mkItm (k + 6 * (i : Int))) := by rw [hc1,hx]; rfl
  refine cxs ?_
  refine ⟨_,op_idx (j := (i : Int)) (n := n) (q := ⟨b1,o1,none⟩) rfl (congrArg (fun u => vS u n) hpe) rfl rfl rfl (Int.natCast_nonneg _) h1,?_⟩
  refine ⟨_,rfl,?_⟩
  refine ⟨_,op_ldc (i := 0) rfl rfl rfl rfl hm1 hc1 rfl rfl,?_⟩
  refine ⟨_,rfl,?_⟩
  rintro (_|_) h18
  rotate_left
  ·exact absurd (rfl) (bne_iff_ne.1 h18)
  refine Cu lo0 st' [(0,vS p n),(1,vI (k + 6 * (i : Int))),(5,vI (i : Int)),(9,vB true),(18,vB false)] fun _ => ?_
  refine cxs ?_
  have e20 : IntKind.wrap .i64 (k + 6 * (i : Int) + 1) = k + 6 * (i : Int) + 1 := (wrap_i64 (by omega) (by omega)).trans (by omega)
  refine ⟨_,rfl,?_⟩
  refine AW.cut lo0 st' [(0,vS p n),(1,vI (k + 6 * (i : Int) + 1)),(5,vI (i : Int)),(9,vB true),(18,vB false)] ⟨rfl,congrArg (Value.int .i64) e20,rfl,rfl,rfl,trivial⟩ fun _ => ?_
  refine ⟨_,op_idx (j := (i : Int)) (n := n) (q := ⟨b1,o1,none⟩) rfl (congrArg (fun u => vS u n) hpe) rfl rfl rfl (Int.natCast_nonneg _) h1,?_⟩
  iterate 2 refine ⟨_,rfl,?_⟩
  refine ⟨_,op_ldc (i := 1) rfl rfl rfl rfl hm1 hc1 rfl rfl,?_⟩
  refine ⟨_,rfl,?_⟩
  rintro (_|_) h28
  rotate_left
  ·exact absurd (rfl) (bne_iff_ne.1 h28)
  refine Cu lo0 st' [(0,vS p n),(1,vI (k + 6 * (i : Int) + 1)),(5,vI (i : Int)),(9,vB true),(18,vB false),(28,vB false)] fun _ => ?_
  refine cxs ?_
  have e30 : IntKind.wrap .i64 (k + 6 * (i : Int) + 1 + 1) = k + 6 * (i : Int) + 2 := (wrap_i64 (by omega) (by omega)).trans (by omega)
  refine ⟨_,rfl,?_⟩
  refine AW.cut lo0 st' [(0,vS p n),(1,vI (k + 6 * (i : Int) + 2)),(5,vI (i : Int)),(9,vB true),(18,vB false),(28,vB false)] ⟨rfl,congrArg (Value.int .i64) e30,rfl,rfl,rfl,rfl,trivial⟩ fun _ => ?_
  refine ⟨_,op_idx (j := (i : Int)) (n := n) (q := ⟨b1,o1,none⟩) rfl (congrArg (fun u => vS u n) hpe) rfl rfl rfl (Int.natCast_nonneg _) h1,?_⟩
  iterate 2 refine ⟨_,rfl,?_⟩
  refine ⟨_,op_ldc (i := 2) rfl rfl rfl rfl hm1 hc1 rfl rfl,?_⟩
  refine ⟨_,rfl,?_⟩
  rintro (_|_) h38
  rotate_left
  ·exact absurd (rfl) (bne_iff_ne.1 h38)
  refine Cu lo0 st' [(0,vS p n),(1,vI (k + 6 * (i : Int) + 2)),(5,vI (i : Int)),(9,vB true),(18,vB false),(28,vB false),(38,vB false)] fun _ => ?_
  refine cxs ?_
  have e40 : IntKind.wrap .i64 (k + 6 * (i : Int) + 2 + 1) = k + 6 * (i : Int) + 3 := (wrap_i64 (by omega) (by omega)).trans (by omega)
  refine ⟨_,rfl,?_⟩
  refine AW.cut lo0 st' [(0,vS p n),(1,vI (k + 6 * (i : Int) + 3)),(5,vI (i : Int)),(9,vB true),(18,vB false),(28,vB false),(38,vB false)] ⟨rfl,congrArg (Value.int .i64) e40,rfl,rfl,rfl,rfl,rfl,trivial⟩ fun _ => ?_
  refine ⟨_,op_idx (j := (i : Int)) (n := n) (q := ⟨b1,o1,none⟩) rfl (congrArg (fun u => vS u n) hpe) rfl rfl rfl (Int.natCast_nonneg _) h1,?_⟩
  iterate 2 refine ⟨_,rfl,?_⟩
  refine ⟨_,op_ldc (i := 3) rfl rfl rfl rfl hm1 hc1 rfl rfl,?_⟩
  refine ⟨_,rfl,?_⟩
  rintro (_|_) h48
  rotate_left
  ·exact absurd (rfl) (bne_iff_ne.1 h48)
  refine Cu lo0 st' [(0,vS p n),(1,vI (k + 6 * (i : Int) + 3)),(5,vI (i : Int)),(9,vB true),(18,vB false),(28,vB false),(38,vB false),(48,vB false)] fun _ => ?_
  refine cxs ?_
  have e50 : IntKind.wrap .i64 (k + 6 * (i : Int) + 3 + 1) = k + 6 * (i : Int) + 4 := (wrap_i64 (by omega) (by omega)).trans (by omega)
  refine ⟨_,rfl,?_⟩
  refine AW.cut lo0 st' [(0,vS p n),(1,vI (k + 6 * (i : Int) + 4)),(5,vI (i : Int)),(9,vB true),(18,vB false),(28,vB false),(38,vB false),(48,vB false)] ⟨rfl,congrArg (Value.int .i64) e50,rfl,rfl,rfl,rfl,rfl,rfl,trivial⟩ fun _ => ?_
  refine ⟨_,op_idx (j := (i : Int)) (n := n) (q := ⟨b1,o1,none⟩) rfl (congrArg (fun u => vS u n) hpe) rfl rfl rfl (Int.natCast_nonneg _) h1,?_⟩
  iterate 2 refine ⟨_,rfl,?_⟩
  refine ⟨_,op_ldc (i := 4) rfl rfl rfl rfl hm1 hc1 rfl rfl,?_⟩
  refine ⟨_,rfl,?_⟩
  rintro (_|_) h58
  rotate_left
  ·exact absurd (rfl) (bne_iff_ne.1 h58)
  refine Cu lo0 st' [(0,vS p n),(1,vI (k + 6 * (i : Int) + 4)),(5,vI (i : Int)),(9,vB true),(18,vB false),(28,vB false),(38,vB false),(48,vB false),(58,vB false)] fun _ => ?_
  refine cxs ?_
  have e60 : IntKind.wrap .i64 (k + 6 * (i : Int) + 4 + 1) = k + 6 * (i : Int) + 5 := (wrap_i64 (by omega) (by omega)).trans (by omega)
  refine ⟨_,rfl,?_⟩
  refine AW.cut lo0 st' [(0,vS p n),(1,vI (k + 6 * (i : Int) + 5)),(5,vI (i : Int)),(9,vB true),(18,vB false),(28,vB false),(38,vB false),(48,vB false),(58,vB false)] ⟨rfl,congrArg (Value.int .i64) e60,rfl,rfl,rfl,rfl,rfl,rfl,rfl,trivial⟩ fun _ => ?_
  refine ⟨_,op_idx (j := (i : Int)) (n := n) (q := ⟨b1,o1,none⟩) rfl (congrArg (fun u => vS u n) hpe) rfl rfl rfl (Int.natCast_nonneg _) h1,?_⟩
  iterate 2 refine ⟨_,rfl,?_⟩
  refine ⟨_,op_ldc (i := 5) rfl rfl rfl rfl hm1 hc1 rfl rfl,?_⟩
  refine ⟨ld_lt rfl rfl hb1,?_⟩
  refine ⟨_,rfl,(ac_laws_markText (k + 6 * (i : Int) + 5) st' (by omega) (by omega)).mono ?_⟩
  rintro _ sT ⟨rfl,hPT⟩
  refine ⟨hPT.2,?_⟩
  refine ⟨_,rfl,?_⟩
  rintro (_|_) h69
  rotate_left
  ·exact absurd (rfl) (str_ne h69)
  refine Cu lo0 sT [(0,vS p n),(1,vI (k + 6 * (i : Int) + 5)),(5,vI (i : Int)),(9,vB true),(18,vB false),(28,vB false),(38,vB false),(48,vB false),(58,vB false),(69,vB false)] fun _ => ?_
  refine cxs ?_
  have e71 : IntKind.wrap .i64 (k + 6 * (i : Int) + 5 + 1) = k + 6 * ((i + 1 : Nat) : Int) := (wrap_i64 (by omega) (by omega)).trans (by omega)
  refine ⟨_,rfl,?_⟩
  refine AW.cut lo0 sT [(0,vS p n),(1,vI (k + 6 * ((i + 1 : Nat) : Int))),(5,vI (i : Int)),(9,vB true),(18,vB false),(28,vB false),(38,vB false),(48,vB false),(58,vB false),(69,vB false)] ⟨rfl,congrArg (Value.int .i64) e71,rfl,rfl,rfl,rfl,rfl,rfl,rfl,rfl,trivial⟩ fun _ => ?_
  have e11 : IntKind.wrap .i64 ((i : Int) + 1) = ((i + 1 : Nat) : Int) := (wrap_i64 (by omega) (by omega)).trans (by omega)
  refine ⟨_,rfl,?_⟩
  exact ⟨i + 1,n - (i + 1),by omega,⟨rfl,rfl,congrArg (Value.int .i64) e11,trivial⟩,rfl,rfl,h1',hP.trans hPT⟩
theorem len_cSV (s : SV) : (cSV s).length = 2 := rfl
def RdL (st : St) (p : Option Addr) (l : List SV) : Prop := Rows st 2 cSV p l ∧ ∀ s ∈ l,RdS st s
abbrev pcL (p : Option Addr) (l : List SV) : List Pc := pcR 2 cSV p l :: l.flatMap pcS
theorem RdL.pres {st st' : St} {p : Option Addr} {l : List SV} (h : RdL st p l) (k : Pres st st') : RdL st' p l := ⟨k.rows h.1,fun s hs => (h.2 s hs).pres k⟩
theorem OwnP.louter {st : St} {p : Option Addr} {l : List SV} {m : List Pc} (h : OwnP st (pcR 2 cSV p l :: m)) : OwnR st 2 cSV p l := pc_own (by decide) len_cSV (h.1 _ (List.mem_cons_self ..))
theorem OwnP.sub {st : St} {l m : List Pc} (h : OwnP st l) (hs : m.Sublist l) : OwnP st m := ⟨fun c hc => h.1 c (hs.subset hc),h.2.sublist hs⟩
theorem OwnP.state {st : St} {l : List SV} {s : SV} (h : OwnP st (l.flatMap pcS)) (hs : s ∈ l) : OwnP st (pcS s) := by
 obtain ⟨i,hi⟩ := List.getElem?_of_mem hs
 rw [(split_at' hi).1,List.flatMap_append,List.flatMap_cons] at h
 exact OwnP.left (OwnP.right h)
theorem OwnP.rdL {st : St} {p : Option Addr} {l : List SV} (h : OwnP st (pcL p l)) : RdL st p l := ⟨h.louter.rows len_cSV,fun s hs => (h.tail.state hs).rdS⟩
def szL (l : List SV) : Nat := l.length + sumOf (fun s => szSta s.x) l
def bigL (l : List SV) : Prop := szOk l.length ∧ ∀ s ∈ l,bigS s.x
def maxL (l : List SV) : Prop := l.length ≤ maxLen ∧ ∀ s ∈ l,maxS s.x
theorem sz_bigL {l : List SV} (h : szL l ≤ 1048576) : bigL l := by
 unfold szL at h
 refine ⟨by unfold szOk; omega,fun s hs => sz_bigS ?_⟩
 have := sumOf_mem (f := fun s : SV => szSta s.x) hs
 omega
theorem ac_laws_szStateS (p : Option Addr) (l : List SV) (n : Int) (st : St) (hR : RdL st p l) (h0 : 0 ≤ n) (hn : n ≤ 1048576) (hm : maxL l) : C 179 [vS p l.length,vI n] st (fun v s => ∃ r,v = vI r ∧ r ≤ n ∧ (0 ≤ r → r + (szL l : Int) = n) ∧ s = st) := by
 have hm1 : l.length ≤ 9223372036854775807 := hm.1
 refine AC.enterX (i := ⟨[],[],[0,1,4,5,11,15,25],[]⟩) [] Tryz.func179 rfl rfl (by kernel_rfl) (by kernel_rfl) Tryz.ntmps179 (Lb rfl) rfl ?_
 refine Cu lo0 st [(0,vS p l.length),(1,vI n),(4,vI 0)] fun _ => ?_
 refine ⟨_,rfl,?_⟩
 have e9 : IntKind.wrap .i64 (n - (l.length : Int)) = n - (l.length : Int) := wrap_i64 (by omega) (by omega)
 refine ⟨_,rfl,?_⟩
 refine AW.cut lo0 st [(0,vS p l.length),(1,vI (n - (l.length : Int))),(4,vI 0)] ⟨rfl,congrArg (Value.int .i64) e9,rfl,trivial⟩ fun _ => ?_
 refine ⟨_,rfl,?_⟩
 rintro (_|_) h1
 ·replace h1 : ¬ (n - (l.length : Int) < 0) := of_decide_eq_false h1
  refine Cu lo0 st [(0,vS p l.length),(1,vI (n - (l.length : Int))),(4,vI 0),(11,vB false)] fun _ => ?_
  refine cxs ?_
  refine Cu lo0 st [(0,vS p l.length),(1,vI (n - (l.length : Int))),(4,vI 0),(5,vI 0)] fun _ => ?_
  refine AW.loop0 (fun x : Nat × Int => [(0,vS p l.length),(1,vI x.2),(5,vI (x.1 : Int))]) (fun m (x : Nat × Int) st' => m = l.length - x.1 ∧ x.1 ≤ l.length ∧ 0 ≤ x.2 ∧ x.2 + (l.length : Int) + (sumOf (fun s => szSta s.x) (l.take x.1) : Int) = n ∧ st = st') (0,n - (l.length : Int)) _ ⟨rfl,rfl,rfl,trivial⟩ rfl ⟨rfl,Nat.zero_le _,by omega,by simp [sumOf],rfl⟩ ?_
  rintro m x ρ0 st' ⟨rfl,hi,hx0,hx1,rfl⟩
  iterate 2 refine ⟨_,rfl,?_⟩
  rintro (_|_) h2
  ·replace h2 : ¬ ((x.1 : Int) < (l.length : Int)) := of_decide_eq_false h2
   refine Cu lo0 st [(0,vS p l.length),(1,vI x.2),(5,vI (x.1 : Int)),(15,vB false)] fun _ => ?_
   refine cxs ?_
   refine cxs ?_
   have hil : x.1 = l.length := by omega
   exact Rt ⟨x.2,rfl,by omega,fun _ => by rw [hil,List.take_length] at hx1; unfold szL; omega,rfl⟩
  ·replace h2 : (x.1 : Int) < (l.length : Int) := of_decide_eq_true h2
   refine Cu lo0 st [(0,vS p l.length),(1,vI x.2),(5,vI (x.1 : Int)),(15,vB true)] fun _ => ?_
   have h2' := Int.ofNat_lt.1 h2
   have ⟨b1,o1,k1,r,hpe,hr1,hm1,hc1⟩ := hR.1.at h2'
   have hmem := List.mem_of_getElem? hr1
   have hct := sumOf_take (f := fun s : SV => szSta s.x) hr1
   refine cxs ?_
   refine ⟨_,op_idx (j := (x.1 : Int)) (n := l.length) (q := ⟨b1,o1,none⟩) rfl (congrArg (fun u => vS u l.length) hpe) rfl rfl rfl (Int.natCast_nonneg _) h2,?_⟩
   refine ⟨_,op_lda rfl rfl rfl rfl rfl hm1 hc1 rfl,?_⟩
   refine ⟨_,rfl,(ac_laws_szState r x.2 st (hR.2 r hmem) hx0 (by omega) (hm.2 r hmem)).mono ?_⟩
   rintro _ st ⟨y,rfl,hy,hz,rfl⟩
   refine Cu lo0 st [(0,vS p l.length),(1,vI y),(5,vI (x.1 : Int)),(15,vB true)] fun _ => ?_
   refine ⟨_,rfl,?_⟩
   rintro (_|_) h3
   ·replace h3 : ¬ (y < 0) := of_decide_eq_false h3
    refine Cu lo0 st [(0,vS p l.length),(1,vI y),(5,vI (x.1 : Int)),(15,vB true),(25,vB false)] fun _ => ?_
    refine cxs ?_
    have e17 : IntKind.wrap .i64 ((x.1 : Int) + 1) = ((x.1 + 1 : Nat) : Int) := (wrap_i64 (by omega) (by omega)).trans (by omega)
    refine ⟨_,rfl,?_⟩
    exact ⟨(x.1 + 1,y),l.length - (x.1 + 1),by omega,⟨rfl,rfl,congrArg (Value.int .i64) e17,trivial⟩,rfl,rfl,h2',by omega,by have := hz (by omega); simp only; omega,rfl⟩
   ·replace h3 : y < 0 := of_decide_eq_true h3
    refine Cu lo0 st [(0,vS p l.length),(1,vI y),(5,vI (x.1 : Int)),(15,vB true),(25,vB true)] fun _ => ?_
    exact cxs (Rt ⟨-1,rfl,by omega,fun h => absurd h (by omega),rfl⟩)
 ·replace h1 : n - (l.length : Int) < 0 := of_decide_eq_true h1
  refine Cu lo0 st [(0,vS p l.length),(1,vI (n - (l.length : Int))),(4,vI 0),(11,vB true)] fun _ => ?_
  exact cxs (Rt ⟨-1,rfl,by omega,fun h => absurd h (by omega),rfl⟩)
abbrev zSV : SV := ⟨none,none,⟨[],[]⟩⟩
theorem ac_laws_toStateS (p : Option Addr) (l : List SV) (st : St) (hR : RdL st p l) (hb : bigL l) : C 182 [vS p l.length] st (fun v s => ∃ q u,v = vS q l.length ∧ u.map (·.x) = l.map (·.x) ∧ OwnP s (pcL q u) ∧ NewP st.next (pcL q u) ∧ Pres st s) := by
 have hs : l.length ≤ 1048576 := hb.1
 refine AC.enterX (i := ⟨[],[],[0,2,3,4,11],[]⟩) [] Tryz.func182 rfl rfl (by kernel_rfl) (by kernel_rfl) Tryz.ntmps182 (Lb rfl) rfl ?_
 refine Cu lo0 st [(0,vS p l.length),(2,Sn)] fun _ => ?_
 refine ⟨_,rfl,?_⟩
 refine op_mkK (z := 2) (f := cSV) (a := zSV) (b := 48) (i := l.length) rfl rfl rfl rfl rfl rfl rfl rfl rfl (by decide) rfl rfl (by omega) (by omega) ?_
 intro q s1 hO hP hN
 have hO : OwnP s1 [pcR 2 cSV q (List.replicate l.length zSV)] := OwnP.one (own_pc hO)
 refine cxs ?_
 refine Cu lo0 s1 [(0,vS p l.length),(2,Sn),(3,vS q l.length),(4,vI 0)] fun _ => ?_
 refine AW.loop0 (fun x : Nat × List SV => [(0,vS p l.length),(3,vS q l.length),(4,vI (x.1 : Int))]) (fun m (x : Nat × List SV) st' => m = l.length - x.1 ∧ x.1 ≤ l.length ∧ x.2.map (·.x) = (l.take x.1).map (·.x) ∧ OwnP st' (pcR 2 cSV q (x.2 ++ List.replicate (l.length - x.1) zSV) :: x.2.flatMap pcS) ∧ NewP st.next (pcL q x.2) ∧ Pres st st') (0,[]) _ ⟨rfl,rfl,rfl,trivial⟩ rfl ⟨rfl,Nat.zero_le _,rfl,hO,NewP.cons hN NewP.nil,hP⟩ ?_
 rintro m x ρ0 st' ⟨rfl,hi,hl,hO',hN',hP'⟩
 iterate 2 refine ⟨_,rfl,?_⟩
 rintro (_|_) h1
 ·replace h1 : ¬ ((x.1 : Int) < (l.length : Int)) := of_decide_eq_false h1
  refine Cu lo0 st' [(0,vS p l.length),(3,vS q l.length),(4,vI (x.1 : Int)),(11,vB false)] fun _ => ?_
  refine cxs ?_
  refine cxs ?_
  have hil : x.1 = l.length := by omega
  rw [hil,Nat.sub_self,List.replicate_zero,List.append_nil] at hO'
  exact Rt ⟨q,x.2,rfl,by rw [hl,hil,List.take_length],hO',hN',hP'⟩
 ·replace h1 : (x.1 : Int) < (l.length : Int) := of_decide_eq_true h1
  refine Cu lo0 st' [(0,vS p l.length),(3,vS q l.length),(4,vI (x.1 : Int)),(11,vB true)] fun _ => ?_
  have h1' := Int.ofNat_lt.1 h1
  have ⟨b1,o1,k1,r,hpe,hr1,hm1,hc1⟩ := (hR.pres hP').1.at h1'
  have hmem := List.mem_of_getElem? hr1
  obtain ⟨d1,d2,d3⟩ := split_at' hr1
  have hxl : x.2.length = x.1 := by have := congrArg List.length hl; simp at this; omega
  obtain ⟨n1,hn1⟩ : ∃ n1,l.length - x.1 = n1 + 1 := ⟨l.length - x.1 - 1,by omega⟩
  refine cxs ?_
  refine ⟨_,op_idx (j := (x.1 : Int)) (n := l.length) (q := ⟨b1,o1,none⟩) rfl (congrArg (fun u => vS u l.length) hpe) rfl rfl rfl (Int.natCast_nonneg _) h1,?_⟩
  refine ⟨_,op_lda rfl rfl rfl rfl rfl hm1 hc1 rfl,?_⟩
  refine ⟨_,rfl,(ac_laws_toState r st' ((hR.pres hP').2 r hmem) (hb.2 r hmem)).mono ?_⟩
  rintro _ s2 ⟨y,rfl,hy,hO2,hN2,hP2⟩
  have hA := OwnP.join hO' hP2 hO2 hN2
  have hlen : x.1 < (x.2 ++ List.replicate (l.length - x.1) zSV).length := by rw [List.length_append,List.length_replicate]; omega
  have hout : OwnR s2 2 cSV q (x.2 ++ List.replicate (l.length - x.1) zSV) := (hO'.pres hP2).louter
  have ⟨a,ha⟩ := hout.some (by omega)
  refine ⟨_,op_idx (j := (x.1 : Int)) (n := l.length) (q := ⟨a,0,none⟩) rfl (congrArg (fun u => vS u l.length) ha) rfl rfl rfl (Int.natCast_nonneg _) h1,?_⟩
  refine op_put (z := 2) (st := s2) (f := cSV) (j := x.1) (l := x.2 ++ List.replicate (l.length - x.1) zSV) (y := y) (p := q) (d := 0 + x.1 * 2) rfl rfl (Nat.zero_add _) rfl rfl len_cSV rfl rfl hlen hout ha ?_
  intro s5 hO5 hP5 hn5
  refine Cu lo0 s5 [(0,vS p l.length),(3,vS q l.length),(4,vI (x.1 : Int)),(11,vB true)] fun _ => ?_
  have hset : (x.2 ++ List.replicate (l.length - x.1) zSV).set x.1 y = (x.2 ++ [y]) ++ List.replicate (l.length - (x.1 + 1)) zSV := by
   rw [hn1,show l.length - (x.1 + 1) = n1 by omega,List.replicate_succ,List.set_append_right _ _ (by omega),show x.1 - x.2.length = 0 by omega,List.set_cons_zero]
   simp
  rw [hset] at hO5
  have hB : OwnP s5 (pcR 2 cSV q ((x.2 ++ [y]) ++ List.replicate (l.length - (x.1 + 1)) zSV) :: (x.2.flatMap pcS ++ pcS y)) :=
   OwnP.update (l := []) (m := x.2.flatMap pcS ++ pcS y) (c := pcR 2 cSV q (x.2 ++ List.replicate (l.length - x.1) zSV)) (d := pcR 2 cSV q ((x.2 ++ [y]) ++ List.replicate (l.length - (x.1 + 1)) zSV)) hA hP5 (own_pc hO5) rfl
  have hB : OwnP s5 (pcR 2 cSV q ((x.2 ++ [y]) ++ List.replicate (l.length - (x.1 + 1)) zSV) :: (x.2 ++ [y]).flatMap pcS) := by rw [List.flatMap_append,List.flatMap_singleton]; exact hB
  have e13 : IntKind.wrap .i64 ((x.1 : Int) + 1) = ((x.1 + 1 : Nat) : Int) := (wrap_i64 (by omega) (by omega)).trans (by omega)
  refine ⟨_,rfl,?_⟩
  refine ⟨(x.1 + 1,x.2 ++ [y]),l.length - (x.1 + 1),by omega,⟨rfl,rfl,congrArg (Value.int .i64) e13,trivial⟩,rfl,rfl,h1',?_,hB,?_,?_⟩
  ·rw [List.map_append,hl,d2,List.map_append]; simp [hy]
  ·refine NewP.cons hN ?_
   rw [List.flatMap_append,List.flatMap_singleton]
   exact NewP.app (fun c hc => hN' c (List.mem_cons_of_mem _ hc)) (hN2.le hP'.1)
  ·exact hP5.pres (hP'.trans hP2) hN
theorem ac_laws_eqStateS (p q : Option Addr) (a b : List SV) (st : St) (hA : RdL st p a) (hB : RdL st q b) (hb : bigL a) : C 185 [vS p a.length,vS q b.length] st (fun v s => ∃ x,v = .bool x ∧ (x = true ↔ a.map (·.x) = b.map (·.x)) ∧ s = st) := by
 have hs : a.length ≤ 1048576 := hb.1
 refine AC.enterX (i := ⟨[],[],[0,1,4,5,10,14,26],[]⟩) [(6,[],[])] Tryz.func185 rfl rfl (by kernel_rfl) (by kernel_rfl) Tryz.ntmps185 (Lb rfl) rfl ?_
 refine Cu lo0 st [(0,vS p a.length),(1,vS q b.length),(4,vB false)] fun _ => ?_
 iterate 3 refine ⟨_,rfl,?_⟩
 rintro (_|_) h1
 ·replace h1 : (a.length : Int) = (b.length : Int) := bne_eq_false_iff_eq.1 h1
  refine Cu lo0 st [(0,vS p a.length),(1,vS q b.length),(4,vB false),(10,vB false)] fun _ => ?_
  refine cxs ?_
  refine Cu lo0 st [(0,vS p a.length),(1,vS q b.length),(4,vB false),(5,vI 0)] fun _ => ?_
  refine AW.loop0 (fun i : Nat => [(0,vS p a.length),(1,vS q b.length),(4,vB false),(5,vI (i : Int))]) (fun m (i : Nat) st' => m = a.length - i ∧ i ≤ a.length ∧ (∀ (j : Nat) x y,j < i → a[j]? = some x → b[j]? = some y → x.x = y.x) ∧ st = st') 0 _ ⟨rfl,rfl,rfl,rfl,trivial⟩ rfl ⟨rfl,Nat.zero_le _,fun j x y h => absurd h (Nat.not_lt_zero _),rfl⟩ ?_
  rintro m i ρ0 st' ⟨rfl,hi,heq,rfl⟩
  iterate 2 refine ⟨_,rfl,?_⟩
  rintro (_|_) h2
  ·replace h2 : ¬ ((i : Int) < (a.length : Int)) := of_decide_eq_false h2
   refine Cu lo0 st [(0,vS p a.length),(1,vS q b.length),(4,vB false),(5,vI (i : Int)),(14,vB false)] fun _ => ?_
   refine cxs ?_
   refine cxs ?_
   refine ⟨.inl rfl,_,rfl,true,rfl,⟨fun _ => ?_,fun _ => rfl⟩,rfl⟩
   refine iff_lists (by simp; omega) fun j x y hj hx hy => ?_
   rw [List.getElem?_map] at hx hy
   obtain ⟨u,hu,rfl⟩ := Option.map_eq_some_iff.1 hx
   obtain ⟨v,hv,rfl⟩ := Option.map_eq_some_iff.1 hy
   exact heq j u v (by simp at hj; omega) hu hv
  ·replace h2 : (i : Int) < (a.length : Int) := of_decide_eq_true h2
   refine Cu lo0 st [(0,vS p a.length),(1,vS q b.length),(4,vB false),(5,vI (i : Int)),(14,vB true)] fun _ => ?_
   have h2' := Int.ofNat_lt.1 h2
   have ⟨b1,o1,k1,x,hpe,hx,hm1,hc1,hb1⟩ := hA.1.atB h2'
   have ⟨b2,o2,k2,y,hqe,hy,hm2,hc2,hb2⟩ := hB.1.atB (j := i) (by omega)
   have hxm := List.mem_of_getElem? hx
   have hym := List.mem_of_getElem? hy
   refine cxs ?_
   refine ⟨_,op_idx (j := (i : Int)) (n := a.length) (q := ⟨b1,o1,none⟩) rfl (congrArg (fun u => vS u a.length) hpe) rfl rfl rfl (Int.natCast_nonneg _) h2,?_⟩
   refine ⟨_,op_lda rfl rfl rfl rfl rfl hm1 hc1 rfl,?_⟩
   refine ⟨_,op_idx (j := (i : Int)) (n := b.length) (q := ⟨b2,o2,none⟩) rfl (congrArg (fun u => vS u b.length) hqe) rfl rfl rfl (Int.natCast_nonneg _) (h1 ▸ h2),?_⟩
   refine ⟨_,op_lda rfl rfl rfl rfl rfl hm2 hc2 rfl,?_⟩
   refine ⟨_,rfl,(ac_laws_eqState x y st (hA.2 x hxm) (hB.2 y hym) (hb.2 x hxm)).mono ?_⟩
   rintro _ st ⟨c,rfl,h3,rfl⟩
   rcases c with _|_
   ·replace h3 := fun k => Bool.false_ne_true (h3.2 k)
    refine ⟨_,rfl,?_⟩
    refine Cu lo0 st [(0,vS p a.length),(1,vS q b.length),(4,vB false),(5,vI (i : Int)),(14,vB true),(26,vB true)] fun _ => ?_
    refine cxs ?_
    refine ⟨.inl rfl,_,rfl,false,rfl,⟨fun h => absurd h Bool.false_ne_true,fun h => absurd ?_ h3⟩,rfl⟩
    have h4 : (a.map (·.x))[i]? = some x.x := by rw [List.getElem?_map,hx]; rfl
    rw [h,List.getElem?_map,hy] at h4
    injection h4 with h4
    exact h4.symm
   ·replace h3 := h3.1 rfl
    refine ⟨_,rfl,?_⟩
    refine Cu lo0 st [(0,vS p a.length),(1,vS q b.length),(4,vB false),(5,vI (i : Int)),(14,vB true),(26,vB false)] fun _ => ?_
    refine cxs ?_
    have e16 : IntKind.wrap .i64 ((i : Int) + 1) = ((i + 1 : Nat) : Int) := (wrap_i64 (by omega) (by omega)).trans (by omega)
    refine ⟨_,rfl,?_⟩
    refine ⟨i + 1,a.length - (i + 1),by omega,⟨rfl,rfl,rfl,congrArg (Value.int .i64) e16,trivial⟩,rfl,rfl,h2',fun j u v hj hu hv => ?_,rfl⟩
    rcases Nat.lt_or_ge j i with h | h
    ·exact heq j u v h hu hv
    ·obtain rfl : j = i := by omega
     rw [hx] at hu; rw [hy] at hv
     injection hu with hu; injection hv with hv
     rw [← hu,← hv]; exact h3
 ·replace h1 : ¬ ((a.length : Int) = (b.length : Int)) := bne_iff_ne.1 h1
  refine Cu lo0 st [(0,vS p a.length),(1,vS q b.length),(4,vB false),(10,vB true)] fun _ => ?_
  exact cxs (Rt ⟨false,rfl,⟨fun h => absurd h Bool.false_ne_true,fun h => absurd (by have := congrArg List.length h; simp at this; exact congrArg Nat.cast this) h1⟩,rfl⟩)
structure Lg where
 cap : Int
 frm : Int
 list : List Sta
structure LV where
 cap : Int
 frm : Int
 p : Option Addr
 l : List SV
abbrev LV.x (g : LV) : Lg := ⟨g.cap,g.frm,g.l.map (·.x)⟩
abbrev cLV (g : LV) : List Value := [vI g.cap,vI g.frm,vS g.p g.l.length]
theorem ac_laws_szLog (g : LV) (n : Int) (st : St) (hR : RdL st g.p g.l) (h0 : 0 ≤ n) (hn : n ≤ 1048576) (hm : maxL g.l) : C 106 [.agg #[vI g.cap,vI g.frm,vS g.p g.l.length],vI n] st (fun v s => ∃ r,v = vI r ∧ r ≤ n ∧ (0 ≤ r → r + (szL g.l : Int) = n) ∧ s = st) := by
 refine AC.enterX (i := ⟨[2],[2,5],[0,1,2,4,10],[]⟩) [] Tryz.func106 rfl rfl (by kernel_rfl) (by kernel_rfl) Tryz.ntmps106 (Lb rfl) rfl ?_
 refine ⟨_,rfl,?_⟩
 refine Cm 1 st [(1,vI n),Ml 2 0,(4,vI 0)] [(2,0,[vI g.cap,vI g.frm,vS g.p g.l.length])] fun _ _ => ?_
 iterate 2 refine ⟨_,rfl,?_⟩
 refine ⟨_,rfl,(ac_laws_szStateS g.p g.l n st hR h0 hn hm).mono ?_⟩
 rintro _ st ⟨r,rfl,hr,hz,rfl⟩
 refine Cm 1 st [(1,vI r),(4,vI 0)] [] fun _ _ => ?_
 refine ⟨_,rfl,?_⟩
 rintro (_|_) h1
 ·replace h1 : ¬ (r < 0) := of_decide_eq_false h1
  refine Cm 1 st [(1,vI r),(4,vI 0),(10,vB false)] [] fun _ _ => ?_
  refine cxs ?_
  exact cxs (Rt ⟨r,rfl,hr,hz,rfl⟩)
 ·replace h1 : r < 0 := of_decide_eq_true h1
  refine Cm 1 st [(1,vI r),(4,vI 0),(10,vB true)] [] fun _ _ => ?_
  exact cxs (Rt ⟨-1,rfl,by omega,fun h => absurd h (by omega),rfl⟩)
theorem ac_laws_toLog (g : LV) (st : St) (hR : RdL st g.p g.l) (hb : bigL g.l) : C 113 [.agg #[vI g.cap,vI g.frm,vS g.p g.l.length]] st (fun v s => ∃ u : LV,v = .agg #[vI u.cap,vI u.frm,vS u.p u.l.length] ∧ u.x = g.x ∧ OwnP s (pcL u.p u.l) ∧ NewP st.next (pcL u.p u.l) ∧ Pres st s) := by
 refine AC.enterX (i := ⟨[1,2,3],[1,2,3,4,6,7,9,10,13],[0,1,2,3],[]⟩) [] Tryz.func113 rfl rfl (by kernel_rfl) (by kernel_rfl) Tryz.ntmps113 (Lb rfl) rfl ?_
 iterate 2 refine ⟨_,rfl,?_⟩
 refine Cm 2 st [Ml 1 0,Ml 2 1] [(1,0,[vI g.cap,vI g.frm,vS g.p g.l.length]),(2,1,[vI 0,vI 0,Sn])] fun _ _ => ?_
 refine ⟨_,rfl,?_⟩
 refine Cm 3 st [Ml 1 0,Ml 2 1,Ml 3 2] [(1,0,[vI g.cap,vI g.frm,vS g.p g.l.length]),(2,1,[vI 0,vI 0,Sn]),(3,2,[vI 0,vI 0,Sn])] fun _ _ => ?_
 iterate 4 refine ⟨_,rfl,?_⟩
 refine Cm 3 st [Ml 1 0,Ml 2 1,Ml 3 2] [(1,0,[vI g.cap,vI g.frm,vS g.p g.l.length]),(2,1,[vI 0,vI 0,Sn]),(3,2,[vI g.cap,vI 0,Sn])] fun _ _ => ?_
 iterate 4 refine ⟨_,rfl,?_⟩
 refine Cm 3 st [Ml 1 0,Ml 2 1,Ml 3 2] [(1,0,[vI g.cap,vI g.frm,vS g.p g.l.length]),(2,1,[vI 0,vI 0,Sn]),(3,2,[vI g.cap,vI g.frm,Sn])] fun _ _ => ?_
 iterate 2 refine ⟨_,rfl,?_⟩
 refine ⟨_,rfl,(ac_laws_toStateS g.p g.l st hR hb).mono ?_⟩
 rintro _ s1 ⟨q,u,rfl,hu,hO,hN,hP⟩
 iterate 2 refine ⟨_,rfl,?_⟩
 refine Cm 3 s1 [Ml 2 1,Ml 3 2] [(2,1,[vI 0,vI 0,Sn]),(3,2,[vI g.cap,vI g.frm,vS q g.l.length])] fun _ _ => ?_
 iterate 2 refine ⟨_,rfl,?_⟩
 refine cxs ?_
 have hul : u.length = g.l.length := by have := congrArg List.length hu; simpa using this
 exact Rt ⟨⟨g.cap,g.frm,q,u⟩,congrArg (fun n => Value.agg #[vI g.cap,vI g.frm,vS q n]) hul.symm,by simp only [LV.x,hu],hO,hN,hP⟩
theorem ac_laws_eqLog (a b : LV) (st : St) (hA : RdL st a.p a.l) (hB : RdL st b.p b.l) (hb : bigL a.l) : C 119 [.agg #[vI a.cap,vI a.frm,vS a.p a.l.length],.agg #[vI b.cap,vI b.frm,vS b.p b.l.length]] st (fun v s => ∃ x,v = .bool x ∧ (x = true ↔ a.x = b.x) ∧ s = st) := by
 refine AC.enterX (i := ⟨[2,3],[2,3,5,7,10,12,15,17],[0,1,2,3,4,9,14,20],[]⟩) [] Tryz.func119 rfl rfl (by kernel_rfl) (by kernel_rfl) Tryz.ntmps119 (Lb rfl) rfl ?_
 iterate 2 refine ⟨_,rfl,?_⟩
 refine Cm 2 st [Ml 2 0,Ml 3 1,(4,vB false)] [(2,0,[vI a.cap,vI a.frm,vS a.p a.l.length]),(3,1,[vI b.cap,vI b.frm,vS b.p b.l.length])] fun _ _ => ?_
 iterate 5 refine ⟨_,rfl,?_⟩
 rintro (_|_) h1
 ·replace h1 : a.cap = b.cap := bne_eq_false_iff_eq.1 h1
  refine Cm 2 st [Ml 2 0,Ml 3 1,(4,vB false),(9,vB false)] [(2,0,[vI a.cap,vI a.frm,vS a.p a.l.length]),(3,1,[vI b.cap,vI b.frm,vS b.p b.l.length])] fun _ _ => ?_
  refine cxs ?_
  iterate 5 refine ⟨_,rfl,?_⟩
  rintro (_|_) h2
  ·replace h2 : a.frm = b.frm := bne_eq_false_iff_eq.1 h2
   refine Cm 2 st [Ml 2 0,Ml 3 1,(4,vB false),(14,vB false)] [(2,0,[vI a.cap,vI a.frm,vS a.p a.l.length]),(3,1,[vI b.cap,vI b.frm,vS b.p b.l.length])] fun _ _ => ?_
   refine cxs ?_
   iterate 4 refine ⟨_,rfl,?_⟩
   refine ⟨_,rfl,(ac_laws_eqStateS a.p b.p a.l b.l st hA hB hb).mono ?_⟩
   rintro _ st ⟨c,rfl,h3,rfl⟩
   rcases c with _|_
   ·replace h3 := fun k => Bool.false_ne_true (h3.2 k)
    refine ⟨_,rfl,?_⟩
    refine Cm 2 st [(4,vB false),(20,vB true)] [] fun _ _ => ?_
    exact cxs (Rt ⟨false,rfl,⟨fun h => absurd h Bool.false_ne_true,fun h => absurd (congrArg Lg.list h) h3⟩,rfl⟩)
   ·replace h3 := h3.1 rfl
    refine ⟨_,rfl,?_⟩
    refine Cm 2 st [(4,vB false),(20,vB false)] [] fun _ _ => ?_
    refine cxs ?_
    exact cxs (Rt ⟨true,rfl,⟨fun _ => by simp only [LV.x,h1,h2,h3],fun _ => rfl⟩,rfl⟩)
  ·replace h2 : ¬ (a.frm = b.frm) := bne_iff_ne.1 h2
   refine Cm 2 st [Ml 2 0,Ml 3 1,(4,vB false),(14,vB true)] [(2,0,[vI a.cap,vI a.frm,vS a.p a.l.length]),(3,1,[vI b.cap,vI b.frm,vS b.p b.l.length])] fun _ _ => ?_
   exact cxs (Rt ⟨false,rfl,⟨fun h => absurd h Bool.false_ne_true,fun h => absurd (congrArg Lg.frm h) h2⟩,rfl⟩)
 ·replace h1 : ¬ (a.cap = b.cap) := bne_iff_ne.1 h1
  refine Cm 2 st [Ml 2 0,Ml 3 1,(4,vB false),(9,vB true)] [(2,0,[vI a.cap,vI a.frm,vS a.p a.l.length]),(3,1,[vI b.cap,vI b.frm,vS b.p b.l.length])] fun _ _ => ?_
  exact cxs (Rt ⟨false,rfl,⟨fun h => absurd h Bool.false_ne_true,fun h => absurd (congrArg Lg.cap h) h1⟩,rfl⟩)
def logOk (g : Lg) : Prop := (1 ≤ g.cap ∧ g.cap ≤ 8) ∧ (g.list.length : Int) ≤ g.cap ∧ (0 ≤ g.frm ∧ g.frm ≤ 100000) ∧ g.frm + (g.list.length : Int) ≤ 100000 ∧ ∀ s ∈ g.list,stateOk s
theorem states_of {l : List SV} {P : Sta → Prop} (h : ∀ s ∈ l.map (·.x),P s) {i : Nat} {s : SV} (hs : l[i]? = some s) : P s.x := h _ (List.mem_map_of_mem (List.mem_of_getElem? hs))
theorem states_to {l : List SV} {P : Sta → Prop} (h : ∀ (j : Nat) s,l[j]? = some s → P s.x) : ∀ s ∈ l.map (·.x),P s := fun s hs => by
 obtain ⟨r,hr,rfl⟩ := List.mem_map.1 hs
 obtain ⟨i,hi⟩ := List.getElem?_of_mem hr
 exact h i r hi
theorem ac_spec_LogOk (g : LV) (st : St) (hR : RdL st g.p g.l) (hb : bigL g.l) : C 75 [.agg #[vI g.cap,vI g.frm,vS g.p g.l.length]] st (fun v s => ∃ x,v = .bool x ∧ (x = true ↔ logOk g.x) ∧ s = st) := by
 have hs : g.l.length ≤ 1048576 := hb.1
 have hgl : g.x.list.length = g.l.length := List.length_map _
 refine AC.enterX (i := ⟨[1],[1,4,9,12,17,23,25,32,38],[0,1,2,3,30,35,44],[]⟩) [] Tryz.func75 rfl rfl (by kernel_rfl) (by kernel_rfl) Tryz.ntmps75 (Lb rfl) rfl ?_
 refine ⟨_,rfl,?_⟩
 refine Cm 1 st [Ml 1 0,(2,vB false)] [(1,0,[vI g.cap,vI g.frm,vS g.p g.l.length])] fun _ _ => ?_
 iterate 2 refine ⟨_,rfl,?_⟩
 refine ⟨_,rfl,(ac_spec_l1In g.cap 1 8 st).mono ?_⟩
 rintro _ st ⟨a,rfl,h1,rfl⟩
 rcases a with _|_
 ·replace h1 := of_decide_eq_false h1.symm
  iterate 4 refine ⟨_,rfl,?_⟩
  refine Cm 1 st [Ml 1 0,(2,vB false),(30,vB true)] [(1,0,[vI g.cap,vI g.frm,vS g.p g.l.length])] fun _ _ => ?_
  exact cxs (Rt ⟨false,rfl,⟨fun h => absurd h Bool.false_ne_true,fun h => absurd h.1 h1⟩,rfl⟩)
 ·replace h1 := of_decide_eq_true h1.symm
  iterate 7 refine ⟨_,rfl,?_⟩
  rintro (_|_) h2
  ·replace h2 : ¬ ((g.l.length : Int) > g.cap) := of_decide_eq_false h2
   iterate 3 refine ⟨_,rfl,?_⟩
   refine ⟨_,rfl,(ac_spec_l1In g.frm 0 100000 st).mono ?_⟩
   rintro _ st ⟨b,rfl,h3,rfl⟩
   rcases b with _|_
   ·replace h3 := of_decide_eq_false h3.symm
    iterate 3 refine ⟨_,rfl,?_⟩
    refine Cm 1 st [Ml 1 0,(2,vB false),(30,vB true)] [(1,0,[vI g.cap,vI g.frm,vS g.p g.l.length])] fun _ _ => ?_
    exact cxs (Rt ⟨false,rfl,⟨fun h => absurd h Bool.false_ne_true,fun h => absurd h.2.2.1 h3⟩,rfl⟩)
   ·replace h3 := of_decide_eq_true h3.symm
    iterate 9 refine ⟨_,rfl,?_⟩
    rintro (_|_) h4
    ·replace h4 : ¬ (IntKind.wrap .i64 (g.frm + (g.l.length : Int)) > 100000) := of_decide_eq_false h4
     refine ⟨_,rfl,?_⟩
     refine Cm 1 st [Ml 1 0,(2,vB false),(30,vB false)] [(1,0,[vI g.cap,vI g.frm,vS g.p g.l.length])] fun _ _ => ?_
     have e28 : IntKind.wrap .i64 (g.frm + (g.l.length : Int)) = g.frm + (g.l.length : Int) := wrap_i64 (by omega) (by omega)
     rw [e28] at h4
     refine cxs ?_
     refine Cm 1 st [Ml 1 0,(2,vB false),(3,vI 0)] [(1,0,[vI g.cap,vI g.frm,vS g.p g.l.length])] fun _ _ => ?_
     refine AW.loopM (fun i : Nat => [(1,vL 1 0 (0)),(3,vI (i : Int))]) (fun i : Nat => [(1,0,[vI g.cap,vI g.frm,vS g.p g.l.length])]) (fun m (i : Nat) st' => m = g.l.length - i ∧ i ≤ g.l.length ∧ (∀ (j : Nat) s,j < i → g.l[j]? = some s → stateOk s.x) ∧ st = st') 0 _ ⟨rfl,rfl,trivial⟩ ⟨rfl,trivial⟩ ⟨rfl,Nat.zero_le _,fun j s h => absurd h (Nat.not_lt_zero _),rfl⟩ ?_
     rintro m i ρ0 ff gg st' ⟨rfl,hi,hok,rfl⟩
     refine ⟨_,rfl,?_⟩
     refine ⟨_,Od rfl,?_⟩
     iterate 2 refine ⟨_,rfl,?_⟩
     rintro (_|_) h5
     ·replace h5 : ¬ ((i : Int) < (g.l.length : Int)) := of_decide_eq_false h5
      refine Cm gg st [Ml 1 0,(3,vI (i : Int)),(35,vB false)] [(1,0,[vI g.cap,vI g.frm,vS g.p g.l.length])] fun _ _ => ?_
      refine cxs ?_
      refine cxs ?_
      refine ⟨.inl rfl,_,rfl,true,rfl,⟨fun _ => ⟨h1,by rw [hgl]; show (g.l.length : Int) ≤ g.cap; omega,h3,by rw [hgl]; show g.frm + (g.l.length : Int) ≤ 100000; omega,states_to fun j s hs => hok j s (by have := (List.getElem?_eq_some_iff.1 hs).1; omega) hs⟩,fun _ => rfl⟩,rfl⟩
     ·replace h5 : (i : Int) < (g.l.length : Int) := of_decide_eq_true h5
      refine Cm gg st [Ml 1 0,(3,vI (i : Int)),(35,vB true)] [(1,0,[vI g.cap,vI g.frm,vS g.p g.l.length])] fun _ _ => ?_
      have h5' := Int.ofNat_lt.1 h5
      have ⟨b1,o1,k1,r,hpe,hr1,hm1,hc1⟩ := hR.1.at h5'
      have hmem := List.mem_of_getElem? hr1
      refine cxs ?_
      refine ⟨_,rfl,?_⟩
      refine ⟨_,Od rfl,?_⟩
      refine ⟨_,op_idx (j := (i : Int)) (n := g.l.length) (q := ⟨b1,o1,none⟩) rfl (congrArg (fun u => vS u g.l.length) hpe) rfl rfl rfl (Int.natCast_nonneg _) h5,?_⟩
      refine ⟨_,op_lda rfl rfl rfl rfl rfl hm1 hc1 rfl,?_⟩
      refine ⟨_,rfl,(ac_spec_StateOk r st (hR.2 r hmem) (hb.2 r hmem)).mono ?_⟩
      rintro _ st ⟨c,rfl,h6,rfl⟩
      rcases c with _|_
      ·replace h6 := fun k => Bool.false_ne_true (h6.2 k)
       refine ⟨_,rfl,?_⟩
       refine Cm gg st [Ml 1 0,(3,vI (i : Int)),(35,vB true),(44,vB true)] [(1,0,[vI g.cap,vI g.frm,vS g.p g.l.length])] fun _ _ => ?_
       exact cxs (Rt ⟨false,rfl,⟨fun h => absurd h Bool.false_ne_true,fun h => absurd (states_of h.2.2.2.2 hr1) h6⟩,rfl⟩)
      ·replace h6 := h6.1 rfl
       refine ⟨_,rfl,?_⟩
       refine Cm gg st [Ml 1 0,(3,vI (i : Int)),(35,vB true),(44,vB false)] [(1,0,[vI g.cap,vI g.frm,vS g.p g.l.length])] fun _ _ => ?_
       refine cxs ?_
       have e37 : IntKind.wrap .i64 ((i : Int) + 1) = ((i + 1 : Nat) : Int) := (wrap_i64 (by omega) (by omega)).trans (by omega)
       refine ⟨_,rfl,?_⟩
       refine ⟨i + 1,g.l.length - (i + 1),by omega,⟨rfl,congrArg (Value.int .i64) e37,trivial⟩,⟨rfl,trivial⟩,rfl,h5',fun j s hj hs => ?_,rfl⟩
       rcases Nat.lt_or_ge j i with h | h
       ·exact hok j s h hs
       ·obtain rfl : j = i := by omega
        rw [hr1] at hs
        injection hs with hs
        rw [← hs]; exact h6
    ·replace h4 : IntKind.wrap .i64 (g.frm + (g.l.length : Int)) > 100000 := of_decide_eq_true h4
     refine ⟨_,rfl,?_⟩
     refine Cm 1 st [Ml 1 0,(2,vB false),(30,vB true)] [(1,0,[vI g.cap,vI g.frm,vS g.p g.l.length])] fun _ _ => ?_
     have e28 : IntKind.wrap .i64 (g.frm + (g.l.length : Int)) = g.frm + (g.l.length : Int) := wrap_i64 (by omega) (by omega)
     rw [e28] at h4
     exact cxs (Rt ⟨false,rfl,⟨fun h => absurd h Bool.false_ne_true,fun h => absurd h.2.2.2.1 (by rw [hgl]; show ¬ g.frm + (g.l.length : Int) ≤ 100000; omega)⟩,rfl⟩)
  ·replace h2 : (g.l.length : Int) > g.cap := of_decide_eq_true h2
   iterate 3 refine ⟨_,rfl,?_⟩
   refine Cm 1 st [Ml 1 0,(2,vB false),(30,vB true)] [(1,0,[vI g.cap,vI g.frm,vS g.p g.l.length])] fun _ _ => ?_
   exact cxs (Rt ⟨false,rfl,⟨fun h => absurd h Bool.false_ne_true,fun h => absurd h.2.1 (by rw [hgl]; show ¬ (g.l.length : Int) ≤ g.cap; omega)⟩,rfl⟩)
theorem ac_impl_LogOk (g : LV) (st : St) (hR : RdL st g.p g.l) (hb : bigL g.l) : C 64 [.agg #[vI g.cap,vI g.frm,vS g.p g.l.length]] st (fun v s => ∃ x,v = .bool x ∧ (x = true ↔ logOk g.x) ∧ s = st) := by
 have hs : g.l.length ≤ 1048576 := hb.1
 have hgl : g.x.list.length = g.l.length := List.length_map _
 refine AC.enterX (i := ⟨[1,4],[1,4,5,16,20,23,28,33,35],[0,1,2,4,6,7,8,9,14],[]⟩) [] Tryz.func64 rfl rfl (by kernel_rfl) (by kernel_rfl) Tryz.ntmps64 (Lb rfl) rfl ?_
 refine ⟨_,rfl,?_⟩
 refine Cm 1 st [Ml 1 0,(2,vB false)] [(1,0,[vI g.cap,vI g.frm,vS g.p g.l.length])] fun _ _ => ?_
 iterate 3 refine ⟨_,rfl,?_⟩
 refine Cm 1 st [Ml 1 0,(2,vB false),(6,vS g.p g.l.length),(7,vI (g.l.length)),(8,vI 0)] [(1,0,[vI g.cap,vI g.frm,vS g.p g.l.length])] fun _ _ => ?_
 refine AW.loopM (fun i : Nat => [(1,vL 1 0 (0)),(6,vS g.p g.l.length),(7,vI (g.l.length : Int)),(8,vI (i : Int))]) (fun i : Nat => [(1,0,[vI g.cap,vI g.frm,vS g.p g.l.length])]) (fun m (i : Nat) st' => m = g.l.length - i ∧ i ≤ g.l.length ∧ (∀ (j : Nat) s,j < i → g.l[j]? = some s → stateOk s.x) ∧ st = st') 0 _ ⟨rfl,rfl,rfl,rfl,trivial⟩ ⟨rfl,trivial⟩ ⟨rfl,Nat.zero_le _,fun j s h => absurd h (Nat.not_lt_zero _),rfl⟩ ?_
 rintro m i ρ0 ff gg st' ⟨rfl,hi,hok,rfl⟩
 refine ⟨_,rfl,?_⟩
 rintro (_|_) h5
 ·replace h5 : ¬ ((i : Int) < (g.l.length : Int)) := of_decide_eq_false h5
  refine Cm gg st [Ml 1 0,(6,vS g.p g.l.length),(7,vI (g.l.length : Int)),(8,vI (i : Int)),(9,vB false)] [(1,0,[vI g.cap,vI g.frm,vS g.p g.l.length])] fun _ _ => ?_
  refine cxs ?_
  refine ⟨_,rfl,?_⟩
  refine ⟨_,Od rfl,?_⟩
  refine ⟨_,rfl,(ac_impl_within g.cap 1 8 st).mono ?_⟩
  rintro _ st ⟨a,rfl,h1,rfl⟩
  rcases a with _|_
  ·replace h1 := of_decide_eq_false h1.symm
   iterate 3 refine ⟨_,rfl,?_⟩
   exact cxs (Rt ⟨false,rfl,⟨fun h => absurd h Bool.false_ne_true,fun h => absurd h.1 h1⟩,rfl⟩)
  ·replace h1 := of_decide_eq_true h1.symm
   refine ⟨_,rfl,?_⟩
   refine ⟨_,Od rfl,?_⟩
   iterate 2 refine ⟨_,rfl,?_⟩
   refine ⟨_,Od rfl,?_⟩
   refine ⟨_,rfl,?_⟩
   rintro (_|_) h2
   ·replace h2 : ¬ ((g.l.length : Int) ≤ g.cap) := of_decide_eq_false h2
    iterate 3 refine ⟨_,rfl,?_⟩
    exact cxs (Rt ⟨false,rfl,⟨fun h => absurd h Bool.false_ne_true,fun h => absurd h.2.1 (by rw [hgl]; exact h2)⟩,rfl⟩)
   ·replace h2 : (g.l.length : Int) ≤ g.cap := of_decide_eq_true h2
    iterate 2 refine ⟨_,rfl,?_⟩
    refine ⟨_,Od rfl,?_⟩
    refine ⟨_,rfl,(ac_impl_within g.frm 0 100000 st).mono ?_⟩
    rintro _ st ⟨b,rfl,h3,rfl⟩
    rcases b with _|_
    ·replace h3 := of_decide_eq_false h3.symm
     iterate 2 refine ⟨_,rfl,?_⟩
     exact cxs (Rt ⟨false,rfl,⟨fun h => absurd h Bool.false_ne_true,fun h => absurd h.2.2.1 h3⟩,rfl⟩)
    ·replace h3 := of_decide_eq_true h3.symm
     iterate 2 refine ⟨_,rfl,?_⟩
     refine ⟨_,Od rfl,?_⟩
     refine ⟨_,rfl,?_⟩
     refine ⟨_,Od rfl,?_⟩
     refine ⟨_,rfl,?_⟩
     have e38 : IntKind.wrap .i64 (g.frm + (g.l.length : Int)) = g.frm + (g.l.length : Int) := wrap_i64 (by omega) (by omega)
     iterate 2 refine ⟨_,rfl,?_⟩
     rintro (_|_) h4
     ·replace h4 : ¬ (IntKind.wrap .i64 (g.frm + (g.l.length : Int)) ≤ 100000) := of_decide_eq_false h4
      refine ⟨_,rfl,?_⟩
      exact cxs (Rt ⟨false,rfl,⟨fun h => absurd h Bool.false_ne_true,fun h => absurd h.2.2.2.1 (by rw [hgl,← e38]; exact h4)⟩,rfl⟩)
     ·replace h4 : IntKind.wrap .i64 (g.frm + (g.l.length : Int)) ≤ 100000 := of_decide_eq_true h4
      refine ⟨_,rfl,?_⟩
      exact cxs (Rt ⟨true,rfl,⟨fun _ => ⟨h1,by rw [hgl]; exact h2,h3,by rw [hgl,← e38]; exact h4,states_to fun j s hs => hok j s (by have := (List.getElem?_eq_some_iff.1 hs).1; omega) hs⟩,fun _ => rfl⟩,rfl⟩)
 ·replace h5 : (i : Int) < (g.l.length : Int) := of_decide_eq_true h5
  refine Cm gg st [Ml 1 0,(6,vS g.p g.l.length),(7,vI (g.l.length : Int)),(8,vI (i : Int)),(9,vB true)] [(1,0,[vI g.cap,vI g.frm,vS g.p g.l.length])] fun _ _ => ?_
  have h5' := Int.ofNat_lt.1 h5
  have ⟨b1,o1,k1,r,hpe,hr1,hm1,hc1⟩ := hR.1.at h5'
  have hmem := List.mem_of_getElem? hr1
  refine cxs ?_
  refine ⟨_,op_idx (j := (i : Int)) (n := g.l.length) (q := ⟨b1,o1,none⟩) rfl (congrArg (fun u => vS u g.l.length) hpe) rfl rfl rfl (Int.natCast_nonneg _) h5,?_⟩
  refine ⟨_,op_lda rfl rfl rfl rfl rfl hm1 hc1 rfl,?_⟩
  refine ⟨_,rfl,?_⟩
  refine ⟨_,Os rfl,?_⟩
  refine Cm (gg + 1) st [Ml 1 0,Ml 4 gg,(6,vS g.p g.l.length),(7,vI (g.l.length : Int)),(8,vI (i : Int)),(9,vB true)] [(1,0,[vI g.cap,vI g.frm,vS g.p g.l.length]),(4,gg,cSV r)] fun _ _ => ?_
  refine ⟨_,Od rfl,?_⟩
  refine ⟨_,rfl,(ac_impl_StateOk r st (hR.2 r hmem) (hb.2 r hmem)).mono ?_⟩
  rintro _ st ⟨c,rfl,h6,rfl⟩
  rcases c with _|_
  ·replace h6 := fun k => Bool.false_ne_true (h6.2 k)
   refine ⟨_,rfl,?_⟩
   refine Cm (gg + 1) st [Ml 1 0,Ml 4 gg,(6,vS g.p g.l.length),(7,vI (g.l.length : Int)),(8,vI (i : Int)),(9,vB true),(14,vB true)] [(1,0,[vI g.cap,vI g.frm,vS g.p g.l.length]),(4,gg,cSV r)] fun _ _ => ?_
   exact cxs (Rt ⟨false,rfl,⟨fun h => absurd h Bool.false_ne_true,fun h => absurd (states_of h.2.2.2.2 hr1) h6⟩,rfl⟩)
  ·replace h6 := h6.1 rfl
   refine ⟨_,rfl,?_⟩
   refine Cm (gg + 1) st [Ml 1 0,Ml 4 gg,(6,vS g.p g.l.length),(7,vI (g.l.length : Int)),(8,vI (i : Int)),(9,vB true),(14,vB false)] [(1,0,[vI g.cap,vI g.frm,vS g.p g.l.length]),(4,gg,cSV r)] fun _ _ => ?_
   refine cxs ?_
   have e15 : IntKind.wrap .i64 ((i : Int) + 1) = ((i + 1 : Nat) : Int) := (wrap_i64 (by omega) (by omega)).trans (by omega)
   refine ⟨_,rfl,?_⟩
   refine ⟨i + 1,g.l.length - (i + 1),by omega,⟨rfl,rfl,rfl,congrArg (Value.int .i64) e15,trivial⟩,⟨rfl,trivial⟩,rfl,h5',fun j s hj hs => ?_,rfl⟩
   rcases Nat.lt_or_ge j i with h | h
   ·exact hok j s h hs
   ·obtain rfl : j = i := by omega
    rw [hr1] at hs
    injection hs with hs
    rw [← hs]; exact h6
theorem bigL_of {u l : List SV} (h : u.map (·.x) = l.map (·.x)) (hb : bigL l) : bigL u := by
 have hl := congrArg List.length h
 simp only [List.length_map] at hl
 refine ⟨by rw [hl]; exact hb.1,fun s hs => ?_⟩
 have : s.x ∈ l.map (·.x) := by rw [← h]; exact List.mem_map_of_mem hs
 obtain ⟨r,hr,he⟩ := List.mem_map.1 this
 rw [← he]; exact hb.2 r hr
theorem wt_Entry {k : Nat} {L : LL} {us : List Value} (h : WT Tryz.prog Tryz.prog.globals.size (k + 2) 201 L us) : ∃ x : Ent,us = cEnt x ∧ x.data.size ≤ maxLen := by
 obtain ⟨h1,h2⟩ := WT.fields Tryz.underlying201 h
 have h1 : us.length = 5 := h1.trans (by kernel_rfl)
 match us,h1,h2 with
 | [a,b,c,d,e],_,h2 =>
  obtain ⟨n0,e0,_⟩ := WT.int Tryz.underlying3 (h2 0 _ rfl)
  obtain ⟨n1,e1,_⟩ := WT.int Tryz.underlying3 (h2 1 _ rfl)
  obtain ⟨n2,e2,_⟩ := WT.int Tryz.underlying3 (h2 2 _ rfl)
  obtain ⟨n3,e3,_⟩ := WT.int Tryz.underlying3 (h2 3 _ rfl)
  obtain ⟨n4,e4,hs⟩ := WT.str Tryz.underlying9 (h2 4 _ rfl)
  simp [c_int,c_str] at e0 e1 e2 e3 e4
  exact ⟨⟨n0,n1,n2,n3,n4⟩,by rw [e0,e1,e2,e3,e4],hs⟩
theorem wt_Item {k : Nat} {L : LL} {us : List Value} (h : WT Tryz.prog Tryz.prog.globals.size (k + 3) 203 L us) : ∃ x : Itm,us = cItm x ∧ x.e.data.size ≤ maxLen := by
 obtain ⟨h1,h2⟩ := WT.fields Tryz.underlying203 h
 have h1 : us.length = 6 := h1.trans (by kernel_rfl)
 have hc : Tryz.prog.cellsOf 201 = 5 := by kernel_rfl
 match us,h1,h2 with
 | [a,b,c,d,e,f],_,h2 =>
  obtain ⟨n0,e0,_⟩ := WT.int Tryz.underlying3 (h2 0 _ rfl)
  obtain ⟨x,e1,hs⟩ := wt_Entry (h2 1 _ rfl)
  simp [c_int] at e0
  simp [hc] at e1
  exact ⟨⟨n0,x⟩,by rw [e0]; simp [e1],hs⟩
theorem wt_Floor {k : Nat} {L : LL} {us : List Value} (h : WT Tryz.prog Tryz.prog.globals.size (k + 2) 206 L us) : ∃ x : Flr,us = cFlr x ∧ True := by
 obtain ⟨h1,h2⟩ := WT.fields Tryz.underlying206 h
 have h1 : us.length = 2 := h1.trans (by kernel_rfl)
 match us,h1,h2 with
 | [a,b],_,h2 =>
  obtain ⟨n0,e0,_⟩ := WT.int Tryz.underlying3 (h2 0 _ rfl)
  obtain ⟨n1,e1,_⟩ := WT.int Tryz.underlying3 (h2 1 _ rfl)
  simp [c_int] at e0 e1
  exact ⟨⟨n0,n1⟩,by rw [e0,e1],trivial⟩
theorem wt_State' {k : Nat} {L : LL} {us : List Value} (h : WT Tryz.prog Tryz.prog.globals.size (k + 5) 71 L us) : ∃ x : SV,us = cSV x ∧ RdS (stL Tryz.prog.globals.size L) x ∧ maxS x.x := by
 obtain ⟨h1,h2⟩ := WT.fields Tryz.underlying71 h
 have h1 : us.length = 2 := h1.trans (by kernel_rfl)
 have hc1 : Tryz.prog.cellsOf 68 = 1 := by kernel_rfl
 have hc2 : Tryz.prog.cellsOf 69 = 1 := by kernel_rfl
 match us,h1,h2 with
 | [a,b],_,h2 =>
  obtain ⟨p,l,e0,hR,hm,hq⟩ := WT.rows (f := cItm) (Q := fun x => x.e.data.size ≤ maxLen) (z := 6) Tryz.underlying68 (by kernel_rfl) (fun us h => wt_Item h) (h2 0 _ rfl)
  obtain ⟨q,m,e1,hR2,hm2,_⟩ := WT.rows (f := cFlr) (Q := fun _ => True) (z := 2) Tryz.underlying69 (by kernel_rfl) (fun us h => wt_Floor h) (h2 1 _ rfl)
  simp [hc1] at e0
  simp [hc2] at e1
  exact ⟨⟨p,q,⟨l,m⟩⟩,by rw [e0,e1],⟨hR,hR2⟩,hm,hm2,hq⟩
theorem wt_Log' {k : Nat} {L : LL} {us : List Value} (h : WT Tryz.prog Tryz.prog.globals.size (k + 7) 75 L us) : ∃ x : LV,us = cLV x ∧ RdL (stL Tryz.prog.globals.size L) x.p x.l ∧ maxL x.l := by
 obtain ⟨h1,h2⟩ := WT.fields Tryz.underlying75 h
 have h1 : us.length = 3 := h1.trans (by kernel_rfl)
 have hc1 : Tryz.prog.cellsOf 73 = 1 := by kernel_rfl
 match us,h1,h2 with
 | [a,b,c],_,h2 =>
  obtain ⟨n0,e0,_⟩ := WT.int Tryz.underlying3 (h2 0 _ rfl)
  obtain ⟨n1,e1,_⟩ := WT.int Tryz.underlying3 (h2 1 _ rfl)
  obtain ⟨p,l,e2,hR,hm,hq⟩ := WT.rows (f := cSV) (Q := fun x => RdS (stL Tryz.prog.globals.size L) x ∧ maxS x.x) (z := 2) Tryz.underlying73 (by kernel_rfl) (fun us h => wt_State' h) (h2 2 _ rfl)
  simp [c_int] at e0 e1
  simp [hc1] at e2
  exact ⟨⟨n0,n1,p,l⟩,by rw [e0,e1,e2],⟨hR,fun s hs => (hq s hs).1⟩,hm,fun s hs => (hq s hs).2⟩
def mkS (s : Sta) (k : Int) : Sta := ⟨mkRow mkItm 6 s.items.length k,mkRow mkFlr 2 s.floors.length (k + 6 * (s.items.length : Int))⟩
theorem ac_laws_markState (s : SV) (k : Int) (st : St) (hO : OwnP st (pcS s)) (hb : bigS s.x) (h0 : 0 ≤ k) (hk : k ≤ 274877906944) : C 43 [.agg #[vS s.p s.x.items.length,vS s.q s.x.floors.length],vI k] st (fun v s' => v = vI (k + 6 * (s.x.items.length : Int) + 2 * (s.x.floors.length : Int)) ∧ OwnP s' (pcS ⟨s.p,s.q,mkS s.x k⟩) ∧ PrL [s.p,s.q] st s') := by
 have hs1 : s.x.items.length ≤ 1048576 := hb.1
 have hs2 : s.x.floors.length ≤ 1048576 := hb.2.1
 refine AC.enterX (i := ⟨[2],[2,5,9],[0,1,2,4],[]⟩) [] Tryz.func43 rfl rfl (by kernel_rfl) (by kernel_rfl) Tryz.ntmps43 (Lb rfl) rfl ?_
 refine ⟨_,rfl,?_⟩
 refine Cm 1 st [(1,vI k),Ml 2 0,(4,vI 0)] [(2,0,cSV s)] fun _ _ => ?_
 iterate 2 refine ⟨_,rfl,?_⟩
 refine ⟨_,rfl,(ac_laws_markItemS s.p s.x.items k st hO.items hb.1 h0 (by omega)).mono ?_⟩
 rintro _ s1 ⟨rfl,hO1,hP1⟩
 refine Cm 1 s1 [(1,vI (k + 6 * (s.x.items.length : Int))),Ml 2 0,(4,vI 0)] [(2,0,cSV s)] fun _ _ => ?_
 have hA := OwnP.update (l := []) (m := [pcR 2 cFlr s.q s.x.floors]) (c := pcR 6 cItm s.p s.x.items) (d := pcR 6 cItm s.p (mkRow mkItm 6 s.x.items.length k)) hO hP1 (own_pc hO1) rfl
 have hF : OwnR s1 2 cFlr s.q s.x.floors := pc_own (by decide) len_cFlr (hA.1 _ (List.mem_cons_of_mem _ (List.mem_cons_self ..)))
 iterate 2 refine ⟨_,rfl,?_⟩
 refine ⟨_,rfl,(ac_laws_markFloorS s.q s.x.floors (k + 6 * (s.x.items.length : Int)) s1 hF hb.2.1 (by omega) (by omega)).mono ?_⟩
 rintro _ s2 ⟨rfl,hO2,hP2⟩
 refine cxs ?_
 refine cxs ?_
 have hB := OwnP.update (l := [pcR 6 cItm s.p (mkRow mkItm 6 s.x.items.length k)]) (m := []) (c := pcR 2 cFlr s.q s.x.floors) (d := pcR 2 cFlr s.q (mkRow mkFlr 2 s.x.floors.length (k + 6 * (s.x.items.length : Int)))) hA hP2 (own_pc hO2) rfl
 exact Rt ⟨rfl,hB,(hP1.l (List.mem_cons_self ..)).trans (hP2.l (List.mem_cons_of_mem _ (List.mem_cons_self ..)))⟩
theorem PrL.ownR {α : Type} {st st' : St} {ps : List (Option Addr)} {z : Nat} {f : α → List Value} {q : Option Addr} {l : List α} (h0 : 0 < z) (hz : ∀ x,(f x).length = z) (h : PrL ps st st') (hO : OwnR st z f q l) (hd : ∀ p ∈ ps,Dis p q) : OwnR st' z f q l :=
 pc_own h0 hz ((OwnP.prl (OwnP.one (own_pc hO)) h fun c hc p hp => by rw [List.mem_singleton.1 hc]; exact hd p hp).1 _ (List.mem_singleton_self _))
end Go.Proofs.YtpnolkhfeliehaaGreat.AM
