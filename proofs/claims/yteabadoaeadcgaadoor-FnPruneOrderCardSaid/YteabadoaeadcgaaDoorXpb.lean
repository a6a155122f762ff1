/- Part 2 of the texts on which the law's proof rests. -/
import Derived.Test.YteabadoaeadcgaaDoorXpa
import Derived.Lib.Bytealg
namespace Go.Proofs.YteabadoaeadcgaaDoor.AM
open Go Go.Proofs
set_option linter.unusedVariables false
set_option linter.unusedSimpArgs false
set_option maxRecDepth 100000
set_option maxHeartbeats 4000000
theorem cmpS {A : Option Value} {Q : Prop} {K : Bool → Prop} (h : ∃ b,A = some (.bool b) ∧ (b = true ↔ Q)) (hk : ∀ c,(c = true ↔ Q) → K c) : ∃ b,A = some (.bool b) ∧ ∀ c,b = c → K c := by
 obtain ⟨b,h1,h2⟩ := h
 exact ⟨b,h1,fun c hc => hc ▸ hk b h2⟩
theorem same_next {α β : Type} {f : α → β} {a b : List α} {i : Nat} {x y : α} (hx : a[i]? = some x) (hy : b[i]? = some y) (h : f x = f y) (heq : ∀ (j : Nat) x y,j < i → a[j]? = some x → b[j]? = some y → f x = f y) : ∀ (j : Nat) x y,j < i + 1 → a[j]? = some x → b[j]? = some y → f x = f y := by
 intro j u v hj hu hv
 rcases Nat.lt_or_ge j i with h2 | h2
 ·exact heq j u v h2 hu hv
 ·obtain rfl : j = i := by omega
  rw [hx] at hu; rw [hy] at hv
  injection hu with hu; injection hv with hv
  rw [← hu,← hv]; exact h
theorem same_at {α : Type} {a b : List α} {i : Nat} {x y : α} (hx : a[i]? = some x) (hy : b[i]? = some y) (h : a = b) : x = y := by
 subst h; rw [hx] at hy; injection hy
theorem sta_ext {a b : Sta} (h1 : a.items = b.items) (h2 : a.floors = b.floors) : a = b := by cases a; cases b; simp only at h1 h2; rw [h1,h2]
theorem neq_Floor (x y : Flr) : ∃ b,abin Tryd.prog .neq 57 (.agg #[vI x.id,vI x.inc]) (.agg #[vI y.id,vI y.inc]) = some (.bool b) ∧ (b = true ↔ ¬ x = y) := by
 refine ⟨!((if (x.id == y.id) = true then (if (x.inc == y.inc) = true then true else false) else false)),?_,?_⟩
 ·have h : abin Tryd.prog .neq 57 (.agg #[vI x.id,vI x.inc]) (.agg #[vI y.id,vI y.inc]) = (((some (x.id == y.id)).bind fun r => if r = true then ((some (x.inc == y.inc)).bind fun r => if r = true then some true else some false) else some false)).map fun b => Value.bool !b := by kernel_rfl
  rw [h]; cases x.id == y.id <;> cases x.inc == y.inc <;> rfl
 ·cases x; cases y; simp [Classical.or_iff_not_imp_left]
theorem neq_Item (x y : Itm) : ∃ b,abin Tryd.prog .neq 59 (.agg #[vI x.id,vI x.e.inc,vI x.e.rank,vI x.e.beat,vI x.e.ver,.string x.e.data]) (.agg #[vI y.id,vI y.e.inc,vI y.e.rank,vI y.e.beat,vI y.e.ver,.string y.e.data]) = some (.bool b) ∧ (b = true ↔ ¬ x = y) := by
 refine ⟨!(x.id == y.id && (x.e.inc == y.e.inc && (x.e.rank == y.e.rank && (x.e.beat == y.e.beat && (x.e.ver == y.e.ver && x.e.data.toList == y.e.data.toList))))),?_,?_⟩
 ·have h : abin Tryd.prog .neq 59 (.agg #[vI x.id,vI x.e.inc,vI x.e.rank,vI x.e.beat,vI x.e.ver,.string x.e.data]) (.agg #[vI y.id,vI y.e.inc,vI y.e.rank,vI y.e.beat,vI y.e.ver,.string y.e.data]) = ((some (x.id == y.id)).bind fun r => if r = true then (((some (x.e.inc == y.e.inc)).bind fun r => if r = true then ((some (x.e.rank == y.e.rank)).bind fun r => if r = true then ((some (x.e.beat == y.e.beat)).bind fun r => if r = true then ((some (x.e.ver == y.e.ver)).bind fun r => if r = true then ((some (x.e.data.toList == y.e.data.toList)).bind fun r => if r = true then some true else some false) else some false) else some false) else some false) else some false).bind fun r => if r = true then some true else some false) else some false).map fun b => Value.bool !b := by kernel_rfl
  rw [h]; cases x.id == y.id <;> cases x.e.inc == y.e.inc <;> cases x.e.rank == y.e.rank <;> cases x.e.beat == y.e.beat <;> cases x.e.ver == y.e.ver <;> cases x.e.data.toList == y.e.data.toList <;> rfl
 ·rcases x with ⟨i,a,b,c,d,s⟩
  rcases y with ⟨j,a',b',c',d',s'⟩
  have hb : (s.toList == s'.toList) = true ↔ s = s' := beq_bytes
  cases hs : (s.toList == s'.toList) with
  | true => simp [hs,hb.1 hs,Classical.or_iff_not_imp_left]
  | false =>
   have : ¬ s = s' := fun h => by rw [hb.2 h] at hs; cases hs
   simp [hs,this]
theorem ac_spec_StateSame (a b : SV) (st : St) (hA : RdS st a) (hB : RdS st b) (hb : bigS a.x) : C 13 [.agg #[vS a.p a.x.items.length,vS a.q a.x.floors.length],.agg #[vS b.p b.x.items.length,vS b.q b.x.floors.length]] st (fun v s => ∃ x,v = .bool x ∧ (x = true ↔ a.x = b.x) ∧ s = st) := by
 have hs1 : a.x.items.length ≤ 1048576 := hb.1
 have hs2 : a.x.floors.length ≤ 1048576 := hb.2.1
 refine AC.enterX (i := ⟨[2,3],[2,3,7,10,15,18,24,30,35,42,48,53],[0,1,2,3,4,5,6,22,27,40,45,58],[]⟩) [(6,[],[]),(11,[],[])] Tryd.func13 rfl rfl (by kernel_rfl) (by kernel_rfl) Tryd.ntmps13 (Lb rfl) rfl ?_
 iterate 2 refine ⟨_,rfl,?_⟩
 refine Cm 2 st [Ml 2 0,Ml 3 1,(4,vB false)] [(2,0,cSV a),(3,1,cSV b)] fun _ _ => ?_
 refine ⟨_,rfl,?_⟩
 refine ⟨_,Od rfl,?_⟩
 iterate 2 refine ⟨_,rfl,?_⟩
 refine ⟨_,Od rfl,?_⟩
 iterate 2 refine ⟨_,rfl,?_⟩
 rintro (_|_) h13
 ·replace h13 : (a.x.items.length : Int) = (b.x.items.length : Int) := bne_eq_false_iff_eq.1 h13
  refine ⟨_,rfl,?_⟩
  refine ⟨_,Od rfl,?_⟩
  iterate 2 refine ⟨_,rfl,?_⟩
  refine ⟨_,Od rfl,?_⟩
  iterate 2 refine ⟨_,rfl,?_⟩
  rintro (_|_) h21
  ·replace h21 : (a.x.floors.length : Int) = (b.x.floors.length : Int) := bne_eq_false_iff_eq.1 h21
   refine ⟨_,rfl,?_⟩
   refine Cm 2 st [Ml 2 0,Ml 3 1,(4,vB false),(22,vB false)] [(2,0,cSV a),(3,1,cSV b)] fun _ _ => ?_
   refine cxs ?_
   refine Cm 2 st [Ml 2 0,Ml 3 1,(4,vB false),(5,vI 0)] [(2,0,cSV a),(3,1,cSV b)] fun _ _ => ?_
   refine AW.loopM (fun i : Nat => [(2,vL 2 0 (0)),(3,vL 3 0 (1)),(5,vI (i : Int))]) (fun i : Nat => [(2,0,[vS a.p a.x.items.length,vS a.q a.x.floors.length]),(3,1,[vS b.p b.x.items.length,vS b.q b.x.floors.length])]) (fun m (i : Nat) st' => m = a.x.items.length - i ∧ i ≤ a.x.items.length ∧ (∀ (j : Nat) x y,j < i → a.x.items[j]? = some x → b.x.items[j]? = some y → x = y) ∧ st = st') 0 _ ⟨rfl,rfl,rfl,trivial⟩ ⟨rfl,rfl,trivial⟩ ⟨rfl,Nat.zero_le _,fun j x y h => absurd h (Nat.not_lt_zero _),rfl⟩ ?_
   rintro m i ρ0 ff gg st' ⟨rfl,hi,heq,rfl⟩
   refine ⟨_,rfl,?_⟩
   refine ⟨_,Od rfl,?_⟩
   iterate 2 refine ⟨_,rfl,?_⟩
   rintro (_|_) h27
   ·replace h27 : ¬ ((i : Int) < (a.x.items.length : Int)) := of_decide_eq_false h27
    refine Cm gg st [Ml 2 0,Ml 3 1,(5,vI (i : Int)),(27,vB false)] [(2,0,cSV a),(3,1,cSV b)] fun _ _ => ?_
    have hI : a.x.items = b.x.items := iff_lists (by omega) fun j x y hj hx hy => heq j x y (by omega) hx hy
    clear heq
    refine cxs ?_
    refine Cm gg st [Ml 2 0,Ml 3 1,(6,vI 0)] [(2,0,cSV a),(3,1,cSV b)] fun _ _ => ?_
    refine AW.loopM (fun i : Nat => [(2,vL 2 0 (0)),(3,vL 3 0 (1)),(6,vI (i : Int))]) (fun i : Nat => [(2,0,[vS a.p a.x.items.length,vS a.q a.x.floors.length]),(3,1,[vS b.p b.x.items.length,vS b.q b.x.floors.length])]) (fun m (i : Nat) st' => m = a.x.floors.length - i ∧ i ≤ a.x.floors.length ∧ (∀ (j : Nat) x y,j < i → a.x.floors[j]? = some x → b.x.floors[j]? = some y → x = y) ∧ st = st') 0 _ ⟨rfl,rfl,rfl,trivial⟩ ⟨rfl,rfl,trivial⟩ ⟨rfl,Nat.zero_le _,fun j x y h => absurd h (Nat.not_lt_zero _),rfl⟩ ?_
    rintro m i ρ0 ff gg st' ⟨rfl,hi,heq,rfl⟩
    refine ⟨_,rfl,?_⟩
    refine ⟨_,Od rfl,?_⟩
    iterate 2 refine ⟨_,rfl,?_⟩
    rintro (_|_) h45
    ·replace h45 : ¬ ((i : Int) < (a.x.floors.length : Int)) := of_decide_eq_false h45
     refine Cm gg st [Ml 2 0,Ml 3 1,(6,vI (i : Int)),(45,vB false)] [(2,0,cSV a),(3,1,cSV b)] fun _ _ => ?_
     refine cxs ?_
     exact cxs (Rt ⟨true,rfl,⟨fun _ => sta_ext hI (iff_lists (by omega) fun j x y hj hx hy => heq j x y (by omega) hx hy),fun _ => rfl⟩,rfl⟩)
    ·replace h45 : (i : Int) < (a.x.floors.length : Int) := of_decide_eq_true h45
     refine Cm gg st [Ml 2 0,Ml 3 1,(6,vI (i : Int)),(45,vB true)] [(2,0,cSV a),(3,1,cSV b)] fun _ _ => ?_
     refine cxs ?_
     refine ⟨_,rfl,?_⟩
     refine ⟨_,Od rfl,?_⟩
     refine op_at i hA.2 (by omega) rfl rfl rfl rfl rfl rfl rfl ?_
     intro x51 b51 d51 k51 hy51 hb51 hm51 hc51 ho51
     refine ⟨_,op_lda rfl rfl rfl rfl rfl hm51 hc51 rfl,?_⟩
     refine ⟨_,rfl,?_⟩
     refine ⟨_,Od rfl,?_⟩
     refine op_at i hB.2 (by omega) rfl rfl rfl rfl rfl rfl rfl ?_
     intro x56 b56 d56 k56 hy56 hb56 hm56 hc56 ho56
     refine ⟨_,op_lda rfl rfl rfl rfl rfl hm56 hc56 rfl,?_⟩
     refine cmpS (neq_Floor x51 x56) ?_
     rintro (_|_) h58
     ·replace h58 : x51 = x56 := Classical.byContradiction fun k => Bool.false_ne_true (h58.2 k)
      refine Cm gg st [Ml 2 0,Ml 3 1,(6,vI (i : Int)),(45,vB true),(58,vB false)] [(2,0,cSV a),(3,1,cSV b)] fun _ _ => ?_
      refine cxs ?_
      have ew47 : IntKind.wrap .i64 ((i : Int) + (1)) = ((i + 1 : Nat) : Int) := (wrap_i64 (by omega) (by omega)).trans (by omega)
      refine ⟨_,rfl,?_⟩
      exact ⟨i + 1,a.x.floors.length - (i + 1),by omega,⟨rfl,rfl,congrArg (Value.int .i64) ew47,trivial⟩,⟨rfl,rfl,trivial⟩,rfl,by omega,same_next (f := fun x => x) hy51 hy56 h58 heq,rfl⟩
     ·replace h58 : ¬ x51 = x56 := h58.1 rfl
      refine Cm gg st [Ml 2 0,Ml 3 1,(6,vI (i : Int)),(45,vB true),(58,vB true)] [(2,0,cSV a),(3,1,cSV b)] fun _ _ => ?_
      exact cxs (Rt ⟨false,rfl,⟨fun h => absurd h Bool.false_ne_true,fun h => (show False from (absurd (same_at hy51 hy56 (congrArg Sta.floors h)) h58)).elim⟩,rfl⟩)
   ·replace h27 : (i : Int) < (a.x.items.length : Int) := of_decide_eq_true h27
    refine Cm gg st [Ml 2 0,Ml 3 1,(5,vI (i : Int)),(27,vB true)] [(2,0,cSV a),(3,1,cSV b)] fun _ _ => ?_
    refine cxs ?_
    refine ⟨_,rfl,?_⟩
    refine ⟨_,Od rfl,?_⟩
    refine op_at i hA.1 (by omega) rfl rfl rfl rfl rfl rfl rfl ?_
    intro x33 b33 d33 k33 hy33 hb33 hm33 hc33 ho33
    refine ⟨_,op_lda rfl rfl rfl rfl rfl hm33 hc33 rfl,?_⟩
    refine ⟨_,rfl,?_⟩
    refine ⟨_,Od rfl,?_⟩
    refine op_at i hB.1 (by omega) rfl rfl rfl rfl rfl rfl rfl ?_
    intro x38 b38 d38 k38 hy38 hb38 hm38 hc38 ho38
    refine ⟨_,op_lda rfl rfl rfl rfl rfl hm38 hc38 rfl,?_⟩
    refine cmpS (neq_Item x33 x38) ?_
    rintro (_|_) h40
    ·replace h40 : x33 = x38 := Classical.byContradiction fun k => Bool.false_ne_true (h40.2 k)
     refine Cm gg st [Ml 2 0,Ml 3 1,(5,vI (i : Int)),(27,vB true),(40,vB false)] [(2,0,cSV a),(3,1,cSV b)] fun _ _ => ?_
     refine cxs ?_
     have ew29 : IntKind.wrap .i64 ((i : Int) + (1)) = ((i + 1 : Nat) : Int) := (wrap_i64 (by omega) (by omega)).trans (by omega)
     refine ⟨_,rfl,?_⟩
     exact ⟨i + 1,a.x.items.length - (i + 1),by omega,⟨rfl,rfl,congrArg (Value.int .i64) ew29,trivial⟩,⟨rfl,rfl,trivial⟩,rfl,by omega,same_next (f := fun x => x) hy33 hy38 h40 heq,rfl⟩
    ·replace h40 : ¬ x33 = x38 := h40.1 rfl
     refine Cm gg st [Ml 2 0,Ml 3 1,(5,vI (i : Int)),(27,vB true),(40,vB true)] [(2,0,cSV a),(3,1,cSV b)] fun _ _ => ?_
     exact cxs (Rt ⟨false,rfl,⟨fun h => absurd h Bool.false_ne_true,fun h => (show False from (absurd (same_at hy33 hy38 (congrArg Sta.items h)) h40)).elim⟩,rfl⟩)
  ·replace h21 : ¬ ((a.x.floors.length : Int) = (b.x.floors.length : Int)) := bne_iff_ne.1 h21
   refine ⟨_,rfl,?_⟩
   refine Cm 2 st [Ml 2 0,Ml 3 1,(4,vB false),(22,vB true)] [(2,0,cSV a),(3,1,cSV b)] fun _ _ => ?_
   exact cxs (Rt ⟨false,rfl,⟨fun h => absurd h Bool.false_ne_true,fun h => (show False from (absurd (congrArg (fun l : Sta => (l.floors.length : Int)) h) h21)).elim⟩,rfl⟩)
 ·replace h13 : ¬ ((a.x.items.length : Int) = (b.x.items.length : Int)) := bne_iff_ne.1 h13
  refine ⟨_,rfl,?_⟩
  refine Cm 2 st [Ml 2 0,Ml 3 1,(4,vB false),(22,vB true)] [(2,0,cSV a),(3,1,cSV b)] fun _ _ => ?_
  exact cxs (Rt ⟨false,rfl,⟨fun h => absurd h Bool.false_ne_true,fun h => (show False from (absurd (congrArg (fun l : Sta => (l.items.length : Int)) h) h13)).elim⟩,rfl⟩)
def rowOk (l : List Int) : Prop := l.length = 5 ∧ ∀ (j : Nat) x,l[j]? = some x → 0 ≤ x ∧ x ≤ 1000
theorem map_len {t u : List RV} (h : u.map (·.l) = t.map (·.l)) (hr : ∀ r ∈ t,szOk r.l.length) : u.length = t.length ∧ ∀ r ∈ u,szOk r.l.length := by
 have hl := congrArg List.length h
 simp only [List.length_map] at hl
 refine ⟨hl,fun r hm => ?_⟩
 have h2 : r.l ∈ t.map (·.l) := by rw [← h]; exact List.mem_map_of_mem hm
 obtain ⟨x,hx,he⟩ := List.mem_map.1 h2
 rw [← he]; exact hr x hx
abbrev upI (l : List Itm) : List Itm := l.filter fun x => decide (x.e.rank = 0)
open Classical in
noncomputable def viewF (s : Sta) : List Itm := if stateOk s then upI s.items else []
theorem view_big {s : Sta} (h : bigS s) : bigS ⟨viewF s,[]⟩ := by
 unfold viewF
 split
 ·exact ⟨Nat.le_trans (List.length_filter_le _ _) h.1,Nat.zero_le _,fun x hx => h.2.2 x ((List.mem_filter.1 hx).1)⟩
 ·exact ⟨Nat.zero_le _,Nat.zero_le _,fun x hx => by cases hx⟩
theorem ac_impl_View (s : SV) (st : St) (hR : RdS st s) (hb : bigS s.x) : C 32 [.agg #[vS s.p s.x.items.length,vS s.q s.x.floors.length]] st (fun v s' => ∃ q,v = vS q (viewF s.x).length ∧ OwnR s' 6 cItm q (viewF s.x) ∧ New st.next q ∧ Pres st s') := by
 have hs1 : s.x.items.length ≤ 1048576 := hb.1
 refine AC.enterX (i := ⟨[1,5],[1,5,11,18,19],[0,1,2,3,5,9,12,13,14,15,21],[]⟩) [] Tryd.func32 rfl rfl (by kernel_rfl) (by kernel_rfl) Tryd.ntmps32 (Lb rfl) rfl ?_
 refine ⟨_,rfl,?_⟩
 refine Cm 1 st [Ml 1 0,(2,Sn)] [(1,0,cSV s)] fun _ _ => ?_
 refine op_nilK (z := 6) (f := cItm) rfl rfl rfl rfl (by decide) rfl ?_
 intro q6 s6 hO6 hP6 hN6
 refine Cm 1 s6 [Ml 1 0,(2,Sn),(3,vS q6 0)] [(1,0,cSV s)] fun _ _ => ?_
 refine ⟨_,Od rfl,?_⟩
 refine ⟨_,rfl,(ac_impl_StateOk s s6 (hR.pres hP6) (by first | assumption | omega)).mono ?_⟩
 rintro _ s6 ⟨x8,rfl,h8,rfl⟩
 rcases x8 with _|_
 ·replace h8 := fun k => Bool.false_ne_true (h8.2 k)
  refine ⟨_,rfl,?_⟩
  refine Cm 1 s6 [Ml 1 0,(2,Sn),(3,vS q6 0),(9,vB true)] [(1,0,cSV s)] fun _ _ => ?_
  exact cxs (Rt ⟨q6,by rw [viewF,if_neg h8]; rfl,by rw [viewF,if_neg h8]; exact hO6,hN6,hP6⟩)
 ·replace h8 := h8.1 rfl
  refine ⟨_,rfl,?_⟩
  refine Cm 1 s6 [Ml 1 0,(2,Sn),(3,vS q6 0),(9,vB false)] [(1,0,cSV s)] fun _ _ => ?_
  refine cxs ?_
  refine ⟨_,rfl,?_⟩
  refine ⟨_,Od rfl,?_⟩
  refine ⟨_,rfl,?_⟩
  refine Cm 1 s6 [(2,Sn),(3,vS q6 0),(12,vS s.p s.x.items.length),(13,vI (s.x.items.length : Int)),(14,vI 0)] [] fun _ _ => ?_
  refine AW.loopM (fun x : Nat × Option Addr × List Itm => [(2,.slice none 0 0),(3,vS x.2.1 x.2.2.length),(12,vS s.p s.x.items.length),(13,vI (s.x.items.length : Int)),(14,vI (x.1 : Int))]) (fun x : Nat × Option Addr × List Itm => []) (fun m (x : Nat × Option Addr × List Itm) st' => m = s.x.items.length - x.1 ∧ x.1 ≤ s.x.items.length ∧ x.2.2 = upI (s.x.items.take x.1) ∧ OwnR st' 6 cItm x.2.1 x.2.2 ∧ New st.next x.2.1 ∧ Pres st st') (0,q6,[]) _ ⟨rfl,rfl,rfl,rfl,rfl,trivial⟩ trivial ⟨rfl,Nat.zero_le _,rfl,hO6,hN6,hP6⟩ ?_
  rintro m ⟨i,q,l⟩ ρ0 ff gg st' ⟨rfl,hi,hv,hO,hN,hP⟩
  simp only at hi hv hO hN
  have hll : l.length ≤ i := by rw [hv]; exact Nat.le_trans (List.length_filter_le _ _) (by rw [List.length_take]; omega)
  refine ⟨_,rfl,?_⟩
  rintro (_|_) h15
  ·replace h15 : ¬ ((i : Int) < (s.x.items.length : Int)) := of_decide_eq_false h15
   refine Cm gg st' [(2,Sn),(3,vS q l.length),(12,vS s.p s.x.items.length),(13,vI (s.x.items.length : Int)),(14,vI (i : Int)),(15,vB false)] [] fun _ _ => ?_
   refine cxs ?_
   refine cxs ?_
   have hle : l = viewF s.x := by rw [hv,viewF,if_pos h8,List.take_of_length_le (by omega)]
   exact Rt ⟨q,by rw [← hle]; rfl,by rw [← hle]; exact hO,hN,hP⟩
  ·replace h15 : (i : Int) < (s.x.items.length : Int) := of_decide_eq_true h15
   refine Cm gg st' [(2,Sn),(3,vS q l.length),(12,vS s.p s.x.items.length),(13,vI (s.x.items.length : Int)),(14,vI (i : Int)),(15,vB true)] [] fun _ _ => ?_
   refine cxs ?_
   refine op_at i (hP.rows hR.1) (by omega) rfl rfl rfl rfl rfl rfl rfl ?_
   intro x16 b16 d16 k16 hy16 hb16 hm16 hc16 ho16
   refine ⟨_,op_lda rfl rfl rfl rfl rfl hm16 hc16 rfl,?_⟩
   refine ⟨_,rfl,?_⟩
   refine ⟨_,Os rfl,?_⟩
   refine Cm (gg + 1) st' [(2,Sn),(3,vS q l.length),Ml 5 gg,(12,vS s.p s.x.items.length),(13,vI (s.x.items.length : Int)),(14,vI (i : Int)),(15,vB true)] [(5,gg,[vI x16.id,vI x16.e.inc,vI x16.e.rank,vI x16.e.beat,vI x16.e.ver,.string x16.e.data])] fun _ _ => ?_
   iterate 2 refine ⟨_,rfl,?_⟩
   refine ⟨_,Od rfl,?_⟩
   refine ⟨_,rfl,?_⟩
   rintro (_|_) h21
   ·replace h21 : ¬ (x16.e.rank = (0)) := beq_eq_false_iff_ne.1 h21
    refine Cm (gg + 1) st' [(2,Sn),(3,vS q l.length),Ml 5 gg,(12,vS s.p s.x.items.length),(13,vI (s.x.items.length : Int)),(14,vI (i : Int)),(15,vB true),(21,vB false)] [(5,gg,[vI x16.id,vI x16.e.inc,vI x16.e.rank,vI x16.e.beat,vI x16.e.ver,.string x16.e.data])] fun _ _ => ?_
    refine cxs ?_
    have ew26 : IntKind.wrap .i64 ((i : Int) + (1)) = ((i + 1 : Nat) : Int) := (wrap_i64 (by omega) (by omega)).trans (by omega)
    refine ⟨_,rfl,?_⟩
    exact ⟨(i + 1,q,l),s.x.items.length - (i + 1),by omega,⟨rfl,rfl,rfl,rfl,congrArg (Value.int .i64) ew26,trivial⟩,trivial,rfl,by simp only; omega,by rw [show upI (s.x.items.take (i + 1)) = upI (s.x.items.take i) from filt_out hy16 (decide_eq_false h21)]; exact hv,hO,hN,hP⟩
   ·replace h21 : x16.e.rank = (0) := beq_iff_eq.1 h21
    refine Cm (gg + 1) st' [(2,Sn),(3,vS q l.length),Ml 5 gg,(12,vS s.p s.x.items.length),(13,vI (s.x.items.length : Int)),(14,vI (i : Int)),(15,vB true),(21,vB true)] [(5,gg,[vI x16.id,vI x16.e.inc,vI x16.e.rank,vI x16.e.beat,vI x16.e.ver,.string x16.e.data])] fun _ _ => ?_
    refine ⟨_,Od rfl,?_⟩
    refine op_one (z := 6) (a := (x16 : Itm)) (f := cItm) rfl rfl rfl rfl rfl (by decide) rfl (Lb rfl) rfl rfl rfl ?_
    refine op_snoc (z := 6) (st := st') (f := cItm) (b := 56) (l := l) (x := x16) rfl rfl rfl rfl rfl rfl rfl (by decide) len_cItm rfl rfl rfl (by omega) (by unfold maxLen; omega) hO ?_
    intro q25 s25 hO25 hP25 hN25
    refine Cm (gg + 1) s25 [(2,Sn),(3,vS q25 (l ++ [x16]).length),Ml 5 gg,(12,vS s.p s.x.items.length),(13,vI (s.x.items.length : Int)),(14,vI (i : Int)),(15,vB true),(21,vB true)] [(5,gg,[vI x16.id,vI x16.e.inc,vI x16.e.rank,vI x16.e.beat,vI x16.e.ver,.string x16.e.data])] fun _ _ => ?_
    have ew26 : IntKind.wrap .i64 ((i : Int) + (1)) = ((i + 1 : Nat) : Int) := (wrap_i64 (by omega) (by omega)).trans (by omega)
    refine ⟨_,rfl,?_⟩
    exact ⟨(i + 1,q25,l ++ [x16]),s.x.items.length - (i + 1),by omega,⟨rfl,rfl,rfl,rfl,congrArg (Value.int .i64) ew26,trivial⟩,trivial,rfl,by simp only; omega,by rw [show upI (s.x.items.take (i + 1)) = upI (s.x.items.take i) ++ [x16] from filt_in hy16 (decide_eq_true h21),← hv],hO25,hN25.le hP.1,hP25.pres hP hN⟩
theorem ac_impl_copyTable (p : Option Addr) (t : List RV) (st : St) (hR : RdT st p t) (hs : szOk t.length) (hr : ∀ r ∈ t,szOk r.l.length) : C 29 [vS p t.length] st (fun v s => ∃ q u,v = vS q t.length ∧ u.map (·.l) = t.map (·.l) ∧ OwnP s (pcT q u) ∧ NewP st.next (pcT q u) ∧ Pres st s) := by
 have hs : t.length ≤ 1048576 := hs
 refine AC.enterX (i := ⟨[],[],[0,2,3,5,7,8,9,10],[]⟩) [] Tryd.func29 rfl rfl (by kernel_rfl) (by kernel_rfl) Tryd.ntmps29 (Lb rfl) rfl ?_
 refine Cu lo0 st [(0,vS p t.length),(2,Sn)] fun _ => ?_
 refine op_nilK (z := 1) (f := cRV) rfl rfl rfl rfl Nat.one_pos rfl ?_
 intro q0 s0 hO0 hP0 hN0
 refine Cu lo0 s0 [(0,vS p t.length),(2,Sn),(3,vS q0 0)] fun _ => ?_
 refine ⟨_,rfl,?_⟩
 refine Cu lo0 s0 [(0,vS p t.length),(2,Sn),(3,vS q0 0),(7,vS p t.length),(8,vI (t.length)),(9,vI 0)] fun _ => ?_
 refine AW.loop0 (fun x : List RV × Option Addr => [(0,vS p t.length),(3,vS x.2 x.1.length),(7,vS p t.length),(8,vI (t.length : Int)),(9,vI (x.1.length : Int))]) (fun m (x : List RV × Option Addr) st' => m = t.length - x.1.length ∧ x.1.length ≤ t.length ∧ x.1.map (·.l) = (t.take x.1.length).map (·.l) ∧ OwnP st' (pcT x.2 x.1) ∧ NewP st.next (pcT x.2 x.1) ∧ Pres st st') ([],q0) _ ⟨rfl,rfl,rfl,rfl,rfl,trivial⟩ rfl ⟨rfl,Nat.zero_le _,rfl,OwnP.one (own_pc hO0),NewP.cons hN0 NewP.nil,hP0⟩ ?_
 rintro m x ρ0 st' ⟨rfl,hi,hl,hO,hN,hP⟩
 refine ⟨_,rfl,?_⟩
 rintro (_|_) h1
 ·replace h1 : ¬ ((x.1.length : Int) < (t.length : Int)) := of_decide_eq_false h1
  refine Cu lo0 st' [(0,vS p t.length),(3,vS x.2 x.1.length),(7,vS p t.length),(8,vI (t.length : Int)),(9,vI (x.1.length : Int)),(10,vB false)] fun _ => ?_
  refine cxs ?_
  refine cxs ?_
  have hil : x.1.length = t.length := by omega
  exact Rt ⟨x.2,x.1,congrArg (vS x.2) hil,by rw [hl,hil,List.take_length],hO,hN,hP⟩
 ·replace h1 : (x.1.length : Int) < (t.length : Int) := of_decide_eq_true h1
  refine Cu lo0 st' [(0,vS p t.length),(3,vS x.2 x.1.length),(7,vS p t.length),(8,vI (t.length : Int)),(9,vI (x.1.length : Int)),(10,vB true)] fun _ => ?_
  have h1' := Int.ofNat_lt.1 h1
  have hRd := hR.pres hP
  have ⟨b1,o1,k1,r,hpe,hr1,hm1,hc1,hb1⟩ := hRd.1.atB h1'
  have hmem := List.mem_of_getElem? hr1
  have hrs : r.l.length ≤ 1048576 := hr r hmem
  obtain ⟨d1,d2,d3⟩ := split_at hr1
  refine cxs ?_
  refine ⟨_,op_idx (j := (x.1.length : Int)) (n := t.length) (q := ⟨b1,o1,none⟩) rfl (congrArg (fun u => vS u t.length) hpe) rfl rfl rfl (Int.natCast_nonneg _) h1,?_⟩
  refine ⟨_,op_ldc (i := 0) (v := vS r.p r.l.length) rfl rfl rfl rfl hm1 hc1 rfl rfl,?_⟩
  refine Cu lo0 st' [(0,vS p t.length),(3,vS x.2 x.1.length),(5,vS r.p r.l.length),(7,vS p t.length),(8,vI (t.length : Int)),(9,vI (x.1.length : Int)),(10,vB true)] fun _ => ?_
  refine ⟨_,rfl,(ac_impl_copyInts r.p r.l st' (hRd.2 r hmem).ints (by omega)).mono ?_⟩
  rintro _ s2 ⟨q2,rfl,hO2,hP2,hN2⟩
  have hO2 : OwnR s2 1 fI q2 r.l := Own.r.1 hO2
  refine op_one (z := 1) (a := (⟨q2,r.l⟩ : RV)) (f := cRV) rfl rfl rfl rfl rfl Nat.one_pos rfl (Lb rfl) rfl rfl rfl ?_
  refine op_add (z := 1) (st := s2) (f := cRV) (b := 24) (l := x.1) rfl rfl rfl rfl rfl rfl rfl Nat.one_pos cRV_len rfl rfl rfl (by omega) (by unfold maxLen; omega) (hP2.ownR hO.outer) ?_
  intro q4 s4 hO4 hP4 hN4
  refine Cu lo0 s4 [(0,vS p t.length),(3,vS q4 (x.1.length + 1)),(5,vS r.p r.l.length),(7,vS p t.length),(8,vI (t.length : Int)),(9,vI (x.1.length : Int)),(10,vB true)] fun _ => ?_
  have hA := OwnP.renew (l := []) (m := x.1.map pcRV ++ [pcRV ⟨q2,r.l⟩]) (c := pcR 1 cRV x.2 x.1) (OwnP.join (l := pcT x.2 x.1) (m := [pcRV ⟨q2,r.l⟩]) hO hP2 (OwnP.one (own_pc hO2)) (NewP.cons hN2 NewP.nil)) hP4 (own_pc hO4) hN4
  have hA : OwnP s4 (pcT q4 (x.1 ++ [⟨q2,r.l⟩])) := by simpa [pcT] using hA
  have e18 : IntKind.wrap .i64 ((x.1.length : Int) + 1) = ((x.1.length + 1 : Nat) : Int) := (wrap_i64 (by omega) (by omega)).trans (by omega)
  refine ⟨_,rfl,?_⟩
  refine ⟨(x.1 ++ [⟨q2,r.l⟩],q4),t.length - (x.1.length + 1),by omega,⟨rfl,?_,rfl,rfl,?_,trivial⟩,rfl,?_,?_,?_,hA,?_,?_⟩
  ·rw [List.length_append]; rfl
  ·rw [List.length_append]; exact congrArg (Value.int .i64) e18
  ·rw [List.length_append]; rfl
  ·rw [List.length_append]; exact h1'
  ·rw [List.map_append,hl,List.length_append,List.length_singleton,d2,List.map_append]; rfl
  ·refine NewP.cons (hN4.le (Nat.le_trans hP.1 hP2.1)) ?_
   rw [List.map_append]
   exact NewP.app (fun c hc => hN c (List.mem_cons_of_mem _ hc)) (NewP.cons (hN2.le hP.1) NewP.nil)
  ·exact hP4.pres (hP.trans hP2) (hN _ (List.mem_cons_self ..))
def addMarks (l : List Int) (ms : List Flr) : List Int := ms.foldl (fun r m => r.set m.id.toNat (max (r.getD m.id.toNat 0) m.inc)) l
theorem addMarks_len : ∀ (ms : List Flr) (l : List Int),(addMarks l ms).length = l.length
 | [],l => rfl
 | m :: ms,l => by
  have := addMarks_len ms (l.set m.id.toNat (max (l.getD m.id.toNat 0) m.inc))
  rw [List.length_set] at this
  exact this
theorem addMarks_snoc (l : List Int) (ms : List Flr) (m : Flr) : addMarks l (ms ++ [m]) = (addMarks l ms).set m.id.toNat (max ((addMarks l ms).getD m.id.toNat 0) m.inc) := by simp [addMarks]
def putT {α : Type} (t : List α) (K : Nat) (x : α) : List α := t.take K ++ x :: t.drop (K + 1)
open Classical in
noncomputable def tableAdd (t : List (List Int)) (k : Int) (ms : List Flr) : List (List Int) :=
 if (0 ≤ k ∧ k ≤ (t.length : Int) - 1) ∧ marksOk ms ∧ 5 ≤ (t.getD k.toNat []).length then putT t k.toNat (addMarks (t.getD k.toNat []) ms) else t
theorem putT_map {u : List RV} {K : Nat} {x : RV} : (putT u K x).map (·.l) = putT (u.map (·.l)) K x.l := by simp [putT,List.map_take,List.map_drop]
theorem putT_self {α : Type} {u : List α} {K : Nat} {x : α} (h : u[K]? = some x) : putT u K x = u := (split_at h).1.symm
theorem putT_get {α : Type} {u : List α} {K : Nat} {x : α} (h : K < u.length) : (putT u K x)[K]? = some x := by
 unfold putT
 rw [List.getElem?_append_right (by rw [List.length_take]; omega),List.length_take,show K - min K u.length = 0 by omega]
 rfl
theorem putT_len {α : Type} {u : List α} {K : Nat} {x : α} (h : K < u.length) : (putT u K x).length = u.length := by
 unfold putT
 rw [List.length_append,List.length_take,List.length_cons,List.length_drop]; omega
theorem OwnP.put {st st' : St} {q : Option Addr} {u : List RV} {K : Nat} {a : Option Addr} {l l' : List Int} (h : OwnP st (pcT q (putT u K ⟨a,l⟩))) (hp : Pr a st st') (ho : OwnR st' 1 fI a l') (hl : l'.length = l.length) : OwnP st' (pcT q (putT u K ⟨a,l'⟩)) := by
 have h1 : pcT q (putT u K ⟨a,l⟩) = (pcR 1 cRV q (putT u K ⟨a,l⟩) :: (u.take K).map pcRV) ++ pcRV ⟨a,l⟩ :: (u.drop (K + 1)).map pcRV := by simp [pcT,putT]
 have h2 : pcT q (putT u K ⟨a,l'⟩) = (pcR 1 cRV q (putT u K ⟨a,l⟩) :: (u.take K).map pcRV) ++ pcRV ⟨a,l'⟩ :: (u.drop (K + 1)).map pcRV := by simp [pcT,putT,pcR,hl]
 rw [h1] at h
 rw [h2]
 exact OwnP.update h hp (own_pc ho) rfl
theorem Frs.one {α : Type} {a b : St} {z : Nat} {f : α → List Value} {p : Option Addr} {l : List α} (hO : OwnR b z f p l) (hN : New a.next p) (hP : Pres a b) : Frs a b [pcR z f p l] := ⟨OwnP.one (own_pc hO),NewP.cons hN NewP.nil,hP⟩
theorem Frs.nil (a : St) : Frs a a [] := ⟨OwnP.nil,NewP.nil,Pres.refl _⟩
theorem Frs.later {a b c : St} {l : List Pc} (h : Frs a b l) (k : Pres b c) : Frs a c l := ⟨h.1.pres k,h.2.1,h.2.2.trans k⟩
theorem Frs.sooner {a b c : St} {l : List Pc} (h : Frs b c l) (k : Pres a b) : Frs a c l := ⟨h.1,h.2.1.le k.1,k.trans h.2.2⟩
theorem OwnP.swap {st st' : St} {a c d b : List Pc} (h : OwnP st (a ++ (c ++ b))) (hF : Frs st st' d) : OwnP st' (a ++ (d ++ b)) :=
 (OwnP.joinF (OwnP.right (OwnP.front1 h)) hF.2.2 hF.1 hF.2.1).front1
theorem NewP.left {n : Nat} {a b : List Pc} (h : NewP n (a ++ b)) : NewP n a := fun c hc => h c (List.mem_append_left _ hc)
theorem NewP.right {n : Nat} {a b : List Pc} (h : NewP n (a ++ b)) : NewP n b := fun c hc => h c (List.mem_append_right _ hc)
theorem Frs.swap {s0 st st' : St} {a c d b : List Pc} (h : Frs s0 st (a ++ (c ++ b))) (hF : Frs st st' d) : Frs s0 st' (a ++ (d ++ b)) :=
 ⟨h.1.swap hF,h.2.1.left.app ((hF.2.1.le h.2.2.1).app h.2.1.right.right),h.2.2.trans hF.2.2⟩
theorem Frs.sess {s0 st st' : St} {v : NW} {q : SesV} (h : Frs s0 st (pcNW v)) (hF : Frs st st' (pcSes q)) : Frs s0 st' (pcNW { v with sess := q }) := by
 have e : ∀ x : SesV,pcNW { v with sess := x } = (pcS v.s ++ (pcIs v.t.toRV ++ (pcLog v.g ++ (pcIs v.got ++ (pcIs v.acked ++ pcTT v.seen))))) ++ (pcSes x ++ pcRis v.rises) := fun x => by simp only [List.append_assoc]
 rw [e]
 exact Frs.swap (c := pcSes v.sess) (by rw [← e]; exact h) hF
def cmpI (a b : Int) : Int := if a < b then -1 else if a > b then 1 else 0
def firstNZ : List Int → Int
 | [] => 0
 | x :: l => if x = 0 then firstNZ l else x
def cmpB (a b : ByteArray) : Int := Lib.compareBytes a.data.toList b.data.toList
def entCmp (a b : Ent) : Int := firstNZ [cmpI a.inc b.inc,cmpI a.rank b.rank,cmpI a.beat b.beat,cmpI a.ver b.ver,cmpB a.data b.data]
def entMax (a b : Ent) : Ent := if entCmp a b < 0 then b else a
theorem compareBytes_less : ∀ (a b : List UInt8),Lib.compareBytes a b = if Op.bytesLess a b = true then -1 else if (a == b) = true then 0 else 1
 | [],[] => by simp [Lib.compareBytes,Op.bytesLess]
 | [],b :: bs => by simp [Lib.compareBytes,Op.bytesLess]
 | a :: l,[] => by simp [Lib.compareBytes,Op.bytesLess]
 | a :: l,b :: bs => by
  have ih := compareBytes_less l bs
  unfold Lib.compareBytes
  by_cases h1 : a < b
  ·simp [Op.bytesLess,h1]
  ·by_cases h2 : b < a
   ·have hne : ¬ a = b := fun h => by rw [h] at h2; exact UInt8.lt_irrefl _ h2
    simp [Op.bytesLess,h1,h2,hne]
   ·have he : a = b := UInt8.le_antisymm (UInt8.not_lt.1 h2) (UInt8.not_lt.1 h1)
    subst he
    simp only [h1,if_false,ih,Op.bytesLess,beq_self_eq_true,Bool.true_and,Bool.false_or,decide_false]
    simp
theorem ac_cmpstring (a b : ByteArray) (st : St) : C 90 [.string a,.string b] st (fun v s => v = vI (cmpB a b) ∧ s = st) :=
 AC.ext Tryd.func90 rfl rfl ⟨rfl,rfl⟩
theorem ac_bytealg_CompareString (a b : ByteArray) (st : St) : C 86 [.string a,.string b] st (fun v s => v = vI (cmpB a b) ∧ s = st) := by
 refine AC.enterX (i := ⟨[],[],[0,1,4],[]⟩) [] Tryd.func86 rfl rfl (by kernel_rfl) (by kernel_rfl) Tryd.ntmps86 (Lb rfl) rfl ?_
 refine Cu lo0 st [(0,.string a),(1,.string b),(4,vI 0)] fun _ => ?_
 refine ⟨_,rfl,(ac_cmpstring a b st).mono ?_⟩
 rintro _ st ⟨rfl,rfl⟩
 exact cxs (Rt ⟨rfl,rfl⟩)
theorem ac_strings_Compare (a b : ByteArray) (st : St) : C 80 [.string a,.string b] st (fun v s => v = vI (cmpB a b) ∧ s = st) := by
 refine AC.enterX (i := ⟨[],[],[0,1,4],[]⟩) [] Tryd.func80 rfl rfl (by kernel_rfl) (by kernel_rfl) Tryd.ntmps80 (Lb rfl) rfl ?_
 refine Cu lo0 st [(0,.string a),(1,.string b),(4,vI 0)] fun _ => ?_
 refine ⟨_,rfl,(ac_bytealg_CompareString a b st).mono ?_⟩
 rintro _ st ⟨rfl,rfl⟩
 exact cxs (Rt ⟨rfl,rfl⟩)
theorem ac_cmp_isNaN (a : Int) (st : St) : C 85 [vI a] st (fun v s => v = vB false ∧ s = st) := by
 refine AC.enterX (i := ⟨[],[],[0,2],[]⟩) [] Tryd.func85 rfl rfl (by kernel_rfl) (by kernel_rfl) Tryd.ntmps85 (Lb rfl) rfl ?_
 refine Cu lo0 st [(0,vI a),(2,vB false)] fun _ => ?_
 refine ⟨_,rfl,?_⟩
 rintro (_|_) h
 rotate_left
 ·exact absurd (rfl) (bne_iff_ne.1 h)
 exact cxs (Rt ⟨rfl,rfl⟩)
theorem ac_cmp_Compare (a b : Int) (st : St) : C 79 [vI a,vI b] st (fun v s => v = vI (cmpI a b) ∧ s = st) := by
 refine AC.enterX (i := ⟨[],[],[0,1,4,5,6,11,12,13,16,19],[]⟩) [] Tryd.func79 rfl rfl (by kernel_rfl) (by kernel_rfl) Tryd.ntmps79 (Lb rfl) rfl ?_
 refine Cu lo0 st [(0,vI a),(1,vI b),(4,vI 0)] fun _ => ?_
 refine ⟨_,rfl,(ac_cmp_isNaN a st).mono ?_⟩
 rintro _ st ⟨rfl,rfl⟩
 refine Cu lo0 st [(0,vI a),(1,vI b),(4,vI 0),(5,vB false)] fun _ => ?_
 refine ⟨_,rfl,(ac_cmp_isNaN b st).mono ?_⟩
 rintro _ st ⟨rfl,rfl⟩
 refine cxs ?_
 refine Cu lo0 st [(0,vI a),(1,vI b),(4,vI 0),(6,vB false),(11,vB false)] fun _ => ?_
 refine cxs ?_
 refine Cu lo0 st [(0,vI a),(1,vI b),(4,vI 0),(13,vB false)] fun _ => ?_
 refine cxs ?_
 refine ⟨_,rfl,?_⟩
 rintro (_|_) h1
 ·replace h1 : ¬ (a < b) := of_decide_eq_false h1
  refine Cu lo0 st [(0,vI a),(1,vI b),(4,vI 0),(16,vB false)] fun _ => ?_
  refine cxs ?_
  refine ⟨_,rfl,?_⟩
  rintro (_|_) h2
  ·replace h2 : ¬ (a > b) := of_decide_eq_false h2
   refine Cu lo0 st [(4,vI 0),(19,vB false)] fun _ => ?_
   refine cxs ?_
   exact cxs (Rt ⟨congrArg vI (by rw [cmpI,if_neg h1,if_neg h2]),rfl⟩)
  ·replace h2 : a > b := of_decide_eq_true h2
   refine Cu lo0 st [(4,vI 0),(19,vB true)] fun _ => ?_
   exact cxs (Rt ⟨congrArg vI (by rw [cmpI,if_neg h1,if_pos h2]),rfl⟩)
 ·replace h1 : a < b := of_decide_eq_true h1
  refine Cu lo0 st [(0,vI a),(1,vI b),(4,vI 0),(16,vB true)] fun _ => ?_
  exact cxs (Rt ⟨congrArg vI (by rw [cmpI,if_pos h1]),rfl⟩)
theorem ac_cmp_Or (p : Option Addr) (l : List Int) (st : St) (hR : Rows st 1 fI p l) (hs : szOk l.length) : C 78 [vS p l.length] st (fun v s => v = vI (firstNZ l) ∧ s = st) := by
 have hs : l.length ≤ 1048576 := hs
 refine AC.enterX (i := ⟨[],[],[0,2,3,5,6,7,8,9,14],[]⟩) [] Tryd.func78 rfl rfl (by kernel_rfl) (by kernel_rfl) Tryd.ntmps78 (Lb rfl) rfl ?_
 refine cxs ?_
 refine Cu lo0 st [(0,vS p l.length),(2,vI 0),(3,vI 0)] fun _ => ?_
 refine ⟨_,rfl,?_⟩
 refine Cu lo0 st [(2,vI 0),(3,vI 0),(6,vS p l.length),(7,vI (l.length)),(8,vI 0)] fun _ => ?_
 refine AW.loop0 (fun i : Nat => [(3,vI 0),(6,vS p l.length),(7,vI (l.length : Int)),(8,vI (i : Int))]) (fun m (i : Nat) st' => m = l.length - i ∧ i ≤ l.length ∧ firstNZ l = firstNZ (l.drop i) ∧ st = st') 0 _ ⟨rfl,rfl,rfl,rfl,trivial⟩ rfl ⟨rfl,Nat.zero_le _,rfl,rfl⟩ ?_
 rintro m i ρ0 st' ⟨rfl,hi,hf,rfl⟩
 refine ⟨_,rfl,?_⟩
 rintro (_|_) h1
 ·replace h1 : ¬ ((i : Int) < (l.length : Int)) := of_decide_eq_false h1
  refine Cu lo0 st [(3,vI 0),(6,vS p l.length),(7,vI (l.length : Int)),(8,vI (i : Int)),(9,vB false)] fun _ => ?_
  refine cxs ?_
  refine cxs ?_
  have hil : i = l.length := by omega
  exact Rt ⟨congrArg vI (by rw [hf,hil,List.drop_length]; rfl),rfl⟩
 ·replace h1 : (i : Int) < (l.length : Int) := of_decide_eq_true h1
  refine Cu lo0 st [(3,vI 0),(6,vS p l.length),(7,vI (l.length : Int)),(8,vI (i : Int)),(9,vB true)] fun _ => ?_
  have h1' := Int.ofNat_lt.1 h1
  have ⟨b1,o1,k1,x,hpe,hx,hm1,hc1,hb1⟩ := hR.atB h1'
  rw [(split_at' hx).2.2,firstNZ] at hf
  refine cxs ?_
  refine ⟨_,op_idx (j := (i : Int)) (n := l.length) (q := ⟨b1,o1,none⟩) rfl (congrArg (fun u => vS u l.length) hpe) rfl rfl rfl (Int.natCast_nonneg _) h1,?_⟩
  refine ⟨_,op_ldc (i := 0) rfl rfl rfl rfl hm1 hc1 rfl rfl,?_⟩
  refine Cu lo0 st [(3,vI 0),(5,vI x),(6,vS p l.length),(7,vI (l.length : Int)),(8,vI (i : Int)),(9,vB true)] fun _ => ?_
  refine ⟨_,rfl,?_⟩
  rintro (_|_) h2
  ·replace h2 : x = 0 := bne_eq_false_iff_eq.1 h2
   refine Cu lo0 st [(3,vI 0),(5,vI x),(6,vS p l.length),(7,vI (l.length : Int)),(8,vI (i : Int)),(9,vB true),(14,vB false)] fun _ => ?_
   refine cxs ?_
   have e16 : IntKind.wrap .i64 ((i : Int) + 1) = ((i + 1 : Nat) : Int) := (wrap_i64 (by omega) (by omega)).trans (by omega)
   refine ⟨_,rfl,?_⟩
   exact ⟨i + 1,l.length - (i + 1),by omega,⟨rfl,rfl,rfl,congrArg (Value.int .i64) e16,trivial⟩,rfl,rfl,h1',by rw [hf,if_pos h2],rfl⟩
  ·replace h2 : ¬ (x = 0) := bne_iff_ne.1 h2
   refine Cu lo0 st [(3,vI 0),(5,vI x),(6,vS p l.length),(7,vI (l.length : Int)),(8,vI (i : Int)),(9,vB true),(14,vB true)] fun _ => ?_
   exact cxs (Rt ⟨congrArg vI (by rw [hf,if_neg h2]),rfl⟩)
theorem ac_impl_EntryCmp (a b : Ent) (st : St) : C 68 [.agg #[vI a.inc,vI a.rank,vI a.beat,vI a.ver,.string a.data],.agg #[vI b.inc,vI b.rank,vI b.beat,vI b.ver,.string b.data]] st (fun v s => v = vI (entCmp a b) ∧ Pres st s) := by
 refine AC.enterX (i := ⟨[2,3],[2,3,5,7,10,12,15,17,20,22,25,27],[0,1,2,3,4],[]⟩) [(1,[4,9,14,19],[6,8,11,13,16,18,21,23])] Tryd.func68 rfl rfl (by kernel_rfl) (by kernel_rfl) Tryd.ntmps68 (Lb rfl) rfl ?_
 iterate 2 refine ⟨_,rfl,?_⟩
 refine Cm 2 st [Ml 2 0,Ml 3 1,(4,vI 0)] [(2,0,[vI a.inc,vI a.rank,vI a.beat,vI a.ver,.string a.data]),(3,1,[vI b.inc,vI b.rank,vI b.beat,vI b.ver,.string b.data])] fun _ _ => ?_
 iterate 4 refine ⟨_,rfl,?_⟩
 refine ⟨_,rfl,(ac_cmp_Compare a.inc b.inc st).mono ?_⟩
 rintro _ st ⟨rfl,rfl⟩
 refine ⟨fun _ _ => rfl,?_⟩
 iterate 2 refine ⟨_,rfl,?_⟩
 refine ⟨ld_own rfl rfl rfl,?_⟩
 iterate 2 refine ⟨_,rfl,?_⟩
 refine ⟨ld_own rfl rfl rfl,?_⟩
 refine ⟨_,rfl,(ac_cmp_Compare a.rank b.rank st).mono ?_⟩
 rintro _ st ⟨rfl,rfl⟩
 refine ⟨fun _ _ => rfl,?_⟩
 iterate 2 refine ⟨_,rfl,?_⟩
 refine ⟨ld_own rfl rfl rfl,?_⟩
 iterate 2 refine ⟨_,rfl,?_⟩
 refine ⟨ld_own rfl rfl rfl,?_⟩
 refine ⟨_,rfl,(ac_cmp_Compare a.beat b.beat st).mono ?_⟩
 rintro _ st ⟨rfl,rfl⟩
 refine ⟨fun _ _ => rfl,?_⟩
 iterate 2 refine ⟨_,rfl,?_⟩
 refine ⟨ld_own rfl rfl rfl,?_⟩
 iterate 2 refine ⟨_,rfl,?_⟩
 refine ⟨ld_own rfl rfl rfl,?_⟩
 refine ⟨_,rfl,(ac_cmp_Compare a.ver b.ver st).mono ?_⟩
 rintro _ st ⟨rfl,rfl⟩
 refine ⟨fun _ _ => rfl,?_⟩
 iterate 2 refine ⟨_,rfl,?_⟩
 refine ⟨ld_own rfl rfl rfl,?_⟩
 iterate 2 refine ⟨_,rfl,?_⟩
 refine ⟨ld_own rfl rfl rfl,?_⟩
 refine ⟨_,rfl,(ac_strings_Compare a.data b.data st).mono ?_⟩
 rintro _ st ⟨rfl,rfl⟩
 refine op_litI (k := .i64) (l := [cmpI a.inc b.inc,cmpI a.rank b.rank,cmpI a.beat b.beat,cmpI a.ver b.ver,cmpB a.data b.data]) rfl rfl rfl rfl rfl rfl (Lb rfl) ?_
 intro q s1 hO1 hP1 hN1
 refine ⟨_,rfl,(ac_cmp_Or q [cmpI a.inc b.inc,cmpI a.rank b.rank,cmpI a.beat b.beat,cmpI a.ver b.ver,cmpB a.data b.data] s1 (hO1.rows fI_len) (show 5 ≤ 1048576 by decide)).mono ?_⟩
 rintro _ s1 ⟨rfl,rfl⟩
 exact cxs (Rt ⟨rfl,hP1⟩)
theorem ac_impl_EntryMax (a b : Ent) (st : St) : C 51 [.agg #[vI a.inc,vI a.rank,vI a.beat,vI a.ver,.string a.data],.agg #[vI b.inc,vI b.rank,vI b.beat,vI b.ver,.string b.data]] st (fun v s => ∃ e,v = .agg #[vI e.inc,vI e.rank,vI e.beat,vI e.ver,.string e.data] ∧ e = entMax a b ∧ Pres st s) := by
 refine AC.enterX (i := ⟨[2,3,4],[2,3,4],[0,1,2,3,4,8],[]⟩) [] Tryd.func51 rfl rfl (by kernel_rfl) (by kernel_rfl) Tryd.ntmps51 (Lb rfl) rfl ?_
 iterate 3 refine ⟨_,rfl,?_⟩
 refine Cm 3 st [Ml 2 0,Ml 3 1,Ml 4 2] [(2,0,[vI a.inc,vI a.rank,vI a.beat,vI a.ver,.string a.data]),(3,1,[vI b.inc,vI b.rank,vI b.beat,vI b.ver,.string b.data]),(4,2,[vI 0,vI 0,vI 0,vI 0,.string ⟨#[]⟩])] fun _ _ => ?_
 iterate 2 refine ⟨_,rfl,?_⟩
 refine ⟨_,rfl,(ac_impl_EntryCmp a b st).mono ?_⟩
 rintro _ s1 ⟨rfl,hP1⟩
 refine ⟨_,rfl,?_⟩
 rintro (_|_) h1
 ·replace h1 : ¬ (entCmp a b < 0) := of_decide_eq_false h1
  refine Cm 3 s1 [Ml 2 0,Ml 3 1,Ml 4 2,(8,vB false)] [(2,0,[vI a.inc,vI a.rank,vI a.beat,vI a.ver,.string a.data]),(3,1,[vI b.inc,vI b.rank,vI b.beat,vI b.ver,.string b.data]),(4,2,[vI 0,vI 0,vI 0,vI 0,.string ⟨#[]⟩])] fun _ _ => ?_
  refine cxs ?_
  iterate 2 refine ⟨_,rfl,?_⟩
  exact cxs (Rt ⟨a,rfl,by rw [entMax,if_neg h1],hP1⟩)
 ·replace h1 : entCmp a b < 0 := of_decide_eq_true h1
  refine Cm 3 s1 [Ml 2 0,Ml 3 1,Ml 4 2,(8,vB true)] [(2,0,[vI a.inc,vI a.rank,vI a.beat,vI a.ver,.string a.data]),(3,1,[vI b.inc,vI b.rank,vI b.beat,vI b.ver,.string b.data]),(4,2,[vI 0,vI 0,vI 0,vI 0,.string ⟨#[]⟩])] fun _ _ => ?_
  iterate 2 refine ⟨_,rfl,?_⟩
  exact cxs (Rt ⟨b,rfl,by rw [entMax,if_pos h1],hP1⟩)
theorem ac_spec_l1BitT (st : St) : C 70 [vB true] st (fun v s => v = vI 1 ∧ s = st) := by
 refine AC.enterX (i := ⟨[],[],[0,2,3],[]⟩) [] Tryd.func70 rfl rfl (by kernel_rfl) (by kernel_rfl) Tryd.ntmps70 (Lb rfl) rfl ?_
 refine cxs ?_
 refine Cu lo0 st [(2,vI 0),(3,vB true)] fun _ => ?_
 exact cxs (Rt ⟨rfl,rfl⟩)
theorem ac_spec_l1BitF (st : St) : C 70 [vB false] st (fun v s => v = vI 0 ∧ s = st) := by
 refine AC.enterX (i := ⟨[],[],[0,2,3],[]⟩) [] Tryd.func70 rfl rfl (by kernel_rfl) (by kernel_rfl) Tryd.ntmps70 (Lb rfl) rfl ?_
 refine cxs ?_
 refine Cu lo0 st [(2,vI 0),(3,vB false)] fun _ => ?_
 refine cxs ?_
 exact cxs (Rt ⟨rfl,rfl⟩)
theorem ac_spec_l2Cmp (a b : Int) (st : St) : C 69 [vI a,vI b] st (fun v s => v = vI (cmpI a b) ∧ s = st) := by
 refine AC.enterX (i := ⟨[],[],[0,1,4,7],[]⟩) [] Tryd.func69 rfl rfl (by kernel_rfl) (by kernel_rfl) Tryd.ntmps69 (Lb rfl) rfl ?_
 refine Cu lo0 st [(0,vI a),(1,vI b),(4,vI 0)] fun _ => ?_
 refine ⟨_,rfl,?_⟩
 rintro (_|_) h1
 ·replace h1 : ¬ (a < b) := of_decide_eq_false h1
  refine Cu lo0 st [(0,vI a),(1,vI b),(4,vI 0),(7,vB false)] fun _ => ?_
  refine cxs ?_
  refine ⟨_,rfl,?_⟩
  rintro (_|_) h2
  ·replace h2 : ¬ (a > b) := of_decide_eq_false h2
   refine ⟨_,rfl,(ac_spec_l1BitF st).mono ?_⟩
   rintro _ st ⟨rfl,rfl⟩
   exact cxs (Rt ⟨congrArg vI (by rw [cmpI,if_neg h1,if_neg h2]),rfl⟩)
  ·replace h2 : a > b := of_decide_eq_true h2
   refine ⟨_,rfl,(ac_spec_l1BitT st).mono ?_⟩
   rintro _ st ⟨rfl,rfl⟩
   exact cxs (Rt ⟨congrArg vI (by rw [cmpI,if_neg h1,if_pos h2]),rfl⟩)
 ·replace h1 : a < b := of_decide_eq_true h1
  refine Cu lo0 st [(0,vI a),(1,vI b),(4,vI 0),(7,vB true)] fun _ => ?_
  exact cxs (Rt ⟨congrArg vI (by rw [cmpI,if_pos h1]),rfl⟩)
abbrev four (a b : Ent) : List Int := [cmpI a.inc b.inc,cmpI a.rank b.rank,cmpI a.beat b.beat,cmpI a.ver b.ver]
theorem ac_spec_EntryCmp (a b : Ent) (st : St) : C 54 [.agg #[vI a.inc,vI a.rank,vI a.beat,vI a.ver,.string a.data],.agg #[vI b.inc,vI b.rank,vI b.beat,vI b.ver,.string b.data]] st (fun v s => v = vI (entCmp a b) ∧ Pres st s) := by
 refine AC.enterX (i := ⟨[2,3],[2,3,7,9,12,14,17,19,22,24,43,45,48,50],[0,1,2,3,4,5,6,31,38,47],[]⟩) [(1,[4,9,14],[6,8,11,13,16,18])] Tryd.func54 rfl rfl (by kernel_rfl) (by kernel_rfl) Tryd.ntmps54 (Lb rfl) rfl ?_
 iterate 2 refine ⟨_,rfl,?_⟩
 refine Cm 2 st [Ml 2 0,Ml 3 1,(4,vI 0)] [(2,0,[vI a.inc,vI a.rank,vI a.beat,vI a.ver,.string a.data]),(3,1,[vI b.inc,vI b.rank,vI b.beat,vI b.ver,.string b.data])] fun _ _ => ?_
 iterate 4 refine ⟨_,rfl,?_⟩
 refine ⟨_,rfl,(ac_spec_l2Cmp a.inc b.inc st).mono ?_⟩
 rintro _ st ⟨rfl,rfl⟩
 refine ⟨fun _ _ => rfl,?_⟩
 iterate 2 refine ⟨_,rfl,?_⟩
 refine ⟨ld_own rfl rfl rfl,?_⟩
 iterate 2 refine ⟨_,rfl,?_⟩
 refine ⟨ld_own rfl rfl rfl,?_⟩
 refine ⟨_,rfl,(ac_spec_l2Cmp a.rank b.rank st).mono ?_⟩
 rintro _ st ⟨rfl,rfl⟩
 refine ⟨fun _ _ => rfl,?_⟩
 iterate 2 refine ⟨_,rfl,?_⟩
 refine ⟨ld_own rfl rfl rfl,?_⟩
 iterate 2 refine ⟨_,rfl,?_⟩
 refine ⟨ld_own rfl rfl rfl,?_⟩
 refine ⟨_,rfl,(ac_spec_l2Cmp a.beat b.beat st).mono ?_⟩
 rintro _ st ⟨rfl,rfl⟩
 refine ⟨fun _ _ => rfl,?_⟩
 iterate 2 refine ⟨_,rfl,?_⟩
 refine ⟨ld_own rfl rfl rfl,?_⟩
 iterate 2 refine ⟨_,rfl,?_⟩
 refine ⟨ld_own rfl rfl rfl,?_⟩
 refine ⟨_,rfl,(ac_spec_l2Cmp a.ver b.ver st).mono ?_⟩
 rintro _ st ⟨rfl,rfl⟩
 refine op_litI (k := .i64) (l := four a b) rfl rfl rfl rfl rfl rfl (Lb rfl) ?_
 intro q s1 hO1 hP1 hN1
 refine cxs ?_
 refine Cm 2 s1 [Ml 2 0,Ml 3 1,(4,vI 0),(5,vS q 4),(6,vI 0)] [(2,0,[vI a.inc,vI a.rank,vI a.beat,vI a.ver,.string a.data]),(3,1,[vI b.inc,vI b.rank,vI b.beat,vI b.ver,.string b.data])] fun _ _ => ?_
 refine AW.loopM (fun i : Nat => [(2,vL 2 0 (0)),(3,vL 3 0 (1)),(5,vS q 4),(6,vI (i : Int))]) (fun i : Nat => [(2,0,[vI a.inc,vI a.rank,vI a.beat,vI a.ver,.string a.data]),(3,1,[vI b.inc,vI b.rank,vI b.beat,vI b.ver,.string b.data])]) (fun m (i : Nat) st' => m = 4 - i ∧ i ≤ 4 ∧ entCmp a b = firstNZ ((four a b).drop i ++ [cmpB a.data b.data]) ∧ s1 = st') 0 _ ⟨rfl,rfl,rfl,rfl,trivial⟩ ⟨rfl,rfl,trivial⟩ ⟨rfl,Nat.zero_le _,rfl,rfl⟩ ?_
 rintro m i ρ0 ff gg st' ⟨rfl,hi,hf,rfl⟩
 iterate 2 refine ⟨_,rfl,?_⟩
 rintro (_|_) h1
 ·replace h1 : ¬ ((i : Int) < 4) := of_decide_eq_false h1
  refine Cm gg s1 [Ml 2 0,Ml 3 1,(5,vS q 4),(6,vI (i : Int)),(31,vB false)] [(2,0,[vI a.inc,vI a.rank,vI a.beat,vI a.ver,.string a.data]),(3,1,[vI b.inc,vI b.rank,vI b.beat,vI b.ver,.string b.data])] fun _ _ => ?_
  have hil : i = 4 := by omega
  have hf : entCmp a b = firstNZ [cmpB a.data b.data] := by rw [hf,hil]; rfl
  have hf : entCmp a b = cmpB a.data b.data := by rw [hf,firstNZ,firstNZ]; split <;> simp [*]
  have hcb := compareBytes_less a.data.data.toList b.data.data.toList
  have hcb : cmpB a.data b.data = if Op.bytesLess a.data.toList b.data.toList = true then -1 else if (a.data.toList == b.data.toList) = true then 0 else 1 := by rw [ByteArray.toList_eq,ByteArray.toList_eq]; exact hcb
  refine cxs ?_
  refine ⟨_,rfl,?_⟩
  refine ⟨_,Od rfl,?_⟩
  refine ⟨_,rfl,?_⟩
  refine ⟨_,Od rfl,?_⟩
  refine ⟨_,rfl,?_⟩
  rintro (_|_) h3
  ·refine Cm gg s1 [Ml 2 0,Ml 3 1,(47,vB false)] [(2,0,[vI a.inc,vI a.rank,vI a.beat,vI a.ver,.string a.data]),(3,1,[vI b.inc,vI b.rank,vI b.beat,vI b.ver,.string b.data])] fun _ _ => ?_
   refine cxs ?_
   refine ⟨_,rfl,?_⟩
   refine ⟨_,Od rfl,?_⟩
   refine ⟨_,rfl,?_⟩
   refine ⟨_,Od rfl,?_⟩
   refine ⟨_,rfl,?_⟩
   rintro (_|_) h4
   ·refine ⟨_,rfl,(ac_spec_l1BitF s1).mono ?_⟩
    rintro _ s1 ⟨rfl,rfl⟩
    refine cxs ?_
    have h3 : Op.bytesLess a.data.toList b.data.toList = false := h3
    have h4 : (!(Op.bytesLess a.data.toList b.data.toList || a.data.toList == b.data.toList)) = false := h4
    have h5 : (a.data.toList == b.data.toList) = true := by rw [h3,Bool.false_or] at h4; simpa using h4
    exact Rt ⟨congrArg vI (by rw [hf,hcb,h3,h5]; rfl),hP1⟩
   ·refine ⟨_,rfl,(ac_spec_l1BitT s1).mono ?_⟩
    rintro _ s1 ⟨rfl,rfl⟩
    refine cxs ?_
    have h3 : Op.bytesLess a.data.toList b.data.toList = false := h3
    have h4 : (!(Op.bytesLess a.data.toList b.data.toList || a.data.toList == b.data.toList)) = true := h4
    have h5 : (a.data.toList == b.data.toList) = false := by rw [h3,Bool.false_or] at h4; simpa using h4
    exact Rt ⟨congrArg vI (by rw [hf,hcb,h3,h5]; rfl),hP1⟩
  ·refine Cm gg s1 [Ml 2 0,Ml 3 1,(47,vB true)] [(2,0,[vI a.inc,vI a.rank,vI a.beat,vI a.ver,.string a.data]),(3,1,[vI b.inc,vI b.rank,vI b.beat,vI b.ver,.string b.data])] fun _ _ => ?_
   refine cxs ?_
   have h3 : Op.bytesLess a.data.toList b.data.toList = true := h3
   exact Rt ⟨congrArg vI (by rw [hf,hcb,if_pos h3]),hP1⟩
 ·replace h1 : (i : Int) < 4 := of_decide_eq_true h1
  refine Cm gg s1 [Ml 2 0,Ml 3 1,(5,vS q 4),(6,vI (i : Int)),(31,vB true)] [(2,0,[vI a.inc,vI a.rank,vI a.beat,vI a.ver,.string a.data]),(3,1,[vI b.inc,vI b.rank,vI b.beat,vI b.ver,.string b.data])] fun _ _ => ?_
  have h1' : i < (four a b).length := by simp only [List.length_cons,List.length_nil]; omega
  have ⟨b1,o1,k1,x,hpe,hx,hm1,hc1,hb1⟩ := (hO1.rows fI_len).atB h1'
  rw [(split_at' hx).2.2,List.cons_append,firstNZ] at hf
  refine cxs ?_
  refine ⟨_,op_idx (j := (i : Int)) (n := 4) (q := ⟨b1,o1,none⟩) rfl (congrArg (fun u => vS u 4) hpe) rfl rfl rfl (Int.natCast_nonneg _) h1,?_⟩
  refine ⟨_,op_ldc (i := 0) rfl rfl rfl rfl hm1 hc1 rfl rfl,?_⟩
  refine ⟨_,rfl,?_⟩
  rintro (_|_) h2
  ·replace h2 : x = 0 := bne_eq_false_iff_eq.1 h2
   refine Cm gg s1 [Ml 2 0,Ml 3 1,(5,vS q 4),(6,vI (i : Int)),(31,vB true),(38,vB false)] [(2,0,[vI a.inc,vI a.rank,vI a.beat,vI a.ver,.string a.data]),(3,1,[vI b.inc,vI b.rank,vI b.beat,vI b.ver,.string b.data])] fun _ _ => ?_
   refine cxs ?_
   have e33 : IntKind.wrap .i64 ((i : Int) + 1) = ((i + 1 : Nat) : Int) := (wrap_i64 (by omega) (by omega)).trans (by omega)
   refine ⟨_,rfl,?_⟩
   exact ⟨i + 1,4 - (i + 1),by omega,⟨rfl,rfl,rfl,congrArg (Value.int .i64) e33,trivial⟩,⟨rfl,rfl,trivial⟩,rfl,by omega,by rw [hf,if_pos h2],rfl⟩
  ·replace h2 : ¬ (x = 0) := bne_iff_ne.1 h2
   refine Cm gg s1 [Ml 2 0,Ml 3 1,(5,vS q 4),(6,vI (i : Int)),(31,vB true),(38,vB true)] [(2,0,[vI a.inc,vI a.rank,vI a.beat,vI a.ver,.string a.data]),(3,1,[vI b.inc,vI b.rank,vI b.beat,vI b.ver,.string b.data])] fun _ _ => ?_
   refine ⟨_,op_idx (j := (i : Int)) (n := 4) (q := ⟨b1,o1,none⟩) rfl (congrArg (fun u => vS u 4) hpe) rfl rfl rfl (Int.natCast_nonneg _) h1,?_⟩
   refine ⟨_,op_ldc (i := 0) rfl rfl rfl rfl hm1 hc1 rfl rfl,?_⟩
   exact cxs (Rt ⟨congrArg vI (by rw [hf,if_neg h2]),hP1⟩)
abbrev topF (a b : Sta) (id : Int) : Int := max (floorOf a.floors id) (floorOf b.floors id)
abbrev topE (a b : Sta) (id : Int) : Ent := entMax (entP a.items id).1 (entP b.items id).1
def joinF (a b : Sta) (n : Nat) : Sta := ⟨(List.range n).filterMap fun (j : Nat) => if (topE a b (j : Int)).inc > topF a b (j : Int) then some ⟨(j : Int),topE a b (j : Int)⟩ else none,
 (List.range n).filterMap fun (j : Nat) => if topF a b (j : Int) > 0 then some ⟨(j : Int),topF a b (j : Int)⟩ else none⟩
theorem joinF_items (a b : Sta) (n : Nat) : (joinF a b (n + 1)).items = if (topE a b (n : Int)).inc > topF a b (n : Int) then (joinF a b n).items ++ [⟨(n : Int),topE a b (n : Int)⟩] else (joinF a b n).items := by
 unfold joinF
 simp only [List.range_succ,List.filterMap_append]
 split <;> simp [*]
theorem joinF_floors (a b : Sta) (n : Nat) : (joinF a b (n + 1)).floors = if topF a b (n : Int) > 0 then (joinF a b n).floors ++ [⟨(n : Int),topF a b (n : Int)⟩] else (joinF a b n).floors := by
 unfold joinF
 simp only [List.range_succ,List.filterMap_append]
 split <;> simp [*]
theorem joinF_len (a b : Sta) : ∀ n,(joinF a b n).items.length ≤ n ∧ (joinF a b n).floors.length ≤ n
 | 0 => by simp [joinF]
 | n + 1 => by
  have := joinF_len a b n
  rw [joinF_items,joinF_floors]
  refine ⟨?_,?_⟩ <;> split <;> (try rw [List.length_append,List.length_singleton]) <;> omega
theorem pcS_items {st st' : St} {q1 q2 q : Option Addr} {l1 l1' : List Itm} {l2 : List Flr} (h : OwnP st [pcR 6 cItm q1 l1,pcR 2 cFlr q2 l2]) (hp : Pr q1 st st') (ho : OwnR st' 6 cItm q l1') (hn : New st.next q) : OwnP st' [pcR 6 cItm q l1',pcR 2 cFlr q2 l2] :=
 OwnP.renew (l := []) (m := [pcR 2 cFlr q2 l2]) h hp (own_pc ho) hn
theorem pcS_floors {st st' : St} {q1 q2 q : Option Addr} {l1 : List Itm} {l2 l2' : List Flr} (h : OwnP st [pcR 6 cItm q1 l1,pcR 2 cFlr q2 l2]) (hp : Pr q2 st st') (ho : OwnR st' 2 cFlr q l2') (hn : New st.next q) : OwnP st' [pcR 6 cItm q1 l1,pcR 2 cFlr q l2'] :=
 OwnP.renew (l := [pcR 6 cItm q1 l1]) (m := []) h hp (own_pc ho) hn
theorem pcS_i {st : St} {q1 q2 : Option Addr} {l1 : List Itm} {l2 : List Flr} (h : OwnP st [pcR 6 cItm q1 l1,pcR 2 cFlr q2 l2]) : OwnR st 6 cItm q1 l1 := pc_own (by decide) len_cItm (h.1 _ (List.mem_cons_self ..))
theorem pcS_f {st : St} {q1 q2 : Option Addr} {l1 : List Itm} {l2 : List Flr} (h : OwnP st [pcR 6 cItm q1 l1,pcR 2 cFlr q2 l2]) : OwnR st 2 cFlr q2 l2 := pc_own (by decide) len_cFlr (h.1 _ (List.mem_cons_of_mem _ (List.mem_cons_self ..)))
theorem ac_impl_stateJoin (A B : SV) (st : St) (hA : RdS st A) (hB : RdS st B) (ha : bigS A.x) (hb : bigS B.x) : C 26 [.agg #[vS A.p A.x.items.length,vS A.q A.x.floors.length],.agg #[vS B.p B.x.items.length,vS B.q B.x.floors.length]] st (fun v s => ∃ u : SV,v = .agg #[vS u.p u.x.items.length,vS u.q u.x.floors.length] ∧ u.x = joinF A.x B.x 5 ∧ OwnP s (pcS u) ∧ NewP st.next (pcS u) ∧ Pres st s) := by
 refine AC.enterX (i := ⟨[2,3,4,5,7,9,11],[2,3,4,5,7,9,11,40,44,51,54,61],[0,1,2,3,4,5,6,7,9,11,12,15,43,53],[]⟩) [(8,[2],[3])] Tryd.func26 rfl rfl (by kernel_rfl) (by kernel_rfl) Tryd.ntmps26 (Lb rfl) rfl ?_
 iterate 3 refine ⟨_,rfl,?_⟩
 refine Cm 3 st [Ml 2 0,Ml 3 1,Ml 4 2] [(2,0,cSV A),(3,1,cSV B),(4,2,[Sn,Sn])] fun _ _ => ?_
 iterate 3 refine ⟨_,rfl,?_⟩
 refine cxs ?_
 refine Cm 4 st [Ml 2 0,Ml 3 1,Ml 4 2,Ml 5 3,(6,vI 0)] [(2,0,cSV A),(3,1,cSV B),(4,2,[Sn,Sn]),(5,3,[Sn,Sn])] fun _ _ => ?_
 refine AW.loopM (fun x : Nat × Option Addr × Option Addr => [(2,vL 2 0 (0)),(3,vL 3 0 (1)),(4,vL 4 0 (2)),(5,vL 5 0 (3)),(6,vI (x.1 : Int))]) (fun x : Nat × Option Addr × Option Addr => [(2,0,[vS A.p A.x.items.length,vS A.q A.x.floors.length]),(3,1,[vS B.p B.x.items.length,vS B.q B.x.floors.length]),(4,2,[.slice none 0 0,.slice none 0 0]),(5,3,[vS x.2.1 (joinF A.x B.x x.1).items.length,vS x.2.2 (joinF A.x B.x x.1).floors.length])]) (fun m (x : Nat × Option Addr × Option Addr) st' => m = 5 - x.1 ∧ x.1 ≤ 5 ∧ OwnP st' [pcR 6 cItm x.2.1 (joinF A.x B.x x.1).items,pcR 2 cFlr x.2.2 (joinF A.x B.x x.1).floors] ∧ New st.next x.2.1 ∧ New st.next x.2.2 ∧ Pres st st') (0,none,none) _ ⟨rfl,rfl,rfl,rfl,rfl,trivial⟩ ⟨rfl,rfl,rfl,rfl,trivial⟩ ⟨rfl,Nat.zero_le _,pcS_nil,New.none,New.none,Pres.refl _⟩ ?_
 rintro m ⟨i,q1,q2⟩ ρ0 ff gg st' ⟨rfl,hi,hO,hN1,hN2,hP⟩
 simp only at hi hO hN1 hN2
 have hJ := joinF_len A.x B.x i
 have hJi := joinF_items A.x B.x i
 have hJf := joinF_floors A.x B.x i
 refine ⟨_,rfl,?_⟩
 rintro (_|_) h1
 ·replace h1 : ¬ ((i : Int) < 5) := of_decide_eq_false h1
  refine Cm gg st' [Ml 2 0,Ml 3 1,Ml 4 2,Ml 5 3,(6,vI (i : Int)),(15,vB false)] [(2,0,cSV A),(3,1,cSV B),(4,2,[Sn,Sn]),(5,3,[vS q1 (joinF A.x B.x i).items.length,vS q2 (joinF A.x B.x i).floors.length])] fun _ _ => ?_
  refine cxs ?_
  refine ⟨_,Od rfl,?_⟩
  refine ⟨_,Os rfl,?_⟩
  refine cxs ?_
  have hil : i = 5 := by omega
  subst hil
  exact Rt ⟨⟨q1,q2,joinF A.x B.x 5⟩,rfl,rfl,hO,NewP.cons hN1 (NewP.cons hN2 NewP.nil),hP⟩
 ·replace h1 : (i : Int) < 5 := of_decide_eq_true h1
  refine Cm gg st' [Ml 2 0,Ml 3 1,Ml 4 2,Ml 5 3,(6,vI (i : Int)),(15,vB true)] [(2,0,cSV A),(3,1,cSV B),(4,2,[Sn,Sn]),(5,3,[vS q1 (joinF A.x B.x i).items.length,vS q2 (joinF A.x B.x i).floors.length])] fun _ _ => ?_
  refine cxs ?_
  refine ⟨_,Od rfl,?_⟩
  refine ⟨_,rfl,(ac_impl_EntryOf A i st' (hA.pres hP) ha).mono ?_⟩
  rintro _ st' ⟨e1,b1,rfl,he1,rfl⟩
  iterate 3 refine ⟨_,rfl,?_⟩
  refine ⟨_,Os rfl,?_⟩
  refine Cm (gg + 1) st' [Ml 2 0,Ml 3 1,Ml 4 2,Ml 5 3,(6,vI (i : Int)),Ml 7 gg,(15,vB true)] [(2,0,cSV A),(3,1,cSV B),(4,2,[Sn,Sn]),(5,3,[vS q1 (joinF A.x B.x i).items.length,vS q2 (joinF A.x B.x i).floors.length]),(7,gg,[vI e1.inc,vI e1.rank,vI e1.beat,vI e1.ver,.string e1.data])] fun _ _ => ?_
  refine ⟨_,Od rfl,?_⟩
  refine ⟨_,rfl,(ac_impl_EntryOf B i st' (hB.pres hP) hb).mono ?_⟩
  rintro _ st' ⟨e2,b2,rfl,he2,rfl⟩
  iterate 3 refine ⟨_,rfl,?_⟩
  refine ⟨_,Os rfl,?_⟩
  refine Cm (gg + 2) st' [Ml 2 0,Ml 3 1,Ml 4 2,Ml 5 3,(6,vI (i : Int)),Ml 7 gg,(9,vL 9 0 (gg + 1)),(15,vB true)] [(2,0,cSV A),(3,1,cSV B),(4,2,[Sn,Sn]),(5,3,[vS q1 (joinF A.x B.x i).items.length,vS q2 (joinF A.x B.x i).floors.length]),(7,gg,[vI e1.inc,vI e1.rank,vI e1.beat,vI e1.ver,.string e1.data]),(9,gg + 1,[vI e2.inc,vI e2.rank,vI e2.beat,vI e2.ver,.string e2.data])] fun _ _ => ?_
  refine ⟨_,Od rfl,?_⟩
  refine ⟨_,Od rfl,?_⟩
  refine ⟨_,rfl,(ac_impl_EntryMax e1 e2 st').mono ?_⟩
  rintro _ s1 ⟨e,rfl,hem,hP1⟩
  refine ⟨_,rfl,?_⟩
  refine ⟨_,Os rfl,?_⟩
  refine Cm (gg + 3) s1 [Ml 2 0,Ml 3 1,Ml 4 2,Ml 5 3,(6,vI (i : Int)),Ml 7 gg,(9,vL 9 0 (gg + 1)),(11,vL 11 0 (gg + 2)),(15,vB true)] [(2,0,cSV A),(3,1,cSV B),(4,2,[Sn,Sn]),(5,3,[vS q1 (joinF A.x B.x i).items.length,vS q2 (joinF A.x B.x i).floors.length]),(7,gg,[vI e1.inc,vI e1.rank,vI e1.beat,vI e1.ver,.string e1.data]),(9,gg + 1,[vI e2.inc,vI e2.rank,vI e2.beat,vI e2.ver,.string e2.data]),(11,gg + 2,[vI e.inc,vI e.rank,vI e.beat,vI e.ver,.string e.data])] fun _ _ => ?_
  have hE : topE A.x B.x (i : Int) = e := by rw [topE,← he1,← he2,hem]
  have hO1 := hO.pres hP1
  have hP' := hP.trans hP1
  rw [hE] at hJi
  refine ⟨_,Od rfl,?_⟩
  refine ⟨_,rfl,(ac_impl_FloorOf A i s1 (hA.pres hP') ha).mono ?_⟩
  rintro _ s1 ⟨rfl,rfl⟩
  refine ⟨fun _ _ => rfl,?_⟩
  refine ⟨_,Od rfl,?_⟩
  refine ⟨ld_own rfl rfl rfl,?_⟩
  refine ⟨_,rfl,(ac_impl_FloorOf B i s1 (hB.pres hP') hb).mono ?_⟩
  rintro _ s1 ⟨rfl,rfl⟩
  refine ⟨.int .i64 (max (floorOf A.x.floors (i : Int)) (floorOf B.x.floors (i : Int))),ammL_max _ _,?_⟩
  refine Cm (gg + 3) s1 [Ml 2 0,Ml 3 1,Ml 4 2,Ml 5 3,(6,vI (i : Int)),Ml 7 gg,(9,vL 9 0 (gg + 1)),(11,vL 11 0 (gg + 2)),(12,vI (topF A.x B.x (i : Int))),(15,vB true)] [(2,0,cSV A),(3,1,cSV B),(4,2,[Sn,Sn]),(5,3,[vS q1 (joinF A.x B.x i).items.length,vS q2 (joinF A.x B.x i).floors.length]),(7,gg,[vI e1.inc,vI e1.rank,vI e1.beat,vI e1.ver,.string e1.data]),(9,gg + 1,[vI e2.inc,vI e2.rank,vI e2.beat,vI e2.ver,.string e2.data]),(11,gg + 2,[vI e.inc,vI e.rank,vI e.beat,vI e.ver,.string e.data])] fun _ _ => ?_
  refine ⟨_,rfl,?_⟩
  refine ⟨_,Od rfl,?_⟩
  refine ⟨_,rfl,?_⟩
  rintro (_|_) h2
  ·replace h2 : ¬ (e.inc > topF A.x B.x (i : Int)) := of_decide_eq_false h2
   refine Cm (gg + 3) s1 [Ml 2 0,Ml 3 1,Ml 4 2,Ml 5 3,(6,vI (i : Int)),Ml 7 gg,(9,vL 9 0 (gg + 1)),(11,vL 11 0 (gg + 2)),(12,vI (topF A.x B.x (i : Int))),(15,vB true),(43,vB false)] [(2,0,cSV A),(3,1,cSV B),(4,2,[Sn,Sn]),(5,3,[vS q1 (joinF A.x B.x i).items.length,vS q2 (joinF A.x B.x i).floors.length]),(7,gg,[vI e1.inc,vI e1.rank,vI e1.beat,vI e1.ver,.string e1.data]),(9,gg + 1,[vI e2.inc,vI e2.rank,vI e2.beat,vI e2.ver,.string e2.data]),(11,gg + 2,[vI e.inc,vI e.rank,vI e.beat,vI e.ver,.string e.data])] fun _ _ => ?_
   refine cxs ?_
   refine ⟨_,rfl,?_⟩
   rintro (_|_) h3
   ·replace h3 : ¬ (topF A.x B.x (i : Int) > 0) := of_decide_eq_false h3
    refine Cm (gg + 3) s1 [Ml 2 0,Ml 3 1,Ml 4 2,Ml 5 3,(6,vI (i : Int)),Ml 7 gg,(9,vL 9 0 (gg + 1)),(11,vL 11 0 (gg + 2)),(12,vI (topF A.x B.x (i : Int))),(15,vB true),(43,vB false),(53,vB false)] [(2,0,cSV A),(3,1,cSV B),(4,2,[Sn,Sn]),(5,3,[vS q1 (joinF A.x B.x i).items.length,vS q2 (joinF A.x B.x i).floors.length]),(7,gg,[vI e1.inc,vI e1.rank,vI e1.beat,vI e1.ver,.string e1.data]),(9,gg + 1,[vI e2.inc,vI e2.rank,vI e2.beat,vI e2.ver,.string e2.data]),(11,gg + 2,[vI e.inc,vI e.rank,vI e.beat,vI e.ver,.string e.data])] fun _ _ => ?_
    refine cxs ?_
    have e17 : IntKind.wrap .i64 ((i : Int) + 1) = ((i + 1 : Nat) : Int) := (wrap_i64 (by omega) (by omega)).trans (by omega)
    refine ⟨_,rfl,?_⟩
    rw [if_neg h2] at hJi
    rw [if_neg h3] at hJf
    exact ⟨(i + 1,q1,q2),5 - (i + 1),by omega,⟨rfl,rfl,rfl,rfl,congrArg (Value.int .i64) e17,trivial⟩,⟨rfl,rfl,rfl,(show some (3,[vS q1 (joinF A.x B.x i).items.length,vS q2 (joinF A.x B.x i).floors.length]) = some (3,[vS q1 (joinF A.x B.x (i + 1)).items.length,vS q2 (joinF A.x B.x (i + 1)).floors.length]) by rw [hJi,hJf]),trivial⟩,rfl,by omega,by rw [hJi,hJf]; exact hO1,hN1,hN2,hP'⟩
   ·replace h3 : topF A.x B.x (i : Int) > 0 := of_decide_eq_true h3
    refine Cm (gg + 3) s1 [Ml 2 0,Ml 3 1,Ml 4 2,Ml 5 3,(6,vI (i : Int)),Ml 7 gg,(9,vL 9 0 (gg + 1)),(11,vL 11 0 (gg + 2)),(12,vI (topF A.x B.x (i : Int))),(15,vB true),(43,vB false),(53,vB true)] [(2,0,cSV A),(3,1,cSV B),(4,2,[Sn,Sn]),(5,3,[vS q1 (joinF A.x B.x i).items.length,vS q2 (joinF A.x B.x i).floors.length]),(7,gg,[vI e1.inc,vI e1.rank,vI e1.beat,vI e1.ver,.string e1.data]),(9,gg + 1,[vI e2.inc,vI e2.rank,vI e2.beat,vI e2.ver,.string e2.data]),(11,gg + 2,[vI e.inc,vI e.rank,vI e.beat,vI e.ver,.string e.data])] fun _ _ => ?_
    refine ⟨_,rfl,?_⟩
    refine ⟨_,Od rfl,?_⟩
    refine ⟨_,rfl,?_⟩
    refine op_one (z := 2) (a := (⟨(i : Int),topF A.x B.x (i : Int)⟩ : Flr)) (f := cFlr) rfl rfl rfl rfl rfl (by decide) rfl (Lb rfl) rfl rfl rfl ?_
    refine op_add (z := 2) (st := s1) (f := cFlr) (b := 16) (l := (joinF A.x B.x i).floors) rfl rfl rfl rfl rfl rfl rfl (by decide) len_cFlr rfl rfl rfl (by omega) (by unfold maxLen; omega) (pcS_f hO1) ?_
    intro q6 s6 hO6 hP6 hN6
    refine ⟨_,rfl,?_⟩
    refine ⟨_,Os rfl,?_⟩
    refine Cm (gg + 3) s6 [Ml 2 0,Ml 3 1,Ml 4 2,Ml 5 3,(6,vI (i : Int)),Ml 7 gg,(9,vL 9 0 (gg + 1)),(11,vL 11 0 (gg + 2)),(12,vI (topF A.x B.x (i : Int))),(15,vB true),(43,vB false),(53,vB true)] [(2,0,cSV A),(3,1,cSV B),(4,2,[Sn,Sn]),(5,3,[vS q1 (joinF A.x B.x i).items.length,vS q6 ((joinF A.x B.x i).floors.length + 1)]),(7,gg,[vI e1.inc,vI e1.rank,vI e1.beat,vI e1.ver,.string e1.data]),(9,gg + 1,[vI e2.inc,vI e2.rank,vI e2.beat,vI e2.ver,.string e2.data]),(11,gg + 2,[vI e.inc,vI e.rank,vI e.beat,vI e.ver,.string e.data])] fun _ _ => ?_
    have e17 : IntKind.wrap .i64 ((i : Int) + 1) = ((i + 1 : Nat) : Int) := (wrap_i64 (by omega) (by omega)).trans (by omega)
    refine ⟨_,rfl,?_⟩
    rw [if_neg h2] at hJi
    rw [if_pos h3] at hJf
    exact ⟨(i + 1,q1,q6),5 - (i + 1),by omega,⟨rfl,rfl,rfl,rfl,congrArg (Value.int .i64) e17,trivial⟩,⟨rfl,rfl,rfl,(show some (3,[vS q1 (joinF A.x B.x i).items.length,vS q6 ((joinF A.x B.x i).floors.length + 1)]) = some (3,[vS q1 (joinF A.x B.x (i + 1)).items.length,vS q6 (joinF A.x B.x (i + 1)).floors.length]) by rw [hJi,hJf,List.length_append]; rfl),trivial⟩,rfl,by omega,by rw [hJi,hJf]; exact pcS_floors hO1 hP6 hO6 hN6,hN1,hN6.le hP'.1,hP6.pres hP' hN2⟩
  ·replace h2 : e.inc > topF A.x B.x (i : Int) := of_decide_eq_true h2
   refine Cm (gg + 3) s1 [Ml 2 0,Ml 3 1,Ml 4 2,Ml 5 3,(6,vI (i : Int)),Ml 7 gg,(9,vL 9 0 (gg + 1)),(11,vL 11 0 (gg + 2)),(12,vI (topF A.x B.x (i : Int))),(15,vB true),(43,vB true)] [(2,0,cSV A),(3,1,cSV B),(4,2,[Sn,Sn]),(5,3,[vS q1 (joinF A.x B.x i).items.length,vS q2 (joinF A.x B.x i).floors.length]),(7,gg,[vI e1.inc,vI e1.rank,vI e1.beat,vI e1.ver,.string e1.data]),(9,gg + 1,[vI e2.inc,vI e2.rank,vI e2.beat,vI e2.ver,.string e2.data]),(11,gg + 2,[vI e.inc,vI e.rank,vI e.beat,vI e.ver,.string e.data])] fun _ _ => ?_
   refine ⟨_,rfl,?_⟩
   refine ⟨_,Od rfl,?_⟩
   refine ⟨_,Od rfl,?_⟩
   refine ⟨_,rfl,?_⟩
   refine op_one (z := 6) (a := (⟨(i : Int),e⟩ : Itm)) (f := cItm) rfl rfl rfl rfl rfl (by decide) rfl (Lb rfl) rfl rfl rfl ?_
   refine op_add (z := 6) (st := s1) (f := cItm) (b := 56) (l := (joinF A.x B.x i).items) rfl rfl rfl rfl rfl rfl rfl (by decide) len_cItm rfl rfl rfl (by omega) (by unfold maxLen; omega) (pcS_i hO1) ?_
   intro q4 s4 hO4 hP4 hN4
   refine ⟨_,rfl,?_⟩
   refine ⟨_,Os rfl,?_⟩
   refine Cm (gg + 3) s4 [Ml 2 0,Ml 3 1,Ml 4 2,Ml 5 3,(6,vI (i : Int)),Ml 7 gg,(9,vL 9 0 (gg + 1)),(11,vL 11 0 (gg + 2)),(12,vI (topF A.x B.x (i : Int))),(15,vB true),(43,vB true)] [(2,0,cSV A),(3,1,cSV B),(4,2,[Sn,Sn]),(5,3,[vS q4 ((joinF A.x B.x i).items.length + 1),vS q2 (joinF A.x B.x i).floors.length]),(7,gg,[vI e1.inc,vI e1.rank,vI e1.beat,vI e1.ver,.string e1.data]),(9,gg + 1,[vI e2.inc,vI e2.rank,vI e2.beat,vI e2.ver,.string e2.data]),(11,gg + 2,[vI e.inc,vI e.rank,vI e.beat,vI e.ver,.string e.data])] fun _ _ => ?_
   have hO5 := pcS_items hO1 hP4 hO4 hN4
   have hP5 := hP4.pres hP' hN1
   refine ⟨_,rfl,?_⟩
   rintro (_|_) h3
   ·replace h3 : ¬ (topF A.x B.x (i : Int) > 0) := of_decide_eq_false h3
    refine Cm (gg + 3) s4 [Ml 2 0,Ml 3 1,Ml 4 2,Ml 5 3,(6,vI (i : Int)),Ml 7 gg,(9,vL 9 0 (gg + 1)),(11,vL 11 0 (gg + 2)),(12,vI (topF A.x B.x (i : Int))),(15,vB true),(43,vB true),(53,vB false)] [(2,0,cSV A),(3,1,cSV B),(4,2,[Sn,Sn]),(5,3,[vS q4 ((joinF A.x B.x i).items.length + 1),vS q2 (joinF A.x B.x i).floors.length]),(7,gg,[vI e1.inc,vI e1.rank,vI e1.beat,vI e1.ver,.string e1.data]),(9,gg + 1,[vI e2.inc,vI e2.rank,vI e2.beat,vI e2.ver,.string e2.data]),(11,gg + 2,[vI e.inc,vI e.rank,vI e.beat,vI e.ver,.string e.data])] fun _ _ => ?_
    refine cxs ?_
    have e17 : IntKind.wrap .i64 ((i : Int) + 1) = ((i + 1 : Nat) : Int) := (wrap_i64 (by omega) (by omega)).trans (by omega)
    refine ⟨_,rfl,?_⟩
    rw [if_pos h2] at hJi
    rw [if_neg h3] at hJf
    exact ⟨(i + 1,q4,q2),5 - (i + 1),by omega,⟨rfl,rfl,rfl,rfl,congrArg (Value.int .i64) e17,trivial⟩,⟨rfl,rfl,rfl,(show some (3,[vS q4 ((joinF A.x B.x i).items.length + 1),vS q2 (joinF A.x B.x i).floors.length]) = some (3,[vS q4 (joinF A.x B.x (i + 1)).items.length,vS q2 (joinF A.x B.x (i + 1)).floors.length]) by rw [hJi,hJf,List.length_append]; rfl),trivial⟩,rfl,by omega,by rw [hJi,hJf]; exact hO5,hN4.le hP'.1,hN2,hP5⟩
   ·replace h3 : topF A.x B.x (i : Int) > 0 := of_decide_eq_true h3
    refine Cm (gg + 3) s4 [Ml 2 0,Ml 3 1,Ml 4 2,Ml 5 3,(6,vI (i : Int)),Ml 7 gg,(9,vL 9 0 (gg + 1)),(11,vL 11 0 (gg + 2)),(12,vI (topF A.x B.x (i : Int))),(15,vB true),(43,vB true),(53,vB true)] [(2,0,cSV A),(3,1,cSV B),(4,2,[Sn,Sn]),(5,3,[vS q4 ((joinF A.x B.x i).items.length + 1),vS q2 (joinF A.x B.x i).floors.length]),(7,gg,[vI e1.inc,vI e1.rank,vI e1.beat,vI e1.ver,.string e1.data]),(9,gg + 1,[vI e2.inc,vI e2.rank,vI e2.beat,vI e2.ver,.string e2.data]),(11,gg + 2,[vI e.inc,vI e.rank,vI e.beat,vI e.ver,.string e.data])] fun _ _ => ?_
    refine ⟨_,rfl,?_⟩
    refine ⟨_,Od rfl,?_⟩
    refine ⟨_,rfl,?_⟩
    refine op_one (z := 2) (a := (⟨(i : Int),topF A.x B.x (i : Int)⟩ : Flr)) (f := cFlr) rfl rfl rfl rfl rfl (by decide) rfl (Lb rfl) rfl rfl rfl ?_
    refine op_add (z := 2) (st := s4) (f := cFlr) (b := 16) (l := (joinF A.x B.x i).floors) rfl rfl rfl rfl rfl rfl rfl (by decide) len_cFlr rfl rfl rfl (by omega) (by unfold maxLen; omega) (pcS_f hO5) ?_
    intro q6 s6 hO6 hP6 hN6
    refine ⟨_,rfl,?_⟩
    refine ⟨_,Os rfl,?_⟩
    refine Cm (gg + 3) s6 [Ml 2 0,Ml 3 1,Ml 4 2,Ml 5 3,(6,vI (i : Int)),Ml 7 gg,(9,vL 9 0 (gg + 1)),(11,vL 11 0 (gg + 2)),(12,vI (topF A.x B.x (i : Int))),(15,vB true),(43,vB true),(53,vB true)] [(2,0,cSV A),(3,1,cSV B),(4,2,[Sn,Sn]),(5,3,[vS q4 ((joinF A.x B.x i).items.length + 1),vS q6 ((joinF A.x B.x i).floors.length + 1)]),(7,gg,[vI e1.inc,vI e1.rank,vI e1.beat,vI e1.ver,.string e1.data]),(9,gg + 1,[vI e2.inc,vI e2.rank,vI e2.beat,vI e2.ver,.string e2.data]),(11,gg + 2,[vI e.inc,vI e.rank,vI e.beat,vI e.ver,.string e.data])] fun _ _ => ?_
    have e17 : IntKind.wrap .i64 ((i : Int) + 1) = ((i + 1 : Nat) : Int) := (wrap_i64 (by omega) (by omega)).trans (by omega)
    refine ⟨_,rfl,?_⟩
    rw [if_pos h2] at hJi
    rw [if_pos h3] at hJf
    exact ⟨(i + 1,q4,q6),5 - (i + 1),by omega,⟨rfl,rfl,rfl,rfl,congrArg (Value.int .i64) e17,trivial⟩,⟨rfl,rfl,rfl,(show some (3,[vS q4 ((joinF A.x B.x i).items.length + 1),vS q6 ((joinF A.x B.x i).floors.length + 1)]) = some (3,[vS q4 (joinF A.x B.x (i + 1)).items.length,vS q6 (joinF A.x B.x (i + 1)).floors.length]) by rw [hJi,hJf,List.length_append,List.length_append]; rfl),trivial⟩,rfl,by omega,by rw [hJi,hJf]; exact pcS_floors hO5 hP6 hO6 hN6,hN4.le hP'.1,hN6.le hP5.1,hP6.pres hP5 hN2⟩
theorem firstNZ_neg : ∀ l : List Int,firstNZ (l.map fun x => -x) = - firstNZ l
 | [] => rfl
 | x :: l => by
  have ih := firstNZ_neg l
  rw [List.map_cons,firstNZ,firstNZ]
  by_cases h : x = 0
  ·rw [if_pos h,if_pos (by omega),ih]
  ·rw [if_neg h,if_neg (by omega)]
theorem cmpI_neg (a b : Int) : cmpI b a = - cmpI a b := by
 unfold cmpI
 split <;> split <;> (try split) <;> omega
theorem compareBytes_neg : ∀ a b : List UInt8,Lib.compareBytes b a = - Lib.compareBytes a b
 | [],[] => by simp [Lib.compareBytes]
 | [],b :: bs => by simp [Lib.compareBytes]
 | a :: l,[] => by simp [Lib.compareBytes]
 | a :: l,b :: bs => by
  have ih := compareBytes_neg l bs
  unfold Lib.compareBytes
  by_cases h1 : a < b
  ·have h2 : ¬ b < a := fun h => UInt8.lt_irrefl _ (UInt8.lt_trans h h1)
   simp [h1,h2]
  ·by_cases h2 : b < a
   ·simp [h1,h2]
   ·simp [h1,h2,ih]
theorem entCmp_neg (a b : Ent) : entCmp b a = - entCmp a b := by
 unfold entCmp
 rw [← firstNZ_neg]
 simp only [List.map_cons,List.map_nil,cmpB,cmpI_neg a.inc b.inc,cmpI_neg a.rank b.rank,cmpI_neg a.beat b.beat,cmpI_neg a.ver b.ver,compareBytes_neg a.data.data.toList b.data.data.toList]
theorem entMax_zero {a : Ent} (h : 1 ≤ a.inc) : entMax a zEnt = a ∧ entMax zEnt a = a := by
 have h1 : entCmp a zEnt = 1 := by
  unfold entCmp firstNZ
  have : cmpI a.inc zEnt.inc = 1 := by unfold cmpI zEnt; simp only; rw [if_neg (by omega),if_pos (by omega)]
  rw [this]; rfl
 have h2 : entCmp zEnt a = -1 := by rw [entCmp_neg,h1]
 exact ⟨by rw [entMax,h1]; rfl,by rw [entMax,h2]; rfl⟩
theorem entMax_zz : entMax zEnt zEnt = zEnt := by unfold entMax; split <;> rfl
theorem floorOf_pos {l : List Flr} (h : marksOk l) (id : Int) : 0 ≤ floorOf l id ∧ floorOf l id ≤ 1000 := by
 have key : ∀ m : List Flr,(∀ x ∈ m,1 ≤ x.inc ∧ x.inc ≤ 1000) → 0 ≤ floorOf m id ∧ floorOf m id ≤ 1000 := by
  intro m
  induction m with
  | nil => intro _; simp [floorOf]
  | cons x m ih =>
   intro h
   have hx := h x (List.mem_cons_self ..)
   rw [floorOf]
   split
   ·omega
   ·exact ih fun y hy => h y (List.mem_cons_of_mem _ hy)
 refine key l fun x hx => ?_
 obtain ⟨i,hi⟩ := List.getElem?_of_mem hx
 exact (h i x hi).2.1
theorem entP_none {l : List Itm} {id : Int} {e : Ent} (h : (e,false) = entP l id) : e = zEnt := by
 induction l with
 | nil => rw [entP] at h; injection h
 | cons x l ih =>
  rw [entP] at h
  split at h
  ·injection h with _ h; cases h
  ·exact ih h
theorem ac_spec_l3Join (A B : SV) (st : St) (hA : RdS st A) (hB : RdS st B) (ha : bigS A.x) (hb : bigS B.x) (oa : stateOk A.x) (ob : stateOk B.x) : C 27 [.agg #[vS A.p A.x.items.length,vS A.q A.x.floors.length],.agg #[vS B.p B.x.items.length,vS B.q B.x.floors.length]] st (fun v s => ∃ u : SV,v = .agg #[vS u.p u.x.items.length,vS u.q u.x.floors.length] ∧ u.x = joinF A.x B.x 5 ∧ OwnP s (pcS u) ∧ NewP st.next (pcS u) ∧ Pres st s) := by
 refine AC.enterX (i := ⟨[2,3,4,5,8,10,12],[2,3,4,5,8,10,12,27,34,66,70,77],[0,1,2,3,4,5,6,7,8,9,10,11,12,15,26,52,64,69],[]⟩) [(5,[2],[3])] Tryd.func27 rfl rfl (by kernel_rfl) (by kernel_rfl) Tryd.ntmps27 (Lb rfl) rfl ?_
 iterate 3 refine ⟨_,rfl,?_⟩
 refine Cm 3 st [Ml 2 0,Ml 3 1,Ml 4 2] [(2,0,cSV A),(3,1,cSV B),(4,2,[Sn,Sn])] fun _ _ => ?_
 iterate 3 refine ⟨_,rfl,?_⟩
 refine cxs ?_
 refine Cm 4 st [Ml 2 0,Ml 3 1,Ml 4 2,Ml 5 3,(6,vI 0)] [(2,0,cSV A),(3,1,cSV B),(4,2,[Sn,Sn]),(5,3,[Sn,Sn])] fun _ _ => ?_
 refine AW.loopM (fun x : Nat × Option Addr × Option Addr => [(2,vL 2 0 (0)),(3,vL 3 0 (1)),(4,vL 4 0 (2)),(5,vL 5 0 (3)),(6,vI (x.1 : Int))]) (fun x : Nat × Option Addr × Option Addr => [(2,0,[vS A.p A.x.items.length,vS A.q A.x.floors.length]),(3,1,[vS B.p B.x.items.length,vS B.q B.x.floors.length]),(4,2,[.slice none 0 0,.slice none 0 0]),(5,3,[vS x.2.1 (joinF A.x B.x x.1).items.length,vS x.2.2 (joinF A.x B.x x.1).floors.length])]) (fun m (x : Nat × Option Addr × Option Addr) st' => m = 5 - x.1 ∧ x.1 ≤ 5 ∧ OwnP st' [pcR 6 cItm x.2.1 (joinF A.x B.x x.1).items,pcR 2 cFlr x.2.2 (joinF A.x B.x x.1).floors] ∧ New st.next x.2.1 ∧ New st.next x.2.2 ∧ Pres st st') (0,none,none) _ ⟨rfl,rfl,rfl,rfl,rfl,trivial⟩ ⟨rfl,rfl,rfl,rfl,trivial⟩ ⟨rfl,Nat.zero_le _,pcS_nil,New.none,New.none,Pres.refl _⟩ ?_
 rintro m ⟨i,q1,q2⟩ ρ0 ff gg st' ⟨rfl,hi,hO,hN1,hN2,hP⟩
 simp only at hi hO hN1 hN2
 have hJ := joinF_len A.x B.x i
 have hJi := joinF_items A.x B.x i
 have hJf := joinF_floors A.x B.x i
 refine ⟨_,rfl,?_⟩
 rintro (_|_) h1
 ·replace h1 : ¬ ((i : Int) < 5) := of_decide_eq_false h1
  refine Cm gg st' [Ml 2 0,Ml 3 1,Ml 4 2,Ml 5 3,(6,vI (i : Int)),(15,vB false)] [(2,0,cSV A),(3,1,cSV B),(4,2,[Sn,Sn]),(5,3,[vS q1 (joinF A.x B.x i).items.length,vS q2 (joinF A.x B.x i).floors.length])] fun _ _ => ?_
  refine cxs ?_
  refine ⟨_,Od rfl,?_⟩
  refine ⟨_,Os rfl,?_⟩
  refine cxs ?_
  have hil : i = 5 := by omega
  subst hil
  exact Rt ⟨⟨q1,q2,joinF A.x B.x 5⟩,rfl,rfl,hO,NewP.cons hN1 (NewP.cons hN2 NewP.nil),hP⟩
 ·replace h1 : (i : Int) < 5 := of_decide_eq_true h1
  refine Cm gg st' [Ml 2 0,Ml 3 1,Ml 4 2,Ml 5 3,(6,vI (i : Int)),(15,vB true)] [(2,0,cSV A),(3,1,cSV B),(4,2,[Sn,Sn]),(5,3,[vS q1 (joinF A.x B.x i).items.length,vS q2 (joinF A.x B.x i).floors.length])] fun _ _ => ?_
  refine cxs ?_
  refine ⟨_,Od rfl,?_⟩
  refine ⟨_,rfl,(ac_spec_FloorOf A i st' (hA.pres hP) ha).mono ?_⟩
  rintro _ st' ⟨rfl,rfl⟩
  refine ⟨fun _ _ => rfl,?_⟩
  refine ⟨_,Od rfl,?_⟩
  refine ⟨ld_own rfl rfl rfl,?_⟩
  refine ⟨_,rfl,(ac_spec_FloorOf B i st' (hB.pres hP) hb).mono ?_⟩
  rintro _ st' ⟨rfl,rfl⟩
  refine ⟨_,rfl,(ac_spec_l1Max (floorOf A.x.floors (i : Int)) (floorOf B.x.floors (i : Int)) st').mono ?_⟩
  rintro _ st' ⟨rfl,rfl⟩
  refine AX.meet 5 (fun x : Option Addr × Ent × Nat => [(2,vL 2 0 (0)),(3,vL 3 0 (1)),(4,vL 4 0 (2)),(5,vL 5 0 (3)),(6,vI (i : Int)),(7,vI (topF A.x B.x (i : Int))),(12,vL 12 0 (x.2.2)),(15,vB true)]) (fun x : Option Addr × Ent × Nat => [(2,0,[vS A.p A.x.items.length,vS A.q A.x.floors.length]),(3,1,[vS B.p B.x.items.length,vS B.q B.x.floors.length]),(4,2,[.slice none 0 0,.slice none 0 0]),(5,3,[vS q1 (joinF A.x B.x i).items.length,vS x.1 (joinF A.x B.x (i + 1)).floors.length]),(12,x.2.2,[vI x.2.1.inc,vI x.2.1.rank,vI x.2.1.beat,vI x.2.1.ver,.string x.2.1.data])]) (fun (x : Option Addr × Ent × Nat) st' => (joinF A.x B.x (i + 1)).items = (if x.2.1.inc > topF A.x B.x (i : Int) then (joinF A.x B.x i).items ++ [⟨(i : Int),x.2.1⟩] else (joinF A.x B.x i).items) ∧ OwnP st' [pcR 6 cItm q1 (joinF A.x B.x i).items,pcR 2 cFlr x.1 (joinF A.x B.x (i + 1)).floors] ∧ New st.next x.1 ∧ Pres st st') ?_ ?_
  ·refine AX.meet 0 (fun q6 : Option Addr => [(2,vL 2 0 (0)),(3,vL 3 0 (1)),(4,vL 4 0 (2)),(5,vL 5 0 (3)),(6,vI (i : Int)),(7,vI (topF A.x B.x (i : Int))),(15,vB true)]) (fun q6 : Option Addr => [(2,0,[vS A.p A.x.items.length,vS A.q A.x.floors.length]),(3,1,[vS B.p B.x.items.length,vS B.q B.x.floors.length]),(4,2,[.slice none 0 0,.slice none 0 0]),(5,3,[vS q1 (joinF A.x B.x i).items.length,vS q6 (joinF A.x B.x (i + 1)).floors.length])]) (fun (q6 : Option Addr) st' => OwnP st' [pcR 6 cItm q1 (joinF A.x B.x i).items,pcR 2 cFlr q6 (joinF A.x B.x (i + 1)).floors] ∧ New st.next q6 ∧ Pres st st') ?_ ?_
   ·refine Cm gg st' [Ml 2 0,Ml 3 1,Ml 4 2,Ml 5 3,(6,vI (i : Int)),(7,vI (topF A.x B.x (i : Int))),(15,vB true)] [(2,0,cSV A),(3,1,cSV B),(4,2,[Sn,Sn]),(5,3,[vS q1 (joinF A.x B.x i).items.length,vS q2 (joinF A.x B.x i).floors.length])] fun _ _ => ?_
    refine ⟨_,rfl,?_⟩
    rintro (_|_) h2
    ·replace h2 : ¬ (topF A.x B.x (i : Int) > 0) := of_decide_eq_false h2
     refine Cm gg st' [Ml 2 0,Ml 3 1,Ml 4 2,Ml 5 3,(6,vI (i : Int)),(7,vI (topF A.x B.x (i : Int))),(15,vB true),(26,vB false)] [(2,0,cSV A),(3,1,cSV B),(4,2,[Sn,Sn]),(5,3,[vS q1 (joinF A.x B.x i).items.length,vS q2 (joinF A.x B.x i).floors.length])] fun _ _ => ?_
     have hfe : (joinF A.x B.x (i + 1)).floors = (joinF A.x B.x i).floors := by rw [hJf,if_neg h2]
     exact ⟨q2,⟨rfl,rfl,rfl,rfl,rfl,rfl,rfl,trivial⟩,⟨rfl,rfl,rfl,(show some (3,[vS q1 (joinF A.x B.x i).items.length,vS q2 (joinF A.x B.x i).floors.length]) = _ by rw [hfe]),trivial⟩,by rw [hfe]; exact hO,hN2,hP⟩
    ·replace h2 : topF A.x B.x (i : Int) > 0 := of_decide_eq_true h2
     refine Cm gg st' [Ml 2 0,Ml 3 1,Ml 4 2,Ml 5 3,(6,vI (i : Int)),(7,vI (topF A.x B.x (i : Int))),(15,vB true),(26,vB true)] [(2,0,cSV A),(3,1,cSV B),(4,2,[Sn,Sn]),(5,3,[vS q1 (joinF A.x B.x i).items.length,vS q2 (joinF A.x B.x i).floors.length])] fun _ _ => ?_
     refine ⟨_,rfl,?_⟩
     refine ⟨_,Od rfl,?_⟩
     refine ⟨_,rfl,?_⟩
     refine op_one (z := 2) (a := (⟨(i : Int),topF A.x B.x (i : Int)⟩ : Flr)) (f := cFlr) rfl rfl rfl rfl rfl (by decide) rfl (Lb rfl) rfl rfl rfl ?_
     refine op_add (z := 2) (st := st') (f := cFlr) (b := 16) (l := (joinF A.x B.x i).floors) rfl rfl rfl rfl rfl rfl rfl (by decide) len_cFlr rfl rfl rfl (by omega) (by unfold maxLen; omega) (pcS_f hO) ?_
     intro q6 s6 hO6 hP6 hN6
     refine ⟨_,rfl,?_⟩
     refine ⟨_,Os rfl,?_⟩
     have hfe : (joinF A.x B.x (i + 1)).floors = (joinF A.x B.x i).floors ++ [⟨(i : Int),topF A.x B.x (i : Int)⟩] := by rw [hJf,if_pos h2]
     exact ⟨q6,⟨rfl,rfl,rfl,rfl,rfl,rfl,rfl,trivial⟩,⟨rfl,rfl,rfl,(show some (3,[vS q1 (joinF A.x B.x i).items.length,vS q6 ((joinF A.x B.x i).floors.length + 1)]) = _ by rw [hfe,List.length_append]; rfl),trivial⟩,by rw [hfe]; exact pcS_floors hO hP6 hO6 hN6,hN6.le hP.1,hP6.pres hP hN2⟩
   ·rintro q6 ρ0 ff gg st' ⟨hO6,hN6,hP6⟩
    refine ⟨_,Od rfl,?_⟩
    refine ⟨_,rfl,(ac_spec_EntryOf A i st' (hA.pres hP6) ha).mono ?_⟩
    rintro _ st' ⟨e1,b1,rfl,he1,rfl⟩
    rcases b1 with _|_
    ·iterate 3 refine ⟨_,rfl,?_⟩
     refine ⟨_,Os rfl,?_⟩
     refine Cm (gg + 1) st' [Ml 2 0,Ml 3 1,Ml 4 2,Ml 5 3,(6,vI (i : Int)),(7,vI (topF A.x B.x (i : Int))),Ml 8 gg,(9,vB false),(15,vB true)] [(2,0,cSV A),(3,1,cSV B),(4,2,[Sn,Sn]),(5,3,[vS q1 (joinF A.x B.x i).items.length,vS q6 (joinF A.x B.x (i + 1)).floors.length]),(8,gg,[vI e1.inc,vI e1.rank,vI e1.beat,vI e1.ver,.string e1.data])] fun _ _ => ?_
     refine ⟨_,Od rfl,?_⟩
     refine ⟨_,rfl,(ac_spec_EntryOf B i st' (hB.pres hP6) hb).mono ?_⟩
     rintro _ st' ⟨e2,b2,rfl,he2,rfl⟩
     rcases b2 with _|_
     ·iterate 3 refine ⟨_,rfl,?_⟩
      refine ⟨_,Os rfl,?_⟩
      refine Cm (gg + 2) st' [Ml 2 0,Ml 3 1,Ml 4 2,Ml 5 3,(6,vI (i : Int)),(7,vI (topF A.x B.x (i : Int))),Ml 8 gg,(9,vB false),(10,vL 10 0 (gg + 1)),(11,vB false),(15,vB true)] [(2,0,cSV A),(3,1,cSV B),(4,2,[Sn,Sn]),(5,3,[vS q1 (joinF A.x B.x i).items.length,vS q6 (joinF A.x B.x (i + 1)).floors.length]),(8,gg,[vI e1.inc,vI e1.rank,vI e1.beat,vI e1.ver,.string e1.data]),(10,gg + 1,[vI e2.inc,vI e2.rank,vI e2.beat,vI e2.ver,.string e2.data])] fun _ _ => ?_
      have hE : topE A.x B.x (i : Int) = zEnt := by rw [topE,← he1,← he2,entP_none he1,entP_none he2]; exact entMax_zz
      have hfa := (floorOf_pos oa.2 (i : Int)).1
      have hle : ¬ (topE A.x B.x (i : Int)).inc > topF A.x B.x (i : Int) := by rw [hE]; unfold topF zEnt; simp only; omega
      rw [if_neg hle] at hJi
      iterate 3 refine ⟨_,rfl,?_⟩
      refine Cm (gg + 2) st' [Ml 2 0,Ml 3 1,Ml 4 2,Ml 5 3,(6,vI (i : Int)),(7,vI (topF A.x B.x (i : Int))),Ml 8 gg,(9,vB false),(10,vL 10 0 (gg + 1)),(11,vB false),(15,vB true),(52,vB true)] [(2,0,cSV A),(3,1,cSV B),(4,2,[Sn,Sn]),(5,3,[vS q1 (joinF A.x B.x i).items.length,vS q6 (joinF A.x B.x (i + 1)).floors.length]),(8,gg,[vI e1.inc,vI e1.rank,vI e1.beat,vI e1.ver,.string e1.data]),(10,gg + 1,[vI e2.inc,vI e2.rank,vI e2.beat,vI e2.ver,.string e2.data])] fun _ _ => ?_
      refine cxs ?_
      have e17 : IntKind.wrap .i64 ((i : Int) + 1) = ((i + 1 : Nat) : Int) := (wrap_i64 (by omega) (by omega)).trans (by omega)
      refine ⟨_,rfl,?_⟩
      rw [← hJi] at hO6
      exact ⟨(i + 1,q1,q6),5 - (i + 1),by omega,⟨rfl,rfl,rfl,rfl,congrArg (Value.int .i64) e17,trivial⟩,⟨rfl,rfl,rfl,(show some (3,[vS q1 (joinF A.x B.x i).items.length,vS q6 (joinF A.x B.x (i + 1)).floors.length]) = _ by rw [hJi]),trivial⟩,rfl,by omega,hO6,hN1,hN6,hP6⟩
     ·iterate 3 refine ⟨_,rfl,?_⟩
      refine ⟨_,Os rfl,?_⟩
      refine Cm (gg + 2) st' [Ml 2 0,Ml 3 1,Ml 4 2,Ml 5 3,(6,vI (i : Int)),(7,vI (topF A.x B.x (i : Int))),Ml 8 gg,(9,vB false),(10,vL 10 0 (gg + 1)),(11,vB true),(15,vB true)] [(2,0,cSV A),(3,1,cSV B),(4,2,[Sn,Sn]),(5,3,[vS q1 (joinF A.x B.x i).items.length,vS q6 (joinF A.x B.x (i + 1)).floors.length]),(8,gg,[vI e1.inc,vI e1.rank,vI e1.beat,vI e1.ver,.string e1.data]),(10,gg + 1,[vI e2.inc,vI e2.rank,vI e2.beat,vI e2.ver,.string e2.data])] fun _ _ => ?_
      have hE : topE A.x B.x (i : Int) = entMax e1 e2 := by rw [topE,← he1,← he2]
      have hfa := (floorOf_pos oa.2 (i : Int)).1
      rw [hE] at hJi
      iterate 3 refine ⟨_,rfl,?_⟩
      refine Cm (gg + 2) st' [Ml 2 0,Ml 3 1,Ml 4 2,Ml 5 3,(6,vI (i : Int)),(7,vI (topF A.x B.x (i : Int))),Ml 8 gg,(9,vB false),(10,vL 10 0 (gg + 1)),(11,vB true),(15,vB true),(52,vB false)] [(2,0,cSV A),(3,1,cSV B),(4,2,[Sn,Sn]),(5,3,[vS q1 (joinF A.x B.x i).items.length,vS q6 (joinF A.x B.x (i + 1)).floors.length]),(8,gg,[vI e1.inc,vI e1.rank,vI e1.beat,vI e1.ver,.string e1.data]),(10,gg + 1,[vI e2.inc,vI e2.rank,vI e2.beat,vI e2.ver,.string e2.data])] fun _ _ => ?_
      refine cxs ?_
      refine ⟨_,Od rfl,?_⟩
      refine ⟨_,rfl,?_⟩
      refine ⟨_,Os rfl,?_⟩
      refine Cm (gg + 3) st' [Ml 2 0,Ml 3 1,Ml 4 2,Ml 5 3,(6,vI (i : Int)),(7,vI (topF A.x B.x (i : Int))),Ml 8 gg,(9,vB false),(10,vL 10 0 (gg + 1)),(11,vB true),(12,vL 12 0 (gg + 2)),(15,vB true),(52,vB false)] [(2,0,cSV A),(3,1,cSV B),(4,2,[Sn,Sn]),(5,3,[vS q1 (joinF A.x B.x i).items.length,vS q6 (joinF A.x B.x (i + 1)).floors.length]),(8,gg,[vI e1.inc,vI e1.rank,vI e1.beat,vI e1.ver,.string e1.data]),(10,gg + 1,[vI e2.inc,vI e2.rank,vI e2.beat,vI e2.ver,.string e2.data]),(12,gg + 2,[vI e1.inc,vI e1.rank,vI e1.beat,vI e1.ver,.string e1.data])] fun _ _ => ?_
      iterate 2 refine ⟨_,rfl,?_⟩
      refine Cm (gg + 3) st' [Ml 2 0,Ml 3 1,Ml 4 2,Ml 5 3,(6,vI (i : Int)),(7,vI (topF A.x B.x (i : Int))),Ml 8 gg,(9,vB false),(10,vL 10 0 (gg + 1)),(11,vB true),(12,vL 12 0 (gg + 2)),(15,vB true),(52,vB false),(64,vB true)] [(2,0,cSV A),(3,1,cSV B),(4,2,[Sn,Sn]),(5,3,[vS q1 (joinF A.x B.x i).items.length,vS q6 (joinF A.x B.x (i + 1)).floors.length]),(8,gg,[vI e1.inc,vI e1.rank,vI e1.beat,vI e1.ver,.string e1.data]),(10,gg + 1,[vI e2.inc,vI e2.rank,vI e2.beat,vI e2.ver,.string e2.data]),(12,gg + 2,[vI e1.inc,vI e1.rank,vI e1.beat,vI e1.ver,.string e1.data])] fun _ _ => ?_
      have hm : entMax e1 e2 = e2 := by rw [entP_none he1]; exact (entMax_zero (ent_ok ob he2).1.1).2
      rw [hm] at hJi
      have hO7 := hO6
      have hP8 := hP6
      refine ⟨_,Od rfl,?_⟩
      refine ⟨_,Os rfl,?_⟩
      exact ⟨(q6,e2,_),⟨rfl,rfl,rfl,rfl,rfl,rfl,rfl,rfl,trivial⟩,⟨rfl,rfl,rfl,rfl,rfl,trivial⟩,hJi,hO7,hN6,hP8⟩
    ·iterate 3 refine ⟨_,rfl,?_⟩
     refine ⟨_,Os rfl,?_⟩
     refine Cm (gg + 1) st' [Ml 2 0,Ml 3 1,Ml 4 2,Ml 5 3,(6,vI (i : Int)),(7,vI (topF A.x B.x (i : Int))),Ml 8 gg,(9,vB true),(15,vB true)] [(2,0,cSV A),(3,1,cSV B),(4,2,[Sn,Sn]),(5,3,[vS q1 (joinF A.x B.x i).items.length,vS q6 (joinF A.x B.x (i + 1)).floors.length]),(8,gg,[vI e1.inc,vI e1.rank,vI e1.beat,vI e1.ver,.string e1.data])] fun _ _ => ?_
     refine ⟨_,Od rfl,?_⟩
     refine ⟨_,rfl,(ac_spec_EntryOf B i st' (hB.pres hP6) hb).mono ?_⟩
     rintro _ st' ⟨e2,b2,rfl,he2,rfl⟩
     rcases b2 with _|_
     ·iterate 3 refine ⟨_,rfl,?_⟩
      refine ⟨_,Os rfl,?_⟩
      refine Cm (gg + 2) st' [Ml 2 0,Ml 3 1,Ml 4 2,Ml 5 3,(6,vI (i : Int)),(7,vI (topF A.x B.x (i : Int))),Ml 8 gg,(9,vB true),(10,vL 10 0 (gg + 1)),(11,vB false),(15,vB true)] [(2,0,cSV A),(3,1,cSV B),(4,2,[Sn,Sn]),(5,3,[vS q1 (joinF A.x B.x i).items.length,vS q6 (joinF A.x B.x (i + 1)).floors.length]),(8,gg,[vI e1.inc,vI e1.rank,vI e1.beat,vI e1.ver,.string e1.data]),(10,gg + 1,[vI e2.inc,vI e2.rank,vI e2.beat,vI e2.ver,.string e2.data])] fun _ _ => ?_
      have hE : topE A.x B.x (i : Int) = entMax e1 e2 := by rw [topE,← he1,← he2]
      have hfa := (floorOf_pos oa.2 (i : Int)).1
      rw [hE] at hJi
      iterate 2 refine ⟨_,rfl,?_⟩
      refine Cm (gg + 2) st' [Ml 2 0,Ml 3 1,Ml 4 2,Ml 5 3,(6,vI (i : Int)),(7,vI (topF A.x B.x (i : Int))),Ml 8 gg,(9,vB true),(10,vL 10 0 (gg + 1)),(11,vB false),(15,vB true),(52,vB false)] [(2,0,cSV A),(3,1,cSV B),(4,2,[Sn,Sn]),(5,3,[vS q1 (joinF A.x B.x i).items.length,vS q6 (joinF A.x B.x (i + 1)).floors.length]),(8,gg,[vI e1.inc,vI e1.rank,vI e1.beat,vI e1.ver,.string e1.data]),(10,gg + 1,[vI e2.inc,vI e2.rank,vI e2.beat,vI e2.ver,.string e2.data])] fun _ _ => ?_
      refine cxs ?_
      refine ⟨_,Od rfl,?_⟩
      refine ⟨_,rfl,?_⟩
      refine ⟨_,Os rfl,?_⟩
      refine Cm (gg + 3) st' [Ml 2 0,Ml 3 1,Ml 4 2,Ml 5 3,(6,vI (i : Int)),(7,vI (topF A.x B.x (i : Int))),Ml 8 gg,(9,vB true),(10,vL 10 0 (gg + 1)),(11,vB false),(12,vL 12 0 (gg + 2)),(15,vB true),(52,vB false)] [(2,0,cSV A),(3,1,cSV B),(4,2,[Sn,Sn]),(5,3,[vS q1 (joinF A.x B.x i).items.length,vS q6 (joinF A.x B.x (i + 1)).floors.length]),(8,gg,[vI e1.inc,vI e1.rank,vI e1.beat,vI e1.ver,.string e1.data]),(10,gg + 1,[vI e2.inc,vI e2.rank,vI e2.beat,vI e2.ver,.string e2.data]),(12,gg + 2,[vI e1.inc,vI e1.rank,vI e1.beat,vI e1.ver,.string e1.data])] fun _ _ => ?_
      iterate 3 refine ⟨_,rfl,?_⟩
      refine Cm (gg + 3) st' [Ml 2 0,Ml 3 1,Ml 4 2,Ml 5 3,(6,vI (i : Int)),(7,vI (topF A.x B.x (i : Int))),Ml 8 gg,(9,vB true),(10,vL 10 0 (gg + 1)),(11,vB false),(12,vL 12 0 (gg + 2)),(15,vB true),(52,vB false),(64,vB false)] [(2,0,cSV A),(3,1,cSV B),(4,2,[Sn,Sn]),(5,3,[vS q1 (joinF A.x B.x i).items.length,vS q6 (joinF A.x B.x (i + 1)).floors.length]),(8,gg,[vI e1.inc,vI e1.rank,vI e1.beat,vI e1.ver,.string e1.data]),(10,gg + 1,[vI e2.inc,vI e2.rank,vI e2.beat,vI e2.ver,.string e2.data]),(12,gg + 2,[vI e1.inc,vI e1.rank,vI e1.beat,vI e1.ver,.string e1.data])] fun _ _ => ?_
      have hm : entMax e1 e2 = e1 := by rw [entP_none he2]; exact (entMax_zero (ent_ok oa he1).1.1).1
      rw [hm] at hJi
      have hO7 := hO6
      have hP8 := hP6
      exact ⟨(q6,e1,_),⟨rfl,rfl,rfl,rfl,rfl,rfl,rfl,rfl,trivial⟩,⟨rfl,rfl,rfl,rfl,rfl,trivial⟩,hJi,hO7,hN6,hP8⟩
     ·iterate 3 refine ⟨_,rfl,?_⟩
      refine ⟨_,Os rfl,?_⟩
      refine Cm (gg + 2) st' [Ml 2 0,Ml 3 1,Ml 4 2,Ml 5 3,(6,vI (i : Int)),(7,vI (topF A.x B.x (i : Int))),Ml 8 gg,(9,vB true),(10,vL 10 0 (gg + 1)),(11,vB true),(15,vB true)] [(2,0,cSV A),(3,1,cSV B),(4,2,[Sn,Sn]),(5,3,[vS q1 (joinF A.x B.x i).items.length,vS q6 (joinF A.x B.x (i + 1)).floors.length]),(8,gg,[vI e1.inc,vI e1.rank,vI e1.beat,vI e1.ver,.string e1.data]),(10,gg + 1,[vI e2.inc,vI e2.rank,vI e2.beat,vI e2.ver,.string e2.data])] fun _ _ => ?_
      have hE : topE A.x B.x (i : Int) = entMax e1 e2 := by rw [topE,← he1,← he2]
      have hfa := (floorOf_pos oa.2 (i : Int)).1
      rw [hE] at hJi
      iterate 2 refine ⟨_,rfl,?_⟩
      refine Cm (gg + 2) st' [Ml 2 0,Ml 3 1,Ml 4 2,Ml 5 3,(6,vI (i : Int)),(7,vI (topF A.x B.x (i : Int))),Ml 8 gg,(9,vB true),(10,vL 10 0 (gg + 1)),(11,vB true),(15,vB true),(52,vB false)] [(2,0,cSV A),(3,1,cSV B),(4,2,[Sn,Sn]),(5,3,[vS q1 (joinF A.x B.x i).items.length,vS q6 (joinF A.x B.x (i + 1)).floors.length]),(8,gg,[vI e1.inc,vI e1.rank,vI e1.beat,vI e1.ver,.string e1.data]),(10,gg + 1,[vI e2.inc,vI e2.rank,vI e2.beat,vI e2.ver,.string e2.data])] fun _ _ => ?_
      refine cxs ?_
      refine ⟨_,Od rfl,?_⟩
      refine ⟨_,rfl,?_⟩
      refine ⟨_,Os rfl,?_⟩
      refine Cm (gg + 3) st' [Ml 2 0,Ml 3 1,Ml 4 2,Ml 5 3,(6,vI (i : Int)),(7,vI (topF A.x B.x (i : Int))),Ml 8 gg,(9,vB true),(10,vL 10 0 (gg + 1)),(11,vB true),(12,vL 12 0 (gg + 2)),(15,vB true),(52,vB false)] [(2,0,cSV A),(3,1,cSV B),(4,2,[Sn,Sn]),(5,3,[vS q1 (joinF A.x B.x i).items.length,vS q6 (joinF A.x B.x (i + 1)).floors.length]),(8,gg,[vI e1.inc,vI e1.rank,vI e1.beat,vI e1.ver,.string e1.data]),(10,gg + 1,[vI e2.inc,vI e2.rank,vI e2.beat,vI e2.ver,.string e2.data]),(12,gg + 2,[vI e1.inc,vI e1.rank,vI e1.beat,vI e1.ver,.string e1.data])] fun _ _ => ?_
      refine ⟨_,rfl,?_⟩
      refine ⟨_,Od rfl,?_⟩
      refine ⟨_,Od rfl,?_⟩
      refine ⟨_,rfl,(ac_spec_EntryCmp e2 e1 st').mono ?_⟩
      rintro _ s7 ⟨rfl,hP7⟩
      refine ⟨_,rfl,?_⟩
      rintro (_|_) h3
      ·replace h3 : ¬ (entCmp e2 e1 > 0) := of_decide_eq_false h3
       iterate 2 refine ⟨_,rfl,?_⟩
       refine Cm (gg + 3) s7 [Ml 2 0,Ml 3 1,Ml 4 2,Ml 5 3,(6,vI (i : Int)),(7,vI (topF A.x B.x (i : Int))),Ml 8 gg,(9,vB true),(10,vL 10 0 (gg + 1)),(11,vB true),(12,vL 12 0 (gg + 2)),(15,vB true),(52,vB false),(64,vB false)] [(2,0,cSV A),(3,1,cSV B),(4,2,[Sn,Sn]),(5,3,[vS q1 (joinF A.x B.x i).items.length,vS q6 (joinF A.x B.x (i + 1)).floors.length]),(8,gg,[vI e1.inc,vI e1.rank,vI e1.beat,vI e1.ver,.string e1.data]),(10,gg + 1,[vI e2.inc,vI e2.rank,vI e2.beat,vI e2.ver,.string e2.data]),(12,gg + 2,[vI e1.inc,vI e1.rank,vI e1.beat,vI e1.ver,.string e1.data])] fun _ _ => ?_
       have hm : entMax e1 e2 = e1 := by rw [entMax,if_neg (by have := entCmp_neg e1 e2; omega)]
       rw [hm] at hJi
       have hO7 := hO6.pres hP7
       have hP8 := hP6.trans hP7
       exact ⟨(q6,e1,_),⟨rfl,rfl,rfl,rfl,rfl,rfl,rfl,rfl,trivial⟩,⟨rfl,rfl,rfl,rfl,rfl,trivial⟩,hJi,hO7,hN6,hP8⟩
      ·replace h3 : entCmp e2 e1 > 0 := of_decide_eq_true h3
       iterate 2 refine ⟨_,rfl,?_⟩
       refine Cm (gg + 3) s7 [Ml 2 0,Ml 3 1,Ml 4 2,Ml 5 3,(6,vI (i : Int)),(7,vI (topF A.x B.x (i : Int))),Ml 8 gg,(9,vB true),(10,vL 10 0 (gg + 1)),(11,vB true),(12,vL 12 0 (gg + 2)),(15,vB true),(52,vB false),(64,vB true)] [(2,0,cSV A),(3,1,cSV B),(4,2,[Sn,Sn]),(5,3,[vS q1 (joinF A.x B.x i).items.length,vS q6 (joinF A.x B.x (i + 1)).floors.length]),(8,gg,[vI e1.inc,vI e1.rank,vI e1.beat,vI e1.ver,.string e1.data]),(10,gg + 1,[vI e2.inc,vI e2.rank,vI e2.beat,vI e2.ver,.string e2.data]),(12,gg + 2,[vI e1.inc,vI e1.rank,vI e1.beat,vI e1.ver,.string e1.data])] fun _ _ => ?_
       have hm : entMax e1 e2 = e2 := by rw [entMax,if_pos (by have := entCmp_neg e1 e2; omega)]
       rw [hm] at hJi
       have hO7 := hO6.pres hP7
       have hP8 := hP6.trans hP7
       refine ⟨_,Od rfl,?_⟩
       refine ⟨_,Os rfl,?_⟩
       exact ⟨(q6,e2,_),⟨rfl,rfl,rfl,rfl,rfl,rfl,rfl,rfl,trivial⟩,⟨rfl,rfl,rfl,rfl,rfl,trivial⟩,hJi,hO7,hN6,hP8⟩
  ·rintro ⟨q6,e,g12⟩ ρ0 ff gg st' ⟨hJi2,hO7,hN6,hP8⟩
   simp only at hJi2 hO7 hN6
   refine ⟨_,rfl,?_⟩
   refine ⟨_,Od rfl,?_⟩
   refine ⟨_,rfl,?_⟩
   rintro (_|_) h4
   ·replace h4 : ¬ (e.inc > topF A.x B.x (i : Int)) := of_decide_eq_false h4
    refine Cm gg st' [Ml 2 0,Ml 3 1,Ml 4 2,Ml 5 3,(6,vI (i : Int)),(7,vI (topF A.x B.x (i : Int))),Ml 12 g12,(15,vB true),(69,vB false)] [(2,0,cSV A),(3,1,cSV B),(4,2,[Sn,Sn]),(5,3,[vS q1 (joinF A.x B.x i).items.length,vS q6 (joinF A.x B.x (i + 1)).floors.length]),(12,g12,[vI e.inc,vI e.rank,vI e.beat,vI e.ver,.string e.data])] fun _ _ => ?_
    refine cxs ?_
    have e17 : IntKind.wrap .i64 ((i : Int) + 1) = ((i + 1 : Nat) : Int) := (wrap_i64 (by omega) (by omega)).trans (by omega)
    refine ⟨_,rfl,?_⟩
    rw [if_neg h4] at hJi2
    exact ⟨(i + 1,q1,q6),5 - (i + 1),by omega,⟨rfl,rfl,rfl,rfl,congrArg (Value.int .i64) e17,trivial⟩,⟨rfl,rfl,rfl,(show some (3,[vS q1 (joinF A.x B.x i).items.length,vS q6 (joinF A.x B.x (i + 1)).floors.length]) = _ by rw [hJi2]),trivial⟩,rfl,by omega,by rw [hJi2]; exact hO7,hN1,hN6,hP8⟩
   ·replace h4 : e.inc > topF A.x B.x (i : Int) := of_decide_eq_true h4
    refine Cm gg st' [Ml 2 0,Ml 3 1,Ml 4 2,Ml 5 3,(6,vI (i : Int)),(7,vI (topF A.x B.x (i : Int))),Ml 12 g12,(15,vB true),(69,vB true)] [(2,0,cSV A),(3,1,cSV B),(4,2,[Sn,Sn]),(5,3,[vS q1 (joinF A.x B.x i).items.length,vS q6 (joinF A.x B.x (i + 1)).floors.length]),(12,g12,[vI e.inc,vI e.rank,vI e.beat,vI e.ver,.string e.data])] fun _ _ => ?_
    refine ⟨_,rfl,?_⟩
    refine ⟨_,Od rfl,?_⟩
    refine ⟨_,Od rfl,?_⟩
    refine ⟨_,rfl,?_⟩
    refine op_one (z := 6) (a := (⟨(i : Int),e⟩ : Itm)) (f := cItm) rfl rfl rfl rfl rfl (by decide) rfl (Lb rfl) rfl rfl rfl ?_
    refine op_add (z := 6) (st := st') (f := cItm) (b := 56) (l := (joinF A.x B.x i).items) rfl rfl rfl rfl rfl rfl rfl (by decide) len_cItm rfl rfl rfl (by omega) (by unfold maxLen; omega) (pcS_i hO7) ?_
    intro q8 s8 hO8 hP9 hN8
    refine ⟨_,rfl,?_⟩
    refine ⟨_,Os rfl,?_⟩
    refine Cm gg s8 [Ml 2 0,Ml 3 1,Ml 4 2,Ml 5 3,(6,vI (i : Int)),(7,vI (topF A.x B.x (i : Int))),Ml 12 g12,(15,vB true),(69,vB true)] [(2,0,cSV A),(3,1,cSV B),(4,2,[Sn,Sn]),(5,3,[vS q8 ((joinF A.x B.x i).items.length + 1),vS q6 (joinF A.x B.x (i + 1)).floors.length]),(12,g12,[vI e.inc,vI e.rank,vI e.beat,vI e.ver,.string e.data])] fun _ _ => ?_
    have e17 : IntKind.wrap .i64 ((i : Int) + 1) = ((i + 1 : Nat) : Int) := (wrap_i64 (by omega) (by omega)).trans (by omega)
    refine ⟨_,rfl,?_⟩
    rw [if_pos h4] at hJi2
    exact ⟨(i + 1,q8,q6),5 - (i + 1),by omega,⟨rfl,rfl,rfl,rfl,congrArg (Value.int .i64) e17,trivial⟩,⟨rfl,rfl,rfl,(show some (3,[vS q8 ((joinF A.x B.x i).items.length + 1),vS q6 (joinF A.x B.x (i + 1)).floors.length]) = _ by rw [hJi2,List.length_append]; rfl),trivial⟩,rfl,by omega,by rw [hJi2]; exact pcS_items hO7 hP9 hO8 hN8,hN8.le hP8.1,hN6,hP9.pres hP8 hN1⟩
theorem pick_get {β : Type} {f : Nat → Option β} {n i : Nat} {x : β} (h : ((List.range n).filterMap f)[i]? = some x) : ∃ j,j < n ∧ f j = some x := by
 obtain ⟨j,hj,hf⟩ := List.mem_filterMap.1 (List.mem_of_getElem? h)
 exact ⟨j,List.mem_range.1 hj,hf⟩
theorem pick_lt {β : Type} {f : Nat → Option β} {id : β → Int} (hid : ∀ j x,f j = some x → id x = (j : Int)) {n i : Nat} {x y : β} (h : ((List.range n).filterMap f)[i]? = some x) (h0 : 0 < i) (hy : ((List.range n).filterMap f)[i - 1]? = some y) : id y < id x := by
 have hp : ((List.range n).filterMap f).Pairwise fun a b => id a < id b := by
  rw [List.pairwise_filterMap]
  refine List.Pairwise.imp ?_ List.pairwise_lt_range
  intro a b hab u hu v hv
  rw [hid a u hu,hid b v hv]
  omega
 rw [List.pairwise_iff_getElem] at hp
 obtain ⟨h1,h2⟩ := List.getElem?_eq_some_iff.1 h
 obtain ⟨h3,h4⟩ := List.getElem?_eq_some_iff.1 hy
 rw [← h2,← h4]
 exact hp _ _ h3 h1 (by omega)
theorem floorOf_snoc (l : List Flr) (x : Flr) (id : Int) : floorOf (l ++ [x]) id = if (∃ y ∈ l,y.id = id) then floorOf l id else if x.id = id then x.inc else 0 := by
 induction l with
 | nil => simp [floorOf]
 | cons y l ih =>
  rw [List.cons_append,floorOf,floorOf,ih]
  by_cases h : y.id = id
  ·simp [h]
  ·simp [h]
theorem floorOf_pick (t : Int → Int) (id : Nat) : ∀ n,floorOf ((List.range n).filterMap fun (j : Nat) => if t (j : Int) > 0 then some (⟨(j : Int),t (j : Int)⟩ : Flr) else none) (id : Int) = if id < n ∧ t (id : Int) > 0 then t (id : Int) else 0
 | 0 => by simp [floorOf]
 | n + 1 => by
  have ih := floorOf_pick t id n
  rw [List.range_succ,List.filterMap_append]
  have hex : (∃ y ∈ (List.range n).filterMap (fun (j : Nat) => if t (j : Int) > 0 then some (⟨(j : Int),t (j : Int)⟩ : Flr) else none),y.id = (id : Int)) ↔ id < n ∧ t (id : Int) > 0 := by
   constructor
   ·rintro ⟨y,hy,hid⟩
    obtain ⟨j,hj,hf⟩ := List.mem_filterMap.1 hy
    split at hf
    ·rename_i ht
     injection hf with hf
     rw [← hf] at hid
     have hid : (j : Int) = (id : Int) := hid
     have : j = id := by omega
     exact ⟨by rw [← this]; exact List.mem_range.1 hj,by rw [← this]; exact ht⟩
    ·cases hf
   ·rintro ⟨h1,h2⟩
    exact ⟨⟨(id : Int),t (id : Int)⟩,List.mem_filterMap.2 ⟨id,List.mem_range.2 h1,by rw [if_pos h2]⟩,rfl⟩
  by_cases hn : t (n : Int) > 0
  ·simp only [List.filterMap_cons,List.filterMap_nil,hn,if_true]
   rw [floorOf_snoc]
   by_cases h1 : id < n ∧ t (id : Int) > 0
   ·rw [if_pos (hex.2 h1),ih,if_pos h1,if_pos ⟨by omega,h1.2⟩]
   ·rw [if_neg (fun h => h1 (hex.1 h))]
    by_cases h2 : n = id
    ·subst h2; rw [if_pos rfl,if_pos ⟨Nat.lt_succ_self _,hn⟩]
    ·rw [if_neg (by simp only; omega),if_neg (fun h => h1 ⟨by omega,h.2⟩)]
  ·simp only [List.filterMap_cons,List.filterMap_nil,hn,if_false,List.append_nil]
   rw [ih]
   by_cases h1 : id < n ∧ t (id : Int) > 0
   ·rw [if_pos h1,if_pos ⟨by omega,h1.2⟩]
   ·rw [if_neg h1,if_neg (fun h => h1 ⟨by
     rcases Nat.lt_or_ge id n with h3 | h3
     ·exact h3
     ·have : id = n := by omega
      subst this; exact absurd h.2 hn,h.2⟩)]
theorem topF_pos {a b : Sta} (ha : marksOk a.floors) (hb : marksOk b.floors) (id : Int) : 0 ≤ topF a b id ∧ topF a b id ≤ 1000 := by
 have h1 := floorOf_pos ha id
 have h2 := floorOf_pos hb id
 unfold topF
 omega
theorem floorOf_join {a b : Sta} (ha : marksOk a.floors) (hb : marksOk b.floors) {n id : Nat} (h : id < n) : floorOf (joinF a b n).floors (id : Int) = topF a b (id : Int) := by
 have h1 := (topF_pos ha hb (id : Int)).1
 show floorOf ((List.range n).filterMap fun (j : Nat) => if topF a b (j : Int) > 0 then some (⟨(j : Int),topF a b (j : Int)⟩ : Flr) else none) (id : Int) = _
 rw [floorOf_pick (fun i => topF a b i) id n]
 by_cases h2 : topF a b (id : Int) > 0
 ·rw [if_pos ⟨h,h2⟩]
 ·rw [if_neg (fun h => h2 h.2)]; omega
theorem entP_cases {s : Sta} (h : ∀ (j : Nat) x,s.items[j]? = some x → itemOk s j x) (id : Int) : (entP s.items id).1 = zEnt ∨ entOk (entP s.items id).1 := by
 rcases hb : (entP s.items id) with ⟨e,b⟩
 cases b with
 | false => exact .inl (entP_none (e := e) (id := id) hb.symm)
 | true =>
  obtain ⟨j,x,h1,h2,_⟩ := entP_mem (e := e) (id := id) hb.symm
  exact .inr (h2 ▸ (h j x h1).2.1)
theorem stateOk_join {a b : Sta} (ha : stateOk a) (hb : stateOk b) : stateOk (joinF a b 5) := by
 refine ⟨fun i x hx => ?_,fun i x hx => ?_⟩
 ·have hx' : ((List.range 5).filterMap fun (j : Nat) => if (topE a b (j : Int)).inc > topF a b (j : Int) then some (⟨(j : Int),topE a b (j : Int)⟩ : Itm) else none)[i]? = some x := hx
  obtain ⟨j,hj,hf⟩ := pick_get hx'
  split at hf
  ·rename_i ht
   injection hf with hf
   have hfl := floorOf_join ha.2 hb.2 hj
   have htp := (topF_pos ha.2 hb.2 (j : Int)).1
   have he : entOk (topE a b (j : Int)) := by
    have key : topE a b (j : Int) = (entP a.items (j : Int)).1 ∨ topE a b (j : Int) = (entP b.items (j : Int)).1 := by unfold topE entMax; split; exact .inr rfl; exact .inl rfl
    rcases key with h | h
    ·rcases entP_cases ha.1 (j : Int) with h2 | h2
     ·rw [h,h2] at ht; simp only [zEnt] at ht; omega
     ·rw [h]; exact h2
    ·rcases entP_cases hb.1 (j : Int) with h2 | h2
     ·rw [h,h2] at ht; simp only [zEnt] at ht; omega
     ·rw [h]; exact h2
   rw [← hf]
   refine ⟨⟨by simp only; omega,by simp only; omega⟩,he,by simp only; rw [hfl]; exact ht,fun y h0 hy => ?_⟩
   have := pick_lt (id := Itm.id) (fun j x hx => by
    split at hx
    ·injection hx with hx; rw [← hx]
    ·cases hx) hx' h0 hy
   rw [← hf] at this
   exact this
  ·cases hf
 ·have hx' : ((List.range 5).filterMap fun (j : Nat) => if topF a b (j : Int) > 0 then some (⟨(j : Int),topF a b (j : Int)⟩ : Flr) else none)[i]? = some x := hx
  obtain ⟨j,hj,hf⟩ := pick_get hx'
  split at hf
  ·rename_i ht
   injection hf with hf
   have htp := (topF_pos ha.2 hb.2 (j : Int))
   rw [← hf]
   refine ⟨⟨by simp only; omega,by simp only; omega⟩,⟨by simp only; omega,htp.2⟩,fun y h0 hy => ?_⟩
   have := pick_lt (id := Flr.id) (fun j x hx => by
    split at hx
    ·injection hx with hx; rw [← hx]
    ·cases hx) hx' h0 hy
   rw [← hf] at this
   exact this
  ·cases hf
theorem stateOk_nil : stateOk ⟨[],[]⟩ := ⟨fun j x h => (by cases h),fun j x h => (by cases h)⟩
noncomputable abbrev pruneG (s : Sta) (t : List (List Int)) (id : Int) : Int := min (common t id) (goneAt s id)
open Classical in
noncomputable def pruneF (s : Sta) (t : List (List Int)) : Sta := if stateOk s then joinF s ⟨[],marksF (pruneG s t) 5⟩ 5 else s
theorem goneAt_le {s : Sta} (h : stateOk s) (id : Int) : 0 ≤ goneAt s id ∧ goneAt s id ≤ 1000 := by
 rw [goneAt,if_pos h]
 rcases hb : entP s.items id with ⟨e,b⟩
 cases b with
 | false => simpa using floorOf_pos h.2 id
 | true =>
  have he := (ent_ok h hb.symm).1
  simp only [if_true]
  split <;> omega
theorem marksOk_F {g : Int → Int} (h : ∀ i,g i ≤ 1000) : marksOk (marksF g 5) := by
 intro j x hx
 have hx' : ((List.range 5).filterMap fun (j : Nat) => if g (j : Int) > 0 then some (⟨(j : Int),g (j : Int)⟩ : Flr) else none)[j]? = some x := hx
 obtain ⟨k,hk,hf⟩ := pick_get hx'
 split at hf
 ·rename_i hp
  injection hf with hf
  have h1 := h (k : Int)
  rw [← hf]
  refine ⟨⟨by simp only; omega,by simp only; omega⟩,⟨by simp only; omega,h1⟩,fun y h0 hy => ?_⟩
  have := pick_lt (id := Flr.id) (fun j x hx => by
   split at hx
   ·injection hx with hx; rw [← hx]
   ·cases hx) hx' h0 hy
  rw [← hf] at this
  exact this
 ·cases hf
theorem big_floors {l : List Flr} (h : l.length ≤ 5) : bigS ⟨[],l⟩ := ⟨Nat.zero_le _,by show l.length ≤ 1048576; omega,fun x hx => (nomatch hx)⟩
theorem stateOk_floors {l : List Flr} (h : marksOk l) : stateOk ⟨[],l⟩ := ⟨fun j x hx => (nomatch hx),h⟩
theorem ac_impl_Prune (s : SV) (p : Option Addr) (t : List RV) (st : St) (hR : RdS st s) (hT : RdT st p t) (hb : bigS s.x) (hs : szOk t.length) (hr : ∀ r ∈ t,szOk r.l.length) : C 12 [.agg #[vS s.p s.x.items.length,vS s.q s.x.floors.length],vS p t.length] st (fun v s' => ∃ u : SV,v = .agg #[vS u.p u.x.items.length,vS u.q u.x.floors.length] ∧ u.x = pruneF s.x (rls t) ∧ OwnP s' (pcS u) ∧ NewP st.next (pcS u) ∧ Pres st s') := by
 refine AC.enterX (i := ⟨[2,4,5],[2,4,5,27,34],[0,1,2,4,5,6,7,10,15,26],[]⟩) [(7,[2],[3])] Tryd.func12 rfl rfl (by kernel_rfl) (by kernel_rfl) Tryd.ntmps12 (Lb rfl) rfl ?_
 iterate 2 refine ⟨_,rfl,?_⟩
 refine Cm 2 st [(1,vS p t.length),Ml 2 0,Ml 4 1] [(2,0,cSV s),(4,1,[Sn,Sn])] fun _ _ => ?_
 refine ⟨_,Od rfl,?_⟩
 refine ⟨_,rfl,(ac_impl_StateOk s st hR (by first | assumption | omega)).mono ?_⟩
 rintro _ st ⟨x9,rfl,h9,rfl⟩
 rcases x9 with _|_
 ·replace h9 := fun k => Bool.false_ne_true (h9.2 k)
  refine ⟨_,rfl,?_⟩
  refine Cm 2 st [(1,vS p t.length),Ml 2 0,Ml 4 1,(10,vB true)] [(2,0,cSV s),(4,1,[Sn,Sn])] fun _ _ => ?_
  refine ⟨_,Od rfl,?_⟩
  refine ⟨_,rfl,(ac_impl_copyState s st hR (by first | assumption | omega)).mono ?_⟩
  rintro _ s12 ⟨u12,rfl,h12,hO12,hN12,hP12⟩
  refine ⟨_,Os rfl,?_⟩
  exact cxs (Rt ⟨u12,rfl,h12.trans (by rw [pruneF,if_neg h9]),hO12,hN12,hP12⟩)
 ·replace h9 := h9.1 rfl
  refine ⟨_,rfl,?_⟩
  refine Cm 2 st [(1,vS p t.length),Ml 2 0,Ml 4 1,(10,vB false)] [(2,0,cSV s),(4,1,[Sn,Sn])] fun _ _ => ?_
  refine cxs ?_
  iterate 2 refine ⟨_,rfl,?_⟩
  refine ⟨_,Os rfl,?_⟩
  refine cxs ?_
  refine Cm 3 st [(1,vS p t.length),Ml 2 0,Ml 4 1,Ml 5 2,(6,vI 0)] [(2,0,cSV s),(4,1,[Sn,Sn]),(5,2,[Sn,Sn])] fun _ _ => ?_
  refine AW.loopM (fun x : Nat × Option Addr => [(1,vS p t.length),(2,vL 2 0 (0)),(4,vL 4 0 (1)),(5,vL 5 0 (2)),(6,vI (x.1 : Int))]) (fun x : Nat × Option Addr => [(2,0,[vS s.p s.x.items.length,vS s.q s.x.floors.length]),(4,1,[.slice none 0 0,.slice none 0 0]),(5,2,[.slice none 0 0,vS x.2 (marksF (pruneG s.x (rls t)) x.1).length])]) (fun m (x : Nat × Option Addr) st' => m = 5 - x.1 ∧ x.1 ≤ 5 ∧ OwnR st' 2 cFlr x.2 (marksF (pruneG s.x (rls t)) x.1) ∧ New st.next x.2 ∧ Pres st st') (0,none) _ ⟨rfl,rfl,rfl,rfl,rfl,trivial⟩ ⟨rfl,rfl,rfl,trivial⟩ ⟨rfl,Nat.zero_le _,OwnR.nil,New.none,Pres.refl _⟩ ?_
  rintro m ⟨i,q⟩ ρ0 ff gg st' ⟨rfl,hi,hO,hN,hP⟩
  simp only at hi hO hN
  have hml := marksF_len (pruneG s.x (rls t)) i
  have hm := marksF_succ (pruneG s.x (rls t)) i
  refine ⟨_,rfl,?_⟩
  rintro (_|_) h15
  ·replace h15 : ¬ ((i : Int) < (5)) := of_decide_eq_false h15
   refine Cm gg st' [(1,vS p t.length),Ml 2 0,Ml 4 1,Ml 5 2,(6,vI (i : Int)),(15,vB false)] [(2,0,cSV s),(4,1,[Sn,Sn]),(5,2,[Sn,vS q (marksF (pruneG s.x (rls t)) i).length])] fun _ _ => ?_
   have hil : i = 5 := by omega
   subst hil
   refine cxs ?_
   refine ⟨_,Od rfl,?_⟩
   refine ⟨_,Od rfl,?_⟩
   refine ⟨_,rfl,(ac_impl_stateJoin s ⟨none,q,⟨[],marksF (pruneG s.x (rls t)) 5⟩⟩ st' (hR.pres hP) ⟨Rows.nil,hO.rows len_cFlr⟩ hb (big_floors hml)).mono ?_⟩
   rintro _ s37 ⟨u,rfl,hu,hO37,hN37,hP37⟩
   refine ⟨_,Os rfl,?_⟩
   exact cxs (Rt ⟨u,rfl,by rw [hu,pruneF,if_pos h9],hO37,hN37.le hP.1,hP.trans hP37⟩)
  ·replace h15 : (i : Int) < (5) := of_decide_eq_true h15
   refine Cm gg st' [(1,vS p t.length),Ml 2 0,Ml 4 1,Ml 5 2,(6,vI (i : Int)),(15,vB true)] [(2,0,cSV s),(4,1,[Sn,Sn]),(5,2,[Sn,vS q (marksF (pruneG s.x (rls t)) i).length])] fun _ _ => ?_
   refine cxs ?_
   refine ⟨_,rfl,(ac_impl_Common p t (i : Int) st' (hT.pres hP) (by first | assumption | omega) (by first | assumption | omega)).mono ?_⟩
   rintro _ st' ⟨rfl,rfl⟩
   refine ⟨fun _ _ => rfl,?_⟩
   refine ⟨_,Od rfl,?_⟩
   refine ⟨ld_own rfl rfl rfl,?_⟩
   refine ⟨_,rfl,(ac_impl_GoneAt s (i : Int) st' (hR.pres hP) (by first | assumption | omega)).mono ?_⟩
   rintro _ st' ⟨rfl,rfl⟩
   refine ⟨.int .i64 (min (common (rls t) (i : Int)) (goneAt s.x (i : Int))),ammL_min _ _,?_⟩
   refine Cm gg st' [(1,vS p t.length),Ml 2 0,Ml 4 1,Ml 5 2,(6,vI (i : Int)),(7,vI (min (common (rls t) (i : Int)) (goneAt s.x (i : Int)))),(15,vB true)] [(2,0,cSV s),(4,1,[Sn,Sn]),(5,2,[Sn,vS q (marksF (pruneG s.x (rls t)) i).length])] fun _ _ => ?_
   refine ⟨_,rfl,?_⟩
   rintro (_|_) h26
   ·replace h26 : ¬ ((min (common (rls t) (i : Int)) (goneAt s.x (i : Int))) > (0)) := of_decide_eq_false h26
    refine Cm gg st' [(1,vS p t.length),Ml 2 0,Ml 4 1,Ml 5 2,(6,vI (i : Int)),(7,vI (min (common (rls t) (i : Int)) (goneAt s.x (i : Int)))),(15,vB true),(26,vB false)] [(2,0,cSV s),(4,1,[Sn,Sn]),(5,2,[Sn,vS q (marksF (pruneG s.x (rls t)) i).length])] fun _ _ => ?_
    refine cxs ?_
    have ew17 : IntKind.wrap .i64 ((i : Int) + (1)) = ((i + 1 : Nat) : Int) := (wrap_i64 (by omega) (by omega)).trans (by omega)
    refine ⟨_,rfl,?_⟩
    rw [if_neg h26] at hm
    exact ⟨(i + 1,q),5 - (i + 1),by omega,⟨rfl,rfl,rfl,rfl,congrArg (Value.int .i64) ew17,trivial⟩,⟨rfl,rfl,(show some (2,[.slice none 0 0,vS q (marksF (pruneG s.x (rls t)) i).length]) = some (2,[.slice none 0 0,vS q (marksF (pruneG s.x (rls t)) (i + 1)).length]) by rw [hm]),trivial⟩,rfl,by omega,by rw [hm]; exact hO,hN,hP⟩
   ·replace h26 : (min (common (rls t) (i : Int)) (goneAt s.x (i : Int))) > (0) := of_decide_eq_true h26
    refine Cm gg st' [(1,vS p t.length),Ml 2 0,Ml 4 1,Ml 5 2,(6,vI (i : Int)),(7,vI (min (common (rls t) (i : Int)) (goneAt s.x (i : Int)))),(15,vB true),(26,vB true)] [(2,0,cSV s),(4,1,[Sn,Sn]),(5,2,[Sn,vS q (marksF (pruneG s.x (rls t)) i).length])] fun _ _ => ?_
    refine ⟨_,rfl,?_⟩
    refine ⟨_,Od rfl,?_⟩
    refine ⟨_,rfl,?_⟩
    refine op_one (z := 2) (a := (⟨(i : Int),pruneG s.x (rls t) i⟩ : Flr)) (f := cFlr) rfl rfl rfl rfl rfl (by decide) rfl (Lb rfl) rfl rfl rfl ?_
    refine op_add (z := 2) (st := st') (f := cFlr) (b := 16) (l := marksF (pruneG s.x (rls t)) i) rfl rfl rfl rfl rfl rfl rfl (by decide) len_cFlr rfl rfl rfl (by omega) (by unfold maxLen; omega) hO ?_
    intro q33 s33 hO33 hP33 hN33
    refine ⟨_,rfl,?_⟩
    refine ⟨_,Os rfl,?_⟩
    refine Cm gg s33 [(1,vS p t.length),Ml 2 0,Ml 4 1,Ml 5 2,(6,vI (i : Int)),(7,vI (min (common (rls t) (i : Int)) (goneAt s.x (i : Int)))),(15,vB true),(26,vB true)] [(2,0,cSV s),(4,1,[Sn,Sn]),(5,2,[Sn,vS q33 ((marksF (pruneG s.x (rls t)) i).length + 1)])] fun _ _ => ?_
    have ew17 : IntKind.wrap .i64 ((i : Int) + (1)) = ((i + 1 : Nat) : Int) := (wrap_i64 (by omega) (by omega)).trans (by omega)
    refine ⟨_,rfl,?_⟩
    rw [if_pos h26] at hm
    exact ⟨(i + 1,q33),5 - (i + 1),by omega,⟨rfl,rfl,rfl,rfl,congrArg (Value.int .i64) ew17,trivial⟩,⟨rfl,rfl,(show some (2,[.slice none 0 0,vS q33 ((marksF (pruneG s.x (rls t)) i).length + 1)]) = some (2,[.slice none 0 0,vS q33 (marksF (pruneG s.x (rls t)) (i + 1)).length]) by rw [hm,List.length_append]; rfl),trivial⟩,rfl,by omega,by rw [hm]; exact hO33,hN33.le hP.1,hP33.pres hP hN⟩
theorem tableAdd_pos {t : List RV} {k : Int} {ms : List Flr} {r : RV} (h : t[k.toNat]? = some r) (hk : 0 ≤ k ∧ k ≤ (t.length : Int) - 1) (hm : marksOk ms) (h5 : 5 ≤ r.l.length) : tableAdd (t.map (·.l)) k ms = putT (t.map (·.l)) k.toNat (addMarks r.l ms) := by
 have hg : (t.map (·.l)).getD k.toNat [] = r.l := by rw [List.getD_eq_getElem?_getD,List.getElem?_map,h]; rfl
 rw [tableAdd,hg,if_pos ⟨by rw [List.length_map]; exact hk,hm,h5⟩]
theorem tableAdd_neg {t : List RV} {k : Int} {ms : List Flr} (h : ¬ (0 ≤ k ∧ k ≤ (t.length : Int) - 1) ∨ ¬ marksOk ms ∨ ∃ r,t[k.toNat]? = some r ∧ r.l.length < 5) : tableAdd (t.map (·.l)) k ms = t.map (·.l) := by
 rw [tableAdd,if_neg]
 rintro ⟨h1,h2,h3⟩
 rw [List.length_map] at h1
 rcases h with h | h | ⟨r,hr,h⟩
 ·exact h h1
 ·exact h h2
 ·rw [List.getD_eq_getElem?_getD,List.getElem?_map,hr] at h3
  exact absurd h3 (Nat.not_le.2 h)
theorem row_l {t u : List RV} {i : Nat} {r : RV} (h : u.map (·.l) = t.map (·.l)) (hr : t[i]? = some r) : ∃ a,u[i]? = some ⟨a,r.l⟩ := by
 have h1 : (u.map (·.l))[i]? = some r.l := by rw [h,List.getElem?_map,hr]; rfl
 rw [List.getElem?_map] at h1
 obtain ⟨y,hy,he⟩ := Option.map_eq_some_iff.1 h1
 exact ⟨y.p,by rw [hy,← he]⟩
theorem ac_impl_TableAdd (p pm : Option Addr) (t : List RV) (k : Int) (ms : List Flr) (st : St) (hR : RdT st p t) (hM : Rows st 2 cFlr pm ms) (hs : szOk t.length) (hr : ∀ r ∈ t,szOk r.l.length) (hms : szOk ms.length) : C 10 [vS p t.length,vI k,vS pm ms.length] st (fun v s => ∃ q u,v = vS q t.length ∧ u.length = t.length ∧ u.map (·.l) = tableAdd (t.map (·.l)) k ms ∧ OwnP s (pcT q u) ∧ NewP st.next (pcT q u) ∧ Pres st s) := by
 have hs : t.length ≤ 1048576 := hs
 have hms' : ms.length ≤ 1048576 := hms
 refine AC.enterX (i := ⟨[9],[9,42,48,52],[0,1,2,6,7,9,30,32,33,34,35],[]⟩) [(7,[],[])] Tryd.func10 rfl rfl (by kernel_rfl) (by kernel_rfl) Tryd.ntmps10 (Lb rfl) rfl ?_
 refine Cm 0 st [(0,vS p t.length),(1,vI k),(2,vS pm ms.length),(6,Sn)] [] fun _ _ => ?_
 refine ⟨_,rfl,(ac_impl_copyTable p t st hR hs hr).mono ?_⟩
 rintro _ s1 ⟨q,u0,rfl,hu,hO,hN,hP⟩
 refine Cm 0 s1 [(0,vS p t.length),(1,vI k),(2,vS pm ms.length),(6,Sn),(7,vS q t.length)] [] fun _ _ => ?_
 have e15 : IntKind.wrap .i64 ((t.length : Int) - 1) = (t.length : Int) - 1 := wrap_i64 (by omega) (by omega)
 have hul : u0.length = t.length := (map_len hu hr).1
 iterate 2 refine ⟨_,rfl,?_⟩
 refine ⟨_,rfl,(ac_impl_within k 0 _ s1).mono ?_⟩
 rintro _ s1 ⟨y,rfl,hk,rfl⟩
 rcases y with _|_
 ·replace hk := of_decide_eq_false hk.symm
  iterate 3 refine ⟨_,rfl,?_⟩
  refine Cm 0 s1 [(1,vI k),(2,vS pm ms.length),(6,Sn),(7,vS q t.length),(30,vB true)] [] fun _ _ => ?_
  exact cxs (Rt ⟨q,u0,rfl,hul,by rw [tableAdd_neg (.inl fun h => hk (by rw [e15]; exact h))]; exact hu,hO,hN,hP⟩)
 ·replace hk := of_decide_eq_true hk.symm
  refine ⟨_,rfl,?_⟩
  replace hk : 0 ≤ k ∧ k ≤ IntKind.wrap .i64 ((t.length : Int) - 1) := hk
  rw [e15] at hk
  refine ⟨_,rfl,(ac_impl_MarksOk pm ms s1 (hP.rows hM) hms).mono ?_⟩
  rintro _ s1 ⟨y2,rfl,hmk,rfl⟩
  rcases y2 with _|_
  ·replace hmk := fun k => Bool.false_ne_true (hmk.2 k)
   iterate 3 refine ⟨_,rfl,?_⟩
   refine Cm 0 s1 [(1,vI k),(2,vS pm ms.length),(6,Sn),(7,vS q t.length),(30,vB true)] [] fun _ _ => ?_
   exact cxs (Rt ⟨q,u0,rfl,hul,by rw [tableAdd_neg (.inr (.inl hmk))]; exact hu,hO,hN,hP⟩)
  ·replace hmk := hmk.1 rfl
   iterate 2 refine ⟨_,rfl,?_⟩
   have ⟨b1,o1,k1,r,hpe,hr1,hm1,hc1,hb1⟩ := (hR.pres hP).1.atB (j := k.toNat) (by omega)
   refine ⟨_,op_idx (j := k) (n := t.length) (q := ⟨b1,o1,none⟩) rfl (congrArg (fun u => vS u t.length) hpe) rfl rfl rfl hk.1 (by omega),?_⟩
   refine ⟨_,op_ldc (i := 0) (v := vS r.p r.l.length) rfl rfl rfl rfl hm1 hc1 rfl rfl,?_⟩
   iterate 2 refine ⟨_,rfl,?_⟩
   rintro (_|_) h5
   ·replace h5 : ¬ ((r.l.length : Int) < 5) := of_decide_eq_false h5
    refine ⟨_,rfl,?_⟩
    refine Cm 0 s1 [(1,vI k),(2,vS pm ms.length),(6,Sn),(7,vS q t.length),(30,vB false)] [] fun _ _ => ?_
    have ⟨qK,hqK⟩ := row_l hu hr1
    have hKu : k.toNat < u0.length := (List.getElem?_eq_some_iff.1 hqK).1
    have hself := putT_self hqK
    have hrs : r.l.length ≤ 1048576 := hr r (List.mem_of_getElem? hr1)
    refine cxs ?_
    refine ⟨_,rfl,?_⟩
    refine Cm 0 s1 [(1,vI k),(6,Sn),(7,vS q t.length),(32,vS pm ms.length),(33,vI (ms.length)),(34,vI 0)] [] fun _ _ => ?_
    refine AW.loopM (fun i : Nat => [(1,vI k),(7,vS q t.length),(32,vS pm ms.length),(33,vI (ms.length : Int)),(34,vI (i : Int))]) (fun i : Nat => []) (fun m (i : Nat) st' => m = ms.length - i ∧ i ≤ ms.length ∧ OwnP st' (pcT q (putT u0 k.toNat ⟨qK,addMarks r.l (ms.take i)⟩)) ∧ NewP st.next (pcT q (putT u0 k.toNat ⟨qK,addMarks r.l (ms.take i)⟩)) ∧ Pres st st') 0 _ ⟨rfl,rfl,rfl,rfl,rfl,trivial⟩ trivial ⟨rfl,Nat.zero_le _,(show OwnP s1 (pcT q (putT u0 k.toNat ⟨qK,r.l⟩)) by rw [hself]; exact hO),(show NewP st.next (pcT q (putT u0 k.toNat ⟨qK,r.l⟩)) by rw [hself]; exact hN),hP⟩ ?_
    rintro m i ρ0 ff gg st' ⟨rfl,hi,hO',hN',hP'⟩
    refine ⟨_,rfl,?_⟩
    rintro (_|_) h6
    ·replace h6 : ¬ ((i : Int) < (ms.length : Int)) := of_decide_eq_false h6
     refine Cm gg st' [(1,vI k),(7,vS q t.length),(32,vS pm ms.length),(33,vI (ms.length : Int)),(34,vI (i : Int)),(35,vB false)] [] fun _ _ => ?_
     refine cxs ?_
     refine cxs ?_
     have hil : i = ms.length := by omega
     rw [hil,List.take_length] at hO' hN'
     exact Rt ⟨q,_,rfl,by rw [putT_len hKu]; exact hul,by rw [putT_map,hu,tableAdd_pos hr1 hk hmk (by omega)],hO',hN',hP'⟩
    ·replace h6 : (i : Int) < (ms.length : Int) := of_decide_eq_true h6
     refine Cm gg st' [(1,vI k),(7,vS q t.length),(32,vS pm ms.length),(33,vI (ms.length : Int)),(34,vI (i : Int)),(35,vB true)] [] fun _ _ => ?_
     have h6' := Int.ofNat_lt.1 h6
     have hcl := addMarks_len (ms.take i) r.l
     have hKt : k.toNat < (putT u0 k.toNat (⟨qK,addMarks r.l (ms.take i)⟩ : RV)).length := by rw [putT_len hKu]; exact hKu
     have hgt := putT_get (x := (⟨qK,addMarks r.l (ms.take i)⟩ : RV)) hKu
     have ⟨b2,o2,k2,x,hpe2,hx,hm2,hc2,hb2⟩ := (hO'.outer.rows cRV_len).atB hKt
     have hxe : x = ⟨qK,addMarks r.l (ms.take i)⟩ := by rw [hgt] at hx; injection hx with hx; exact hx.symm
     have hc2 : (k2.cells.drop (o2 + k.toNat * 1)).take 1 = cRV ⟨qK,addMarks r.l (ms.take i)⟩ := by rw [hc2,hxe]
     have hrow := hO'.row (List.mem_of_getElem? hgt)
     have ⟨b3,o3,k3,mk,hpe3,hmk3,hm3,hc3,hb3⟩ := (hP'.rows hM).atB h6'
     have hid := (hmk i mk hmk3).1
     have ⟨b4,o4,k4,z,hpe4,hz,hm4,hc4,hb4⟩ := (hrow.rows fI_len).atB (j := mk.id.toNat) (by simp only; omega)
     have ⟨a,ha⟩ := hrow.some (by simp only; omega)
     simp only at hpe4 ha
     refine cxs ?_
     refine ⟨_,op_idx (j := (i : Int)) (n := ms.length) (q := ⟨b3,o3,none⟩) rfl (congrArg (fun u => vS u ms.length) hpe3) rfl rfl rfl (Int.natCast_nonneg _) h6,?_⟩
     refine ⟨_,op_lda rfl rfl rfl rfl rfl hm3 hc3 rfl,?_⟩
     refine ⟨_,rfl,?_⟩
     refine ⟨_,Os rfl,?_⟩
     refine Cm (gg + 1) st' [(1,vI k),(7,vS q t.length),Ml 9 gg,(32,vS pm ms.length),(33,vI (ms.length : Int)),(34,vI (i : Int)),(35,vB true)] [(9,gg,[vI mk.id,vI mk.inc])] fun _ _ => ?_
     refine ⟨_,op_idx (j := k) (n := t.length) (q := ⟨b2,o2,none⟩) rfl (congrArg (fun u => vS u t.length) hpe2) rfl rfl rfl hk.1 (by omega),?_⟩
     refine ⟨_,op_ldc (i := 0) rfl rfl rfl rfl hm2 hc2 rfl rfl,?_⟩
     refine ⟨_,rfl,?_⟩
     refine ⟨_,Od rfl,?_⟩
     refine ⟨_,op_idx (j := k) (n := t.length) (q := ⟨b2,o2,none⟩) rfl (congrArg (fun u => vS u t.length) hpe2) rfl rfl rfl hk.1 (by omega),?_⟩
     refine ⟨_,op_ldc (i := 0) rfl rfl rfl rfl hm2 hc2 rfl rfl,?_⟩
     refine ⟨_,rfl,?_⟩
     refine ⟨_,Od rfl,?_⟩
     refine ⟨_,op_idx (j := mk.id) (n := (addMarks r.l (ms.take i)).length) (q := ⟨b4,o4,none⟩) rfl (congrArg (fun u => vS u (addMarks r.l (ms.take i)).length) hpe4) rfl rfl rfl hid.1 (by omega),?_⟩
     refine ⟨_,op_ldc (i := 0) rfl rfl rfl rfl hm4 hc4 rfl rfl,?_⟩
     refine ⟨_,rfl,?_⟩
     refine ⟨_,Od rfl,?_⟩
     refine ⟨.int .i64 (max z mk.inc),ammL_max _ _,?_⟩
     refine ⟨_,op_idx (j := mk.id) (n := (addMarks r.l (ms.take i)).length) (q := ⟨a,0,none⟩) rfl (congrArg (fun u => vS u (addMarks r.l (ms.take i)).length) ha) rfl rfl rfl hid.1 (by omega),?_⟩
     refine op_put (z := 1) (st := st') (f := fI) (j := mk.id.toNat) (l := addMarks r.l (ms.take i)) (y := max z mk.inc) (p := qK) (d := 0 + mk.id.toNat * 1) rfl rfl (Nat.zero_add _) rfl rfl fI_len rfl rfl (by omega) hrow ha ?_
     intro s5 hO5 hP5 hn5
     refine Cm (gg + 1) s5 [(1,vI k),(7,vS q t.length),Ml 9 gg,(32,vS pm ms.length),(33,vI (ms.length : Int)),(34,vI (i : Int)),(35,vB true)] [(9,gg,[vI mk.id,vI mk.inc])] fun _ _ => ?_
     have hstep : (addMarks r.l (ms.take i)).set mk.id.toNat (max z mk.inc) = addMarks r.l (ms.take (i + 1)) := by rw [(split_at hmk3).2.1,addMarks_snoc,getD_of hz]
     rw [hstep] at hO5
     have hN5 : New st.next qK := hN' (pcRV ⟨qK,addMarks r.l (ms.take i)⟩) (List.mem_cons_of_mem _ (List.mem_map_of_mem (List.mem_of_getElem? hgt)))
     have hOP := hO'.put hP5 hO5 (by rw [addMarks_len,addMarks_len])
     have e56 : IntKind.wrap .i64 ((i : Int) + 1) = ((i + 1 : Nat) : Int) := (wrap_i64 (by omega) (by omega)).trans (by omega)
     refine ⟨_,rfl,?_⟩
     refine ⟨i + 1,ms.length - (i + 1),by omega,⟨rfl,rfl,rfl,rfl,congrArg (Value.int .i64) e56,trivial⟩,trivial,rfl,h6',hOP,fun c hc => ?_,hP5.pres hP' hN5⟩
     rcases List.mem_cons.1 hc with rfl | hc
     ·exact (hN' (pcR 1 cRV q (putT u0 k.toNat ⟨qK,addMarks r.l (ms.take i)⟩)) (List.mem_cons_self ..) : New st.next q)
     ·obtain ⟨y,hy,rfl⟩ := List.mem_map.1 hc
      rcases List.mem_append.1 hy with hy | hy
      ·exact hN' (pcRV y) (List.mem_cons_of_mem _ (List.mem_map_of_mem (List.mem_append_left _ hy)))
      ·rcases List.mem_cons.1 hy with rfl | hy
       ·exact hN5
       ·exact hN' (pcRV y) (List.mem_cons_of_mem _ (List.mem_map_of_mem (List.mem_append_right _ (List.mem_cons_of_mem _ hy))))
   ·replace h5 : (r.l.length : Int) < 5 := of_decide_eq_true h5
    refine ⟨_,rfl,?_⟩
    refine Cm 0 s1 [(1,vI k),(2,vS pm ms.length),(6,Sn),(7,vS q t.length),(30,vB true)] [] fun _ _ => ?_
    exact cxs (Rt ⟨q,u0,rfl,hul,by rw [tableAdd_neg (.inr (.inr ⟨r,hr1,by omega⟩))]; exact hu,hO,hN,hP⟩)
theorem ok_prune {s x : Sta} {t : List (List Int)} (h : x = pruneF s t) (hk : stateOk s) : stateOk x := by
 rw [h,pruneF,if_pos hk]
 exact stateOk_join hk (stateOk_floors (marksOk_F fun i => Int.le_trans (Int.min_le_right _ _) (goneAt_le hk i).2))
theorem Frs.st0 {a : St} : Frs a a (pcS ⟨none,none,nilS⟩) := ⟨pcS_nil,newS_nil,Pres.refl _⟩
theorem Frs.renew {s0 st st' : St} {a b : List Pc} {c d : Pc} (h : Frs s0 st (a ++ c :: b)) (hp : Pr c.p st st') (hd : d.own st') (hn : New st.next d.p) : Frs s0 st' (a ++ d :: b) :=
 ⟨h.1.renew hp hd hn,h.2.1.left.app (NewP.cons (hn.le h.2.2.1) (NewP.right (a := [c]) h.2.1.right)),hp.pres h.2.2 (h.2.1.right c (List.mem_cons_self ..))⟩
theorem Frs.update {s0 st st' : St} {a b : List Pc} {c d : Pc} (h : Frs s0 st (a ++ c :: b)) (hp : Pr c.p st st') (hd : d.own st') (he : d.p = c.p) : Frs s0 st' (a ++ d :: b) :=
 ⟨h.1.update hp hd he,h.2.1.left.app (NewP.cons (he ▸ h.2.1.right c (List.mem_cons_self ..)) (NewP.right (a := [c]) h.2.1.right)),hp.pres h.2.2 (h.2.1.right c (List.mem_cons_self ..))⟩
theorem Frs.part {s0 st st' : St} {v : MV} {u : SV} (h : Frs s0 st (pcMV v)) (hF : Frs st st' (pcS u)) : Frs s0 st' (pcMV { v with part := u }) := by
 have e : ∀ x : SV,pcMV { v with part := x } = (pcIs v.tree.toRV ++ (pcIs v.vec ++ pcIs v.leaves)) ++ (pcS x ++ pcFV v.marks) := fun x => by simp only [List.append_assoc]
 rw [e]
 exact Frs.swap (c := pcS v.part) (by rw [← e]; exact h) hF
theorem Frs.tree {s0 st st' : St} {v : MV} {u : TV} (h : Frs s0 st (pcMV v)) (hF : Frs st st' (pcIs u.toRV)) : Frs s0 st' (pcMV { v with tree := u }) :=
 Frs.swap (a := []) (c := pcIs v.tree.toRV) h hF
end Go.Proofs.YteabadoaeadcgaaDoor.AM
namespace Go.Proofs.YteabadoaeadcgaaDoor.AM
open Go Go.Proofs
set_option linter.unusedVariables false
set_option linter.unusedSimpArgs false
theorem cb_eq : ∀ {a b : List UInt8},Lib.compareBytes a b = 0 → a = b
 | [],[],_ => rfl
 | [],b :: bs,h => by simp [Lib.compareBytes] at h
 | a :: l,[],h => by simp [Lib.compareBytes] at h
 | a :: l,b :: bs,h => by
  unfold Lib.compareBytes at h
  by_cases h1 : a < b
  ·simp [h1] at h
  ·by_cases h2 : b < a
   ·simp [h1,h2] at h
   ·simp [h1,h2] at h
    rw [UInt8.le_antisymm (UInt8.not_lt.1 h2) (UInt8.not_lt.1 h1),cb_eq h]
theorem entCmp_le (a b : Ent) : entCmp a b ≤ 0 ↔ (a.inc < b.inc ∨ (a.inc = b.inc ∧ (a.rank < b.rank ∨ (a.rank = b.rank ∧ (a.beat < b.beat ∨ (a.beat = b.beat ∧ (a.ver < b.ver ∨ (a.ver = b.ver ∧ cmpB a.data b.data ≤ 0)))))))) := by
 unfold entCmp firstNZ firstNZ firstNZ firstNZ firstNZ firstNZ cmpI
 repeat' split
 all_goals omega
theorem entCmp_eq {a b : Ent} (h : entCmp a b = 0) : a = b := by
 have h1 := (entCmp_le a b).1 (by omega)
 have h2 := (entCmp_le b a).1 (by rw [entCmp_neg]; omega)
 have hn : cmpB b.data a.data = - cmpB a.data b.data := compareBytes_neg _ _
 have hd : a.data = b.data := by
  have : cmpB a.data b.data = 0 := by omega
  have := cb_eq this
  obtain ⟨_,_,_,_,⟨⟨x⟩⟩⟩ := a
  obtain ⟨_,_,_,_,⟨⟨y⟩⟩⟩ := b
  simp only at this
  rw [this]
 obtain ⟨i,r,be,v,d⟩ := a
 obtain ⟨i2,r2,be2,v2,d2⟩ := b
 simp only at h1 h2 hn hd
 subst hd
 obtain ⟨rfl,rfl,rfl,rfl⟩ : i = i2 ∧ r = r2 ∧ be = be2 ∧ v = v2 := by omega
 rfl
theorem entMax_le {a b : Ent} (h : entCmp a b ≤ 0) : entMax a b = b := by
 unfold entMax
 split
 ·rfl
 ·exact entCmp_eq (by omega)
theorem entMax_ge {a b : Ent} (h : 0 ≤ entCmp a b) : entMax a b = a := by
 unfold entMax
 rw [if_neg (by omega)]
theorem entMax_comm (a b : Ent) : entMax a b = entMax b a := by
 rcases Int.le_total (entCmp a b) 0 with h | h
 ·rw [entMax_le h,entMax_ge (by rw [entCmp_neg]; omega)]
 ·rw [entMax_ge h,entMax_le (by rw [entCmp_neg]; omega)]
theorem entMax_or (a b : Ent) : entMax a b = a ∨ entMax a b = b := by unfold entMax; split; exact .inr rfl; exact .inl rfl
theorem entMax_inc (a b : Ent) : (entMax a b).inc = max a.inc b.inc := by
 rcases Int.le_total (entCmp a b) 0 with h | h
 ·have := (entCmp_le a b).1 h
  rw [entMax_le h]; omega
 ·have := (entCmp_le b a).1 (by rw [entCmp_neg]; omega)
  rw [entMax_ge h]; omega
def vE (e : Ent) : Prop := e = zEnt ∨ entOk e
theorem vE.max {a b : Ent} (h : vE a) (k : vE b) : vE (entMax a b) := by
 rcases entMax_or a b with e | e <;> rw [e] <;> assumption
theorem vE.inc {a : Ent} (h : vE a) : 0 ≤ a.inc := by
 rcases h with rfl | h
 ·exact Int.le_refl _
 ·have := h.1.1; omega
theorem vE.zero {a : Ent} (h : vE a) (h0 : a.inc ≤ 0) : a = zEnt := by
 rcases h with h | h
 ·exact h
 ·have := h.1.1; omega
theorem entMax_zl {a : Ent} (h : vE a) : entMax zEnt a = a := by
 rcases h with rfl | h
 ·exact entMax_zz
 ·exact (entMax_zero h.1.1).2
def cut (f : Int) (e : Ent) : Ent := if e.inc > f then e else zEnt
theorem cut_vE {f : Int} {e : Ent} (h : vE e) : vE (cut f e) := by
 unfold cut
 split
 ·exact h
 ·exact .inl rfl
theorem cut_z {f : Int} : cut f zEnt = zEnt := by unfold cut; split <;> rfl
theorem cut_inc {f : Int} {e : Ent} (h : cut f e ≠ zEnt) : cut f e = e ∧ e.inc > f := by
 unfold cut at h ⊢
 split
 ·rename_i h1; exact ⟨rfl,h1⟩
 ·rename_i h1; rw [if_neg h1] at h; exact absurd rfl h
theorem cut_max {f g : Int} {m e : Ent} (hm : vE m) (he : vE e) (hf : f ≤ g) : cut g (entMax (cut f m) e) = cut g (entMax m e) := by
 by_cases h : m.inc > f
 ·rw [show cut f m = m by unfold cut; rw [if_pos h]]
 ·rw [show cut f m = zEnt by unfold cut; rw [if_neg h],entMax_zl he]
  have hi := entMax_inc m e
  unfold cut
  rcases entMax_or m e with k | k
  ·rw [k] at hi ⊢
   rw [if_neg (by omega),if_neg (by omega)]
  ·rw [k]
theorem fmap_congr {α β : Type} {f g : α → Option β} {l : List α} (h : ∀ x ∈ l,f x = g x) : l.filterMap f = l.filterMap g := by
 induction l with
 | nil => rfl
 | cons a l ih => rw [List.filterMap_cons,List.filterMap_cons,h a (List.mem_cons_self ..),ih fun x hx => h x (List.mem_cons_of_mem _ hx)]
theorem sorted_of {α : Type} {id : α → Int} {l : List α} (h : ∀ (j : Nat) x,l[j]? = some x → ∀ y,0 < j → l[j - 1]? = some y → id y < id x) : l.Pairwise fun a b => id a < id b := by
 rw [List.pairwise_iff_getElem]
 intro i j hi hj hij
 induction j with
 | zero => omega
 | succ j ih =>
  have h1 := h (j + 1) l[j + 1] (List.getElem?_eq_getElem hj) l[j] (Nat.succ_pos j) (List.getElem?_eq_getElem (by omega))
  rcases Nat.lt_or_ge i j with h2 | h2
  ·have := ih (by omega) h2; omega
  ·have : i = j := by omega
   subst this; exact h1
theorem canon {α : Type} (id : α → Int) : ∀ (m k : Nat) (l : List α),(l.Pairwise fun a b => id a < id b) → (∀ x ∈ l,(k : Int) ≤ id x ∧ id x < ((k + m : Nat) : Int)) → l = (List.range' k m).filterMap fun (j : Nat) => l.find? fun x => decide (id x = (j : Int))
 | 0,k,l,_,h => by
  cases l with
  | nil => rfl
  | cons x l => have := h x (List.mem_cons_self ..); omega
 | m + 1,k,[],_,_ => by simp
 | m + 1,k,x :: l,hp,h => by
  have hx := h x (List.mem_cons_self ..)
  obtain ⟨h1,h2⟩ := List.pairwise_cons.1 hp
  rw [List.range'_succ,List.filterMap_cons]
  by_cases hk : id x = (k : Int)
  ·have hf : (x :: l).find? (fun x => decide (id x = (k : Int))) = some x := by rw [List.find?_cons,decide_eq_true hk]
   rw [hf]
   simp only
   have ih := canon id m (k + 1) l h2 fun y hy => by have := h1 y hy; have := h y (List.mem_cons_of_mem _ hy); omega
   congr 1
   rw [ih]
   refine fmap_congr fun j hj => ?_
   have hj := List.mem_range'_1.1 hj
   rw [← ih,List.find?_cons,decide_eq_false (by omega)]
  ·have ih := canon id m (k + 1) (x :: l) hp fun y hy => by
    have h3 := h y hy
    rcases List.mem_cons.1 hy with rfl | hy
    ·omega
    ·have := h1 y hy; omega
   have hf : (x :: l).find? (fun x => decide (id x = (k : Int))) = none := by
    rw [List.find?_eq_none]
    intro y hy
    simp only [decide_eq_true_eq]
    rcases List.mem_cons.1 hy with rfl | hy
    ·exact hk
    ·have := h1 y hy; omega
   rw [hf]
   exact ih
theorem find_item (l : List Itm) (j : Int) : (l.find? fun x => decide (x.id = j)) = if (entP l j).2 = true then some ⟨j,(entP l j).1⟩ else none := by
 induction l with
 | nil => rfl
 | cons x l ih =>
  rw [List.find?_cons,entP]
  by_cases h : x.id = j
  ·rw [decide_eq_true h,if_pos h]
   obtain ⟨i,e⟩ := x
   simp only at h
   subst h; rfl
  ·rw [decide_eq_false h,if_neg h]; exact ih
theorem find_floor (l : List Flr) (j : Int) (hl : ∀ x ∈ l,1 ≤ x.inc) : (l.find? fun x => decide (x.id = j)) = if floorOf l j > 0 then some ⟨j,floorOf l j⟩ else none := by
 induction l with
 | nil => rfl
 | cons x l ih =>
  rw [List.find?_cons,floorOf]
  by_cases h : x.id = j
  ·rw [decide_eq_true h,if_pos h]
   have := hl x (List.mem_cons_self ..)
   rw [if_pos (by omega)]
   obtain ⟨i,e⟩ := x
   simp only at h
   subst h; rfl
  ·rw [decide_eq_false h,if_neg h]; exact ih fun y hy => hl y (List.mem_cons_of_mem _ hy)
theorem items_canon {s : Sta} (h : stateOk s) : s.items = (List.range 5).filterMap fun (j : Nat) => if (entP s.items (j : Int)).2 = true then some (⟨(j : Int),(entP s.items (j : Int)).1⟩ : Itm) else none := by
 have := canon (fun x : Itm => x.id) 5 0 s.items (sorted_of fun j x hx => (h.1 j x hx).2.2.2) fun x hx => by
  obtain ⟨j,hj⟩ := List.getElem?_of_mem hx
  have := (h.1 j x hj).1
  omega
 rw [List.range_eq_range',this]
 refine fmap_congr fun j _ => ?_
 rw [← this]
 exact find_item _ _
theorem floors_canon {l : List Flr} (h : marksOk l) : l = (List.range 5).filterMap fun (j : Nat) => if floorOf l (j : Int) > 0 then some (⟨(j : Int),floorOf l (j : Int)⟩ : Flr) else none := by
 have := canon (fun x : Flr => x.id) 5 0 l (sorted_of fun j x hx => (h j x hx).2.2) fun x hx => by
  obtain ⟨j,hj⟩ := List.getElem?_of_mem hx
  have := (h j x hj).1
  omega
 rw [List.range_eq_range']
 conv => lhs; rw [this]
 refine fmap_congr fun j _ => ?_
 exact find_floor _ _ fun x hx => by
  obtain ⟨j,hj⟩ := List.getElem?_of_mem hx
  exact (h j x hj).2.1.1
def gE (s : Sta) (i : Int) : Ent := (entP s.items i).1
def gF (s : Sta) (i : Int) : Int := floorOf s.floors i
theorem gE_v {s : Sta} (h : stateOk s) (i : Int) : vE (gE s i) := entP_cases h.1 i
theorem gF_pos {s : Sta} (h : stateOk s) (i : Int) : 0 ≤ gF s i ∧ gF s i ≤ 1000 := floorOf_pos h.2 i
theorem gE_in {s : Sta} (h : stateOk s) (i : Int) : (entP s.items i).2 = true ↔ 1 ≤ (gE s i).inc := by
 unfold gE
 rcases hb : entP s.items i with ⟨e,b⟩
 cases b with
 | false => rw [entP_none (e := e) (id := i) hb.symm]; simp [zEnt]
 | true =>
  have := (ent_ok h (e := e) (id := i) hb.symm).1.1
  simp only [true_iff]; exact this
theorem gE_cut {s : Sta} (h : stateOk s) (i : Int) : cut (gF s i) (gE s i) = gE s i := by
 unfold gE gF
 rcases hb : entP s.items i with ⟨e,b⟩
 cases b with
 | false => rw [entP_none (e := e) (id := i) hb.symm]; exact cut_z
 | true =>
  obtain ⟨j,x,h1,h2,h3⟩ := entP_mem (e := e) (id := i) hb.symm
  have := (h.1 j x h1).2.2.1
  rw [h3,h2] at this
  unfold cut
  rw [if_pos this]
theorem sta_eq {a b : Sta} (ha : stateOk a) (hb : stateOk b) (h : ∀ j : Nat,j < 5 → gE a (j : Int) = gE b (j : Int) ∧ gF a (j : Int) = gF b (j : Int)) : a = b := by
 have h1 : a.items = b.items := by
  rw [items_canon ha,items_canon hb]
  refine fmap_congr fun j hj => ?_
  have hj := (h j (List.mem_range.1 hj)).1
  have e1 : (entP a.items (j : Int)).2 = (entP b.items (j : Int)).2 := by
   rw [Bool.eq_iff_iff,gE_in ha,gE_in hb,hj]
  rw [e1]
  unfold gE at hj
  rw [hj]
 have h2 : a.floors = b.floors := by
  rw [floors_canon ha.2,floors_canon hb.2]
  refine fmap_congr fun j hj => ?_
  have hj := (h j (List.mem_range.1 hj)).2
  unfold gF at hj
  rw [hj]
 obtain ⟨ai,af⟩ := a
 obtain ⟨bi,bf⟩ := b
 simp only at h1 h2
 rw [h1,h2]
theorem entP_app (l m : List Itm) (i : Int) : entP (l ++ m) i = if (entP l i).2 = true then entP l i else entP m i := by
 induction l with
 | nil => rfl
 | cons x l ih =>
  rw [List.cons_append,entP,entP]
  by_cases h : x.id = i
  ·rw [if_pos h,if_pos h]; rfl
  ·rw [if_neg h,if_neg h]; exact ih
theorem entP_pick (c : Int → Prop) [DecidablePred c] (g : Int → Ent) (id : Nat) : ∀ n,entP ((List.range n).filterMap fun (j : Nat) => if c (j : Int) then some (⟨(j : Int),g (j : Int)⟩ : Itm) else none) (id : Int) = if id < n ∧ c (id : Int) then (g (id : Int),true) else (zEnt,false)
 | 0 => by simp [entP]
 | n + 1 => by
  rw [List.range_succ,List.filterMap_append,entP_app,entP_pick c g id n]
  by_cases h1 : id < n ∧ c (id : Int)
  ·rw [if_pos h1,if_pos rfl,if_pos ⟨by omega,h1.2⟩]
  ·rw [if_neg h1,if_neg (by simp)]
   by_cases hn : c (n : Int)
   ·simp only [List.filterMap_cons,List.filterMap_nil,hn,if_true,entP]
    by_cases h2 : n = id
    ·subst h2; rw [if_pos rfl,if_pos ⟨Nat.lt_succ_self _,hn⟩]
    ·rw [if_neg (by omega),if_neg (fun h => h1 ⟨by omega,h.2⟩)]
   ·simp only [List.filterMap_cons,List.filterMap_nil,hn,if_false,entP]
    rw [if_neg]
    rintro ⟨h3,h4⟩
    rcases Nat.lt_or_ge id n with h5 | h5
    ·exact h1 ⟨h5,h4⟩
    ·have : id = n := by omega
     subst this; exact hn h4
theorem gF_join {a b : Sta} (ha : stateOk a) (hb : stateOk b) {j : Nat} (h : j < 5) : gF (joinF a b 5) (j : Int) = max (gF a (j : Int)) (gF b (j : Int)) := floorOf_join ha.2 hb.2 h
theorem gE_join (a b : Sta) {j : Nat} (h : j < 5) : gE (joinF a b 5) (j : Int) = cut (max (gF a (j : Int)) (gF b (j : Int))) (entMax (gE a (j : Int)) (gE b (j : Int))) := by
 show (entP ((List.range 5).filterMap fun (j : Nat) => if (topE a b (j : Int)).inc > topF a b (j : Int) then some (⟨(j : Int),topE a b (j : Int)⟩ : Itm) else none) (j : Int)).1 = _
 rw [entP_pick (fun i => (topE a b i).inc > topF a b i) (fun i => topE a b i) j 5]
 unfold cut
 by_cases h1 : (topE a b (j : Int)).inc > topF a b (j : Int)
 ·rw [if_pos ⟨h,h1⟩]; exact (if_pos h1).symm
 ·rw [if_neg (fun k => h1 k.2)]; exact (if_neg h1).symm
theorem goneAt_eq {s : Sta} (h : stateOk s) (i : Int) : goneAt s i = if 1 ≤ (gE s i).inc then (if (gE s i).rank = 1 then (gE s i).inc else (gE s i).inc - 1) else gF s i := by
 unfold goneAt
 rw [if_pos h]
 by_cases h1 : (entP s.items i).2 = true
 ·rw [if_pos h1,if_pos ((gE_in h i).1 h1)]; rfl
 ·rw [if_neg h1,if_neg (fun k => h1 ((gE_in h i).2 k))]; rfl
end Go.Proofs.YteabadoaeadcgaaDoor.AM
namespace Go.Proofs.YteabadoaeadcgaaDoor.AM
open Go Go.Proofs
set_option linter.unusedVariables false
set_option linter.unusedSimpArgs false
set_option maxRecDepth 100000
set_option maxHeartbeats 4000000
theorem mem_ps {q : Option Addr} {t : List RV} {p : Option Addr} (h : p ∈ t.map (·.p)) : ∃ c ∈ pcT q t,c.p = p := by
 obtain ⟨r,hr,rfl⟩ := List.mem_map.1 h
 exact ⟨pcRV r,List.mem_cons_of_mem _ (List.mem_map_of_mem hr),rfl⟩
theorem OwnP.after {st0 s s' : St} {l : List Pc} {q : Option Addr} {t : List RV} {n : Nat} (h : OwnP s l) (h0 : OwnP st0 l) (hn : st0.next ≤ n) (hN : NewP n (pcT q t)) (hL : PrL (t.map (·.p)) s s') : OwnP s' l :=
 h.prl hL fun c hc p hp => by
  obtain ⟨d,hd,rfl⟩ := mem_ps (q := q) hp
  exact (Dis.of (((h0.1 c hc).old).le hn) (hN d hd)).symm
theorem OwnP.before {st0 s s' : St} {l : List Pc} {q : Option Addr} {t : List RV} {n : Nat} (h : OwnP s l) (hN : NewP n l) (h0 : OwnP st0 (pcT q t)) (hn : st0.next ≤ n) (hL : PrL (t.map (·.p)) s s') : OwnP s' l :=
 h.prl hL fun c hc p hp => by
  obtain ⟨d,hd,rfl⟩ := mem_ps (q := q) hp
  exact Dis.of (((h0.1 d hd).old).le hn) (hN c hc)
theorem tableAdd_lens (T : List (List Int)) (k : Int) (ms : List Flr) : (tableAdd T k ms).map List.length = T.map List.length := by
 unfold tableAdd
 split
 ·rename_i h
  have hK : k.toNat < T.length := by omega
  have hg : T.getD k.toNat [] = T[k.toNat] := by rw [List.getD_eq_getElem?_getD,List.getElem?_eq_getElem hK]; rfl
  conv => rhs; rw [(split_at (List.getElem?_eq_getElem hK)).1]
  rw [putT,hg,List.map_append,List.map_append,List.map_cons,List.map_cons,addMarks_len]
 ·rfl
theorem rows_lens {t u : List RV} (h : (u.map (·.l)).map List.length = (t.map (·.l)).map List.length) (hr : ∀ r ∈ t,szOk r.l.length) : ∀ r ∈ u,szOk r.l.length := fun r hm => by
 have h2 : r.l.length ∈ (u.map (·.l)).map List.length := List.mem_map_of_mem (List.mem_map_of_mem hm)
 rw [h] at h2
 obtain ⟨l,hl,he⟩ := List.mem_map.1 h2
 obtain ⟨x,hx,rfl⟩ := List.mem_map.1 hl
 rw [← he]; exact hr x hx
end Go.Proofs.YteabadoaeadcgaaDoor.AM
namespace Go.Proofs.YteabadoaeadcgaaDoor.AM
open Go Go.Proofs
set_option linter.unusedVariables false
set_option linter.unusedSimpArgs false
def gon (f : Int) (e : Ent) : Int := if 1 ≤ e.inc then (if e.rank = 1 then e.inc else e.inc - 1) else f
theorem goneAt_gon {s : Sta} (h : stateOk s) (i : Int) : goneAt s i = gon (gF s i) (gE s i) := goneAt_eq h i
theorem vE.rank {e : Ent} (h : vE e) (h1 : 1 ≤ e.inc) : 0 ≤ e.rank ∧ e.rank ≤ 1 := by
 rcases h with rfl | h
 ·simp [zEnt] at h1
 ·exact h.2.1
theorem gon_rng {f : Int} {e : Ent} (hf : 0 ≤ f) (he : vE e) (hc : cut f e = e) : f ≤ gon f e ∧ gon f e ≤ max f e.inc ∧ (1 ≤ e.inc → e.inc - 1 ≤ gon f e ∧ f < e.inc) := by
 have h0 := he.inc
 by_cases h1 : 1 ≤ e.inc
 ·have hi : e.inc > f := (cut_inc (f := f) (e := e) (by rw [hc]; rintro rfl; simp [zEnt] at h1)).2
  unfold gon
  rw [if_pos h1]
  split <;> omega
 ·unfold gon
  rw [if_neg h1]
  omega
theorem gon_join {f g : Int} {a b : Ent} (hf : 0 ≤ f) (hg : 0 ≤ g) (va : vE a) (vb : vE b) (ca : cut f a = a) (cb : cut g b = b) : gon (max f g) (cut (max f g) (entMax a b)) = max (gon f a) (gon g b) := by
 obtain ⟨a1,a2,a3⟩ := gon_rng hf va ca
 obtain ⟨b1,b2,b3⟩ := gon_rng hg vb cb
 have hm := entMax_inc a b
 have ha0 := va.inc
 have hb0 := vb.inc
 by_cases h : (entMax a b).inc > max f g
 ·have hcut : cut (max f g) (entMax a b) = entMax a b := if_pos h
  rw [hcut]
  have key : ∀ (f g : Int) (a b : Ent),vE a → vE b → entCmp b a ≤ 0 → f < a.inc → g < a.inc → 0 ≤ f → 0 ≤ g → cut g b = b → gon g b ≤ gon f a := by
   intro f g a b va vb hle h1 h2 h3 h4 cb
   have hk := (entCmp_le b a).1 hle
   obtain ⟨b1,b2,b3⟩ := gon_rng h4 vb cb
   have ra := va.rank (by omega)
   unfold gon
   rw [if_pos (show 1 ≤ a.inc by omega)]
   by_cases hb : 1 ≤ b.inc
   ·have rb := vb.rank hb
    rw [if_pos hb]
    split <;> split <;> omega
   ·rw [if_neg hb]
    split <;> omega
  have e1 : ∀ (f' : Int) (e : Ent),1 ≤ e.inc → gon f' e = gon (max f g) e := fun f' e he => by unfold gon; rw [if_pos he,if_pos he]
  rcases Int.le_total (entCmp a b) 0 with hle | hle
  ·rw [entMax_le hle] at h ⊢
   have := key g f b a vb va hle (by omega) (by omega) hg hf ca
   rw [← e1 g b (by omega)]
   omega
  ·rw [entMax_ge hle] at h ⊢
   have := key f g a b va vb (by rw [entCmp_neg]; omega) (by omega) (by omega) hf hg cb
   rw [← e1 f a (by omega)]
   omega
 ·have hcut : cut (max f g) (entMax a b) = zEnt := if_neg h
  rw [hcut]
  have e0 : gon (max f g) zEnt = max f g := by unfold gon; rw [if_neg (by simp [zEnt])]
  rw [e0]
  omega
theorem gone_join {a b : Sta} (ha : stateOk a) (hb : stateOk b) {j : Nat} (h : j < 5) : goneAt (joinF a b 5) (j : Int) = max (goneAt a (j : Int)) (goneAt b (j : Int)) := by
 rw [goneAt_gon (stateOk_join ha hb),goneAt_gon ha,goneAt_gon hb,gE_join a b h,gF_join ha hb h]
 exact gon_join (gF_pos ha _).1 (gF_pos hb _).1 (gE_v ha _) (gE_v hb _) (gE_cut ha _) (gE_cut hb _)
theorem addMarks_F (g : Int → Int) (l : List Int) (hl : l.length = 5) (j : Nat) : ∀ n,n ≤ 5 → (addMarks l (marksF g n)).getD j 0 = if j < n ∧ g (j : Int) > 0 then max (l.getD j 0) (g (j : Int)) else l.getD j 0
 | 0,_ => by simp [marksF,addMarks]
 | n + 1,hn => by
  have ih := addMarks_F g l hl j n (by omega)
  have hlen : (addMarks l (marksF g n)).length = 5 := by rw [addMarks_len]; exact hl
  rw [marksF_succ]
  by_cases hg : g (n : Int) > 0
  ·rw [if_pos hg,addMarks_snoc]
   simp only [Int.toNat_natCast]
   by_cases hj : n = j
   ·subst hj
    rw [List.getD_eq_getElem?_getD,List.getElem?_set_self (by omega)]
    simp only [Option.getD_some]
    rw [ih,if_neg (by omega),if_pos ⟨Nat.lt_succ_self _,hg⟩]
   ·rw [List.getD_eq_getElem?_getD,List.getElem?_set_ne hj,← List.getD_eq_getElem?_getD,ih]
    by_cases h1 : j < n ∧ g (j : Int) > 0
    ·rw [if_pos h1,if_pos ⟨by omega,h1.2⟩]
    ·rw [if_neg h1,if_neg (fun h => h1 ⟨by omega,h.2⟩)]
  ·rw [if_neg hg,ih]
   by_cases h1 : j < n ∧ g (j : Int) > 0
   ·rw [if_pos h1,if_pos ⟨by omega,h1.2⟩]
   ·rw [if_neg h1,if_neg]
    rintro ⟨h2,h3⟩
    rcases Nat.lt_or_ge j n with h4 | h4
    ·exact h1 ⟨h4,h3⟩
    ·have : j = n := by omega
     subst this; exact hg h3
theorem addMarks_max {g : Int → Int} {l : List Int} (hl : l.length = 5) {j : Nat} (hj : j < 5) (h0 : 0 ≤ l.getD j 0) : (addMarks l (marksF g 5)).getD j 0 = max (l.getD j 0) (g (j : Int)) := by
 rw [addMarks_F g l hl j 5 (Nat.le_refl _)]
 split
 ·rfl
 ·rename_i h
  have : ¬ g (j : Int) > 0 := fun k => h ⟨hj,k⟩
  omega
theorem marks_ok {s : Sta} (h : stateOk s) : marksOk (marksF (goneAt s) 5) := marksOk_F fun i => (goneAt_le h i).2
end Go.Proofs.YteabadoaeadcgaaDoor.AM
namespace Go.Proofs.YteabadoaeadcgaaDoor.AM
open Go Go.Proofs
set_option linter.unusedVariables false
set_option linter.unusedSimpArgs false
set_option maxRecDepth 100000
set_option maxHeartbeats 4000000
theorem and255 (x : Int) : 0 ≤ bits .and .i64 x 255 ∧ bits .and .i64 x 255 < 256 := by
 simp only [bits,BitVec.toNat_and]
 have h : (BitVec.ofInt IntKind.i64.bits 255).toNat = 255 := by decide
 rw [h]
 have h2 : (BitVec.ofInt IntKind.i64.bits x).toNat &&& 255 ≤ 255 := Nat.and_le_right
 rw [wrap_i64 (by omega) (by omega)]
 omega
theorem op_and255 {P : Program} {ls : List Tmp} {call : ACallT} {o : Oper} {e : Operand → Value} {lo : Lo} {st : St} {K : Value × Lo × St → Prop} {t ty : TypeId} {x y : Operand} {a : Int} (ho : o.op = .binOp .and t x y ty) (hx : e x = .int .i64 a) (hy : e y = .int .i64 255)
  (hK : ∀ r,0 ≤ r → r < 256 → K (.int .i64 r,lo,st)) : ∃ r,aoper P ls call o e lo st = some r ∧ K r := by
 refine ⟨_,?_,hK (bits .and .i64 a 255) (and255 a).1 (and255 a).2⟩
 obtain ⟨d,op,ty,pos,after,gd⟩ := o
 simp only at ho
 subst ho
 simp [aoper,rop,hx,hy,abin,aint]
def Cur (st : St) (c : Nat) (p : Option Addr) (bs : List Int) : Prop := c < st.next ∧ ∃ (z : Nat) (i : Nat) (h : Int),st.mem c = some ⟨true,z,[.slice p bs.length bs.length,.int .i64 i,.int .i64 h]⟩ ∧ Ints st .u8 p bs ∧ (bs.length = 0 ∨ ∀ q,p = some q → q.block ≠ c) ∧ i ≤ bs.length
def PresC (c : Nat) (st st' : St) : Prop := st.next ≤ st'.next ∧ ∀ a,a < st.next → a ≠ c → st'.mem a = st.mem a
theorem PresC.refl (c : Nat) (st : St) : PresC c st st := ⟨Nat.le_refl _,fun _ _ _ => rfl⟩
theorem PresC.trans {c : Nat} {x y z : St} (h : PresC c x y) (k : PresC c y z) : PresC c x z := ⟨Nat.le_trans h.1 k.1,fun a ha hc => (k.2 a (Nat.lt_of_lt_of_le ha h.1) hc).trans (h.2 a ha hc)⟩
theorem PresC.ints {c : Nat} {st st' : St} {k : IntKind} {p : Option Addr} {l : List Int} (h : PresC c st st') (hi : Ints st k p l) (hp : l.length = 0 ∨ ∀ q,p = some q → q.block ≠ c) : Ints st' k p l := by
 rcases hi with hi | ⟨b,off,blk,rfl,hm,hb,hc⟩
 ·exact .inl hi
 rcases hp with h0 | hp
 ·exact .inl h0
 ·exact .inr ⟨b,off,blk,rfl,(h.2 b hb (hp _ rfl)).trans hm,Nat.lt_of_lt_of_le hb h.1,hc⟩
theorem PresC.own {c : Nat} {st st' : St} {k : IntKind} {p : Option Addr} {l : List Int} (h : PresC c st st') (hi : Own st k p l) (hp : ∀ q,p = some q → q.block ≠ c) : Own st' k p l := by
 rcases hi with ⟨rfl,rfl⟩ | ⟨a,rfl,ha,hm⟩
 ·exact .inl ⟨rfl,rfl⟩
 ·exact .inr ⟨a,rfl,Nat.lt_of_lt_of_le ha h.1,(h.2 a ha (hp _ rfl)).trans hm⟩
theorem Pres.c {c : Nat} {st st' : St} (h : Pres st st') : PresC c st st' := ⟨h.1,fun a ha _ => h.2 a ha⟩
theorem Cur.pres {c : Nat} {st st' : St} {bs : List Int} {p : Option Addr} (h : Pres st st') (hc : Cur st c p bs) : Cur st' c p bs := by
 obtain ⟨h1,z,i,x,hm,hI,hp,hi⟩ := hc
 exact ⟨Nat.lt_of_lt_of_le h1 h.1,z,i,x,(h.2 c h1).trans hm,h.ints hI,hp,hi⟩
theorem Cur.grow {c : Nat} {p q : Option Addr} {st0 st1 st2 : St} {bs : List Int} (h0 : Cur st0 c p bs) (h1 : PresC c st0 st1) (hc : Cur st1 c p bs) (h2 : ∀ a,a < st1.next → (∀ r,q = some r → a ≠ r.block) → st2.mem a = st1.mem a) (hn : st1.next ≤ st2.next) (hq : ∀ r,q = some r → st0.next ≤ r.block) : Cur st2 c p bs := by
 obtain ⟨hlt,_,_,_,_,hI,hp,_⟩ := h0
 obtain ⟨hl,z,i,h,hm,_,_,hi⟩ := hc
 have hP : PresC c st0 st2 := ⟨Nat.le_trans h1.1 hn,fun a ha hne => (h2 a (Nat.lt_of_lt_of_le ha h1.1) fun r hr he => by have := hq r hr; omega).trans (h1.2 a ha hne)⟩
 exact ⟨Nat.lt_of_lt_of_le hl hn,z,i,h,(h2 c hl fun r hr he => by have := hq r hr; omega).trans hm,hP.ints hI hp,hp,hi⟩
theorem ac_l1Byte (c : Nat) (p : Option Addr) (bs : List Int) (st : St) (hc : Cur st c p bs) (hs : bs.length < 1099511627776) : C 67 [.pointer (some ⟨c,0,none⟩)] st (fun v s => ∃ r,v = .int .i64 r ∧ 0 ≤ r ∧ r < 256 ∧ Cur s c p bs ∧ PresC c st s) := by
 obtain ⟨hlt,z,i,h,hm,hI,hp,hi⟩ := hc
 refine AC.enterX (i := ⟨[],[],[0,2,3,34],[]⟩) [(2,[],[]),(3,[],[]),(4,[],[])] Tryd.func67 rfl rfl (by kernel_rfl) (by kernel_rfl) Tryd.ntmps67 (Lb rfl) rfl ?_
 refine Cu lo0 st [(0,vP c 0)] fun _ => ?_
 refine ⟨_,rfl,?_⟩
 refine ⟨_,rfl,?_⟩
 refine ⟨_,op_ld rfl rfl rfl rfl hm rfl,?_⟩
 refine ⟨_,rfl,?_⟩
 refine ⟨_,rfl,?_⟩
 refine ⟨_,rfl,?_⟩
 refine ⟨_,rfl,?_⟩
 refine op_stc rfl rfl rfl rfl rfl rfl rfl hm rfl (Lb rfl) ?_
 intro st1 hm1 hn1 hk1
 obtain ⟨h1,hm1⟩ : ∃ h1,st1.mem c = some ⟨true,z,[.slice p bs.length bs.length,.int .i64 i,.int .i64 h1]⟩ := ⟨_,hm1⟩
 have hP1 : PresC c st st1 := ⟨Nat.le_of_eq hn1.symm,fun a _ hne => hk1 a hne⟩
 have hI1 := hP1.ints hI hp
 have hlt1 : c < st1.next := by rw [hn1]; exact hlt
 have hC1 : Cur st1 c p bs := ⟨hlt1,z,i,h1,hm1,hI1,hp,hi⟩
 refine Cu lo0 st1 [(0,vP c 0)] fun _ => ?_
 refine ⟨_,rfl,?_⟩
 refine ⟨_,rfl,?_⟩
 refine ⟨_,op_ld rfl rfl rfl rfl hm1 rfl,?_⟩
 refine ⟨_,rfl,?_⟩
 refine ⟨_,rfl,?_⟩
 refine ⟨_,rfl,?_⟩
 refine ⟨_,op_ld rfl rfl rfl rfl hm1 rfl,?_⟩
 refine ⟨_,rfl,?_⟩
 refine ⟨_,rfl,?_⟩
 refine op_and255 rfl rfl rfl ?_
 intro r1 hr1 hr1'
 refine Cu lo0 st1 [(0,vP c 0),(3,vI r1)] fun _ => ?_
 refine ⟨_,rfl,?_⟩
 refine ⟨_,rfl,?_⟩
 refine ⟨_,op_ld rfl rfl rfl rfl hm1 rfl,?_⟩
 refine ⟨_,rfl,?_⟩
 refine ⟨_,rfl,?_⟩
 refine ⟨_,op_ld rfl rfl rfl rfl hm1 rfl,?_⟩
 refine ⟨_,rfl,?_⟩
 refine ⟨_,rfl,?_⟩
 rintro (_|_) hd
 ·refine Cu lo0 st1 [(0,vP c 0),(3,vI r1),(34,vB false)] fun _ => ?_
  refine Cu lo0 st1 [(0,vP c 0),(3,vI r1)] fun _ => ?_
  repeat refine cxs ?_
  exact Rt ⟨r1,rfl,hr1,hr1',hC1,hP1⟩
 ·refine Cu lo0 st1 [(0,vP c 0),(3,vI r1),(34,vB true)] fun _ => ?_
  have hd : i < bs.length := Int.ofNat_lt.1 (of_decide_eq_true (show decide ((i : Int) < (bs.length : Int)) = true from hd))
  obtain ⟨b1,o1,k1,hpe,hb1,hc1⟩ := hI1.at hd
  refine ⟨_,rfl,?_⟩
  refine ⟨_,rfl,?_⟩
  refine ⟨_,op_ld rfl rfl rfl rfl hm1 rfl,?_⟩
  refine ⟨_,rfl,?_⟩
  refine ⟨_,rfl,?_⟩
  refine ⟨_,op_ld rfl rfl rfl rfl hm1 rfl,?_⟩
  refine ⟨_,op_idx (j := (i : Int)) (n := bs.length) (q := ⟨b1,o1,none⟩) rfl (congrArg (fun u => Value.slice u bs.length bs.length) hpe) rfl rfl rfl (Int.natCast_nonneg i) (Int.ofNat_lt.2 hd),?_⟩
  refine ⟨_,op_ld rfl rfl rfl rfl hb1 hc1,?_⟩
  refine ⟨_,rfl,?_⟩
  refine ⟨_,rfl,?_⟩
  refine op_and255 rfl rfl rfl ?_
  intro r2 hr2 hr2'
  refine Cu lo0 st1 [(0,vP c 0),(3,vI r2)] fun _ => ?_
  refine ⟨_,rfl,?_⟩
  refine ⟨_,rfl,?_⟩
  refine ⟨_,op_ld rfl rfl rfl rfl hm1 rfl,?_⟩
  refine ⟨_,rfl,?_⟩
  refine ⟨_,rfl,?_⟩
  refine ⟨_,rfl,?_⟩
  refine op_stc rfl rfl rfl rfl rfl rfl rfl hm1 rfl (Lb rfl) ?_
  intro st2 hm2 hn2 hk2
  have hm2 : st2.mem c = some ⟨true,z,[.slice p bs.length bs.length,.int .i64 (IntKind.wrap .i64 ((i : Int) + 1)),.int .i64 h1]⟩ := hm2
  rw [wrap_i64 (by omega) (by omega)] at hm2
  have hP2 : PresC c st1 st2 := ⟨Nat.le_of_eq hn2.symm,fun a _ hne => hk2 a hne⟩
  have hlt2 : c < st2.next := by rw [hn2]; exact hlt1
  have hC : Cur st2 c p bs := ⟨hlt2,z,i + 1,h1,hm2,hP2.ints hI1 hp,hp,hd⟩
  refine Cu lo0 st2 [(0,vP c 0),(3,vI r2)] fun _ => ?_
  repeat refine cxs ?_
  exact Rt ⟨r2,rfl,hr2,hr2',hC,hP1.trans hP2⟩
theorem tmod_lt {x n : Int} (hx : 0 ≤ x) (hn : 0 < n) : 0 ≤ x.tmod n ∧ x.tmod n < n := ⟨Int.tmod_nonneg _ hx,Int.tmod_lt_of_pos _ hn⟩
theorem ac_l1Below (c : Nat) (p : Option Addr) (bs : List Int) (n : Int) (st : St) (hc : Cur st c p bs) (hs : bs.length < 1099511627776) : C 49 [.pointer (some ⟨c,0,none⟩),.int .i64 n] st (fun v s => ∃ r,v = .int .i64 r ∧ 0 ≤ r ∧ (0 < n → r < n) ∧ (n ≤ 0 → r = 0) ∧ Cur s c p bs ∧ PresC c st s) := by
 refine AC.enter' (i := ⟨[],[],[0,1,4,5,6,7,8,10,12],[]⟩) Tryd.func49 rfl rfl (by kernel_rfl) Tryd.ntmps49 (Lb rfl) rfl (cw_sound _ _ _ _ _ ?_)
 refine ⟨_,rfl,?_⟩
 rintro (_|_) h0
 ·have h0 : 0 < n := by simpa using h0
  refine ⟨_,rfl,?_⟩
  rintro (_|_) h1
  ·refine ⟨_,rfl,(ac_l1Byte c p bs st hc hs).mono ?_⟩
   rintro _ s1 ⟨r1,rfl,hr1,hr1',hc1,hp1⟩
   refine ⟨_,rfl,(ac_l1Byte c p bs s1 hc1 hs).mono ?_⟩
   rintro _ s2 ⟨r2,rfl,hr2,hr2',hc2,hp2⟩
   refine ⟨_,rfl,(ac_l1Byte c p bs s2 hc2 hs).mono ?_⟩
   rintro _ s3 ⟨r3,rfl,hr3,hr3',hc3,hp3⟩
   refine ⟨_,rfl,(ac_l1Byte c p bs s3 hc3 hs).mono ?_⟩
   rintro _ s4 ⟨r4,rfl,hr4,hr4',hc4,hp4⟩
   refine ⟨_,rfl,?_⟩
   refine ⟨_,rfl,?_⟩
   refine ⟨_,rfl,?_⟩
   refine ⟨_,rfl,?_⟩
   refine ⟨_,rfl,?_⟩
   refine ⟨_,rfl,?_⟩
   refine ⟨_,op_rem rfl rfl rfl (by omega),?_⟩
   have e1 : IntKind.wrap .i64 (r1 * 16777216) = r1 * 16777216 := wrap_i64 (by omega) (by omega)
   have e2 : IntKind.wrap .i64 (r2 * 65536) = r2 * 65536 := wrap_i64 (by omega) (by omega)
   have e3 : IntKind.wrap .i64 (r3 * 256) = r3 * 256 := wrap_i64 (by omega) (by omega)
   have e4 : IntKind.wrap .i64 (r1 * 16777216 + r2 * 65536) = r1 * 16777216 + r2 * 65536 := wrap_i64 (by omega) (by omega)
   have e5 : IntKind.wrap .i64 (r1 * 16777216 + r2 * 65536 + r3 * 256) = r1 * 16777216 + r2 * 65536 + r3 * 256 := wrap_i64 (by omega) (by omega)
   have e6 : IntKind.wrap .i64 (r1 * 16777216 + r2 * 65536 + r3 * 256 + r4) = r1 * 16777216 + r2 * 65536 + r3 * 256 + r4 := wrap_i64 (by omega) (by omega)
   have hX : 0 ≤ IntKind.wrap .i64 (IntKind.wrap .i64 (IntKind.wrap .i64 (IntKind.wrap .i64 (r1 * 16777216) + IntKind.wrap .i64 (r2 * 65536)) + IntKind.wrap .i64 (r3 * 256)) + r4) := by
    rw [e1,e2,e4,e3,e5,e6]; omega
   refine ⟨.inl rfl,_,rfl,_,rfl,(tmod_lt hX h0).1,fun _ => (tmod_lt hX h0).2,fun h => by omega,hc4,((hp1.trans hp2).trans hp3).trans hp4⟩
  ·refine ⟨_,rfl,(ac_l1Byte c p bs st hc hs).mono ?_⟩
   rintro _ s1 ⟨r1,rfl,hr1,hr1',hc1,hp1⟩
   refine ⟨_,op_rem rfl rfl rfl (by omega),?_⟩
   refine ⟨.inl rfl,_,rfl,_,rfl,(tmod_lt hr1 h0).1,fun _ => (tmod_lt hr1 h0).2,fun h => by omega,hc1,hp1⟩
 ·have h0 : n ≤ 0 := by simpa using h0
  exact Rt ⟨0,rfl,Int.le_refl _,fun h => by omega,fun _ => rfl,hc,PresC.refl _ _⟩
theorem Ints.ap {st : St} {k : IntKind} {p : Option Addr} {l : List Int} (h : Ints st k p l) : l.length = 0 ∨ ∀ q,p = some q → q.block ≠ st.next := by
 rcases h with h | ⟨b,off,blk,rfl,_,hb,_⟩
 ·exact .inl h
 ·exact .inr fun q hq => by injection hq with hq; subst hq; exact Nat.ne_of_lt hb
theorem PresC.of {c : Nat} {st st' : St} : PresC c st st' ↔ Pr (some ⟨c,0,none⟩) st st' :=
 ⟨fun h => ⟨h.1,fun a ha hn => h.2 a ha (hn _ rfl)⟩,fun h => ⟨h.1,fun a ha hn => h.2 a ha fun q hq => by injection hq with hq; subst hq; exact hn⟩⟩
theorem ac_spec_l1New (p : Option Addr) (l : List Int) (st : St) (hI : Ints st .u8 p l) (hs : l.length < 1099511627776) : C 33 [vS p l.length] st (fun v s => v = vP st.next 0 ∧ Cur s st.next p l ∧ Pres st s ∧ s.next = st.next + 1) := by
 refine AC.enterX (i := ⟨[],[],[0,2,3,4,15],[]⟩) [] Tryd.func33 rfl rfl (by kernel_rfl) (by kernel_rfl) Tryd.ntmps33 (Lb rfl) rfl ?_
 refine Cu lo0 st [(0,vS p l.length),(2,_)] fun _ => ?_
 iterate 2 refine ⟨_,rfl,?_⟩
 refine cxs ?_
 refine Cu lo0 st [(0,vS p l.length),(2,_),(3,_),(4,vI 0)] fun _ => ?_
 refine AW.loop0 (fun x : Int × Nat => [(0,vS p l.length),(2,.pointer none),(3,vI x.1),(4,vI x.2)]) (fun m (x : Int × Nat) st' => m = l.length - x.2 ∧ x.2 ≤ l.length ∧ st' = st) (_,0) _ ⟨rfl,rfl,rfl,rfl,trivial⟩ rfl ⟨rfl,Nat.zero_le _,rfl⟩ ?_
 rintro m x ρ0 st' ⟨rfl,hi,rfl⟩
 iterate 2 refine ⟨_,rfl,?_⟩
 rintro (_|_) h1
 ·replace h1 : ¬ ((x.2 : Int) < (l.length : Int)) := of_decide_eq_false h1
  refine ⟨_,rfl,?_⟩
  refine Cu lo0 st' [(0,vS p l.length),(2,.pointer none),(3,vI x.1),(4,vI x.2),(15,vB false)] fun _ => ?_
  refine cxs ?_
  iterate 2 refine ⟨_,rfl,?_⟩
  refine cxs ?_
  refine ⟨.inl rfl,_,rfl,rfl,⟨Nat.lt_succ_self _,0,0,_,if_pos rfl,Pres.push.ints hI,hI.ap,Nat.zero_le _⟩,Pres.push,rfl⟩
 ·replace h1 : (x.2 : Int) < (l.length : Int) := of_decide_eq_true h1
  refine ⟨_,rfl,?_⟩
  rintro (_|_) h2
  ·refine ⟨_,rfl,?_⟩
   refine Cu lo0 st' [(0,vS p l.length),(2,.pointer none),(3,vI x.1),(4,vI x.2),(15,vB false)] fun _ => ?_
   refine cxs ?_
   iterate 2 refine ⟨_,rfl,?_⟩
   refine cxs ?_
   refine ⟨.inl rfl,_,rfl,rfl,⟨Nat.lt_succ_self _,0,0,_,if_pos rfl,Pres.push.ints hI,hI.ap,Nat.zero_le _⟩,Pres.push,rfl⟩
  ·refine ⟨_,rfl,?_⟩
   refine Cu lo0 st' [(0,vS p l.length),(2,.pointer none),(3,vI x.1),(4,vI x.2),(15,vB true)] fun _ => ?_
   obtain ⟨b1,o1,k1,hpe,hb1,hc1⟩ := hI.at (Int.ofNat_lt.1 h1)
   refine cxs ?_
   refine ⟨_,rfl,?_⟩
   refine ⟨_,op_idx (j := (x.2 : Int)) (n := l.length) rfl (congrArg (fun u => vS u l.length) hpe) rfl rfl rfl (Int.natCast_nonneg _) h1,?_⟩
   refine ⟨_,op_ld rfl rfl rfl rfl hb1 hc1,?_⟩
   iterate 4 refine ⟨_,rfl,?_⟩
   refine Cu lo0 st' [(0,vS p l.length),(2,.pointer none),(3,_),(4,vI x.2),(15,vB true)] fun _ => ?_
   have e1 : IntKind.wrap .i64 ((x.2 : Int) + 1) = ((x.2 + 1 : Nat) : Int) := wrap_i64 (by omega) (by omega)
   refine ⟨_,rfl,?_⟩
   refine ⟨(_,x.2 + 1),l.length - (x.2 + 1),?_,⟨rfl,rfl,rfl,congrArg (Value.int .i64) e1,trivial⟩,rfl,rfl,?_,rfl⟩
   ·omega
   ·omega
theorem PresC.pres {c : Nat} {st st1 st2 : St} (h : Pres st st1) (k : PresC c st1 st2) (hc : st.next ≤ c) : Pres st st2 := ⟨Nat.le_trans h.1 k.1,fun a ha => (k.2 a (Nat.lt_of_lt_of_le ha h.1) (by omega)).trans (h.2 a ha)⟩
end Go.Proofs.YteabadoaeadcgaaDoor.AM
