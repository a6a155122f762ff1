/- Part 4 of the texts on which the law's proof rests. -/
import Derived.Test.YtpnolkhfeliehaaGreatXsc
namespace Go.Proofs.YtpnolkhfeliehaaGreat.AM
open Go Go.Proofs
set_option linter.unusedVariables false
set_option linter.unusedSimpArgs false
set_option maxRecDepth 100000
set_option maxHeartbeats 4000000
def inL (L : List Int) (id : Int) : Bool := decide (leafOf id ∈ L)
def itS (L : List Int) (l : List Itm) : List Itm := l.filter fun x => inL L x.id
def flS (L : List Int) (l : List Flr) : List Flr := l.filter fun x => inL L x.id
def sliceF (s : Sta) (L : List Int) : Sta := ⟨itS L s.items,flS L s.floors⟩
theorem filt_in {α : Type} {p : α → Bool} {l : List α} {i : Nat} {x : α} (h : l[i]? = some x) (hx : p x = true) : (l.take (i + 1)).filter p = (l.take i).filter p ++ [x] := by
 rw [List.take_add_one,h,List.filter_append]
 simp [hx]
theorem filt_out {α : Type} {p : α → Bool} {l : List α} {i : Nat} {x : α} (h : l[i]? = some x) (hx : p x = false) : (l.take (i + 1)).filter p = (l.take i).filter p := by
 rw [List.take_add_one,h,List.filter_append]
 simp [hx]
theorem filt_len {α : Type} {p : α → Bool} (l : List α) (i : Nat) : ((l.take i).filter p).length ≤ l.length := by
 have h1 := List.length_filter_le p (l.take i)
 rw [List.length_take] at h1
 omega
theorem itS_in {L : List Int} {l : List Itm} {i : Nat} {x : Itm} (h : l[i]? = some x) (hx : leafOf x.id ∈ L) : itS L (l.take (i + 1)) = itS L (l.take i) ++ [x] := filt_in h (decide_eq_true hx)
theorem itS_out {L : List Int} {l : List Itm} {i : Nat} {x : Itm} (h : l[i]? = some x) (hx : ¬ leafOf x.id ∈ L) : itS L (l.take (i + 1)) = itS L (l.take i) := filt_out h (decide_eq_false hx)
theorem flS_in {L : List Int} {l : List Flr} {i : Nat} {x : Flr} (h : l[i]? = some x) (hx : leafOf x.id ∈ L) : flS L (l.take (i + 1)) = flS L (l.take i) ++ [x] := filt_in h (decide_eq_true hx)
theorem flS_out {L : List Int} {l : List Flr} {i : Nat} {x : Flr} (h : l[i]? = some x) (hx : ¬ leafOf x.id ∈ L) : flS L (l.take (i + 1)) = flS L (l.take i) := filt_out h (decide_eq_false hx)
theorem ac_spec_l6Slice (s : SV) (p : Option Addr) (L : List Int) (st : St) (hR : RdS st s) (hb : bigS s.x) (hL : Rows st 1 fI p L) (hs : szOk L.length) : C 214 [.agg #[vS s.p s.x.items.length,vS s.q s.x.floors.length],vS p L.length] st (fun v s' => ∃ u : SV,v = .agg #[vS u.p u.x.items.length,vS u.q u.x.floors.length] ∧ u.x = sliceF s.x L ∧ OwnP s' (pcS u) ∧ NewP st.next (pcS u) ∧ Pres st s') := by
 have hs : L.length ≤ 1048576 := hs
 have hs1 : s.x.items.length ≤ 1048576 := hb.1
 have hs2 : s.x.floors.length ≤ 1048576 := hb.2.1
 refine AC.enterX (i := ⟨[2,4,5],[2,4,5,10,17,25,27,34,36,43,51,53,60],[0,1,2,4,5,6,7,13,24,39,50],[]⟩) [(6,[7],[1]),(11,[7],[1])] Tryz.func214 rfl rfl (by kernel_rfl) (by kernel_rfl) Tryz.ntmps214 (Lb rfl) rfl ?_
 iterate 2 refine ⟨_,rfl,?_⟩
 refine Cm 2 st [(1,vS p L.length),Ml 2 0,Ml 4 1] [(2,0,cSV s),(4,1,[Sn,Sn])] fun _ _ => ?_
 iterate 2 refine ⟨_,rfl,?_⟩
 refine ⟨_,Os rfl,?_⟩
 refine cxs ?_
 refine Cm 3 st [(1,vS p L.length),Ml 2 0,Ml 4 1,Ml 5 2,(6,vI 0)] [(2,0,cSV s),(4,1,[Sn,Sn]),(5,2,[Sn,Sn])] fun _ _ => ?_
 refine AW.loopM (fun x : Nat × Option Addr × List Itm => [(1,vS p L.length),(2,vL 2 0 (0)),(4,vL 4 0 (1)),(5,vL 5 0 (2)),(6,vI (x.1 : Int))]) (fun x : Nat × Option Addr × List Itm => [(2,0,[vS s.p s.x.items.length,vS s.q s.x.floors.length]),(4,1,[.slice none 0 0,.slice none 0 0]),(5,2,[vS x.2.1 x.2.2.length,.slice none 0 0])]) (fun m (x : Nat × Option Addr × List Itm) st' => m = s.x.items.length - x.1 ∧ x.1 ≤ s.x.items.length ∧ x.2.2 = itS L (s.x.items.take x.1) ∧ OwnR st' 6 cItm x.2.1 x.2.2 ∧ New st.next x.2.1 ∧ Pres st st') (0,none,[]) _ ⟨rfl,rfl,rfl,rfl,rfl,trivial⟩ ⟨rfl,rfl,rfl,trivial⟩ ⟨rfl,Nat.zero_le _,rfl,OwnR.nil,New.none,Pres.refl _⟩ ?_
 rintro m ⟨i,q,l⟩ ρ0 ff gg st' ⟨rfl,hi,hv,hO,hN,hP⟩
 simp only at hi hv hO hN
 have hll : l.length ≤ s.x.items.length := by rw [hv]; exact filt_len _ _
 refine ⟨_,rfl,?_⟩
 refine ⟨_,Od rfl,?_⟩
 iterate 2 refine ⟨_,rfl,?_⟩
 rintro (_|_) h13
 ·replace h13 : ¬ ((i : Int) < (s.x.items.length : Int)) := of_decide_eq_false h13
  refine Cm gg st' [(1,vS p L.length),Ml 2 0,Ml 4 1,Ml 5 2,(6,vI (i : Int)),(13,vB false)] [(2,0,cSV s),(4,1,[Sn,Sn]),(5,2,[vS q l.length,Sn])] fun _ _ => ?_
  have hv1 : l = itS L s.x.items := by rw [hv,show i = s.x.items.length by omega,List.take_length]
  obtain ⟨s1,hs1⟩ : ∃ s1,s1 = st' := ⟨_,rfl⟩
  subst hs1
  refine cxs ?_
  refine Cm gg s1 [(1,vS p L.length),Ml 2 0,Ml 4 1,Ml 5 2,(7,vI 0)] [(2,0,cSV s),(4,1,[Sn,Sn]),(5,2,[vS q l.length,Sn])] fun _ _ => ?_
  refine AW.loopM (fun x : Nat × Option Addr × List Flr => [(1,vS p L.length),(2,vL 2 0 (0)),(4,vL 4 0 (1)),(5,vL 5 0 (2)),(7,vI (x.1 : Int))]) (fun x : Nat × Option Addr × List Flr => [(2,0,[vS s.p s.x.items.length,vS s.q s.x.floors.length]),(4,1,[.slice none 0 0,.slice none 0 0]),(5,2,[vS q l.length,vS x.2.1 x.2.2.length])]) (fun m (x : Nat × Option Addr × List Flr) st' => m = s.x.floors.length - x.1 ∧ x.1 ≤ s.x.floors.length ∧ x.2.2 = flS L (s.x.floors.take x.1) ∧ OwnR st' 2 cFlr x.2.1 x.2.2 ∧ New s1.next x.2.1 ∧ Pres s1 st') (0,none,[]) _ ⟨rfl,rfl,rfl,rfl,rfl,trivial⟩ ⟨rfl,rfl,rfl,trivial⟩ ⟨rfl,Nat.zero_le _,rfl,OwnR.nil,New.none,Pres.refl _⟩ ?_
  rintro m ⟨j,r,f⟩ ρ0 ff gg st' ⟨rfl,hj,hw,hOj,hNj,hPj⟩
  simp only at hj hw hOj hNj
  have hfl : f.length ≤ s.x.floors.length := by rw [hw]; exact filt_len _ _
  refine ⟨_,rfl,?_⟩
  refine ⟨_,Od rfl,?_⟩
  iterate 2 refine ⟨_,rfl,?_⟩
  rintro (_|_) h39
  ·replace h39 : ¬ ((j : Int) < (s.x.floors.length : Int)) := of_decide_eq_false h39
   refine Cm gg st' [(1,vS p L.length),Ml 2 0,Ml 4 1,Ml 5 2,(7,vI (j : Int)),(39,vB false)] [(2,0,cSV s),(4,1,[Sn,Sn]),(5,2,[vS q l.length,vS r f.length])] fun _ _ => ?_
   have hw1 : f = flS L s.x.floors := by rw [hw,show j = s.x.floors.length by omega,List.take_length]
   refine cxs ?_
   refine ⟨_,Od rfl,?_⟩
   refine ⟨_,Os rfl,?_⟩
   exact cxs (Rt ⟨⟨q,r,⟨l,f⟩⟩,rfl,by rw [hv1,hw1]; rfl,OwnP.join (l := [pcR 6 cItm q l]) (OwnP.one (own_pc hO)) hPj (OwnP.one (own_pc hOj)) (NewP.cons hNj NewP.nil),NewP.cons hN (NewP.cons (hNj.le hP.1) NewP.nil),hP.trans hPj⟩)
  ·replace h39 : (j : Int) < (s.x.floors.length : Int) := of_decide_eq_true h39
   refine Cm gg st' [(1,vS p L.length),Ml 2 0,Ml 4 1,Ml 5 2,(7,vI (j : Int)),(39,vB true)] [(2,0,cSV s),(4,1,[Sn,Sn]),(5,2,[vS q l.length,vS r f.length])] fun _ _ => ?_
   refine cxs ?_
   refine ⟨_,rfl,?_⟩
   refine ⟨_,Od rfl,?_⟩
   refine op_at j ((hP.trans hPj).rows hR.2) (by omega) rfl rfl rfl rfl rfl rfl rfl ?_
   intro x46 b46 d46 k46 hy46 hb46 hm46 hc46 ho46
   refine ⟨_,rfl,?_⟩
   refine ⟨_,op_ldc (i := 0) rfl rfl rfl rfl hm46 hc46 rfl rfl,?_⟩
   refine ⟨_,rfl,(ac_spec_LeafOf x46.id st').mono ?_⟩
   rintro _ s49 ⟨rfl,hP49⟩
   refine ⟨_,rfl,(ac_spec_l1Has p L (leafOf x46.id) s49 (((hP.trans hPj).trans hP49).rows hL) (by first | assumption | omega)).mono ?_⟩
   rintro _ s49 ⟨x50,rfl,h50,rfl⟩
   rcases x50 with _|_
   ·replace h50 := fun k => Bool.false_ne_true (h50.2 k)
    refine Cm gg s49 [(1,vS p L.length),Ml 2 0,Ml 4 1,Ml 5 2,(7,vI (j : Int)),(39,vB true),(50,vB false)] [(2,0,cSV s),(4,1,[Sn,Sn]),(5,2,[vS q l.length,vS r f.length])] fun _ _ => ?_
    refine cxs ?_
    have ew41 : IntKind.wrap .i64 ((j : Int) + (1)) = ((j + 1 : Nat) : Int) := (wrap_i64 (by omega) (by omega)).trans (by omega)
    refine ⟨_,rfl,?_⟩
    exact ⟨(j + 1,r,f),s.x.floors.length - (j + 1),by omega,⟨rfl,rfl,rfl,rfl,congrArg (Value.int .i64) ew41,trivial⟩,⟨rfl,rfl,rfl,trivial⟩,rfl,by simp only; omega,by rw [flS_out hy46 h50]; exact hw,hP49.ownR hOj,hNj,hPj.trans hP49⟩
   ·replace h50 := h50.1 rfl
    refine Cm gg s49 [(1,vS p L.length),Ml 2 0,Ml 4 1,Ml 5 2,(7,vI (j : Int)),(39,vB true),(50,vB true)] [(2,0,cSV s),(4,1,[Sn,Sn]),(5,2,[vS q l.length,vS r f.length])] fun _ _ => ?_
    refine ⟨_,rfl,?_⟩
    refine ⟨_,Od rfl,?_⟩
    refine ⟨ld_own rfl rfl rfl,?_⟩
    refine ⟨_,rfl,?_⟩
    refine ⟨_,Od rfl,?_⟩
    refine op_el j (((hP.trans hPj).trans hP49).rows hR.2) hy46 rfl rfl rfl rfl rfl rfl rfl ?_
    intro b56 d56 k56 hb56 hm56 hc56 ho56
    refine ⟨_,op_lda rfl rfl rfl rfl rfl hm56 hc56 rfl,?_⟩
    refine op_one (z := 2) (a := (x46 : Flr)) (f := cFlr) rfl rfl rfl rfl rfl (by decide) rfl (Lb rfl) rfl rfl rfl ?_
    refine ⟨Pres.push.2,?_⟩
    refine op_snoc (z := 2) (st := s49) (f := cFlr) (b := 16) (l := f) (x := x46) rfl rfl rfl rfl rfl rfl rfl (by decide) len_cFlr rfl rfl rfl (by omega) (by unfold maxLen; omega) (hP49.ownR hOj) ?_
    intro q59 s59 hO59 hP59 hN59
    refine ⟨_,rfl,?_⟩
    refine ⟨_,Os rfl,?_⟩
    refine Cm gg s59 [(1,vS p L.length),Ml 2 0,Ml 4 1,Ml 5 2,(7,vI (j : Int)),(39,vB true),(50,vB true)] [(2,0,cSV s),(4,1,[Sn,Sn]),(5,2,[vS q l.length,vS q59 (f ++ [x46]).length])] fun _ _ => ?_
    have ew41 : IntKind.wrap .i64 ((j : Int) + (1)) = ((j + 1 : Nat) : Int) := (wrap_i64 (by omega) (by omega)).trans (by omega)
    refine ⟨_,rfl,?_⟩
    exact ⟨(j + 1,q59,f ++ [x46]),s.x.floors.length - (j + 1),by omega,⟨rfl,rfl,rfl,rfl,congrArg (Value.int .i64) ew41,trivial⟩,⟨rfl,rfl,rfl,trivial⟩,rfl,by simp only; omega,by rw [flS_in hy46 h50,← hw],hO59,hN59.le (hPj.trans hP49).1,hP59.pres (hPj.trans hP49) hNj⟩
 ·replace h13 : (i : Int) < (s.x.items.length : Int) := of_decide_eq_true h13
  refine Cm gg st' [(1,vS p L.length),Ml 2 0,Ml 4 1,Ml 5 2,(6,vI (i : Int)),(13,vB true)] [(2,0,cSV s),(4,1,[Sn,Sn]),(5,2,[vS q l.length,Sn])] fun _ _ => ?_
  refine cxs ?_
  refine ⟨_,rfl,?_⟩
  refine ⟨_,Od rfl,?_⟩
  refine op_at i (hP.rows hR.1) (by omega) rfl rfl rfl rfl rfl rfl rfl ?_
  intro x20 b20 d20 k20 hy20 hb20 hm20 hc20 ho20
  refine ⟨_,rfl,?_⟩
  refine ⟨_,op_ldc (i := 0) rfl rfl rfl rfl hm20 hc20 rfl rfl,?_⟩
  refine ⟨_,rfl,(ac_spec_LeafOf x20.id st').mono ?_⟩
  rintro _ s23 ⟨rfl,hP23⟩
  refine ⟨_,rfl,(ac_spec_l1Has p L (leafOf x20.id) s23 ((hP.trans hP23).rows hL) (by first | assumption | omega)).mono ?_⟩
  rintro _ s23 ⟨x24,rfl,h24,rfl⟩
  rcases x24 with _|_
  ·replace h24 := fun k => Bool.false_ne_true (h24.2 k)
   refine Cm gg s23 [(1,vS p L.length),Ml 2 0,Ml 4 1,Ml 5 2,(6,vI (i : Int)),(13,vB true),(24,vB false)] [(2,0,cSV s),(4,1,[Sn,Sn]),(5,2,[vS q l.length,Sn])] fun _ _ => ?_
   refine cxs ?_
   have ew15 : IntKind.wrap .i64 ((i : Int) + (1)) = ((i + 1 : Nat) : Int) := (wrap_i64 (by omega) (by omega)).trans (by omega)
   refine ⟨_,rfl,?_⟩
   exact ⟨(i + 1,q,l),s.x.items.length - (i + 1),by omega,⟨rfl,rfl,rfl,rfl,congrArg (Value.int .i64) ew15,trivial⟩,⟨rfl,rfl,rfl,trivial⟩,rfl,by simp only; omega,by rw [itS_out hy20 h24]; exact hv,hP23.ownR hO,hN,hP.trans hP23⟩
  ·replace h24 := h24.1 rfl
   refine Cm gg s23 [(1,vS p L.length),Ml 2 0,Ml 4 1,Ml 5 2,(6,vI (i : Int)),(13,vB true),(24,vB true)] [(2,0,cSV s),(4,1,[Sn,Sn]),(5,2,[vS q l.length,Sn])] fun _ _ => ?_
   refine ⟨_,rfl,?_⟩
   refine ⟨_,Od rfl,?_⟩
   refine ⟨ld_own rfl rfl rfl,?_⟩
   refine ⟨_,rfl,?_⟩
   refine ⟨_,Od rfl,?_⟩
   refine op_el i ((hP.trans hP23).rows hR.1) hy20 rfl rfl rfl rfl rfl rfl rfl ?_
   intro b30 d30 k30 hb30 hm30 hc30 ho30
   refine ⟨_,op_lda rfl rfl rfl rfl rfl hm30 hc30 rfl,?_⟩
   refine op_one (z := 6) (a := (x20 : Itm)) (f := cItm) rfl rfl rfl rfl rfl (by decide) rfl (Lb rfl) rfl rfl rfl ?_
   refine ⟨Pres.push.2,?_⟩
   refine op_snoc (z := 6) (st := s23) (f := cItm) (b := 56) (l := l) (x := x20) rfl rfl rfl rfl rfl rfl rfl (by decide) len_cItm rfl rfl rfl (by omega) (by unfold maxLen; omega) (hP23.ownR hO) ?_
   intro q33 s33 hO33 hP33 hN33
   refine ⟨_,rfl,?_⟩
   refine ⟨_,Os rfl,?_⟩
   refine Cm gg s33 [(1,vS p L.length),Ml 2 0,Ml 4 1,Ml 5 2,(6,vI (i : Int)),(13,vB true),(24,vB true)] [(2,0,cSV s),(4,1,[Sn,Sn]),(5,2,[vS q33 (l ++ [x20]).length,Sn])] fun _ _ => ?_
   have ew15 : IntKind.wrap .i64 ((i : Int) + (1)) = ((i + 1 : Nat) : Int) := (wrap_i64 (by omega) (by omega)).trans (by omega)
   refine ⟨_,rfl,?_⟩
   exact ⟨(i + 1,q33,l ++ [x20]),s.x.items.length - (i + 1),by omega,⟨rfl,rfl,rfl,rfl,congrArg (Value.int .i64) ew15,trivial⟩,⟨rfl,rfl,rfl,trivial⟩,rfl,by simp only; omega,by rw [itS_in hy20 h24,← hv],hO33,hN33.le (hP.trans hP23).1,hP33.pres (hP.trans hP23) hN⟩
theorem ac_impl_Slice (s : SV) (p : Option Addr) (L : List Int) (st : St) (hR : RdS st s) (hb : bigS s.x) (hL : Rows st 1 fI p L) (hs : szOk L.length) (hk : stateOk s.x) : C 202 [.agg #[vS s.p s.x.items.length,vS s.q s.x.floors.length],vS p L.length] st (fun v s' => ∃ u : SV,v = .agg #[vS u.p u.x.items.length,vS u.q u.x.floors.length] ∧ u.x = sliceF s.x L ∧ OwnP s' (pcS u) ∧ NewP st.next (pcS u) ∧ Pres st s') := by
 have hs : L.length ≤ 1048576 := hs
 have hs1 : s.x.items.length ≤ 1048576 := hb.1
 have hs2 : s.x.floors.length ≤ 1048576 := hb.2.1
 refine AC.enterX (i := ⟨[2,4,5,7,9],[2,4,5,7,9,15,23,27,32,34,42,46,51],[0,1,2,4,5,7,9,13,16,17,18,19,26,35,36,37,38,45],[]⟩) [] Tryz.func202 rfl rfl (by kernel_rfl) (by kernel_rfl) Tryz.ntmps202 (Lb rfl) rfl ?_
 iterate 2 refine ⟨_,rfl,?_⟩
 refine Cm 2 st [(1,vS p L.length),Ml 2 0,Ml 4 1] [(2,0,cSV s),(4,1,[Sn,Sn])] fun _ _ => ?_
 iterate 2 refine ⟨_,rfl,?_⟩
 refine ⟨_,Os rfl,?_⟩
 refine Cm 3 st [(1,vS p L.length),Ml 2 0,Ml 4 1,Ml 5 2] [(2,0,cSV s),(4,1,[Sn,Sn]),(5,2,[Sn,Sn])] fun _ _ => ?_
 refine ⟨_,Od rfl,?_⟩
 refine ⟨_,rfl,(AC.tru (ac_impl_StateOk s st hR hb) hk).mono ?_⟩
 rintro _ st ⟨rfl,rfl⟩
 refine ⟨_,rfl,?_⟩
 refine Cm 3 st [(1,vS p L.length),Ml 2 0,Ml 4 1,Ml 5 2,(13,vB false)] [(2,0,cSV s),(4,1,[Sn,Sn]),(5,2,[Sn,Sn])] fun _ _ => ?_
 refine cxs ?_
 refine ⟨_,rfl,?_⟩
 refine ⟨_,Od rfl,?_⟩
 refine ⟨_,rfl,?_⟩
 refine Cm 3 st [(1,vS p L.length),Ml 2 0,Ml 4 1,Ml 5 2,(16,vS s.p s.x.items.length),(17,vI (s.x.items.length : Int)),(18,vI 0)] [(2,0,cSV s),(4,1,[Sn,Sn]),(5,2,[Sn,Sn])] fun _ _ => ?_
 refine AW.loopM (fun x : Nat × Option Addr × List Itm => [(1,vS p L.length),(2,vL 2 0 (0)),(4,vL 4 0 (1)),(5,vL 5 0 (2)),(16,vS s.p s.x.items.length),(17,vI (s.x.items.length : Int)),(18,vI (x.1 : Int))]) (fun x : Nat × Option Addr × List Itm => [(2,0,[vS s.p s.x.items.length,vS s.q s.x.floors.length]),(4,1,[.slice none 0 0,.slice none 0 0]),(5,2,[vS x.2.1 x.2.2.length,.slice none 0 0])]) (fun m (x : Nat × Option Addr × List Itm) st' => m = s.x.items.length - x.1 ∧ x.1 ≤ s.x.items.length ∧ x.2.2 = itS L (s.x.items.take x.1) ∧ OwnR st' 6 cItm x.2.1 x.2.2 ∧ New st.next x.2.1 ∧ Pres st st') (0,none,[]) _ ⟨rfl,rfl,rfl,rfl,rfl,rfl,rfl,trivial⟩ ⟨rfl,rfl,rfl,trivial⟩ ⟨rfl,Nat.zero_le _,rfl,OwnR.nil,New.none,Pres.refl _⟩ ?_
 rintro m ⟨i,q,l⟩ ρ0 ff gg st' ⟨rfl,hi,hv,hO,hN,hP⟩
 simp only at hi hv hO hN
 have hll : l.length ≤ s.x.items.length := by rw [hv]; exact filt_len _ _
 refine ⟨_,rfl,?_⟩
 rintro (_|_) h19
 ·replace h19 : ¬ ((i : Int) < (s.x.items.length : Int)) := of_decide_eq_false h19
  refine Cm gg st' [(1,vS p L.length),Ml 2 0,Ml 4 1,Ml 5 2,(16,vS s.p s.x.items.length),(17,vI (s.x.items.length : Int)),(18,vI (i : Int)),(19,vB false)] [(2,0,cSV s),(4,1,[Sn,Sn]),(5,2,[vS q l.length,Sn])] fun _ _ => ?_
  have hv1 : l = itS L s.x.items := by rw [hv,show i = s.x.items.length by omega,List.take_length]
  obtain ⟨s1,hs1⟩ : ∃ s1,s1 = st' := ⟨_,rfl⟩
  subst hs1
  refine cxs ?_
  refine ⟨_,rfl,?_⟩
  refine ⟨_,Od rfl,?_⟩
  refine ⟨_,rfl,?_⟩
  refine Cm gg s1 [(1,vS p L.length),Ml 4 1,Ml 5 2,(35,vS s.q s.x.floors.length),(36,vI (s.x.floors.length : Int)),(37,vI 0)] [(4,1,[Sn,Sn]),(5,2,[vS q l.length,Sn])] fun _ _ => ?_
  refine AW.loopM (fun x : Nat × Option Addr × List Flr => [(1,vS p L.length),(4,vL 4 0 (1)),(5,vL 5 0 (2)),(35,vS s.q s.x.floors.length),(36,vI (s.x.floors.length : Int)),(37,vI (x.1 : Int))]) (fun x : Nat × Option Addr × List Flr => [(4,1,[.slice none 0 0,.slice none 0 0]),(5,2,[vS q l.length,vS x.2.1 x.2.2.length])]) (fun m (x : Nat × Option Addr × List Flr) st' => m = s.x.floors.length - x.1 ∧ x.1 ≤ s.x.floors.length ∧ x.2.2 = flS L (s.x.floors.take x.1) ∧ OwnR st' 2 cFlr x.2.1 x.2.2 ∧ New s1.next x.2.1 ∧ Pres s1 st') (0,none,[]) _ ⟨rfl,rfl,rfl,rfl,rfl,rfl,trivial⟩ ⟨rfl,rfl,trivial⟩ ⟨rfl,Nat.zero_le _,rfl,OwnR.nil,New.none,Pres.refl _⟩ ?_
  rintro m ⟨j,r,f⟩ ρ0 ff gg st' ⟨rfl,hj,hw,hOj,hNj,hPj⟩
  simp only at hj hw hOj hNj
  have hfl : f.length ≤ s.x.floors.length := by rw [hw]; exact filt_len _ _
  refine ⟨_,rfl,?_⟩
  rintro (_|_) h38
  ·replace h38 : ¬ ((j : Int) < (s.x.floors.length : Int)) := of_decide_eq_false h38
   refine Cm gg st' [(1,vS p L.length),Ml 4 1,Ml 5 2,(35,vS s.q s.x.floors.length),(36,vI (s.x.floors.length : Int)),(37,vI (j : Int)),(38,vB false)] [(4,1,[Sn,Sn]),(5,2,[vS q l.length,vS r f.length])] fun _ _ => ?_
   have hw1 : f = flS L s.x.floors := by rw [hw,show j = s.x.floors.length by omega,List.take_length]
   refine cxs ?_
   refine ⟨_,Od rfl,?_⟩
   refine ⟨_,Os rfl,?_⟩
   exact cxs (Rt ⟨⟨q,r,⟨l,f⟩⟩,rfl,by rw [hv1,hw1]; rfl,OwnP.join (l := [pcR 6 cItm q l]) (OwnP.one (own_pc hO)) hPj (OwnP.one (own_pc hOj)) (NewP.cons hNj NewP.nil),NewP.cons hN (NewP.cons (hNj.le hP.1) NewP.nil),hP.trans hPj⟩)
  ·replace h38 : (j : Int) < (s.x.floors.length : Int) := of_decide_eq_true h38
   refine Cm gg st' [(1,vS p L.length),Ml 4 1,Ml 5 2,(35,vS s.q s.x.floors.length),(36,vI (s.x.floors.length : Int)),(37,vI (j : Int)),(38,vB true)] [(4,1,[Sn,Sn]),(5,2,[vS q l.length,vS r f.length])] fun _ _ => ?_
   refine cxs ?_
   refine op_at j ((hP.trans hPj).rows hR.2) (by omega) rfl rfl rfl rfl rfl rfl rfl ?_
   intro x39 b39 d39 k39 hy39 hb39 hm39 hc39 ho39
   refine ⟨_,op_lda rfl rfl rfl rfl rfl hm39 hc39 rfl,?_⟩
   refine ⟨_,rfl,?_⟩
   refine ⟨_,Os rfl,?_⟩
   refine Cm (gg + 1) st' [(1,vS p L.length),Ml 4 1,Ml 5 2,Ml 9 gg,(35,vS s.q s.x.floors.length),(36,vI (s.x.floors.length : Int)),(37,vI (j : Int)),(38,vB true)] [(4,1,[Sn,Sn]),(5,2,[vS q l.length,vS r f.length]),(9,gg,[vI x39.id,vI x39.inc])] fun _ _ => ?_
   refine ⟨_,rfl,?_⟩
   refine ⟨_,Od rfl,?_⟩
   refine ⟨_,rfl,(ac_impl_LeafOf x39.id st').mono ?_⟩
   rintro _ s44 ⟨rfl,hP44⟩
   refine ⟨_,rfl,(ac_slices_Contains_Int p L (leafOf x39.id) s44 (((hP.trans hPj).trans hP44).rows hL) (by first | assumption | omega)).mono ?_⟩
   rintro _ s44 ⟨x45,rfl,h45,rfl⟩
   rcases x45 with _|_
   ·replace h45 := fun k => Bool.false_ne_true (h45.2 k)
    refine Cm (gg + 1) s44 [(1,vS p L.length),Ml 4 1,Ml 5 2,Ml 9 gg,(35,vS s.q s.x.floors.length),(36,vI (s.x.floors.length : Int)),(37,vI (j : Int)),(38,vB true),(45,vB false)] [(4,1,[Sn,Sn]),(5,2,[vS q l.length,vS r f.length]),(9,gg,[vI x39.id,vI x39.inc])] fun _ _ => ?_
    refine cxs ?_
    have ew52 : IntKind.wrap .i64 ((j : Int) + (1)) = ((j + 1 : Nat) : Int) := (wrap_i64 (by omega) (by omega)).trans (by omega)
    refine ⟨_,rfl,?_⟩
    exact ⟨(j + 1,r,f),s.x.floors.length - (j + 1),by omega,⟨rfl,rfl,rfl,rfl,rfl,congrArg (Value.int .i64) ew52,trivial⟩,⟨rfl,rfl,trivial⟩,rfl,by simp only; omega,by rw [flS_out hy39 h45]; exact hw,hP44.ownR hOj,hNj,hPj.trans hP44⟩
   ·replace h45 := h45.1 rfl
    refine Cm (gg + 1) s44 [(1,vS p L.length),Ml 4 1,Ml 5 2,Ml 9 gg,(35,vS s.q s.x.floors.length),(36,vI (s.x.floors.length : Int)),(37,vI (j : Int)),(38,vB true),(45,vB true)] [(4,1,[Sn,Sn]),(5,2,[vS q l.length,vS r f.length]),(9,gg,[vI x39.id,vI x39.inc])] fun _ _ => ?_
    refine ⟨_,rfl,?_⟩
    refine ⟨_,Od rfl,?_⟩
    refine ⟨_,Od rfl,?_⟩
    refine ⟨_,rfl,?_⟩
    refine op_snoc (z := 2) (st := s44) (f := cFlr) (b := 16) (l := f) (x := x39) rfl rfl rfl rfl rfl rfl rfl (by decide) len_cFlr rfl rfl rfl (by omega) (by unfold maxLen; omega) (hP44.ownR hOj) ?_
    intro q50 s50 hO50 hP50 hN50
    refine ⟨_,rfl,?_⟩
    refine ⟨_,Os rfl,?_⟩
    refine Cm (gg + 1) s50 [(1,vS p L.length),Ml 4 1,Ml 5 2,Ml 9 gg,(35,vS s.q s.x.floors.length),(36,vI (s.x.floors.length : Int)),(37,vI (j : Int)),(38,vB true),(45,vB true)] [(4,1,[Sn,Sn]),(5,2,[vS q l.length,vS q50 (f ++ [x39]).length]),(9,gg,[vI x39.id,vI x39.inc])] fun _ _ => ?_
    have ew52 : IntKind.wrap .i64 ((j : Int) + (1)) = ((j + 1 : Nat) : Int) := (wrap_i64 (by omega) (by omega)).trans (by omega)
    refine ⟨_,rfl,?_⟩
    exact ⟨(j + 1,q50,f ++ [x39]),s.x.floors.length - (j + 1),by omega,⟨rfl,rfl,rfl,rfl,rfl,congrArg (Value.int .i64) ew52,trivial⟩,⟨rfl,rfl,trivial⟩,rfl,by simp only; omega,by rw [flS_in hy39 h45,← hw],hO50,hN50.le (hPj.trans hP44).1,hP50.pres (hPj.trans hP44) hNj⟩
 ·replace h19 : (i : Int) < (s.x.items.length : Int) := of_decide_eq_true h19
  refine Cm gg st' [(1,vS p L.length),Ml 2 0,Ml 4 1,Ml 5 2,(16,vS s.p s.x.items.length),(17,vI (s.x.items.length : Int)),(18,vI (i : Int)),(19,vB true)] [(2,0,cSV s),(4,1,[Sn,Sn]),(5,2,[vS q l.length,Sn])] fun _ _ => ?_
  refine cxs ?_
  refine op_at i (hP.rows hR.1) (by omega) rfl rfl rfl rfl rfl rfl rfl ?_
  intro x20 b20 d20 k20 hy20 hb20 hm20 hc20 ho20
  refine ⟨_,op_lda rfl rfl rfl rfl rfl hm20 hc20 rfl,?_⟩
  refine ⟨_,rfl,?_⟩
  refine ⟨_,Os rfl,?_⟩
  refine Cm (gg + 1) st' [(1,vS p L.length),Ml 2 0,Ml 4 1,Ml 5 2,Ml 7 gg,(16,vS s.p s.x.items.length),(17,vI (s.x.items.length : Int)),(18,vI (i : Int)),(19,vB true)] [(2,0,cSV s),(4,1,[Sn,Sn]),(5,2,[vS q l.length,Sn]),(7,gg,[vI x20.id,vI x20.e.inc,vI x20.e.rank,vI x20.e.beat,vI x20.e.ver,.string x20.e.data])] fun _ _ => ?_
  refine ⟨_,rfl,?_⟩
  refine ⟨_,Od rfl,?_⟩
  refine ⟨_,rfl,(ac_impl_LeafOf x20.id st').mono ?_⟩
  rintro _ s25 ⟨rfl,hP25⟩
  refine ⟨_,rfl,(ac_slices_Contains_Int p L (leafOf x20.id) s25 ((hP.trans hP25).rows hL) (by first | assumption | omega)).mono ?_⟩
  rintro _ s25 ⟨x26,rfl,h26,rfl⟩
  rcases x26 with _|_
  ·replace h26 := fun k => Bool.false_ne_true (h26.2 k)
   refine Cm (gg + 1) s25 [(1,vS p L.length),Ml 2 0,Ml 4 1,Ml 5 2,Ml 7 gg,(16,vS s.p s.x.items.length),(17,vI (s.x.items.length : Int)),(18,vI (i : Int)),(19,vB true),(26,vB false)] [(2,0,cSV s),(4,1,[Sn,Sn]),(5,2,[vS q l.length,Sn]),(7,gg,[vI x20.id,vI x20.e.inc,vI x20.e.rank,vI x20.e.beat,vI x20.e.ver,.string x20.e.data])] fun _ _ => ?_
   refine cxs ?_
   have ew33 : IntKind.wrap .i64 ((i : Int) + (1)) = ((i + 1 : Nat) : Int) := (wrap_i64 (by omega) (by omega)).trans (by omega)
   refine ⟨_,rfl,?_⟩
   exact ⟨(i + 1,q,l),s.x.items.length - (i + 1),by omega,⟨rfl,rfl,rfl,rfl,rfl,rfl,congrArg (Value.int .i64) ew33,trivial⟩,⟨rfl,rfl,rfl,trivial⟩,rfl,by simp only; omega,by rw [itS_out hy20 h26]; exact hv,hP25.ownR hO,hN,hP.trans hP25⟩
  ·replace h26 := h26.1 rfl
   refine Cm (gg + 1) s25 [(1,vS p L.length),Ml 2 0,Ml 4 1,Ml 5 2,Ml 7 gg,(16,vS s.p s.x.items.length),(17,vI (s.x.items.length : Int)),(18,vI (i : Int)),(19,vB true),(26,vB true)] [(2,0,cSV s),(4,1,[Sn,Sn]),(5,2,[vS q l.length,Sn]),(7,gg,[vI x20.id,vI x20.e.inc,vI x20.e.rank,vI x20.e.beat,vI x20.e.ver,.string x20.e.data])] fun _ _ => ?_
   refine ⟨_,rfl,?_⟩
   refine ⟨_,Od rfl,?_⟩
   refine ⟨_,Od rfl,?_⟩
   refine ⟨_,rfl,?_⟩
   refine op_snoc (z := 6) (st := s25) (f := cItm) (b := 56) (l := l) (x := x20) rfl rfl rfl rfl rfl rfl rfl (by decide) len_cItm rfl rfl rfl (by omega) (by unfold maxLen; omega) (hP25.ownR hO) ?_
   intro q31 s31 hO31 hP31 hN31
   refine ⟨_,rfl,?_⟩
   refine ⟨_,Os rfl,?_⟩
   refine Cm (gg + 1) s31 [(1,vS p L.length),Ml 2 0,Ml 4 1,Ml 5 2,Ml 7 gg,(16,vS s.p s.x.items.length),(17,vI (s.x.items.length : Int)),(18,vI (i : Int)),(19,vB true),(26,vB true)] [(2,0,cSV s),(4,1,[Sn,Sn]),(5,2,[vS q31 (l ++ [x20]).length,Sn]),(7,gg,[vI x20.id,vI x20.e.inc,vI x20.e.rank,vI x20.e.beat,vI x20.e.ver,.string x20.e.data])] fun _ _ => ?_
   have ew33 : IntKind.wrap .i64 ((i : Int) + (1)) = ((i + 1 : Nat) : Int) := (wrap_i64 (by omega) (by omega)).trans (by omega)
   refine ⟨_,rfl,?_⟩
   exact ⟨(i + 1,q31,l ++ [x20]),s.x.items.length - (i + 1),by omega,⟨rfl,rfl,rfl,rfl,rfl,rfl,congrArg (Value.int .i64) ew33,trivial⟩,⟨rfl,rfl,rfl,trivial⟩,rfl,by simp only; omega,by rw [itS_in hy20 h26,← hv],hO31,hN31.le (hP.trans hP25).1,hP31.pres (hP.trans hP25) hN⟩
def itL (x : Itm) : List Int := [x.id,x.e.inc,x.e.rank,x.e.beat,x.e.ver]
def itB (x : Itm) : List Int := numsB (itL x) ++ putS x.e.data
def flB (x : Flr) : List Int := putN x.id ++ putN x.inc
def itsB (l : List Itm) : List Int := l.flatMap itB
def flsB (l : List Flr) : List Int := l.flatMap flB
def stB (s : Sta) : List Int := putN (s.items.length : Int) ++ itsB s.items ++ putN (s.floors.length : Int) ++ flsB s.floors
theorem fm_succ {α : Type} {g : α → List Int} {l : List α} {i : Nat} {x : α} (h : l[i]? = some x) : (l.take (i + 1)).flatMap g = (l.take i).flatMap g ++ g x := by
 rw [List.take_add_one,h,List.flatMap_append]
 simp
theorem fm_len {α : Type} {g : α → List Int} {c : Nat} : ∀ {l : List α},(∀ x ∈ l,(g x).length ≤ c) → (l.flatMap g).length ≤ c * l.length
 | [],_ => Nat.zero_le _
 | x :: l,h => by
  have h1 := fm_len (l := l) fun y hy => h y (List.mem_cons_of_mem _ hy)
  have h2 := h x (List.mem_cons_self ..)
  rw [List.flatMap_cons,List.length_append,List.length_cons,Nat.mul_add,Nat.mul_one]
  omega
theorem fm_ok {α : Type} {g : α → List Int} {l : List α} (h : ∀ x,bytesOk (g x)) : bytesOk (l.flatMap g) := fun y hy => by
 obtain ⟨x,_,hx⟩ := List.mem_flatMap.1 hy
 exact h x y hx
theorem itB_len {x : Itm} (h : x.e.data.size ≤ 8) : (itB x).length ≤ 38 := by
 have h1 := numsB_len (itL x)
 have h2 := putS_len x.e.data
 rw [itB,List.length_append]
 have : (itL x).length = 5 := rfl
 omega
theorem flB_len (x : Flr) : (flB x).length ≤ 10 := by
 have h1 := putN_len x.id
 have h2 := putN_len x.inc
 rw [flB,List.length_append]
 omega
theorem stB_ok (s : Sta) : bytesOk (stB s) :=
 (((putN_ok _).app (fm_ok fun x => (numsB_ok _).app (putS_ok _))).app (putN_ok _)).app (fm_ok fun x => (putN_ok _).app (putN_ok _))
theorem okSize {s : Sta} (hk : stateOk s) {x : Itm} (hx : x ∈ s.items) : x.e.data.size ≤ 8 := by
 obtain ⟨j,hj⟩ := List.getElem?_of_mem hx
 exact (hk.1 j x hj).2.1.2.2.2.2
theorem its_len {s : Sta} (hk : stateOk s) (i : Nat) : (itsB (s.items.take i)).length ≤ 38 * s.items.length := by
 have h1 : (itsB (s.items.take i)).length ≤ 38 * (s.items.take i).length := fm_len fun x hx => itB_len (okSize hk (List.mem_of_mem_take hx))
 rw [List.length_take] at h1
 omega
theorem fls_len (l : List Flr) (i : Nat) : (flsB (l.take i)).length ≤ 10 * l.length := by
 have h1 : (flsB (l.take i)).length ≤ 10 * (l.take i).length := fm_len fun x _ => flB_len x
 rw [List.length_take] at h1
 omega
theorem stB_len {s : Sta} (hk : stateOk s) : (stB s).length ≤ 10 + 38 * s.items.length + 10 * s.floors.length := by
 have h1 := its_len hk s.items.length
 have h2 := fls_len s.floors s.floors.length
 rw [List.take_length] at h1 h2
 have h3 := putN_len (s.items.length : Int)
 have h4 := putN_len (s.floors.length : Int)
 rw [stB,List.length_append,List.length_append,List.length_append]
 omega
theorem cat_dis {st : St} {p q r : Option Addr} {A B : Prop} {m : Nat} (hd : Dis p r) (ho : Old st.next r) (h : (q = p ∧ A ∧ B) ∨ (0 < m ∧ New st.next q)) : Dis q r := by
 rcases h with ⟨h,_⟩ | ⟨_,h⟩
 ·rw [h]; exact hd
 ·exact (Dis.of ho h).symm
theorem ac_spec_l6Bytes (s : SV) (st : St) (hR : RdS st s) (hb : bigS s.x) (hk : stateOk s.x) : C 213 [.agg #[vS s.p s.x.items.length,vS s.q s.x.floors.length]] st (fun v s' => ∃ q,v = vS q (stB s.x).length ∧ OwnR s' 1 fB q (stB s.x) ∧ New st.next q ∧ Pres st s') := by
 have hs1 : s.x.items.length ≤ 1048576 := hb.1
 have hs2 : s.x.floors.length ≤ 1048576 := hb.2.1
 have hpl1 := putN_len (s.x.items.length : Int)
 have hpl2 := putN_len (s.x.floors.length : Int)
 refine AC.enterX (i := ⟨[1,5],[1,5,9,14,20,26,32,34,36,38,55,60,66,73,82],[0,1,2,3,4,5,6,7,8,17,44,69],[]⟩) [(6,[],[])] Tryz.func213 rfl rfl (by kernel_rfl) (by kernel_rfl) Tryz.ntmps213 (Lb rfl) rfl ?_
 refine ⟨_,rfl,?_⟩
 refine Cm 1 st [Ml 1 0,(2,Sn)] [(1,0,cSV s)] fun _ _ => ?_
 refine ⟨_,rfl,?_⟩
 refine ⟨_,Od rfl,?_⟩
 refine ⟨_,rfl,?_⟩
 refine ⟨_,rfl,(ac_spec_PutNum (s.x.items.length : Int) st).mono ?_⟩
 rintro _ s12 ⟨q12,rfl,hO12,hN12,hP12⟩
 refine cxs ?_
 refine Cm 1 s12 [Ml 1 0,(2,Sn),(3,vS q12 (putN (s.x.items.length : Int)).length),(4,vI 0)] [(1,0,cSV s)] fun _ _ => ?_
 refine AW.loopM (fun x : Nat × Option Addr × List Int => [(1,vL 1 0 (0)),(2,.slice none 0 0),(3,vS x.2.1 x.2.2.length),(4,vI (x.1 : Int))]) (fun x : Nat × Option Addr × List Int => [(1,0,[vS s.p s.x.items.length,vS s.q s.x.floors.length])]) (fun m (x : Nat × Option Addr × List Int) st' => m = s.x.items.length - x.1 ∧ x.1 ≤ s.x.items.length ∧ x.2.2 = putN (s.x.items.length : Int) ++ itsB (s.x.items.take x.1) ∧ OwnR st' 1 fB x.2.1 x.2.2 ∧ New st.next x.2.1 ∧ Pres st st') (0,q12,putN (s.x.items.length : Int)) _ ⟨rfl,rfl,rfl,rfl,trivial⟩ ⟨rfl,trivial⟩ ⟨rfl,Nat.zero_le _,(List.append_nil _).symm,hO12,hN12,hP12⟩ ?_
 rintro m ⟨i,q,b⟩ ρ0 ff gg st' ⟨rfl,hi,hv,hO,hN,hP⟩
 simp only at hi hv hO hN
 have hbl : b.length ≤ 5 + 38 * s.x.items.length := by rw [hv,List.length_append]; have := its_len hk i; omega
 refine ⟨_,rfl,?_⟩
 refine ⟨_,Od rfl,?_⟩
 iterate 2 refine ⟨_,rfl,?_⟩
 rintro (_|_) h17
 ·replace h17 : ¬ ((i : Int) < (s.x.items.length : Int)) := of_decide_eq_false h17
  refine Cm gg st' [Ml 1 0,(2,Sn),(3,vS q b.length),(4,vI (i : Int)),(17,vB false)] [(1,0,cSV s)] fun _ _ => ?_
  have hv1 : b = putN (s.x.items.length : Int) ++ itsB s.x.items := by rw [hv,show i = s.x.items.length by omega,List.take_length]
  obtain ⟨s1,hs1'⟩ : ∃ s1,s1 = st' := ⟨_,rfl⟩
  subst hs1'
  refine cxs ?_
  refine ⟨_,rfl,?_⟩
  refine ⟨_,Od rfl,?_⟩
  refine ⟨_,rfl,?_⟩
  refine ⟨_,rfl,(ac_spec_PutNum (s.x.floors.length : Int) s1).mono ?_⟩
  rintro _ s63 ⟨q63,rfl,hO63,hN63,hP63⟩
  refine op_cat' (z := 1) (st := s63) (f := fB) (b := 1) (l := b) (l2 := putN (s.x.floors.length : Int)) rfl rfl rfl rfl rfl rfl rfl (by decide) fB_len rfl rfl rfl rfl (by first | omega | (simp only [List.length_nil]; omega)) (by unfold maxLen; first | omega | (simp only [List.length_nil]; omega)) (hP63.ownR hO) (hO63.rows fB_len) ?_
  intro q64 s64 hO64 hPr64 hN64
  refine cxs ?_
  have hN64' := cat_new (hP.trans hP63) hN hN64
  have hP64' := hPr64.pres (hP.trans hP63) hN
  refine Cm gg s64 [Ml 1 0,(2,Sn),(3,vS q64 (b ++ (putN (s.x.floors.length : Int))).length),(8,vI 0)] [(1,0,cSV s)] fun _ _ => ?_
  refine AW.loopM (fun z : Nat × Option Addr × List Int => [(1,vL 1 0 (0)),(2,.slice none 0 0),(3,vS z.2.1 z.2.2.length),(8,vI (z.1 : Int))]) (fun z : Nat × Option Addr × List Int => [(1,0,[vS s.p s.x.items.length,vS s.q s.x.floors.length])]) (fun m (z : Nat × Option Addr × List Int) st' => m = s.x.floors.length - z.1 ∧ z.1 ≤ s.x.floors.length ∧ z.2.2 = b ++ putN (s.x.floors.length : Int) ++ flsB (s.x.floors.take z.1) ∧ OwnR st' 1 fB z.2.1 z.2.2 ∧ New st.next z.2.1 ∧ Pres st st') (0,q64,b ++ putN (s.x.floors.length : Int)) _ ⟨rfl,rfl,rfl,rfl,trivial⟩ ⟨rfl,trivial⟩ ⟨rfl,Nat.zero_le _,(List.append_nil _).symm,hO64,hN64',hP64'⟩ ?_
  rintro m ⟨j,r,f⟩ ρ0 ff gg st' ⟨rfl,hj,hw,hOf,hNf,hPf⟩
  simp only at hj hw hOf hNf
  have hfl : f.length ≤ 10 + 38 * s.x.items.length + 10 * s.x.floors.length := by rw [hw,List.length_append,List.length_append]; have := fls_len s.x.floors j; omega
  refine ⟨_,rfl,?_⟩
  refine ⟨_,Od rfl,?_⟩
  iterate 2 refine ⟨_,rfl,?_⟩
  rintro (_|_) h69
  ·replace h69 : ¬ ((j : Int) < (s.x.floors.length : Int)) := of_decide_eq_false h69
   refine Cm gg st' [Ml 1 0,(2,Sn),(3,vS r f.length),(8,vI (j : Int)),(69,vB false)] [(1,0,cSV s)] fun _ _ => ?_
   have hw1 : f = stB s.x := by rw [hw,show j = s.x.floors.length by omega,List.take_length,hv1]; rfl
   refine cxs ?_
   refine cxs ?_
   refine ⟨.inl rfl,_,rfl,r,?_⟩
   rw [← hw1]
   exact ⟨rfl,hOf,hNf,hPf⟩
  ·replace h69 : (j : Int) < (s.x.floors.length : Int) := of_decide_eq_true h69
   refine Cm gg st' [Ml 1 0,(2,Sn),(3,vS r f.length),(8,vI (j : Int)),(69,vB true)] [(1,0,cSV s)] fun _ _ => ?_
   refine cxs ?_
   refine ⟨_,rfl,?_⟩
   refine ⟨_,Od rfl,?_⟩
   refine op_at j (hPf.rows hR.2) (by omega) rfl rfl rfl rfl rfl rfl rfl ?_
   intro x76 b76 d76 k76 hy76 hb76 hm76 hc76 ho76
   refine ⟨_,rfl,?_⟩
   refine ⟨_,op_ldc (i := 0) rfl rfl rfl rfl hm76 hc76 rfl rfl,?_⟩
   have hpa := putN_len x76.id
   refine ⟨_,rfl,(ac_spec_PutNum x76.id st').mono ?_⟩
   rintro _ s79 ⟨q79,rfl,hO79,hN79,hP79⟩
   refine op_cat' (z := 1) (st := s79) (f := fB) (b := 1) (l := f) (l2 := putN x76.id) rfl rfl rfl rfl rfl rfl rfl (by decide) fB_len rfl rfl rfl rfl (by first | omega | (simp only [List.length_nil]; omega)) (by unfold maxLen; first | omega | (simp only [List.length_nil]; omega)) (hP79.ownR hOf) (hO79.rows fB_len) ?_
   intro q80 s80 hO80 hPr80 hN80
   refine Cm gg s80 [Ml 1 0,(2,Sn),(3,vS q80 (f ++ (putN x76.id)).length),(8,vI (j : Int)),(69,vB true)] [(1,0,cSV s)] fun _ _ => ?_
   have hfa : (f ++ putN x76.id).length = f.length + (putN x76.id).length := List.length_append
   have hN80' := cat_new (hPf.trans hP79) hNf hN80
   have hP80' := hPr80.pres (hPf.trans hP79) hNf
   refine ⟨_,rfl,?_⟩
   refine ⟨_,Od rfl,?_⟩
   refine op_el j (hP80'.rows hR.2) hy76 rfl rfl rfl rfl rfl rfl rfl ?_
   intro b85 d85 k85 hb85 hm85 hc85 ho85
   refine ⟨_,rfl,?_⟩
   refine ⟨_,op_ldc (i := 1) rfl rfl rfl rfl hm85 hc85 rfl rfl,?_⟩
   have hpb := putN_len x76.inc
   refine ⟨_,rfl,(ac_spec_PutNum x76.inc s80).mono ?_⟩
   rintro _ s88 ⟨q88,rfl,hO88,hN88,hP88⟩
   refine op_cat' (z := 1) (st := s88) (f := fB) (b := 1) (l := (f ++ putN x76.id)) (l2 := putN x76.inc) rfl rfl rfl rfl rfl rfl rfl (by decide) fB_len rfl rfl rfl rfl (by first | omega | (simp only [List.length_nil]; omega)) (by unfold maxLen; first | omega | (simp only [List.length_nil]; omega)) (hP88.ownR hO80) (hO88.rows fB_len) ?_
   intro q89 s89 hO89 hPr89 hN89
   refine Cm gg s89 [Ml 1 0,(2,Sn),(3,vS q89 ((f ++ putN x76.id) ++ (putN x76.inc)).length),(8,vI (j : Int)),(69,vB true)] [(1,0,cSV s)] fun _ _ => ?_
   have ew71 : IntKind.wrap .i64 ((j : Int) + (1)) = ((j + 1 : Nat) : Int) := (wrap_i64 (by omega) (by omega)).trans (by omega)
   refine ⟨_,rfl,?_⟩
   exact ⟨(j + 1,q89,f ++ putN x76.id ++ putN x76.inc),s.x.floors.length - (j + 1),by omega,⟨rfl,rfl,rfl,congrArg (Value.int .i64) ew71,trivial⟩,⟨rfl,trivial⟩,rfl,by first | omega | (simp only; omega),by rw [show flsB (s.x.floors.take (j + 1)) = flsB (s.x.floors.take j) ++ flB x76 from fm_succ hy76,← List.append_assoc,← hw,List.append_assoc]; rfl,hO89,cat_new (hP80'.trans hP88) hN80' hN89,hPr89.pres (hP80'.trans hP88) hN80'⟩
 ·replace h17 : (i : Int) < (s.x.items.length : Int) := of_decide_eq_true h17
  refine Cm gg st' [Ml 1 0,(2,Sn),(3,vS q b.length),(4,vI (i : Int)),(17,vB true)] [(1,0,cSV s)] fun _ _ => ?_
  obtain ⟨s1,hs1'⟩ : ∃ s1,s1 = st' := ⟨_,rfl⟩
  subst hs1'
  refine cxs ?_
  refine ⟨_,rfl,?_⟩
  refine ⟨_,Od rfl,?_⟩
  refine op_at i (hP.rows hR.1) (by omega) rfl rfl rfl rfl rfl rfl rfl ?_
  intro x23 b23 d23 k23 hy23 hb23 hm23 hc23 ho23
  refine ⟨_,rfl,?_⟩
  refine ⟨_,op_lda rfl rfl rfl rfl rfl hm23 (sub_row 1 5 hc23 rfl (by decide)) rfl,?_⟩
  refine ⟨_,rfl,?_⟩
  refine ⟨_,Os rfl,?_⟩
  refine Cm (gg + 1) s1 [Ml 1 0,(2,Sn),(3,vS q b.length),(4,vI (i : Int)),Ml 5 gg,(17,vB true)] [(1,0,cSV s),(5,gg,[vI x23.e.inc,vI x23.e.rank,vI x23.e.beat,vI x23.e.ver,.string x23.e.data])] fun _ _ => ?_
  have hdz : x23.e.data.size ≤ 8 := okSize hk (List.mem_of_getElem? hy23)
  refine ⟨_,rfl,?_⟩
  refine ⟨_,Od rfl,?_⟩
  refine op_el i (hP.rows hR.1) hy23 rfl rfl rfl rfl rfl rfl rfl ?_
  intro b29 d29 k29 hb29 hm29 hc29 ho29
  refine ⟨_,rfl,?_⟩
  refine ⟨_,op_ldc (i := 0) rfl rfl rfl rfl hm29 hc29 rfl rfl,?_⟩
  refine ⟨_,rfl,?_⟩
  refine ⟨_,Od rfl,?_⟩
  refine ⟨_,rfl,?_⟩
  refine ⟨_,Od rfl,?_⟩
  refine ⟨_,rfl,?_⟩
  refine ⟨_,Od rfl,?_⟩
  refine ⟨_,rfl,?_⟩
  refine ⟨_,Od rfl,?_⟩
  refine op_litI (k := .i64) (l := itL x23) rfl rfl rfl rfl rfl rfl (by decide) ?_
  intro q40 s40 hO40 hP40 hN40
  refine cxs ?_
  have h5 : (itL x23).length = 5 := rfl
  have hO40 : OwnR s40 1 fI q40 (itL x23) := hO40
  refine Cm (gg + 1) s40 [Ml 1 0,(2,Sn),(3,vS q b.length),(4,vI (i : Int)),Ml 5 gg,(6,vS q40 (itL x23).length),(7,vI 0),(17,vB true)] [(1,0,cSV s),(5,gg,[vI x23.e.inc,vI x23.e.rank,vI x23.e.beat,vI x23.e.ver,.string x23.e.data])] fun _ _ => ?_
  refine AW.loopM (fun y : Nat × Option Addr × List Int => [(1,vL 1 0 (0)),(2,.slice none 0 0),(3,vS y.2.1 y.2.2.length),(4,vI (i : Int)),(5,vL 5 0 (gg)),(6,vS q40 (itL x23).length),(7,vI (y.1 : Int)),(17,vB true)]) (fun y : Nat × Option Addr × List Int => [(1,0,[vS s.p s.x.items.length,vS s.q s.x.floors.length]),(5,gg,[vI x23.e.inc,vI x23.e.rank,vI x23.e.beat,vI x23.e.ver,.string x23.e.data])]) (fun m (y : Nat × Option Addr × List Int) st' => m = 5 - y.1 ∧ y.1 ≤ 5 ∧ y.2.2 = b ++ numsB ((itL x23).take y.1) ∧ OwnR st' 1 fB y.2.1 y.2.2 ∧ New st.next y.2.1 ∧ OwnR st' 1 fI q40 (itL x23) ∧ Dis y.2.1 q40 ∧ Pres st st') (0,q,b) _ ⟨rfl,rfl,rfl,rfl,rfl,rfl,rfl,rfl,trivial⟩ ⟨rfl,rfl,trivial⟩ ⟨rfl,Nat.zero_le _,(List.append_nil _).symm,hP40.ownR hO,hN,hO40,Dis.of hO.old hN40,hP.trans hP40⟩ ?_
  rintro m ⟨k,r,c⟩ ρ0 ff gg2 st' ⟨rfl,hk5,hc,hOc,hNc,hO5,hd5,hPc⟩
  simp only at hk5 hc hOc hNc hd5
  have hcl : c.length ≤ 30 + 38 * s.x.items.length := by rw [hc,List.length_append]; have := numsB_len ((itL x23).take k); rw [List.length_take] at this; omega
  iterate 2 refine ⟨_,rfl,?_⟩
  rintro (_|_) h44
  ·replace h44 : ¬ ((k : Int) < ((itL x23).length : Int)) := of_decide_eq_false h44
   refine Cm gg2 st' [Ml 1 0,(2,Sn),(3,vS r c.length),(4,vI (i : Int)),Ml 5 gg,(6,vS q40 (itL x23).length),(7,vI (k : Int)),(17,vB true),(44,vB false)] [(1,0,cSV s),(5,gg,[vI x23.e.inc,vI x23.e.rank,vI x23.e.beat,vI x23.e.ver,.string x23.e.data])] fun _ _ => ?_
   have hc5 : c = b ++ numsB (itL x23) := by rw [hc,show k = 5 by omega]; rfl
   refine cxs ?_
   refine ⟨_,rfl,?_⟩
   refine ⟨_,Od rfl,?_⟩
   have hpt := putS_len x23.e.data
   refine ⟨_,rfl,(ac_spec_PutText x23.e.data st' (by first | assumption | omega)).mono ?_⟩
   rintro _ s57 ⟨q57,rfl,hO57,hN57,hP57⟩
   refine op_cat' (z := 1) (st := s57) (f := fB) (b := 1) (l := c) (l2 := putS x23.e.data) rfl rfl rfl rfl rfl rfl rfl (by decide) fB_len rfl rfl rfl rfl (by first | omega | (simp only [List.length_nil]; omega)) (by unfold maxLen; first | omega | (simp only [List.length_nil]; omega)) (hP57.ownR hOc) (hO57.rows fB_len) ?_
   intro q58 s58 hO58 hPr58 hN58
   refine Cm gg2 s58 [Ml 1 0,(2,Sn),(3,vS q58 (c ++ (putS x23.e.data)).length),(4,vI (i : Int)),Ml 5 gg,(6,vS q40 (itL x23).length),(7,vI (k : Int)),(17,vB true),(44,vB false)] [(1,0,cSV s),(5,gg,[vI x23.e.inc,vI x23.e.rank,vI x23.e.beat,vI x23.e.ver,.string x23.e.data])] fun _ _ => ?_
   have ew19 : IntKind.wrap .i64 ((i : Int) + (1)) = ((i + 1 : Nat) : Int) := (wrap_i64 (by omega) (by omega)).trans (by omega)
   refine ⟨_,rfl,?_⟩
   exact ⟨(i + 1,q58,c ++ putS x23.e.data),s.x.items.length - (i + 1),by omega,⟨rfl,rfl,rfl,congrArg (Value.int .i64) ew19,trivial⟩,⟨rfl,trivial⟩,rfl,by first | omega | (simp only; omega),by rw [show itsB (s.x.items.take (i + 1)) = itsB (s.x.items.take i) ++ itB x23 from fm_succ hy23,← List.append_assoc,← hv,hc5,List.append_assoc]; rfl,hO58,cat_new (hPc.trans hP57) hNc hN58,hPr58.pres (hPc.trans hP57) hNc⟩
  ·replace h44 : (k : Int) < ((itL x23).length : Int) := of_decide_eq_true h44
   refine Cm gg2 st' [Ml 1 0,(2,Sn),(3,vS r c.length),(4,vI (i : Int)),Ml 5 gg,(6,vS q40 (itL x23).length),(7,vI (k : Int)),(17,vB true),(44,vB true)] [(1,0,cSV s),(5,gg,[vI x23.e.inc,vI x23.e.rank,vI x23.e.beat,vI x23.e.ver,.string x23.e.data])] fun _ _ => ?_
   refine cxs ?_
   refine op_at k (hO5.rows fI_len) (by omega) rfl rfl rfl rfl rfl rfl rfl ?_
   intro x50 b50 d50 k50 hy50 hb50 hm50 hc50 ho50
   refine ⟨_,op_ldc (i := 0) rfl rfl rfl rfl hm50 hc50 rfl rfl,?_⟩
   have hpl := putN_len x50
   refine ⟨_,rfl,(ac_spec_PutNum x50 st').mono ?_⟩
   rintro _ s52 ⟨q52,rfl,hO52,hN52,hP52⟩
   refine op_cat' (z := 1) (st := s52) (f := fB) (b := 1) (l := c) (l2 := putN x50) rfl rfl rfl rfl rfl rfl rfl (by decide) fB_len rfl rfl rfl rfl (by first | omega | (simp only [List.length_nil]; omega)) (by unfold maxLen; first | omega | (simp only [List.length_nil]; omega)) (hP52.ownR hOc) (hO52.rows fB_len) ?_
   intro q53 s53 hO53 hPr53 hN53
   refine Cm gg2 s53 [Ml 1 0,(2,Sn),(3,vS q53 (c ++ (putN x50)).length),(4,vI (i : Int)),Ml 5 gg,(6,vS q40 (itL x23).length),(7,vI (k : Int)),(17,vB true),(44,vB true)] [(1,0,cSV s),(5,gg,[vI x23.e.inc,vI x23.e.rank,vI x23.e.beat,vI x23.e.ver,.string x23.e.data])] fun _ _ => ?_
   have ew46 : IntKind.wrap .i64 ((k : Int) + (1)) = ((k + 1 : Nat) : Int) := (wrap_i64 (by omega) (by omega)).trans (by omega)
   refine ⟨_,rfl,?_⟩
   exact ⟨(k + 1,q53,c ++ putN x50),5 - (k + 1),by omega,⟨rfl,rfl,rfl,rfl,rfl,rfl,congrArg (Value.int .i64) ew46,rfl,trivial⟩,⟨rfl,rfl,trivial⟩,rfl,by first | omega | (simp only; omega),by rw [numsB_succ hy50,← List.append_assoc,← hc],hO53,cat_new (hPc.trans hP52) hNc hN53,hPr53.ownR hd5 (hP52.ownR hO5),cat_dis hd5 (hP52.ownR hO5).old hN53,hPr53.pres (hPc.trans hP52) hNc⟩
theorem ac_impl_StateBytes (s : SV) (st : St) (hR : RdS st s) (hb : bigS s.x) (hk : stateOk s.x) : C 201 [.agg #[vS s.p s.x.items.length,vS s.q s.x.floors.length]] st (fun v s' => ∃ q,v = vS q (stB s.x).length ∧ OwnR s' 1 fB q (stB s.x) ∧ New st.next q ∧ Pres st s') := by
 have hs1 : s.x.items.length ≤ 1048576 := hb.1
 have hs2 : s.x.floors.length ≤ 1048576 := hb.2.1
 have hpl1 := putN_len (s.x.items.length : Int)
 have hpl2 := putN_len (s.x.floors.length : Int)
 refine AC.enterX (i := ⟨[1,5,6,8],[1,5,6,8,12,16,23,26,29,32,35,38,41,48,54,62,65],[0,1,2,3,5,6,8,11,17,18,19,20,55,56,57,58],[]⟩) [(8,[3,6,9,12,15],[5,8,11,14,17]),(14,[3],[5])] Tryz.func201 rfl rfl (by kernel_rfl) (by kernel_rfl) Tryz.ntmps201 (Lb rfl) rfl ?_
 refine ⟨_,rfl,?_⟩
 refine Cm 1 st [Ml 1 0,(2,Sn)] [(1,0,cSV s)] fun _ _ => ?_
 refine ⟨_,Od rfl,?_⟩
 refine ⟨_,rfl,(AC.tru (ac_impl_StateOk s st hR hb) hk).mono ?_⟩
 rintro _ st ⟨rfl,rfl⟩
 refine ⟨_,rfl,?_⟩
 refine Cm 1 st [Ml 1 0,(2,Sn),(11,vB false)] [(1,0,cSV s)] fun _ _ => ?_
 refine cxs ?_
 refine ⟨_,rfl,?_⟩
 refine ⟨_,Od rfl,?_⟩
 refine ⟨_,rfl,?_⟩
 refine ⟨_,rfl,(ac_impl_PutNum (s.x.items.length : Int) st).mono ?_⟩
 rintro _ s15 ⟨q15,rfl,hO15,hN15,hP15⟩
 refine Cm 1 s15 [Ml 1 0,(2,Sn),(3,vS q15 (putN (s.x.items.length : Int)).length)] [(1,0,cSV s)] fun _ _ => ?_
 refine ⟨_,rfl,?_⟩
 refine ⟨_,Od rfl,?_⟩
 refine ⟨_,rfl,?_⟩
 refine Cm 1 s15 [Ml 1 0,(2,Sn),(3,vS q15 (putN (s.x.items.length : Int)).length),(17,vS s.p s.x.items.length),(18,vI (s.x.items.length : Int)),(19,vI 0)] [(1,0,cSV s)] fun _ _ => ?_
 refine AW.loopM (fun x : Nat × Option Addr × List Int => [(1,vL 1 0 (0)),(2,.slice none 0 0),(3,vS x.2.1 x.2.2.length),(17,vS s.p s.x.items.length),(18,vI (s.x.items.length : Int)),(19,vI (x.1 : Int))]) (fun x : Nat × Option Addr × List Int => [(1,0,[vS s.p s.x.items.length,vS s.q s.x.floors.length])]) (fun m (x : Nat × Option Addr × List Int) st' => m = s.x.items.length - x.1 ∧ x.1 ≤ s.x.items.length ∧ x.2.2 = putN (s.x.items.length : Int) ++ itsB (s.x.items.take x.1) ∧ OwnR st' 1 fB x.2.1 x.2.2 ∧ New st.next x.2.1 ∧ Pres st st') (0,q15,putN (s.x.items.length : Int)) _ ⟨rfl,rfl,rfl,rfl,rfl,rfl,trivial⟩ ⟨rfl,trivial⟩ ⟨rfl,Nat.zero_le _,(List.append_nil _).symm,hO15,hN15,hP15⟩ ?_
 rintro m ⟨i,q,b⟩ ρ0 ff gg st' ⟨rfl,hi,hv,hO,hN,hP⟩
 simp only at hi hv hO hN
 have hbl : b.length ≤ 5 + 38 * s.x.items.length := by rw [hv,List.length_append]; have := its_len hk i; omega
 refine ⟨_,rfl,?_⟩
 rintro (_|_) h20
 ·replace h20 : ¬ ((i : Int) < (s.x.items.length : Int)) := of_decide_eq_false h20
  refine Cm gg st' [Ml 1 0,(2,Sn),(3,vS q b.length),(17,vS s.p s.x.items.length),(18,vI (s.x.items.length : Int)),(19,vI (i : Int)),(20,vB false)] [(1,0,cSV s)] fun _ _ => ?_
  have hv1 : b = putN (s.x.items.length : Int) ++ itsB s.x.items := by rw [hv,show i = s.x.items.length by omega,List.take_length]
  obtain ⟨s1,hs1'⟩ : ∃ s1,s1 = st' := ⟨_,rfl⟩
  subst hs1'
  refine cxs ?_
  refine ⟨_,rfl,?_⟩
  refine ⟨_,Od rfl,?_⟩
  refine ⟨_,rfl,?_⟩
  refine ⟨_,rfl,(ac_impl_PutNum (s.x.floors.length : Int) s1).mono ?_⟩
  rintro _ s51 ⟨q51,rfl,hO51,hN51,hP51⟩
  have hfm : fl [⟨q,b⟩,⟨q51,putN (s.x.floors.length : Int)⟩] = b ++ putN (s.x.floors.length : Int) := by simp [fl]
  refine op_litR [⟨q,b⟩,⟨q51,putN (s.x.floors.length : Int)⟩] rfl rfl rfl (by decide) rfl rfl rfl (by decide) ?_
  intro q52 s52 hO52 hP52 hN52
  refine ⟨_,rfl,(ac_impl_joined q52 [⟨q,b⟩,⟨q51,putN (s.x.floors.length : Int)⟩] s52 (hO52.rows cRV_len) (fun r hr => by
  simp only [List.mem_cons,List.not_mem_nil,or_false] at hr
  rcases hr with rfl | rfl
  ·exact (hP51.trans hP52).rows (hO.rows fB_len)
  ·exact hP52.rows (hO51.rows fB_len)) (by show (2 : Nat) ≤ 1048576; omega) (by rw [hfm,List.length_append]; omega)).mono ?_⟩
  rintro _ s53 ⟨q53,rfl,hO53,hN53,hP53⟩
  refine Cm gg s53 [Ml 1 0,(2,Sn),(3,vS q53 (fl [⟨q,b⟩,⟨q51,putN (s.x.floors.length : Int)⟩]).length)] [(1,0,cSV s)] fun _ _ => ?_
  have hN53' : New st.next q53 := hN53.le ((hP.trans hP51).trans hP52).1
  have hP53' := ((hP.trans hP51).trans hP52).trans hP53
  refine ⟨_,rfl,?_⟩
  refine ⟨_,Od rfl,?_⟩
  refine ⟨_,rfl,?_⟩
  refine Cm gg s53 [(2,Sn),(3,vS q53 (fl [⟨q,b⟩,⟨q51,putN (s.x.floors.length : Int)⟩]).length),(55,vS s.q s.x.floors.length),(56,vI (s.x.floors.length : Int)),(57,vI 0)] [] fun _ _ => ?_
  refine AW.loopM (fun z : Nat × Option Addr × List Int => [(2,.slice none 0 0),(3,vS z.2.1 z.2.2.length),(55,vS s.q s.x.floors.length),(56,vI (s.x.floors.length : Int)),(57,vI (z.1 : Int))]) (fun z : Nat × Option Addr × List Int => []) (fun m (z : Nat × Option Addr × List Int) st' => m = s.x.floors.length - z.1 ∧ z.1 ≤ s.x.floors.length ∧ z.2.2 = b ++ putN (s.x.floors.length : Int) ++ flsB (s.x.floors.take z.1) ∧ OwnR st' 1 fB z.2.1 z.2.2 ∧ New st.next z.2.1 ∧ Pres st st') (0,q53,fl [⟨q,b⟩,⟨q51,putN (s.x.floors.length : Int)⟩]) _ ⟨rfl,rfl,rfl,rfl,rfl,trivial⟩ trivial ⟨rfl,Nat.zero_le _,hfm.trans (List.append_nil _).symm,hO53,hN53',hP53'⟩ ?_
  rintro m ⟨j,r,f⟩ ρ0 ff gg st' ⟨rfl,hj,hw,hOf,hNf,hPf⟩
  simp only at hj hw hOf hNf
  have hfl : f.length ≤ 10 + 38 * s.x.items.length + 10 * s.x.floors.length := by rw [hw,List.length_append,List.length_append]; have := fls_len s.x.floors j; omega
  refine ⟨_,rfl,?_⟩
  rintro (_|_) h58
  ·replace h58 : ¬ ((j : Int) < (s.x.floors.length : Int)) := of_decide_eq_false h58
   refine Cm gg st' [(2,Sn),(3,vS r f.length),(55,vS s.q s.x.floors.length),(56,vI (s.x.floors.length : Int)),(57,vI (j : Int)),(58,vB false)] [] fun _ _ => ?_
   have hw1 : f = stB s.x := by rw [hw,show j = s.x.floors.length by omega,List.take_length,hv1]; rfl
   refine cxs ?_
   refine cxs ?_
   refine ⟨.inl rfl,_,rfl,r,?_⟩
   rw [← hw1]
   exact ⟨rfl,hOf,hNf,hPf⟩
  ·replace h58 : (j : Int) < (s.x.floors.length : Int) := of_decide_eq_true h58
   refine Cm gg st' [(2,Sn),(3,vS r f.length),(55,vS s.q s.x.floors.length),(56,vI (s.x.floors.length : Int)),(57,vI (j : Int)),(58,vB true)] [] fun _ _ => ?_
   refine cxs ?_
   refine op_at j (hPf.rows hR.2) (by omega) rfl rfl rfl rfl rfl rfl rfl ?_
   intro x59 b59 d59 k59 hy59 hb59 hm59 hc59 ho59
   refine ⟨_,op_lda rfl rfl rfl rfl rfl hm59 hc59 rfl,?_⟩
   refine ⟨_,rfl,?_⟩
   refine ⟨_,Os rfl,?_⟩
   refine Cm (gg + 1) st' [(2,Sn),(3,vS r f.length),Ml 8 gg,(55,vS s.q s.x.floors.length),(56,vI (s.x.floors.length : Int)),(57,vI (j : Int)),(58,vB true)] [(8,gg,[vI x59.id,vI x59.inc])] fun _ _ => ?_
   refine ⟨_,rfl,?_⟩
   refine ⟨_,Od rfl,?_⟩
   refine ⟨_,rfl,(ac_impl_PutNum x59.id st').mono ?_⟩
   rintro _ s64 ⟨q64,rfl,hO64,hN64,hP64⟩
   refine ⟨hP64.2,?_⟩
   refine ⟨_,rfl,?_⟩
   refine ⟨_,Od rfl,?_⟩
   refine ⟨ld_own rfl rfl rfl,?_⟩
   refine ⟨_,rfl,(ac_impl_PutNum x59.inc s64).mono ?_⟩
   rintro _ s67 ⟨q67,rfl,hO67,hN67,hP67⟩
   have hpa := putN_len x59.id
   have hpb := putN_len x59.inc
   have g64 := hP64.trans hP67
   have hfn : fl [⟨r,f⟩,⟨q64,putN x59.id⟩,⟨q67,putN x59.inc⟩] = f ++ flB x59 := by simp [fl,flB]
   have hil := flB_len x59
   refine op_litR [⟨r,f⟩,⟨q64,putN x59.id⟩,⟨q67,putN x59.inc⟩] rfl rfl rfl (by decide) rfl rfl rfl (by decide) ?_
   intro q68 s68 hO68 hP68 hN68
   refine ⟨_,rfl,(ac_impl_joined q68 [⟨r,f⟩,⟨q64,putN x59.id⟩,⟨q67,putN x59.inc⟩] s68 (hO68.rows cRV_len) (fun r hr => by
  simp only [List.mem_cons,List.not_mem_nil,or_false] at hr
  rcases hr with rfl | rfl | rfl
  ·exact (g64.trans hP68).rows (hOf.rows fB_len)
  ·exact (hP67.trans hP68).rows (hO64.rows fB_len)
  ·exact hP68.rows (hO67.rows fB_len)) (by show (3 : Nat) ≤ 1048576; omega) (by rw [hfn,List.length_append]; omega)).mono ?_⟩
   rintro _ s69 ⟨q69,rfl,hO69,hN69,hP69⟩
   refine Cm (gg + 1) s69 [(2,Sn),(3,vS q69 (fl [⟨r,f⟩,⟨q64,putN x59.id⟩,⟨q67,putN x59.inc⟩]).length),Ml 8 gg,(55,vS s.q s.x.floors.length),(56,vI (s.x.floors.length : Int)),(57,vI (j : Int)),(58,vB true)] [(8,gg,[vI x59.id,vI x59.inc])] fun _ _ => ?_
   have ew70 : IntKind.wrap .i64 ((j : Int) + (1)) = ((j + 1 : Nat) : Int) := (wrap_i64 (by omega) (by omega)).trans (by omega)
   refine ⟨_,rfl,?_⟩
   exact ⟨(j + 1,q69,fl [⟨r,f⟩,⟨q64,putN x59.id⟩,⟨q67,putN x59.inc⟩]),s.x.floors.length - (j + 1),by omega,⟨rfl,rfl,rfl,rfl,congrArg (Value.int .i64) ew70,trivial⟩,trivial,rfl,by first | omega | (simp only; omega),by rw [show flsB (s.x.floors.take (j + 1)) = flsB (s.x.floors.take j) ++ flB x59 from fm_succ hy59,← List.append_assoc,← hw]; exact hfn,hO69,hN69.le ((hPf.trans g64).trans hP68).1,((hPf.trans g64).trans hP68).trans hP69⟩
 ·replace h20 : (i : Int) < (s.x.items.length : Int) := of_decide_eq_true h20
  refine Cm gg st' [Ml 1 0,(2,Sn),(3,vS q b.length),(17,vS s.p s.x.items.length),(18,vI (s.x.items.length : Int)),(19,vI (i : Int)),(20,vB true)] [(1,0,cSV s)] fun _ _ => ?_
  obtain ⟨s1,hs1'⟩ : ∃ s1,s1 = st' := ⟨_,rfl⟩
  subst hs1'
  refine cxs ?_
  refine op_at i (hP.rows hR.1) (by omega) rfl rfl rfl rfl rfl rfl rfl ?_
  intro x21 b21 d21 k21 hy21 hb21 hm21 hc21 ho21
  refine ⟨_,op_lda rfl rfl rfl rfl rfl hm21 hc21 rfl,?_⟩
  refine ⟨_,rfl,?_⟩
  refine ⟨_,Os rfl,?_⟩
  refine Cm (gg + 1) s1 [Ml 1 0,(2,Sn),(3,vS q b.length),Ml 5 gg,(17,vS s.p s.x.items.length),(18,vI (s.x.items.length : Int)),(19,vI (i : Int)),(20,vB true)] [(1,0,cSV s),(5,gg,[vI x21.id,vI x21.e.inc,vI x21.e.rank,vI x21.e.beat,vI x21.e.ver,.string x21.e.data])] fun _ _ => ?_
  refine ⟨_,rfl,?_⟩
  refine ⟨_,Od rfl,?_⟩
  refine ⟨_,rfl,?_⟩
  refine ⟨_,Os rfl,?_⟩
  refine Cm (gg + 2) s1 [Ml 1 0,(2,Sn),(3,vS q b.length),Ml 5 gg,(6,vL 6 0 (gg + 1)),(17,vS s.p s.x.items.length),(18,vI (s.x.items.length : Int)),(19,vI (i : Int)),(20,vB true)] [(1,0,cSV s),(5,gg,[vI x21.id,vI x21.e.inc,vI x21.e.rank,vI x21.e.beat,vI x21.e.ver,.string x21.e.data]),(6,gg + 1,[vI x21.e.inc,vI x21.e.rank,vI x21.e.beat,vI x21.e.ver,.string x21.e.data])] fun _ _ => ?_
  have hdz : x21.e.data.size ≤ 8 := okSize hk (List.mem_of_getElem? hy21)
  refine ⟨_,rfl,?_⟩
  refine ⟨_,Od rfl,?_⟩
  refine ⟨_,rfl,(ac_impl_PutNum x21.id s1).mono ?_⟩
  rintro _ s28 ⟨q28,rfl,hO28,hN28,hP28⟩
  refine ⟨hP28.2,?_⟩
  refine ⟨_,rfl,?_⟩
  refine ⟨_,Od rfl,?_⟩
  refine ⟨ld_own rfl rfl rfl,?_⟩
  refine ⟨_,rfl,(ac_impl_PutNum x21.e.inc s28).mono ?_⟩
  rintro _ s31 ⟨q31,rfl,hO31,hN31,hP31⟩
  refine ⟨hP31.low hP28,?_⟩
  refine ⟨_,rfl,?_⟩
  refine ⟨_,Od rfl,?_⟩
  refine ⟨ld_own rfl rfl rfl,?_⟩
  refine ⟨_,rfl,(ac_impl_PutNum x21.e.rank s31).mono ?_⟩
  rintro _ s34 ⟨q34,rfl,hO34,hN34,hP34⟩
  refine ⟨hP34.low (hP28.trans hP31),?_⟩
  refine ⟨_,rfl,?_⟩
  refine ⟨_,Od rfl,?_⟩
  refine ⟨ld_own rfl rfl rfl,?_⟩
  refine ⟨_,rfl,(ac_impl_PutNum x21.e.beat s34).mono ?_⟩
  rintro _ s37 ⟨q37,rfl,hO37,hN37,hP37⟩
  refine ⟨hP37.low ((hP28.trans hP31).trans hP34),?_⟩
  refine ⟨_,rfl,?_⟩
  refine ⟨_,Od rfl,?_⟩
  refine ⟨ld_own rfl rfl rfl,?_⟩
  refine ⟨_,rfl,(ac_impl_PutNum x21.e.ver s37).mono ?_⟩
  rintro _ s40 ⟨q40,rfl,hO40,hN40,hP40⟩
  refine ⟨hP40.low (((hP28.trans hP31).trans hP34).trans hP37),?_⟩
  refine ⟨_,rfl,?_⟩
  refine ⟨_,Od rfl,?_⟩
  refine ⟨ld_own rfl rfl rfl,?_⟩
  refine ⟨_,rfl,(ac_impl_PutText x21.e.data s40 (by first | assumption | omega)).mono ?_⟩
  rintro _ s43 ⟨q43,rfl,hO43,hN43,hP43⟩
  have g43 := hP43
  have g40 := hP40.trans g43
  have g37 := hP37.trans g40
  have g34 := hP34.trans g37
  have g31 := hP31.trans g34
  have g28 := hP28.trans g31
  have hfl : fl [⟨q,b⟩,⟨q28,putN x21.id⟩,⟨q31,putN x21.e.inc⟩,⟨q34,putN x21.e.rank⟩,⟨q37,putN x21.e.beat⟩,⟨q40,putN x21.e.ver⟩,⟨q43,putS x21.e.data⟩] = b ++ itB x21 := by simp [fl,itB,numsB,itL]
  have hil := itB_len hdz
  refine op_litR [⟨q,b⟩,⟨q28,putN x21.id⟩,⟨q31,putN x21.e.inc⟩,⟨q34,putN x21.e.rank⟩,⟨q37,putN x21.e.beat⟩,⟨q40,putN x21.e.ver⟩,⟨q43,putS x21.e.data⟩] rfl rfl rfl (by decide) rfl rfl rfl (by decide) ?_
  intro q44 s44 hO44 hP44 hN44
  refine ⟨_,rfl,(ac_impl_joined q44 [⟨q,b⟩,⟨q28,putN x21.id⟩,⟨q31,putN x21.e.inc⟩,⟨q34,putN x21.e.rank⟩,⟨q37,putN x21.e.beat⟩,⟨q40,putN x21.e.ver⟩,⟨q43,putS x21.e.data⟩] s44 (hO44.rows cRV_len) (fun r hr => by
  simp only [List.mem_cons,List.not_mem_nil,or_false] at hr
  rcases hr with rfl | rfl | rfl | rfl | rfl | rfl | rfl
  ·exact (g28.trans hP44).rows (hO.rows fB_len)
  ·exact (g31.trans hP44).rows (hO28.rows fB_len)
  ·exact (g34.trans hP44).rows (hO31.rows fB_len)
  ·exact (g37.trans hP44).rows (hO34.rows fB_len)
  ·exact (g40.trans hP44).rows (hO37.rows fB_len)
  ·exact (g43.trans hP44).rows (hO40.rows fB_len)
  ·exact hP44.rows (hO43.rows fB_len)) (by show (7 : Nat) ≤ 1048576; omega) (by rw [hfl,List.length_append]; omega)).mono ?_⟩
  rintro _ s45 ⟨q45,rfl,hO45,hN45,hP45⟩
  refine Cm (gg + 2) s45 [Ml 1 0,(2,Sn),(3,vS q45 (fl [⟨q,b⟩,⟨q28,putN x21.id⟩,⟨q31,putN x21.e.inc⟩,⟨q34,putN x21.e.rank⟩,⟨q37,putN x21.e.beat⟩,⟨q40,putN x21.e.ver⟩,⟨q43,putS x21.e.data⟩]).length),Ml 5 gg,(6,vL 6 0 (gg + 1)),(17,vS s.p s.x.items.length),(18,vI (s.x.items.length : Int)),(19,vI (i : Int)),(20,vB true)] [(1,0,cSV s),(5,gg,[vI x21.id,vI x21.e.inc,vI x21.e.rank,vI x21.e.beat,vI x21.e.ver,.string x21.e.data]),(6,gg + 1,[vI x21.e.inc,vI x21.e.rank,vI x21.e.beat,vI x21.e.ver,.string x21.e.data])] fun _ _ => ?_
  have ew46 : IntKind.wrap .i64 ((i : Int) + (1)) = ((i + 1 : Nat) : Int) := (wrap_i64 (by omega) (by omega)).trans (by omega)
  refine ⟨_,rfl,?_⟩
  exact ⟨(i + 1,q45,fl [⟨q,b⟩,⟨q28,putN x21.id⟩,⟨q31,putN x21.e.inc⟩,⟨q34,putN x21.e.rank⟩,⟨q37,putN x21.e.beat⟩,⟨q40,putN x21.e.ver⟩,⟨q43,putS x21.e.data⟩]),s.x.items.length - (i + 1),by omega,⟨rfl,rfl,rfl,rfl,rfl,congrArg (Value.int .i64) ew46,trivial⟩,⟨rfl,trivial⟩,rfl,by first | omega | (simp only; omega),by rw [show itsB (s.x.items.take (i + 1)) = itsB (s.x.items.take i) ++ itB x21 from fm_succ hy21,← List.append_assoc,← hv]; exact hfl,hO45,hN45.le ((hP.trans g28).trans hP44).1,((hP.trans g28).trans hP44).trans hP45⟩
theorem pw_of {α : Type} {id : α → Int} {l : List α} (h : ∀ (j : Nat) x,l[j]? = some x → ∀ y,0 < j → l[j - 1]? = some y → id y < id x) : l.Pairwise (fun a b => id a < id b) := by
 have key : ∀ (d i : Nat) (hd : i + d + 1 < l.length),id (l[i]'(by omega)) < id (l[i + d + 1]'hd) := by
  intro d
  induction d with
  | zero =>
   intro i hd
   exact h (i + 1) _ (List.getElem?_eq_getElem hd) _ (by omega) (List.getElem?_eq_getElem (by omega))
  | succ d ih =>
   intro i hd
   have h1 := ih i (by omega)
   have h2 := h (i + (d + 1) + 1) _ (List.getElem?_eq_getElem hd) (l[i + d + 1]'(by omega)) (by omega) (List.getElem?_eq_getElem (by omega))
   omega
 refine List.pairwise_iff_getElem.2 fun i j hi hj hij => ?_
 have := key (j - i - 1) i (by omega)
 simpa only [show i + (j - i - 1) + 1 = j by omega] using this
theorem of_pw {α : Type} {id : α → Int} {l : List α} (h : l.Pairwise (fun a b => id a < id b)) (j : Nat) (x : α) (hx : l[j]? = some x) (y : α) (h0 : 0 < j) (hy : l[j - 1]? = some y) : id y < id x := by
 obtain ⟨hj,rfl⟩ := List.getElem?_eq_some_iff.1 hx
 obtain ⟨hj',rfl⟩ := List.getElem?_eq_some_iff.1 hy
 exact List.pairwise_iff_getElem.1 h (j - 1) j hj' hj (by omega)
theorem floorOf_fl (L : List Int) (id : Int) : ∀ l : List Flr,floorOf (flS L l) id = if leafOf id ∈ L then floorOf l id else 0
 | [] => by simp [flS,floorOf]
 | f :: l => by
  have ih := floorOf_fl L id l
  by_cases hf : leafOf f.id ∈ L
  ·rw [show flS L (f :: l) = f :: flS L l from List.filter_cons_of_pos (decide_eq_true hf),floorOf,floorOf]
   by_cases he : f.id = id
   ·rw [if_pos he,if_pos he,if_pos (he ▸ hf)]
   ·rw [if_neg he,if_neg he,ih]
  ·rw [show flS L (f :: l) = flS L l from List.filter_cons_of_neg (by simpa [inL] using hf),floorOf,ih]
   by_cases he : f.id = id
   ·rw [if_neg (he ▸ hf),if_neg (he ▸ hf)]
   ·rw [if_neg he]
theorem slice_ok {s : Sta} (h : stateOk s) (L : List Int) : stateOk (sliceF s L) := by
 obtain ⟨h1,h2⟩ := h
 have p1 : (itS L s.items).Pairwise (fun a b => Itm.id a < Itm.id b) := (pw_of (id := Itm.id) fun j x hx => (h1 j x hx).2.2.2).filter _
 have p2 : (flS L s.floors).Pairwise (fun a b => Flr.id a < Flr.id b) := (pw_of (id := Flr.id) fun j x hx => (h2 j x hx).2.2).filter _
 refine ⟨fun j x hx => ?_,fun j x hx => ?_⟩
 ·obtain ⟨k,hk⟩ := List.getElem?_of_mem ((List.mem_filter.1 (List.mem_of_getElem? hx)).1)
  have hx' := h1 k x hk
  refine ⟨hx'.1,hx'.2.1,?_,of_pw p1 j x hx⟩
  show floorOf (flS L s.floors) x.id < x.e.inc
  rw [floorOf_fl]
  split
  ·exact hx'.2.2.1
  ·have := hx'.2.1.1.1; omega
 ·obtain ⟨k,hk⟩ := List.getElem?_of_mem ((List.mem_filter.1 (List.mem_of_getElem? hx)).1)
  have hx' := h2 k x hk
  exact ⟨hx'.1,hx'.2.1,of_pw p2 j x hx⟩
theorem slice_big {s : Sta} (h : bigS s) (L : List Int) : bigS (sliceF s L) :=
 ⟨Nat.le_trans (List.length_filter_le _ _) h.1,Nat.le_trans (List.length_filter_le _ _) h.2.1,fun x hx => h.2.2 x ((List.mem_filter.1 hx).1)⟩
open Classical in
noncomputable def leafSum (s : Sta) (k : Int) : Int := if stateOk s ∧ 0 ≤ k ∧ k ≤ 3 then crc (stB (sliceF s [k])) % 1024 else 0
theorem ac_spec_LeafSum (s : SV) (k : Int) (st : St) (hR : RdS st s) (hb : bigS s.x) : C 167 [.agg #[vS s.p s.x.items.length,vS s.q s.x.floors.length],vI k] st (fun v s' => v = vI (leafSum s.x k) ∧ Pres st s') := by
 refine AC.enterX (i := ⟨[2],[2],[0,1,2,4,12],[]⟩) [] Tryz.func167 rfl rfl (by kernel_rfl) (by kernel_rfl) Tryz.ntmps167 (Lb rfl) rfl ?_
 refine ⟨_,rfl,?_⟩
 refine Cm 1 st [(1,vI k),Ml 2 0,(4,vI 0)] [(2,0,cSV s)] fun _ _ => ?_
 refine ⟨_,Od rfl,?_⟩
 refine ⟨_,rfl,(ac_spec_StateOk s st hR (by first | assumption | omega)).mono ?_⟩
 rintro _ st ⟨x6,rfl,h6,rfl⟩
 rcases x6 with _|_
 ·replace h6 := fun k => Bool.false_ne_true (h6.2 k)
  iterate 2 refine ⟨_,rfl,?_⟩
  refine Cm 1 st [(1,vI k),Ml 2 0,(4,vI 0),(12,vB true)] [(2,0,cSV s)] fun _ _ => ?_
  exact cxs (Rt ⟨congrArg vI (by rw [leafSum,if_neg (fun h => h6 h.1)]),Pres.refl _⟩)
 ·replace h6 := h6.1 rfl
  refine ⟨_,rfl,?_⟩
  refine ⟨_,rfl,(ac_spec_l1In k 0 3 st).mono ?_⟩
  rintro _ st ⟨x10,rfl,h10,rfl⟩
  rcases x10 with _|_
  ·replace h10 := of_decide_eq_false h10.symm
   iterate 2 refine ⟨_,rfl,?_⟩
   refine Cm 1 st [(1,vI k),Ml 2 0,(4,vI 0),(12,vB true)] [(2,0,cSV s)] fun _ _ => ?_
   exact cxs (Rt ⟨congrArg vI (by rw [leafSum,if_neg (fun h => h10 h.2)]),Pres.refl _⟩)
  ·replace h10 := of_decide_eq_true h10.symm
   iterate 2 refine ⟨_,rfl,?_⟩
   refine Cm 1 st [(1,vI k),Ml 2 0,(4,vI 0),(12,vB false)] [(2,0,cSV s)] fun _ _ => ?_
   refine cxs ?_
   refine ⟨_,Od rfl,?_⟩
   refine op_litI (k := .i64) (l := [k]) rfl rfl rfl rfl rfl rfl (by decide) ?_
   intro q15 s15 hO15 hP15 hN15
   refine ⟨_,rfl,(ac_spec_l6Slice s q15 [k] s15 (hR.pres hP15) hb (OwnR.rows (f := fI) fI_len hO15) (by show (1 : Nat) ≤ 1048576; omega)).mono ?_⟩
   rintro _ s16 ⟨u16,rfl,hu16,hO16,hN16,hP16⟩
   refine ⟨_,rfl,(ac_spec_l6Bytes u16 s16 hO16.rdS (by rw [hu16]; exact slice_big hb _) (by rw [hu16]; exact slice_ok h6 _)).mono ?_⟩
   rintro _ s17 ⟨q17,rfl,hO17,hN17,hP17⟩
   have hbl := stB_len (s := u16.x) (by rw [hu16]; exact slice_ok h6 _)
   have hbg : bigS u16.x := by rw [hu16]; exact slice_big hb _
   have hb1 : u16.x.items.length ≤ 1048576 := hbg.1
   have hb2 : u16.x.floors.length ≤ 1048576 := hbg.2.1
   have hc0 : 0 ≤ crc (stB u16.x) := (crc_rng (stB_ok _)).1
   refine ⟨_,rfl,(ac_spec_Crc q17 (stB u16.x) s17 (hO17.rows fB_len) (stB_ok _) (by omega)).mono ?_⟩
   rintro _ s17 ⟨rfl,rfl⟩
   refine ⟨_,op_rm (r := crc (stB u16.x) % 1024) rfl rfl rfl (by decide) (tm_emod 1024 hc0),?_⟩
   exact cxs (Rt ⟨congrArg vI (by rw [leafSum,if_pos ⟨h6,h10⟩,hu16]),(hP15.trans hP16).trans hP17⟩)
theorem ac_impl_LeafSum (s : SV) (k : Int) (st : St) (hR : RdS st s) (hb : bigS s.x) : C 155 [.agg #[vS s.p s.x.items.length,vS s.q s.x.floors.length],vI k] st (fun v s' => v = vI (leafSum s.x k) ∧ Pres st s') := by
 refine AC.enterX (i := ⟨[2],[2],[0,1,2,4,12],[]⟩) [] Tryz.func155 rfl rfl (by kernel_rfl) (by kernel_rfl) Tryz.ntmps155 (Lb rfl) rfl ?_
 refine ⟨_,rfl,?_⟩
 refine Cm 1 st [(1,vI k),Ml 2 0,(4,vI 0)] [(2,0,cSV s)] fun _ _ => ?_
 refine ⟨_,Od rfl,?_⟩
 refine ⟨_,rfl,(ac_impl_StateOk s st hR (by first | assumption | omega)).mono ?_⟩
 rintro _ st ⟨x6,rfl,h6,rfl⟩
 rcases x6 with _|_
 ·replace h6 := fun k => Bool.false_ne_true (h6.2 k)
  iterate 2 refine ⟨_,rfl,?_⟩
  refine Cm 1 st [(1,vI k),Ml 2 0,(4,vI 0),(12,vB true)] [(2,0,cSV s)] fun _ _ => ?_
  exact cxs (Rt ⟨congrArg vI (by rw [leafSum,if_neg (fun h => h6 h.1)]),Pres.refl _⟩)
 ·replace h6 := h6.1 rfl
  refine ⟨_,rfl,?_⟩
  refine ⟨_,rfl,(ac_impl_within k 0 3 st).mono ?_⟩
  rintro _ st ⟨x10,rfl,h10,rfl⟩
  rcases x10 with _|_
  ·replace h10 := of_decide_eq_false h10.symm
   iterate 2 refine ⟨_,rfl,?_⟩
   refine Cm 1 st [(1,vI k),Ml 2 0,(4,vI 0),(12,vB true)] [(2,0,cSV s)] fun _ _ => ?_
   exact cxs (Rt ⟨congrArg vI (by rw [leafSum,if_neg (fun h => h10 h.2)]),Pres.refl _⟩)
  ·replace h10 := of_decide_eq_true h10.symm
   iterate 2 refine ⟨_,rfl,?_⟩
   refine Cm 1 st [(1,vI k),Ml 2 0,(4,vI 0),(12,vB false)] [(2,0,cSV s)] fun _ _ => ?_
   refine cxs ?_
   refine ⟨_,Od rfl,?_⟩
   refine op_litI (k := .i64) (l := [k]) rfl rfl rfl rfl rfl rfl (by decide) ?_
   intro q15 s15 hO15 hP15 hN15
   refine ⟨_,rfl,(ac_impl_Slice s q15 [k] s15 (hR.pres hP15) hb (OwnR.rows (f := fI) fI_len hO15) (by show (1 : Nat) ≤ 1048576; omega) h6).mono ?_⟩
   rintro _ s16 ⟨u16,rfl,hu16,hO16,hN16,hP16⟩
   refine ⟨_,rfl,(ac_impl_StateBytes u16 s16 hO16.rdS (by rw [hu16]; exact slice_big hb _) (by rw [hu16]; exact slice_ok h6 _)).mono ?_⟩
   rintro _ s17 ⟨q17,rfl,hO17,hN17,hP17⟩
   have hbl := stB_len (s := u16.x) (by rw [hu16]; exact slice_ok h6 _)
   have hbg : bigS u16.x := by rw [hu16]; exact slice_big hb _
   have hb1 : u16.x.items.length ≤ 1048576 := hbg.1
   have hb2 : u16.x.floors.length ≤ 1048576 := hbg.2.1
   have hc0 : 0 ≤ crc (stB u16.x) := (crc_rng (stB_ok _)).1
   refine ⟨_,rfl,(ac_impl_Crc q17 (stB u16.x) s17 (hO17.rows fB_len) (stB_ok _) (by omega)).mono ?_⟩
   rintro _ s17 ⟨rfl,rfl⟩
   refine ⟨_,op_rm (r := crc (stB u16.x) % 1024) rfl rfl rfl (by decide) (tm_emod 1024 hc0),?_⟩
   exact cxs (Rt ⟨congrArg vI (by rw [leafSum,if_pos ⟨h6,h10⟩,hu16]),(hP15.trans hP16).trans hP17⟩)
noncomputable def sums (s : Sta) (i : Nat) : List Int := (List.range i).map fun (j : Nat) => leafSum s (j : Int)
theorem sums_succ (s : Sta) (i : Nat) : sums s (i + 1) = sums s i ++ [leafSum s (i : Int)] := by simp [sums,List.range_succ]
theorem sums_len (s : Sta) (i : Nat) : (sums s i).length = i := by simp [sums]
open Classical in
noncomputable def treeF (s : Sta) : Tr := if stateOk s then ⟨sums s 4,rootF (sums s 4)⟩ else ⟨[],0⟩
theorem ac_impl_TreeOf (s : SV) (st : St) (hR : RdS st s) (hb : bigS s.x) : C 54 [.agg #[vS s.p s.x.items.length,vS s.q s.x.floors.length]] st (fun v s' => ∃ u : TV,v = .agg #[vS u.p u.l.length,vI u.root] ∧ u.x = treeF s.x ∧ OwnR s' 1 fI u.p u.l ∧ New st.next u.p ∧ Pres st s') := by
 refine AC.enterX (i := ⟨[1,2,3],[1,2,3,14,21,22,25],[0,1,2,3,4,8,11],[]⟩) [(7,[4,5],[1])] Tryz.func54 rfl rfl (by kernel_rfl) (by kernel_rfl) Tryz.ntmps54 (Lb rfl) rfl ?_
 iterate 2 refine ⟨_,rfl,?_⟩
 refine Cm 2 st [Ml 1 0,Ml 2 1] [(1,0,cSV s),(2,1,[Sn,vI 0])] fun _ _ => ?_
 iterate 2 refine ⟨_,rfl,?_⟩
 refine ⟨_,Os rfl,?_⟩
 refine Cm 3 st [Ml 1 0,Ml 2 1,Ml 3 2] [(1,0,cSV s),(2,1,[Sn,vI 0]),(3,2,[Sn,vI 0])] fun _ _ => ?_
 refine ⟨_,Od rfl,?_⟩
 refine ⟨_,rfl,(ac_impl_StateOk s st hR (by first | assumption | omega)).mono ?_⟩
 rintro _ st ⟨x7,rfl,h7,rfl⟩
 rcases x7 with _|_
 ·replace h7 := fun k => Bool.false_ne_true (h7.2 k)
  refine ⟨_,rfl,?_⟩
  refine Cm 3 st [Ml 1 0,Ml 2 1,Ml 3 2,(8,vB true)] [(1,0,cSV s),(2,1,[Sn,vI 0]),(3,2,[Sn,vI 0])] fun _ _ => ?_
  refine ⟨_,Od rfl,?_⟩
  refine ⟨_,Os rfl,?_⟩
  exact cxs (Rt ⟨⟨⟨none,[]⟩,0⟩,rfl,by rw [treeF,if_neg h7],OwnR.nil,New.none,Pres.refl _⟩)
 ·replace h7 := h7.1 rfl
  refine ⟨_,rfl,?_⟩
  refine Cm 3 st [Ml 1 0,Ml 2 1,Ml 3 2,(8,vB false)] [(1,0,cSV s),(2,1,[Sn,vI 0]),(3,2,[Sn,vI 0])] fun _ _ => ?_
  refine cxs ?_
  refine Cm 3 st [Ml 1 0,Ml 2 1,Ml 3 2,(4,vI 0)] [(1,0,cSV s),(2,1,[Sn,vI 0]),(3,2,[Sn,vI 0])] fun _ _ => ?_
  refine AW.loopM (fun x : Nat × Option Addr × List Int => [(1,vL 1 0 (0)),(2,vL 2 0 (1)),(3,vL 3 0 (2)),(4,vI (x.1 : Int))]) (fun x : Nat × Option Addr × List Int => [(1,0,[vS s.p s.x.items.length,vS s.q s.x.floors.length]),(2,1,[.slice none 0 0,vI 0]),(3,2,[vS x.2.1 x.2.2.length,vI 0])]) (fun m (x : Nat × Option Addr × List Int) st' => m = 4 - x.1 ∧ x.1 ≤ 4 ∧ x.2.2 = sums s.x x.1 ∧ OwnR st' 1 fI x.2.1 x.2.2 ∧ New st.next x.2.1 ∧ Pres st st') (0,none,[]) _ ⟨rfl,rfl,rfl,rfl,trivial⟩ ⟨rfl,rfl,rfl,trivial⟩ ⟨rfl,Nat.zero_le _,rfl,OwnR.nil,New.none,Pres.refl _⟩ ?_
  rintro m ⟨i,q,l⟩ ρ0 ff gg st' ⟨rfl,hi,hv,hO,hN,hP⟩
  simp only at hi hv hO hN
  have hl : l.length = i := by rw [hv,sums_len]
  refine ⟨_,rfl,?_⟩
  rintro (_|_) h11
  ·replace h11 : ¬ ((i : Int) < (4)) := of_decide_eq_false h11
   refine Cm gg st' [Ml 1 0,Ml 2 1,Ml 3 2,(4,vI (i : Int)),(11,vB false)] [(1,0,cSV s),(2,1,[Sn,vI 0]),(3,2,[vS q l.length,vI 0])] fun _ _ => ?_
   refine cxs ?_
   refine ⟨_,rfl,?_⟩
   refine ⟨_,Od rfl,?_⟩
   have hv4 : l = sums s.x 4 := by rw [hv,show i = 4 by omega]
   have hsl : szOk l.length := by unfold szOk; omega
   refine ⟨_,rfl,(ac_impl_rootOf q l st' (hO.rows fI_len) (by first | assumption | omega)).mono ?_⟩
   rintro _ s24 ⟨rfl,hP24⟩
   refine ⟨_,rfl,?_⟩
   refine ⟨_,Os rfl,?_⟩
   refine Cm gg s24 [Ml 2 1,Ml 3 2] [(2,1,[Sn,vI 0]),(3,2,[vS q l.length,vI (rootF l)])] fun _ _ => ?_
   refine ⟨_,Od rfl,?_⟩
   refine ⟨_,Os rfl,?_⟩
   exact cxs (Rt ⟨⟨⟨q,l⟩,rootF l⟩,rfl,by rw [treeF,if_pos h7,← hv4],hP24.ownR hO,hN,hP.trans hP24⟩)
  ·replace h11 : (i : Int) < (4) := of_decide_eq_true h11
   refine Cm gg st' [Ml 1 0,Ml 2 1,Ml 3 2,(4,vI (i : Int)),(11,vB true)] [(1,0,cSV s),(2,1,[Sn,vI 0]),(3,2,[vS q l.length,vI 0])] fun _ _ => ?_
   refine cxs ?_
   refine ⟨_,rfl,?_⟩
   refine ⟨_,Od rfl,?_⟩
   refine ⟨ld_own rfl rfl rfl,?_⟩
   refine ⟨_,Od rfl,?_⟩
   refine ⟨_,rfl,(ac_impl_LeafSum s (i : Int) st' (hR.pres hP) (by first | assumption | omega)).mono ?_⟩
   rintro _ s18 ⟨rfl,hP18⟩
   refine ⟨hP18.2,?_⟩
   refine op_one (z := 1) (a := ((leafSum s.x (i : Int)) : Int)) (f := fI) rfl rfl rfl rfl rfl (by decide) rfl (Lb rfl) rfl rfl rfl ?_
   refine ⟨Pres.push.low hP18,?_⟩
   refine op_snoc (z := 1) (st := s18) (f := fI) (b := 8) (l := l) (x := leafSum s.x (i : Int)) rfl rfl rfl rfl rfl rfl rfl (by decide) fI_len rfl rfl rfl (by omega) (by unfold maxLen; omega) (hP18.ownR hO) ?_
   intro q20 s20 hO20 hP20 hN20
   refine ⟨_,rfl,?_⟩
   refine ⟨_,Os rfl,?_⟩
   refine Cm gg s20 [Ml 1 0,Ml 2 1,Ml 3 2,(4,vI (i : Int)),(11,vB true)] [(1,0,cSV s),(2,1,[Sn,vI 0]),(3,2,[vS q20 (l ++ [leafSum s.x (i : Int)]).length,vI 0])] fun _ _ => ?_
   have ew13 : IntKind.wrap .i64 ((i : Int) + (1)) = ((i + 1 : Nat) : Int) := (wrap_i64 (by omega) (by omega)).trans (by omega)
   refine ⟨_,rfl,?_⟩
   exact ⟨(i + 1,q20,l ++ [leafSum s.x (i : Int)]),4 - (i + 1),by omega,⟨rfl,rfl,rfl,congrArg (Value.int .i64) ew13,trivial⟩,⟨rfl,rfl,rfl,trivial⟩,rfl,by simp only; omega,by simp only; rw [sums_succ,← hv],hO20,hN20.le (hP.trans hP18).1,hP20.pres (hP.trans hP18) hN⟩
theorem ac_spec_TreeOf (s : SV) (st : St) (hR : RdS st s) (hb : bigS s.x) : C 74 [.agg #[vS s.p s.x.items.length,vS s.q s.x.floors.length]] st (fun v s' => ∃ u : TV,v = .agg #[vS u.p u.l.length,vI u.root] ∧ u.x = treeF s.x ∧ OwnR s' 1 fI u.p u.l ∧ New st.next u.p ∧ Pres st s') := by
 refine AC.enterX (i := ⟨[1,2,3],[1,2,3,14,21,22,25],[0,1,2,3,4,7,11],[]⟩) [(7,[4,5],[1])] Tryz.func74 rfl rfl (by kernel_rfl) (by kernel_rfl) Tryz.ntmps74 (Lb rfl) rfl ?_
 iterate 2 refine ⟨_,rfl,?_⟩
 refine Cm 2 st [Ml 1 0,Ml 2 1] [(1,0,cSV s),(2,1,[Sn,vI 0])] fun _ _ => ?_
 refine ⟨_,Od rfl,?_⟩
 refine ⟨_,rfl,(ac_spec_StateOk s st hR (by first | assumption | omega)).mono ?_⟩
 rintro _ st ⟨x6,rfl,h6,rfl⟩
 rcases x6 with _|_
 ·replace h6 := fun k => Bool.false_ne_true (h6.2 k)
  refine ⟨_,rfl,?_⟩
  refine Cm 2 st [Ml 1 0,Ml 2 1,(7,vB true)] [(1,0,cSV s),(2,1,[Sn,vI 0])] fun _ _ => ?_
  refine ⟨_,rfl,?_⟩
  refine ⟨_,Os rfl,?_⟩
  exact cxs (Rt ⟨⟨⟨none,[]⟩,0⟩,rfl,by rw [treeF,if_neg h6],OwnR.nil,New.none,Pres.refl _⟩)
 ·replace h6 := h6.1 rfl
  refine ⟨_,rfl,?_⟩
  refine Cm 2 st [Ml 1 0,Ml 2 1,(7,vB false)] [(1,0,cSV s),(2,1,[Sn,vI 0])] fun _ _ => ?_
  refine cxs ?_
  iterate 2 refine ⟨_,rfl,?_⟩
  refine ⟨_,Os rfl,?_⟩
  refine cxs ?_
  refine Cm 3 st [Ml 1 0,Ml 2 1,Ml 3 2,(4,vI 0)] [(1,0,cSV s),(2,1,[Sn,vI 0]),(3,2,[Sn,vI 0])] fun _ _ => ?_
  refine AW.loopM (fun x : Nat × Option Addr × List Int => [(1,vL 1 0 (0)),(2,vL 2 0 (1)),(3,vL 3 0 (2)),(4,vI (x.1 : Int))]) (fun x : Nat × Option Addr × List Int => [(1,0,[vS s.p s.x.items.length,vS s.q s.x.floors.length]),(2,1,[.slice none 0 0,vI 0]),(3,2,[vS x.2.1 x.2.2.length,vI 0])]) (fun m (x : Nat × Option Addr × List Int) st' => m = 4 - x.1 ∧ x.1 ≤ 4 ∧ x.2.2 = sums s.x x.1 ∧ OwnR st' 1 fI x.2.1 x.2.2 ∧ New st.next x.2.1 ∧ Pres st st') (0,none,[]) _ ⟨rfl,rfl,rfl,rfl,trivial⟩ ⟨rfl,rfl,rfl,trivial⟩ ⟨rfl,Nat.zero_le _,rfl,OwnR.nil,New.none,Pres.refl _⟩ ?_
  rintro m ⟨i,q,l⟩ ρ0 ff gg st' ⟨rfl,hi,hv,hO,hN,hP⟩
  simp only at hi hv hO hN
  have hl : l.length = i := by rw [hv,sums_len]
  refine ⟨_,rfl,?_⟩
  rintro (_|_) h11
  ·replace h11 : ¬ ((i : Int) < (4)) := of_decide_eq_false h11
   refine Cm gg st' [Ml 1 0,Ml 2 1,Ml 3 2,(4,vI (i : Int)),(11,vB false)] [(1,0,cSV s),(2,1,[Sn,vI 0]),(3,2,[vS q l.length,vI 0])] fun _ _ => ?_
   refine cxs ?_
   refine ⟨_,rfl,?_⟩
   refine ⟨_,Od rfl,?_⟩
   have hv4 : l = sums s.x 4 := by rw [hv,show i = 4 by omega]
   have hsl : szOk l.length := by unfold szOk; omega
   refine ⟨_,rfl,(ac_spec_l6Root q l st' (hO.rows fI_len) (by first | assumption | omega)).mono ?_⟩
   rintro _ s24 ⟨rfl,hP24⟩
   refine ⟨_,rfl,?_⟩
   refine ⟨_,Os rfl,?_⟩
   refine Cm gg s24 [Ml 2 1,Ml 3 2] [(2,1,[Sn,vI 0]),(3,2,[vS q l.length,vI (rootF l)])] fun _ _ => ?_
   refine ⟨_,Od rfl,?_⟩
   refine ⟨_,Os rfl,?_⟩
   exact cxs (Rt ⟨⟨⟨q,l⟩,rootF l⟩,rfl,by rw [treeF,if_pos h6,← hv4],hP24.ownR hO,hN,hP.trans hP24⟩)
  ·replace h11 : (i : Int) < (4) := of_decide_eq_true h11
   refine Cm gg st' [Ml 1 0,Ml 2 1,Ml 3 2,(4,vI (i : Int)),(11,vB true)] [(1,0,cSV s),(2,1,[Sn,vI 0]),(3,2,[vS q l.length,vI 0])] fun _ _ => ?_
   refine cxs ?_
   refine ⟨_,rfl,?_⟩
   refine ⟨_,Od rfl,?_⟩
   refine ⟨ld_own rfl rfl rfl,?_⟩
   refine ⟨_,Od rfl,?_⟩
   refine ⟨_,rfl,(ac_spec_LeafSum s (i : Int) st' (hR.pres hP) (by first | assumption | omega)).mono ?_⟩
   rintro _ s18 ⟨rfl,hP18⟩
   refine ⟨hP18.2,?_⟩
   refine op_one (z := 1) (a := ((leafSum s.x (i : Int)) : Int)) (f := fI) rfl rfl rfl rfl rfl (by decide) rfl (Lb rfl) rfl rfl rfl ?_
   refine ⟨Pres.push.low hP18,?_⟩
   refine op_snoc (z := 1) (st := s18) (f := fI) (b := 8) (l := l) (x := leafSum s.x (i : Int)) rfl rfl rfl rfl rfl rfl rfl (by decide) fI_len rfl rfl rfl (by omega) (by unfold maxLen; omega) (hP18.ownR hO) ?_
   intro q20 s20 hO20 hP20 hN20
   refine ⟨_,rfl,?_⟩
   refine ⟨_,Os rfl,?_⟩
   refine Cm gg s20 [Ml 1 0,Ml 2 1,Ml 3 2,(4,vI (i : Int)),(11,vB true)] [(1,0,cSV s),(2,1,[Sn,vI 0]),(3,2,[vS q20 (l ++ [leafSum s.x (i : Int)]).length,vI 0])] fun _ _ => ?_
   have ew13 : IntKind.wrap .i64 ((i : Int) + (1)) = ((i + 1 : Nat) : Int) := (wrap_i64 (by omega) (by omega)).trans (by omega)
   refine ⟨_,rfl,?_⟩
   exact ⟨(i + 1,q20,l ++ [leafSum s.x (i : Int)]),4 - (i + 1),by omega,⟨rfl,rfl,rfl,congrArg (Value.int .i64) ew13,trivial⟩,⟨rfl,rfl,rfl,trivial⟩,rfl,by simp only; omega,by simp only; rw [sums_succ,← hv],hO20,hN20.le (hP.trans hP18).1,hP20.pres (hP.trans hP18) hN⟩
theorem ac_laws_toIntSU (g : RV) (st : St) (hR : Rows st 1 fI g.p g.l) (hb : szOk g.l.length) : C 114 [vS g.p g.l.length] st (fun v s => ∃ u : RV,v = vS u.p u.l.length ∧ u.l = g.l ∧ Frs st s (pcIs u)) :=
 (uc_toIntS g st hR hb).mono fun v s ⟨u,h1,h2,h3,h4,h5⟩ => ⟨u,h1,h2,h3,h4,h5⟩
theorem ac_laws_eqIntSR (p q : Option Addr) (a b : List Int) (st : St) (hA : Rows st 1 fI p a) (hB : Rows st 1 fI q b) (hs : szOk a.length) : C 120 [vS p a.length,vS q b.length] st (fun v s => ∃ x,v = .bool x ∧ (x = true ↔ a = b) ∧ s = st) := by
 have hs : a.length ≤ 1048576 := hs
 refine AC.enterX (i := ⟨[],[],[0,1,4,5,10,14,25],[]⟩) [(6,[],[])] Tryz.func120 rfl rfl (by kernel_rfl) (by kernel_rfl) Tryz.ntmps120 (Lb rfl) rfl ?_
 refine Cu lo0 st [(0,vS p a.length),(1,vS q b.length),(4,vB false)] fun _ => ?_
 iterate 3 refine ⟨_,rfl,?_⟩
 rintro (_|_) h10
 ·replace h10 : (a.length : Int) = (b.length : Int) := bne_eq_false_iff_eq.1 h10
  refine Cu lo0 st [(0,vS p a.length),(1,vS q b.length),(4,vB false),(10,vB false)] fun _ => ?_
  refine cxs ?_
  refine Cu lo0 st [(0,vS p a.length),(1,vS q b.length),(4,vB false),(5,vI 0)] fun _ => ?_
  refine AW.loop0 (fun i : Nat => [(0,vS p a.length),(1,vS q b.length),(5,vI (i : Int))]) (fun m (i : Nat) st' => m = a.length - i ∧ i ≤ a.length ∧ (∀ (j : Nat) x y,j < i → a[j]? = some x → b[j]? = some y → x = y) ∧ st = st') 0 _ ⟨rfl,rfl,rfl,trivial⟩ rfl ⟨rfl,Nat.zero_le _,fun j x y h => absurd h (Nat.not_lt_zero _),rfl⟩ ?_
  rintro m i ρ0 st' ⟨rfl,hi,heq,rfl⟩
  iterate 2 refine ⟨_,rfl,?_⟩
  rintro (_|_) h14
  ·replace h14 : ¬ ((i : Int) < (a.length : Int)) := of_decide_eq_false h14
   refine Cu lo0 st [(0,vS p a.length),(1,vS q b.length),(5,vI (i : Int)),(14,vB false)] fun _ => ?_
   refine cxs ?_
   exact cxs (Rt ⟨true,rfl,⟨fun _ => iff_lists (by omega) fun j x y hj hx hy => heq j x y (by omega) hx hy,fun _ => rfl⟩,rfl⟩)
  ·replace h14 : (i : Int) < (a.length : Int) := of_decide_eq_true h14
   refine Cu lo0 st [(0,vS p a.length),(1,vS q b.length),(5,vI (i : Int)),(14,vB true)] fun _ => ?_
   refine cxs ?_
   refine op_at i hA (by omega) rfl rfl rfl rfl rfl rfl rfl ?_
   intro x19 b19 d19 k19 hy19 hb19 hm19 hc19 ho19
   refine ⟨_,op_ldc (i := 0) rfl rfl rfl rfl hm19 hc19 rfl rfl,?_⟩
   refine op_at i hB (by omega) rfl rfl rfl rfl rfl rfl rfl ?_
   intro x23 b23 d23 k23 hy23 hb23 hm23 hc23 ho23
   refine ⟨_,op_ldc (i := 0) rfl rfl rfl rfl hm23 hc23 rfl rfl,?_⟩
   refine ⟨_,rfl,?_⟩
   rintro (_|_) h25
   ·replace h25 : x19 = x23 := bne_eq_false_iff_eq.1 h25
    refine Cu lo0 st [(0,vS p a.length),(1,vS q b.length),(5,vI (i : Int)),(14,vB true),(25,vB false)] fun _ => ?_
    refine cxs ?_
    have ew16 : IntKind.wrap .i64 ((i : Int) + (1)) = ((i + 1 : Nat) : Int) := (wrap_i64 (by omega) (by omega)).trans (by omega)
    refine ⟨_,rfl,?_⟩
    refine ⟨i + 1,a.length - (i + 1),by omega,⟨rfl,rfl,congrArg (Value.int .i64) ew16,trivial⟩,rfl,rfl,by omega,fun j u v hj hu hv => ?_,rfl⟩
    rcases Nat.lt_or_ge j i with h | h
    ·exact heq j u v h hu hv
    ·obtain rfl : j = i := by omega
     rw [hy19] at hu; rw [hy23] at hv
     injection hu with hu; injection hv with hv
     rw [← hu,← hv]; exact h25
   ·replace h25 : ¬ (x19 = x23) := bne_iff_ne.1 h25
    refine Cu lo0 st [(0,vS p a.length),(1,vS q b.length),(5,vI (i : Int)),(14,vB true),(25,vB true)] fun _ => ?_
    refine cxs ?_
    refine ⟨.inl rfl,_,rfl,false,rfl,⟨fun h => absurd h Bool.false_ne_true,fun h => absurd ?_ h25⟩,rfl⟩
    rw [h,hy23] at hy19
    injection hy19 with h
    exact h.symm
 ·replace h10 : ¬ ((a.length : Int) = (b.length : Int)) := bne_iff_ne.1 h10
  refine Cu lo0 st [(0,vS p a.length),(1,vS q b.length),(4,vB false),(10,vB true)] fun _ => ?_
  exact cxs (Rt ⟨false,rfl,⟨fun h => absurd h Bool.false_ne_true,fun h => absurd (congrArg (fun l : List Int => (l.length : Int)) h) h10⟩,rfl⟩)
theorem ac_laws_szTree (g : TV) (n : Int) (st : St) (h0 : 0 ≤ n) (hn : n ≤ 1048576) (hm : g.l.length ≤ maxLen) : C 105 [.agg #[vS g.p g.l.length,vI g.root],vI n] st (fun v s => ∃ r,v = vI r ∧ r ≤ n ∧ (0 ≤ r → r + (g.l.length : Int) = n) ∧ s = st) := by
 refine AC.enterX (i := ⟨[2],[2,5],[0,1,2,4,10],[]⟩) [] Tryz.func105 rfl rfl (by kernel_rfl) (by kernel_rfl) Tryz.ntmps105 (Lb rfl) rfl ?_
 refine ⟨_,rfl,?_⟩
 refine Cm 1 st [(1,vI n),Ml 2 0,(4,vI 0)] [(2,0,[vS g.p g.l.length,vI g.root])] fun _ _ => ?_
 refine ⟨_,rfl,?_⟩
 refine ⟨_,Od rfl,?_⟩
 refine ⟨_,rfl,(ac_laws_szIntS g.p g.l n st (by first | assumption | omega) (by first | assumption | omega) (by first | assumption | omega)).mono ?_⟩
 rintro _ st ⟨r8,rfl,h8,h8',rfl⟩
 refine Cm 1 st [(1,vI r8),(4,vI 0)] [] fun _ _ => ?_
 refine ⟨_,rfl,?_⟩
 rintro (_|_) h10
 ·replace h10 : ¬ (r8 < (0)) := of_decide_eq_false h10
  refine Cm 1 st [(1,vI r8),(4,vI 0),(10,vB false)] [] fun _ _ => ?_
  refine cxs ?_
  exact cxs (Rt ⟨r8,rfl,by omega,fun h => by have i8 := h8' (by omega); omega,rfl⟩)
 ·replace h10 : r8 < (0) := of_decide_eq_true h10
  refine Cm 1 st [(1,vI r8),(4,vI 0),(10,vB true)] [] fun _ _ => ?_
  exact cxs (Rt ⟨-1,rfl,by omega,fun h => absurd h (by omega),rfl⟩)
theorem ac_laws_toTree (g : TV) (st : St) (hR : Rows st 1 fI g.p g.l) (hb : szOk g.l.length) : C 112 [.agg #[vS g.p g.l.length,vI g.root]] st (fun v s => ∃ u : TV,v = .agg #[vS u.p u.l.length,vI u.root] ∧ u.x = g.x ∧ Frs st s (pcIs u.toRV)) := by
 refine AC.enterX (i := ⟨[1,2,3],[1,2,3,4,7,8,10],[0,1,2,3],[]⟩) [] Tryz.func112 rfl rfl (by kernel_rfl) (by kernel_rfl) Tryz.ntmps112 (Lb rfl) rfl ?_
 iterate 2 refine ⟨_,rfl,?_⟩
 refine Cm 2 st [Ml 1 0,Ml 2 1] [(1,0,[vS g.p g.l.length,vI g.root]),(2,1,[Sn,vI 0])] fun _ _ => ?_
 refine ⟨_,rfl,?_⟩
 refine Cm 3 st [Ml 1 0,Ml 2 1,Ml 3 2] [(1,0,[vS g.p g.l.length,vI g.root]),(2,1,[Sn,vI 0]),(3,2,[Sn,vI 0])] fun _ _ => ?_
 refine ⟨_,rfl,?_⟩
 refine ⟨_,Od rfl,?_⟩
 refine ⟨_,rfl,(ac_laws_toIntSU g.toRV st hR hb).mono ?_⟩
 rintro _ s6 ⟨u6,rfl,h6,hF6⟩
 refine ⟨_,rfl,?_⟩
 refine ⟨_,Os rfl,?_⟩
 refine Cm 3 s6 [Ml 1 0,Ml 2 1,Ml 3 2] [(1,0,[vS g.p g.l.length,vI g.root]),(2,1,[Sn,vI 0]),(3,2,[vS u6.p u6.l.length,vI 0])] fun _ _ => ?_
 refine ⟨_,rfl,?_⟩
 refine ⟨_,Od rfl,?_⟩
 refine ⟨_,rfl,?_⟩
 refine ⟨_,Os rfl,?_⟩
 refine Cm 3 s6 [Ml 2 1,Ml 3 2] [(2,1,[Sn,vI 0]),(3,2,[vS u6.p u6.l.length,vI g.root])] fun _ _ => ?_
 refine ⟨_,Od rfl,?_⟩
 refine ⟨_,Os rfl,?_⟩
 exact cxs (Rt ⟨⟨u6,g.root⟩,rfl,by simp only [TV.x,h6],hF6⟩)
theorem ac_laws_eqTree (a b : TV) (st : St) (hA : Rows st 1 fI a.p a.l) (hB : Rows st 1 fI b.p b.l) (hb : szOk a.l.length) : C 118 [.agg #[vS a.p a.l.length,vI a.root],.agg #[vS b.p b.l.length,vI b.root]] st (fun v s => ∃ x,v = .bool x ∧ (x = true ↔ a.x = b.x) ∧ s = st) := by
 refine AC.enterX (i := ⟨[2,3],[2,3,5,7,11,13],[0,1,2,3,4,10,15],[]⟩) [] Tryz.func118 rfl rfl (by kernel_rfl) (by kernel_rfl) Tryz.ntmps118 (Lb rfl) rfl ?_
 iterate 2 refine ⟨_,rfl,?_⟩
 refine Cm 2 st [Ml 2 0,Ml 3 1,(4,vB false)] [(2,0,[vS a.p a.l.length,vI a.root]),(3,1,[vS b.p b.l.length,vI b.root])] fun _ _ => ?_
 refine ⟨_,rfl,?_⟩
 refine ⟨_,Od rfl,?_⟩
 refine ⟨_,rfl,?_⟩
 refine ⟨_,Od rfl,?_⟩
 refine ⟨_,rfl,(ac_laws_eqIntSR a.p b.p a.l b.l st hA hB hb).mono ?_⟩
 rintro _ st ⟨x9,rfl,h9,rfl⟩
 rcases x9 with _|_
 ·replace h9 := fun k => Bool.false_ne_true (h9.2 k)
  refine ⟨_,rfl,?_⟩
  refine Cm 2 st [Ml 2 0,Ml 3 1,(4,vB false),(10,vB true)] [(2,0,[vS a.p a.l.length,vI a.root]),(3,1,[vS b.p b.l.length,vI b.root])] fun _ _ => ?_
  exact cxs (Rt ⟨false,rfl,⟨fun h => absurd h Bool.false_ne_true,fun h => (show False from (absurd (congrArg Tr.leaves h) h9)).elim⟩,rfl⟩)
 ·replace h9 := h9.1 rfl
  refine ⟨_,rfl,?_⟩
  refine Cm 2 st [Ml 2 0,Ml 3 1,(4,vB false),(10,vB false)] [(2,0,[vS a.p a.l.length,vI a.root]),(3,1,[vS b.p b.l.length,vI b.root])] fun _ _ => ?_
  refine cxs ?_
  refine ⟨_,rfl,?_⟩
  refine ⟨_,Od rfl,?_⟩
  refine ⟨_,rfl,?_⟩
  refine ⟨_,Od rfl,?_⟩
  refine ⟨_,rfl,?_⟩
  rintro (_|_) h15
  ·replace h15 : a.root = b.root := bne_eq_false_iff_eq.1 h15
   refine Cm 2 st [(4,vB false),(15,vB false)] [] fun _ _ => ?_
   refine cxs ?_
   exact cxs (Rt ⟨true,rfl,⟨fun _ => by simp only [TV.x,h9,h15],fun _ => rfl⟩,rfl⟩)
  ·replace h15 : ¬ (a.root = b.root) := bne_iff_ne.1 h15
   refine Cm 2 st [(4,vB false),(15,vB true)] [] fun _ _ => ?_
   exact cxs (Rt ⟨false,rfl,⟨fun h => absurd h Bool.false_ne_true,fun h => (show False from (absurd (congrArg Tr.root h) h15)).elim⟩,rfl⟩)
open Classical in
noncomputable def logSeq (g : Lg) : Int := if logOk g then g.frm + (g.list.length : Int) else 0
theorem ac_spec_LogSeq (g : LV) (st : St) (hR : RdL st g.p g.l) (hb : bigL g.l) : C 77 [.agg #[vI g.cap,vI g.frm,vS g.p g.l.length]] st (fun v s => v = vI (logSeq g.x) ∧ s = st) := by
 refine AC.enterX (i := ⟨[1],[1,6,8],[0,1,2,5],[]⟩) [] Tryz.func77 rfl rfl (by kernel_rfl) (by kernel_rfl) Tryz.ntmps77 (Lb rfl) rfl ?_
 refine ⟨_,rfl,?_⟩
 refine Cm 1 st [Ml 1 0,(2,vI 0)] [(1,0,[vI g.cap,vI g.frm,vS g.p g.l.length])] fun _ _ => ?_
 refine ⟨_,rfl,?_⟩
 refine ⟨_,rfl,(ac_spec_LogOk g st hR hb).mono ?_⟩
 rintro _ st ⟨a,rfl,hk,rfl⟩
 rcases a with _|_
 ·replace hk := fun k => Bool.false_ne_true (hk.2 k)
  refine ⟨_,rfl,?_⟩
  refine Cm 1 st [Ml 1 0,(2,vI 0),(5,vB true)] [(1,0,[vI g.cap,vI g.frm,vS g.p g.l.length])] fun _ _ => ?_
  exact cxs (Rt ⟨congrArg vI (by rw [logSeq,if_neg hk]),rfl⟩)
 ·replace hk := hk.1 rfl
  refine ⟨_,rfl,?_⟩
  refine Cm 1 st [Ml 1 0,(2,vI 0),(5,vB false)] [(1,0,[vI g.cap,vI g.frm,vS g.p g.l.length])] fun _ _ => ?_
  refine cxs ?_
  iterate 5 refine ⟨_,rfl,?_⟩
  have hgl : g.x.list.length = g.l.length := List.length_map _
  have hk2 : (g.l.length : Int) ≤ g.cap := by have h := hk.2.1; rw [hgl] at h; exact h
  have hk3 : 0 ≤ g.frm ∧ g.frm ≤ 100000 := hk.2.2.1
  have hk4 : 1 ≤ g.cap ∧ g.cap ≤ 8 := hk.1
  have e11 : IntKind.wrap .i64 (g.frm + (g.l.length : Int)) = g.frm + (g.l.length : Int) := wrap_i64 (by omega) (by omega)
  refine ⟨_,rfl,?_⟩
  exact cxs (Rt ⟨(show vI (IntKind.wrap .i64 (g.frm + (g.l.length : Int))) = _ by rw [e11,logSeq,if_pos hk,hgl]),rfl⟩)
theorem ac_impl_LogSeq (g : LV) (st : St) (hR : RdL st g.p g.l) (hb : bigL g.l) : C 32 [.agg #[vI g.cap,vI g.frm,vS g.p g.l.length]] st (fun v s => v = vI (logSeq g.x) ∧ s = st) := by
 refine AC.enterX (i := ⟨[1],[1,6,8],[0,1,2,5],[]⟩) [] Tryz.func32 rfl rfl (by kernel_rfl) (by kernel_rfl) Tryz.ntmps32 (Lb rfl) rfl ?_
 refine ⟨_,rfl,?_⟩
 refine Cm 1 st [Ml 1 0,(2,vI 0)] [(1,0,[vI g.cap,vI g.frm,vS g.p g.l.length])] fun _ _ => ?_
 refine ⟨_,rfl,?_⟩
 refine ⟨_,rfl,(ac_impl_LogOk g st hR hb).mono ?_⟩
 rintro _ st ⟨a,rfl,hk,rfl⟩
 rcases a with _|_
 ·replace hk := fun k => Bool.false_ne_true (hk.2 k)
  refine ⟨_,rfl,?_⟩
  refine Cm 1 st [Ml 1 0,(2,vI 0),(5,vB true)] [(1,0,[vI g.cap,vI g.frm,vS g.p g.l.length])] fun _ _ => ?_
  exact cxs (Rt ⟨congrArg vI (by rw [logSeq,if_neg hk]),rfl⟩)
 ·replace hk := hk.1 rfl
  refine ⟨_,rfl,?_⟩
  refine Cm 1 st [Ml 1 0,(2,vI 0),(5,vB false)] [(1,0,[vI g.cap,vI g.frm,vS g.p g.l.length])] fun _ _ => ?_
  refine cxs ?_
  iterate 5 refine ⟨_,rfl,?_⟩
  have hgl : g.x.list.length = g.l.length := List.length_map _
  have hk2 : (g.l.length : Int) ≤ g.cap := by have h := hk.2.1; rw [hgl] at h; exact h
  have hk3 : 0 ≤ g.frm ∧ g.frm ≤ 100000 := hk.2.2.1
  have hk4 : 1 ≤ g.cap ∧ g.cap ≤ 8 := hk.1
  have e11 : IntKind.wrap .i64 (g.frm + (g.l.length : Int)) = g.frm + (g.l.length : Int) := wrap_i64 (by omega) (by omega)
  refine ⟨_,rfl,?_⟩
  exact cxs (Rt ⟨(show vI (IntKind.wrap .i64 (g.frm + (g.l.length : Int))) = _ by rw [e11,logSeq,if_pos hk,hgl]),rfl⟩)
theorem pcL_nil {st : St} : OwnP st (pcL none []) := OwnP.one (.inl ⟨rfl,rfl⟩)
theorem newL_nil {n : Nat} : NewP n (pcL none []) := NewP.cons New.none NewP.nil
theorem pcL_snoc {st s1 s2 : St} {q q2 : Option Addr} {l : List SV} {u : SV} (h : OwnP st (pcL q l)) (hp : Pres st s1) (hu : OwnP s1 (pcS u)) (hn : NewP st.next (pcS u)) (hP : Pr q s1 s2) (ho : OwnR s2 2 cSV q2 (l ++ [u])) (hn2 : New s1.next q2) : OwnP s2 (pcL q2 (l ++ [u])) := by
 have h1 : OwnP s1 (pcR 2 cSV q l :: (l.flatMap pcS ++ pcS u)) := h.join hp hu hn
 have h2 : OwnP s2 (pcR 2 cSV q2 (l ++ [u]) :: (l.flatMap pcS ++ pcS u)) := OwnP.renew (l := []) h1 hP (own_pc ho) hn2
 show OwnP s2 (pcR 2 cSV q2 (l ++ [u]) :: (l ++ [u]).flatMap pcS)
 rw [List.flatMap_append,List.flatMap_singleton]
 exact h2
theorem newL_snoc {n : Nat} {q q2 : Option Addr} {l : List SV} {u : SV} (h : NewP n (pcL q l)) (hn : NewP n (pcS u)) (hn2 : New n q2) : NewP n (pcL q2 (l ++ [u])) := by
 show NewP n (pcR 2 cSV q2 (l ++ [u]) :: (l ++ [u]).flatMap pcS)
 rw [List.flatMap_append,List.flatMap_singleton]
 exact NewP.cons hn2 (NewP.app (fun c hc => h c (List.mem_cons_of_mem _ hc)) hn)
theorem newL_p {n : Nat} {q : Option Addr} {l : List SV} (h : NewP n (pcL q l)) : New n q := h _ (List.mem_cons_self ..)
theorem ac_impl_copyLog (g : LV) (st : St) (hR : RdL st g.p g.l) (hb : bigL g.l) : C 148 [.agg #[vI g.cap,vI g.frm,vS g.p g.l.length]] st (fun v s => ∃ u : LV,v = .agg #[vI u.cap,vI u.frm,vS u.p u.l.length] ∧ u.x = g.x ∧ OwnP s (pcL u.p u.l) ∧ NewP st.next (pcL u.p u.l) ∧ Pres st s) := by
 have hs : g.l.length ≤ 1048576 := hb.1
 refine AC.enterX (i := ⟨[1,2,3,5],[1,2,3,5,6,8,11,18,24],[0,1,2,3,5,12,13,14,15],[]⟩) [(5,[3,4],[1])] Tryz.func148 rfl rfl (by kernel_rfl) (by kernel_rfl) Tryz.ntmps148 (Lb rfl) rfl ?_
 iterate 2 refine ⟨_,rfl,?_⟩
 refine Cm 2 st [Ml 1 0,Ml 2 1] [(1,0,[vI g.cap,vI g.frm,vS g.p g.l.length]),(2,1,[vI 0,vI 0,Sn])] fun _ _ => ?_
 refine ⟨_,rfl,?_⟩
 refine ⟨_,Od rfl,?_⟩
 refine ⟨_,rfl,?_⟩
 refine ⟨_,Od rfl,?_⟩
 iterate 2 refine ⟨_,rfl,?_⟩
 refine ⟨_,Os rfl,?_⟩
 refine Cm 3 st [Ml 1 0,Ml 2 1,Ml 3 2] [(1,0,[vI g.cap,vI g.frm,vS g.p g.l.length]),(2,1,[vI 0,vI 0,Sn]),(3,2,[vI g.cap,vI g.frm,Sn])] fun _ _ => ?_
 refine ⟨_,rfl,?_⟩
 refine ⟨_,Od rfl,?_⟩
 refine ⟨_,rfl,?_⟩
 refine Cm 3 st [Ml 2 1,Ml 3 2,(12,vS g.p g.l.length),(13,vI (g.l.length : Int)),(14,vI 0)] [(2,1,[vI 0,vI 0,Sn]),(3,2,[vI g.cap,vI g.frm,Sn])] fun _ _ => ?_
 refine AW.loopM (fun x : Nat × Option Addr × List SV => [(2,vL 2 0 (1)),(3,vL 3 0 (2)),(12,vS g.p g.l.length),(13,vI (g.l.length : Int)),(14,vI (x.1 : Int))]) (fun x : Nat × Option Addr × List SV => [(2,1,[vI 0,vI 0,.slice none 0 0]),(3,2,[vI g.cap,vI g.frm,vS x.2.1 x.2.2.length])]) (fun m (x : Nat × Option Addr × List SV) st' => m = g.l.length - x.1 ∧ x.1 ≤ g.l.length ∧ x.2.2.map (·.x) = (g.l.take x.1).map (·.x) ∧ OwnP st' (pcL x.2.1 x.2.2) ∧ NewP st.next (pcL x.2.1 x.2.2) ∧ Pres st st') (0,none,[]) _ ⟨rfl,rfl,rfl,rfl,rfl,trivial⟩ ⟨rfl,rfl,trivial⟩ ⟨rfl,Nat.zero_le _,rfl,pcL_nil,newL_nil,Pres.refl _⟩ ?_
 rintro m ⟨i,q,l⟩ ρ0 ff gg st' ⟨rfl,hi,hl,hO,hN,hP⟩
 simp only at hi hl hO hN
 have hll : l.length = i := by have := congrArg List.length hl; simp at this; omega
 refine ⟨_,rfl,?_⟩
 rintro (_|_) h15
 ·replace h15 : ¬ ((i : Int) < (g.l.length : Int)) := of_decide_eq_false h15
  refine Cm gg st' [Ml 2 1,Ml 3 2,(12,vS g.p g.l.length),(13,vI (g.l.length : Int)),(14,vI (i : Int)),(15,vB false)] [(2,1,[vI 0,vI 0,Sn]),(3,2,[vI g.cap,vI g.frm,vS q l.length])] fun _ _ => ?_
  refine cxs ?_
  refine ⟨_,Od rfl,?_⟩
  refine ⟨_,Os rfl,?_⟩
  refine cxs ?_
  have hil : i = g.l.length := by omega
  exact Rt ⟨⟨g.cap,g.frm,q,l⟩,rfl,by simp only [LV.x,hl,hil,List.take_length],hO,hN,hP⟩
 ·replace h15 : (i : Int) < (g.l.length : Int) := of_decide_eq_true h15
  refine Cm gg st' [Ml 2 1,Ml 3 2,(12,vS g.p g.l.length),(13,vI (g.l.length : Int)),(14,vI (i : Int)),(15,vB true)] [(2,1,[vI 0,vI 0,Sn]),(3,2,[vI g.cap,vI g.frm,vS q l.length])] fun _ _ => ?_
  refine cxs ?_
  refine op_at i (hP.rows hR.1) (by omega) rfl rfl rfl rfl rfl rfl rfl ?_
  intro x16 b16 d16 k16 hy16 hb16 hm16 hc16 ho16
  refine ⟨_,op_lda rfl rfl rfl rfl rfl hm16 hc16 rfl,?_⟩
  refine ⟨_,rfl,?_⟩
  refine ⟨_,Os rfl,?_⟩
  refine Cm (gg + 1) st' [Ml 2 1,Ml 3 2,Ml 5 gg,(12,vS g.p g.l.length),(13,vI (g.l.length : Int)),(14,vI (i : Int)),(15,vB true)] [(2,1,[vI 0,vI 0,Sn]),(3,2,[vI g.cap,vI g.frm,vS q l.length]),(5,gg,cSV x16)] fun _ _ => ?_
  refine ⟨_,rfl,?_⟩
  refine ⟨_,Od rfl,?_⟩
  refine ⟨ld_own rfl rfl rfl,?_⟩
  refine ⟨_,Od rfl,?_⟩
  refine ⟨_,rfl,(ac_impl_copyState x16 st' ((hR.2 x16 (List.mem_of_getElem? hy16)).pres hP) (hb.2 x16 (List.mem_of_getElem? hy16))).mono ?_⟩
  rintro _ s21 ⟨u21,rfl,h21,hO21,hN21,hP21⟩
  refine ⟨hP21.2,?_⟩
  refine op_one (z := 2) (a := (u21 : SV)) (f := cSV) rfl rfl rfl rfl rfl (by decide) rfl (Lb rfl) rfl rfl rfl ?_
  refine ⟨Pres.push.low hP21,?_⟩
  refine op_add (z := 2) (st := s21) (f := cSV) (b := 48) (l := l) rfl rfl rfl rfl rfl rfl rfl (by decide) len_cSV rfl rfl rfl (by omega) (by unfold maxLen; omega) ((hO.pres hP21).louter) ?_
  intro q23 s23 hO23 hP23 hN23
  refine ⟨_,rfl,?_⟩
  refine ⟨_,Os rfl,?_⟩
  refine Cm (gg + 1) s23 [Ml 2 1,Ml 3 2,Ml 5 gg,(12,vS g.p g.l.length),(13,vI (g.l.length : Int)),(14,vI (i : Int)),(15,vB true)] [(2,1,[vI 0,vI 0,Sn]),(3,2,[vI g.cap,vI g.frm,vS q23 (l.length + 1)]),(5,gg,cSV x16)] fun _ _ => ?_
  have hO5 := pcL_snoc hO hP21 hO21 hN21 hP23 hO23 hN23
  have hN5 := newL_snoc hN (hN21.le hP.1) (hN23.le (hP.trans hP21).1)
  have hP5 := hP23.pres (hP.trans hP21) (newL_p hN)
  have hl5 : (l ++ [u21]).map (·.x) = (g.l.take (i + 1)).map (·.x) := by rw [(split_at' hy16).2.1,List.map_append,List.map_append,hl]; simp [h21]
  have ew25 : IntKind.wrap .i64 ((i : Int) + (1)) = ((i + 1 : Nat) : Int) := (wrap_i64 (by omega) (by omega)).trans (by omega)
  refine ⟨_,rfl,?_⟩
  exact ⟨(i + 1,q23,l ++ [u21]),g.l.length - (i + 1),by omega,⟨rfl,rfl,rfl,rfl,congrArg (Value.int .i64) ew25,trivial⟩,⟨rfl,(show some (2,[vI g.cap,vI g.frm,vS q23 (l.length + 1)]) = _ by rw [List.length_append]; rfl),trivial⟩,rfl,by omega,hl5,hO5,hN5,hP5⟩
theorem ac_spec_l7Copy (g : LV) (st : St) (hR : RdL st g.p g.l) (hb : bigL g.l) : C 158 [.agg #[vI g.cap,vI g.frm,vS g.p g.l.length]] st (fun v s => ∃ u : LV,v = .agg #[vI u.cap,vI u.frm,vS u.p u.l.length] ∧ u.x = g.x ∧ OwnP s (pcL u.p u.l) ∧ NewP st.next (pcL u.p u.l) ∧ Pres st s) := by
 have hs : g.l.length ≤ 1048576 := hb.1
 refine AC.enterX (i := ⟨[1,2,3],[1,2,3,5,7,11,17,19,27],[0,1,2,3,4,14],[]⟩) [(5,[7,8],[1])] Tryz.func158 rfl rfl (by kernel_rfl) (by kernel_rfl) Tryz.ntmps158 (Lb rfl) rfl ?_
 iterate 2 refine ⟨_,rfl,?_⟩
 refine Cm 2 st [Ml 1 0,Ml 2 1] [(1,0,[vI g.cap,vI g.frm,vS g.p g.l.length]),(2,1,[vI 0,vI 0,Sn])] fun _ _ => ?_
 refine ⟨_,rfl,?_⟩
 refine ⟨_,Od rfl,?_⟩
 refine ⟨_,rfl,?_⟩
 refine ⟨_,Od rfl,?_⟩
 iterate 2 refine ⟨_,rfl,?_⟩
 refine ⟨_,Os rfl,?_⟩
 refine cxs ?_
 refine Cm 3 st [Ml 1 0,Ml 2 1,Ml 3 2,(4,vI 0)] [(1,0,[vI g.cap,vI g.frm,vS g.p g.l.length]),(2,1,[vI 0,vI 0,Sn]),(3,2,[vI g.cap,vI g.frm,Sn])] fun _ _ => ?_
 refine AW.loopM (fun x : Nat × Option Addr × List SV => [(1,vL 1 0 (0)),(2,vL 2 0 (1)),(3,vL 3 0 (2)),(4,vI (x.1 : Int))]) (fun x : Nat × Option Addr × List SV => [(1,0,[vI g.cap,vI g.frm,vS g.p g.l.length]),(2,1,[vI 0,vI 0,.slice none 0 0]),(3,2,[vI g.cap,vI g.frm,vS x.2.1 x.2.2.length])]) (fun m (x : Nat × Option Addr × List SV) st' => m = g.l.length - x.1 ∧ x.1 ≤ g.l.length ∧ x.2.2.map (·.x) = (g.l.take x.1).map (·.x) ∧ OwnP st' (pcL x.2.1 x.2.2) ∧ NewP st.next (pcL x.2.1 x.2.2) ∧ Pres st st') (0,none,[]) _ ⟨rfl,rfl,rfl,rfl,trivial⟩ ⟨rfl,rfl,rfl,trivial⟩ ⟨rfl,Nat.zero_le _,rfl,pcL_nil,newL_nil,Pres.refl _⟩ ?_
 rintro m ⟨i,q,l⟩ ρ0 ff gg st' ⟨rfl,hi,hl,hO,hN,hP⟩
 simp only at hi hl hO hN
 have hll : l.length = i := by have := congrArg List.length hl; simp at this; omega
 refine ⟨_,rfl,?_⟩
 refine ⟨_,Od rfl,?_⟩
 iterate 2 refine ⟨_,rfl,?_⟩
 rintro (_|_) h14
 ·replace h14 : ¬ ((i : Int) < (g.l.length : Int)) := of_decide_eq_false h14
  refine Cm gg st' [Ml 1 0,Ml 2 1,Ml 3 2,(4,vI (i : Int)),(14,vB false)] [(1,0,[vI g.cap,vI g.frm,vS g.p g.l.length]),(2,1,[vI 0,vI 0,Sn]),(3,2,[vI g.cap,vI g.frm,vS q l.length])] fun _ _ => ?_
  refine cxs ?_
  refine ⟨_,Od rfl,?_⟩
  refine ⟨_,Os rfl,?_⟩
  refine cxs ?_
  have hil : i = g.l.length := by omega
  exact Rt ⟨⟨g.cap,g.frm,q,l⟩,rfl,by simp only [LV.x,hl,hil,List.take_length],hO,hN,hP⟩
 ·replace h14 : (i : Int) < (g.l.length : Int) := of_decide_eq_true h14
  refine Cm gg st' [Ml 1 0,Ml 2 1,Ml 3 2,(4,vI (i : Int)),(14,vB true)] [(1,0,[vI g.cap,vI g.frm,vS g.p g.l.length]),(2,1,[vI 0,vI 0,Sn]),(3,2,[vI g.cap,vI g.frm,vS q l.length])] fun _ _ => ?_
  refine cxs ?_
  refine ⟨_,rfl,?_⟩
  refine ⟨_,Od rfl,?_⟩
  refine ⟨ld_own rfl rfl rfl,?_⟩
  refine ⟨_,rfl,?_⟩
  refine ⟨_,Od rfl,?_⟩
  refine op_at i (hP.rows hR.1) (by omega) rfl rfl rfl rfl rfl rfl rfl ?_
  intro x22 b22 d22 k22 hy22 hb22 hm22 hc22 ho22
  refine ⟨_,op_lda rfl rfl rfl rfl rfl hm22 hc22 rfl,?_⟩
  refine ⟨_,rfl,(ac_spec_l3Copy x22 st' ((hR.2 x22 (List.mem_of_getElem? hy22)).pres hP) (hb.2 x22 (List.mem_of_getElem? hy22))).mono ?_⟩
  rintro _ s24 ⟨u24,rfl,h24,hO24,hN24,hP24⟩
  refine ⟨hP24.2,?_⟩
  refine op_one (z := 2) (a := (u24 : SV)) (f := cSV) rfl rfl rfl rfl rfl (by decide) rfl (Lb rfl) rfl rfl rfl ?_
  refine ⟨Pres.push.low hP24,?_⟩
  refine op_add (z := 2) (st := s24) (f := cSV) (b := 48) (l := l) rfl rfl rfl rfl rfl rfl rfl (by decide) len_cSV rfl rfl rfl (by omega) (by unfold maxLen; omega) ((hO.pres hP24).louter) ?_
  intro q26 s26 hO26 hP26 hN26
  refine ⟨_,rfl,?_⟩
  refine ⟨_,Os rfl,?_⟩
  refine Cm gg s26 [Ml 1 0,Ml 2 1,Ml 3 2,(4,vI (i : Int)),(14,vB true)] [(1,0,[vI g.cap,vI g.frm,vS g.p g.l.length]),(2,1,[vI 0,vI 0,Sn]),(3,2,[vI g.cap,vI g.frm,vS q26 (l.length + 1)])] fun _ _ => ?_
  have hO5 := pcL_snoc hO hP24 hO24 hN24 hP26 hO26 hN26
  have hN5 := newL_snoc hN (hN24.le hP.1) (hN26.le (hP.trans hP24).1)
  have hP5 := hP26.pres (hP.trans hP24) (newL_p hN)
  have hl5 : (l ++ [u24]).map (·.x) = (g.l.take (i + 1)).map (·.x) := by rw [(split_at' hy22).2.1,List.map_append,List.map_append,hl]; simp [h24]
  have ew16 : IntKind.wrap .i64 ((i : Int) + (1)) = ((i + 1 : Nat) : Int) := (wrap_i64 (by omega) (by omega)).trans (by omega)
  refine ⟨_,rfl,?_⟩
  exact ⟨(i + 1,q26,l ++ [u24]),g.l.length - (i + 1),by omega,⟨rfl,rfl,rfl,congrArg (Value.int .i64) ew16,trivial⟩,⟨rfl,rfl,(show some (2,[vI g.cap,vI g.frm,vS q26 (l.length + 1)]) = _ by rw [List.length_append]; rfl),trivial⟩,rfl,by omega,hl5,hO5,hN5,hP5⟩
theorem lw_drop {st : St} {q : Option Addr} {l : List SV} (h : OwnP st (pcL q l)) (cap frm : Int) (j : Nat) : ∃ w : LW,w.v = ⟨cap,frm,shO q 2 j,l.drop j⟩ ∧ OwnP st (pcLog w) ∧ ∀ n,NewP n (pcL q l) → NewP n (pcLog w) := by
 have hsub : ((pcR 2 cSV q l) :: (l.drop j).flatMap pcS).Sublist (pcL q l) := by
  refine List.Sublist.cons_cons _ ?_
  have : l.flatMap pcS = (l.take j).flatMap pcS ++ (l.drop j).flatMap pcS := by rw [← List.flatMap_append,List.take_append_drop]
  rw [this]; exact List.sublist_append_right _ _
 refine ⟨⟨cap,frm,shO q 2 j,l.drop j,pcR 2 cSV q l,?_⟩,rfl,h.sub hsub,fun n hn c hc => hn c (hsub.subset hc)⟩
 rcases h.louter with ⟨_,h2⟩ | ⟨a,h1,_⟩
 ·exact .inl (by rw [h2]; exact List.drop_nil)
 ·refine .inr ⟨a,0 + j * 2,h1,by rw [h1]; rfl,fun i x hx => ?_⟩
  rw [List.getElem?_drop] at hx
  have := flat_at (l := l) len_cSV hx
  rw [Nat.zero_add,← Nat.add_mul]
  exact this
theorem lw_all {st : St} {q : Option Addr} {l : List SV} (h : OwnP st (pcL q l)) (cap frm : Int) : ∃ w : LW,w.v = ⟨cap,frm,q,l⟩ ∧ OwnP st (pcLog w) ∧ ∀ n,NewP n (pcL q l) → NewP n (pcLog w) := by
 obtain ⟨w,h1,h2,h3⟩ := OwnP.lw (u := ⟨cap,frm,q,l⟩) h
 refine ⟨w,h1,h2,fun n hn => ?_⟩
 have hw : w.l = l := congrArg LV.l h1
 show NewP n (w.C :: w.l.flatMap pcS)
 rw [h3,hw]; exact hn
theorem lw_val {w : LW} {u : LV} (h : w.v = u) : (.agg #[vI u.cap,vI u.frm,vS u.p u.l.length] : Value) = .agg #[vI w.cap,vI w.frm,vS w.p w.l.length] := by subst h; rfl
theorem sub_flat {m l : List SV} (h : m.Sublist l) : (m.flatMap pcS).Sublist (l.flatMap pcS) := by
 induction h with
 | slnil => exact List.Sublist.refl _
 | cons a _ ih => rw [List.flatMap_cons]; exact ih.trans (List.sublist_append_right _ _)
 | cons_cons a _ ih => rw [List.flatMap_cons,List.flatMap_cons]; exact (List.Sublist.refl _).append ih
theorem pcL_move {s s' : St} {q q' : Option Addr} {l m : List SV} (h : OwnP s (pcL q l)) (hm : m.Sublist l) (hp : Pres s s') (ho : OwnR s' 2 cSV q' m) (hn : New s.next q') : OwnP s' (pcL q' m) :=
 OwnP.joinF (l := m.flatMap pcS) (m := [pcR 2 cSV q' m]) (h.tail.sub (sub_flat hm)) hp (OwnP.one (own_pc ho)) (NewP.cons hn NewP.nil)
theorem newL_move {n : Nat} {q q' : Option Addr} {l m : List SV} (h : NewP n (pcL q l)) (hm : m.Sublist l) (hn : New n q') : NewP n (pcL q' m) :=
 NewP.cons hn fun c hc => h c (List.mem_cons_of_mem _ ((sub_flat hm).subset hc))
open Classical in
noncomputable def addL (g : Lg) (d : Sta) : Lg × Bool := if logOk g ∧ stateOk d ∧ g.frm + (g.list.length : Int) < 100000 then (if (g.list.length : Int) + 1 > g.cap then (⟨g.cap,g.frm + 1,(g.list ++ [d]).drop 1⟩,true) else (⟨g.cap,g.frm,g.list ++ [d]⟩,true)) else (g,false)
theorem logOk_add {g : Lg} {d : Sta} (hg : logOk g) (hd : stateOk d) : (logOk ⟨g.cap,g.frm + 1,(g.list ++ [d]).drop 1⟩ ↔ g.frm + (g.list.length : Int) < 100000) ∧ (¬ (g.list.length : Int) + 1 > g.cap → (logOk ⟨g.cap,g.frm,g.list ++ [d]⟩ ↔ g.frm + (g.list.length : Int) < 100000)) := by
 obtain ⟨h1,h2,h3,h4,h5⟩ := hg
 have hall : ∀ s ∈ g.list ++ [d],stateOk s := fun s hs => by
  rcases List.mem_append.1 hs with h | h
  ·exact h5 s h
  ·rw [List.mem_singleton.1 h]; exact hd
 have hl1 : (((g.list ++ [d]).drop 1).length : Int) = (g.list.length : Int) := by rw [List.length_drop,List.length_append,List.length_singleton]; omega
 have hl2 : ((g.list ++ [d]).length : Int) = (g.list.length : Int) + 1 := by rw [List.length_append,List.length_singleton]; omega
 refine ⟨⟨fun h => ?_,fun h => ⟨h1,?_,?_,?_,fun s hs => hall s (List.mem_of_mem_drop hs)⟩⟩,fun hc => ⟨fun h => ?_,fun h => ⟨h1,?_,h3,?_,hall⟩⟩⟩
 ·have := h.2.2.2.1; simp only at this; rw [hl1] at this; omega
 ·simp only; rw [hl1]; exact h2
 ·simp only; omega
 ·simp only; rw [hl1]; omega
 ·have := h.2.2.2.1; simp only at this; rw [hl2] at this; omega
 ·simp only; rw [hl2]; omega
 ·simp only; rw [hl2]; omega
theorem bigL_few {l : List SV} (h : l.length ≤ 1000) (hs : ∀ s ∈ l,bigS s.x) : bigL l := ⟨by unfold szOk; omega,hs⟩
theorem ac_impl_LogAdd (g : LV) (d : SV) (st : St) (hR : RdL st g.p g.l) (hD : RdS st d) (hb : bigL g.l) (hbd : bigS d.x) : C 101 [.agg #[vI g.cap,vI g.frm,vS g.p g.l.length],.agg #[vS d.p d.x.items.length,vS d.q d.x.floors.length]] st (fun v s => ∃ (u : LW) (b : Bool),v = .tuple #[.agg #[vI u.cap,vI u.frm,vS u.p u.l.length],vB b] ∧ (u.v.x,b) = addL g.x d.x ∧ OwnP s (pcLog u) ∧ NewP st.next (pcLog u) ∧ Pres st s) := by
 have hs : g.l.length ≤ 1048576 := hb.1
 have hgl : g.x.list.length = g.l.length := List.length_map _
 refine AC.enterX (i := ⟨[2,3,4,6],[2,3,4,6,18,24,25,28,31,34,35,38],[0,1,2,3,4,5,6,16,30,41],[]⟩) [(4,[3,4],[1])] Tryz.func101 rfl rfl (by kernel_rfl) (by kernel_rfl) Tryz.ntmps101 (Lb rfl) rfl ?_
 iterate 3 refine ⟨_,rfl,?_⟩
 refine Cm 3 st [Ml 2 0,Ml 3 1,Ml 4 2,(5,vB false)] [(2,0,[vI g.cap,vI g.frm,vS g.p g.l.length]),(3,1,cSV d),(4,2,[vI 0,vI 0,Sn])] fun _ _ => ?_
 refine ⟨_,Od rfl,?_⟩
 refine ⟨_,rfl,(ac_impl_copyLog g st hR (by first | assumption | omega)).mono ?_⟩
 rintro _ s8 ⟨u8,rfl,h8,hO8,hN8,hP8⟩
 refine ⟨_,rfl,?_⟩
 refine ⟨_,Os rfl,?_⟩
 refine Cm 4 s8 [Ml 2 0,Ml 3 1,Ml 4 2,(5,vB false),Ml 6 3] [(2,0,[vI g.cap,vI g.frm,vS g.p g.l.length]),(3,1,cSV d),(4,2,[vI 0,vI 0,Sn]),(6,3,[vI u8.cap,vI u8.frm,vS u8.p u8.l.length])] fun _ _ => ?_
 have ⟨w0,hw0,hO0,hN0⟩ := lw_all hO8 u8.cap u8.frm
 have hx8 : u8.cap = g.cap ∧ u8.frm = g.frm ∧ u8.l.map (·.x) = g.l.map (·.x) := ⟨congrArg Lg.cap h8,congrArg Lg.frm h8,congrArg Lg.list h8⟩
 have hl8 : u8.l.length = g.l.length := by have := congrArg List.length hx8.2.2; simpa using this
 refine ⟨_,Od rfl,?_⟩
 refine ⟨_,rfl,(ac_impl_LogOk g s8 (hR.pres hP8) (by first | assumption | omega)).mono ?_⟩
 rintro _ s8 ⟨x10,rfl,h10,rfl⟩
 rcases x10 with _|_
 ·replace h10 := fun k => Bool.false_ne_true (h10.2 k)
  iterate 2 refine ⟨_,rfl,?_⟩
  refine Cm 4 s8 [Ml 2 0,Ml 3 1,Ml 4 2,(5,vB false),Ml 6 3,(16,vB true)] [(2,0,[vI g.cap,vI g.frm,vS g.p g.l.length]),(3,1,cSV d),(4,2,[vI 0,vI 0,Sn]),(6,3,[vI u8.cap,vI u8.frm,vS u8.p u8.l.length])] fun _ _ => ?_
  refine ⟨_,Od rfl,?_⟩
  refine ⟨_,Os rfl,?_⟩
  exact cxs (Rt ⟨w0,false,congrArg (fun u => Value.tuple #[u,vB false]) (lw_val hw0),by rw [hw0,addL,if_neg (fun h => h10 h.1)]; exact congrArg (·,false) h8,hO0,hN0 _ hN8,hP8⟩)
 ·replace h10 := h10.1 rfl
  refine ⟨_,rfl,?_⟩
  refine ⟨_,Od rfl,?_⟩
  refine ⟨_,rfl,(ac_impl_StateOk d s8 (hD.pres hP8) (by first | assumption | omega)).mono ?_⟩
  rintro _ s8 ⟨x14,rfl,h14,rfl⟩
  rcases x14 with _|_
  ·replace h14 := fun k => Bool.false_ne_true (h14.2 k)
   iterate 2 refine ⟨_,rfl,?_⟩
   refine Cm 4 s8 [Ml 2 0,Ml 3 1,Ml 4 2,(5,vB false),Ml 6 3,(16,vB true)] [(2,0,[vI g.cap,vI g.frm,vS g.p g.l.length]),(3,1,cSV d),(4,2,[vI 0,vI 0,Sn]),(6,3,[vI u8.cap,vI u8.frm,vS u8.p u8.l.length])] fun _ _ => ?_
   refine ⟨_,Od rfl,?_⟩
   refine ⟨_,Os rfl,?_⟩
   exact cxs (Rt ⟨w0,false,congrArg (fun u => Value.tuple #[u,vB false]) (lw_val hw0),by rw [hw0,addL,if_neg (fun h => h14 h.2.1)]; exact congrArg (·,false) h8,hO0,hN0 _ hN8,hP8⟩)
  ·replace h14 := h14.1 rfl
   iterate 2 refine ⟨_,rfl,?_⟩
   refine Cm 4 s8 [Ml 2 0,Ml 3 1,Ml 4 2,(5,vB false),Ml 6 3,(16,vB false)] [(2,0,[vI g.cap,vI g.frm,vS g.p g.l.length]),(3,1,cSV d),(4,2,[vI 0,vI 0,Sn]),(6,3,[vI u8.cap,vI u8.frm,vS u8.p u8.l.length])] fun _ _ => ?_
   have hk3 : 0 ≤ g.frm ∧ g.frm ≤ 100000 := h10.2.2.1
   have hk4 : g.frm + (g.l.length : Int) ≤ 100000 := by have := h10.2.2.2.1; rw [hgl] at this; exact this
   have hk5 : (g.l.length : Int) ≤ g.cap ∧ g.cap ≤ 8 := ⟨by have := h10.2.1; rw [hgl] at this; exact this,h10.1.2⟩
   refine cxs ?_
   refine ⟨_,rfl,?_⟩
   refine ⟨_,Od rfl,?_⟩
   refine ⟨ld_own rfl rfl rfl,?_⟩
   refine ⟨_,Od rfl,?_⟩
   refine ⟨_,rfl,(ac_impl_copyState d s8 (hD.pres hP8) (by first | assumption | omega)).mono ?_⟩
   rintro _ s21 ⟨u21,rfl,h21,hO21,hN21,hP21⟩
   refine ⟨hP21.2,?_⟩
   refine op_one (z := 2) (a := (u21 : SV)) (f := cSV) rfl rfl rfl rfl rfl (by decide) rfl (Lb rfl) rfl rfl rfl ?_
   refine ⟨Pres.push.low hP21,?_⟩
   refine op_snoc (z := 2) (st := s21) (f := cSV) (b := 48) (l := u8.l) (x := u21) rfl rfl rfl rfl rfl rfl rfl (by decide) len_cSV rfl rfl rfl (by omega) (by unfold maxLen; omega) ((hO8.pres hP21).louter) ?_
   intro q23 s23 hO23 hP23 hN23
   refine ⟨_,rfl,?_⟩
   refine ⟨_,Os rfl,?_⟩
   refine Cm 4 s23 [Ml 2 0,Ml 4 2,(5,vB false),Ml 6 3] [(2,0,[vI g.cap,vI g.frm,vS g.p g.l.length]),(4,2,[vI 0,vI 0,Sn]),(6,3,[vI u8.cap,vI u8.frm,vS q23 (u8.l ++ [u21]).length])] fun _ _ => ?_
   have hO4 := pcL_snoc hO8 hP21 hO21 hN21 hP23 hO23 hN23
   have hN4 := newL_snoc hN8 (hN21.le hP8.1) (hN23.le (hP8.trans hP21).1)
   have hP4 := hP23.pres (hP8.trans hP21) (newL_p hN8)
   have hln : ((u8.l ++ [u21]).length : Int) = (g.l.length : Int) + 1 := by rw [List.length_append,List.length_singleton,hl8]; omega
   have hmx : (u8.l ++ [u21]).map (·.x) = g.l.map (·.x) ++ [d.x] := by rw [List.map_append,hx8.2.2,List.map_singleton,h21]
   have hb4 : bigL (u8.l ++ [u21]) := bigL_few (by omega) fun s hs => by
    rcases List.mem_append.1 hs with h | h
    ·exact (bigL_of hx8.2.2 hb).2 s h
    ·rw [List.mem_singleton.1 h,h21]; exact hbd
   have hbd4 : bigL (List.drop 1 (u8.l ++ [u21])) := bigL_few (by rw [List.length_drop]; omega) fun s hs => hb4.2 s (List.mem_of_mem_drop hs)
   have hadd := logOk_add h10 h14
   refine ⟨_,rfl,?_⟩
   refine ⟨_,Od rfl,?_⟩
   iterate 2 refine ⟨_,rfl,?_⟩
   refine ⟨_,Od rfl,?_⟩
   refine ⟨_,rfl,?_⟩
   rintro (_|_) h30
   ·replace h30 : ¬ (((u8.l ++ [u21]).length : Int) > g.cap) := of_decide_eq_false h30
    refine Cm 4 s23 [Ml 2 0,Ml 4 2,(5,vB false),Ml 6 3,(30,vB false)] [(2,0,[vI g.cap,vI g.frm,vS g.p g.l.length]),(4,2,[vI 0,vI 0,Sn]),(6,3,[vI u8.cap,vI u8.frm,vS q23 (u8.l ++ [u21]).length])] fun _ _ => ?_
    have ⟨w,hw,hO,hN⟩ := lw_all hO4 u8.cap u8.frm
    have hwx : w.v.x = ⟨g.x.cap,g.x.frm,g.x.list ++ [d.x]⟩ := by rw [hw]; simp only [LV.x,hmx,hx8.1,hx8.2.1]
    refine cxs ?_
    refine ⟨_,Od rfl,?_⟩
    refine ⟨_,rfl,(ac_impl_LogOk (⟨u8.cap,u8.frm,q23,u8.l ++ [u21]⟩ : LV) s23 (hO4.rdL) (by first | assumption | omega)).mono ?_⟩
    rintro _ s23 ⟨x40,rfl,h40,rfl⟩
    rcases x40 with _|_
    ·replace h40 := fun k => Bool.false_ne_true (h40.2 k)
     refine ⟨_,rfl,?_⟩
     refine Cm 4 s23 [Ml 2 0,Ml 4 2,(5,vB false),Ml 6 3,(41,vB true)] [(2,0,[vI g.cap,vI g.frm,vS g.p g.l.length]),(4,2,[vI 0,vI 0,Sn]),(6,3,[vI u8.cap,vI u8.frm,vS q23 (u8.l ++ [u21]).length])] fun _ _ => ?_
     refine ⟨_,Od rfl,?_⟩
     refine ⟨_,rfl,(ac_impl_copyLog g s23 (hR.pres hP4) (by first | assumption | omega)).mono ?_⟩
     rintro _ s43 ⟨u43,rfl,h43,hO43,hN43,hP43⟩
     refine ⟨_,Os rfl,?_⟩
     refine cxs ?_
     have ⟨w9,hw9,hO9,hN9⟩ := lw_all hO43 u43.cap u43.frm
     have hP9 := hP4.trans hP43
     have hc : ¬ (g.x.list.length : Int) + 1 > g.x.cap := by rw [hgl]; clear hadd; show ¬ (g.l.length : Int) + 1 > g.cap; omega
     exact Rt ⟨w9,false,congrArg (fun u => Value.tuple #[u,vB false]) (lw_val hw9),by rw [hw9,addL,if_neg (fun h => h40 (by have h2 := (hadd.2 hc).2 h.2.2; rw [← hwx,hw] at h2; exact h2))]; exact congrArg (·,false) h43,hO9,hN9 _ (hN43.le hP4.1),hP9⟩
    ·replace h40 := h40.1 rfl
     refine ⟨_,rfl,?_⟩
     refine Cm 4 s23 [Ml 2 0,Ml 4 2,(5,vB false),Ml 6 3,(41,vB false)] [(2,0,[vI g.cap,vI g.frm,vS g.p g.l.length]),(4,2,[vI 0,vI 0,Sn]),(6,3,[vI u8.cap,vI u8.frm,vS q23 (u8.l ++ [u21]).length])] fun _ _ => ?_
     refine cxs ?_
     refine ⟨_,Od rfl,?_⟩
     refine ⟨_,Os rfl,?_⟩
     refine cxs ?_
     have hc : ¬ (g.x.list.length : Int) + 1 > g.x.cap := by rw [hgl]; clear hadd; show ¬ (g.l.length : Int) + 1 > g.cap; omega
     exact Rt ⟨w,true,congrArg (fun u => Value.tuple #[u,vB true]) (lw_val hw),by rw [hwx,addL,if_pos ⟨h10,h14,(hadd.2 hc).1 (hwx ▸ (show logOk w.v.x by rw [hw]; exact h40))⟩,if_neg hc],hO,hN _ hN4,hP4⟩
   ·replace h30 : ((u8.l ++ [u21]).length : Int) > g.cap := of_decide_eq_true h30
    refine Cm 4 s23 [Ml 2 0,Ml 4 2,(5,vB false),Ml 6 3,(30,vB true)] [(2,0,[vI g.cap,vI g.frm,vS g.p g.l.length]),(4,2,[vI 0,vI 0,Sn]),(6,3,[vI u8.cap,vI u8.frm,vS q23 (u8.l ++ [u21]).length])] fun _ _ => ?_
    refine ⟨_,rfl,?_⟩
    refine ⟨_,Od rfl,?_⟩
    refine ⟨_,op_drop (u8.l ++ [u21]) 1 rfl rfl rfl rfl rfl rfl (by omega) (by omega),?_⟩
    refine ⟨_,rfl,?_⟩
    refine ⟨_,Os rfl,?_⟩
    refine Cm 4 s23 [Ml 2 0,Ml 4 2,(5,vB false),Ml 6 3] [(2,0,[vI g.cap,vI g.frm,vS g.p g.l.length]),(4,2,[vI 0,vI 0,Sn]),(6,3,[vI u8.cap,vI u8.frm,vS (shO q23 2 1) ((u8.l ++ [u21]).drop 1).length])] fun _ _ => ?_
    have ⟨w,hw,hO,hN⟩ := lw_drop hO4 u8.cap (u8.frm + 1) 1
    have hwx : w.v.x = ⟨g.x.cap,g.x.frm + 1,(g.x.list ++ [d.x]).drop 1⟩ := by rw [hw]; simp only [LV.x,List.map_drop,hmx,hx8.1,hx8.2.1]
    have hwr : RdL s23 (shO q23 2 1) (List.drop 1 (u8.l ++ [u21])) := ⟨(hO4.rdL.1).sh 1,fun s hs => hO4.rdL.2 s (List.mem_of_mem_drop hs)⟩
    refine ⟨_,rfl,?_⟩
    refine ⟨_,Od rfl,?_⟩
    have ew37 : IntKind.wrap .i64 (u8.frm + (1)) = u8.frm + (1) := wrap_i64 (by omega) (by omega)
    iterate 2 refine ⟨_,rfl,?_⟩
    refine ⟨_,Os rfl,?_⟩
    refine AW.cutM (4) s23 [Ml 2 0,Ml 4 2,(5,vB false),Ml 6 3] [(2,0,[vI g.cap,vI g.frm,vS g.p g.l.length]),(4,2,[vI 0,vI 0,Sn]),(6,3,[vI u8.cap,vI (u8.frm + (1)),vS (shO q23 2 1) ((u8.l ++ [u21]).drop 1).length])] ⟨rfl,rfl,rfl,rfl,trivial⟩ ⟨rfl,rfl,(show some (3,[vI u8.cap,vI (IntKind.wrap .i64 (u8.frm + (1))),vS (shO q23 2 1) ((u8.l ++ [u21]).drop 1).length]) = some (3,[vI u8.cap,vI (u8.frm + (1)),vS (shO q23 2 1) ((u8.l ++ [u21]).drop 1).length]) by rw [ew37]),trivial⟩ rfl fun _ _ => ?_
    refine ⟨_,Od rfl,?_⟩
    refine ⟨_,rfl,(ac_impl_LogOk (⟨u8.cap,u8.frm + (1),shO q23 2 1,(u8.l ++ [u21]).drop 1⟩ : LV) s23 (by first | assumption | omega) (by first | assumption | omega)).mono ?_⟩
    rintro _ s23 ⟨x40,rfl,h40,rfl⟩
    rcases x40 with _|_
    ·replace h40 := fun k => Bool.false_ne_true (h40.2 k)
     refine ⟨_,rfl,?_⟩
     refine Cm 4 s23 [Ml 2 0,Ml 4 2,(5,vB false),Ml 6 3,(41,vB true)] [(2,0,[vI g.cap,vI g.frm,vS g.p g.l.length]),(4,2,[vI 0,vI 0,Sn]),(6,3,[vI u8.cap,vI (u8.frm + (1)),vS (shO q23 2 1) ((u8.l ++ [u21]).drop 1).length])] fun _ _ => ?_
     refine ⟨_,Od rfl,?_⟩
     refine ⟨_,rfl,(ac_impl_copyLog g s23 (hR.pres hP4) (by first | assumption | omega)).mono ?_⟩
     rintro _ s43 ⟨u43,rfl,h43,hO43,hN43,hP43⟩
     refine ⟨_,Os rfl,?_⟩
     refine cxs ?_
     have ⟨w9,hw9,hO9,hN9⟩ := lw_all hO43 u43.cap u43.frm
     have hP9 := hP4.trans hP43
     exact Rt ⟨w9,false,congrArg (fun u => Value.tuple #[u,vB false]) (lw_val hw9),by rw [hw9,addL,if_neg (fun h => h40 (by have h2 := hadd.1.2 h.2.2; rw [← hwx,hw] at h2; exact h2))]; exact congrArg (·,false) h43,hO9,hN9 _ (hN43.le hP4.1),hP9⟩
    ·replace h40 := h40.1 rfl
     refine ⟨_,rfl,?_⟩
     refine Cm 4 s23 [Ml 2 0,Ml 4 2,(5,vB false),Ml 6 3,(41,vB false)] [(2,0,[vI g.cap,vI g.frm,vS g.p g.l.length]),(4,2,[vI 0,vI 0,Sn]),(6,3,[vI u8.cap,vI (u8.frm + (1)),vS (shO q23 2 1) ((u8.l ++ [u21]).drop 1).length])] fun _ _ => ?_
     refine cxs ?_
     refine ⟨_,Od rfl,?_⟩
     refine ⟨_,Os rfl,?_⟩
     refine cxs ?_
     have hc : (g.x.list.length : Int) + 1 > g.x.cap := by rw [hgl]; clear hadd; show (g.l.length : Int) + 1 > g.cap; omega
     exact Rt ⟨w,true,congrArg (fun u => Value.tuple #[u,vB true]) (lw_val hw),by rw [hwx,addL,if_pos ⟨h10,h14,hadd.1.1 (hwx ▸ (show logOk w.v.x by rw [hw]; exact h40))⟩,if_pos hc],hO,hN _ hN4,hP4⟩
theorem ac_spec_LogAdd (g : LV) (d : SV) (st : St) (hR : RdL st g.p g.l) (hD : RdS st d) (hb : bigL g.l) (hbd : bigS d.x) : C 103 [.agg #[vI g.cap,vI g.frm,vS g.p g.l.length],.agg #[vS d.p d.x.items.length,vS d.q d.x.floors.length]] st (fun v s => ∃ (u : LW) (b : Bool),v = .tuple #[.agg #[vI u.cap,vI u.frm,vS u.p u.l.length],vB b] ∧ (u.v.x,b) = addL g.x d.x ∧ OwnP s (pcLog u) ∧ NewP st.next (pcLog u) ∧ Pres st s) := by
 have hs : g.l.length ≤ 1048576 := hb.1
 have hgl : g.x.list.length = g.l.length := List.length_map _
 refine AC.enterX (i := ⟨[2,3,4,6],[2,3,4,6,18,20,27,33,34,37,41,45,46,49],[0,1,2,3,4,5,6,25,39],[]⟩) [(4,[3,4],[1])] Tryz.func103 rfl rfl (by kernel_rfl) (by kernel_rfl) Tryz.ntmps103 (Lb rfl) rfl ?_
 iterate 3 refine ⟨_,rfl,?_⟩
 refine Cm 3 st [Ml 2 0,Ml 3 1,Ml 4 2,(5,vB false)] [(2,0,[vI g.cap,vI g.frm,vS g.p g.l.length]),(3,1,cSV d),(4,2,[vI 0,vI 0,Sn])] fun _ _ => ?_
 refine ⟨_,Od rfl,?_⟩
 refine ⟨_,rfl,(ac_spec_l7Copy g st hR (by first | assumption | omega)).mono ?_⟩
 rintro _ s8 ⟨u8,rfl,h8,hO8,hN8,hP8⟩
 refine ⟨_,rfl,?_⟩
 refine ⟨_,Os rfl,?_⟩
 refine Cm 4 s8 [Ml 2 0,Ml 3 1,Ml 4 2,(5,vB false),Ml 6 3] [(2,0,[vI g.cap,vI g.frm,vS g.p g.l.length]),(3,1,cSV d),(4,2,[vI 0,vI 0,Sn]),(6,3,[vI u8.cap,vI u8.frm,vS u8.p u8.l.length])] fun _ _ => ?_
 have ⟨w0,hw0,hO0,hN0⟩ := lw_all hO8 u8.cap u8.frm
 have hx8 : u8.cap = g.cap ∧ u8.frm = g.frm ∧ u8.l.map (·.x) = g.l.map (·.x) := ⟨congrArg Lg.cap h8,congrArg Lg.frm h8,congrArg Lg.list h8⟩
 have hl8 : u8.l.length = g.l.length := by have := congrArg List.length hx8.2.2; simpa using this
 refine ⟨_,Od rfl,?_⟩
 refine ⟨_,rfl,(ac_spec_LogOk g s8 (hR.pres hP8) (by first | assumption | omega)).mono ?_⟩
 rintro _ s8 ⟨x10,rfl,h10,rfl⟩
 rcases x10 with _|_
 ·replace h10 := fun k => Bool.false_ne_true (h10.2 k)
  iterate 3 refine ⟨_,rfl,?_⟩
  refine Cm 4 s8 [Ml 3 1,Ml 4 2,(5,vB false),Ml 6 3,(25,vB true)] [(3,1,cSV d),(4,2,[vI 0,vI 0,Sn]),(6,3,[vI u8.cap,vI u8.frm,vS u8.p u8.l.length])] fun _ _ => ?_
  refine ⟨_,Od rfl,?_⟩
  refine ⟨_,Os rfl,?_⟩
  exact cxs (Rt ⟨w0,false,congrArg (fun u => Value.tuple #[u,vB false]) (lw_val hw0),by rw [hw0,addL,if_neg (fun h => h10 h.1)]; exact congrArg (·,false) h8,hO0,hN0 _ hN8,hP8⟩)
 ·replace h10 := h10.1 rfl
  refine ⟨_,rfl,?_⟩
  refine ⟨_,Od rfl,?_⟩
  refine ⟨_,rfl,(ac_spec_StateOk d s8 (hD.pres hP8) (by first | assumption | omega)).mono ?_⟩
  rintro _ s8 ⟨x14,rfl,h14,rfl⟩
  rcases x14 with _|_
  ·replace h14 := fun k => Bool.false_ne_true (h14.2 k)
   iterate 3 refine ⟨_,rfl,?_⟩
   refine Cm 4 s8 [Ml 3 1,Ml 4 2,(5,vB false),Ml 6 3,(25,vB true)] [(3,1,cSV d),(4,2,[vI 0,vI 0,Sn]),(6,3,[vI u8.cap,vI u8.frm,vS u8.p u8.l.length])] fun _ _ => ?_
   refine ⟨_,Od rfl,?_⟩
   refine ⟨_,Os rfl,?_⟩
   exact cxs (Rt ⟨w0,false,congrArg (fun u => Value.tuple #[u,vB false]) (lw_val hw0),by rw [hw0,addL,if_neg (fun h => h14 h.2.1)]; exact congrArg (·,false) h8,hO0,hN0 _ hN8,hP8⟩)
  ·replace h14 := h14.1 rfl
   iterate 2 refine ⟨_,rfl,?_⟩
   have hk3 : 0 ≤ g.frm ∧ g.frm ≤ 100000 := h10.2.2.1
   have hk4 : g.frm + (g.l.length : Int) ≤ 100000 := by have := h10.2.2.2.1; rw [hgl] at this; exact this
   have hk5 : (g.l.length : Int) ≤ g.cap ∧ g.cap ≤ 8 := ⟨by have := h10.2.1; rw [hgl] at this; exact this,h10.1.2⟩
   refine ⟨_,rfl,?_⟩
   refine ⟨_,Od rfl,?_⟩
   refine ⟨_,rfl,?_⟩
   refine ⟨_,Od rfl,?_⟩
   refine ⟨_,rfl,?_⟩
   have ew23 : IntKind.wrap .i64 (g.frm + (g.l.length : Int)) = g.frm + (g.l.length : Int) := wrap_i64 (by omega) (by omega)
   iterate 2 refine ⟨_,rfl,?_⟩
   rintro (_|_) h24
   ·replace h24 : ¬ ((IntKind.wrap .i64 (g.frm + (g.l.length : Int))) = (100000)) := beq_eq_false_iff_ne.1 h24
    rw [ew23] at h24
    refine ⟨_,rfl,?_⟩
    refine Cm 4 s8 [Ml 3 1,Ml 4 2,(5,vB false),Ml 6 3,(25,vB false)] [(3,1,cSV d),(4,2,[vI 0,vI 0,Sn]),(6,3,[vI u8.cap,vI u8.frm,vS u8.p u8.l.length])] fun _ _ => ?_
    refine cxs ?_
    refine ⟨_,rfl,?_⟩
    refine ⟨_,Od rfl,?_⟩
    refine ⟨ld_own rfl rfl rfl,?_⟩
    refine ⟨_,Od rfl,?_⟩
    refine ⟨_,rfl,(ac_spec_l3Copy d s8 (hD.pres hP8) (by first | assumption | omega)).mono ?_⟩
    rintro _ s30 ⟨u30,rfl,h30,hO30,hN30,hP30⟩
    refine ⟨hP30.2,?_⟩
    refine op_one (z := 2) (a := (u30 : SV)) (f := cSV) rfl rfl rfl rfl rfl (by decide) rfl (Lb rfl) rfl rfl rfl ?_
    refine ⟨Pres.push.low hP30,?_⟩
    refine op_snoc (z := 2) (st := s30) (f := cSV) (b := 48) (l := u8.l) (x := u30) rfl rfl rfl rfl rfl rfl rfl (by decide) len_cSV rfl rfl rfl (by omega) (by unfold maxLen; omega) ((hO8.pres hP30).louter) ?_
    intro q32 s32 hO32 hP32 hN32
    refine ⟨_,rfl,?_⟩
    refine ⟨_,Os rfl,?_⟩
    refine Cm 4 s32 [Ml 4 2,(5,vB false),Ml 6 3] [(4,2,[vI 0,vI 0,Sn]),(6,3,[vI u8.cap,vI u8.frm,vS q32 (u8.l ++ [u30]).length])] fun _ _ => ?_
    have hO4 := pcL_snoc hO8 hP30 hO30 hN30 hP32 hO32 hN32
    have hN4 := newL_snoc hN8 (hN30.le hP8.1) (hN32.le (hP8.trans hP30).1)
    have hP4 := hP32.pres (hP8.trans hP30) (newL_p hN8)
    have hln : ((u8.l ++ [u30]).length : Int) = (g.l.length : Int) + 1 := by rw [List.length_append,List.length_singleton,hl8]; omega
    have hmx : (u8.l ++ [u30]).map (·.x) = g.l.map (·.x) ++ [d.x] := by rw [List.map_append,hx8.2.2,List.map_singleton,h30]
    have hdl : (List.drop 1 (u8.l ++ [u30])).length ≤ (u8.l ++ [u30]).length := by rw [List.length_drop]; omega
    have hlt : g.x.frm + (g.x.list.length : Int) < 100000 := by rw [hgl]; show g.frm + (g.l.length : Int) < 100000; omega
    refine ⟨_,rfl,?_⟩
    refine ⟨_,Od rfl,?_⟩
    iterate 2 refine ⟨_,rfl,?_⟩
    refine ⟨_,Od rfl,?_⟩
    refine ⟨_,rfl,?_⟩
    rintro (_|_) h39
    ·replace h39 : ¬ (((u8.l ++ [u30]).length : Int) > u8.cap) := of_decide_eq_false h39
     refine Cm 4 s32 [Ml 4 2,(5,vB false),Ml 6 3,(39,vB false)] [(4,2,[vI 0,vI 0,Sn]),(6,3,[vI u8.cap,vI u8.frm,vS q32 (u8.l ++ [u30]).length])] fun _ _ => ?_
     have ⟨w,hw,hO,hN⟩ := lw_all hO4 u8.cap u8.frm
     have hwx : w.v.x = ⟨g.x.cap,g.x.frm,g.x.list ++ [d.x]⟩ := by rw [hw]; simp only [LV.x,hmx,hx8.1,hx8.2.1]
     refine cxs ?_
     refine ⟨_,Od rfl,?_⟩
     refine ⟨_,Os rfl,?_⟩
     refine cxs ?_
     have hc : ¬ (g.x.list.length : Int) + 1 > g.x.cap := by rw [hgl]; show ¬ (g.l.length : Int) + 1 > g.cap; omega
     exact Rt ⟨w,true,congrArg (fun u => Value.tuple #[u,vB true]) (lw_val hw),by rw [hwx,addL,if_pos ⟨h10,h14,hlt⟩,if_neg hc],hO,hN _ hN4,hP4⟩
    ·replace h39 : ((u8.l ++ [u30]).length : Int) > u8.cap := of_decide_eq_true h39
     refine Cm 4 s32 [Ml 4 2,(5,vB false),Ml 6 3,(39,vB true)] [(4,2,[vI 0,vI 0,Sn]),(6,3,[vI u8.cap,vI u8.frm,vS q32 (u8.l ++ [u30]).length])] fun _ _ => ?_
     refine op_nilK (z := 2) (f := cSV) rfl rfl rfl rfl (by decide) rfl ?_
     intro q40 s40 hO40 hP40 hN40
     refine ⟨_,rfl,?_⟩
     refine ⟨_,Od rfl,?_⟩
     refine ⟨_,op_drop (u8.l ++ [u30]) 1 rfl rfl rfl rfl rfl rfl (by omega) (by omega),?_⟩
     refine op_cat' (z := 2) (st := s40) (f := cSV) (b := 48) (l := []) (l2 := List.drop 1 (u8.l ++ [u30])) rfl rfl rfl rfl rfl rfl rfl (by decide) len_cSV rfl rfl rfl rfl (by first | omega | (simp only [List.length_nil]; omega)) (by unfold maxLen; first | omega | (simp only [List.length_nil]; omega)) hO40 ((hP40.rows (hO4.rdL.1)).sh _) ?_
     intro q44 s44 hO44 hPr44 hN44
     refine ⟨_,rfl,?_⟩
     refine ⟨_,Os rfl,?_⟩
     refine Cm 4 s44 [Ml 4 2,(5,vB false),Ml 6 3] [(4,2,[vI 0,vI 0,Sn]),(6,3,[vI u8.cap,vI u8.frm,vS q44 (List.drop 1 (u8.l ++ [u30])).length])] fun _ _ => ?_
     have ⟨hP9,hN9⟩ := copy_facts hP40 hN40 hPr44 hN44
     have hO9 := pcL_move hO4 (List.drop_sublist _ _) hP9 hO44 hN9
     have hN8 := newL_move hN4 (List.drop_sublist 1 _) (hN9.le hP4.1)
     have hP5 := hP4.trans hP9
     have ⟨w,hw,hO,hN⟩ := lw_all hO9 u8.cap (u8.frm + 1)
     have hwx : w.v.x = ⟨g.x.cap,g.x.frm + 1,(g.x.list ++ [d.x]).drop 1⟩ := by rw [hw]; simp only [LV.x,List.map_drop,hmx,hx8.1,hx8.2.1]
     refine ⟨_,rfl,?_⟩
     refine ⟨_,Od rfl,?_⟩
     have ew48 : IntKind.wrap .i64 (u8.frm + (1)) = u8.frm + (1) := wrap_i64 (by omega) (by omega)
     iterate 2 refine ⟨_,rfl,?_⟩
     refine ⟨_,Os rfl,?_⟩
     refine AW.cutM (4) s44 [Ml 4 2,(5,vB false),Ml 6 3] [(4,2,[vI 0,vI 0,Sn]),(6,3,[vI u8.cap,vI (u8.frm + (1)),vS q44 (List.drop 1 (u8.l ++ [u30])).length])] ⟨rfl,rfl,rfl,trivial⟩ ⟨rfl,(show some (3,[vI u8.cap,vI (IntKind.wrap .i64 (u8.frm + (1))),vS q44 (List.drop 1 (u8.l ++ [u30])).length]) = some (3,[vI u8.cap,vI (u8.frm + (1)),vS q44 (List.drop 1 (u8.l ++ [u30])).length]) by rw [ew48]),trivial⟩ rfl fun _ _ => ?_
     refine ⟨_,Od rfl,?_⟩
     refine ⟨_,Os rfl,?_⟩
     refine cxs ?_
     have hc : (g.x.list.length : Int) + 1 > g.x.cap := by rw [hgl]; show (g.l.length : Int) + 1 > g.cap; omega
     exact Rt ⟨w,true,congrArg (fun u => Value.tuple #[u,vB true]) (lw_val hw),by rw [hwx,addL,if_pos ⟨h10,h14,hlt⟩,if_pos hc],hO,hN _ hN8,hP5⟩
   ·replace h24 : (IntKind.wrap .i64 (g.frm + (g.l.length : Int))) = (100000) := beq_iff_eq.1 h24
    rw [ew23] at h24
    refine ⟨_,rfl,?_⟩
    refine Cm 4 s8 [Ml 3 1,Ml 4 2,(5,vB false),Ml 6 3,(25,vB true)] [(3,1,cSV d),(4,2,[vI 0,vI 0,Sn]),(6,3,[vI u8.cap,vI u8.frm,vS u8.p u8.l.length])] fun _ _ => ?_
    refine ⟨_,Od rfl,?_⟩
    refine ⟨_,Os rfl,?_⟩
    exact cxs (Rt ⟨w0,false,congrArg (fun u => Value.tuple #[u,vB false]) (lw_val hw0),by rw [hw0,addL,if_neg (fun h => by have h2 := h.2.2; rw [hgl] at h2; have h3 : g.frm + (g.l.length : Int) < 100000 := h2; omega)]; exact congrArg (·,false) h8,hO0,hN0 _ hN8,hP8⟩)
end Go.Proofs.YtpnolkhfeliehaaGreat.AM
