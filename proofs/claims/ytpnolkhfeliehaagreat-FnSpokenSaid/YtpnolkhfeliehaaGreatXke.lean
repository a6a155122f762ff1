/- Part 5 of the texts on which the law's proof rests. -/
import Derived.Test.YtpnolkhfeliehaaGreatXkd
namespace Go.Proofs.YtpnolkhfeliehaaGreat.AM
open Go Go.Proofs
set_option linter.unusedVariables false
set_option linter.unusedSimpArgs false
set_option maxRecDepth 100000
set_option maxHeartbeats 4000000
theorem pcS_items {st st' : St} {q1 q2 q : Option Addr} {l1 l1' : List Itm} {l2 : List Flr} (h : OwnP st [pcR 6 cItm q1 l1,pcR 2 cFlr q2 l2]) (hp : Pr q1 st st') (ho : OwnR st' 6 cItm q l1') (hn : New st.next q) : OwnP st' [pcR 6 cItm q l1',pcR 2 cFlr q2 l2] :=
 OwnP.renew (l := []) (m := [pcR 2 cFlr q2 l2]) h hp (own_pc ho) hn
theorem pcS_floors {st st' : St} {q1 q2 q : Option Addr} {l1 : List Itm} {l2 l2' : List Flr} (h : OwnP st [pcR 6 cItm q1 l1,pcR 2 cFlr q2 l2]) (hp : Pr q2 st st') (ho : OwnR st' 2 cFlr q l2') (hn : New st.next q) : OwnP st' [pcR 6 cItm q1 l1,pcR 2 cFlr q l2'] :=
 OwnP.renew (l := [pcR 6 cItm q1 l1]) (m := []) h hp (own_pc ho) hn
theorem pcS_i {st : St} {q1 q2 : Option Addr} {l1 : List Itm} {l2 : List Flr} (h : OwnP st [pcR 6 cItm q1 l1,pcR 2 cFlr q2 l2]) : OwnR st 6 cItm q1 l1 := pc_own (by decide) len_cItm (h.1 _ (List.mem_cons_self ..))
theorem pcS_f {st : St} {q1 q2 : Option Addr} {l1 : List Itm} {l2 : List Flr} (h : OwnP st [pcR 6 cItm q1 l1,pcR 2 cFlr q2 l2]) : OwnR st 2 cFlr q2 l2 := pc_own (by decide) len_cFlr (h.1 _ (List.mem_cons_of_mem _ (List.mem_cons_self ..)))
theorem ac_impl_stateJoin (A B : SV) (st : St) (hA : RdS st A) (hB : RdS st B) (ha : bigS A.x) (hb : bigS B.x) : C 50 [.agg #[vS A.p A.x.items.length,vS A.q A.x.floors.length],.agg #[vS B.p B.x.items.length,vS B.q B.x.floors.length]] st (fun v s => ∃ u : SV,v = .agg #[vS u.p u.x.items.length,vS u.q u.x.floors.length] ∧ u.x = joinF A.x B.x 5 ∧ OwnP s (pcS u) ∧ NewP st.next (pcS u) ∧ Pres st s) := by
 refine AC.enterX (i := ⟨[2,3,4,5,7,9,11],[2,3,4,5,7,9,11,40,44,51,54,61],[0,1,2,3,4,5,6,7,9,11,12,15,43,53],[]⟩) [(8,[2],[3])] Tryz.func50 rfl rfl (by kernel_rfl) (by kernel_rfl) Tryz.ntmps50 (Lb rfl) rfl ?_
 iterate 3 refine ⟨_,rfl,?_⟩
 refine Cm 3 st [Ml 2 0,Ml 3 1,Ml 4 2] [(2,0,cSV A),(3,1,cSV B),(4,2,[Sn,Sn])] fun _ _ => ?_
 iterate 3 refine ⟨_,rfl,?_⟩
 refine cxs ?_
 refine Cm 4 st [Ml 2 0,Ml 3 1,Ml 4 2,Ml 5 3,(6,vI 0)] [(2,0,cSV A),(3,1,cSV B),(4,2,[Sn,Sn]),(5,3,[Sn,Sn])] fun _ _ => ?_
 refine AW.loopM (fun x : Nat × Option Addr × Option Addr => [(2,vL 2 0 (0)),(3,vL 3 0 (1)),(4,vL 4 0 (2)),(5,vL 5 0 (3)),(6,vI (x.1 : Int))]) (fun x : Nat × Option Addr × Option Addr => [(2,0,[vS A.p A.x.items.length,vS A.q A.x.floors.length]),(3,1,[vS B.p B.x.items.length,vS B.q B.x.floors.length]),(4,2,[.slice none 0 0,.slice none 0 0]),(5,3,[vS x.2.1 (joinF A.x B.x x.1).items.length,vS x.2.2 (joinF A.x B.x x.1).floors.length])]) (fun m (x : Nat × Option Addr × Option Addr) st' => m = 5 - x.1 ∧ x.1 ≤ 5 ∧ OwnP st' [pcR 6 cItm x.2.1 (joinF A.x B.x x.1).items,pcR 2 cFlr x.2.2 (joinF A.x B.x x.1).floors] ∧ New st.next x.2.1 ∧ New st.next x.2.2 ∧ Pres st st') (0,none,none) _ ⟨rfl,rfl,rfl,rfl,rfl,trivial⟩ ⟨rfl,rfl,rfl,rfl,trivial⟩ ⟨rfl,Nat.zero_le _,pcS_nil,New.none,New.none,Pres.refl _⟩ ?_
 rintro m ⟨i,q1,q2⟩ ρ0 ff gg st' ⟨rfl,hi,hO,hN1,hN2,hP⟩
 simp only at hi hO hN1 hN2
 have hJ := joinF_len A.x B.x i
 have hJi := joinF_items A.x B.x i
 have hJf := joinF_floors A.x B.x i
 refine ⟨_,rfl,?_⟩
 rintro (_|_) h1
 ·replace h1 : ¬ ((i : Int) < 5) := of_decide_eq_false h1
  refine Cm gg st' [Ml 2 0,Ml 3 1,Ml 4 2,Ml 5 3,(6,vI (i : Int)),(15,vB false)] [(2,0,cSV A),(3,1,cSV B),(4,2,[Sn,Sn]),(5,3,[vS q1 (joinF A.x B.x i).items.length,vS q2 (joinF A.x B.x i).floors.length])] fun _ _ => ?_
  refine cxs ?_
  refine ⟨_,Od rfl,?_⟩
  refine ⟨_,Os rfl,?_⟩
  refine cxs ?_
  have hil : i = 5 := by omega
  subst hil
  exact Rt ⟨⟨q1,q2,joinF A.x B.x 5⟩,rfl,rfl,hO,NewP.cons hN1 (NewP.cons hN2 NewP.nil),hP⟩
 ·replace h1 : (i : Int) < 5 := of_decide_eq_true h1
  refine Cm gg st' [Ml 2 0,Ml 3 1,Ml 4 2,Ml 5 3,(6,vI (i : Int)),(15,vB true)] [(2,0,cSV A),(3,1,cSV B),(4,2,[Sn,Sn]),(5,3,[vS q1 (joinF A.x B.x i).items.length,vS q2 (joinF A.x B.x i).floors.length])] fun _ _ => ?_
  refine cxs ?_
  refine ⟨_,Od rfl,?_⟩
  refine ⟨_,rfl,(ac_impl_EntryOf A i st' (hA.pres hP) ha).mono ?_⟩
  rintro _ st' ⟨e1,b1,rfl,he1,rfl⟩
  iterate 3 refine ⟨_,rfl,?_⟩
  refine ⟨_,Os rfl,?_⟩
  refine Cm (gg + 1) st' [Ml 2 0,Ml 3 1,Ml 4 2,Ml 5 3,(6,vI (i : Int)),Ml 7 gg,(15,vB true)] [(2,0,cSV A),(3,1,cSV B),(4,2,[Sn,Sn]),(5,3,[vS q1 (joinF A.x B.x i).items.length,vS q2 (joinF A.x B.x i).floors.length]),(7,gg,[vI e1.inc,vI e1.rank,vI e1.beat,vI e1.ver,.string e1.data])] fun _ _ => ?_
  refine ⟨_,Od rfl,?_⟩
  refine ⟨_,rfl,(ac_impl_EntryOf B i st' (hB.pres hP) hb).mono ?_⟩
  rintro _ st' ⟨e2,b2,rfl,he2,rfl⟩
  iterate 3 refine ⟨_,rfl,?_⟩
  refine ⟨_,Os rfl,?_⟩
  refine Cm (gg + 2) st' [Ml 2 0,Ml 3 1,Ml 4 2,Ml 5 3,(6,vI (i : Int)),Ml 7 gg,(9,vL 9 0 (gg + 1)),(15,vB true)] [(2,0,cSV A),(3,1,cSV B),(4,2,[Sn,Sn]),(5,3,[vS q1 (joinF A.x B.x i).items.length,vS q2 (joinF A.x B.x i).floors.length]),(7,gg,[vI e1.inc,vI e1.rank,vI e1.beat,vI e1.ver,.string e1.data]),(9,gg + 1,[vI e2.inc,vI e2.rank,vI e2.beat,vI e2.ver,.string e2.data])] fun _ _ => ?_
  refine ⟨_,Od rfl,?_⟩
  refine ⟨_,Od rfl,?_⟩
  refine ⟨_,rfl,(ac_impl_EntryMax e1 e2 st').mono ?_⟩
  rintro _ s1 ⟨e,rfl,hem,hP1⟩
  refine ⟨_,rfl,?_⟩
  refine ⟨_,Os rfl,?_⟩
  refine Cm (gg + 3) s1 [Ml 2 0,Ml 3 1,Ml 4 2,Ml 5 3,(6,vI (i : Int)),Ml 7 gg,(9,vL 9 0 (gg + 1)),(11,vL 11 0 (gg + 2)),(15,vB true)] [(2,0,cSV A),(3,1,cSV B),(4,2,[Sn,Sn]),(5,3,[vS q1 (joinF A.x B.x i).items.length,vS q2 (joinF A.x B.x i).floors.length]),(7,gg,[vI e1.inc,vI e1.rank,vI e1.beat,vI e1.ver,.string e1.data]),(9,gg + 1,[vI e2.inc,vI e2.rank,vI e2.beat,vI e2.ver,.string e2.data]),(11,gg + 2,[vI e.inc,vI e.rank,vI e.beat,vI e.ver,.string e.data])] fun _ _ => ?_
  have hE : topE A.x B.x (i : Int) = e := by rw [topE,← he1,← he2,hem]
  have hO1 := hO.pres hP1
  have hP' := hP.trans hP1
  rw [hE] at hJi
  refine ⟨_,Od rfl,?_⟩
  refine ⟨_,rfl,(ac_impl_FloorOf A i s1 (hA.pres hP') ha).mono ?_⟩
  rintro _ s1 ⟨rfl,rfl⟩
  refine ⟨fun _ _ => rfl,?_⟩
  refine ⟨_,Od rfl,?_⟩
  refine ⟨ld_own rfl rfl rfl,?_⟩
  refine ⟨_,rfl,(ac_impl_FloorOf B i s1 (hB.pres hP') hb).mono ?_⟩
  rintro _ s1 ⟨rfl,rfl⟩
  refine ⟨.int .i64 (max (floorOf A.x.floors (i : Int)) (floorOf B.x.floors (i : Int))),ammL_max _ _,?_⟩
  refine Cm (gg + 3) s1 [Ml 2 0,Ml 3 1,Ml 4 2,Ml 5 3,(6,vI (i : Int)),Ml 7 gg,(9,vL 9 0 (gg + 1)),(11,vL 11 0 (gg + 2)),(12,vI (topF A.x B.x (i : Int))),(15,vB true)] [(2,0,cSV A),(3,1,cSV B),(4,2,[Sn,Sn]),(5,3,[vS q1 (joinF A.x B.x i).items.length,vS q2 (joinF A.x B.x i).floors.length]),(7,gg,[vI e1.inc,vI e1.rank,vI e1.beat,vI e1.ver,.string e1.data]),(9,gg + 1,[vI e2.inc,vI e2.rank,vI e2.beat,vI e2.ver,.string e2.data]),(11,gg + 2,[vI e.inc,vI e.rank,vI e.beat,vI e.ver,.string e.data])] fun _ _ => ?_
  refine ⟨_,rfl,?_⟩
  refine ⟨_,Od rfl,?_⟩
  refine ⟨_,rfl,?_⟩
  rintro (_|_) h2
  ·replace h2 : ¬ (e.inc > topF A.x B.x (i : Int)) := of_decide_eq_false h2
   refine Cm (gg + 3) s1 [Ml 2 0,Ml 3 1,Ml 4 2,Ml 5 3,(6,vI (i : Int)),Ml 7 gg,(9,vL 9 0 (gg + 1)),(11,vL 11 0 (gg + 2)),(12,vI (topF A.x B.x (i : Int))),(15,vB true),(43,vB false)] [(2,0,cSV A),(3,1,cSV B),(4,2,[Sn,Sn]),(5,3,[vS q1 (joinF A.x B.x i).items.length,vS q2 (joinF A.x B.x i).floors.length]),(7,gg,[vI e1.inc,vI e1.rank,vI e1.beat,vI e1.ver,.string e1.data]),(9,gg + 1,[vI e2.inc,vI e2.rank,vI e2.beat,vI e2.ver,.string e2.data]),(11,gg + 2,[vI e.inc,vI e.rank,vI e.beat,vI e.ver,.string e.data])] fun _ _ => ?_
   refine cxs ?_
   refine ⟨_,rfl,?_⟩
   rintro (_|_) h3
   ·replace h3 : ¬ (topF A.x B.x (i : Int) > 0) := of_decide_eq_false h3
    refine Cm (gg + 3) s1 [Ml 2 0,Ml 3 1,Ml 4 2,Ml 5 3,(6,vI (i : Int)),Ml 7 gg,(9,vL 9 0 (gg + 1)),(11,vL 11 0 (gg + 2)),(12,vI (topF A.x B.x (i : Int))),(15,vB true),(43,vB false),(53,vB false)] [(2,0,cSV A),(3,1,cSV B),(4,2,[Sn,Sn]),(5,3,[vS q1 (joinF A.x B.x i).items.length,vS q2 (joinF A.x B.x i).floors.length]),(7,gg,[vI e1.inc,vI e1.rank,vI e1.beat,vI e1.ver,.string e1.data]),(9,gg + 1,[vI e2.inc,vI e2.rank,vI e2.beat,vI e2.ver,.string e2.data]),(11,gg + 2,[vI e.inc,vI e.rank,vI e.beat,vI e.ver,.string e.data])] fun _ _ => ?_
    refine cxs ?_
    have e17 : IntKind.wrap .i64 ((i : Int) + 1) = ((i + 1 : Nat) : Int) := (wrap_i64 (by omega) (by omega)).trans (by omega)
    refine ⟨_,rfl,?_⟩
    rw [if_neg h2] at hJi
    rw [if_neg h3] at hJf
    exact ⟨(i + 1,q1,q2),5 - (i + 1),by omega,⟨rfl,rfl,rfl,rfl,congrArg (Value.int .i64) e17,trivial⟩,⟨rfl,rfl,rfl,(show some (3,[vS q1 (joinF A.x B.x i).items.length,vS q2 (joinF A.x B.x i).floors.length]) = some (3,[vS q1 (joinF A.x B.x (i + 1)).items.length,vS q2 (joinF A.x B.x (i + 1)).floors.length]) by rw [hJi,hJf]),trivial⟩,rfl,by omega,by rw [hJi,hJf]; exact hO1,hN1,hN2,hP'⟩
   ·replace h3 : topF A.x B.x (i : Int) > 0 := of_decide_eq_true h3
    refine Cm (gg + 3) s1 [Ml 2 0,Ml 3 1,Ml 4 2,Ml 5 3,(6,vI (i : Int)),Ml 7 gg,(9,vL 9 0 (gg + 1)),(11,vL 11 0 (gg + 2)),(12,vI (topF A.x B.x (i : Int))),(15,vB true),(43,vB false),(53,vB true)] [(2,0,cSV A),(3,1,cSV B),(4,2,[Sn,Sn]),(5,3,[vS q1 (joinF A.x B.x i).items.length,vS q2 (joinF A.x B.x i).floors.length]),(7,gg,[vI e1.inc,vI e1.rank,vI e1.beat,vI e1.ver,.string e1.data]),(9,gg + 1,[vI e2.inc,vI e2.rank,vI e2.beat,vI e2.ver,.string e2.data]),(11,gg + 2,[vI e.inc,vI e.rank,vI e.beat,vI e.ver,.string e.data])] fun _ _ => ?_
    refine ⟨_,rfl,?_⟩
    refine ⟨_,Od rfl,?_⟩
    refine ⟨_,rfl,?_⟩
    refine op_one (z := 2) (a := (⟨(i : Int),topF A.x B.x (i : Int)⟩ : Flr)) (f := cFlr) rfl rfl rfl rfl rfl (by decide) rfl (Lb rfl) rfl rfl rfl ?_
    refine op_add (z := 2) (st := s1) (f := cFlr) (b := 16) (l := (joinF A.x B.x i).floors) rfl rfl rfl rfl rfl rfl rfl (by decide) len_cFlr rfl rfl rfl (by omega) (by unfold maxLen; omega) (pcS_f hO1) ?_
    intro q6 s6 hO6 hP6 hN6
    refine ⟨_,rfl,?_⟩
    refine ⟨_,Os rfl,?_⟩
    refine Cm (gg + 3) s6 [Ml 2 0,Ml 3 1,Ml 4 2,Ml 5 3,(6,vI (i : Int)),Ml 7 gg,(9,vL 9 0 (gg + 1)),(11,vL 11 0 (gg + 2)),(12,vI (topF A.x B.x (i : Int))),(15,vB true),(43,vB false),(53,vB true)] [(2,0,cSV A),(3,1,cSV B),(4,2,[Sn,Sn]),(5,3,[vS q1 (joinF A.x B.x i).items.length,vS q6 ((joinF A.x B.x i).floors.length + 1)]),(7,gg,[vI e1.inc,vI e1.rank,vI e1.beat,vI e1.ver,.string e1.data]),(9,gg + 1,[vI e2.inc,vI e2.rank,vI e2.beat,vI e2.ver,.string e2.data]),(11,gg + 2,[vI e.inc,vI e.rank,vI e.beat,vI e.ver,.string e.data])] fun _ _ => ?_
    have e17 : IntKind.wrap .i64 ((i : Int) + 1) = ((i + 1 : Nat) : Int) := (wrap_i64 (by omega) (by omega)).trans (by omega)
    refine ⟨_,rfl,?_⟩
    rw [if_neg h2] at hJi
    rw [if_pos h3] at hJf
    exact ⟨(i + 1,q1,q6),5 - (i + 1),by omega,⟨rfl,rfl,rfl,rfl,congrArg (Value.int .i64) e17,trivial⟩,⟨rfl,rfl,rfl,(show some (3,[vS q1 (joinF A.x B.x i).items.length,vS q6 ((joinF A.x B.x i).floors.length + 1)]) = some (3,[vS q1 (joinF A.x B.x (i + 1)).items.length,vS q6 (joinF A.x B.x (i + 1)).floors.length]) by rw [hJi,hJf,List.length_append]; rfl),trivial⟩,rfl,by omega,by rw [hJi,hJf]; exact pcS_floors hO1 hP6 hO6 hN6,hN1,hN6.le hP'.1,hP6.pres hP' hN2⟩
  ·replace h2 : e.inc > topF A.x B.x (i : Int) := of_decide_eq_true h2
   refine Cm (gg + 3) s1 [Ml 2 0,Ml 3 1,Ml 4 2,Ml 5 3,(6,vI (i : Int)),Ml 7 gg,(9,vL 9 0 (gg + 1)),(11,vL 11 0 (gg + 2)),(12,vI (topF A.x B.x (i : Int))),(15,vB true),(43,vB true)] [(2,0,cSV A),(3,1,cSV B),(4,2,[Sn,Sn]),(5,3,[vS q1 (joinF A.x B.x i).items.length,vS q2 (joinF A.x B.x i).floors.length]),(7,gg,[vI e1.inc,vI e1.rank,vI e1.beat,vI e1.ver,.string e1.data]),(9,gg + 1,[vI e2.inc,vI e2.rank,vI e2.beat,vI e2.ver,.string e2.data]),(11,gg + 2,[vI e.inc,vI e.rank,vI e.beat,vI e.ver,.string e.data])] fun _ _ => ?_
   refine ⟨_,rfl,?_⟩
   refine ⟨_,Od rfl,?_⟩
   refine ⟨_,Od rfl,?_⟩
   refine ⟨_,rfl,?_⟩
   refine op_one (z := 6) (a := (⟨(i : Int),e⟩ : Itm)) (f := cItm) rfl rfl rfl rfl rfl (by decide) rfl (Lb rfl) rfl rfl rfl ?_
   refine op_add (z := 6) (st := s1) (f := cItm) (b := 56) (l := (joinF A.x B.x i).items) rfl rfl rfl rfl rfl rfl rfl (by decide) len_cItm rfl rfl rfl (by omega) (by unfold maxLen; omega) (pcS_i hO1) ?_
   intro q4 s4 hO4 hP4 hN4
   refine ⟨_,rfl,?_⟩
   refine ⟨_,Os rfl,?_⟩
   refine Cm (gg + 3) s4 [Ml 2 0,Ml 3 1,Ml 4 2,Ml 5 3,(6,vI (i : Int)),Ml 7 gg,(9,vL 9 0 (gg + 1)),(11,vL 11 0 (gg + 2)),(12,vI (topF A.x B.x (i : Int))),(15,vB true),(43,vB true)] [(2,0,cSV A),(3,1,cSV B),(4,2,[Sn,Sn]),(5,3,[vS q4 ((joinF A.x B.x i).items.length + 1),vS q2 (joinF A.x B.x i).floors.length]),(7,gg,[vI e1.inc,vI e1.rank,vI e1.beat,vI e1.ver,.string e1.data]),(9,gg + 1,[vI e2.inc,vI e2.rank,vI e2.beat,vI e2.ver,.string e2.data]),(11,gg + 2,[vI e.inc,vI e.rank,vI e.beat,vI e.ver,.string e.data])] fun _ _ => ?_
   have hO5 := pcS_items hO1 hP4 hO4 hN4
   have hP5 := hP4.pres hP' hN1
   refine ⟨_,rfl,?_⟩
   rintro (_|_) h3
   ·replace h3 : ¬ (topF A.x B.x (i : Int) > 0) := of_decide_eq_false h3
    refine Cm (gg + 3) s4 [Ml 2 0,Ml 3 1,Ml 4 2,Ml 5 3,(6,vI (i : Int)),Ml 7 gg,(9,vL 9 0 (gg + 1)),(11,vL 11 0 (gg + 2)),(12,vI (topF A.x B.x (i : Int))),(15,vB true),(43,vB true),(53,vB false)] [(2,0,cSV A),(3,1,cSV B),(4,2,[Sn,Sn]),(5,3,[vS q4 ((joinF A.x B.x i).items.length + 1),vS q2 (joinF A.x B.x i).floors.length]),(7,gg,[vI e1.inc,vI e1.rank,vI e1.beat,vI e1.ver,.string e1.data]),(9,gg + 1,[vI e2.inc,vI e2.rank,vI e2.beat,vI e2.ver,.string e2.data]),(11,gg + 2,[vI e.inc,vI e.rank,vI e.beat,vI e.ver,.string e.data])] fun _ _ => ?_
    refine cxs ?_
    have e17 : IntKind.wrap .i64 ((i : Int) + 1) = ((i + 1 : Nat) : Int) := (wrap_i64 (by omega) (by omega)).trans (by omega)
    refine ⟨_,rfl,?_⟩
    rw [if_pos h2] at hJi
    rw [if_neg h3] at hJf
    exact ⟨(i + 1,q4,q2),5 - (i + 1),by omega,⟨rfl,rfl,rfl,rfl,congrArg (Value.int .i64) e17,trivial⟩,⟨rfl,rfl,rfl,(show some (3,[vS q4 ((joinF A.x B.x i).items.length + 1),vS q2 (joinF A.x B.x i).floors.length]) = some (3,[vS q4 (joinF A.x B.x (i + 1)).items.length,vS q2 (joinF A.x B.x (i + 1)).floors.length]) by rw [hJi,hJf,List.length_append]; rfl),trivial⟩,rfl,by omega,by rw [hJi,hJf]; exact hO5,hN4.le hP'.1,hN2,hP5⟩
   ·replace h3 : topF A.x B.x (i : Int) > 0 := of_decide_eq_true h3
    refine Cm (gg + 3) s4 [Ml 2 0,Ml 3 1,Ml 4 2,Ml 5 3,(6,vI (i : Int)),Ml 7 gg,(9,vL 9 0 (gg + 1)),(11,vL 11 0 (gg + 2)),(12,vI (topF A.x B.x (i : Int))),(15,vB true),(43,vB true),(53,vB true)] [(2,0,cSV A),(3,1,cSV B),(4,2,[Sn,Sn]),(5,3,[vS q4 ((joinF A.x B.x i).items.length + 1),vS q2 (joinF A.x B.x i).floors.length]),(7,gg,[vI e1.inc,vI e1.rank,vI e1.beat,vI e1.ver,.string e1.data]),(9,gg + 1,[vI e2.inc,vI e2.rank,vI e2.beat,vI e2.ver,.string e2.data]),(11,gg + 2,[vI e.inc,vI e.rank,vI e.beat,vI e.ver,.string e.data])] fun _ _ => ?_
    refine ⟨_,rfl,?_⟩
    refine ⟨_,Od rfl,?_⟩
    refine ⟨_,rfl,?_⟩
    refine op_one (z := 2) (a := (⟨(i : Int),topF A.x B.x (i : Int)⟩ : Flr)) (f := cFlr) rfl rfl rfl rfl rfl (by decide) rfl (Lb rfl) rfl rfl rfl ?_
    refine op_add (z := 2) (st := s4) (f := cFlr) (b := 16) (l := (joinF A.x B.x i).floors) rfl rfl rfl rfl rfl rfl rfl (by decide) len_cFlr rfl rfl rfl (by omega) (by unfold maxLen; omega) (pcS_f hO5) ?_
    intro q6 s6 hO6 hP6 hN6
    refine ⟨_,rfl,?_⟩
    refine ⟨_,Os rfl,?_⟩
    refine Cm (gg + 3) s6 [Ml 2 0,Ml 3 1,Ml 4 2,Ml 5 3,(6,vI (i : Int)),Ml 7 gg,(9,vL 9 0 (gg + 1)),(11,vL 11 0 (gg + 2)),(12,vI (topF A.x B.x (i : Int))),(15,vB true),(43,vB true),(53,vB true)] [(2,0,cSV A),(3,1,cSV B),(4,2,[Sn,Sn]),(5,3,[vS q4 ((joinF A.x B.x i).items.length + 1),vS q6 ((joinF A.x B.x i).floors.length + 1)]),(7,gg,[vI e1.inc,vI e1.rank,vI e1.beat,vI e1.ver,.string e1.data]),(9,gg + 1,[vI e2.inc,vI e2.rank,vI e2.beat,vI e2.ver,.string e2.data]),(11,gg + 2,[vI e.inc,vI e.rank,vI e.beat,vI e.ver,.string e.data])] fun _ _ => ?_
    have e17 : IntKind.wrap .i64 ((i : Int) + 1) = ((i + 1 : Nat) : Int) := (wrap_i64 (by omega) (by omega)).trans (by omega)
    refine ⟨_,rfl,?_⟩
    rw [if_pos h2] at hJi
    rw [if_pos h3] at hJf
    exact ⟨(i + 1,q4,q6),5 - (i + 1),by omega,⟨rfl,rfl,rfl,rfl,congrArg (Value.int .i64) e17,trivial⟩,⟨rfl,rfl,rfl,(show some (3,[vS q4 ((joinF A.x B.x i).items.length + 1),vS q6 ((joinF A.x B.x i).floors.length + 1)]) = some (3,[vS q4 (joinF A.x B.x (i + 1)).items.length,vS q6 (joinF A.x B.x (i + 1)).floors.length]) by rw [hJi,hJf,List.length_append,List.length_append]; rfl),trivial⟩,rfl,by omega,by rw [hJi,hJf]; exact pcS_floors hO5 hP6 hO6 hN6,hN4.le hP'.1,hN6.le hP5.1,hP6.pres hP5 hN2⟩
theorem firstNZ_neg : ∀ l : List Int,firstNZ (l.map fun x => -x) = - firstNZ l
 | [] => rfl
 | x :: l => by
  have ih := firstNZ_neg l
  rw [List.map_cons,firstNZ,firstNZ]
  by_cases h : x = 0
  ·rw [if_pos h,if_pos (by omega),ih]
  ·rw [if_neg h,if_neg (by omega)]
theorem cmpI_neg (a b : Int) : cmpI b a = - cmpI a b := by
 unfold cmpI
 split <;> split <;> (try split) <;> omega
theorem compareBytes_neg : ∀ a b : List UInt8,Lib.compareBytes b a = - Lib.compareBytes a b
 | [],[] => by simp [Lib.compareBytes]
 | [],b :: bs => by simp [Lib.compareBytes]
 | a :: l,[] => by simp [Lib.compareBytes]
 | a :: l,b :: bs => by
  have ih := compareBytes_neg l bs
  unfold Lib.compareBytes
  by_cases h1 : a < b
  ·have h2 : ¬ b < a := fun h => UInt8.lt_irrefl _ (UInt8.lt_trans h h1)
   simp [h1,h2]
  ·by_cases h2 : b < a
   ·simp [h1,h2]
   ·simp [h1,h2,ih]
theorem entCmp_neg (a b : Ent) : entCmp b a = - entCmp a b := by
 unfold entCmp
 rw [← firstNZ_neg]
 simp only [List.map_cons,List.map_nil,cmpB,cmpI_neg a.inc b.inc,cmpI_neg a.rank b.rank,cmpI_neg a.beat b.beat,cmpI_neg a.ver b.ver,compareBytes_neg a.data.data.toList b.data.data.toList]
theorem entMax_zero {a : Ent} (h : 1 ≤ a.inc) : entMax a zEnt = a ∧ entMax zEnt a = a := by
 have h1 : entCmp a zEnt = 1 := by
  unfold entCmp firstNZ
  have : cmpI a.inc zEnt.inc = 1 := by unfold cmpI zEnt; simp only; rw [if_neg (by omega),if_pos (by omega)]
  rw [this]; rfl
 have h2 : entCmp zEnt a = -1 := by rw [entCmp_neg,h1]
 exact ⟨by rw [entMax,h1]; rfl,by rw [entMax,h2]; rfl⟩
theorem entMax_zz : entMax zEnt zEnt = zEnt := by unfold entMax; split <;> rfl
theorem floorOf_pos {l : List Flr} (h : marksOk l) (id : Int) : 0 ≤ floorOf l id ∧ floorOf l id ≤ 1000 := by
 have key : ∀ m : List Flr,(∀ x ∈ m,1 ≤ x.inc ∧ x.inc ≤ 1000) → 0 ≤ floorOf m id ∧ floorOf m id ≤ 1000 := by
  intro m
  induction m with
  | nil => intro _; simp [floorOf]
  | cons x m ih =>
   intro h
   have hx := h x (List.mem_cons_self ..)
   rw [floorOf]
   split
   ·omega
   ·exact ih fun y hy => h y (List.mem_cons_of_mem _ hy)
 refine key l fun x hx => ?_
 obtain ⟨i,hi⟩ := List.getElem?_of_mem hx
 exact (h i x hi).2.1
theorem entP_none {l : List Itm} {id : Int} {e : Ent} (h : (e,false) = entP l id) : e = zEnt := by
 induction l with
 | nil => rw [entP] at h; injection h
 | cons x l ih =>
  rw [entP] at h
  split at h
  ·injection h with _ h; cases h
  ·exact ih h
theorem ac_spec_l3Join (A B : SV) (st : St) (hA : RdS st A) (hB : RdS st B) (ha : bigS A.x) (hb : bigS B.x) (oa : stateOk A.x) (ob : stateOk B.x) : C 160 [.agg #[vS A.p A.x.items.length,vS A.q A.x.floors.length],.agg #[vS B.p B.x.items.length,vS B.q B.x.floors.length]] st (fun v s => ∃ u : SV,v = .agg #[vS u.p u.x.items.length,vS u.q u.x.floors.length] ∧ u.x = joinF A.x B.x 5 ∧ OwnP s (pcS u) ∧ NewP st.next (pcS u) ∧ Pres st s) := by
 refine AC.enterX (i := ⟨[2,3,4,5,8,10,12],[2,3,4,5,8,10,12,27,34,66,70,77],[0,1,2,3,4,5,6,7,8,9,10,11,12,15,26,52,64,69],[]⟩) [(5,[2],[3])] Tryz.func160 rfl rfl (by kernel_rfl) (by kernel_rfl) Tryz.ntmps160 (Lb rfl) rfl ?_
 iterate 3 refine ⟨_,rfl,?_⟩
 refine Cm 3 st [Ml 2 0,Ml 3 1,Ml 4 2] [(2,0,cSV A),(3,1,cSV B),(4,2,[Sn,Sn])] fun _ _ => ?_
 iterate 3 refine ⟨_,rfl,?_⟩
 refine cxs ?_
 refine Cm 4 st [Ml 2 0,Ml 3 1,Ml 4 2,Ml 5 3,(6,vI 0)] [(2,0,cSV A),(3,1,cSV B),(4,2,[Sn,Sn]),(5,3,[Sn,Sn])] fun _ _ => ?_
 refine AW.loopM (fun x : Nat × Option Addr × Option Addr => [(2,vL 2 0 (0)),(3,vL 3 0 (1)),(4,vL 4 0 (2)),(5,vL 5 0 (3)),(6,vI (x.1 : Int))]) (fun x : Nat × Option Addr × Option Addr => [(2,0,[vS A.p A.x.items.length,vS A.q A.x.floors.length]),(3,1,[vS B.p B.x.items.length,vS B.q B.x.floors.length]),(4,2,[.slice none 0 0,.slice none 0 0]),(5,3,[vS x.2.1 (joinF A.x B.x x.1).items.length,vS x.2.2 (joinF A.x B.x x.1).floors.length])]) (fun m (x : Nat × Option Addr × Option Addr) st' => m = 5 - x.1 ∧ x.1 ≤ 5 ∧ OwnP st' [pcR 6 cItm x.2.1 (joinF A.x B.x x.1).items,pcR 2 cFlr x.2.2 (joinF A.x B.x x.1).floors] ∧ New st.next x.2.1 ∧ New st.next x.2.2 ∧ Pres st st') (0,none,none) _ ⟨rfl,rfl,rfl,rfl,rfl,trivial⟩ ⟨rfl,rfl,rfl,rfl,trivial⟩ ⟨rfl,Nat.zero_le _,pcS_nil,New.none,New.none,Pres.refl _⟩ ?_
 rintro m ⟨i,q1,q2⟩ ρ0 ff gg st' ⟨rfl,hi,hO,hN1,hN2,hP⟩
 simp only at hi hO hN1 hN2
 have hJ := joinF_len A.x B.x i
 have hJi := joinF_items A.x B.x i
 have hJf := joinF_floors A.x B.x i
 refine ⟨_,rfl,?_⟩
 rintro (_|_) h1
 ·replace h1 : ¬ ((i : Int) < 5) := of_decide_eq_false h1
  refine Cm gg st' [Ml 2 0,Ml 3 1,Ml 4 2,Ml 5 3,(6,vI (i : Int)),(15,vB false)] [(2,0,cSV A),(3,1,cSV B),(4,2,[Sn,Sn]),(5,3,[vS q1 (joinF A.x B.x i).items.length,vS q2 (joinF A.x B.x i).floors.length])] fun _ _ => ?_
  refine cxs ?_
  refine ⟨_,Od rfl,?_⟩
  refine ⟨_,Os rfl,?_⟩
  refine cxs ?_
  have hil : i = 5 := by omega
  subst hil
  exact Rt ⟨⟨q1,q2,joinF A.x B.x 5⟩,rfl,rfl,hO,NewP.cons hN1 (NewP.cons hN2 NewP.nil),hP⟩
 ·replace h1 : (i : Int) < 5 := of_decide_eq_true h1
  refine Cm gg st' [Ml 2 0,Ml 3 1,Ml 4 2,Ml 5 3,(6,vI (i : Int)),(15,vB true)] [(2,0,cSV A),(3,1,cSV B),(4,2,[Sn,Sn]),(5,3,[vS q1 (joinF A.x B.x i).items.length,vS q2 (joinF A.x B.x i).floors.length])] fun _ _ => ?_
  refine cxs ?_
  refine ⟨_,Od rfl,?_⟩
  refine ⟨_,rfl,(ac_spec_FloorOf A i st' (hA.pres hP) ha).mono ?_⟩
  rintro _ st' ⟨rfl,rfl⟩
  refine ⟨fun _ _ => rfl,?_⟩
  refine ⟨_,Od rfl,?_⟩
  refine ⟨ld_own rfl rfl rfl,?_⟩
  refine ⟨_,rfl,(ac_spec_FloorOf B i st' (hB.pres hP) hb).mono ?_⟩
  rintro _ st' ⟨rfl,rfl⟩
  refine ⟨_,rfl,(ac_spec_l1Max (floorOf A.x.floors (i : Int)) (floorOf B.x.floors (i : Int)) st').mono ?_⟩
  rintro _ st' ⟨rfl,rfl⟩
  refine AX.meet 5 (fun x : Option Addr × Ent × Nat => [(2,vL 2 0 (0)),(3,vL 3 0 (1)),(4,vL 4 0 (2)),(5,vL 5 0 (3)),(6,vI (i : Int)),(7,vI (topF A.x B.x (i : Int))),(12,vL 12 0 (x.2.2)),(15,vB true)]) (fun x : Option Addr × Ent × Nat => [(2,0,[vS A.p A.x.items.length,vS A.q A.x.floors.length]),(3,1,[vS B.p B.x.items.length,vS B.q B.x.floors.length]),(4,2,[.slice none 0 0,.slice none 0 0]),(5,3,[vS q1 (joinF A.x B.x i).items.length,vS x.1 (joinF A.x B.x (i + 1)).floors.length]),(12,x.2.2,[vI x.2.1.inc,vI x.2.1.rank,vI x.2.1.beat,vI x.2.1.ver,.string x.2.1.data])]) (fun (x : Option Addr × Ent × Nat) st' => (joinF A.x B.x (i + 1)).items = (if x.2.1.inc > topF A.x B.x (i : Int) then (joinF A.x B.x i).items ++ [⟨(i : Int),x.2.1⟩] else (joinF A.x B.x i).items) ∧ OwnP st' [pcR 6 cItm q1 (joinF A.x B.x i).items,pcR 2 cFlr x.1 (joinF A.x B.x (i + 1)).floors] ∧ New st.next x.1 ∧ Pres st st') ?_ ?_
  ·refine AX.meet 0 (fun q6 : Option Addr => [(2,vL 2 0 (0)),(3,vL 3 0 (1)),(4,vL 4 0 (2)),(5,vL 5 0 (3)),(6,vI (i : Int)),(7,vI (topF A.x B.x (i : Int))),(15,vB true)]) (fun q6 : Option Addr => [(2,0,[vS A.p A.x.items.length,vS A.q A.x.floors.length]),(3,1,[vS B.p B.x.items.length,vS B.q B.x.floors.length]),(4,2,[.slice none 0 0,.slice none 0 0]),(5,3,[vS q1 (joinF A.x B.x i).items.length,vS q6 (joinF A.x B.x (i + 1)).floors.length])]) (fun (q6 : Option Addr) st' => OwnP st' [pcR 6 cItm q1 (joinF A.x B.x i).items,pcR 2 cFlr q6 (joinF A.x B.x (i + 1)).floors] ∧ New st.next q6 ∧ Pres st st') ?_ ?_
   ·refine Cm gg st' [Ml 2 0,Ml 3 1,Ml 4 2,Ml 5 3,(6,vI (i : Int)),(7,vI (topF A.x B.x (i : Int))),(15,vB true)] [(2,0,cSV A),(3,1,cSV B),(4,2,[Sn,Sn]),(5,3,[vS q1 (joinF A.x B.x i).items.length,vS q2 (joinF A.x B.x i).floors.length])] fun _ _ => ?_
    refine ⟨_,rfl,?_⟩
    rintro (_|_) h2
    ·replace h2 : ¬ (topF A.x B.x (i : Int) > 0) := of_decide_eq_false h2
     refine Cm gg st' [Ml 2 0,Ml 3 1,Ml 4 2,Ml 5 3,(6,vI (i : Int)),(7,vI (topF A.x B.x (i : Int))),(15,vB true),(26,vB false)] [(2,0,cSV A),(3,1,cSV B),(4,2,[Sn,Sn]),(5,3,[vS q1 (joinF A.x B.x i).items.length,vS q2 (joinF A.x B.x i).floors.length])] fun _ _ => ?_
     have hfe : (joinF A.x B.x (i + 1)).floors = (joinF A.x B.x i).floors := by rw [hJf,if_neg h2]
     exact ⟨q2,⟨rfl,rfl,rfl,rfl,rfl,rfl,rfl,trivial⟩,⟨rfl,rfl,rfl,(show some (3,[vS q1 (joinF A.x B.x i).items.length,vS q2 (joinF A.x B.x i).floors.length]) = _ by rw [hfe]),trivial⟩,by rw [hfe]; exact hO,hN2,hP⟩
    ·replace h2 : topF A.x B.x (i : Int) > 0 := of_decide_eq_true h2
     refine Cm gg st' [Ml 2 0,Ml 3 1,Ml 4 2,Ml 5 3,(6,vI (i : Int)),(7,vI (topF A.x B.x (i : Int))),(15,vB true),(26,vB true)] [(2,0,cSV A),(3,1,cSV B),(4,2,[Sn,Sn]),(5,3,[vS q1 (joinF A.x B.x i).items.length,vS q2 (joinF A.x B.x i).floors.length])] fun _ _ => ?_
     refine ⟨_,rfl,?_⟩
     refine ⟨_,Od rfl,?_⟩
     refine ⟨_,rfl,?_⟩
     refine op_one (z := 2) (a := (⟨(i : Int),topF A.x B.x (i : Int)⟩ : Flr)) (f := cFlr) rfl rfl rfl rfl rfl (by decide) rfl (Lb rfl) rfl rfl rfl ?_
     refine op_add (z := 2) (st := st') (f := cFlr) (b := 16) (l := (joinF A.x B.x i).floors) rfl rfl rfl rfl rfl rfl rfl (by decide) len_cFlr rfl rfl rfl (by omega) (by unfold maxLen; omega) (pcS_f hO) ?_
     intro q6 s6 hO6 hP6 hN6
     refine ⟨_,rfl,?_⟩
     refine ⟨_,Os rfl,?_⟩
     have hfe : (joinF A.x B.x (i + 1)).floors = (joinF A.x B.x i).floors ++ [⟨(i : Int),topF A.x B.x (i : Int)⟩] := by rw [hJf,if_pos h2]
     exact ⟨q6,⟨rfl,rfl,rfl,rfl,rfl,rfl,rfl,trivial⟩,⟨rfl,rfl,rfl,(show some (3,[vS q1 (joinF A.x B.x i).items.length,vS q6 ((joinF A.x B.x i).floors.length + 1)]) = _ by rw [hfe,List.length_append]; rfl),trivial⟩,by rw [hfe]; exact pcS_floors hO hP6 hO6 hN6,hN6.le hP.1,hP6.pres hP hN2⟩
   ·rintro q6 ρ0 ff gg st' ⟨hO6,hN6,hP6⟩
    refine ⟨_,Od rfl,?_⟩
    refine ⟨_,rfl,(ac_spec_EntryOf A i st' (hA.pres hP6) ha).mono ?_⟩
    rintro _ st' ⟨e1,b1,rfl,he1,rfl⟩
    rcases b1 with _|_
    ·iterate 3 refine ⟨_,rfl,?_⟩
     refine ⟨_,Os rfl,?_⟩
     refine Cm (gg + 1) st' [Ml 2 0,Ml 3 1,Ml 4 2,Ml 5 3,(6,vI (i : Int)),(7,vI (topF A.x B.x (i : Int))),Ml 8 gg,(9,vB false),(15,vB true)] [(2,0,cSV A),(3,1,cSV B),(4,2,[Sn,Sn]),(5,3,[vS q1 (joinF A.x B.x i).items.length,vS q6 (joinF A.x B.x (i + 1)).floors.length]),(8,gg,[vI e1.inc,vI e1.rank,vI e1.beat,vI e1.ver,.string e1.data])] fun _ _ => ?_
     refine ⟨_,Od rfl,?_⟩
     refine ⟨_,rfl,(ac_spec_EntryOf B i st' (hB.pres hP6) hb).mono ?_⟩
     rintro _ st' ⟨e2,b2,rfl,he2,rfl⟩
     rcases b2 with _|_
     ·iterate 3 refine ⟨_,rfl,?_⟩
      refine ⟨_,Os rfl,?_⟩
      refine Cm (gg + 2) st' [Ml 2 0,Ml 3 1,Ml 4 2,Ml 5 3,(6,vI (i : Int)),(7,vI (topF A.x B.x (i : Int))),Ml 8 gg,(9,vB false),(10,vL 10 0 (gg + 1)),(11,vB false),(15,vB true)] [(2,0,cSV A),(3,1,cSV B),(4,2,[Sn,Sn]),(5,3,[vS q1 (joinF A.x B.x i).items.length,vS q6 (joinF A.x B.x (i + 1)).floors.length]),(8,gg,[vI e1.inc,vI e1.rank,vI e1.beat,vI e1.ver,.string e1.data]),(10,gg + 1,[vI e2.inc,vI e2.rank,vI e2.beat,vI e2.ver,.string e2.data])] fun _ _ => ?_
      have hE : topE A.x B.x (i : Int) = zEnt := by rw [topE,← he1,← he2,entP_none he1,entP_none he2]; exact entMax_zz
      have hfa := (floorOf_pos oa.2 (i : Int)).1
      have hle : ¬ (topE A.x B.x (i : Int)).inc > topF A.x B.x (i : Int) := by rw [hE]; unfold topF zEnt; simp only; omega
      rw [if_neg hle] at hJi
      iterate 3 refine ⟨_,rfl,?_⟩
      refine Cm (gg + 2) st' [Ml 2 0,Ml 3 1,Ml 4 2,Ml 5 3,(6,vI (i : Int)),(7,vI (topF A.x B.x (i : Int))),Ml 8 gg,(9,vB false),(10,vL 10 0 (gg + 1)),(11,vB false),(15,vB true),(52,vB true)] [(2,0,cSV A),(3,1,cSV B),(4,2,[Sn,Sn]),(5,3,[vS q1 (joinF A.x B.x i).items.length,vS q6 (joinF A.x B.x (i + 1)).floors.length]),(8,gg,[vI e1.inc,vI e1.rank,vI e1.beat,vI e1.ver,.string e1.data]),(10,gg + 1,[vI e2.inc,vI e2.rank,vI e2.beat,vI e2.ver,.string e2.data])] fun _ _ => ?_
      refine cxs ?_
      have e17 : IntKind.wrap .i64 ((i : Int) + 1) = ((i + 1 : Nat) : Int) := (wrap_i64 (by omega) (by omega)).trans (by omega)
      refine ⟨_,rfl,?_⟩
      rw [← hJi] at hO6
      exact ⟨(i + 1,q1,q6),5 - (i + 1),by omega,⟨rfl,rfl,rfl,rfl,congrArg (Value.int .i64) e17,trivial⟩,⟨rfl,rfl,rfl,(show some (3,[vS q1 (joinF A.x B.x i).items.length,vS q6 (joinF A.x B.x (i + 1)).floors.length]) = _ by rw [hJi]),trivial⟩,rfl,by omega,hO6,hN1,hN6,hP6⟩
     ·iterate 3 refine ⟨_,rfl,?_⟩
      refine ⟨_,Os rfl,?_⟩
      refine Cm (gg + 2) st' [Ml 2 0,Ml 3 1,Ml 4 2,Ml 5 3,(6,vI (i : Int)),(7,vI (topF A.x B.x (i : Int))),Ml 8 gg,(9,vB false),(10,vL 10 0 (gg + 1)),(11,vB true),(15,vB true)] [(2,0,cSV A),(3,1,cSV B),(4,2,[Sn,Sn]),(5,3,[vS q1 (joinF A.x B.x i).items.length,vS q6 (joinF A.x B.x (i + 1)).floors.length]),(8,gg,[vI e1.inc,vI e1.rank,vI e1.beat,vI e1.ver,.string e1.data]),(10,gg + 1,[vI e2.inc,vI e2.rank,vI e2.beat,vI e2.ver,.string e2.data])] fun _ _ => ?_
      have hE : topE A.x B.x (i : Int) = entMax e1 e2 := by rw [topE,← he1,← he2]
      have hfa := (floorOf_pos oa.2 (i : Int)).1
      rw [hE] at hJi
      iterate 3 refine ⟨_,rfl,?_⟩
      refine Cm (gg + 2) st' [Ml 2 0,Ml 3 1,Ml 4 2,Ml 5 3,(6,vI (i : Int)),(7,vI (topF A.x B.x (i : Int))),Ml 8 gg,(9,vB false),(10,vL 10 0 (gg + 1)),(11,vB true),(15,vB true),(52,vB false)] [(2,0,cSV A),(3,1,cSV B),(4,2,[Sn,Sn]),(5,3,[vS q1 (joinF A.x B.x i).items.length,vS q6 (joinF A.x B.x (i + 1)).floors.length]),(8,gg,[vI e1.inc,vI e1.rank,vI e1.beat,vI e1.ver,.string e1.data]),(10,gg + 1,[vI e2.inc,vI e2.rank,vI e2.beat,vI e2.ver,.string e2.data])] fun _ _ => ?_
      refine cxs ?_
      refine ⟨_,Od rfl,?_⟩
      refine ⟨_,rfl,?_⟩
      refine ⟨_,Os rfl,?_⟩
      refine Cm (gg + 3) st' [Ml 2 0,Ml 3 1,Ml 4 2,Ml 5 3,(6,vI (i : Int)),(7,vI (topF A.x B.x (i : Int))),Ml 8 gg,(9,vB false),(10,vL 10 0 (gg + 1)),(11,vB true),(12,vL 12 0 (gg + 2)),(15,vB true),(52,vB false)] [(2,0,cSV A),(3,1,cSV B),(4,2,[Sn,Sn]),(5,3,[vS q1 (joinF A.x B.x i).items.length,vS q6 (joinF A.x B.x (i + 1)).floors.length]),(8,gg,[vI e1.inc,vI e1.rank,vI e1.beat,vI e1.ver,.string e1.data]),(10,gg + 1,[vI e2.inc,vI e2.rank,vI e2.beat,vI e2.ver,.string e2.data]),(12,gg + 2,[vI e1.inc,vI e1.rank,vI e1.beat,vI e1.ver,.string e1.data])] fun _ _ => ?_
      iterate 2 refine ⟨_,rfl,?_⟩
      refine Cm (gg + 3) st' [Ml 2 0,Ml 3 1,Ml 4 2,Ml 5 3,(6,vI (i : Int)),(7,vI (topF A.x B.x (i : Int))),Ml 8 gg,(9,vB false),(10,vL 10 0 (gg + 1)),(11,vB true),(12,vL 12 0 (gg + 2)),(15,vB true),(52,vB false),(64,vB true)] [(2,0,cSV A),(3,1,cSV B),(4,2,[Sn,Sn]),(5,3,[vS q1 (joinF A.x B.x i).items.length,vS q6 (joinF A.x B.x (i + 1)).floors.length]),(8,gg,[vI e1.inc,vI e1.rank,vI e1.beat,vI e1.ver,.string e1.data]),(10,gg + 1,[vI e2.inc,vI e2.rank,vI e2.beat,vI e2.ver,.string e2.data]),(12,gg + 2,[vI e1.inc,vI e1.rank,vI e1.beat,vI e1.ver,.string e1.data])] fun _ _ => ?_
      have hm : entMax e1 e2 = e2 := by rw [entP_none he1]; exact (entMax_zero (ent_ok ob he2).1.1).2
      rw [hm] at hJi
      have hO7 := hO6
      have hP8 := hP6
      refine ⟨_,Od rfl,?_⟩
      refine ⟨_,Os rfl,?_⟩
      exact ⟨(q6,e2,_),⟨rfl,rfl,rfl,rfl,rfl,rfl,rfl,rfl,trivial⟩,⟨rfl,rfl,rfl,rfl,rfl,trivial⟩,hJi,hO7,hN6,hP8⟩
    ·iterate 3 refine ⟨_,rfl,?_⟩
     refine ⟨_,Os rfl,?_⟩
     refine Cm (gg + 1) st' [Ml 2 0,Ml 3 1,Ml 4 2,Ml 5 3,(6,vI (i : Int)),(7,vI (topF A.x B.x (i : Int))),Ml 8 gg,(9,vB true),(15,vB true)] [(2,0,cSV A),(3,1,cSV B),(4,2,[Sn,Sn]),(5,3,[vS q1 (joinF A.x B.x i).items.length,vS q6 (joinF A.x B.x (i + 1)).floors.length]),(8,gg,[vI e1.inc,vI e1.rank,vI e1.beat,vI e1.ver,.string e1.data])] fun _ _ => ?_
     refine ⟨_,Od rfl,?_⟩
     refine ⟨_,rfl,(ac_spec_EntryOf B i st' (hB.pres hP6) hb).mono ?_⟩
     rintro _ st' ⟨e2,b2,rfl,he2,rfl⟩
     rcases b2 with _|_
     ·iterate 3 refine ⟨_,rfl,?_⟩
      refine ⟨_,Os rfl,?_⟩
      refine Cm (gg + 2) st' [Ml 2 0,Ml 3 1,Ml 4 2,Ml 5 3,(6,vI (i : Int)),(7,vI (topF A.x B.x (i : Int))),Ml 8 gg,(9,vB true),(10,vL 10 0 (gg + 1)),(11,vB false),(15,vB true)] [(2,0,cSV A),(3,1,cSV B),(4,2,[Sn,Sn]),(5,3,[vS q1 (joinF A.x B.x i).items.length,vS q6 (joinF A.x B.x (i + 1)).floors.length]),(8,gg,[vI e1.inc,vI e1.rank,vI e1.beat,vI e1.ver,.string e1.data]),(10,gg + 1,[vI e2.inc,vI e2.rank,vI e2.beat,vI e2.ver,.string e2.data])] fun _ _ => ?_
      have hE : topE A.x B.x (i : Int) = entMax e1 e2 := by rw [topE,← he1,← he2]
      have hfa := (floorOf_pos oa.2 (i : Int)).1
      rw [hE] at hJi
      iterate 2 refine ⟨_,rfl,?_⟩
      refine Cm (gg + 2) st' [Ml 2 0,Ml 3 1,Ml 4 2,Ml 5 3,(6,vI (i : Int)),(7,vI (topF A.x B.x (i : Int))),Ml 8 gg,(9,vB true),(10,vL 10 0 (gg + 1)),(11,vB false),(15,vB true),(52,vB false)] [(2,0,cSV A),(3,1,cSV B),(4,2,[Sn,Sn]),(5,3,[vS q1 (joinF A.x B.x i).items.length,vS q6 (joinF A.x B.x (i + 1)).floors.length]),(8,gg,[vI e1.inc,vI e1.rank,vI e1.beat,vI e1.ver,.string e1.data]),(10,gg + 1,[vI e2.inc,vI e2.rank,vI e2.beat,vI e2.ver,.string e2.data])] fun _ _ => ?_
      refine cxs ?_
      refine ⟨_,Od rfl,?_⟩
      refine ⟨_,rfl,?_⟩
      refine ⟨_,Os rfl,?_⟩
      refine Cm (gg + 3) st' [Ml 2 0,Ml 3 1,Ml 4 2,Ml 5 3,(6,vI (i : Int)),(7,vI (topF A.x B.x (i : Int))),Ml 8 gg,(9,vB true),(10,vL 10 0 (gg + 1)),(11,vB false),(12,vL 12 0 (gg + 2)),(15,vB true),(52,vB false)] [(2,0,cSV A),(3,1,cSV B),(4,2,[Sn,Sn]),(5,3,[vS q1 (joinF A.x B.x i).items.length,vS q6 (joinF A.x B.x (i + 1)).floors.length]),(8,gg,[vI e1.inc,vI e1.rank,vI e1.beat,vI e1.ver,.string e1.data]),(10,gg + 1,[vI e2.inc,vI e2.rank,vI e2.beat,vI e2.ver,.string e2.data]),(12,gg + 2,[vI e1.inc,vI e1.rank,vI e1.beat,vI e1.ver,.string e1.data])] fun _ _ => ?_
      iterate 3 refine ⟨_,rfl,?_⟩
      refine Cm (gg + 3) st' [Ml 2 0,Ml 3 1,Ml 4 2,Ml 5 3,(6,vI (i : Int)),(7,vI (topF A.x B.x (i : Int))),Ml 8 gg,(9,vB true),(10,vL 10 0 (gg + 1)),(11,vB false),(12,vL 12 0 (gg + 2)),(15,vB true),(52,vB false),(64,vB false)] [(2,0,cSV A),(3,1,cSV B),(4,2,[Sn,Sn]),(5,3,[vS q1 (joinF A.x B.x i).items.length,vS q6 (joinF A.x B.x (i + 1)).floors.length]),(8,gg,[vI e1.inc,vI e1.rank,vI e1.beat,vI e1.ver,.string e1.data]),(10,gg + 1,[vI e2.inc,vI e2.rank,vI e2.beat,vI e2.ver,.string e2.data]),(12,gg + 2,[vI e1.inc,vI e1.rank,vI e1.beat,vI e1.ver,.string e1.data])] fun _ _ => ?_
      have hm : entMax e1 e2 = e1 := by rw [entP_none he2]; exact (entMax_zero (ent_ok oa he1).1.1).1
      rw [hm] at hJi
      have hO7 := hO6
      have hP8 := hP6
      exact ⟨(q6,e1,_),⟨rfl,rfl,rfl,rfl,rfl,rfl,rfl,rfl,trivial⟩,⟨rfl,rfl,rfl,rfl,rfl,trivial⟩,hJi,hO7,hN6,hP8⟩
     ·iterate 3 refine ⟨_,rfl,?_⟩
      refine ⟨_,Os rfl,?_⟩
      refine Cm (gg + 2) st' [Ml 2 0,Ml 3 1,Ml 4 2,Ml 5 3,(6,vI (i : Int)),(7,vI (topF A.x B.x (i : Int))),Ml 8 gg,(9,vB true),(10,vL 10 0 (gg + 1)),(11,vB true),(15,vB true)] [(2,0,cSV A),(3,1,cSV B),(4,2,[Sn,Sn]),(5,3,[vS q1 (joinF A.x B.x i).items.length,vS q6 (joinF A.x B.x (i + 1)).floors.length]),(8,gg,[vI e1.inc,vI e1.rank,vI e1.beat,vI e1.ver,.string e1.data]),(10,gg + 1,[vI e2.inc,vI e2.rank,vI e2.beat,vI e2.ver,.string e2.data])] fun _ _ => ?_
      have hE : topE A.x B.x (i : Int) = entMax e1 e2 := by rw [topE,← he1,← he2]
      have hfa := (floorOf_pos oa.2 (i : Int)).1
      rw [hE] at hJi
      iterate 2 refine ⟨_,rfl,?_⟩
      refine Cm (gg + 2) st' [Ml 2 0,Ml 3 1,Ml 4 2,Ml 5 3,(6,vI (i : Int)),(7,vI (topF A.x B.x (i : Int))),Ml 8 gg,(9,vB true),(10,vL 10 0 (gg + 1)),(11,vB true),(15,vB true),(52,vB false)] [(2,0,cSV A),(3,1,cSV B),(4,2,[Sn,Sn]),(5,3,[vS q1 (joinF A.x B.x i).items.length,vS q6 (joinF A.x B.x (i + 1)).floors.length]),(8,gg,[vI e1.inc,vI e1.rank,vI e1.beat,vI e1.ver,.string e1.data]),(10,gg + 1,[vI e2.inc,vI e2.rank,vI e2.beat,vI e2.ver,.string e2.data])] fun _ _ => ?_
      refine cxs ?_
      refine ⟨_,Od rfl,?_⟩
      refine ⟨_,rfl,?_⟩
      refine ⟨_,Os rfl,?_⟩
      refine Cm (gg + 3) st' [Ml 2 0,Ml 3 1,Ml 4 2,Ml 5 3,(6,vI (i : Int)),(7,vI (topF A.x B.x (i : Int))),Ml 8 gg,(9,vB true),(10,vL 10 0 (gg + 1)),(11,vB true),(12,vL 12 0 (gg + 2)),(15,vB true),(52,vB false)] [(2,0,cSV A),(3,1,cSV B),(4,2,[Sn,Sn]),(5,3,[vS q1 (joinF A.x B.x i).items.length,vS q6 (joinF A.x B.x (i + 1)).floors.length]),(8,gg,[vI e1.inc,vI e1.rank,vI e1.beat,vI e1.ver,.string e1.data]),(10,gg + 1,[vI e2.inc,vI e2.rank,vI e2.beat,vI e2.ver,.string e2.data]),(12,gg + 2,[vI e1.inc,vI e1.rank,vI e1.beat,vI e1.ver,.string e1.data])] fun _ _ => ?_
      refine ⟨_,rfl,?_⟩
      refine ⟨_,Od rfl,?_⟩
      refine ⟨_,Od rfl,?_⟩
      refine ⟨_,rfl,(ac_spec_EntryCmp e2 e1 st').mono ?_⟩
      rintro _ s7 ⟨rfl,hP7⟩
      refine ⟨_,rfl,?_⟩
      rintro (_|_) h3
      ·replace h3 : ¬ (entCmp e2 e1 > 0) := of_decide_eq_false h3
       iterate 2 refine ⟨_,rfl,?_⟩
       refine Cm (gg + 3) s7 [Ml 2 0,Ml 3 1,Ml 4 2,Ml 5 3,(6,vI (i : Int)),(7,vI (topF A.x B.x (i : Int))),Ml 8 gg,(9,vB true),(10,vL 10 0 (gg + 1)),(11,vB true),(12,vL 12 0 (gg + 2)),(15,vB true),(52,vB false),(64,vB false)] [(2,0,cSV A),(3,1,cSV B),(4,2,[Sn,Sn]),(5,3,[vS q1 (joinF A.x B.x i).items.length,vS q6 (joinF A.x B.x (i + 1)).floors.length]),(8,gg,[vI e1.inc,vI e1.rank,vI e1.beat,vI e1.ver,.string e1.data]),(10,gg + 1,[vI e2.inc,vI e2.rank,vI e2.beat,vI e2.ver,.string e2.data]),(12,gg + 2,[vI e1.inc,vI e1.rank,vI e1.beat,vI e1.ver,.string e1.data])] fun _ _ => ?_
       have hm : entMax e1 e2 = e1 := by rw [entMax,if_neg (by have := entCmp_neg e1 e2; omega)]
       rw [hm] at hJi
       have hO7 := hO6.pres hP7
       have hP8 := hP6.trans hP7
       exact ⟨(q6,e1,_),⟨rfl,rfl,rfl,rfl,rfl,rfl,rfl,rfl,trivial⟩,⟨rfl,rfl,rfl,rfl,rfl,trivial⟩,hJi,hO7,hN6,hP8⟩
      ·replace h3 : entCmp e2 e1 > 0 := of_decide_eq_true h3
       iterate 2 refine ⟨_,rfl,?_⟩
       refine Cm (gg + 3) s7 [Ml 2 0,Ml 3 1,Ml 4 2,Ml 5 3,(6,vI (i : Int)),(7,vI (topF A.x B.x (i : Int))),Ml 8 gg,(9,vB true),(10,vL 10 0 (gg + 1)),(11,vB true),(12,vL 12 0 (gg + 2)),(15,vB true),(52,vB false),(64,vB true)] [(2,0,cSV A),(3,1,cSV B),(4,2,[Sn,Sn]),(5,3,[vS q1 (joinF A.x B.x i).items.length,vS q6 (joinF A.x B.x (i + 1)).floors.length]),(8,gg,[vI e1.inc,vI e1.rank,vI e1.beat,vI e1.ver,.string e1.data]),(10,gg + 1,[vI e2.inc,vI e2.rank,vI e2.beat,vI e2.ver,.string e2.data]),(12,gg + 2,[vI e1.inc,vI e1.rank,vI e1.beat,vI e1.ver,.string e1.data])] fun _ _ => ?_
       have hm : entMax e1 e2 = e2 := by rw [entMax,if_pos (by have := entCmp_neg e1 e2; omega)]
       rw [hm] at hJi
       have hO7 := hO6.pres hP7
       have hP8 := hP6.trans hP7
       refine ⟨_,Od rfl,?_⟩
       refine ⟨_,Os rfl,?_⟩
       exact ⟨(q6,e2,_),⟨rfl,rfl,rfl,rfl,rfl,rfl,rfl,rfl,trivial⟩,⟨rfl,rfl,rfl,rfl,rfl,trivial⟩,hJi,hO7,hN6,hP8⟩
  ·rintro ⟨q6,e,g12⟩ ρ0 ff gg st' ⟨hJi2,hO7,hN6,hP8⟩
   simp only at hJi2 hO7 hN6
   refine ⟨_,rfl,?_⟩
   refine ⟨_,Od rfl,?_⟩
   refine ⟨_,rfl,?_⟩
   rintro (_|_) h4
   ·replace h4 : ¬ (e.inc > topF A.x B.x (i : Int)) := of_decide_eq_false h4
    refine Cm gg st' [Ml 2 0,Ml 3 1,Ml 4 2,Ml 5 3,(6,vI (i : Int)),(7,vI (topF A.x B.x (i : Int))),Ml 12 g12,(15,vB true),(69,vB false)] [(2,0,cSV A),(3,1,cSV B),(4,2,[Sn,Sn]),(5,3,[vS q1 (joinF A.x B.x i).items.length,vS q6 (joinF A.x B.x (i + 1)).floors.length]),(12,g12,[vI e.inc,vI e.rank,vI e.beat,vI e.ver,.string e.data])] fun _ _ => ?_
    refine cxs ?_
    have e17 : IntKind.wrap .i64 ((i : Int) + 1) = ((i + 1 : Nat) : Int) := (wrap_i64 (by omega) (by omega)).trans (by omega)
    refine ⟨_,rfl,?_⟩
    rw [if_neg h4] at hJi2
    exact ⟨(i + 1,q1,q6),5 - (i + 1),by omega,⟨rfl,rfl,rfl,rfl,congrArg (Value.int .i64) e17,trivial⟩,⟨rfl,rfl,rfl,(show some (3,[vS q1 (joinF A.x B.x i).items.length,vS q6 (joinF A.x B.x (i + 1)).floors.length]) = _ by rw [hJi2]),trivial⟩,rfl,by omega,by rw [hJi2]; exact hO7,hN1,hN6,hP8⟩
   ·replace h4 : e.inc > topF A.x B.x (i : Int) := of_decide_eq_true h4
    refine Cm gg st' [Ml 2 0,Ml 3 1,Ml 4 2,Ml 5 3,(6,vI (i : Int)),(7,vI (topF A.x B.x (i : Int))),Ml 12 g12,(15,vB true),(69,vB true)] [(2,0,cSV A),(3,1,cSV B),(4,2,[Sn,Sn]),(5,3,[vS q1 (joinF A.x B.x i).items.length,vS q6 (joinF A.x B.x (i + 1)).floors.length]),(12,g12,[vI e.inc,vI e.rank,vI e.beat,vI e.ver,.string e.data])] fun _ _ => ?_
    refine ⟨_,rfl,?_⟩
    refine ⟨_,Od rfl,?_⟩
    refine ⟨_,Od rfl,?_⟩
    refine ⟨_,rfl,?_⟩
    refine op_one (z := 6) (a := (⟨(i : Int),e⟩ : Itm)) (f := cItm) rfl rfl rfl rfl rfl (by decide) rfl (Lb rfl) rfl rfl rfl ?_
    refine op_add (z := 6) (st := st') (f := cItm) (b := 56) (l := (joinF A.x B.x i).items) rfl rfl rfl rfl rfl rfl rfl (by decide) len_cItm rfl rfl rfl (by omega) (by unfold maxLen; omega) (pcS_i hO7) ?_
    intro q8 s8 hO8 hP9 hN8
    refine ⟨_,rfl,?_⟩
    refine ⟨_,Os rfl,?_⟩
    refine Cm gg s8 [Ml 2 0,Ml 3 1,Ml 4 2,Ml 5 3,(6,vI (i : Int)),(7,vI (topF A.x B.x (i : Int))),Ml 12 g12,(15,vB true),(69,vB true)] [(2,0,cSV A),(3,1,cSV B),(4,2,[Sn,Sn]),(5,3,[vS q8 ((joinF A.x B.x i).items.length + 1),vS q6 (joinF A.x B.x (i + 1)).floors.length]),(12,g12,[vI e.inc,vI e.rank,vI e.beat,vI e.ver,.string e.data])] fun _ _ => ?_
    have e17 : IntKind.wrap .i64 ((i : Int) + 1) = ((i + 1 : Nat) : Int) := (wrap_i64 (by omega) (by omega)).trans (by omega)
    refine ⟨_,rfl,?_⟩
    rw [if_pos h4] at hJi2
    exact ⟨(i + 1,q8,q6),5 - (i + 1),by omega,⟨rfl,rfl,rfl,rfl,congrArg (Value.int .i64) e17,trivial⟩,⟨rfl,rfl,rfl,(show some (3,[vS q8 ((joinF A.x B.x i).items.length + 1),vS q6 (joinF A.x B.x (i + 1)).floors.length]) = _ by rw [hJi2,List.length_append]; rfl),trivial⟩,rfl,by omega,by rw [hJi2]; exact pcS_items hO7 hP9 hO8 hN8,hN8.le hP8.1,hN6,hP9.pres hP8 hN1⟩
theorem pick_get {β : Type} {f : Nat → Option β} {n i : Nat} {x : β} (h : ((List.range n).filterMap f)[i]? = some x) : ∃ j,j < n ∧ f j = some x := by
 obtain ⟨j,hj,hf⟩ := List.mem_filterMap.1 (List.mem_of_getElem? h)
 exact ⟨j,List.mem_range.1 hj,hf⟩
theorem pick_lt {β : Type} {f : Nat → Option β} {id : β → Int} (hid : ∀ j x,f j = some x → id x = (j : Int)) {n i : Nat} {x y : β} (h : ((List.range n).filterMap f)[i]? = some x) (h0 : 0 < i) (hy : ((List.range n).filterMap f)[i - 1]? = some y) : id y < id x := by
 have hp : ((List.range n).filterMap f).Pairwise fun a b => id a < id b := by
  rw [List.pairwise_filterMap]
  refine List.Pairwise.imp ?_ List.pairwise_lt_range
  intro a b hab u hu v hv
  rw [hid a u hu,hid b v hv]
  omega
 rw [List.pairwise_iff_getElem] at hp
 obtain ⟨h1,h2⟩ := List.getElem?_eq_some_iff.1 h
 obtain ⟨h3,h4⟩ := List.getElem?_eq_some_iff.1 hy
 rw [← h2,← h4]
 exact hp _ _ h3 h1 (by omega)
theorem floorOf_snoc (l : List Flr) (x : Flr) (id : Int) : floorOf (l ++ [x]) id = if (∃ y ∈ l,y.id = id) then floorOf l id else if x.id = id then x.inc else 0 := by
 induction l with
 | nil => simp [floorOf]
 | cons y l ih =>
  rw [List.cons_append,floorOf,floorOf,ih]
  by_cases h : y.id = id
  ·simp [h]
  ·simp [h]
theorem floorOf_pick (t : Int → Int) (id : Nat) : ∀ n,floorOf ((List.range n).filterMap fun (j : Nat) => if t (j : Int) > 0 then some (⟨(j : Int),t (j : Int)⟩ : Flr) else none) (id : Int) = if id < n ∧ t (id : Int) > 0 then t (id : Int) else 0
 | 0 => by simp [floorOf]
 | n + 1 => by
  have ih := floorOf_pick t id n
  rw [List.range_succ,List.filterMap_append]
  have hex : (∃ y ∈ (List.range n).filterMap (fun (j : Nat) => if t (j : Int) > 0 then some (⟨(j : Int),t (j : Int)⟩ : Flr) else none),y.id = (id : Int)) ↔ id < n ∧ t (id : Int) > 0 := by
   constructor
   ·rintro ⟨y,hy,hid⟩
    obtain ⟨j,hj,hf⟩ := List.mem_filterMap.1 hy
    split at hf
    ·rename_i ht
     injection hf with hf
     rw [← hf] at hid
     have hid : (j : Int) = (id : Int) := hid
     have : j = id := by omega
     exact ⟨by rw [← this]; exact List.mem_range.1 hj,by rw [← this]; exact ht⟩
    ·cases hf
   ·rintro ⟨h1,h2⟩
    exact ⟨⟨(id : Int),t (id : Int)⟩,List.mem_filterMap.2 ⟨id,List.mem_range.2 h1,by rw [if_pos h2]⟩,rfl⟩
  by_cases hn : t (n : Int) > 0
  ·simp only [List.filterMap_cons,List.filterMap_nil,hn,if_true]
   rw [floorOf_snoc]
   by_cases h1 : id < n ∧ t (id : Int) > 0
   ·rw [if_pos (hex.2 h1),ih,if_pos h1,if_pos ⟨by omega,h1.2⟩]
   ·rw [if_neg (fun h => h1 (hex.1 h))]
    by_cases h2 : n = id
    ·subst h2; rw [if_pos rfl,if_pos ⟨Nat.lt_succ_self _,hn⟩]
    ·rw [if_neg (by simp only; omega),if_neg (fun h => h1 ⟨by omega,h.2⟩)]
  ·simp only [List.filterMap_cons,List.filterMap_nil,hn,if_false,List.append_nil]
   rw [ih]
   by_cases h1 : id < n ∧ t (id : Int) > 0
   ·rw [if_pos h1,if_pos ⟨by omega,h1.2⟩]
   ·rw [if_neg h1,if_neg (fun h => h1 ⟨by
     rcases Nat.lt_or_ge id n with h3 | h3
     ·exact h3
     ·have : id = n := by omega
      subst this; exact absurd h.2 hn,h.2⟩)]
theorem topF_pos {a b : Sta} (ha : marksOk a.floors) (hb : marksOk b.floors) (id : Int) : 0 ≤ topF a b id ∧ topF a b id ≤ 1000 := by
 have h1 := floorOf_pos ha id
 have h2 := floorOf_pos hb id
 unfold topF
 omega
theorem floorOf_join {a b : Sta} (ha : marksOk a.floors) (hb : marksOk b.floors) {n id : Nat} (h : id < n) : floorOf (joinF a b n).floors (id : Int) = topF a b (id : Int) := by
 have h1 := (topF_pos ha hb (id : Int)).1
 show floorOf ((List.range n).filterMap fun (j : Nat) => if topF a b (j : Int) > 0 then some (⟨(j : Int),topF a b (j : Int)⟩ : Flr) else none) (id : Int) = _
 rw [floorOf_pick (fun i => topF a b i) id n]
 by_cases h2 : topF a b (id : Int) > 0
 ·rw [if_pos ⟨h,h2⟩]
 ·rw [if_neg (fun h => h2 h.2)]; omega
theorem entP_cases {s : Sta} (h : ∀ (j : Nat) x,s.items[j]? = some x → itemOk s j x) (id : Int) : (entP s.items id).1 = zEnt ∨ entOk (entP s.items id).1 := by
 rcases hb : (entP s.items id) with ⟨e,b⟩
 cases b with
 | false => exact .inl (entP_none (e := e) (id := id) hb.symm)
 | true =>
  obtain ⟨j,x,h1,h2,_⟩ := entP_mem (e := e) (id := id) hb.symm
  exact .inr (h2 ▸ (h j x h1).2.1)
theorem stateOk_join {a b : Sta} (ha : stateOk a) (hb : stateOk b) : stateOk (joinF a b 5) := by
 refine ⟨fun i x hx => ?_,fun i x hx => ?_⟩
 ·have hx' : ((List.range 5).filterMap fun (j : Nat) => if (topE a b (j : Int)).inc > topF a b (j : Int) then some (⟨(j : Int),topE a b (j : Int)⟩ : Itm) else none)[i]? = some x := hx
  obtain ⟨j,hj,hf⟩ := pick_get hx'
  split at hf
  ·rename_i ht
   injection hf with hf
   have hfl := floorOf_join ha.2 hb.2 hj
   have htp := (topF_pos ha.2 hb.2 (j : Int)).1
   have he : entOk (topE a b (j : Int)) := by
    have key : topE a b (j : Int) = (entP a.items (j : Int)).1 ∨ topE a b (j : Int) = (entP b.items (j : Int)).1 := by unfold topE entMax; split; exact .inr rfl; exact .inl rfl
    rcases key with h | h
    ·rcases entP_cases ha.1 (j : Int) with h2 | h2
     ·rw [h,h2] at ht; simp only [zEnt] at ht; omega
     ·rw [h]; exact h2
    ·rcases entP_cases hb.1 (j : Int) with h2 | h2
     ·rw [h,h2] at ht; simp only [zEnt] at ht; omega
     ·rw [h]; exact h2
   rw [← hf]
   refine ⟨⟨by simp only; omega,by simp only; omega⟩,he,by simp only; rw [hfl]; exact ht,fun y h0 hy => ?_⟩
   have := pick_lt (id := Itm.id) (fun j x hx => by
    split at hx
    ·injection hx with hx; rw [← hx]
    ·cases hx) hx' h0 hy
   rw [← hf] at this
   exact this
  ·cases hf
 ·have hx' : ((List.range 5).filterMap fun (j : Nat) => if topF a b (j : Int) > 0 then some (⟨(j : Int),topF a b (j : Int)⟩ : Flr) else none)[i]? = some x := hx
  obtain ⟨j,hj,hf⟩ := pick_get hx'
  split at hf
  ·rename_i ht
   injection hf with hf
   have htp := (topF_pos ha.2 hb.2 (j : Int))
   rw [← hf]
   refine ⟨⟨by simp only; omega,by simp only; omega⟩,⟨by simp only; omega,htp.2⟩,fun y h0 hy => ?_⟩
   have := pick_lt (id := Flr.id) (fun j x hx => by
    split at hx
    ·injection hx with hx; rw [← hx]
    ·cases hx) hx' h0 hy
   rw [← hf] at this
   exact this
  ·cases hf
theorem stateOk_nil : stateOk ⟨[],[]⟩ := ⟨fun j x h => (by cases h),fun j x h => (by cases h)⟩
noncomputable abbrev pruneG (s : Sta) (t : List (List Int)) (id : Int) : Int := min (common t id) (goneAt s id)
open Classical in
noncomputable def pruneF (s : Sta) (t : List (List Int)) : Sta := if stateOk s then joinF s ⟨[],marksF (pruneG s t) 5⟩ 5 else s
theorem goneAt_le {s : Sta} (h : stateOk s) (id : Int) : 0 ≤ goneAt s id ∧ goneAt s id ≤ 1000 := by
 rw [goneAt,if_pos h]
 rcases hb : entP s.items id with ⟨e,b⟩
 cases b with
 | false => simpa using floorOf_pos h.2 id
 | true =>
  have he := (ent_ok h hb.symm).1
  simp only [if_true]
  split <;> omega
theorem marksOk_F {g : Int → Int} (h : ∀ i,g i ≤ 1000) : marksOk (marksF g 5) := by
 intro j x hx
 have hx' : ((List.range 5).filterMap fun (j : Nat) => if g (j : Int) > 0 then some (⟨(j : Int),g (j : Int)⟩ : Flr) else none)[j]? = some x := hx
 obtain ⟨k,hk,hf⟩ := pick_get hx'
 split at hf
 ·rename_i hp
  injection hf with hf
  have h1 := h (k : Int)
  rw [← hf]
  refine ⟨⟨by simp only; omega,by simp only; omega⟩,⟨by simp only; omega,h1⟩,fun y h0 hy => ?_⟩
  have := pick_lt (id := Flr.id) (fun j x hx => by
   split at hx
   ·injection hx with hx; rw [← hx]
   ·cases hx) hx' h0 hy
  rw [← hf] at this
  exact this
 ·cases hf
theorem big_floors {l : List Flr} (h : l.length ≤ 5) : bigS ⟨[],l⟩ := ⟨Nat.zero_le _,by show l.length ≤ 1048576; omega,fun x hx => (nomatch hx)⟩
theorem stateOk_floors {l : List Flr} (h : marksOk l) : stateOk ⟨[],l⟩ := ⟨fun j x hx => (nomatch hx),h⟩
theorem ac_spec_l1Min (a b : Int) (st : St) : C 210 [vI a,vI b] st (fun v s => v = vI (min a b) ∧ s = st) := by
 refine AC.enterX (i := ⟨[],[],[0,1,4,7],[]⟩) [] Tryz.func210 rfl rfl (by kernel_rfl) (by kernel_rfl) Tryz.ntmps210 (Lb rfl) rfl ?_
 refine Cu lo0 st [(0,vI a),(1,vI b),(4,vI 0)] fun _ => ?_
 refine ⟨_,rfl,?_⟩
 rintro (_|_) h7
 ·replace h7 : ¬ (a < b) := of_decide_eq_false h7
  refine Cu lo0 st [(0,vI a),(1,vI b),(4,vI 0),(7,vB false)] fun _ => ?_
  refine cxs ?_
  exact cxs (Rt ⟨congrArg vI (by omega),rfl⟩)
 ·replace h7 : a < b := of_decide_eq_true h7
  refine Cu lo0 st [(0,vI a),(1,vI b),(4,vI 0),(7,vB true)] fun _ => ?_
  exact cxs (Rt ⟨congrArg vI (by omega),rfl⟩)
theorem ac_impl_Prune (s : SV) (p : Option Addr) (t : List RV) (st : St) (hR : RdS st s) (hT : RdT st p t) (hb : bigS s.x) (hs : szOk t.length) (hr : ∀ r ∈ t,szOk r.l.length) : C 53 [.agg #[vS s.p s.x.items.length,vS s.q s.x.floors.length],vS p t.length] st (fun v s' => ∃ u : SV,v = .agg #[vS u.p u.x.items.length,vS u.q u.x.floors.length] ∧ u.x = pruneF s.x (rls t) ∧ OwnP s' (pcS u) ∧ NewP st.next (pcS u) ∧ Pres st s') := by
 refine AC.enterX (i := ⟨[2,4,5],[2,4,5,27,34],[0,1,2,4,5,6,7,10,15,26],[]⟩) [(7,[2],[3])] Tryz.func53 rfl rfl (by kernel_rfl) (by kernel_rfl) Tryz.ntmps53 (Lb rfl) rfl ?_
 iterate 2 refine ⟨_,rfl,?_⟩
 refine Cm 2 st [(1,vS p t.length),Ml 2 0,Ml 4 1] [(2,0,cSV s),(4,1,[Sn,Sn])] fun _ _ => ?_
 refine ⟨_,Od rfl,?_⟩
 refine ⟨_,rfl,(ac_impl_StateOk s st hR (by first | assumption | omega)).mono ?_⟩
 rintro _ st ⟨x9,rfl,h9,rfl⟩
 rcases x9 with _|_
 ·replace h9 := fun k => Bool.false_ne_true (h9.2 k)
  refine ⟨_,rfl,?_⟩
  refine Cm 2 st [(1,vS p t.length),Ml 2 0,Ml 4 1,(10,vB true)] [(2,0,cSV s),(4,1,[Sn,Sn])] fun _ _ => ?_
  refine ⟨_,Od rfl,?_⟩
  refine ⟨_,rfl,(ac_impl_copyState s st hR (by first | assumption | omega)).mono ?_⟩
  rintro _ s12 ⟨u12,rfl,h12,hO12,hN12,hP12⟩
  refine ⟨_,Os rfl,?_⟩
  exact cxs (Rt ⟨u12,rfl,h12.trans (by rw [pruneF,if_neg h9]),hO12,hN12,hP12⟩)
 ·replace h9 := h9.1 rfl
  refine ⟨_,rfl,?_⟩
  refine Cm 2 st [(1,vS p t.length),Ml 2 0,Ml 4 1,(10,vB false)] [(2,0,cSV s),(4,1,[Sn,Sn])] fun _ _ => ?_
  refine cxs ?_
  iterate 2 refine ⟨_,rfl,?_⟩
  refine ⟨_,Os rfl,?_⟩
  refine cxs ?_
  refine Cm 3 st [(1,vS p t.length),Ml 2 0,Ml 4 1,Ml 5 2,(6,vI 0)] [(2,0,cSV s),(4,1,[Sn,Sn]),(5,2,[Sn,Sn])] fun _ _ => ?_
  refine AW.loopM (fun x : Nat × Option Addr => [(1,vS p t.length),(2,vL 2 0 (0)),(4,vL 4 0 (1)),(5,vL 5 0 (2)),(6,vI (x.1 : Int))]) (fun x : Nat × Option Addr => [(2,0,[vS s.p s.x.items.length,vS s.q s.x.floors.length]),(4,1,[.slice none 0 0,.slice none 0 0]),(5,2,[.slice none 0 0,vS x.2 (marksF (pruneG s.x (rls t)) x.1).length])]) (fun m (x : Nat × Option Addr) st' => m = 5 - x.1 ∧ x.1 ≤ 5 ∧ OwnR st' 2 cFlr x.2 (marksF (pruneG s.x (rls t)) x.1) ∧ New st.next x.2 ∧ Pres st st') (0,none) _ ⟨rfl,rfl,rfl,rfl,rfl,trivial⟩ ⟨rfl,rfl,rfl,trivial⟩ ⟨rfl,Nat.zero_le _,OwnR.nil,New.none,Pres.refl _⟩ ?_
  rintro m ⟨i,q⟩ ρ0 ff gg st' ⟨rfl,hi,hO,hN,hP⟩
  simp only at hi hO hN
  have hml := marksF_len (pruneG s.x (rls t)) i
  have hm := marksF_succ (pruneG s.x (rls t)) i
  refine ⟨_,rfl,?_⟩
  rintro (_|_) h15
  ·replace h15 : ¬ ((i : Int) < (5)) := of_decide_eq_false h15
   refine Cm gg st' [(1,vS p t.length),Ml 2 0,Ml 4 1,Ml 5 2,(6,vI (i : Int)),(15,vB false)] [(2,0,cSV s),(4,1,[Sn,Sn]),(5,2,[Sn,vS q (marksF (pruneG s.x (rls t)) i).length])] fun _ _ => ?_
   have hil : i = 5 := by omega
   subst hil
   refine cxs ?_
   refine ⟨_,Od rfl,?_⟩
   refine ⟨_,Od rfl,?_⟩
   refine ⟨_,rfl,(ac_impl_stateJoin s ⟨none,q,⟨[],marksF (pruneG s.x (rls t)) 5⟩⟩ st' (hR.pres hP) ⟨Rows.nil,hO.rows len_cFlr⟩ hb (big_floors hml)).mono ?_⟩
   rintro _ s37 ⟨u,rfl,hu,hO37,hN37,hP37⟩
   refine ⟨_,Os rfl,?_⟩
   exact cxs (Rt ⟨u,rfl,by rw [hu,pruneF,if_pos h9],hO37,hN37.le hP.1,hP.trans hP37⟩)
  ·replace h15 : (i : Int) < (5) := of_decide_eq_true h15
   refine Cm gg st' [(1,vS p t.length),Ml 2 0,Ml 4 1,Ml 5 2,(6,vI (i : Int)),(15,vB true)] [(2,0,cSV s),(4,1,[Sn,Sn]),(5,2,[Sn,vS q (marksF (pruneG s.x (rls t)) i).length])] fun _ _ => ?_
   refine cxs ?_
   refine ⟨_,rfl,(ac_impl_Common p t (i : Int) st' (hT.pres hP) (by first | assumption | omega) (by first | assumption | omega)).mono ?_⟩
   rintro _ st' ⟨rfl,rfl⟩
   refine ⟨fun _ _ => rfl,?_⟩
   refine ⟨_,Od rfl,?_⟩
   refine ⟨ld_own rfl rfl rfl,?_⟩
   refine ⟨_,rfl,(ac_impl_GoneAt s (i : Int) st' (hR.pres hP) (by first | assumption | omega)).mono ?_⟩
   rintro _ st' ⟨rfl,rfl⟩
   refine ⟨.int .i64 (min (common (rls t) (i : Int)) (goneAt s.x (i : Int))),ammL_min _ _,?_⟩
   refine Cm gg st' [(1,vS p t.length),Ml 2 0,Ml 4 1,Ml 5 2,(6,vI (i : Int)),(7,vI (min (common (rls t) (i : Int)) (goneAt s.x (i : Int)))),(15,vB true)] [(2,0,cSV s),(4,1,[Sn,Sn]),(5,2,[Sn,vS q (marksF (pruneG s.x (rls t)) i).length])] fun _ _ => ?_
   refine ⟨_,rfl,?_⟩
   rintro (_|_) h26
   ·replace h26 : ¬ ((min (common (rls t) (i : Int)) (goneAt s.x (i : Int))) > (0)) := of_decide_eq_false h26
    refine Cm gg st' [(1,vS p t.length),Ml 2 0,Ml 4 1,Ml 5 2,(6,vI (i : Int)),(7,vI (min (common (rls t) (i : Int)) (goneAt s.x (i : Int)))),(15,vB true),(26,vB false)] [(2,0,cSV s),(4,1,[Sn,Sn]),(5,2,[Sn,vS q (marksF (pruneG s.x (rls t)) i).length])] fun _ _ => ?_
    refine cxs ?_
    have ew17 : IntKind.wrap .i64 ((i : Int) + (1)) = ((i + 1 : Nat) : Int) := (wrap_i64 (by omega) (by omega)).trans (by omega)
    refine ⟨_,rfl,?_⟩
    rw [if_neg h26] at hm
    exact ⟨(i + 1,q),5 - (i + 1),by omega,⟨rfl,rfl,rfl,rfl,congrArg (Value.int .i64) ew17,trivial⟩,⟨rfl,rfl,(show some (2,[.slice none 0 0,vS q (marksF (pruneG s.x (rls t)) i).length]) = some (2,[.slice none 0 0,vS q (marksF (pruneG s.x (rls t)) (i + 1)).length]) by rw [hm]),trivial⟩,rfl,by omega,by rw [hm]; exact hO,hN,hP⟩
   ·replace h26 : (min (common (rls t) (i : Int)) (goneAt s.x (i : Int))) > (0) := of_decide_eq_true h26
    refine Cm gg st' [(1,vS p t.length),Ml 2 0,Ml 4 1,Ml 5 2,(6,vI (i : Int)),(7,vI (min (common (rls t) (i : Int)) (goneAt s.x (i : Int)))),(15,vB true),(26,vB true)] [(2,0,cSV s),(4,1,[Sn,Sn]),(5,2,[Sn,vS q (marksF (pruneG s.x (rls t)) i).length])] fun _ _ => ?_
    refine ⟨_,rfl,?_⟩
    refine ⟨_,Od rfl,?_⟩
    refine ⟨_,rfl,?_⟩
    refine op_one (z := 2) (a := (⟨(i : Int),pruneG s.x (rls t) i⟩ : Flr)) (f := cFlr) rfl rfl rfl rfl rfl (by decide) rfl (Lb rfl) rfl rfl rfl ?_
    refine op_add (z := 2) (st := st') (f := cFlr) (b := 16) (l := marksF (pruneG s.x (rls t)) i) rfl rfl rfl rfl rfl rfl rfl (by decide) len_cFlr rfl rfl rfl (by omega) (by unfold maxLen; omega) hO ?_
    intro q33 s33 hO33 hP33 hN33
    refine ⟨_,rfl,?_⟩
    refine ⟨_,Os rfl,?_⟩
    refine Cm gg s33 [(1,vS p t.length),Ml 2 0,Ml 4 1,Ml 5 2,(6,vI (i : Int)),(7,vI (min (common (rls t) (i : Int)) (goneAt s.x (i : Int)))),(15,vB true),(26,vB true)] [(2,0,cSV s),(4,1,[Sn,Sn]),(5,2,[Sn,vS q33 ((marksF (pruneG s.x (rls t)) i).length + 1)])] fun _ _ => ?_
    have ew17 : IntKind.wrap .i64 ((i : Int) + (1)) = ((i + 1 : Nat) : Int) := (wrap_i64 (by omega) (by omega)).trans (by omega)
    refine ⟨_,rfl,?_⟩
    rw [if_pos h26] at hm
    exact ⟨(i + 1,q33),5 - (i + 1),by omega,⟨rfl,rfl,rfl,rfl,congrArg (Value.int .i64) ew17,trivial⟩,⟨rfl,rfl,(show some (2,[.slice none 0 0,vS q33 ((marksF (pruneG s.x (rls t)) i).length + 1)]) = some (2,[.slice none 0 0,vS q33 (marksF (pruneG s.x (rls t)) (i + 1)).length]) by rw [hm,List.length_append]; rfl),trivial⟩,rfl,by omega,by rw [hm]; exact hO33,hN33.le hP.1,hP33.pres hP hN⟩
theorem ac_spec_Prune (s : SV) (p : Option Addr) (t : List RV) (st : St) (hR : RdS st s) (hT : RdT st p t) (hb : bigS s.x) (hs : szOk t.length) (hr : ∀ r ∈ t,szOk r.l.length) : C 163 [.agg #[vS s.p s.x.items.length,vS s.q s.x.floors.length],vS p t.length] st (fun v s' => ∃ u : SV,v = .agg #[vS u.p u.x.items.length,vS u.q u.x.floors.length] ∧ u.x = pruneF s.x (rls t) ∧ OwnP s' (pcS u) ∧ NewP st.next (pcS u) ∧ Pres st s') := by
 refine AC.enterX (i := ⟨[2,4,5],[2,4,5,27,34],[0,1,2,4,5,6,7,10,15,26],[]⟩) [(7,[2],[3])] Tryz.func163 rfl rfl (by kernel_rfl) (by kernel_rfl) Tryz.ntmps163 (Lb rfl) rfl ?_
 iterate 2 refine ⟨_,rfl,?_⟩
 refine Cm 2 st [(1,vS p t.length),Ml 2 0,Ml 4 1] [(2,0,cSV s),(4,1,[Sn,Sn])] fun _ _ => ?_
 refine ⟨_,Od rfl,?_⟩
 refine ⟨_,rfl,(ac_spec_StateOk s st hR (by first | assumption | omega)).mono ?_⟩
 rintro _ st ⟨x9,rfl,h9,rfl⟩
 rcases x9 with _|_
 ·replace h9 := fun k => Bool.false_ne_true (h9.2 k)
  refine ⟨_,rfl,?_⟩
  refine Cm 2 st [(1,vS p t.length),Ml 2 0,Ml 4 1,(10,vB true)] [(2,0,cSV s),(4,1,[Sn,Sn])] fun _ _ => ?_
  refine ⟨_,Od rfl,?_⟩
  refine ⟨_,rfl,(ac_spec_l3Copy s st hR (by first | assumption | omega)).mono ?_⟩
  rintro _ s12 ⟨u12,rfl,h12,hO12,hN12,hP12⟩
  refine ⟨_,Os rfl,?_⟩
  exact cxs (Rt ⟨u12,rfl,h12.trans (by rw [pruneF,if_neg h9]),hO12,hN12,hP12⟩)
 ·replace h9 := h9.1 rfl
  refine ⟨_,rfl,?_⟩
  refine Cm 2 st [(1,vS p t.length),Ml 2 0,Ml 4 1,(10,vB false)] [(2,0,cSV s),(4,1,[Sn,Sn])] fun _ _ => ?_
  refine cxs ?_
  iterate 2 refine ⟨_,rfl,?_⟩
  refine ⟨_,Os rfl,?_⟩
  refine cxs ?_
  refine Cm 3 st [(1,vS p t.length),Ml 2 0,Ml 4 1,Ml 5 2,(6,vI 0)] [(2,0,cSV s),(4,1,[Sn,Sn]),(5,2,[Sn,Sn])] fun _ _ => ?_
  refine AW.loopM (fun x : Nat × Option Addr => [(1,vS p t.length),(2,vL 2 0 (0)),(4,vL 4 0 (1)),(5,vL 5 0 (2)),(6,vI (x.1 : Int))]) (fun x : Nat × Option Addr => [(2,0,[vS s.p s.x.items.length,vS s.q s.x.floors.length]),(4,1,[.slice none 0 0,.slice none 0 0]),(5,2,[.slice none 0 0,vS x.2 (marksF (pruneG s.x (rls t)) x.1).length])]) (fun m (x : Nat × Option Addr) st' => m = 5 - x.1 ∧ x.1 ≤ 5 ∧ OwnR st' 2 cFlr x.2 (marksF (pruneG s.x (rls t)) x.1) ∧ New st.next x.2 ∧ Pres st st') (0,none) _ ⟨rfl,rfl,rfl,rfl,rfl,trivial⟩ ⟨rfl,rfl,rfl,trivial⟩ ⟨rfl,Nat.zero_le _,OwnR.nil,New.none,Pres.refl _⟩ ?_
  rintro m ⟨i,q⟩ ρ0 ff gg st' ⟨rfl,hi,hO,hN,hP⟩
  simp only at hi hO hN
  have hml := marksF_len (pruneG s.x (rls t)) i
  have hm := marksF_succ (pruneG s.x (rls t)) i
  refine ⟨_,rfl,?_⟩
  rintro (_|_) h15
  ·replace h15 : ¬ ((i : Int) < (5)) := of_decide_eq_false h15
   refine Cm gg st' [(1,vS p t.length),Ml 2 0,Ml 4 1,Ml 5 2,(6,vI (i : Int)),(15,vB false)] [(2,0,cSV s),(4,1,[Sn,Sn]),(5,2,[Sn,vS q (marksF (pruneG s.x (rls t)) i).length])] fun _ _ => ?_
   have hil : i = 5 := by omega
   subst hil
   refine cxs ?_
   refine ⟨_,Od rfl,?_⟩
   refine ⟨_,Od rfl,?_⟩
   refine ⟨_,rfl,(ac_spec_l3Join s ⟨none,q,⟨[],marksF (pruneG s.x (rls t)) 5⟩⟩ st' (hR.pres hP) ⟨Rows.nil,hO.rows len_cFlr⟩ hb (big_floors hml) h9 (stateOk_floors (marksOk_F fun i => by have := goneAt_le h9 i; unfold pruneG; omega))).mono ?_⟩
   rintro _ s37 ⟨u,rfl,hu,hO37,hN37,hP37⟩
   refine ⟨_,Os rfl,?_⟩
   exact cxs (Rt ⟨u,rfl,by rw [hu,pruneF,if_pos h9],hO37,hN37.le hP.1,hP.trans hP37⟩)
  ·replace h15 : (i : Int) < (5) := of_decide_eq_true h15
   refine Cm gg st' [(1,vS p t.length),Ml 2 0,Ml 4 1,Ml 5 2,(6,vI (i : Int)),(15,vB true)] [(2,0,cSV s),(4,1,[Sn,Sn]),(5,2,[Sn,vS q (marksF (pruneG s.x (rls t)) i).length])] fun _ _ => ?_
   refine cxs ?_
   refine ⟨_,rfl,(ac_spec_Common p t (i : Int) st' (hT.pres hP) (by first | assumption | omega) (by first | assumption | omega)).mono ?_⟩
   rintro _ st' ⟨rfl,rfl⟩
   refine ⟨fun _ _ => rfl,?_⟩
   refine ⟨_,Od rfl,?_⟩
   refine ⟨ld_own rfl rfl rfl,?_⟩
   refine ⟨_,rfl,(ac_spec_GoneAt s (i : Int) st' (hR.pres hP) (by first | assumption | omega)).mono ?_⟩
   rintro _ st' ⟨rfl,rfl⟩
   refine ⟨_,rfl,(ac_spec_l1Min (common (rls t) (i : Int)) (goneAt s.x (i : Int)) st').mono ?_⟩
   rintro _ st' ⟨rfl,rfl⟩
   refine Cm gg st' [(1,vS p t.length),Ml 2 0,Ml 4 1,Ml 5 2,(6,vI (i : Int)),(7,vI (min (common (rls t) (i : Int)) (goneAt s.x (i : Int)))),(15,vB true)] [(2,0,cSV s),(4,1,[Sn,Sn]),(5,2,[Sn,vS q (marksF (pruneG s.x (rls t)) i).length])] fun _ _ => ?_
   refine ⟨_,rfl,?_⟩
   rintro (_|_) h26
   ·replace h26 : ¬ ((min (common (rls t) (i : Int)) (goneAt s.x (i : Int))) > (0)) := of_decide_eq_false h26
    refine Cm gg st' [(1,vS p t.length),Ml 2 0,Ml 4 1,Ml 5 2,(6,vI (i : Int)),(7,vI (min (common (rls t) (i : Int)) (goneAt s.x (i : Int)))),(15,vB true),(26,vB false)] [(2,0,cSV s),(4,1,[Sn,Sn]),(5,2,[Sn,vS q (marksF (pruneG s.x (rls t)) i).length])] fun _ _ => ?_
    refine cxs ?_
    have ew17 : IntKind.wrap .i64 ((i : Int) + (1)) = ((i + 1 : Nat) : Int) := (wrap_i64 (by omega) (by omega)).trans (by omega)
    refine ⟨_,rfl,?_⟩
    rw [if_neg h26] at hm
    exact ⟨(i + 1,q),5 - (i + 1),by omega,⟨rfl,rfl,rfl,rfl,congrArg (Value.int .i64) ew17,trivial⟩,⟨rfl,rfl,(show some (2,[.slice none 0 0,vS q (marksF (pruneG s.x (rls t)) i).length]) = some (2,[.slice none 0 0,vS q (marksF (pruneG s.x (rls t)) (i + 1)).length]) by rw [hm]),trivial⟩,rfl,by omega,by rw [hm]; exact hO,hN,hP⟩
   ·replace h26 : (min (common (rls t) (i : Int)) (goneAt s.x (i : Int))) > (0) := of_decide_eq_true h26
    refine Cm gg st' [(1,vS p t.length),Ml 2 0,Ml 4 1,Ml 5 2,(6,vI (i : Int)),(7,vI (min (common (rls t) (i : Int)) (goneAt s.x (i : Int)))),(15,vB true),(26,vB true)] [(2,0,cSV s),(4,1,[Sn,Sn]),(5,2,[Sn,vS q (marksF (pruneG s.x (rls t)) i).length])] fun _ _ => ?_
    refine ⟨_,rfl,?_⟩
    refine ⟨_,Od rfl,?_⟩
    refine ⟨_,rfl,?_⟩
    refine op_one (z := 2) (a := (⟨(i : Int),pruneG s.x (rls t) i⟩ : Flr)) (f := cFlr) rfl rfl rfl rfl rfl (by decide) rfl (Lb rfl) rfl rfl rfl ?_
    refine op_add (z := 2) (st := st') (f := cFlr) (b := 16) (l := marksF (pruneG s.x (rls t)) i) rfl rfl rfl rfl rfl rfl rfl (by decide) len_cFlr rfl rfl rfl (by omega) (by unfold maxLen; omega) hO ?_
    intro q33 s33 hO33 hP33 hN33
    refine ⟨_,rfl,?_⟩
    refine ⟨_,Os rfl,?_⟩
    refine Cm gg s33 [(1,vS p t.length),Ml 2 0,Ml 4 1,Ml 5 2,(6,vI (i : Int)),(7,vI (min (common (rls t) (i : Int)) (goneAt s.x (i : Int)))),(15,vB true),(26,vB true)] [(2,0,cSV s),(4,1,[Sn,Sn]),(5,2,[Sn,vS q33 ((marksF (pruneG s.x (rls t)) i).length + 1)])] fun _ _ => ?_
    have ew17 : IntKind.wrap .i64 ((i : Int) + (1)) = ((i + 1 : Nat) : Int) := (wrap_i64 (by omega) (by omega)).trans (by omega)
    refine ⟨_,rfl,?_⟩
    rw [if_pos h26] at hm
    exact ⟨(i + 1,q33),5 - (i + 1),by omega,⟨rfl,rfl,rfl,rfl,congrArg (Value.int .i64) ew17,trivial⟩,⟨rfl,rfl,(show some (2,[.slice none 0 0,vS q33 ((marksF (pruneG s.x (rls t)) i).length + 1)]) = some (2,[.slice none 0 0,vS q33 (marksF (pruneG s.x (rls t)) (i + 1)).length]) by rw [hm,List.length_append]; rfl),trivial⟩,rfl,by omega,by rw [hm]; exact hO33,hN33.le hP.1,hP33.pres hP hN⟩
theorem entP_sz {l : List Itm} (h : ∀ x ∈ l,szOk x.e.data.size) (id : Int) : szOk (entP l id).1.data.size := by
 induction l with
 | nil => exact Nat.zero_le _
 | cons x l ih =>
  rw [entP]
  split
  ·exact h x (List.mem_cons_self ..)
  ·exact ih fun y hy => h y (List.mem_cons_of_mem _ hy)
theorem bigS_join {a b : Sta} (ha : bigS a) (hb : bigS b) : bigS (joinF a b 5) := by
 have hl := joinF_len a b 5
 refine ⟨by unfold szOk; omega,by unfold szOk; omega,fun x hx => ?_⟩
 have hx : x ∈ (List.range 5).filterMap fun (j : Nat) => if (topE a b (j : Int)).inc > topF a b (j : Int) then some (⟨(j : Int),topE a b (j : Int)⟩ : Itm) else none := hx
 obtain ⟨j,_,hj⟩ := List.mem_filterMap.1 hx
 split at hj
 ·injection hj with hj
  rw [← hj]
  show szOk (entMax (entP a.items j).1 (entP b.items j).1).data.size
  unfold entMax
  split
  ·exact entP_sz hb.2.2 _
  ·exact entP_sz ha.2.2 _
 ·cases hj
def joinL (l : List Sta) : Sta := l.foldl (fun a s => joinF a s 5) nilS
theorem joinL_snoc (l : List Sta) (s : Sta) : joinL (l ++ [s]) = joinF (joinL l) s 5 := by simp [joinL]
open Classical in
noncomputable def sinceF (g : Lg) (n : Int) : Sta × Bool := if logOk g ∧ g.frm ≤ n ∧ n ≤ g.frm + (g.list.length : Int) then (joinL (g.list.drop (n - g.frm).toNat),true) else (nilS,false)
theorem ac_impl_LogSince (g : LV) (n : Int) (st : St) (hR : RdL st g.p g.l) (hb : bigL g.l) : C 37 [.agg #[vI g.cap,vI g.frm,vS g.p g.l.length],vI n] st (fun v s => ∃ (u : SV) (b : Bool),v = .tuple #[.agg #[vS u.p u.x.items.length,vS u.q u.x.floors.length],vB b] ∧ (u.x,b) = sinceF g.x n ∧ OwnP s (pcS u) ∧ NewP st.next (pcS u) ∧ Pres st s) := by
 have hs : g.l.length ≤ 1048576 := hb.1
 have hgl : g.x.list.length = g.l.length := List.length_map _
 refine AC.enterX (i := ⟨[2,4,6,8],[2,4,6,8,14,23,26],[0,1,2,4,5,6,8,20,29,30,31,32],[]⟩) [(1,[8],[6])] Tryz.func37 rfl rfl (by kernel_rfl) (by kernel_rfl) Tryz.ntmps37 (Lb rfl) rfl ?_
 iterate 2 refine ⟨_,rfl,?_⟩
 refine Cm 2 st [(1,vI n),Ml 2 0,Ml 4 1,(5,vB false)] [(2,0,[vI g.cap,vI g.frm,vS g.p g.l.length]),(4,1,[Sn,Sn])] fun _ _ => ?_
 refine ⟨_,rfl,?_⟩
 refine ⟨_,rfl,(ac_impl_LogOk g st hR hb).mono ?_⟩
 rintro _ st ⟨a,rfl,hk,rfl⟩
 rcases a with _|_
 ·replace hk := fun k => Bool.false_ne_true (hk.2 k)
  iterate 2 refine ⟨_,rfl,?_⟩
  refine Cm 2 st [(1,vI n),Ml 2 0,Ml 4 1,(5,vB false),(20,vB true)] [(2,0,[vI g.cap,vI g.frm,vS g.p g.l.length]),(4,1,[Sn,Sn])] fun _ _ => ?_
  iterate 2 refine ⟨_,rfl,?_⟩
  exact cxs (Rt ⟨⟨none,none,nilS⟩,false,rfl,by rw [sinceF,if_neg (fun h => hk h.1)],pcS_nil,newS_nil,Pres.refl _⟩)
 ·replace hk := hk.1 rfl
  iterate 3 refine ⟨_,rfl,?_⟩
  refine ⟨ld_own rfl rfl rfl,?_⟩
  refine ⟨_,rfl,?_⟩
  refine ⟨_,rfl,(ac_impl_LogSeq g st hR hb).mono ?_⟩
  rintro _ st ⟨rfl,rfl⟩
  refine ⟨fun _ _ => rfl,?_⟩
  refine ⟨_,rfl,(ac_impl_within n g.frm (logSeq g.x) st).mono ?_⟩
  rintro _ st ⟨b,rfl,hw,rfl⟩
  rcases b with _|_
  ·replace hw := of_decide_eq_false hw.symm
   iterate 2 refine ⟨_,rfl,?_⟩
   refine Cm 2 st [(1,vI n),Ml 2 0,Ml 4 1,(5,vB false),(20,vB true)] [(2,0,[vI g.cap,vI g.frm,vS g.p g.l.length]),(4,1,[Sn,Sn])] fun _ _ => ?_
   iterate 2 refine ⟨_,rfl,?_⟩
   refine cxs ?_
   rw [logSeq,if_pos hk] at hw
   exact Rt ⟨⟨none,none,nilS⟩,false,rfl,by rw [sinceF,if_neg (fun h => hw h.2)],pcS_nil,newS_nil,Pres.refl _⟩
  ·replace hw := of_decide_eq_true hw.symm
   iterate 2 refine ⟨_,rfl,?_⟩
   refine Cm 2 st [(1,vI n),Ml 2 0,Ml 4 1,(5,vB false),(20,vB false)] [(2,0,[vI g.cap,vI g.frm,vS g.p g.l.length]),(4,1,[Sn,Sn])] fun _ _ => ?_
   rw [logSeq,if_pos hk] at hw
   have hok : logOk g.x ∧ g.x.frm ≤ n ∧ n ≤ g.x.frm + (g.x.list.length : Int) := ⟨hk,hw⟩
   have hw1 : g.frm ≤ n := hw.1
   have hw2 : n ≤ g.frm + (g.l.length : Int) := by have h := hw.2; rw [hgl] at h; exact h
   have hk3 : 0 ≤ g.frm ∧ g.frm ≤ 100000 := hk.2.2.1
   have hdl : (g.l.drop (n - g.frm).toNat).length = g.l.length - (n - g.frm).toNat := List.length_drop
   have hfin : sinceF g.x n = (joinL ((g.l.drop (n - g.frm).toNat).map (·.x)),true) := by rw [sinceF,if_pos hok,List.map_drop]
   refine cxs ?_
   iterate 3 refine ⟨_,rfl,?_⟩
   refine Cm 3 st [(1,vI n),Ml 2 0,Ml 4 1,(5,vB false),Ml 6 2] [(2,0,[vI g.cap,vI g.frm,vS g.p g.l.length]),(4,1,[Sn,Sn]),(6,2,[Sn,Sn])] fun _ _ => ?_
   iterate 4 refine ⟨_,rfl,?_⟩
   have e28 : IntKind.wrap .i64 (n - g.frm) = n - g.frm := wrap_i64 (by omega) (by omega)
   refine ⟨_,rfl,?_⟩
   refine ⟨_,op_slc (j := (n - g.frm).toNat) (n := g.l.length) rfl rfl (congrArg (Value.int .i64) e28) rfl rfl (by omega) (by omega),?_⟩
   refine ⟨_,rfl,?_⟩
   refine Cm 3 st [Ml 4 1,(5,vB false),Ml 6 2,(29,.slice (shO g.p 2 (n - g.frm).toNat) (g.l.length - (n - g.frm).toNat) (g.l.length - (n - g.frm).toNat)),(30,vI ((g.l.length - (n - g.frm).toNat : Nat) : Int)),(31,vI 0)] [(4,1,[Sn,Sn]),(6,2,[Sn,Sn])] fun _ _ => ?_
   refine AW.loopM (fun x : Nat × SV => [(4,vL 4 0 (1)),(6,vL 6 0 (2)),(29,.slice (shO g.p 2 (n - g.frm).toNat) (g.l.length - (n - g.frm).toNat) (g.l.length - (n - g.frm).toNat)),(30,vI ((g.l.length - (n - g.frm).toNat : Nat) : Int)),(31,vI (x.1 : Int))]) (fun x : Nat × SV => [(4,1,[.slice none 0 0,.slice none 0 0]),(6,2,[vS x.2.p x.2.x.items.length,vS x.2.q x.2.x.floors.length])]) (fun m (x : Nat × SV) st' => m = (g.l.length - (n - g.frm).toNat) - x.1 ∧ x.1 ≤ g.l.length - (n - g.frm).toNat ∧ x.2.x = joinL (((g.l.drop (n - g.frm).toNat).take x.1).map (·.x)) ∧ OwnP st' (pcS x.2) ∧ NewP st.next (pcS x.2) ∧ bigS x.2.x ∧ Pres st st') (0,⟨none,none,nilS⟩) _ ⟨rfl,rfl,rfl,rfl,rfl,trivial⟩ ⟨rfl,rfl,trivial⟩ ⟨rfl,Nat.zero_le _,rfl,pcS_nil,newS_nil,bigS_nil,Pres.refl _⟩ ?_
   rintro m ⟨i,c⟩ ρ0 ff gg st' ⟨rfl,hi,hx,hO,hN,hB,hP⟩
   simp only at hi hx hO hN hB
   refine ⟨_,rfl,?_⟩
   rintro (_|_) h1
   ·replace h1 : ¬ ((i : Int) < ((g.l.length - (n - g.frm).toNat : Nat) : Int)) := of_decide_eq_false h1
    refine Cm gg st' [Ml 4 1,Ml 6 2,(29,.slice (shO g.p 2 (n - g.frm).toNat) (g.l.length - (n - g.frm).toNat) (g.l.length - (n - g.frm).toNat)),(30,vI ((g.l.length - (n - g.frm).toNat : Nat) : Int)),(31,vI (i : Int)),(32,vB false)] [(4,1,[Sn,Sn]),(6,2,cSV c)] fun _ _ => ?_
    refine cxs ?_
    refine ⟨_,Od rfl,?_⟩
    refine ⟨_,Os rfl,?_⟩
    refine cxs ?_
    have hil : i = g.l.length - (n - g.frm).toNat := by omega
    have hx' : c.x = joinL ((g.l.drop (n - g.frm).toNat).map (·.x)) := by rw [hx,hil,← hdl,List.take_length]
    exact Rt ⟨c,true,rfl,by rw [hfin,hx'],hO,hN,hP⟩
   ·replace h1 : (i : Int) < ((g.l.length - (n - g.frm).toNat : Nat) : Int) := of_decide_eq_true h1
    refine Cm gg st' [Ml 4 1,Ml 6 2,(29,.slice (shO g.p 2 (n - g.frm).toNat) (g.l.length - (n - g.frm).toNat) (g.l.length - (n - g.frm).toNat)),(30,vI ((g.l.length - (n - g.frm).toNat : Nat) : Int)),(31,vI (i : Int)),(32,vB true)] [(4,1,[Sn,Sn]),(6,2,cSV c)] fun _ _ => ?_
    have h1' := Int.ofNat_lt.1 h1
    have ⟨b1,o1,k1,r,hpe,hr1,hm1,hc1,hb1⟩ := ((hP.rows hR.1).sh (n - g.frm).toNat).atB (j := i) (by rw [hdl]; exact h1')
    have hmem : r ∈ g.l := List.mem_of_mem_drop (List.mem_of_getElem? hr1)
    have hsn : ((g.l.drop (n - g.frm).toNat).take (i + 1)).map (·.x) = ((g.l.drop (n - g.frm).toNat).take i).map (·.x) ++ [r.x] := by rw [(split_at' hr1).2.1,List.map_append]; rfl
    refine cxs ?_
    refine ⟨_,op_idx (j := (i : Int)) (n := g.l.length - (n - g.frm).toNat) (q := ⟨b1,o1,none⟩) rfl (congrArg (fun u => vS u (g.l.length - (n - g.frm).toNat)) hpe) rfl rfl rfl (Int.natCast_nonneg _) h1,?_⟩
    refine ⟨_,op_lda rfl rfl rfl rfl rfl hm1 hc1 rfl,?_⟩
    refine ⟨_,rfl,?_⟩
    refine ⟨_,Os rfl,?_⟩
    refine Cm (gg + 1) st' [Ml 4 1,Ml 6 2,Ml 8 gg,(29,.slice (shO g.p 2 (n - g.frm).toNat) (g.l.length - (n - g.frm).toNat) (g.l.length - (n - g.frm).toNat)),(30,vI ((g.l.length - (n - g.frm).toNat : Nat) : Int)),(31,vI (i : Int)),(32,vB true)] [(4,1,[Sn,Sn]),(6,2,cSV c),(8,gg,cSV r)] fun _ _ => ?_
    refine ⟨_,Od rfl,?_⟩
    refine ⟨_,Od rfl,?_⟩
    refine ⟨_,rfl,(ac_impl_stateJoin c r st' hO.rdS ((hR.2 r hmem).pres hP) hB (hb.2 r hmem)).mono ?_⟩
    rintro _ s2 ⟨u,rfl,hu,hO2,hN2,hP2⟩
    refine ⟨_,Os rfl,?_⟩
    refine Cm (gg + 1) s2 [Ml 4 1,Ml 6 2,Ml 8 gg,(29,.slice (shO g.p 2 (n - g.frm).toNat) (g.l.length - (n - g.frm).toNat) (g.l.length - (n - g.frm).toNat)),(30,vI ((g.l.length - (n - g.frm).toNat : Nat) : Int)),(31,vI (i : Int)),(32,vB true)] [(4,1,[Sn,Sn]),(6,2,cSV u),(8,gg,cSV r)] fun _ _ => ?_
    have e38 : IntKind.wrap .i64 ((i : Int) + 1) = ((i + 1 : Nat) : Int) := (wrap_i64 (by omega) (by omega)).trans (by omega)
    refine ⟨_,rfl,?_⟩
    exact ⟨(i + 1,u),(g.l.length - (n - g.frm).toNat) - (i + 1),by omega,⟨rfl,rfl,rfl,rfl,congrArg (Value.int .i64) e38,trivial⟩,⟨rfl,rfl,trivial⟩,rfl,h1',by rw [hsn,joinL_snoc,← hx]; exact hu,hO2,hN2.le hP.1,by rw [hu]; exact bigS_join hB (hb.2 r hmem),hP.trans hP2⟩
theorem tableAdd_pos {t : List RV} {k : Int} {ms : List Flr} {r : RV} (h : t[k.toNat]? = some r) (hk : 0 ≤ k ∧ k ≤ (t.length : Int) - 1) (hm : marksOk ms) (h5 : 5 ≤ r.l.length) : tableAdd (t.map (·.l)) k ms = putT (t.map (·.l)) k.toNat (addMarks r.l ms) := by
 have hg : (t.map (·.l)).getD k.toNat [] = r.l := by rw [List.getD_eq_getElem?_getD,List.getElem?_map,h]; rfl
 rw [tableAdd,hg,if_pos ⟨by rw [List.length_map]; exact hk,hm,h5⟩]
theorem tableAdd_neg {t : List RV} {k : Int} {ms : List Flr} (h : ¬ (0 ≤ k ∧ k ≤ (t.length : Int) - 1) ∨ ¬ marksOk ms ∨ ∃ r,t[k.toNat]? = some r ∧ r.l.length < 5) : tableAdd (t.map (·.l)) k ms = t.map (·.l) := by
 rw [tableAdd,if_neg]
 rintro ⟨h1,h2,h3⟩
 rw [List.length_map] at h1
 rcases h with h | h | ⟨r,hr,h⟩
 ·exact h h1
 ·exact h h2
 ·rw [List.getD_eq_getElem?_getD,List.getElem?_map,hr] at h3
  exact absurd h3 (Nat.not_le.2 h)
theorem row_l {t u : List RV} {i : Nat} {r : RV} (h : u.map (·.l) = t.map (·.l)) (hr : t[i]? = some r) : ∃ a,u[i]? = some ⟨a,r.l⟩ := by
 have h1 : (u.map (·.l))[i]? = some r.l := by rw [h,List.getElem?_map,hr]; rfl
 rw [List.getElem?_map] at h1
 obtain ⟨y,hy,he⟩ := Option.map_eq_some_iff.1 h1
 exact ⟨y.p,by rw [hy,← he]⟩
theorem ac_spec_TableAdd (p pm : Option Addr) (t : List RV) (k : Int) (ms : List Flr) (st : St) (hR : RdT st p t) (hM : Rows st 2 cFlr pm ms) (hs : szOk t.length) (hr : ∀ r ∈ t,szOk r.l.length) (hms : szOk ms.length) : C 161 [vS p t.length,vI k,vS pm ms.length] st (fun v s => ∃ q u,v = vS q t.length ∧ u.length = t.length ∧ u.map (·.l) = tableAdd (t.map (·.l)) k ms ∧ OwnP s (pcT q u) ∧ NewP st.next (pcT q u) ∧ Pres st s) := by
 have hs : t.length ≤ 1048576 := hs
 have hms' : ms.length ≤ 1048576 := hms
 refine AC.enterX (i := ⟨[],[],[0,1,2,6,7,8,29,34],[]⟩) [(7,[25],[3,8])] Tryz.func161 rfl rfl (by kernel_rfl) (by kernel_rfl) Tryz.ntmps161 (Lb rfl) rfl ?_
 refine Cu lo0 st [(0,vS p t.length),(1,vI k),(2,vS pm ms.length),(6,Sn)] fun _ => ?_
 refine ⟨_,rfl,(ac_spec_l9Copy p t st hR hs hr).mono ?_⟩
 rintro _ s1 ⟨q,u0,rfl,hu,hO,hN,hP⟩
 refine Cu lo0 s1 [(0,vS p t.length),(1,vI k),(2,vS pm ms.length),(6,Sn),(7,vS q t.length)] fun _ => ?_
 have e14 : IntKind.wrap .i64 ((t.length : Int) - 1) = (t.length : Int) - 1 := wrap_i64 (by omega) (by omega)
 have hul : u0.length = t.length := (map_len hu hr).1
 iterate 2 refine ⟨_,rfl,?_⟩
 refine ⟨_,rfl,(ac_spec_l1In k 0 _ s1).mono ?_⟩
 rintro _ s1 ⟨y,rfl,hk,rfl⟩
 rcases y with _|_
 ·replace hk := of_decide_eq_false hk.symm
  iterate 3 refine ⟨_,rfl,?_⟩
  refine Cu lo0 s1 [(1,vI k),(2,vS pm ms.length),(6,Sn),(7,vS q t.length),(29,vB true)] fun _ => ?_
  exact cxs (Rt ⟨q,u0,rfl,hul,by rw [tableAdd_neg (.inl fun h => hk (by rw [e14]; exact h))]; exact hu,hO,hN,hP⟩)
 ·replace hk := of_decide_eq_true hk.symm
  refine ⟨_,rfl,?_⟩
  replace hk : 0 ≤ k ∧ k ≤ IntKind.wrap .i64 ((t.length : Int) - 1) := hk
  rw [e14] at hk
  refine ⟨_,rfl,(ac_spec_MarksOk pm ms s1 (hP.rows hM) hms).mono ?_⟩
  rintro _ s1 ⟨y2,rfl,hmk,rfl⟩
  rcases y2 with _|_
  ·replace hmk := fun k => Bool.false_ne_true (hmk.2 k)
   iterate 3 refine ⟨_,rfl,?_⟩
   refine Cu lo0 s1 [(1,vI k),(2,vS pm ms.length),(6,Sn),(7,vS q t.length),(29,vB true)] fun _ => ?_
   exact cxs (Rt ⟨q,u0,rfl,hul,by rw [tableAdd_neg (.inr (.inl hmk))]; exact hu,hO,hN,hP⟩)
  ·replace hmk := hmk.1 rfl
   iterate 2 refine ⟨_,rfl,?_⟩
   have ⟨b1,o1,k1,r,hpe,hr1,hm1,hc1,hb1⟩ := (hR.pres hP).1.atB (j := k.toNat) (by omega)
   refine ⟨_,op_idx (j := k) (n := t.length) (q := ⟨b1,o1,none⟩) rfl (congrArg (fun u => vS u t.length) hpe) rfl rfl rfl hk.1 (by omega),?_⟩
   refine ⟨_,op_ldc (i := 0) (v := vS r.p r.l.length) rfl rfl rfl rfl hm1 hc1 rfl rfl,?_⟩
   iterate 2 refine ⟨_,rfl,?_⟩
   rintro (_|_) h5
   ·replace h5 : ¬ ((r.l.length : Int) < 5) := of_decide_eq_false h5
    refine ⟨_,rfl,?_⟩
    refine Cu lo0 s1 [(1,vI k),(2,vS pm ms.length),(6,Sn),(7,vS q t.length),(29,vB false)] fun _ => ?_
    have ⟨qK,hqK⟩ := row_l hu hr1
    have hKu : k.toNat < u0.length := (List.getElem?_eq_some_iff.1 hqK).1
    have hself := putT_self hqK
    have hrs : r.l.length ≤ 1048576 := hr r (List.mem_of_getElem? hr1)
    refine cxs ?_
    refine Cu lo0 s1 [(1,vI k),(2,vS pm ms.length),(6,Sn),(7,vS q t.length),(8,vI 0)] fun _ => ?_
    refine AW.loop0 (fun i : Nat => [(1,vI k),(2,vS pm ms.length),(7,vS q t.length),(8,vI (i : Int))]) (fun m (i : Nat) st' => m = ms.length - i ∧ i ≤ ms.length ∧ OwnP st' (pcT q (putT u0 k.toNat ⟨qK,addMarks r.l (ms.take i)⟩)) ∧ NewP st.next (pcT q (putT u0 k.toNat ⟨qK,addMarks r.l (ms.take i)⟩)) ∧ Pres st st') 0 _ ⟨rfl,rfl,rfl,rfl,trivial⟩ rfl ⟨rfl,Nat.zero_le _,(show OwnP s1 (pcT q (putT u0 k.toNat ⟨qK,r.l⟩)) by rw [hself]; exact hO),(show NewP st.next (pcT q (putT u0 k.toNat ⟨qK,r.l⟩)) by rw [hself]; exact hN),hP⟩ ?_
    rintro m i ρ0 st' ⟨rfl,hi,hO',hN',hP'⟩
    iterate 2 refine ⟨_,rfl,?_⟩
    rintro (_|_) h6
    ·replace h6 : ¬ ((i : Int) < (ms.length : Int)) := of_decide_eq_false h6
     refine Cu lo0 st' [(1,vI k),(2,vS pm ms.length),(7,vS q t.length),(8,vI (i : Int)),(34,vB false)] fun _ => ?_
     refine cxs ?_
     refine cxs ?_
     have hil : i = ms.length := by omega
     rw [hil,List.take_length] at hO' hN'
     exact Rt ⟨q,_,rfl,by rw [putT_len hKu]; exact hul,by rw [putT_map,hu,tableAdd_pos hr1 hk hmk (by omega)],hO',hN',hP'⟩
    ·replace h6 : (i : Int) < (ms.length : Int) := of_decide_eq_true h6
     refine Cu lo0 st' [(1,vI k),(2,vS pm ms.length),(7,vS q t.length),(8,vI (i : Int)),(34,vB true)] fun _ => ?_
     have h6' := Int.ofNat_lt.1 h6
     have hcl := addMarks_len (ms.take i) r.l
     have hKt : k.toNat < (putT u0 k.toNat (⟨qK,addMarks r.l (ms.take i)⟩ : RV)).length := by rw [putT_len hKu]; exact hKu
     have hgt := putT_get (x := (⟨qK,addMarks r.l (ms.take i)⟩ : RV)) hKu
     have ⟨b2,o2,k2,x,hpe2,hx,hm2,hc2,hb2⟩ := (hO'.outer.rows cRV_len).atB hKt
     have hxe : x = ⟨qK,addMarks r.l (ms.take i)⟩ := by rw [hgt] at hx; injection hx with hx; exact hx.symm
     have hc2 : (k2.cells.drop (o2 + k.toNat * 1)).take 1 = cRV ⟨qK,addMarks r.l (ms.take i)⟩ := by rw [hc2,hxe]
     have hrow := hO'.row (List.mem_of_getElem? hgt)
     have ⟨b3,o3,k3,mk,hpe3,hmk3,hm3,hc3,hb3⟩ := (hP'.rows hM).atB h6'
     have hid := (hmk i mk hmk3).1
     have ⟨b4,o4,k4,z,hpe4,hz,hm4,hc4,hb4⟩ := (hrow.rows fI_len).atB (j := mk.id.toNat) (by simp only; omega)
     have ⟨a,ha⟩ := hrow.some (by simp only; omega)
     simp only at hpe4 ha
     refine cxs ?_
     refine ⟨_,op_idx (j := k) (n := t.length) (q := ⟨b2,o2,none⟩) rfl (congrArg (fun u => vS u t.length) hpe2) rfl rfl rfl hk.1 (by omega),?_⟩
     refine ⟨_,op_ldc (i := 0) rfl rfl rfl rfl hm2 hc2 rfl rfl,?_⟩
     refine ⟨ld_lt rfl rfl hb2,?_⟩
     refine ⟨_,op_idx (j := (i : Int)) (n := ms.length) (q := ⟨b3,o3,none⟩) rfl (congrArg (fun u => vS u ms.length) hpe3) rfl rfl rfl (Int.natCast_nonneg _) h6,?_⟩
     refine ⟨_,rfl,?_⟩
     refine ⟨_,op_ldc (i := 0) rfl rfl rfl rfl hm3 hc3 rfl rfl,?_⟩
     refine ⟨ld_lt rfl rfl hb3,?_⟩
     refine ⟨_,op_idx (j := k) (n := t.length) (q := ⟨b2,o2,none⟩) rfl (congrArg (fun u => vS u t.length) hpe2) rfl rfl rfl hk.1 (by omega),?_⟩
     refine ⟨_,op_ldc (i := 0) rfl rfl rfl rfl hm2 hc2 rfl rfl,?_⟩
     refine ⟨_,op_idx (j := (i : Int)) (n := ms.length) (q := ⟨b3,o3,none⟩) rfl (congrArg (fun u => vS u ms.length) hpe3) rfl rfl rfl (Int.natCast_nonneg _) h6,?_⟩
     refine ⟨_,rfl,?_⟩
     refine ⟨_,op_ldc (i := 0) rfl rfl rfl rfl hm3 hc3 rfl rfl,?_⟩
     refine ⟨_,op_idx (j := mk.id) (n := (addMarks r.l (ms.take i)).length) (q := ⟨b4,o4,none⟩) rfl (congrArg (fun u => vS u (addMarks r.l (ms.take i)).length) hpe4) rfl rfl rfl hid.1 (by omega),?_⟩
     refine ⟨_,op_ldc (i := 0) rfl rfl rfl rfl hm4 hc4 rfl rfl,?_⟩
     refine ⟨_,op_idx (j := (i : Int)) (n := ms.length) (q := ⟨b3,o3,none⟩) rfl (congrArg (fun u => vS u ms.length) hpe3) rfl rfl rfl (Int.natCast_nonneg _) h6,?_⟩
     refine ⟨_,rfl,?_⟩
     refine ⟨_,op_ldc (i := 1) rfl rfl rfl rfl hm3 hc3 rfl rfl,?_⟩
     refine ⟨_,rfl,(ac_spec_l1Max z mk.inc st').mono ?_⟩
     rintro _ st' ⟨rfl,rfl⟩
     refine ⟨fun _ _ => rfl,?_⟩
     refine ⟨_,op_idx (j := mk.id) (n := (addMarks r.l (ms.take i)).length) (q := ⟨a,0,none⟩) rfl (congrArg (fun u => vS u (addMarks r.l (ms.take i)).length) ha) rfl rfl rfl hid.1 (by omega),?_⟩
     refine op_put (z := 1) (st := st') (f := fI) (j := mk.id.toNat) (l := addMarks r.l (ms.take i)) (y := max z mk.inc) (p := qK) (d := 0 + mk.id.toNat * 1) rfl rfl (Nat.zero_add _) rfl rfl fI_len rfl rfl (by omega) hrow ha ?_
     intro s5 hO5 hP5 hn5
     refine Cu lo0 s5 [(1,vI k),(2,vS pm ms.length),(7,vS q t.length),(8,vI (i : Int)),(34,vB true)] fun _ => ?_
     have hstep : (addMarks r.l (ms.take i)).set mk.id.toNat (max z mk.inc) = addMarks r.l (ms.take (i + 1)) := by rw [(split_at hmk3).2.1,addMarks_snoc,getD_of hz]
     rw [hstep] at hO5
     have hN5 : New st.next qK := hN' (pcRV ⟨qK,addMarks r.l (ms.take i)⟩) (List.mem_cons_of_mem _ (List.mem_map_of_mem (List.mem_of_getElem? hgt)))
     have hOP := hO'.put hP5 hO5 (by rw [addMarks_len,addMarks_len])
     have e36 : IntKind.wrap .i64 ((i : Int) + 1) = ((i + 1 : Nat) : Int) := (wrap_i64 (by omega) (by omega)).trans (by omega)
     refine ⟨_,rfl,?_⟩
     refine ⟨i + 1,ms.length - (i + 1),by omega,⟨rfl,rfl,rfl,congrArg (Value.int .i64) e36,trivial⟩,rfl,rfl,h6',hOP,fun c hc => ?_,hP5.pres hP' hN5⟩
     rcases List.mem_cons.1 hc with rfl | hc
     ·exact (hN' (pcR 1 cRV q (putT u0 k.toNat ⟨qK,addMarks r.l (ms.take i)⟩)) (List.mem_cons_self ..) : New st.next q)
     ·obtain ⟨y,hy,rfl⟩ := List.mem_map.1 hc
      rcases List.mem_append.1 hy with hy | hy
      ·exact hN' (pcRV y) (List.mem_cons_of_mem _ (List.mem_map_of_mem (List.mem_append_left _ hy)))
      ·rcases List.mem_cons.1 hy with rfl | hy
       ·exact hN5
       ·exact hN' (pcRV y) (List.mem_cons_of_mem _ (List.mem_map_of_mem (List.mem_append_right _ (List.mem_cons_of_mem _ hy))))
   ·replace h5 : (r.l.length : Int) < 5 := of_decide_eq_true h5
    refine ⟨_,rfl,?_⟩
    refine Cu lo0 s1 [(1,vI k),(2,vS pm ms.length),(6,Sn),(7,vS q t.length),(29,vB true)] fun _ => ?_
    exact cxs (Rt ⟨q,u0,rfl,hul,by rw [tableAdd_neg (.inr (.inr ⟨r,hr1,by omega⟩))]; exact hu,hO,hN,hP⟩)
theorem ac_impl_TableAdd (p pm : Option Addr) (t : List RV) (k : Int) (ms : List Flr) (st : St) (hR : RdT st p t) (hM : Rows st 2 cFlr pm ms) (hs : szOk t.length) (hr : ∀ r ∈ t,szOk r.l.length) (hms : szOk ms.length) : C 51 [vS p t.length,vI k,vS pm ms.length] st (fun v s => ∃ q u,v = vS q t.length ∧ u.length = t.length ∧ u.map (·.l) = tableAdd (t.map (·.l)) k ms ∧ OwnP s (pcT q u) ∧ NewP st.next (pcT q u) ∧ Pres st s) := by
 have hs : t.length ≤ 1048576 := hs
 have hms' : ms.length ≤ 1048576 := hms
 refine AC.enterX (i := ⟨[9],[9,42,48,52],[0,1,2,6,7,9,30,32,33,34,35],[]⟩) [(7,[],[])] Tryz.func51 rfl rfl (by kernel_rfl) (by kernel_rfl) Tryz.ntmps51 (Lb rfl) rfl ?_
 refine Cm 0 st [(0,vS p t.length),(1,vI k),(2,vS pm ms.length),(6,Sn)] [] fun _ _ => ?_
 refine ⟨_,rfl,(ac_impl_copyTable p t st hR hs hr).mono ?_⟩
 rintro _ s1 ⟨q,u0,rfl,hu,hO,hN,hP⟩
 refine Cm 0 s1 [(0,vS p t.length),(1,vI k),(2,vS pm ms.length),(6,Sn),(7,vS q t.length)] [] fun _ _ => ?_
 have e15 : IntKind.wrap .i64 ((t.length : Int) - 1) = (t.length : Int) - 1 := wrap_i64 (by omega) (by omega)
 have hul : u0.length = t.length := (map_len hu hr).1
 iterate 2 refine ⟨_,rfl,?_⟩
 refine ⟨_,rfl,(ac_impl_within k 0 _ s1).mono ?_⟩
 rintro _ s1 ⟨y,rfl,hk,rfl⟩
 rcases y with _|_
 ·replace hk := of_decide_eq_false hk.symm
  iterate 3 refine ⟨_,rfl,?_⟩
  refine Cm 0 s1 [(1,vI k),(2,vS pm ms.length),(6,Sn),(7,vS q t.length),(30,vB true)] [] fun _ _ => ?_
  exact cxs (Rt ⟨q,u0,rfl,hul,by rw [tableAdd_neg (.inl fun h => hk (by rw [e15]; exact h))]; exact hu,hO,hN,hP⟩)
 ·replace hk := of_decide_eq_true hk.symm
  refine ⟨_,rfl,?_⟩
  replace hk : 0 ≤ k ∧ k ≤ IntKind.wrap .i64 ((t.length : Int) - 1) := hk
  rw [e15] at hk
  refine ⟨_,rfl,(ac_impl_MarksOk pm ms s1 (hP.rows hM) hms).mono ?_⟩
  rintro _ s1 ⟨y2,rfl,hmk,rfl⟩
  rcases y2 with _|_
  ·replace hmk := fun k => Bool.false_ne_true (hmk.2 k)
   iterate 3 refine ⟨_,rfl,?_⟩
   refine Cm 0 s1 [(1,vI k),(2,vS pm ms.length),(6,Sn),(7,vS q t.length),(30,vB true)] [] fun _ _ => ?_
   exact cxs (Rt ⟨q,u0,rfl,hul,by rw [tableAdd_neg (.inr (.inl hmk))]; exact hu,hO,hN,hP⟩)
  ·replace hmk := hmk.1 rfl
   iterate 2 refine ⟨_,rfl,?_⟩
   have ⟨b1,o1,k1,r,hpe,hr1,hm1,hc1,hb1⟩ := (hR.pres hP).1.atB (j := k.toNat) (by omega)
   refine ⟨_,op_idx (j := k) (n := t.length) (q := ⟨b1,o1,none⟩) rfl (congrArg (fun u => vS u t.length) hpe) rfl rfl rfl hk.1 (by omega),?_⟩
   refine ⟨_,op_ldc (i := 0) (v := vS r.p r.l.length) rfl rfl rfl rfl hm1 hc1 rfl rfl,?_⟩
   iterate 2 refine ⟨_,rfl,?_⟩
   rintro (_|_) h5
   ·replace h5 : ¬ ((r.l.length : Int) < 5) := of_decide_eq_false h5
    refine ⟨_,rfl,?_⟩
    refine Cm 0 s1 [(1,vI k),(2,vS pm ms.length),(6,Sn),(7,vS q t.length),(30,vB false)] [] fun _ _ => ?_
    have ⟨qK,hqK⟩ := row_l hu hr1
    have hKu : k.toNat < u0.length := (List.getElem?_eq_some_iff.1 hqK).1
    have hself := putT_self hqK
    have hrs : r.l.length ≤ 1048576 := hr r (List.mem_of_getElem? hr1)
    refine cxs ?_
    refine ⟨_,rfl,?_⟩
    refine Cm 0 s1 [(1,vI k),(6,Sn),(7,vS q t.length),(32,vS pm ms.length),(33,vI (ms.length)),(34,vI 0)] [] fun _ _ => ?_
    refine AW.loopM (fun i : Nat => [(1,vI k),(7,vS q t.length),(32,vS pm ms.length),(33,vI (ms.length : Int)),(34,vI (i : Int))]) (fun i : Nat => []) (fun m (i : Nat) st' => m = ms.length - i ∧ i ≤ ms.length ∧ OwnP st' (pcT q (putT u0 k.toNat ⟨qK,addMarks r.l (ms.take i)⟩)) ∧ NewP st.next (pcT q (putT u0 k.toNat ⟨qK,addMarks r.l (ms.take i)⟩)) ∧ Pres st st') 0 _ ⟨rfl,rfl,rfl,rfl,rfl,trivial⟩ trivial ⟨rfl,Nat.zero_le _,(show OwnP s1 (pcT q (putT u0 k.toNat ⟨qK,r.l⟩)) by rw [hself]; exact hO),(show NewP st.next (pcT q (putT u0 k.toNat ⟨qK,r.l⟩)) by rw [hself]; exact hN),hP⟩ ?_
    rintro m i ρ0 ff gg st' ⟨rfl,hi,hO',hN',hP'⟩
    refine ⟨_,rfl,?_⟩
    rintro (_|_) h6
    ·replace h6 : ¬ ((i : Int) < (ms.length : Int)) := of_decide_eq_false h6
     refine Cm gg st' [(1,vI k),(7,vS q t.length),(32,vS pm ms.length),(33,vI (ms.length : Int)),(34,vI (i : Int)),(35,vB false)] [] fun _ _ => ?_
     refine cxs ?_
     refine cxs ?_
     have hil : i = ms.length := by omega
     rw [hil,List.take_length] at hO' hN'
     exact Rt ⟨q,_,rfl,by rw [putT_len hKu]; exact hul,by rw [putT_map,hu,tableAdd_pos hr1 hk hmk (by omega)],hO',hN',hP'⟩
    ·replace h6 : (i : Int) < (ms.length : Int) := of_decide_eq_true h6
     refine Cm gg st' [(1,vI k),(7,vS q t.length),(32,vS pm ms.length),(33,vI (ms.length : Int)),(34,vI (i : Int)),(35,vB true)] [] fun _ _ => ?_
     have h6' := Int.ofNat_lt.1 h6
     have hcl := addMarks_len (ms.take i) r.l
     have hKt : k.toNat < (putT u0 k.toNat (⟨qK,addMarks r.l (ms.take i)⟩ : RV)).length := by rw [putT_len hKu]; exact hKu
     have hgt := putT_get (x := (⟨qK,addMarks r.l (ms.take i)⟩ : RV)) hKu
     have ⟨b2,o2,k2,x,hpe2,hx,hm2,hc2,hb2⟩ := (hO'.outer.rows cRV_len).atB hKt
     have hxe : x = ⟨qK,addMarks r.l (ms.take i)⟩ := by rw [hgt] at hx; injection hx with hx; exact hx.symm
     have hc2 : (k2.cells.drop (o2 + k.toNat * 1)).take 1 = cRV ⟨qK,addMarks r.l (ms.take i)⟩ := by rw [hc2,hxe]
     have hrow := hO'.row (List.mem_of_getElem? hgt)
     have ⟨b3,o3,k3,mk,hpe3,hmk3,hm3,hc3,hb3⟩ := (hP'.rows hM).atB h6'
     have hid := (hmk i mk hmk3).1
     have ⟨b4,o4,k4,z,hpe4,hz,hm4,hc4,hb4⟩ := (hrow.rows fI_len).atB (j := mk.id.toNat) (by simp only; omega)
     have ⟨a,ha⟩ := hrow.some (by simp only; omega)
     simp only at hpe4 ha
     refine cxs ?_
     refine ⟨_,op_idx (j := (i : Int)) (n := ms.length) (q := ⟨b3,o3,none⟩) rfl (congrArg (fun u => vS u ms.length) hpe3) rfl rfl rfl (Int.natCast_nonneg _) h6,?_⟩
     refine ⟨_,op_lda rfl rfl rfl rfl rfl hm3 hc3 rfl,?_⟩
     refine ⟨_,rfl,?_⟩
     refine ⟨_,Os rfl,?_⟩
     refine Cm (gg + 1) st' [(1,vI k),(7,vS q t.length),Ml 9 gg,(32,vS pm ms.length),(33,vI (ms.length : Int)),(34,vI (i : Int)),(35,vB true)] [(9,gg,[vI mk.id,vI mk.inc])] fun _ _ => ?_
     refine ⟨_,op_idx (j := k) (n := t.length) (q := ⟨b2,o2,none⟩) rfl (congrArg (fun u => vS u t.length) hpe2) rfl rfl rfl hk.1 (by omega),?_⟩
     refine ⟨_,op_ldc (i := 0) rfl rfl rfl rfl hm2 hc2 rfl rfl,?_⟩
     refine ⟨_,rfl,?_⟩
     refine ⟨_,Od rfl,?_⟩
     refine ⟨_,op_idx (j := k) (n := t.length) (q := ⟨b2,o2,none⟩) rfl (congrArg (fun u => vS u t.length) hpe2) rfl rfl rfl hk.1 (by omega),?_⟩
     refine ⟨_,op_ldc (i := 0) rfl rfl rfl rfl hm2 hc2 rfl rfl,?_⟩
     refine ⟨_,rfl,?_⟩
     refine ⟨_,Od rfl,?_⟩
     refine ⟨_,op_idx (j := mk.id) (n := (addMarks r.l (ms.take i)).length) (q := ⟨b4,o4,none⟩) rfl (congrArg (fun u => vS u (addMarks r.l (ms.take i)).length) hpe4) rfl rfl rfl hid.1 (by omega),?_⟩
     refine ⟨_,op_ldc (i := 0) rfl rfl rfl rfl hm4 hc4 rfl rfl,?_⟩
     refine ⟨_,rfl,?_⟩
     refine ⟨_,Od rfl,?_⟩
     refine ⟨.int .i64 (max z mk.inc),ammL_max _ _,?_⟩
     refine ⟨_,op_idx (j := mk.id) (n := (addMarks r.l (ms.take i)).length) (q := ⟨a,0,none⟩) rfl (congrArg (fun u => vS u (addMarks r.l (ms.take i)).length) ha) rfl rfl rfl hid.1 (by omega),?_⟩
     refine op_put (z := 1) (st := st') (f := fI) (j := mk.id.toNat) (l := addMarks r.l (ms.take i)) (y := max z mk.inc) (p := qK) (d := 0 + mk.id.toNat * 1) rfl rfl (Nat.zero_add _) rfl rfl fI_len rfl rfl (by omega) hrow ha ?_
     intro s5 hO5 hP5 hn5
     refine Cm (gg + 1) s5 [(1,vI k),(7,vS q t.length),Ml 9 gg,(32,vS pm ms.length),(33,vI (ms.length : Int)),(34,vI (i : Int)),(35,vB true)] [(9,gg,[vI mk.id,vI mk.inc])] fun _ _ => ?_
     have hstep : (addMarks r.l (ms.take i)).set mk.id.toNat (max z mk.inc) = addMarks r.l (ms.take (i + 1)) := by rw [(split_at hmk3).2.1,addMarks_snoc,getD_of hz]
     rw [hstep] at hO5
     have hN5 : New st.next qK := hN' (pcRV ⟨qK,addMarks r.l (ms.take i)⟩) (List.mem_cons_of_mem _ (List.mem_map_of_mem (List.mem_of_getElem? hgt)))
     have hOP := hO'.put hP5 hO5 (by rw [addMarks_len,addMarks_len])
     have e56 : IntKind.wrap .i64 ((i : Int) + 1) = ((i + 1 : Nat) : Int) := (wrap_i64 (by omega) (by omega)).trans (by omega)
     refine ⟨_,rfl,?_⟩
     refine ⟨i + 1,ms.length - (i + 1),by omega,⟨rfl,rfl,rfl,rfl,congrArg (Value.int .i64) e56,trivial⟩,trivial,rfl,h6',hOP,fun c hc => ?_,hP5.pres hP' hN5⟩
     rcases List.mem_cons.1 hc with rfl | hc
     ·exact (hN' (pcR 1 cRV q (putT u0 k.toNat ⟨qK,addMarks r.l (ms.take i)⟩)) (List.mem_cons_self ..) : New st.next q)
     ·obtain ⟨y,hy,rfl⟩ := List.mem_map.1 hc
      rcases List.mem_append.1 hy with hy | hy
      ·exact hN' (pcRV y) (List.mem_cons_of_mem _ (List.mem_map_of_mem (List.mem_append_left _ hy)))
      ·rcases List.mem_cons.1 hy with rfl | hy
       ·exact hN5
       ·exact hN' (pcRV y) (List.mem_cons_of_mem _ (List.mem_map_of_mem (List.mem_append_right _ (List.mem_cons_of_mem _ hy))))
   ·replace h5 : (r.l.length : Int) < 5 := of_decide_eq_true h5
    refine ⟨_,rfl,?_⟩
    refine Cm 0 s1 [(1,vI k),(2,vS pm ms.length),(6,Sn),(7,vS q t.length),(30,vB true)] [] fun _ _ => ?_
    exact cxs (Rt ⟨q,u0,rfl,hul,by rw [tableAdd_neg (.inr (.inr ⟨r,hr1,by omega⟩))]; exact hu,hO,hN,hP⟩)
theorem big_prune {s x : Sta} {t : List (List Int)} (h : x = pruneF s t) (hb : bigS s) : bigS x := by
 rw [h,pruneF]
 split
 ·exact bigS_join hb (big_floors (marksF_len _ 5))
 ·exact hb
theorem ok_prune {s x : Sta} {t : List (List Int)} (h : x = pruneF s t) (hk : stateOk s) : stateOk x := by
 rw [h,pruneF,if_pos hk]
 exact stateOk_join hk (stateOk_floors (marksOk_F fun i => Int.le_trans (Int.min_le_right _ _) (goneAt_le hk i).2))
theorem uc_impl_Prune (s : SV) (g : TT) (st : St) (hR : RdS st s) (hT : RdT st g.p g.t) (hb : bigS s.x) (hbt : bigT g.x) : C 53 [.agg #[vS s.p s.x.items.length,vS s.q s.x.floors.length],vS g.p g.t.length] st (fun v s' => ∃ u : SV,v = .agg #[vS u.p u.x.items.length,vS u.q u.x.floors.length] ∧ u.x = pruneF s.x g.x ∧ OwnP s' (pcS u) ∧ NewP st.next (pcS u) ∧ Pres st s') :=
 ac_impl_Prune s g.p g.t st hR hT hb (bigT_iff.1 hbt).1 (bigT_iff.1 hbt).2
theorem uc_spec_Prune (s : SV) (g : TT) (st : St) (hR : RdS st s) (hT : RdT st g.p g.t) (hb : bigS s.x) (hbt : bigT g.x) : C 163 [.agg #[vS s.p s.x.items.length,vS s.q s.x.floors.length],vS g.p g.t.length] st (fun v s' => ∃ u : SV,v = .agg #[vS u.p u.x.items.length,vS u.q u.x.floors.length] ∧ u.x = pruneF s.x g.x ∧ OwnP s' (pcS u) ∧ NewP st.next (pcS u) ∧ Pres st s') :=
 ac_spec_Prune s g.p g.t st hR hT hb (bigT_iff.1 hbt).1 (bigT_iff.1 hbt).2
theorem uc_impl_TableAdd (g : TT) (k : Int) (pm : Option Addr) (ms : List Flr) (st : St) (hT : RdT st g.p g.t) (hM : Rows st 2 cFlr pm ms) (hbt : bigT g.x) (hms : szOk ms.length) : C 51 [vS g.p g.t.length,vI k,vS pm ms.length] st (fun v s => ∃ u : TT,v = vS u.p u.t.length ∧ u.x = tableAdd g.x k ms ∧ u.t.length = g.t.length ∧ OwnP s (pcTT u) ∧ NewP st.next (pcTT u) ∧ Pres st s) :=
 (ac_impl_TableAdd g.p pm g.t k ms st hT hM (bigT_iff.1 hbt).1 (bigT_iff.1 hbt).2 hms).mono fun v s ⟨q,u,h1,h2,h3,h4,h5,h6⟩ => ⟨⟨q,u⟩,h1.trans (congrArg (vS q) h2.symm),h3,h2,h4,h5,h6⟩
theorem uc_spec_TableAdd (g : TT) (k : Int) (pm : Option Addr) (ms : List Flr) (st : St) (hT : RdT st g.p g.t) (hM : Rows st 2 cFlr pm ms) (hbt : bigT g.x) (hms : szOk ms.length) : C 161 [vS g.p g.t.length,vI k,vS pm ms.length] st (fun v s => ∃ u : TT,v = vS u.p u.t.length ∧ u.x = tableAdd g.x k ms ∧ u.t.length = g.t.length ∧ OwnP s (pcTT u) ∧ NewP st.next (pcTT u) ∧ Pres st s) :=
 (ac_spec_TableAdd g.p pm g.t k ms st hT hM (bigT_iff.1 hbt).1 (bigT_iff.1 hbt).2 hms).mono fun v s ⟨q,u,h1,h2,h3,h4,h5,h6⟩ => ⟨⟨q,u⟩,h1.trans (congrArg (vS q) h2.symm),h3,h2,h4,h5,h6⟩
theorem Frs.ndS {s0 st st' : St} {v : NW} {u : SV} (h : Frs s0 st (pcNW v)) (hF : Frs st st' (pcS u)) : Frs s0 st' (pcNW { v with s := u }) :=
 Frs.swap (a := []) (c := pcS v.s) h hF
theorem Frs.ndT {s0 st st' : St} {v : NW} {u : TV} (h : Frs s0 st (pcNW v)) (hF : Frs st st' (pcIs u.toRV)) : Frs s0 st' (pcNW { v with t := u }) :=
 Frs.swap (a := pcS v.s) (c := pcIs v.t.toRV) h hF
theorem Frs.ndE {s0 st st' : St} {v : NW} {u : TT} (h : Frs s0 st (pcNW v)) (hF : Frs st st' (pcTT u)) : Frs s0 st' (pcNW { v with seen := u }) := by
 have e : ∀ x : TT,pcNW { v with seen := x } = (pcS v.s ++ (pcIs v.t.toRV ++ (pcLog v.g ++ (pcIs v.got ++ pcIs v.acked)))) ++ (pcTT x ++ (pcSes v.sess ++ pcRis v.rises)) := fun x => by simp only [List.append_assoc]
 rw [e]
 exact Frs.swap (c := pcTT v.seen) (by rw [← e]; exact h) hF
theorem NW.risAt (v : NW) (x : RisV) : pcNW { v with rises := x } = (pcS v.s ++ (pcIs v.t.toRV ++ (pcLog v.g ++ (pcIs v.got ++ (pcIs v.acked ++ (pcTT v.seen ++ pcSes v.sess)))))) ++ pcR 3 cRise x.p x.l :: [] := by simp [List.append_assoc]
theorem NewP.lef {n : Nat} {a b : List Pc} (h : NewP n (a ++ b)) : NewP n a := fun c hc => h c (List.mem_append_left _ hc)
theorem NewP.rig {n : Nat} {a b : List Pc} (h : NewP n (a ++ b)) : NewP n b := fun c hc => h c (List.mem_append_right _ hc)
theorem Frs.upd {s0 st st' : St} {a b : List Pc} {c d : Pc} (h : Frs s0 st (a ++ c :: b)) (hp : Pr c.p st st') (hd : d.own st') (he : d.p = c.p) : Frs s0 st' (a ++ d :: b) :=
 ⟨h.1.update hp hd he,h.2.1.lef.app (NewP.cons (he ▸ h.2.1.rig c (List.mem_cons_self ..)) (NewP.rig (a := [c]) h.2.1.rig)),hp.pres h.2.2 (h.2.1.rig c (List.mem_cons_self ..))⟩
theorem Frs.ris {s0 st st' : St} {v : NW} {l' : List Ris} (h : Frs s0 st (pcNW v)) (hp : Pr v.rises.p st st') (hO : OwnR st' 3 cRise v.rises.p l') : Frs s0 st' (pcNW { v with rises := ⟨v.rises.p,l'⟩ }) := by
 have h : Frs s0 st (pcNW { v with rises := v.rises }) := h
 rw [NW.risAt] at h ⊢
 exact Frs.upd (c := pcR 3 cRise v.rises.p v.rises.l) h hp (own_pc hO) rfl
theorem Frs.ownRis {s0 st : St} {v : NW} (h : Frs s0 st (pcNW v)) : OwnR st 3 cRise v.rises.p v.rises.l := own_one (by decide) len_cRise h.1.right.right.right.right.right.right.right
def riseF (c : Int) (l : List Ris) (y : Itm) : List Ris := match l[y.id.toNat]? with
 | some r => if y.e.inc > r.inc ∨ (y.e.inc = r.inc ∧ y.e.beat > r.beat) then l.set y.id.toNat ⟨y.e.inc,y.e.beat,c⟩ else l
 | none => l
def risesF (c : Int) (l : List Ris) (its : List Itm) : List Ris := its.foldl (riseF c) l
theorem riseF_len (c : Int) (l : List Ris) (y : Itm) : (riseF c l y).length = l.length := by
 unfold riseF
 split
 ·split
  ·exact List.length_set
  ·rfl
 ·rfl
theorem risesF_len (c : Int) : ∀ (its : List Itm) (l : List Ris),(risesF c l its).length = l.length
 | [],_ => rfl
 | y :: its,l => by
  show (risesF c (riseF c l y) its).length = _
  rw [risesF_len c its,riseF_len]
theorem risesF_succ {c : Int} {l : List Ris} {its : List Itm} {i : Nat} {y : Itm} (h : its[i]? = some y) : risesF c l (its.take (i + 1)) = riseF c (risesF c l (its.take i)) y := by
 rw [List.take_add_one,h]
 simp [risesF]
theorem riseF_yes {c : Int} {l : List Ris} {y : Itm} {r : Ris} (h : l[y.id.toNat]? = some r) (hk : y.e.inc > r.inc ∨ (y.e.inc = r.inc ∧ y.e.beat > r.beat)) : riseF c l y = l.set y.id.toNat ⟨y.e.inc,y.e.beat,c⟩ := by unfold riseF; rw [h]; exact if_pos hk
theorem riseF_no {c : Int} {l : List Ris} {y : Itm} {r : Ris} (h : l[y.id.toNat]? = some r) (hk : ¬ (y.e.inc > r.inc ∨ (y.e.inc = r.inc ∧ y.e.beat > r.beat))) : riseF c l y = l := by unfold riseF; rw [h]; exact if_neg hk
noncomputable def takeF (x : Nd) (p : Sta) : Nd :=
 let seen := tableAdd x.seen x.id (marksF (goneAt (joinF x.s p 5)) 5)
 let s := pruneF (joinF x.s p 5) seen
 { x with s := s,t := treeF s,seen := seen,rises := risesF x.clock x.rises s.items }
open Classical in
noncomputable def takeP (x : Nd) (p : Sta) : Nd × Bool := if nodeOk x ∧ stateOk p then (takeF x p,true) else (x,false)
theorem take_no {g x : Nd} {p : Sta} (h : ¬ (nodeOk g ∧ stateOk p)) (hx : x = g) : (x,false) = takeP g p := by rw [hx]; exact (if_neg h).symm
theorem take_yes {g x : Nd} {p : Sta} (h : nodeOk g ∧ stateOk p) (hx : x = takeF g p) : (x,true) = takeP g p := by rw [hx]; exact (if_pos h).symm
theorem take_eq {g y : Nd} {p s1 s2 : Sta} {sn : List (List Int)} {t2 : Tr} {l : List Ris} (hy : y = g) (h1 : s1 = joinF g.s p 5) (h2 : sn = tableAdd g.seen g.id (marksF (goneAt s1) 5)) (h3 : s2 = pruneF s1 sn) (h4 : t2 = treeF s2) (hl : l = risesF g.clock g.rises s2.items) : ({ y with s := s2,t := t2,seen := sn,rises := l } : Nd) = takeF g p := by
 subst hy h1 h2 h3 h4 hl
 rfl
theorem tAdd_big {t : List (List Int)} {k : Int} {ms : List Flr} (hb : bigT t) : bigT (tableAdd t k ms) := by
 unfold tableAdd
 split
 ·rename_i h
  have hk : k.toNat < t.length := by omega
  have hx : t[k.toNat]? = some (t.getD k.toNat []) := by
   rw [List.getD_eq_getElem?_getD,List.getElem?_eq_getElem hk]; rfl
  refine ⟨by rw [putT_len hk]; exact hb.1,fun l hl => ?_⟩
  rcases List.mem_append.1 hl with h1 | h1
  ·exact hb.2 l (List.mem_of_mem_take h1)
  ·rcases List.mem_cons.1 h1 with rfl | h1
   ·rw [addMarks_len]; exact hb.2 _ (List.mem_of_getElem? hx)
   ·exact hb.2 l (List.mem_of_mem_drop h1)
 ·exact hb
theorem tableAdd_big {t r : List (List Int)} {k : Int} {ms : List Flr} (h : r = tableAdd t k ms) (hb : bigT t) : bigT r := by
 rw [h]; exact tAdd_big hb
theorem ac_impl_Take (g : NV) (d : SV) (st : St) (hR : RdN st g) (hD : RdS st d) (hb : bigN g.x) (hbd : bigS d.x) : C 12 [(vNV g),.agg #[vS d.p d.x.items.length,vS d.q d.x.floors.length]] st (fun v s => ∃ (u : NW) (b : Bool),v = .tuple #[(vNV u),vB b] ∧ (u.x,b) = takeP g.x d.x ∧ OwnP s (pcNW u) ∧ NewP st.next (pcNW u) ∧ Pres st s) := by
 refine AC.enterX (i := ⟨[2,3,4,6,7,9],[2,3,4,6,7,9,22,26,28,33,35,38,39,42,43,44,51,53,56,57,65,66,74,75,85,86,88,89,91],[0,1,2,3,4,5,6,7,9,10,20,45,46,47,48,83],[]⟩) [(5,[5],[1,3]),(12,[],[])] Tryz.func12 rfl rfl (by kernel_rfl) (by kernel_rfl) Tryz.ntmps12 (Lb rfl) rfl ?_
 iterate 3 refine ⟨_,rfl,?_⟩
 refine Cm 3 st [Ml 2 0,Ml 3 1,Ml 4 2,(5,vB false)] [(2,0,cNV g),(3,1,cSV d),(4,2,Zn)] fun _ _ => ?_
 refine ⟨_,op_ldo (v := (vNV g)) rfl rfl rfl rfl,?_⟩
 refine ⟨_,rfl,(ac_impl_copyNode g st hR (by first | assumption | omega)).mono ?_⟩
 rintro _ s12 ⟨u12,rfl,h12,hO12,hN12,hP12⟩
 refine ⟨_,rfl,?_⟩
 refine ⟨_,op_stw (vs := cNV u12.v) rfl rfl rfl rfl rfl rfl rfl rfl,?_⟩
 refine Cm 4 s12 [Ml 2 0,Ml 3 1,Ml 4 2,(5,vB false),Ml 6 3] [(2,0,cNV g),(3,1,cSV d),(4,2,Zn),(6,3,cNV u12.v)] fun _ _ => ?_
 refine ⟨_,op_ldo (v := (vNV g)) rfl rfl rfl rfl,?_⟩
 refine ⟨_,rfl,(ac_impl_NodeOk g s12 (hR.pres hP12) (by first | assumption | omega)).mono ?_⟩
 rintro _ s14 ⟨x14,rfl,h14,hP14⟩
 rcases x14 with _|_
 ·replace h14 := fun k => Bool.false_ne_true (h14.2 k)
  iterate 2 refine ⟨_,rfl,?_⟩
  refine Cm 4 s14 [Ml 2 0,Ml 3 1,Ml 4 2,(5,vB false),Ml 6 3,(20,vB true)] [(2,0,cNV g),(3,1,cSV d),(4,2,Zn),(6,3,cNV u12.v)] fun _ _ => ?_
  have hF14 : Frs st s14 (pcNW u12) := ⟨hO12.pres hP14,hN12,hP12.trans hP14⟩
  refine ⟨_,op_ldo (v := (vNV u12.v)) rfl rfl rfl rfl,?_⟩
  refine ⟨_,op_stw (vs := cNV u12.v) rfl rfl rfl rfl rfl rfl rfl rfl,?_⟩
  exact cxs (Rt ⟨u12,false,rfl,take_no (fun k => h14 k.1) h12,hF14.1,hF14.2.1,hF14.2.2⟩)
 ·replace h14 := h14.1 rfl
  refine ⟨_,rfl,?_⟩
  refine ⟨_,Od rfl,?_⟩
  refine ⟨_,rfl,(ac_impl_StateOk d s14 (hD.pres (hP12.trans hP14)) (by first | assumption | omega)).mono ?_⟩
  rintro _ s14 ⟨x18,rfl,h18,rfl⟩
  rcases x18 with _|_
  ·replace h18 := fun k => Bool.false_ne_true (h18.2 k)
   iterate 2 refine ⟨_,rfl,?_⟩
   refine Cm 4 s14 [Ml 2 0,Ml 3 1,Ml 4 2,(5,vB false),Ml 6 3,(20,vB true)] [(2,0,cNV g),(3,1,cSV d),(4,2,Zn),(6,3,cNV u12.v)] fun _ _ => ?_
   have hF14 : Frs st s14 (pcNW u12) := ⟨hO12.pres hP14,hN12,hP12.trans hP14⟩
   refine ⟨_,op_ldo (v := (vNV u12.v)) rfl rfl rfl rfl,?_⟩
   refine ⟨_,op_stw (vs := cNV u12.v) rfl rfl rfl rfl rfl rfl rfl rfl,?_⟩
   exact cxs (Rt ⟨u12,false,rfl,take_no (fun k => h18 k.2) h12,hF14.1,hF14.2.1,hF14.2.2⟩)
  ·replace h18 := h18.1 rfl
   iterate 2 refine ⟨_,rfl,?_⟩
   refine Cm 4 s14 [Ml 2 0,Ml 3 1,Ml 4 2,(5,vB false),Ml 6 3,(20,vB false)] [(2,0,cNV g),(3,1,cSV d),(4,2,Zn),(6,3,cNV u12.v)] fun _ _ => ?_
   have hF14 : Frs st s14 (pcNW u12) := ⟨hO12.pres hP14,hN12,hP12.trans hP14⟩
   refine cxs ?_
   refine ⟨_,rfl,?_⟩
   refine ⟨_,Od rfl,?_⟩
   refine ⟨_,Od rfl,?_⟩
   refine ⟨_,rfl,(ac_impl_stateJoin g.s d s14 (hR.s.pres (hP12.trans hP14)) (hD.pres (hP12.trans hP14)) (hb.s) (by first | assumption | omega)).mono ?_⟩
   rintro _ s25 ⟨u25,rfl,h25,hO25,hN25,hP25⟩
   refine ⟨_,rfl,?_⟩
   refine ⟨_,Os rfl,?_⟩
   refine Cm 5 s25 [Ml 2 0,Ml 4 2,(5,vB false),Ml 6 3,Ml 7 4] [(2,0,cNV g),(4,2,Zn),(6,3,cNV u12.v),(7,4,cSV u25)] fun _ _ => ?_
   have hk25 : stateOk u25.x := by rw [h25]; exact stateOk_join h14.s h18
   have hb25 : bigS u25.x := by rw [h25]; exact bigS_join hb.s hbd
   have hml := marksF_len (goneAt u25.x) 5
   refine ⟨_,rfl,?_⟩
   refine ⟨_,Od rfl,?_⟩
   refine ⟨ld_own rfl rfl rfl,?_⟩
   refine ⟨_,rfl,?_⟩
   refine ⟨_,Od rfl,?_⟩
   refine ⟨ld_own rfl rfl rfl,?_⟩
   refine ⟨_,Od rfl,?_⟩
   refine ⟨_,rfl,(ac_impl_MarksOf u25 s25 (hO25.rdS) (by first | assumption | omega)).mono ?_⟩
   rintro _ s31 ⟨q31,rfl,hO31,hP31,hN31⟩
   refine ⟨hP31.2,?_⟩
   refine ⟨_,rfl,(uc_impl_TableAdd g.seen g.id q31 (marksF (goneAt u25.x) 5) s31 (hR.seen.pres ((hF14.2.2.trans hP25).trans hP31)) (hO31.rows len_cFlr) hb.seen (by unfold szOk; omega)).mono ?_⟩
   rintro _ s32 ⟨u32,rfl,h32,h32',hO32,hN32,hP32⟩
   refine ⟨_,rfl,?_⟩
   refine ⟨_,Os rfl,?_⟩
   refine Cm 5 s32 [Ml 2 0,Ml 4 2,(5,vB false),Ml 6 3,Ml 7 4] [(2,0,cNV g),(4,2,Zn),(6,3,Nv u12 [(11,vS u32.p u32.t.length)]),(7,4,cSV u25)] fun _ _ => ?_
   have hF32 : Frs st s32 (pcNW { u12 with seen := u32 }) := (hF14.later (hP25.trans hP31)).ndE ⟨hO32,hN32,hP32⟩
   have hbt32 : bigT u32.x := tableAdd_big h32 hb.seen
   refine ⟨_,Od rfl,?_⟩
   refine ⟨_,rfl,?_⟩
   refine ⟨_,Od rfl,?_⟩
   refine ⟨_,rfl,(uc_impl_Prune u25 u32 s32 (hO25.rdS.pres (hP31.trans hP32)) hO32.rdT hb25 hbt32).mono ?_⟩
   rintro _ s37 ⟨u37,rfl,h37,hO37,hN37,hP37⟩
   refine ⟨_,rfl,?_⟩
   refine ⟨_,Os rfl,?_⟩
   refine Cm 5 s37 [Ml 2 0,Ml 4 2,(5,vB false),Ml 6 3] [(2,0,cNV g),(4,2,Zn),(6,3,Nv u12 [(2,vS u37.p u37.x.items.length),(3,vS u37.q u37.x.floors.length),(11,vS u32.p u32.t.length)])] fun _ _ => ?_
   have hF37 : Frs st s37 (pcNW { u12 with seen := u32,s := u37 }) := hF32.ndS ⟨hO37,hN37,hP37⟩
   have hk37 : stateOk u37.x := ok_prune h37 hk25
   have hb37 : bigS u37.x := big_prune h37 hb25
   refine ⟨_,rfl,?_⟩
   refine ⟨_,Od rfl,?_⟩
   refine ⟨_,rfl,(ac_impl_TreeOf u37 s37 hO37.rdS hb37).mono ?_⟩
   rintro _ s41 ⟨u41,rfl,h41,hO41,hN41,hP41⟩
   refine ⟨_,rfl,?_⟩
   refine ⟨_,Os rfl,?_⟩
   refine Cm 5 s41 [Ml 2 0,Ml 4 2,(5,vB false),Ml 6 3] [(2,0,cNV g),(4,2,Zn),(6,3,Nv u12 [(2,vS u37.p u37.x.items.length),(3,vS u37.q u37.x.floors.length),(4,vS u41.p u41.l.length),(5,vI u41.root),(11,vS u32.p u32.t.length)])] fun _ _ => ?_
   have hF41 : Frs st s41 (pcNW { u12 with seen := u32,s := u37,t := u41 }) := hF37.ndT (Frs.one hO41 hN41 hP41)
   have hR37 := hO37.rdS.pres hP41
   have hr5 : g.rises.l.length = 5 := h14.rises.1
   have hr12 : u12.rises.l = g.rises.l := congrArg Nd.rises h12
   have hi37 : u37.x.items.length ≤ 1048576 := hb37.1
   iterate 2 refine ⟨_,rfl,?_⟩
   refine ⟨_,Od rfl,?_⟩
   refine ⟨_,rfl,?_⟩
   refine Cm 5 s41 [Ml 2 0,Ml 4 2,(5,vB false),Ml 6 3,(45,vS u37.p u37.x.items.length),(46,vI (u37.x.items.length : Int)),(47,vI 0)] [(2,0,cNV g),(4,2,Zn),(6,3,Nv u12 [(2,vS u37.p u37.x.items.length),(3,vS u37.q u37.x.floors.length),(4,vS u41.p u41.l.length),(5,vI u41.root),(11,vS u32.p u32.t.length)])] fun _ _ => ?_
   refine AW.loopM (fun x : Nat × List Ris => [(2,vL 2 0 (0)),(4,vL 4 0 (2)),(5,vB false),(6,vL 6 0 (3)),(45,vS u37.p u37.x.items.length),(46,vI (u37.x.items.length : Int)),(47,vI (x.1 : Int))]) (fun x : Nat × List Ris => [(2,0,cNV g),(4,2,[vI 0,vI 0,.slice none 0 0,.slice none 0 0,.slice none 0 0,vI 0,vI 0,vI 0,.slice none 0 0,.slice none 0 0,.slice none 0 0,.slice none 0 0,vI 0,vI 0,.slice none 0 0,vI 0,vI 0,vI 0,.slice none 0 0]),(6,3,[vI u12.id,vI u12.n,vS u37.p u37.x.items.length,vS u37.q u37.x.floors.length,vS u41.p u41.l.length,vI u41.root,vI u12.g.cap,vI u12.g.frm,vS u12.g.p u12.g.l.length,vS u12.got.p u12.got.l.length,vS u12.acked.p u12.acked.l.length,vS u32.p u32.t.length,vI u12.num,vI u12.slots,vS u12.sess.p u12.sess.l.length,vI u12.wait,vI u12.limit,vI u12.clock,vS u12.rises.p x.2.length])]) (fun m (x : Nat × List Ris) st' => m = u37.x.items.length - x.1 ∧ x.1 ≤ u37.x.items.length ∧ x.2 = risesF g.clock g.rises.l (u37.x.items.take x.1) ∧ Frs st st' (pcNW { u12 with seen := u32,s := u37,t := u41,rises := ⟨u12.rises.p,x.2⟩ })) (0,u12.rises.l) _ ⟨rfl,rfl,rfl,rfl,rfl,rfl,rfl,trivial⟩ ⟨rfl,rfl,rfl,trivial⟩ ⟨rfl,Nat.zero_le _,hr12,hF41⟩ ?_
   rintro m ⟨i,l⟩ ρ0 ff gg st' ⟨rfl,hi,hv,hF⟩
   simp only at hi hv hF
   have hll : l.length = 5 := by rw [hv,risesF_len]; exact hr5
   refine ⟨_,rfl,?_⟩
   rintro (_|_) h48
   ·replace h48 : ¬ ((i : Int) < (u37.x.items.length : Int)) := of_decide_eq_false h48
    refine Cm gg st' [Ml 2 0,Ml 4 2,(5,vB false),Ml 6 3,(45,vS u37.p u37.x.items.length),(46,vI (u37.x.items.length : Int)),(47,vI (i : Int)),(48,vB false)] [(2,0,cNV g),(4,2,Zn),(6,3,Nv u12 [(2,vS u37.p u37.x.items.length),(3,vS u37.q u37.x.floors.length),(4,vS u41.p u41.l.length),(5,vI u41.root),(11,vS u32.p u32.t.length),(18,vS u12.rises.p l.length)])] fun _ _ => ?_
    refine cxs ?_
    refine ⟨_,op_ldo (v := .agg #[vI u12.id,vI u12.n,vS u37.p u37.x.items.length,vS u37.q u37.x.floors.length,vS u41.p u41.l.length,vI u41.root,vI u12.g.cap,vI u12.g.frm,vS u12.g.p u12.g.l.length,vS u12.got.p u12.got.l.length,vS u12.acked.p u12.acked.l.length,vS u32.p u32.t.length,vI u12.num,vI u12.slots,vS u12.sess.p u12.sess.l.length,vI u12.wait,vI u12.limit,vI u12.clock,vS u12.rises.p l.length]) rfl rfl rfl rfl,?_⟩
    refine ⟨_,op_stw (vs := [vI u12.id,vI u12.n,vS u37.p u37.x.items.length,vS u37.q u37.x.floors.length,vS u41.p u41.l.length,vI u41.root,vI u12.g.cap,vI u12.g.frm,vS u12.g.p u12.g.l.length,vS u12.got.p u12.got.l.length,vS u12.acked.p u12.acked.l.length,vS u32.p u32.t.length,vI u12.num,vI u12.slots,vS u12.sess.p u12.sess.l.length,vI u12.wait,vI u12.limit,vI u12.clock,vS u12.rises.p l.length]) rfl rfl rfl rfl rfl rfl rfl rfl,?_⟩
    exact cxs (Rt ⟨{ u12 with seen := u32,s := u37,t := u41,rises := ⟨u12.rises.p,l⟩ },true,rfl,take_yes ⟨h14,h18⟩ (take_eq (y := u12.x) h12 h25 h32 h37 h41 (by rw [hv,show i = u37.x.items.length by omega,List.take_length])),hF.1,hF.2.1,hF.2.2⟩)
   ·replace h48 : (i : Int) < (u37.x.items.length : Int) := of_decide_eq_true h48
    refine Cm gg st' [Ml 2 0,Ml 4 2,(5,vB false),Ml 6 3,(45,vS u37.p u37.x.items.length),(46,vI (u37.x.items.length : Int)),(47,vI (i : Int)),(48,vB true)] [(2,0,cNV g),(4,2,Zn),(6,3,Nv u12 [(2,vS u37.p u37.x.items.length),(3,vS u37.q u37.x.floors.length),(4,vS u41.p u41.l.length),(5,vI u41.root),(11,vS u32.p u32.t.length),(18,vS u12.rises.p l.length)])] fun _ _ => ?_
    have hO : OwnR st' 3 cRise u12.rises.p l := hF.ownRis
    have hR2 : RdS st' u37 := hF.1.rdN.s
    refine cxs ?_
    refine op_at i hR2.1 (by omega) rfl rfl rfl rfl rfl rfl rfl ?_
    intro x49 b49 d49 k49 hy49 hb49 hm49 hc49 ho49
    refine ⟨_,op_lda rfl rfl rfl rfl rfl hm49 hc49 rfl,?_⟩
    refine ⟨_,rfl,?_⟩
    refine ⟨_,Os rfl,?_⟩
    refine Cm (gg + 1) st' [Ml 2 0,Ml 4 2,(5,vB false),Ml 6 3,Ml 9 gg,(45,vS u37.p u37.x.items.length),(46,vI (u37.x.items.length : Int)),(47,vI (i : Int)),(48,vB true)] [(2,0,cNV g),(4,2,Zn),(6,3,Nv u12 [(2,vS u37.p u37.x.items.length),(3,vS u37.q u37.x.floors.length),(4,vS u41.p u41.l.length),(5,vI u41.root),(11,vS u32.p u32.t.length),(18,vS u12.rises.p l.length)]),(9,gg,[vI x49.id,vI x49.e.inc,vI x49.e.rank,vI x49.e.beat,vI x49.e.ver,.string x49.e.data])] fun _ _ => ?_
    have hid : 0 ≤ x49.id ∧ x49.id ≤ 4 := (hk37.1 i x49 hy49).1
    obtain ⟨a,ha⟩ := hO.some (by omega)
    obtain ⟨b1,o1,k1,r,hpe,hr,hm1,hc1,hb1⟩ := (hO.rows len_cRise).atB (j := x49.id.toNat) (by omega)
    obtain ⟨rfl,rfl⟩ : a = b1 ∧ 0 = o1 := by rw [ha] at hpe; injection hpe with hpe; injection hpe with e1 e2; exact ⟨e1,e2⟩
    refine ⟨_,rfl,?_⟩
    refine ⟨_,Od rfl,?_⟩
    refine ⟨_,rfl,?_⟩
    refine ⟨_,Od rfl,?_⟩
    refine ⟨_,op_idx (j := x49.id) (n := l.length) (q := ⟨a,0,none⟩) rfl (congrArg (fun v => vS v l.length) ha) rfl rfl rfl hid.1 (by omega),?_⟩
    refine Cm (gg + 1) st' [Ml 2 0,Ml 4 2,(5,vB false),Ml 6 3,Ml 9 gg,(10,vP a (0 + x49.id.toNat * 3)),(45,vS u37.p u37.x.items.length),(46,vI (u37.x.items.length : Int)),(47,vI (i : Int)),(48,vB true)] [(2,0,cNV g),(4,2,Zn),(6,3,Nv u12 [(2,vS u37.p u37.x.items.length),(3,vS u37.q u37.x.floors.length),(4,vS u41.p u41.l.length),(5,vI u41.root),(11,vS u32.p u32.t.length),(18,vS u12.rises.p l.length)]),(9,gg,[vI x49.id,vI x49.e.inc,vI x49.e.rank,vI x49.e.beat,vI x49.e.ver,.string x49.e.data])] fun _ _ => ?_
    iterate 2 refine ⟨_,rfl,?_⟩
    refine ⟨_,Od rfl,?_⟩
    iterate 2 refine ⟨_,rfl,?_⟩
    refine ⟨_,op_ldc (i := 0) rfl rfl rfl rfl hm1 hc1 rfl rfl,?_⟩
    refine ⟨_,rfl,?_⟩
    rintro (_|_) h63
    ·replace h63 : ¬ (x49.e.inc > r.inc) := of_decide_eq_false h63
     iterate 2 refine ⟨_,rfl,?_⟩
     refine ⟨_,Od rfl,?_⟩
     iterate 2 refine ⟨_,rfl,?_⟩
     refine ⟨_,op_ldc (i := 0) rfl rfl rfl rfl hm1 hc1 rfl rfl,?_⟩
     refine ⟨_,rfl,?_⟩
     rintro (_|_) h72
     ·replace h72 : ¬ (x49.e.inc = r.inc) := beq_eq_false_iff_ne.1 h72
      iterate 2 refine ⟨_,rfl,?_⟩
      refine Cm (gg + 1) st' [Ml 2 0,Ml 4 2,(5,vB false),Ml 6 3,Ml 9 gg,(10,vP a (0 + x49.id.toNat * 3)),(45,vS u37.p u37.x.items.length),(46,vI (u37.x.items.length : Int)),(47,vI (i : Int)),(48,vB true),(83,vB false)] [(2,0,cNV g),(4,2,Zn),(6,3,Nv u12 [(2,vS u37.p u37.x.items.length),(3,vS u37.q u37.x.floors.length),(4,vS u41.p u41.l.length),(5,vI u41.root),(11,vS u32.p u32.t.length),(18,vS u12.rises.p l.length)]),(9,gg,[vI x49.id,vI x49.e.inc,vI x49.e.rank,vI x49.e.beat,vI x49.e.ver,.string x49.e.data])] fun _ _ => ?_
      refine cxs ?_
      have ew95 : IntKind.wrap .i64 ((i : Int) + (1)) = ((i + 1 : Nat) : Int) := (wrap_i64 (by omega) (by omega)).trans (by omega)
      refine ⟨_,rfl,?_⟩
      exact ⟨(i + 1,l),u37.x.items.length - (i + 1),by omega,⟨rfl,rfl,rfl,rfl,rfl,rfl,congrArg (Value.int .i64) ew95,trivial⟩,⟨rfl,rfl,rfl,trivial⟩,rfl,by simp only; omega,by rw [risesF_succ hy49,← hv]; exact (riseF_no hr (fun k => k.elim h63 fun k => h72 k.1)).symm,hF⟩
     ·replace h72 : x49.e.inc = r.inc := beq_iff_eq.1 h72
      refine ⟨_,rfl,?_⟩
      refine owE_cut [(2,vL 2 0 (0)),(4,vL 4 0 (2)),(5,vB false),(6,vL 6 0 (3)),(9,vL 9 0 (gg)),(10,vP a (0 + x49.id.toNat * 3)),(45,vS u37.p u37.x.items.length),(46,vI (u37.x.items.length : Int)),(47,vI (i : Int)),(48,vB true),(64,vB false),(73,vB true),(74,vL 9 1 (gg))] ⟨rfl,rfl,rfl,rfl,rfl,rfl,rfl,rfl,rfl,rfl,rfl,rfl,rfl,trivial⟩ fun _ => ?_
      refine ⟨_,rfl,?_⟩
      refine ⟨_,Od rfl,?_⟩
      iterate 2 refine ⟨_,rfl,?_⟩
      refine ⟨_,op_ldc (i := 1) rfl rfl rfl rfl hm1 hc1 rfl rfl,?_⟩
      refine ⟨_,rfl,?_⟩
      rintro (_|_) h81
      ·replace h81 : ¬ (x49.e.beat > r.beat) := of_decide_eq_false h81
       iterate 2 refine ⟨_,rfl,?_⟩
       refine Cm (gg + 1) st' [Ml 2 0,Ml 4 2,(5,vB false),Ml 6 3,Ml 9 gg,(10,vP a (0 + x49.id.toNat * 3)),(45,vS u37.p u37.x.items.length),(46,vI (u37.x.items.length : Int)),(47,vI (i : Int)),(48,vB true),(83,vB false)] [(2,0,cNV g),(4,2,Zn),(6,3,Nv u12 [(2,vS u37.p u37.x.items.length),(3,vS u37.q u37.x.floors.length),(4,vS u41.p u41.l.length),(5,vI u41.root),(11,vS u32.p u32.t.length),(18,vS u12.rises.p l.length)]),(9,gg,[vI x49.id,vI x49.e.inc,vI x49.e.rank,vI x49.e.beat,vI x49.e.ver,.string x49.e.data])] fun _ _ => ?_
       refine cxs ?_
       have ew95 : IntKind.wrap .i64 ((i : Int) + (1)) = ((i + 1 : Nat) : Int) := (wrap_i64 (by omega) (by omega)).trans (by omega)
       refine ⟨_,rfl,?_⟩
       exact ⟨(i + 1,l),u37.x.items.length - (i + 1),by omega,⟨rfl,rfl,rfl,rfl,rfl,rfl,congrArg (Value.int .i64) ew95,trivial⟩,⟨rfl,rfl,rfl,trivial⟩,rfl,by simp only; omega,by rw [risesF_succ hy49,← hv]; exact (riseF_no hr (fun k => k.elim h63 fun k => h81 k.2)).symm,hF⟩
      ·replace h81 : x49.e.beat > r.beat := of_decide_eq_true h81
       iterate 2 refine ⟨_,rfl,?_⟩
       refine Cm (gg + 1) st' [Ml 2 0,Ml 4 2,(5,vB false),Ml 6 3,Ml 9 gg,(10,vP a (0 + x49.id.toNat * 3)),(45,vS u37.p u37.x.items.length),(46,vI (u37.x.items.length : Int)),(47,vI (i : Int)),(48,vB true),(83,vB true)] [(2,0,cNV g),(4,2,Zn),(6,3,Nv u12 [(2,vS u37.p u37.x.items.length),(3,vS u37.q u37.x.floors.length),(4,vS u41.p u41.l.length),(5,vI u41.root),(11,vS u32.p u32.t.length),(18,vS u12.rises.p l.length)]),(9,gg,[vI x49.id,vI x49.e.inc,vI x49.e.rank,vI x49.e.beat,vI x49.e.ver,.string x49.e.data])] fun _ _ => ?_
       iterate 2 refine ⟨_,rfl,?_⟩
       refine ⟨_,Od rfl,?_⟩
       iterate 2 refine ⟨_,rfl,?_⟩
       refine ⟨_,Od rfl,?_⟩
       refine ⟨_,rfl,?_⟩
       refine ⟨_,Od rfl,?_⟩
       iterate 2 refine ⟨_,rfl,?_⟩
       refine op_put (st := st') (f := cRise) (j := x49.id.toNat) (l := l) (y := (⟨x49.e.inc,x49.e.beat,g.clock⟩ : Ris)) (p := u12.rises.p) (d := 0 + x49.id.toNat * 3) rfl rfl (Nat.zero_add _) rfl rfl len_cRise rfl rfl (by omega) hO ha ?_
       intro s94 hO94 hP94 hn94
       refine Cm (gg + 1) s94 [Ml 2 0,Ml 4 2,(5,vB false),Ml 6 3,Ml 9 gg,(10,vP a (0 + x49.id.toNat * 3)),(45,vS u37.p u37.x.items.length),(46,vI (u37.x.items.length : Int)),(47,vI (i : Int)),(48,vB true),(83,vB true)] [(2,0,cNV g),(4,2,Zn),(6,3,Nv u12 [(2,vS u37.p u37.x.items.length),(3,vS u37.q u37.x.floors.length),(4,vS u41.p u41.l.length),(5,vI u41.root),(11,vS u32.p u32.t.length),(18,vS u12.rises.p l.length)]),(9,gg,[vI x49.id,vI x49.e.inc,vI x49.e.rank,vI x49.e.beat,vI x49.e.ver,.string x49.e.data])] fun _ _ => ?_
       have ew95 : IntKind.wrap .i64 ((i : Int) + (1)) = ((i + 1 : Nat) : Int) := (wrap_i64 (by omega) (by omega)).trans (by omega)
       refine ⟨_,rfl,?_⟩
       exact ⟨(i + 1,l.set x49.id.toNat ⟨x49.e.inc,x49.e.beat,g.clock⟩),u37.x.items.length - (i + 1),by omega,⟨rfl,rfl,rfl,rfl,rfl,rfl,congrArg (Value.int .i64) ew95,trivial⟩,⟨rfl,rfl,(show some (3,[vI u12.id,vI u12.n,vS u37.p u37.x.items.length,vS u37.q u37.x.floors.length,vS u41.p u41.l.length,vI u41.root,vI u12.g.cap,vI u12.g.frm,vS u12.g.p u12.g.l.length,vS u12.got.p u12.got.l.length,vS u12.acked.p u12.acked.l.length,vS u32.p u32.t.length,vI u12.num,vI u12.slots,vS u12.sess.p u12.sess.l.length,vI u12.wait,vI u12.limit,vI u12.clock,vS u12.rises.p l.length]) = _ by rw [List.length_set]),trivial⟩,rfl,by simp only; omega,by rw [risesF_succ hy49,← hv]; exact (riseF_yes hr (.inr ⟨h72,h81⟩)).symm,hF.ris hP94 hO94⟩
    ·replace h63 : x49.e.inc > r.inc := of_decide_eq_true h63
     refine ⟨_,rfl,?_⟩
     refine Cm (gg + 1) st' [Ml 2 0,Ml 4 2,(5,vB false),Ml 6 3,Ml 9 gg,(10,vP a (0 + x49.id.toNat * 3)),(45,vS u37.p u37.x.items.length),(46,vI (u37.x.items.length : Int)),(47,vI (i : Int)),(48,vB true),(83,vB true)] [(2,0,cNV g),(4,2,Zn),(6,3,Nv u12 [(2,vS u37.p u37.x.items.length),(3,vS u37.q u37.x.floors.length),(4,vS u41.p u41.l.length),(5,vI u41.root),(11,vS u32.p u32.t.length),(18,vS u12.rises.p l.length)]),(9,gg,[vI x49.id,vI x49.e.inc,vI x49.e.rank,vI x49.e.beat,vI x49.e.ver,.string x49.e.data])] fun _ _ => ?_
     iterate 2 refine ⟨_,rfl,?_⟩
     refine ⟨_,Od rfl,?_⟩
     iterate 2 refine ⟨_,rfl,?_⟩
     refine ⟨_,Od rfl,?_⟩
     refine ⟨_,rfl,?_⟩
     refine ⟨_,Od rfl,?_⟩
     iterate 2 refine ⟨_,rfl,?_⟩
     refine op_put (st := st') (f := cRise) (j := x49.id.toNat) (l := l) (y := (⟨x49.e.inc,x49.e.beat,g.clock⟩ : Ris)) (p := u12.rises.p) (d := 0 + x49.id.toNat * 3) rfl rfl (Nat.zero_add _) rfl rfl len_cRise rfl rfl (by omega) hO ha ?_
     intro s94 hO94 hP94 hn94
     refine Cm (gg + 1) s94 [Ml 2 0,Ml 4 2,(5,vB false),Ml 6 3,Ml 9 gg,(10,vP a (0 + x49.id.toNat * 3)),(45,vS u37.p u37.x.items.length),(46,vI (u37.x.items.length : Int)),(47,vI (i : Int)),(48,vB true),(83,vB true)] [(2,0,cNV g),(4,2,Zn),(6,3,Nv u12 [(2,vS u37.p u37.x.items.length),(3,vS u37.q u37.x.floors.length),(4,vS u41.p u41.l.length),(5,vI u41.root),(11,vS u32.p u32.t.length),(18,vS u12.rises.p l.length)]),(9,gg,[vI x49.id,vI x49.e.inc,vI x49.e.rank,vI x49.e.beat,vI x49.e.ver,.string x49.e.data])] fun _ _ => ?_
     have ew95 : IntKind.wrap .i64 ((i : Int) + (1)) = ((i + 1 : Nat) : Int) := (wrap_i64 (by omega) (by omega)).trans (by omega)
     refine ⟨_,rfl,?_⟩
     exact ⟨(i + 1,l.set x49.id.toNat ⟨x49.e.inc,x49.e.beat,g.clock⟩),u37.x.items.length - (i + 1),by omega,⟨rfl,rfl,rfl,rfl,rfl,rfl,congrArg (Value.int .i64) ew95,trivial⟩,⟨rfl,rfl,(show some (3,[vI u12.id,vI u12.n,vS u37.p u37.x.items.length,vS u37.q u37.x.floors.length,vS u41.p u41.l.length,vI u41.root,vI u12.g.cap,vI u12.g.frm,vS u12.g.p u12.g.l.length,vS u12.got.p u12.got.l.length,vS u12.acked.p u12.acked.l.length,vS u32.p u32.t.length,vI u12.num,vI u12.slots,vS u12.sess.p u12.sess.l.length,vI u12.wait,vI u12.limit,vI u12.clock,vS u12.rises.p l.length]) = _ by rw [List.length_set]),trivial⟩,rfl,by simp only; omega,by rw [risesF_succ hy49,← hv]; exact (riseF_yes hr (.inl h63)).symm,hF.ris hP94 hO94⟩
theorem Frs.is0 {a : St} : Frs a a (pcIs ⟨none,[]⟩) := ⟨OwnP.one (.inl ⟨rfl,rfl⟩),NewP.cons New.none NewP.nil,Pres.refl _⟩
theorem Frs.st0 {a : St} : Frs a a (pcS ⟨none,none,nilS⟩) := ⟨pcS_nil,newS_nil,Pres.refl _⟩
theorem Frs.fv0 {a : St} : Frs a a (pcFV ⟨none,[]⟩) := ⟨OwnP.one (.inl ⟨rfl,rfl⟩),NewP.cons New.none NewP.nil,Pres.refl _⟩
theorem Frs.renew {s0 st st' : St} {a b : List Pc} {c d : Pc} (h : Frs s0 st (a ++ c :: b)) (hp : Pr c.p st st') (hd : d.own st') (hn : New st.next d.p) : Frs s0 st' (a ++ d :: b) :=
 ⟨h.1.renew hp hd hn,h.2.1.left.app (NewP.cons (hn.le h.2.2.1) (NewP.right (a := [c]) h.2.1.right)),hp.pres h.2.2 (h.2.1.right c (List.mem_cons_self ..))⟩
theorem Frs.update {s0 st st' : St} {a b : List Pc} {c d : Pc} (h : Frs s0 st (a ++ c :: b)) (hp : Pr c.p st st') (hd : d.own st') (he : d.p = c.p) : Frs s0 st' (a ++ d :: b) :=
 ⟨h.1.update hp hd he,h.2.1.left.app (NewP.cons (he ▸ h.2.1.right c (List.mem_cons_self ..)) (NewP.right (a := [c]) h.2.1.right)),hp.pres h.2.2 (h.2.1.right c (List.mem_cons_self ..))⟩
theorem NW.sessAt (v : NW) (x : SesV) : pcNW { v with sess := x } = (pcS v.s ++ (pcIs v.t.toRV ++ (pcLog v.g ++ (pcIs v.got ++ (pcIs v.acked ++ pcTT v.seen))))) ++ pcR 4 cSess x.p x.l :: pcRis v.rises := by simp [List.append_assoc]
theorem Frs.sessPush {s0 st st' : St} {v : NW} {q : Option Addr} {l : List Ses} (h : Frs s0 st (pcNW v)) (hp : Pr v.sess.p st st') (hO : OwnR st' 4 cSess q l) (hn : New st.next q) : Frs s0 st' (pcNW { v with sess := ⟨q,l⟩ }) := by
 rw [NW.sessAt v ⟨q,l⟩]
 exact Frs.renew (c := pcR 4 cSess v.sess.p v.sess.l) (by rw [← NW.sessAt v v.sess]; exact h) hp (own_pc hO) hn
theorem OwnP.ses {st : St} {v : NW} (h : OwnP st (pcNW v)) : OwnR st 4 cSess v.sess.p v.sess.l := own_one (by decide) len_cSess h.right.right.right.right.right.right.left
theorem Frs.part {s0 st st' : St} {v : MV} {u : SV} (h : Frs s0 st (pcMV v)) (hF : Frs st st' (pcS u)) : Frs s0 st' (pcMV { v with part := u }) := by
 have e : ∀ x : SV,pcMV { v with part := x } = (pcIs v.tree.toRV ++ (pcIs v.vec ++ pcIs v.leaves)) ++ (pcS x ++ pcFV v.marks) := fun x => by simp only [List.append_assoc]
 rw [e]
 exact Frs.swap (c := pcS v.part) (by rw [← e]; exact h) hF
theorem Frs.tree {s0 st st' : St} {v : MV} {u : TV} (h : Frs s0 st (pcMV v)) (hF : Frs st st' (pcIs u.toRV)) : Frs s0 st' (pcMV { v with tree := u }) :=
 Frs.swap (a := []) (c := pcIs v.tree.toRV) h hF
noncomputable def msgF (x : Nd) (k to n : Int) : Mg := ⟨k,x.id,to,n,logSeq x.g,⟨[],0⟩,x.got,[],nilS,marksF (goneAt x.s) 5⟩
theorem ac_spec_l13Msg (g : NV) (k to n : Int) (st : St) (hR : RdN st g) (hb : bigN g.x) : C 94 [(vNV g),vI k,vI to,vI n] st (fun v s => ∃ u : MV,v = .agg #[vI u.kind,vI u.frm,vI u.to,vI u.num,vI u.hi,vS u.tree.p u.tree.l.length,vI u.tree.root,vS u.vec.p u.vec.l.length,vS u.leaves.p u.leaves.l.length,vS u.part.p u.part.x.items.length,vS u.part.q u.part.x.floors.length,vS u.marks.p u.marks.l.length] ∧ u.x = msgF g.x k to n ∧ OwnP s (pcMV u) ∧ NewP st.next (pcMV u) ∧ Pres st s) := by
 have hs1 : g.got.l.length ≤ 1048576 := hb.got
 refine AC.enterX (i := ⟨[4,8],[4,8,10,14,18,21],[0,1,2,3,4,8],[]⟩) [(1,[7,11,14],[2,10,13])] Tryz.func94 rfl rfl (by kernel_rfl) (by kernel_rfl) Tryz.ntmps94 (Lb rfl) rfl ?_
 iterate 2 refine ⟨_,rfl,?_⟩
 refine Cm 2 st [(1,vI k),(2,vI to),(3,vI n),Ml 4 0,Ml 8 1] [(4,0,cNV g),(8,1,[vI 0,vI 0,vI 0,vI 0,vI 0,Sn,vI 0,Sn,Sn,Sn,Sn,Sn])] fun _ _ => ?_
 refine ⟨_,rfl,?_⟩
 refine ⟨_,Od rfl,?_⟩
 refine ⟨ld_own rfl rfl rfl,?_⟩
 refine ⟨_,rfl,?_⟩
 refine ⟨_,Od rfl,?_⟩
 refine ⟨_,rfl,(ac_spec_LogSeq g.g st hR.g (bigLog_iff.1 hb.g)).mono ?_⟩
 rintro _ st ⟨rfl,rfl⟩
 refine ⟨fun _ _ => rfl,?_⟩
 refine op_nilK (z := 1) (f := fI) rfl rfl rfl rfl (by decide) rfl ?_
 intro q17 s17 hO17 hP17 hN17
 refine ⟨_,rfl,?_⟩
 refine ⟨_,Od rfl,?_⟩
 refine ⟨ld_own rfl rfl rfl,?_⟩
 refine op_cat' (z := 1) (st := s17) (f := fI) (b := 8) (l := []) (l2 := g.got.l) rfl rfl rfl rfl rfl rfl rfl (by decide) fI_len rfl rfl rfl rfl (by first | omega | (simp only [List.length_nil]; omega)) (by unfold maxLen; first | omega | (simp only [List.length_nil]; omega)) hO17 (hP17.rows hR.got) ?_
 intro q20 s20 hO20 hPr20 hN20
 refine ⟨hPr20.low hP17 hN17,?_⟩
 refine ⟨_,rfl,?_⟩
 refine ⟨_,Od rfl,?_⟩
 refine ⟨ld_own rfl rfl rfl,?_⟩
 have hP20 : Pres st s20 := hPr20.pres hP17 hN17
 refine ⟨_,rfl,(ac_spec_MarksOf g.s s20 (hR.s.pres hP20) hb.s).mono ?_⟩
 rintro _ s23 ⟨q23,rfl,hO23,hP23,hN23⟩
 refine ⟨hP23.low hP20,?_⟩
 refine ⟨_,rfl,?_⟩
 refine ⟨_,op_stw (vs := [vI k,vI g.id,vI to,vI n,vI (logSeq g.g.x),.slice none 0 0,vI 0,vS q20 g.got.l.length,.slice none 0 0,.slice none 0 0,.slice none 0 0,vS q23 (marksF (goneAt g.s.x) 5).length]) rfl rfl rfl rfl rfl rfl rfl rfl,?_⟩
 refine cxs ?_
 have hF : Frs st s23 (pcMV ⟨k,g.id,to,n,logSeq g.g.x,⟨⟨none,[]⟩,0⟩,⟨q20,g.got.l⟩,⟨none,[]⟩,⟨none,none,nilS⟩,⟨q23,marksF (goneAt g.s.x) 5⟩⟩) := Frs.is0.join ((Frs.one hO20 (cat_new hP17 hN17 hN20) hP20).join (Frs.is0.join (Frs.st0.join (Frs.one hO23 hN23 hP23))))
 exact Rt ⟨_,rfl,rfl,hF.1,hF.2.1,hF.2.2⟩
def zMg : Mg := ⟨0,0,0,0,0,⟨[],0⟩,[],[],nilS,[]⟩
def zMV : MV := ⟨0,0,0,0,0,⟨⟨none,[]⟩,0⟩,⟨none,[]⟩,⟨none,[]⟩,⟨none,none,nilS⟩,⟨none,[]⟩⟩
theorem Frs.mg0 {a : St} : Frs a a (pcMV zMV) := Frs.is0.join (Frs.is0.join (Frs.is0.join (Frs.st0.join Frs.fv0)))
def peerOf (x : Nd) (to : Int) : Prop := (0 ≤ to ∧ to ≤ x.n - 1) ∧ ¬ to = x.id
structure synOk (x : Nd) (to : Int) : Prop where
 ok : nodeOk x
 peer : peerOf x to
 slot : ¬ slotF x.sess to false 0 ≥ 0
 room : (x.sess.length : Int) < x.slots
 num : ¬ x.num = 100000
def begun (x : Nd) (to : Int) : Nd := { x with num := x.num + 1,sess := x.sess ++ [⟨to,x.num + 1,false,0⟩] }
open Classical in
noncomputable def synF (x : Nd) (to : Int) : Nd × Mg × Bool := if synOk x to then (begun x to,{ msgF (begun x to) 2 to (x.num + 1) with tree := x.t },true) else (x,zMg,false)
theorem syn_no {g x : Nd} {to : Int} (h : ¬ synOk g to) (hx : x = g) : (x,zMg,false) = synF g to := by rw [hx]; exact (if_neg h).symm
theorem syn_yes {g x : Nd} {to : Int} {m : Mg} {t : Tr} (h : synOk g to) (hx : x = g) (hm : m = msgF (begun x to) 2 to (x.num + 1)) (ht : t = g.t) : (begun x to,({ m with tree := t } : Mg),true) = synF g to := by
 unfold synF
 rw [if_pos h,hm,ht,hx]
theorem ac_spec_Syn (g : NV) (to : Int) (st : St) (hR : RdN st g) (hb : bigN g.x) : C 28 [(vNV g),vI to] st (fun v s => ∃ (u : NW) (m : MV) (b : Bool),v = .tuple #[(vNV u),.agg #[vI m.kind,vI m.frm,vI m.to,vI m.num,vI m.hi,vS m.tree.p m.tree.l.length,vI m.tree.root,vS m.vec.p m.vec.l.length,vS m.leaves.p m.leaves.l.length,vS m.part.p m.part.x.items.length,vS m.part.q m.part.x.floors.length,vS m.marks.p m.marks.l.length],vB b] ∧ (u.x,m.x,b) = synF g.x to ∧ OwnP s (pcNW u ++ pcMV m) ∧ NewP st.next (pcNW u ++ pcMV m) ∧ Pres st s) := by
 refine AC.enterX (i := ⟨[2,4,5,7,8],[2,4,5,7,8,27,30,35,41,44,45,48,53,56,59,62],[0,1,2,4,5,6,7,8,38],[]⟩) [(8,[2],[1]),(1008,[],[8])] Tryz.func28 rfl rfl (by kernel_rfl) (by kernel_rfl) Tryz.ntmps28 (Lb rfl) rfl ?_
 iterate 3 refine ⟨_,rfl,?_⟩
 refine Cm 3 st [(1,vI to),Ml 2 0,Ml 4 1,Ml 5 2,(6,vB false)] [(2,0,cNV g),(4,1,Zn),(5,2,[vI 0,vI 0,vI 0,vI 0,vI 0,Sn,vI 0,Sn,Sn,Sn,Sn,Sn])] fun _ _ => ?_
 refine ⟨_,op_ldo (v := (vNV g)) rfl rfl rfl rfl,?_⟩
 refine ⟨_,rfl,(ac_spec_l11Copy g st hR (by first | assumption | omega)).mono ?_⟩
 rintro _ s10 ⟨u10,rfl,h10,hO10,hN10,hP10⟩
 refine ⟨_,rfl,?_⟩
 refine ⟨_,op_stw (vs := cNV u10.v) rfl rfl rfl rfl rfl rfl rfl rfl,?_⟩
 refine Cm 4 s10 [(1,vI to),Ml 2 0,Ml 4 1,Ml 5 2,(6,vB false),Ml 7 3] [(2,0,cNV g),(4,1,Zn),(5,2,[vI 0,vI 0,vI 0,vI 0,vI 0,Sn,vI 0,Sn,Sn,Sn,Sn,Sn]),(7,3,cNV u10.v)] fun _ _ => ?_
 refine ⟨_,op_ldo (v := (vNV g)) rfl rfl rfl rfl,?_⟩
 refine ⟨_,rfl,(ac_spec_NodeOk g s10 (hR.pres hP10) (by first | assumption | omega)).mono ?_⟩
 rintro _ s12 ⟨x12,rfl,h12,hP12⟩
 rcases x12 with _|_
 ·replace h12 := fun k => Bool.false_ne_true (h12.2 k)
  iterate 5 refine ⟨_,rfl,?_⟩
  refine Cm 4 s12 [(1,vI to),Ml 4 1,Ml 5 2,(6,vB false),Ml 7 3,(38,vB true)] [(4,1,Zn),(5,2,[vI 0,vI 0,vI 0,vI 0,vI 0,Sn,vI 0,Sn,Sn,Sn,Sn,Sn]),(7,3,cNV u10.v)] fun _ _ => ?_
  have hF12 : Frs st s12 (pcNW u10) := ⟨hO10.pres hP12,hN10,hP10.trans hP12⟩
  refine ⟨_,op_ldo (v := (vNV u10.v)) rfl rfl rfl rfl,?_⟩
  refine ⟨_,rfl,?_⟩
  refine ⟨_,op_stw (vs := cNV u10.v) rfl rfl rfl rfl rfl rfl rfl rfl,?_⟩
  refine ⟨_,op_stw (vs := [vI 0,vI 0,vI 0,vI 0,vI 0,.slice none 0 0,vI 0,.slice none 0 0,.slice none 0 0,.slice none 0 0,.slice none 0 0,.slice none 0 0]) rfl rfl rfl rfl rfl rfl rfl rfl,?_⟩
  refine cxs ?_
  have hF := hF12.join Frs.mg0
  exact Rt ⟨u10,zMV,false,rfl,syn_no (fun k => h12 k.ok) h10,hF.1,hF.2.1,hF.2.2⟩
 ·replace h12 := h12.1 rfl
  refine ⟨_,rfl,?_⟩
  refine ⟨_,op_ldo (v := (vNV g)) rfl rfl rfl rfl,?_⟩
  have hn : 1 ≤ g.n ∧ g.n ≤ 5 := h12.n
  refine ⟨_,rfl,(ac_spec_l13Peer g to s12 (by first | assumption | omega)).mono ?_⟩
  rintro _ s12 ⟨x17,rfl,h17,rfl⟩
  rcases x17 with _|_
  ·replace h17 := fun k => Bool.false_ne_true (h17.2 k)
   iterate 5 refine ⟨_,rfl,?_⟩
   refine Cm 4 s12 [(1,vI to),Ml 4 1,Ml 5 2,(6,vB false),Ml 7 3,(38,vB true)] [(4,1,Zn),(5,2,[vI 0,vI 0,vI 0,vI 0,vI 0,Sn,vI 0,Sn,Sn,Sn,Sn,Sn]),(7,3,cNV u10.v)] fun _ _ => ?_
   have hF12 : Frs st s12 (pcNW u10) := ⟨hO10.pres hP12,hN10,hP10.trans hP12⟩
   refine ⟨_,op_ldo (v := (vNV u10.v)) rfl rfl rfl rfl,?_⟩
   refine ⟨_,rfl,?_⟩
   refine ⟨_,op_stw (vs := cNV u10.v) rfl rfl rfl rfl rfl rfl rfl rfl,?_⟩
   refine ⟨_,op_stw (vs := [vI 0,vI 0,vI 0,vI 0,vI 0,.slice none 0 0,vI 0,.slice none 0 0,.slice none 0 0,.slice none 0 0,.slice none 0 0,.slice none 0 0]) rfl rfl rfl rfl rfl rfl rfl rfl,?_⟩
   refine cxs ?_
   have hF := hF12.join Frs.mg0
   exact Rt ⟨u10,zMV,false,rfl,syn_no (fun k => h17 k.peer) h10,hF.1,hF.2.1,hF.2.2⟩
  ·replace h17 := h17.1 rfl
   iterate 2 refine ⟨_,rfl,?_⟩
   refine ⟨_,op_ldo (v := (vNV g)) rfl rfl rfl rfl,?_⟩
   refine ⟨_,rfl,(ac_spec_Slot g to false s12 (hR.pres (hP10.trans hP12)) (by first | assumption | omega)).mono ?_⟩
   rintro _ s12 ⟨rfl,rfl⟩
   refine ⟨_,rfl,?_⟩
   rintro (_|_) h24
   ·replace h24 : ¬ ((slotF g.sess.l to false 0) ≥ (0)) := of_decide_eq_false h24
    iterate 2 refine ⟨_,rfl,?_⟩
    refine ⟨_,Od rfl,?_⟩
    refine ow_cut [(1,vI to),(2,vL 2 0 (0)),(4,vL 4 0 (1)),(5,vL 5 0 (2)),(6,vB false),(7,vL 7 0 (3)),(26,vB false),(28,vS g.sess.p g.sess.l.length)] ⟨rfl,rfl,rfl,rfl,rfl,rfl,rfl,rfl,trivial⟩ fun _ => ?_
    iterate 2 refine ⟨_,rfl,?_⟩
    refine ⟨_,Od rfl,?_⟩
    have hle0 : (g.sess.l.length : Int) ≤ g.slots := h12.sess.1
    refine ⟨_,rfl,?_⟩
    rintro (_|_) h32
    ·replace h32 : ¬ ((g.sess.l.length : Int) = g.slots) := beq_eq_false_iff_ne.1 h32
     iterate 2 refine ⟨_,rfl,?_⟩
     refine ⟨_,Od rfl,?_⟩
     refine ⟨_,rfl,?_⟩
     rintro (_|_) h37
     ·replace h37 : ¬ (g.num = (100000)) := beq_eq_false_iff_ne.1 h37
      refine ⟨_,rfl,?_⟩
      refine Cm 4 s12 [(1,vI to),Ml 4 1,Ml 5 2,(6,vB false),Ml 7 3,(38,vB false)] [(4,1,Zn),(5,2,[vI 0,vI 0,vI 0,vI 0,vI 0,Sn,vI 0,Sn,Sn,Sn,Sn,Sn]),(7,3,cNV u10.v)] fun _ _ => ?_
      have hF12 : Frs st s12 (pcNW u10) := ⟨hO10.pres hP12,hN10,hP10.trans hP12⟩
      refine cxs ?_
      refine ⟨_,rfl,?_⟩
      refine ⟨_,Od rfl,?_⟩
      have hn10 : u10.num = g.num := congrArg Nd.num h10
      have hnr : 0 ≤ g.num ∧ g.num ≤ 100000 := h12.num
      have hsl : g.slots ≤ 4 := h12.slots.2
      have hle : (g.sess.l.length : Int) ≤ g.slots := h12.sess.1
      have hs10 : u10.sess.l = g.sess.l := congrArg Nd.sess h10
      have hs11 : u10.sess.l.length = g.sess.l.length := by rw [hs10]
      have ew43 : IntKind.wrap .i64 (u10.num + (1)) = u10.num + (1) := wrap_i64 (by omega) (by omega)
      iterate 2 refine ⟨_,rfl,?_⟩
      refine ⟨_,Os rfl,?_⟩
      refine AW.cutM (4) s12 [(1,vI to),Ml 4 1,Ml 5 2,(6,vB false),Ml 7 3] [(4,1,Zn),(5,2,[vI 0,vI 0,vI 0,vI 0,vI 0,Sn,vI 0,Sn,Sn,Sn,Sn,Sn]),(7,3,Nv u10 [(12,vI (u10.num + (1)))])] ⟨rfl,rfl,rfl,rfl,rfl,trivial⟩ ⟨rfl,rfl,(show some (3,[vI u10.id,vI u10.n,vS u10.s.p u10.s.x.items.length,vS u10.s.q u10.s.x.floors.length,vS u10.t.p u10.t.l.length,vI u10.t.root,vI u10.g.cap,vI u10.g.frm,vS u10.g.p u10.g.l.length,vS u10.got.p u10.got.l.length,vS u10.acked.p u10.acked.l.length,vS u10.seen.p u10.seen.t.length,vI (IntKind.wrap .i64 (u10.num + (1))),vI u10.slots,vS u10.sess.p u10.sess.l.length,vI u10.wait,vI u10.limit,vI u10.clock,vS u10.rises.p u10.rises.l.length]) = some (3,[vI u10.id,vI u10.n,vS u10.s.p u10.s.x.items.length,vS u10.s.q u10.s.x.floors.length,vS u10.t.p u10.t.l.length,vI u10.t.root,vI u10.g.cap,vI u10.g.frm,vS u10.g.p u10.g.l.length,vS u10.got.p u10.got.l.length,vS u10.acked.p u10.acked.l.length,vS u10.seen.p u10.seen.t.length,vI (u10.num + (1)),vI u10.slots,vS u10.sess.p u10.sess.l.length,vI u10.wait,vI u10.limit,vI u10.clock,vS u10.rises.p u10.rises.l.length]) by rw [ew43]),trivial⟩ rfl fun _ _ => ?_
      refine ⟨_,rfl,?_⟩
      refine ⟨_,Od rfl,?_⟩
      refine ⟨_,rfl,?_⟩
      refine ⟨_,Od rfl,?_⟩
      refine ⟨_,rfl,?_⟩
      refine op_one (z := 4) (a := ((⟨to,u10.num + 1,false,0⟩ : Ses) : Ses)) (f := cSess) rfl rfl rfl rfl rfl (by decide) rfl (Lb rfl) rfl rfl rfl ?_
      refine op_snoc (z := 4) (st := s12) (f := cSess) (b := 32) (l := u10.sess.l) (x := (⟨to,u10.num + 1,false,0⟩ : Ses)) rfl rfl rfl rfl rfl rfl rfl (by decide) len_cSess rfl rfl rfl (by omega) (by unfold maxLen; omega) hF12.1.ses ?_
      intro q52 s52 hO52 hP52 hN52
      refine ⟨_,rfl,?_⟩
      refine ⟨_,Os rfl,?_⟩
      refine Cm 4 s52 [(1,vI to),Ml 4 1,Ml 5 2,(6,vB false),Ml 7 3] [(4,1,Zn),(5,2,[vI 0,vI 0,vI 0,vI 0,vI 0,Sn,vI 0,Sn,Sn,Sn,Sn,Sn]),(7,3,[vI u10.id,vI u10.n,vS u10.s.p u10.s.x.items.length,vS u10.s.q u10.s.x.floors.length,vS u10.t.p u10.t.l.length,vI u10.t.root,vI u10.g.cap,vI u10.g.frm,vS u10.g.p u10.g.l.length,vS u10.got.p u10.got.l.length,vS u10.acked.p u10.acked.l.length,vS u10.seen.p u10.seen.t.length,vI (u10.num + (1)),vI u10.slots,vS q52 (u10.sess.l ++ [(⟨to,u10.num + 1,false,0⟩ : Ses)]).length,vI u10.wait,vI u10.limit,vI u10.clock,vS u10.rises.p u10.rises.l.length])] fun _ _ => ?_
      have hF52 : Frs st s52 (pcNW { u10 with sess := ⟨q52,u10.sess.l ++ [⟨to,u10.num + 1,false,0⟩]⟩ }) := hF12.sessPush hP52 hO52 hN52
      have hR52 : RdN s52 { u10.v with num := u10.num + 1,sess := ⟨q52,u10.sess.l ++ [⟨to,u10.num + 1,false,0⟩]⟩ } := OwnP.rdN (v := { u10 with num := u10.num + 1,sess := ⟨q52,u10.sess.l ++ [⟨to,u10.num + 1,false,0⟩]⟩ }) hF52.1
      have hb10 : bigN u10.x := h10.symm ▸ hb
      have hb52 : bigN ({ u10.v with num := u10.num + 1,sess := ⟨q52,u10.sess.l ++ [⟨to,u10.num + 1,false,0⟩]⟩ } : NV).x := ⟨hb10.s,hb10.t,hb10.g,hb10.got,hb10.acked,hb10.seen,by show (u10.sess.l ++ [_]).length ≤ 1048576; rw [List.length_append,hs11,List.length_singleton]; omega,hb10.rises⟩
      refine ⟨_,op_ldo (v := .agg #[vI u10.id,vI u10.n,vS u10.s.p u10.s.x.items.length,vS u10.s.q u10.s.x.floors.length,vS u10.t.p u10.t.l.length,vI u10.t.root,vI u10.g.cap,vI u10.g.frm,vS u10.g.p u10.g.l.length,vS u10.got.p u10.got.l.length,vS u10.acked.p u10.acked.l.length,vS u10.seen.p u10.seen.t.length,vI (u10.num + (1)),vI u10.slots,vS q52 (u10.sess.l ++ [(⟨to,u10.num + 1,false,0⟩ : Ses)]).length,vI u10.wait,vI u10.limit,vI u10.clock,vS u10.rises.p u10.rises.l.length]) rfl rfl rfl rfl,?_⟩
      refine ⟨_,rfl,?_⟩
      refine ⟨_,Od rfl,?_⟩
      refine ⟨_,rfl,(ac_spec_l13Msg { u10.v with num := u10.num + 1,sess := ⟨q52,u10.sess.l ++ [⟨to,u10.num + 1,false,0⟩]⟩ } 2 to (u10.num + 1) s52 hR52 hb52).mono ?_⟩
      rintro _ s58 ⟨u58,rfl,h58,hO58,hN58,hP58⟩
      refine ⟨_,rfl,?_⟩
      refine ⟨_,op_stw (vs := cMV u58) rfl rfl rfl rfl rfl rfl rfl rfl,?_⟩
      refine Cm 5 s58 [Ml 4 1,Ml 5 2,(6,vB false),Ml 7 3,Ml 8 4] [(4,1,Zn),(5,2,[vI 0,vI 0,vI 0,vI 0,vI 0,Sn,vI 0,Sn,Sn,Sn,Sn,Sn]),(7,3,[vI u10.id,vI u10.n,vS u10.s.p u10.s.x.items.length,vS u10.s.q u10.s.x.floors.length,vS u10.t.p u10.t.l.length,vI u10.t.root,vI u10.g.cap,vI u10.g.frm,vS u10.g.p u10.g.l.length,vS u10.got.p u10.got.l.length,vS u10.acked.p u10.acked.l.length,vS u10.seen.p u10.seen.t.length,vI (u10.num + (1)),vI u10.slots,vS q52 (u10.sess.l ++ [(⟨to,u10.num + 1,false,0⟩ : Ses)]).length,vI u10.wait,vI u10.limit,vI u10.clock,vS u10.rises.p u10.rises.l.length]),(8,4,cMV u58)] fun _ _ => ?_
      refine ⟨_,rfl,?_⟩
      refine ⟨_,Od rfl,?_⟩
      refine ⟨_,rfl,(ac_spec_l6Copy u10.t s58 (hP58.rows hR52.t) hb10.t).mono ?_⟩
      rintro _ s61 ⟨u61,rfl,h61,h61',hO61,hN61,hP61⟩
      refine ⟨_,rfl,?_⟩
      refine ⟨_,Os rfl,?_⟩
      refine Cm 5 s61 [Ml 4 1,Ml 5 2,(6,vB false),Ml 7 3,Ml 8 4] [(4,1,Zn),(5,2,[vI 0,vI 0,vI 0,vI 0,vI 0,Sn,vI 0,Sn,Sn,Sn,Sn,Sn]),(7,3,[vI u10.id,vI u10.n,vS u10.s.p u10.s.x.items.length,vS u10.s.q u10.s.x.floors.length,vS u10.t.p u10.t.l.length,vI u10.t.root,vI u10.g.cap,vI u10.g.frm,vS u10.g.p u10.g.l.length,vS u10.got.p u10.got.l.length,vS u10.acked.p u10.acked.l.length,vS u10.seen.p u10.seen.t.length,vI (u10.num + (1)),vI u10.slots,vS q52 (u10.sess.l ++ [(⟨to,u10.num + 1,false,0⟩ : Ses)]).length,vI u10.wait,vI u10.limit,vI u10.clock,vS u10.rises.p u10.rises.l.length]),(8,4,[vI u58.kind,vI u58.frm,vI u58.to,vI u58.num,vI u58.hi,vS u61.p u61.l.length,vI u61.root,vS u58.vec.p u58.vec.l.length,vS u58.leaves.p u58.leaves.l.length,vS u58.part.p u58.part.x.items.length,vS u58.part.q u58.part.x.floors.length,vS u58.marks.p u58.marks.l.length])] fun _ _ => ?_
      refine ⟨_,op_ldo (v := .agg #[vI u10.id,vI u10.n,vS u10.s.p u10.s.x.items.length,vS u10.s.q u10.s.x.floors.length,vS u10.t.p u10.t.l.length,vI u10.t.root,vI u10.g.cap,vI u10.g.frm,vS u10.g.p u10.g.l.length,vS u10.got.p u10.got.l.length,vS u10.acked.p u10.acked.l.length,vS u10.seen.p u10.seen.t.length,vI (u10.num + (1)),vI u10.slots,vS q52 (u10.sess.l ++ [(⟨to,u10.num + 1,false,0⟩ : Ses)]).length,vI u10.wait,vI u10.limit,vI u10.clock,vS u10.rises.p u10.rises.l.length]) rfl rfl rfl rfl,?_⟩
      refine ⟨_,op_ldo (v := .agg #[vI u58.kind,vI u58.frm,vI u58.to,vI u58.num,vI u58.hi,vS u61.p u61.l.length,vI u61.root,vS u58.vec.p u58.vec.l.length,vS u58.leaves.p u58.leaves.l.length,vS u58.part.p u58.part.x.items.length,vS u58.part.q u58.part.x.floors.length,vS u58.marks.p u58.marks.l.length]) rfl rfl rfl rfl,?_⟩
      refine ⟨ld_own rfl rfl rfl,?_⟩
      refine ⟨_,op_stw (vs := [vI u10.id,vI u10.n,vS u10.s.p u10.s.x.items.length,vS u10.s.q u10.s.x.floors.length,vS u10.t.p u10.t.l.length,vI u10.t.root,vI u10.g.cap,vI u10.g.frm,vS u10.g.p u10.g.l.length,vS u10.got.p u10.got.l.length,vS u10.acked.p u10.acked.l.length,vS u10.seen.p u10.seen.t.length,vI (u10.num + (1)),vI u10.slots,vS q52 (u10.sess.l ++ [(⟨to,u10.num + 1,false,0⟩ : Ses)]).length,vI u10.wait,vI u10.limit,vI u10.clock,vS u10.rises.p u10.rises.l.length]) rfl rfl rfl rfl rfl rfl rfl rfl,?_⟩
      refine ⟨sx_cons ⟨_,_,_,rfl,rfl,rfl,by decide⟩ (sx_nil),?_⟩
      refine ⟨_,op_stw (vs := [vI u58.kind,vI u58.frm,vI u58.to,vI u58.num,vI u58.hi,vS u61.p u61.l.length,vI u61.root,vS u58.vec.p u58.vec.l.length,vS u58.leaves.p u58.leaves.l.length,vS u58.part.p u58.part.x.items.length,vS u58.part.q u58.part.x.floors.length,vS u58.marks.p u58.marks.l.length]) rfl rfl rfl rfl rfl rfl rfl rfl,?_⟩
      refine cxs ?_
      have hF := (hF52.join (Frs.tree (u := u61) ⟨hO58,hN58,hP58⟩ (Frs.one hO61 hN61 hP61)))
      have hsy : synOk g.x to := ⟨h12,h17,h24,by show (g.sess.l.length : Int) < g.slots; omega,h37⟩
      exact Rt ⟨{ u10 with num := u10.num + 1,sess := ⟨q52,u10.sess.l ++ [⟨to,u10.num + 1,false,0⟩]⟩ },{ u58 with tree := u61 },true,rfl,syn_yes (x := u10.x) hsy h10 h58 (by first | exact tv_xx h61 h61' | exact (tv_xx h61 h61').trans (congrArg Nd.t h10)),hF.1,hF.2.1,hF.2.2⟩
     ·replace h37 : g.num = (100000) := beq_iff_eq.1 h37
      refine ⟨_,rfl,?_⟩
      refine Cm 4 s12 [(1,vI to),Ml 4 1,Ml 5 2,(6,vB false),Ml 7 3,(38,vB true)] [(4,1,Zn),(5,2,[vI 0,vI 0,vI 0,vI 0,vI 0,Sn,vI 0,Sn,Sn,Sn,Sn,Sn]),(7,3,cNV u10.v)] fun _ _ => ?_
      have hF12 : Frs st s12 (pcNW u10) := ⟨hO10.pres hP12,hN10,hP10.trans hP12⟩
      refine ⟨_,op_ldo (v := (vNV u10.v)) rfl rfl rfl rfl,?_⟩
      refine ⟨_,rfl,?_⟩
      refine ⟨_,op_stw (vs := cNV u10.v) rfl rfl rfl rfl rfl rfl rfl rfl,?_⟩
      refine ⟨_,op_stw (vs := [vI 0,vI 0,vI 0,vI 0,vI 0,.slice none 0 0,vI 0,.slice none 0 0,.slice none 0 0,.slice none 0 0,.slice none 0 0,.slice none 0 0]) rfl rfl rfl rfl rfl rfl rfl rfl,?_⟩
      refine cxs ?_
      have hF := hF12.join Frs.mg0
      exact Rt ⟨u10,zMV,false,rfl,syn_no (fun k => k.num h37) h10,hF.1,hF.2.1,hF.2.2⟩
    ·replace h32 : (g.sess.l.length : Int) = g.slots := beq_iff_eq.1 h32
     iterate 2 refine ⟨_,rfl,?_⟩
     refine Cm 4 s12 [(1,vI to),Ml 4 1,Ml 5 2,(6,vB false),Ml 7 3,(38,vB true)] [(4,1,Zn),(5,2,[vI 0,vI 0,vI 0,vI 0,vI 0,Sn,vI 0,Sn,Sn,Sn,Sn,Sn]),(7,3,cNV u10.v)] fun _ _ => ?_
     have hF12 : Frs st s12 (pcNW u10) := ⟨hO10.pres hP12,hN10,hP10.trans hP12⟩
     refine ⟨_,op_ldo (v := (vNV u10.v)) rfl rfl rfl rfl,?_⟩
     refine ⟨_,rfl,?_⟩
     refine ⟨_,op_stw (vs := cNV u10.v) rfl rfl rfl rfl rfl rfl rfl rfl,?_⟩
     refine ⟨_,op_stw (vs := [vI 0,vI 0,vI 0,vI 0,vI 0,.slice none 0 0,vI 0,.slice none 0 0,.slice none 0 0,.slice none 0 0,.slice none 0 0,.slice none 0 0]) rfl rfl rfl rfl rfl rfl rfl rfl,?_⟩
     refine cxs ?_
     have hF := hF12.join Frs.mg0
     exact Rt ⟨u10,zMV,false,rfl,syn_no (fun k => absurd k.room (by show ¬ (g.sess.l.length : Int) < g.slots; omega)) h10,hF.1,hF.2.1,hF.2.2⟩
   ·replace h24 : (slotF g.sess.l to false 0) ≥ (0) := of_decide_eq_true h24
    iterate 3 refine ⟨_,rfl,?_⟩
    refine Cm 4 s12 [(1,vI to),Ml 4 1,Ml 5 2,(6,vB false),Ml 7 3,(38,vB true)] [(4,1,Zn),(5,2,[vI 0,vI 0,vI 0,vI 0,vI 0,Sn,vI 0,Sn,Sn,Sn,Sn,Sn]),(7,3,cNV u10.v)] fun _ _ => ?_
    have hF12 : Frs st s12 (pcNW u10) := ⟨hO10.pres hP12,hN10,hP10.trans hP12⟩
    refine ⟨_,op_ldo (v := (vNV u10.v)) rfl rfl rfl rfl,?_⟩
    refine ⟨_,rfl,?_⟩
    refine ⟨_,op_stw (vs := cNV u10.v) rfl rfl rfl rfl rfl rfl rfl rfl,?_⟩
    refine ⟨_,op_stw (vs := [vI 0,vI 0,vI 0,vI 0,vI 0,.slice none 0 0,vI 0,.slice none 0 0,.slice none 0 0,.slice none 0 0,.slice none 0 0,.slice none 0 0]) rfl rfl rfl rfl rfl rfl rfl rfl,?_⟩
    refine cxs ?_
    have hF := hF12.join Frs.mg0
    exact Rt ⟨u10,zMV,false,rfl,syn_no (fun k => k.slot h24) h10,hF.1,hF.2.1,hF.2.2⟩
end Go.Proofs.YtpnolkhfeliehaaGreat.AM
