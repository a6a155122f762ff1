/- Part 3 of the texts on which the law's proof rests. -/
import Derived.Test.YteabadoaeadcgaaXsb
namespace Go.Proofs.Yteabadoaeadcgaa.AM
open Go Go.Proofs
set_option linter.unusedVariables false
set_option linter.unusedSimpArgs false
set_option maxRecDepth 100000
set_option maxHeartbeats 4000000
theorem pcS_items {st st' : St} {q1 q2 q : Option Addr} {l1 l1' : List Itm} {l2 : List Flr} (h : OwnP st [pcR 6 cItm q1 l1,pcR 2 cFlr q2 l2]) (hp : Pr q1 st st') (ho : OwnR st' 6 cItm q l1') (hn : New st.next q) : OwnP st' [pcR 6 cItm q l1',pcR 2 cFlr q2 l2] :=
 OwnP.renew (l := []) (m := [pcR 2 cFlr q2 l2]) h hp (own_pc ho) hn
theorem pcS_floors {st st' : St} {q1 q2 q : Option Addr} {l1 : List Itm} {l2 l2' : List Flr} (h : OwnP st [pcR 6 cItm q1 l1,pcR 2 cFlr q2 l2]) (hp : Pr q2 st st') (ho : OwnR st' 2 cFlr q l2') (hn : New st.next q) : OwnP st' [pcR 6 cItm q1 l1,pcR 2 cFlr q l2'] :=
 OwnP.renew (l := [pcR 6 cItm q1 l1]) (m := []) h hp (own_pc ho) hn
theorem pcS_i {st : St} {q1 q2 : Option Addr} {l1 : List Itm} {l2 : List Flr} (h : OwnP st [pcR 6 cItm q1 l1,pcR 2 cFlr q2 l2]) : OwnR st 6 cItm q1 l1 := pc_own (by decide) len_cItm (h.1 _ (List.mem_cons_self ..))
theorem pcS_f {st : St} {q1 q2 : Option Addr} {l1 : List Itm} {l2 : List Flr} (h : OwnP st [pcR 6 cItm q1 l1,pcR 2 cFlr q2 l2]) : OwnR st 2 cFlr q2 l2 := pc_own (by decide) len_cFlr (h.1 _ (List.mem_cons_of_mem _ (List.mem_cons_self ..)))
theorem firstNZ_neg : ∀ l : List Int,firstNZ (l.map fun x => -x) = - firstNZ l
 | [] => rfl
 | x :: l => by
  have ih := firstNZ_neg l
  rw [List.map_cons,firstNZ,firstNZ]
  by_cases h : x = 0
  ·rw [if_pos h,if_pos (by omega),ih]
  ·rw [if_neg h,if_neg (by omega)]
theorem cmpI_neg (a b : Int) : cmpI b a = - cmpI a b := by
 unfold cmpI
 split <;> split <;> (try split) <;> omega
theorem compareBytes_neg : ∀ a b : List UInt8,Lib.compareBytes b a = - Lib.compareBytes a b
 | [],[] => by simp [Lib.compareBytes]
 | [],b :: bs => by simp [Lib.compareBytes]
 | a :: l,[] => by simp [Lib.compareBytes]
 | a :: l,b :: bs => by
  have ih := compareBytes_neg l bs
  unfold Lib.compareBytes
  by_cases h1 : a < b
  ·have h2 : ¬ b < a := fun h => UInt8.lt_irrefl _ (UInt8.lt_trans h h1)
   simp [h1,h2]
  ·by_cases h2 : b < a
   ·simp [h1,h2]
   ·simp [h1,h2,ih]
theorem entCmp_neg (a b : Ent) : entCmp b a = - entCmp a b := by
 unfold entCmp
 rw [← firstNZ_neg]
 simp only [List.map_cons,List.map_nil,cmpB,cmpI_neg a.inc b.inc,cmpI_neg a.rank b.rank,cmpI_neg a.beat b.beat,cmpI_neg a.ver b.ver,compareBytes_neg a.data.data.toList b.data.data.toList]
theorem entMax_zero {a : Ent} (h : 1 ≤ a.inc) : entMax a zEnt = a ∧ entMax zEnt a = a := by
 have h1 : entCmp a zEnt = 1 := by
  unfold entCmp firstNZ
  have : cmpI a.inc zEnt.inc = 1 := by unfold cmpI zEnt; simp only; rw [if_neg (by omega),if_pos (by omega)]
  rw [this]; rfl
 have h2 : entCmp zEnt a = -1 := by rw [entCmp_neg,h1]
 exact ⟨by rw [entMax,h1]; rfl,by rw [entMax,h2]; rfl⟩
theorem entMax_zz : entMax zEnt zEnt = zEnt := by unfold entMax; split <;> rfl
theorem floorOf_pos {l : List Flr} (h : marksOk l) (id : Int) : 0 ≤ floorOf l id ∧ floorOf l id ≤ 1000 := by
 have key : ∀ m : List Flr,(∀ x ∈ m,1 ≤ x.inc ∧ x.inc ≤ 1000) → 0 ≤ floorOf m id ∧ floorOf m id ≤ 1000 := by
  intro m
  induction m with
  | nil => intro _; simp [floorOf]
  | cons x m ih =>
   intro h
   have hx := h x (List.mem_cons_self ..)
   rw [floorOf]
   split
   ·omega
   ·exact ih fun y hy => h y (List.mem_cons_of_mem _ hy)
 refine key l fun x hx => ?_
 obtain ⟨i,hi⟩ := List.getElem?_of_mem hx
 exact (h i x hi).2.1
theorem entP_none {l : List Itm} {id : Int} {e : Ent} (h : (e,false) = entP l id) : e = zEnt := by
 induction l with
 | nil => rw [entP] at h; injection h
 | cons x l ih =>
  rw [entP] at h
  split at h
  ·injection h with _ h; cases h
  ·exact ih h
theorem ac_spec_l3Join (A B : SV) (st : St) (hA : RdS st A) (hB : RdS st B) (ha : bigS A.x) (hb : bigS B.x) (oa : stateOk A.x) (ob : stateOk B.x) : C 81 [.agg #[vS A.p A.x.items.length,vS A.q A.x.floors.length],.agg #[vS B.p B.x.items.length,vS B.q B.x.floors.length]] st (fun v s => ∃ u : SV,v = .agg #[vS u.p u.x.items.length,vS u.q u.x.floors.length] ∧ u.x = joinF A.x B.x 5 ∧ OwnP s (pcS u) ∧ NewP st.next (pcS u) ∧ Pres st s) := by
 refine AC.enterX (i := ⟨[2,3,4,5,8,10,12],[2,3,4,5,8,10,12,27,34,66,70,77],[0,1,2,3,4,5,6,7,8,9,10,11,12,15,26,52,64,69],[]⟩) [(5,[2],[3])] Try.func81 rfl rfl (by kernel_rfl) (by kernel_rfl) Try.ntmps81 (Lb rfl) rfl ?_
 iterate 3 refine ⟨_,rfl,?_⟩
 refine Cm 3 st [Ml 2 0,Ml 3 1,Ml 4 2] [(2,0,cSV A),(3,1,cSV B),(4,2,[Sn,Sn])] fun _ _ => ?_
 iterate 3 refine ⟨_,rfl,?_⟩
 refine cxs ?_
 refine Cm 4 st [Ml 2 0,Ml 3 1,Ml 4 2,Ml 5 3,(6,vI 0)] [(2,0,cSV A),(3,1,cSV B),(4,2,[Sn,Sn]),(5,3,[Sn,Sn])] fun _ _ => ?_
 refine AW.loopM (fun x : Nat × Option Addr × Option Addr => [(2,vL 2 0 (0)),(3,vL 3 0 (1)),(4,vL 4 0 (2)),(5,vL 5 0 (3)),(6,vI (x.1 : Int))]) (fun x : Nat × Option Addr × Option Addr => [(2,0,[vS A.p A.x.items.length,vS A.q A.x.floors.length]),(3,1,[vS B.p B.x.items.length,vS B.q B.x.floors.length]),(4,2,[.slice none 0 0,.slice none 0 0]),(5,3,[vS x.2.1 (joinF A.x B.x x.1).items.length,vS x.2.2 (joinF A.x B.x x.1).floors.length])]) (fun m (x : Nat × Option Addr × Option Addr) st' => m = 5 - x.1 ∧ x.1 ≤ 5 ∧ OwnP st' [pcR 6 cItm x.2.1 (joinF A.x B.x x.1).items,pcR 2 cFlr x.2.2 (joinF A.x B.x x.1).floors] ∧ New st.next x.2.1 ∧ New st.next x.2.2 ∧ Pres st st') (0,none,none) _ ⟨rfl,rfl,rfl,rfl,rfl,trivial⟩ ⟨rfl,rfl,rfl,rfl,trivial⟩ ⟨rfl,Nat.zero_le _,pcS_nil,New.none,New.none,Pres.refl _⟩ ?_
 rintro m ⟨i,q1,q2⟩ ρ0 ff gg st' ⟨rfl,hi,hO,hN1,hN2,hP⟩
 simp only at hi hO hN1 hN2
 have hJ := joinF_len A.x B.x i
 have hJi := joinF_items A.x B.x i
 have hJf := joinF_floors A.x B.x i
 refine ⟨_,rfl,?_⟩
 rintro (_|_) h1
 ·replace h1 : ¬ ((i : Int) < 5) := of_decide_eq_false h1
  refine Cm gg st' [Ml 2 0,Ml 3 1,Ml 4 2,Ml 5 3,(6,vI (i : Int)),(15,vB false)] [(2,0,cSV A),(3,1,cSV B),(4,2,[Sn,Sn]),(5,3,[vS q1 (joinF A.x B.x i).items.length,vS q2 (joinF A.x B.x i).floors.length])] fun _ _ => ?_
  refine cxs ?_
  refine ⟨_,Od rfl,?_⟩
  refine ⟨_,Os rfl,?_⟩
  refine cxs ?_
  have hil : i = 5 := by omega
  subst hil
  exact Rt ⟨⟨q1,q2,joinF A.x B.x 5⟩,rfl,rfl,hO,NewP.cons hN1 (NewP.cons hN2 NewP.nil),hP⟩
 ·replace h1 : (i : Int) < 5 := of_decide_eq_true h1
  refine Cm gg st' [Ml 2 0,Ml 3 1,Ml 4 2,Ml 5 3,(6,vI (i : Int)),(15,vB true)] [(2,0,cSV A),(3,1,cSV B),(4,2,[Sn,Sn]),(5,3,[vS q1 (joinF A.x B.x i).items.length,vS q2 (joinF A.x B.x i).floors.length])] fun _ _ => ?_
  refine cxs ?_
  refine ⟨_,Od rfl,?_⟩
  refine ⟨_,rfl,(ac_spec_FloorOf A i st' (hA.pres hP) ha).mono ?_⟩
  rintro _ st' ⟨rfl,rfl⟩
  refine ⟨fun _ _ => rfl,?_⟩
  refine ⟨_,Od rfl,?_⟩
  refine ⟨ld_own rfl rfl rfl,?_⟩
  refine ⟨_,rfl,(ac_spec_FloorOf B i st' (hB.pres hP) hb).mono ?_⟩
  rintro _ st' ⟨rfl,rfl⟩
  refine ⟨_,rfl,(ac_spec_l1Max (floorOf A.x.floors (i : Int)) (floorOf B.x.floors (i : Int)) st').mono ?_⟩
  rintro _ st' ⟨rfl,rfl⟩
  refine AX.meet 5 (fun x : Option Addr × Ent × Nat => [(2,vL 2 0 (0)),(3,vL 3 0 (1)),(4,vL 4 0 (2)),(5,vL 5 0 (3)),(6,vI (i : Int)),(7,vI (topF A.x B.x (i : Int))),(12,vL 12 0 (x.2.2)),(15,vB true)]) (fun x : Option Addr × Ent × Nat => [(2,0,[vS A.p A.x.items.length,vS A.q A.x.floors.length]),(3,1,[vS B.p B.x.items.length,vS B.q B.x.floors.length]),(4,2,[.slice none 0 0,.slice none 0 0]),(5,3,[vS q1 (joinF A.x B.x i).items.length,vS x.1 (joinF A.x B.x (i + 1)).floors.length]),(12,x.2.2,[vI x.2.1.inc,vI x.2.1.rank,vI x.2.1.beat,vI x.2.1.ver,.string x.2.1.data])]) (fun (x : Option Addr × Ent × Nat) st' => (joinF A.x B.x (i + 1)).items = (if x.2.1.inc > topF A.x B.x (i : Int) then (joinF A.x B.x i).items ++ [⟨(i : Int),x.2.1⟩] else (joinF A.x B.x i).items) ∧ OwnP st' [pcR 6 cItm q1 (joinF A.x B.x i).items,pcR 2 cFlr x.1 (joinF A.x B.x (i + 1)).floors] ∧ New st.next x.1 ∧ Pres st st') ?_ ?_
  ·refine AX.meet 0 (fun q6 : Option Addr => [(2,vL 2 0 (0)),(3,vL 3 0 (1)),(4,vL 4 0 (2)),(5,vL 5 0 (3)),(6,vI (i : Int)),(7,vI (topF A.x B.x (i : Int))),(15,vB true)]) (fun q6 : Option Addr => [(2,0,[vS A.p A.x.items.length,vS A.q A.x.floors.length]),(3,1,[vS B.p B.x.items.length,vS B.q B.x.floors.length]),(4,2,[.slice none 0 0,.slice none 0 0]),(5,3,[vS q1 (joinF A.x B.x i).items.length,vS q6 (joinF A.x B.x (i + 1)).floors.length])]) (fun (q6 : Option Addr) st' => OwnP st' [pcR 6 cItm q1 (joinF A.x B.x i).items,pcR 2 cFlr q6 (joinF A.x B.x (i + 1)).floors] ∧ New st.next q6 ∧ Pres st st') ?_ ?_
   ·refine Cm gg st' [Ml 2 0,Ml 3 1,Ml 4 2,Ml 5 3,(6,vI (i : Int)),(7,vI (topF A.x B.x (i : Int))),(15,vB true)] [(2,0,cSV A),(3,1,cSV B),(4,2,[Sn,Sn]),(5,3,[vS q1 (joinF A.x B.x i).items.length,vS q2 (joinF A.x B.x i).floors.length])] fun _ _ => ?_
    refine ⟨_,rfl,?_⟩
    rintro (_|_) h2
    ·replace h2 : ¬ (topF A.x B.x (i : Int) > 0) := of_decide_eq_false h2
     refine Cm gg st' [Ml 2 0,Ml 3 1,Ml 4 2,Ml 5 3,(6,vI (i : Int)),(7,vI (topF A.x B.x (i : Int))),(15,vB true),(26,vB false)] [(2,0,cSV A),(3,1,cSV B),(4,2,[Sn,Sn]),(5,3,[vS q1 (joinF A.x B.x i).items.length,vS q2 (joinF A.x B.x i).floors.length])] fun _ _ => ?_
     have hfe : (joinF A.x B.x (i + 1)).floors = (joinF A.x B.x i).floors := by rw [hJf,if_neg h2]
     exact ⟨q2,⟨rfl,rfl,rfl,rfl,rfl,rfl,rfl,trivial⟩,⟨rfl,rfl,rfl,(show some (3,[vS q1 (joinF A.x B.x i).items.length,vS q2 (joinF A.x B.x i).floors.length]) = _ by rw [hfe]),trivial⟩,by rw [hfe]; exact hO,hN2,hP⟩
    ·replace h2 : topF A.x B.x (i : Int) > 0 := of_decide_eq_true h2
     refine Cm gg st' [Ml 2 0,Ml 3 1,Ml 4 2,Ml 5 3,(6,vI (i : Int)),(7,vI (topF A.x B.x (i : Int))),(15,vB true),(26,vB true)] [(2,0,cSV A),(3,1,cSV B),(4,2,[Sn,Sn]),(5,3,[vS q1 (joinF A.x B.x i).items.length,vS q2 (joinF A.x B.x i).floors.length])] fun _ _ => ?_
     refine ⟨_,rfl,?_⟩
     refine ⟨_,Od rfl,?_⟩
     refine ⟨_,rfl,?_⟩
     refine op_one (z := 2) (a := (⟨(i : Int),topF A.x B.x (i : Int)⟩ : Flr)) (f := cFlr) rfl rfl rfl rfl rfl (by decide) rfl (Lb rfl) rfl rfl rfl ?_
     refine op_add (z := 2) (st := st') (f := cFlr) (b := 16) (l := (joinF A.x B.x i).floors) rfl rfl rfl rfl rfl rfl rfl (by decide) len_cFlr rfl rfl rfl (by omega) (by unfold maxLen; omega) (pcS_f hO) ?_
     intro q6 s6 hO6 hP6 hN6
     refine ⟨_,rfl,?_⟩
     refine ⟨_,Os rfl,?_⟩
     have hfe : (joinF A.x B.x (i + 1)).floors = (joinF A.x B.x i).floors ++ [⟨(i : Int),topF A.x B.x (i : Int)⟩] := by rw [hJf,if_pos h2]
     exact ⟨q6,⟨rfl,rfl,rfl,rfl,rfl,rfl,rfl,trivial⟩,⟨rfl,rfl,rfl,(show some (3,[vS q1 (joinF A.x B.x i).items.length,vS q6 ((joinF A.x B.x i).floors.length + 1)]) = _ by rw [hfe,List.length_append]; rfl),trivial⟩,by rw [hfe]; exact pcS_floors hO hP6 hO6 hN6,hN6.le hP.1,hP6.pres hP hN2⟩
   ·rintro q6 ρ0 ff gg st' ⟨hO6,hN6,hP6⟩
    refine ⟨_,Od rfl,?_⟩
    refine ⟨_,rfl,(ac_spec_EntryOf A i st' (hA.pres hP6) ha).mono ?_⟩
    rintro _ st' ⟨e1,b1,rfl,he1,rfl⟩
    rcases b1 with _|_
    ·iterate 3 refine ⟨_,rfl,?_⟩
     refine ⟨_,Os rfl,?_⟩
     refine Cm (gg + 1) st' [Ml 2 0,Ml 3 1,Ml 4 2,Ml 5 3,(6,vI (i : Int)),(7,vI (topF A.x B.x (i : Int))),Ml 8 gg,(9,vB false),(15,vB true)] [(2,0,cSV A),(3,1,cSV B),(4,2,[Sn,Sn]),(5,3,[vS q1 (joinF A.x B.x i).items.length,vS q6 (joinF A.x B.x (i + 1)).floors.length]),(8,gg,[vI e1.inc,vI e1.rank,vI e1.beat,vI e1.ver,.string e1.data])] fun _ _ => ?_
     refine ⟨_,Od rfl,?_⟩
     refine ⟨_,rfl,(ac_spec_EntryOf B i st' (hB.pres hP6) hb).mono ?_⟩
     rintro _ st' ⟨e2,b2,rfl,he2,rfl⟩
     rcases b2 with _|_
     ·iterate 3 refine ⟨_,rfl,?_⟩
      refine ⟨_,Os rfl,?_⟩
      refine Cm (gg + 2) st' [Ml 2 0,Ml 3 1,Ml 4 2,Ml 5 3,(6,vI (i : Int)),(7,vI (topF A.x B.x (i : Int))),Ml 8 gg,(9,vB false),(10,vL 10 0 (gg + 1)),(11,vB false),(15,vB true)] [(2,0,cSV A),(3,1,cSV B),(4,2,[Sn,Sn]),(5,3,[vS q1 (joinF A.x B.x i).items.length,vS q6 (joinF A.x B.x (i + 1)).floors.length]),(8,gg,[vI e1.inc,vI e1.rank,vI e1.beat,vI e1.ver,.string e1.data]),(10,gg + 1,[vI e2.inc,vI e2.rank,vI e2.beat,vI e2.ver,.string e2.data])] fun _ _ => ?_
      have hE : topE A.x B.x (i : Int) = zEnt := by rw [topE,← he1,← he2,entP_none he1,entP_none he2]; exact entMax_zz
      have hfa := (floorOf_pos oa.2 (i : Int)).1
      have hle : ¬ (topE A.x B.x (i : Int)).inc > topF A.x B.x (i : Int) := by rw [hE]; unfold topF zEnt; simp only; omega
      rw [if_neg hle] at hJi
      iterate 3 refine ⟨_,rfl,?_⟩
      refine Cm (gg + 2) st' [Ml 2 0,Ml 3 1,Ml 4 2,Ml 5 3,(6,vI (i : Int)),(7,vI (topF A.x B.x (i : Int))),Ml 8 gg,(9,vB false),(10,vL 10 0 (gg + 1)),(11,vB false),(15,vB true),(52,vB true)] [(2,0,cSV A),(3,1,cSV B),(4,2,[Sn,Sn]),(5,3,[vS q1 (joinF A.x B.x i).items.length,vS q6 (joinF A.x B.x (i + 1)).floors.length]),(8,gg,[vI e1.inc,vI e1.rank,vI e1.beat,vI e1.ver,.string e1.data]),(10,gg + 1,[vI e2.inc,vI e2.rank,vI e2.beat,vI e2.ver,.string e2.data])] fun _ _ => ?_
      refine cxs ?_
      have e17 : IntKind.wrap .i64 ((i : Int) + 1) = ((i + 1 : Nat) : Int) := (wrap_i64 (by omega) (by omega)).trans (by omega)
      refine ⟨_,rfl,?_⟩
      rw [← hJi] at hO6
      exact ⟨(i + 1,q1,q6),5 - (i + 1),by omega,⟨rfl,rfl,rfl,rfl,congrArg (Value.int .i64) e17,trivial⟩,⟨rfl,rfl,rfl,(show some (3,[vS q1 (joinF A.x B.x i).items.length,vS q6 (joinF A.x B.x (i + 1)).floors.length]) = _ by rw [hJi]),trivial⟩,rfl,by omega,hO6,hN1,hN6,hP6⟩
     ·iterate 3 refine ⟨_,rfl,?_⟩
      refine ⟨_,Os rfl,?_⟩
      refine Cm (gg + 2) st' [Ml 2 0,Ml 3 1,Ml 4 2,Ml 5 3,(6,vI (i : Int)),(7,vI (topF A.x B.x (i : Int))),Ml 8 gg,(9,vB false),(10,vL 10 0 (gg + 1)),(11,vB true),(15,vB true)] [(2,0,cSV A),(3,1,cSV B),(4,2,[Sn,Sn]),(5,3,[vS q1 (joinF A.x B.x i).items.length,vS q6 (joinF A.x B.x (i + 1)).floors.length]),(8,gg,[vI e1.inc,vI e1.rank,vI e1.beat,vI e1.ver,.string e1.data]),(10,gg + 1,[vI e2.inc,vI e2.rank,vI e2.beat,vI e2.ver,.string e2.data])] fun _ _ => ?_
      have hE : topE A.x B.x (i : Int) = entMax e1 e2 := by rw [topE,← he1,← he2]
      have hfa := (floorOf_pos oa.2 (i : Int)).1
      rw [hE] at hJi
      iterate 3 refine ⟨_,rfl,?_⟩
      refine Cm (gg + 2) st' [Ml 2 0,Ml 3 1,Ml 4 2,Ml 5 3,(6,vI (i : Int)),(7,vI (topF A.x B.x (i : Int))),Ml 8 gg,(9,vB false),(10,vL 10 0 (gg + 1)),(11,vB true),(15,vB true),(52,vB false)] [(2,0,cSV A),(3,1,cSV B),(4,2,[Sn,Sn]),(5,3,[vS q1 (joinF A.x B.x i).items.length,vS q6 (joinF A.x B.x (i + 1)).floors.length]),(8,gg,[vI e1.inc,vI e1.rank,vI e1.beat,vI e1.ver,.string e1.data]),(10,gg + 1,[vI e2.inc,vI e2.rank,vI e2.beat,vI e2.ver,.string e2.data])] fun _ _ => ?_
      refine cxs ?_
      refine ⟨_,Od rfl,?_⟩
      refine ⟨_,rfl,?_⟩
      refine ⟨_,Os rfl,?_⟩
      refine Cm (gg + 3) st' [Ml 2 0,Ml 3 1,Ml 4 2,Ml 5 3,(6,vI (i : Int)),(7,vI (topF A.x B.x (i : Int))),Ml 8 gg,(9,vB false),(10,vL 10 0 (gg + 1)),(11,vB true),(12,vL 12 0 (gg + 2)),(15,vB true),(52,vB false)] [(2,0,cSV A),(3,1,cSV B),(4,2,[Sn,Sn]),(5,3,[vS q1 (joinF A.x B.x i).items.length,vS q6 (joinF A.x B.x (i + 1)).floors.length]),(8,gg,[vI e1.inc,vI e1.rank,vI e1.beat,vI e1.ver,.string e1.data]),(10,gg + 1,[vI e2.inc,vI e2.rank,vI e2.beat,vI e2.ver,.string e2.data]),(12,gg + 2,[vI e1.inc,vI e1.rank,vI e1.beat,vI e1.ver,.string e1.data])] fun _ _ => ?_
      iterate 2 refine ⟨_,rfl,?_⟩
      refine Cm (gg + 3) st' [Ml 2 0,Ml 3 1,Ml 4 2,Ml 5 3,(6,vI (i : Int)),(7,vI (topF A.x B.x (i : Int))),Ml 8 gg,(9,vB false),(10,vL 10 0 (gg + 1)),(11,vB true),(12,vL 12 0 (gg + 2)),(15,vB true),(52,vB false),(64,vB true)] [(2,0,cSV A),(3,1,cSV B),(4,2,[Sn,Sn]),(5,3,[vS q1 (joinF A.x B.x i).items.length,vS q6 (joinF A.x B.x (i + 1)).floors.length]),(8,gg,[vI e1.inc,vI e1.rank,vI e1.beat,vI e1.ver,.string e1.data]),(10,gg + 1,[vI e2.inc,vI e2.rank,vI e2.beat,vI e2.ver,.string e2.data]),(12,gg + 2,[vI e1.inc,vI e1.rank,vI e1.beat,vI e1.ver,.string e1.data])] fun _ _ => ?_
      have hm : entMax e1 e2 = e2 := by rw [entP_none he1]; exact (entMax_zero (ent_ok ob he2).1.1).2
      rw [hm] at hJi
      have hO7 := hO6
      have hP8 := hP6
      refine ⟨_,Od rfl,?_⟩
      refine ⟨_,Os rfl,?_⟩
      exact ⟨(q6,e2,_),⟨rfl,rfl,rfl,rfl,rfl,rfl,rfl,rfl,trivial⟩,⟨rfl,rfl,rfl,rfl,rfl,trivial⟩,hJi,hO7,hN6,hP8⟩
    ·iterate 3 refine ⟨_,rfl,?_⟩
     refine ⟨_,Os rfl,?_⟩
     refine Cm (gg + 1) st' [Ml 2 0,Ml 3 1,Ml 4 2,Ml 5 3,(6,vI (i : Int)),(7,vI (topF A.x B.x (i : Int))),Ml 8 gg,(9,vB true),(15,vB true)] [(2,0,cSV A),(3,1,cSV B),(4,2,[Sn,Sn]),(5,3,[vS q1 (joinF A.x B.x i).items.length,vS q6 (joinF A.x B.x (i + 1)).floors.length]),(8,gg,[vI e1.inc,vI e1.rank,vI e1.beat,vI e1.ver,.string e1.data])] fun _ _ => ?_
     refine ⟨_,Od rfl,?_⟩
     refine ⟨_,rfl,(ac_spec_EntryOf B i st' (hB.pres hP6) hb).mono ?_⟩
     rintro _ st' ⟨e2,b2,rfl,he2,rfl⟩
     rcases b2 with _|_
     ·iterate 3 refine ⟨_,rfl,?_⟩
      refine ⟨_,Os rfl,?_⟩
      refine Cm (gg + 2) st' [Ml 2 0,Ml 3 1,Ml 4 2,Ml 5 3,(6,vI (i : Int)),(7,vI (topF A.x B.x (i : Int))),Ml 8 gg,(9,vB true),(10,vL 10 0 (gg + 1)),(11,vB false),(15,vB true)] [(2,0,cSV A),(3,1,cSV B),(4,2,[Sn,Sn]),(5,3,[vS q1 (joinF A.x B.x i).items.length,vS q6 (joinF A.x B.x (i + 1)).floors.length]),(8,gg,[vI e1.inc,vI e1.rank,vI e1.beat,vI e1.ver,.string e1.data]),(10,gg + 1,[vI e2.inc,vI e2.rank,vI e2.beat,vI e2.ver,.string e2.data])] fun _ _ => ?_
      have hE : topE A.x B.x (i : Int) = entMax e1 e2 := by rw [topE,← he1,← he2]
      have hfa := (floorOf_pos oa.2 (i : Int)).1
      rw [hE] at hJi
      iterate 2 refine ⟨_,rfl,?_⟩
      refine Cm (gg + 2) st' [Ml 2 0,Ml 3 1,Ml 4 2,Ml 5 3,(6,vI (i : Int)),(7,vI (topF A.x B.x (i : Int))),Ml 8 gg,(9,vB true),(10,vL 10 0 (gg + 1)),(11,vB false),(15,vB true),(52,vB false)] [(2,0,cSV A),(3,1,cSV B),(4,2,[Sn,Sn]),(5,3,[vS q1 (joinF A.x B.x i).items.length,vS q6 (joinF A.x B.x (i + 1)).floors.length]),(8,gg,[vI e1.inc,vI e1.rank,vI e1.beat,vI e1.ver,.string e1.data]),(10,gg + 1,[vI e2.inc,vI e2.rank,vI e2.beat,vI e2.ver,.string e2.data])] fun _ _ => ?_
      refine cxs ?_
      refine ⟨_,Od rfl,?_⟩
      refine ⟨_,rfl,?_⟩
      refine ⟨_,Os rfl,?_⟩
      refine Cm (gg + 3) st' [Ml 2 0,Ml 3 1,Ml 4 2,Ml 5 3,(6,vI (i : Int)),(7,vI (topF A.x B.x (i : Int))),Ml 8 gg,(9,vB true),(10,vL 10 0 (gg + 1)),(11,vB false),(12,vL 12 0 (gg + 2)),(15,vB true),(52,vB false)] [(2,0,cSV A),(3,1,cSV B),(4,2,[Sn,Sn]),(5,3,[vS q1 (joinF A.x B.x i).items.length,vS q6 (joinF A.x B.x (i + 1)).floors.length]),(8,gg,[vI e1.inc,vI e1.rank,vI e1.beat,vI e1.ver,.string e1.data]),(10,gg + 1,[vI e2.inc,vI e2.rank,vI e2.beat,vI e2.ver,.string e2.data]),(12,gg + 2,[vI e1.inc,vI e1.rank,vI e1.beat,vI e1.ver,.string e1.data])] fun _ _ => ?_
      iterate 3 refine ⟨_,rfl,?_⟩
      refine Cm (gg + 3) st' [Ml 2 0,Ml 3 1,Ml 4 2,Ml 5 3,(6,vI (i : Int)),(7,vI (topF A.x B.x (i : Int))),Ml 8 gg,(9,vB true),(10,vL 10 0 (gg + 1)),(11,vB false),(12,vL 12 0 (gg + 2)),(15,vB true),(52,vB false),(64,vB false)] [(2,0,cSV A),(3,1,cSV B),(4,2,[Sn,Sn]),(5,3,[vS q1 (joinF A.x B.x i).items.length,vS q6 (joinF A.x B.x (i + 1)).floors.length]),(8,gg,[vI e1.inc,vI e1.rank,vI e1.beat,vI e1.ver,.string e1.data]),(10,gg + 1,[vI e2.inc,vI e2.rank,vI e2.beat,vI e2.ver,.string e2.data]),(12,gg + 2,[vI e1.inc,vI e1.rank,vI e1.beat,vI e1.ver,.string e1.data])] fun _ _ => ?_
      have hm : entMax e1 e2 = e1 := by rw [entP_none he2]; exact (entMax_zero (ent_ok oa he1).1.1).1
      rw [hm] at hJi
      have hO7 := hO6
      have hP8 := hP6
      exact ⟨(q6,e1,_),⟨rfl,rfl,rfl,rfl,rfl,rfl,rfl,rfl,trivial⟩,⟨rfl,rfl,rfl,rfl,rfl,trivial⟩,hJi,hO7,hN6,hP8⟩
     ·iterate 3 refine ⟨_,rfl,?_⟩
      refine ⟨_,Os rfl,?_⟩
      refine Cm (gg + 2) st' [Ml 2 0,Ml 3 1,Ml 4 2,Ml 5 3,(6,vI (i : Int)),(7,vI (topF A.x B.x (i : Int))),Ml 8 gg,(9,vB true),(10,vL 10 0 (gg + 1)),(11,vB true),(15,vB true)] [(2,0,cSV A),(3,1,cSV B),(4,2,[Sn,Sn]),(5,3,[vS q1 (joinF A.x B.x i).items.length,vS q6 (joinF A.x B.x (i + 1)).floors.length]),(8,gg,[vI e1.inc,vI e1.rank,vI e1.beat,vI e1.ver,.string e1.data]),(10,gg + 1,[vI e2.inc,vI e2.rank,vI e2.beat,vI e2.ver,.string e2.data])] fun _ _ => ?_
      have hE : topE A.x B.x (i : Int) = entMax e1 e2 := by rw [topE,← he1,← he2]
      have hfa := (floorOf_pos oa.2 (i : Int)).1
      rw [hE] at hJi
      iterate 2 refine ⟨_,rfl,?_⟩
      refine Cm (gg + 2) st' [Ml 2 0,Ml 3 1,Ml 4 2,Ml 5 3,(6,vI (i : Int)),(7,vI (topF A.x B.x (i : Int))),Ml 8 gg,(9,vB true),(10,vL 10 0 (gg + 1)),(11,vB true),(15,vB true),(52,vB false)] [(2,0,cSV A),(3,1,cSV B),(4,2,[Sn,Sn]),(5,3,[vS q1 (joinF A.x B.x i).items.length,vS q6 (joinF A.x B.x (i + 1)).floors.length]),(8,gg,[vI e1.inc,vI e1.rank,vI e1.beat,vI e1.ver,.string e1.data]),(10,gg + 1,[vI e2.inc,vI e2.rank,vI e2.beat,vI e2.ver,.string e2.data])] fun _ _ => ?_
      refine cxs ?_
      refine ⟨_,Od rfl,?_⟩
      refine ⟨_,rfl,?_⟩
      refine ⟨_,Os rfl,?_⟩
      refine Cm (gg + 3) st' [Ml 2 0,Ml 3 1,Ml 4 2,Ml 5 3,(6,vI (i : Int)),(7,vI (topF A.x B.x (i : Int))),Ml 8 gg,(9,vB true),(10,vL 10 0 (gg + 1)),(11,vB true),(12,vL 12 0 (gg + 2)),(15,vB true),(52,vB false)] [(2,0,cSV A),(3,1,cSV B),(4,2,[Sn,Sn]),(5,3,[vS q1 (joinF A.x B.x i).items.length,vS q6 (joinF A.x B.x (i + 1)).floors.length]),(8,gg,[vI e1.inc,vI e1.rank,vI e1.beat,vI e1.ver,.string e1.data]),(10,gg + 1,[vI e2.inc,vI e2.rank,vI e2.beat,vI e2.ver,.string e2.data]),(12,gg + 2,[vI e1.inc,vI e1.rank,vI e1.beat,vI e1.ver,.string e1.data])] fun _ _ => ?_
      refine ⟨_,rfl,?_⟩
      refine ⟨_,Od rfl,?_⟩
      refine ⟨_,Od rfl,?_⟩
      refine ⟨_,rfl,(ac_spec_EntryCmp e2 e1 st').mono ?_⟩
      rintro _ s7 ⟨rfl,hP7⟩
      refine ⟨_,rfl,?_⟩
      rintro (_|_) h3
      ·replace h3 : ¬ (entCmp e2 e1 > 0) := of_decide_eq_false h3
       iterate 2 refine ⟨_,rfl,?_⟩
       refine Cm (gg + 3) s7 [Ml 2 0,Ml 3 1,Ml 4 2,Ml 5 3,(6,vI (i : Int)),(7,vI (topF A.x B.x (i : Int))),Ml 8 gg,(9,vB true),(10,vL 10 0 (gg + 1)),(11,vB true),(12,vL 12 0 (gg + 2)),(15,vB true),(52,vB false),(64,vB false)] [(2,0,cSV A),(3,1,cSV B),(4,2,[Sn,Sn]),(5,3,[vS q1 (joinF A.x B.x i).items.length,vS q6 (joinF A.x B.x (i + 1)).floors.length]),(8,gg,[vI e1.inc,vI e1.rank,vI e1.beat,vI e1.ver,.string e1.data]),(10,gg + 1,[vI e2.inc,vI e2.rank,vI e2.beat,vI e2.ver,.string e2.data]),(12,gg + 2,[vI e1.inc,vI e1.rank,vI e1.beat,vI e1.ver,.string e1.data])] fun _ _ => ?_
       have hm : entMax e1 e2 = e1 := by rw [entMax,if_neg (by have := entCmp_neg e1 e2; omega)]
       rw [hm] at hJi
       have hO7 := hO6.pres hP7
       have hP8 := hP6.trans hP7
       exact ⟨(q6,e1,_),⟨rfl,rfl,rfl,rfl,rfl,rfl,rfl,rfl,trivial⟩,⟨rfl,rfl,rfl,rfl,rfl,trivial⟩,hJi,hO7,hN6,hP8⟩
      ·replace h3 : entCmp e2 e1 > 0 := of_decide_eq_true h3
       iterate 2 refine ⟨_,rfl,?_⟩
       refine Cm (gg + 3) s7 [Ml 2 0,Ml 3 1,Ml 4 2,Ml 5 3,(6,vI (i : Int)),(7,vI (topF A.x B.x (i : Int))),Ml 8 gg,(9,vB true),(10,vL 10 0 (gg + 1)),(11,vB true),(12,vL 12 0 (gg + 2)),(15,vB true),(52,vB false),(64,vB true)] [(2,0,cSV A),(3,1,cSV B),(4,2,[Sn,Sn]),(5,3,[vS q1 (joinF A.x B.x i).items.length,vS q6 (joinF A.x B.x (i + 1)).floors.length]),(8,gg,[vI e1.inc,vI e1.rank,vI e1.beat,vI e1.ver,.string e1.data]),(10,gg + 1,[vI e2.inc,vI e2.rank,vI e2.beat,vI e2.ver,.string e2.data]),(12,gg + 2,[vI e1.inc,vI e1.rank,vI e1.beat,vI e1.ver,.string e1.data])] fun _ _ => ?_
       have hm : entMax e1 e2 = e2 := by rw [entMax,if_pos (by have := entCmp_neg e1 e2; omega)]
       rw [hm] at hJi
       have hO7 := hO6.pres hP7
       have hP8 := hP6.trans hP7
       refine ⟨_,Od rfl,?_⟩
       refine ⟨_,Os rfl,?_⟩
       exact ⟨(q6,e2,_),⟨rfl,rfl,rfl,rfl,rfl,rfl,rfl,rfl,trivial⟩,⟨rfl,rfl,rfl,rfl,rfl,trivial⟩,hJi,hO7,hN6,hP8⟩
  ·rintro ⟨q6,e,g12⟩ ρ0 ff gg st' ⟨hJi2,hO7,hN6,hP8⟩
   simp only at hJi2 hO7 hN6
   refine ⟨_,rfl,?_⟩
   refine ⟨_,Od rfl,?_⟩
   refine ⟨_,rfl,?_⟩
   rintro (_|_) h4
   ·replace h4 : ¬ (e.inc > topF A.x B.x (i : Int)) := of_decide_eq_false h4
    refine Cm gg st' [Ml 2 0,Ml 3 1,Ml 4 2,Ml 5 3,(6,vI (i : Int)),(7,vI (topF A.x B.x (i : Int))),Ml 12 g12,(15,vB true),(69,vB false)] [(2,0,cSV A),(3,1,cSV B),(4,2,[Sn,Sn]),(5,3,[vS q1 (joinF A.x B.x i).items.length,vS q6 (joinF A.x B.x (i + 1)).floors.length]),(12,g12,[vI e.inc,vI e.rank,vI e.beat,vI e.ver,.string e.data])] fun _ _ => ?_
    refine cxs ?_
    have e17 : IntKind.wrap .i64 ((i : Int) + 1) = ((i + 1 : Nat) : Int) := (wrap_i64 (by omega) (by omega)).trans (by omega)
    refine ⟨_,rfl,?_⟩
    rw [if_neg h4] at hJi2
    exact ⟨(i + 1,q1,q6),5 - (i + 1),by omega,⟨rfl,rfl,rfl,rfl,congrArg (Value.int .i64) e17,trivial⟩,⟨rfl,rfl,rfl,(show some (3,[vS q1 (joinF A.x B.x i).items.length,vS q6 (joinF A.x B.x (i + 1)).floors.length]) = _ by rw [hJi2]),trivial⟩,rfl,by omega,by rw [hJi2]; exact hO7,hN1,hN6,hP8⟩
   ·replace h4 : e.inc > topF A.x B.x (i : Int) := of_decide_eq_true h4
    refine Cm gg st' [Ml 2 0,Ml 3 1,Ml 4 2,Ml 5 3,(6,vI (i : Int)),(7,vI (topF A.x B.x (i : Int))),Ml 12 g12,(15,vB true),(69,vB true)] [(2,0,cSV A),(3,1,cSV B),(4,2,[Sn,Sn]),(5,3,[vS q1 (joinF A.x B.x i).items.length,vS q6 (joinF A.x B.x (i + 1)).floors.length]),(12,g12,[vI e.inc,vI e.rank,vI e.beat,vI e.ver,.string e.data])] fun _ _ => ?_
    refine ⟨_,rfl,?_⟩
    refine ⟨_,Od rfl,?_⟩
    refine ⟨_,Od rfl,?_⟩
    refine ⟨_,rfl,?_⟩
    refine op_one (z := 6) (a := (⟨(i : Int),e⟩ : Itm)) (f := cItm) rfl rfl rfl rfl rfl (by decide) rfl (Lb rfl) rfl rfl rfl ?_
    refine op_add (z := 6) (st := st') (f := cItm) (b := 56) (l := (joinF A.x B.x i).items) rfl rfl rfl rfl rfl rfl rfl (by decide) len_cItm rfl rfl rfl (by omega) (by unfold maxLen; omega) (pcS_i hO7) ?_
    intro q8 s8 hO8 hP9 hN8
    refine ⟨_,rfl,?_⟩
    refine ⟨_,Os rfl,?_⟩
    refine Cm gg s8 [Ml 2 0,Ml 3 1,Ml 4 2,Ml 5 3,(6,vI (i : Int)),(7,vI (topF A.x B.x (i : Int))),Ml 12 g12,(15,vB true),(69,vB true)] [(2,0,cSV A),(3,1,cSV B),(4,2,[Sn,Sn]),(5,3,[vS q8 ((joinF A.x B.x i).items.length + 1),vS q6 (joinF A.x B.x (i + 1)).floors.length]),(12,g12,[vI e.inc,vI e.rank,vI e.beat,vI e.ver,.string e.data])] fun _ _ => ?_
    have e17 : IntKind.wrap .i64 ((i : Int) + 1) = ((i + 1 : Nat) : Int) := (wrap_i64 (by omega) (by omega)).trans (by omega)
    refine ⟨_,rfl,?_⟩
    rw [if_pos h4] at hJi2
    exact ⟨(i + 1,q8,q6),5 - (i + 1),by omega,⟨rfl,rfl,rfl,rfl,congrArg (Value.int .i64) e17,trivial⟩,⟨rfl,rfl,rfl,(show some (3,[vS q8 ((joinF A.x B.x i).items.length + 1),vS q6 (joinF A.x B.x (i + 1)).floors.length]) = _ by rw [hJi2,List.length_append]; rfl),trivial⟩,rfl,by omega,by rw [hJi2]; exact pcS_items hO7 hP9 hO8 hN8,hN8.le hP8.1,hN6,hP9.pres hP8 hN1⟩
theorem pick_get {β : Type} {f : Nat → Option β} {n i : Nat} {x : β} (h : ((List.range n).filterMap f)[i]? = some x) : ∃ j,j < n ∧ f j = some x := by
 obtain ⟨j,hj,hf⟩ := List.mem_filterMap.1 (List.mem_of_getElem? h)
 exact ⟨j,List.mem_range.1 hj,hf⟩
theorem pick_lt {β : Type} {f : Nat → Option β} {id : β → Int} (hid : ∀ j x,f j = some x → id x = (j : Int)) {n i : Nat} {x y : β} (h : ((List.range n).filterMap f)[i]? = some x) (h0 : 0 < i) (hy : ((List.range n).filterMap f)[i - 1]? = some y) : id y < id x := by
 have hp : ((List.range n).filterMap f).Pairwise fun a b => id a < id b := by
  rw [List.pairwise_filterMap]
  refine List.Pairwise.imp ?_ List.pairwise_lt_range
  intro a b hab u hu v hv
  rw [hid a u hu,hid b v hv]
  omega
 rw [List.pairwise_iff_getElem] at hp
 obtain ⟨h1,h2⟩ := List.getElem?_eq_some_iff.1 h
 obtain ⟨h3,h4⟩ := List.getElem?_eq_some_iff.1 hy
 rw [← h2,← h4]
 exact hp _ _ h3 h1 (by omega)
theorem floorOf_snoc (l : List Flr) (x : Flr) (id : Int) : floorOf (l ++ [x]) id = if (∃ y ∈ l,y.id = id) then floorOf l id else if x.id = id then x.inc else 0 := by
 induction l with
 | nil => simp [floorOf]
 | cons y l ih =>
  rw [List.cons_append,floorOf,floorOf,ih]
  by_cases h : y.id = id
  ·simp [h]
  ·simp [h]
theorem floorOf_pick (t : Int → Int) (id : Nat) : ∀ n,floorOf ((List.range n).filterMap fun (j : Nat) => if t (j : Int) > 0 then some (⟨(j : Int),t (j : Int)⟩ : Flr) else none) (id : Int) = if id < n ∧ t (id : Int) > 0 then t (id : Int) else 0
 | 0 => by simp [floorOf]
 | n + 1 => by
  have ih := floorOf_pick t id n
  rw [List.range_succ,List.filterMap_append]
  have hex : (∃ y ∈ (List.range n).filterMap (fun (j : Nat) => if t (j : Int) > 0 then some (⟨(j : Int),t (j : Int)⟩ : Flr) else none),y.id = (id : Int)) ↔ id < n ∧ t (id : Int) > 0 := by
   constructor
   ·rintro ⟨y,hy,hid⟩
    obtain ⟨j,hj,hf⟩ := List.mem_filterMap.1 hy
    split at hf
    ·rename_i ht
     injection hf with hf
     rw [← hf] at hid
     have hid : (j : Int) = (id : Int) := hid
     have : j = id := by omega
     exact ⟨by rw [← this]; exact List.mem_range.1 hj,by rw [← this]; exact ht⟩
    ·cases hf
   ·rintro ⟨h1,h2⟩
    exact ⟨⟨(id : Int),t (id : Int)⟩,List.mem_filterMap.2 ⟨id,List.mem_range.2 h1,by rw [if_pos h2]⟩,rfl⟩
  by_cases hn : t (n : Int) > 0
  ·simp only [List.filterMap_cons,List.filterMap_nil,hn,if_true]
   rw [floorOf_snoc]
   by_cases h1 : id < n ∧ t (id : Int) > 0
   ·rw [if_pos (hex.2 h1),ih,if_pos h1,if_pos ⟨by omega,h1.2⟩]
   ·rw [if_neg (fun h => h1 (hex.1 h))]
    by_cases h2 : n = id
    ·subst h2; rw [if_pos rfl,if_pos ⟨Nat.lt_succ_self _,hn⟩]
    ·rw [if_neg (by simp only; omega),if_neg (fun h => h1 ⟨by omega,h.2⟩)]
  ·simp only [List.filterMap_cons,List.filterMap_nil,hn,if_false,List.append_nil]
   rw [ih]
   by_cases h1 : id < n ∧ t (id : Int) > 0
   ·rw [if_pos h1,if_pos ⟨by omega,h1.2⟩]
   ·rw [if_neg h1,if_neg (fun h => h1 ⟨by
     rcases Nat.lt_or_ge id n with h3 | h3
     ·exact h3
     ·have : id = n := by omega
      subst this; exact absurd h.2 hn,h.2⟩)]
theorem topF_pos {a b : Sta} (ha : marksOk a.floors) (hb : marksOk b.floors) (id : Int) : 0 ≤ topF a b id ∧ topF a b id ≤ 1000 := by
 have h1 := floorOf_pos ha id
 have h2 := floorOf_pos hb id
 unfold topF
 omega
theorem floorOf_join {a b : Sta} (ha : marksOk a.floors) (hb : marksOk b.floors) {n id : Nat} (h : id < n) : floorOf (joinF a b n).floors (id : Int) = topF a b (id : Int) := by
 have h1 := (topF_pos ha hb (id : Int)).1
 show floorOf ((List.range n).filterMap fun (j : Nat) => if topF a b (j : Int) > 0 then some (⟨(j : Int),topF a b (j : Int)⟩ : Flr) else none) (id : Int) = _
 rw [floorOf_pick (fun i => topF a b i) id n]
 by_cases h2 : topF a b (id : Int) > 0
 ·rw [if_pos ⟨h,h2⟩]
 ·rw [if_neg (fun h => h2 h.2)]; omega
theorem entP_cases {s : Sta} (h : ∀ (j : Nat) x,s.items[j]? = some x → itemOk s j x) (id : Int) : (entP s.items id).1 = zEnt ∨ entOk (entP s.items id).1 := by
 rcases hb : (entP s.items id) with ⟨e,b⟩
 cases b with
 | false => exact .inl (entP_none (e := e) (id := id) hb.symm)
 | true =>
  obtain ⟨j,x,h1,h2,_⟩ := entP_mem (e := e) (id := id) hb.symm
  exact .inr (h2 ▸ (h j x h1).2.1)
theorem stateOk_join {a b : Sta} (ha : stateOk a) (hb : stateOk b) : stateOk (joinF a b 5) := by
 refine ⟨fun i x hx => ?_,fun i x hx => ?_⟩
 ·have hx' : ((List.range 5).filterMap fun (j : Nat) => if (topE a b (j : Int)).inc > topF a b (j : Int) then some (⟨(j : Int),topE a b (j : Int)⟩ : Itm) else none)[i]? = some x := hx
  obtain ⟨j,hj,hf⟩ := pick_get hx'
  split at hf
  ·rename_i ht
   injection hf with hf
   have hfl := floorOf_join ha.2 hb.2 hj
   have htp := (topF_pos ha.2 hb.2 (j : Int)).1
   have he : entOk (topE a b (j : Int)) := by
    have key : topE a b (j : Int) = (entP a.items (j : Int)).1 ∨ topE a b (j : Int) = (entP b.items (j : Int)).1 := by unfold topE entMax; split; exact .inr rfl; exact .inl rfl
    rcases key with h | h
    ·rcases entP_cases ha.1 (j : Int) with h2 | h2
     ·rw [h,h2] at ht; simp only [zEnt] at ht; omega
     ·rw [h]; exact h2
    ·rcases entP_cases hb.1 (j : Int) with h2 | h2
     ·rw [h,h2] at ht; simp only [zEnt] at ht; omega
     ·rw [h]; exact h2
   rw [← hf]
   refine ⟨⟨by simp only; omega,by simp only; omega⟩,he,by simp only; rw [hfl]; exact ht,fun y h0 hy => ?_⟩
   have := pick_lt (id := Itm.id) (fun j x hx => by
    split at hx
    ·injection hx with hx; rw [← hx]
    ·cases hx) hx' h0 hy
   rw [← hf] at this
   exact this
  ·cases hf
 ·have hx' : ((List.range 5).filterMap fun (j : Nat) => if topF a b (j : Int) > 0 then some (⟨(j : Int),topF a b (j : Int)⟩ : Flr) else none)[i]? = some x := hx
  obtain ⟨j,hj,hf⟩ := pick_get hx'
  split at hf
  ·rename_i ht
   injection hf with hf
   have htp := (topF_pos ha.2 hb.2 (j : Int))
   rw [← hf]
   refine ⟨⟨by simp only; omega,by simp only; omega⟩,⟨by simp only; omega,htp.2⟩,fun y h0 hy => ?_⟩
   have := pick_lt (id := Flr.id) (fun j x hx => by
    split at hx
    ·injection hx with hx; rw [← hx]
    ·cases hx) hx' h0 hy
   rw [← hf] at this
   exact this
  ·cases hf
theorem stateOk_nil : stateOk ⟨[],[]⟩ := ⟨fun j x h => (by cases h),fun j x h => (by cases h)⟩
theorem stateOk_floors {l : List Flr} (h : marksOk l) : stateOk ⟨[],l⟩ := ⟨fun j x hx => (nomatch hx),h⟩
def NC (c : Nat) (q : Option Addr) : Prop := ∀ a,q = some a → a.block ≠ c
theorem NC.new {c n : Nat} {q : Option Addr} (hN : New n q) (h : c < n) : NC c q := fun a ha => Nat.ne_of_gt (Nat.lt_of_lt_of_le h (hN a ha))
theorem Cur.lt {st : St} {c : Nat} {p : Option Addr} {bs : List Int} (h : Cur st c p bs) : c < st.next := h.1
def FrC (c : Nat) (a b : St) (l : List Pc) : Prop := OwnP b l ∧ NewP a.next l ∧ PresC c a b ∧ c < a.next
theorem FrC.nil {c : Nat} {a : St} (h : c < a.next) : FrC c a a [] := ⟨OwnP.nil,NewP.nil,PresC.refl _ _,h⟩
theorem Frs.toC {c : Nat} {a b : St} {l : List Pc} (h : Frs a b l) (hc : c < a.next) : FrC c a b l := ⟨h.1,h.2.1,h.2.2.c,hc⟩
theorem OwnP.presC {c n : Nat} {st st' : St} {l : List Pc} (h : OwnP st l) (hP : PresC c st st') (hN : NewP n l) (hn : c < n) : OwnP st' l :=
 h.keep hP.1 fun x hx q hq => hP.2 _ ((h.1 x hx).old q hq) (Nat.ne_of_gt (Nat.lt_of_lt_of_le hn (hN x hx q hq)))
theorem FrC.later {c : Nat} {a b d : St} {l : List Pc} (h : FrC c a b l) (k : PresC c b d) : FrC c a d l := ⟨h.1.presC k h.2.1 h.2.2.2,h.2.1,h.2.2.1.trans k,h.2.2.2⟩
theorem FrC.step {c : Nat} {a b d : St} {l : List Pc} (h : FrC c a b l) (k : Pres b d) : FrC c a d l := h.later k.c
theorem FrC.sooner {c : Nat} {a b d : St} {l : List Pc} (h : FrC c b d l) (k : PresC c a b) (hc : c < a.next) : FrC c a d l := ⟨h.1,h.2.1.le k.1,k.trans h.2.2.1,hc⟩
theorem FrC.join {c : Nat} {a b d : St} {l m : List Pc} (h : FrC c a b l) (k : FrC c b d m) : FrC c a d (l ++ m) :=
 ⟨(h.later k.2.2.1).1.app k.1 fun x hx y hy => Dis.of (h.1.1 x hx).old (k.2.1 y hy),h.2.1.app (k.2.1.le h.2.2.1.1),h.2.2.1.trans k.2.2.1,h.2.2.2⟩
theorem FrC.lt {c : Nat} {a b : St} {l : List Pc} (h : FrC c a b l) : c < b.next := Nat.lt_of_lt_of_le h.2.2.2 h.2.2.1.1
theorem FrC.add {c : Nat} {a b d : St} {l m : List Pc} (h : FrC c a b l) (k : Frs b d m) : FrC c a d (l ++ m) := h.join (k.toC h.lt)
theorem FrC.left {c : Nat} {a b : St} {l m : List Pc} (h : FrC c a b (l ++ m)) : FrC c a b l := ⟨h.1.left,fun x hx => h.2.1 x (List.mem_append_left _ hx),h.2.2⟩
theorem FrC.right {c : Nat} {a b : St} {l m : List Pc} (h : FrC c a b (l ++ m)) : FrC c a b m := ⟨h.1.right,fun x hx => h.2.1 x (List.mem_append_right _ hx),h.2.2⟩
theorem FrC.out {st s1 s2 : St} {l : List Pc} (hF : FrC st.next s1 s2 l) (hP : Pres st s1) : Frs st s2 l := ⟨hF.1,hF.2.1.le hP.1,PresC.pres hP hF.2.2.1 (Nat.le_refl _)⟩
theorem PresC.thenNew {c : Nat} {q : Option Addr} {a b d : St} (h : PresC c a b) (k : Pr q b d) (hn : New a.next q) : PresC c a d :=
 ⟨Nat.le_trans h.1 k.1,fun x hx hc => (k.2 x (Nat.lt_of_lt_of_le hx h.1) fun r hr he => by have := hn r hr; omega).trans (h.2 x hx hc)⟩
theorem Cur.thenNew {c : Nat} {p q : Option Addr} {bs : List Int} {s0 s1 s2 : St} (h1 : Cur s1 c p bs) (h0 : Cur s0 c p bs) (h : PresC c s0 s1) (k : Pr q s1 s2) (hn : New s0.next q) : Cur s2 c p bs := Cur.grow h0 h h1 k.2 k.1 hn
theorem FrC.items {c : Nat} {a b d : St} {u : SV} {q : Option Addr} {l : List Itm} (h : FrC c a b (pcS u)) (hp : Pr u.p b d) (ho : OwnR d 6 cItm q l) (hn : New b.next q) : FrC c a d (pcS ⟨q,u.q,⟨l,u.x.floors⟩⟩) ∧ PresC c a d :=
 have hP := PresC.thenNew h.2.2.1 hp (h.2.1 _ (List.mem_cons_self ..))
 ⟨⟨pcS_items h.1 hp ho hn,NewP.cons (hn.le h.2.2.1.1) (NewP.cons (h.2.1 _ (List.mem_cons_of_mem _ (List.mem_cons_self ..))) NewP.nil),hP,h.2.2.2⟩,hP⟩
theorem FrC.floors {c : Nat} {a b d : St} {u : SV} {q : Option Addr} {l : List Flr} (h : FrC c a b (pcS u)) (hp : Pr u.q b d) (ho : OwnR d 2 cFlr q l) (hn : New b.next q) : FrC c a d (pcS ⟨u.p,q,⟨u.x.items,l⟩⟩) ∧ PresC c a d :=
 have hP := PresC.thenNew h.2.2.1 hp (h.2.1 _ (List.mem_cons_of_mem _ (List.mem_cons_self ..)))
 ⟨⟨pcS_floors h.1 hp ho hn,NewP.cons (h.2.1 _ (List.mem_cons_self ..)) (NewP.cons (hn.le h.2.2.1.1) NewP.nil),hP,h.2.2.2⟩,hP⟩
theorem FrC.setItems {c : Nat} {a b d : St} {u : SV} {l : List Itm} (h : FrC c a b (pcS u)) (hp : Pr u.p b d) (ho : OwnR d 6 cItm u.p l) : FrC c a d (pcS ⟨u.p,u.q,⟨l,u.x.floors⟩⟩) ∧ PresC c a d :=
 have hP := PresC.thenNew h.2.2.1 hp (h.2.1 _ (List.mem_cons_self ..))
 ⟨⟨OwnP.update (l := []) (m := [pcR 2 cFlr u.q u.x.floors]) (d := pcR 6 cItm u.p l) h.1 hp (own_pc ho) rfl,NewP.cons (h.2.1 (pcR 6 cItm u.p u.x.items) (List.mem_cons_self ..)) (NewP.cons (h.2.1 _ (List.mem_cons_of_mem _ (List.mem_cons_self ..))) NewP.nil),hP,h.2.2.2⟩,hP⟩
theorem Frs.nlS {a : St} : Frs a a (pcS ⟨none,none,nilS⟩) := ⟨pcS_nil,newS_nil,Pres.refl _⟩
structure smS (n : Nat) (x : Sta) : Prop where
 i : x.items.length ≤ n
 f : x.floors.length ≤ n
 d : ∀ y ∈ x.items,y.e.data.size ≤ 9
theorem smS.big {n : Nat} {x : Sta} (h : smS n x) (hn : n ≤ 1048576) : bigS x := ⟨Nat.le_trans h.i hn,Nat.le_trans h.f hn,fun y hy => Nat.le_trans (h.d y hy) (by decide)⟩
theorem smS.le {n m : Nat} {x : Sta} (h : smS n x) (k : n ≤ m) : smS m x := ⟨Nat.le_trans h.i k,Nat.le_trans h.f k,h.d⟩
theorem ids_len {α : Type} {id : α → Int} {l : List α} (h : ∀ (j : Nat) x,l[j]? = some x → (0 ≤ id x ∧ id x ≤ 4) ∧ ∀ y,0 < j → l[j - 1]? = some y → id y < id x) : l.length ≤ 5 := by
 have key : ∀ (j : Nat) x,l[j]? = some x → (j : Int) ≤ id x := by
  intro j
  induction j with
  | zero => intro x hx; exact (h 0 x hx).1.1
  | succ j ih =>
   intro x hx
   obtain ⟨hj,_⟩ := List.getElem?_eq_some_iff.1 hx
   have hy : l[j]? = some l[j] := List.getElem?_eq_getElem (by omega)
   have := ih _ hy
   have := (h _ _ hx).2 l[j] (Nat.succ_pos j) hy
   omega
 rcases Nat.lt_or_ge 5 l.length with h5 | h5
 ·have hx : l[5]? = some l[5] := List.getElem?_eq_getElem h5
  have := key 5 _ hx
  have := (h 5 _ hx).1.2
  omega
 ·exact h5
theorem marks_len {l : List Flr} (h : marksOk l) : l.length ≤ 5 := ids_len (id := fun x => x.id) fun j x hx => ⟨(h j x hx).1,(h j x hx).2.2⟩
theorem items_len {s : Sta} (h : stateOk s) : s.items.length ≤ 5 := ids_len (id := fun x => x.id) fun j x hx => ⟨(h.1 j x hx).1,(h.1 j x hx).2.2.2⟩
theorem sm_ok {s : Sta} (h : stateOk s) : smS 5 s := ⟨items_len h,marks_len h.2,fun y hy => by
 obtain ⟨j,hj⟩ := List.getElem?_of_mem hy
 have := (h.1 j y hj).2.1.2.2.2.2
 omega⟩
theorem big_ok {s : Sta} (h : stateOk s) : bigS s := (sm_ok h).big (by decide)
abbrev cStr : ByteArray → List Value := fun s => [.string s]
theorem cStr_len (x : ByteArray) : (cStr x).length = 1 := rfl
theorem ent_mk {i r b v : Int} {d : ByteArray} (h1 : 1 ≤ i ∧ i ≤ 1000) (h2 : 0 ≤ r ∧ r ≤ 1) (h3 : 0 ≤ b ∧ b ≤ 100000) (h4 : 0 ≤ v ∧ v ≤ 1000) (h5 : d.size ≤ 8) : entOk ⟨i,r,b,v,d⟩ := ⟨h1,h2,h3,h4,h5⟩
section
variable {P : Program} {ls : List Tmp} {call : ACallT} {o : Oper} {e : Operand → Value} {lo : Lo} {st : St} {K : Value × Lo × St → Prop}
theorem op_litS {t el : TypeId} {n : Nat} {ps : Array (Nat × Operand)} {u : Value} {l : List ByteArray} (ho : o.op = .buildSlice t n ps) (hp : parts e ps = mkp 0 (l.map Value.string)) (hn : n = l.length) (h0 : 0 < n) (he : telem P t = some el) (hz : tsize P el = some 1) (hz0 : tzero P el = some [u]) (hsz : n ≤ 16777216)
  (hK : ∀ q st',OwnR st' 1 cStr q l → Pres st st' → New st.next q → K (.slice q n n,lo,st')) : ∃ r,aoper P ls call o e lo st = some r ∧ K r := by
 refine op_lit ho hp (by rw [hn,List.length_map]) h0 he hz hz0 Nat.one_pos rfl (by omega) (fun v hv => ?_) ?_
 ·obtain ⟨r,_,rfl⟩ := List.mem_map.1 hv
  exact ⟨rfl,rfl⟩
 ·rw [show (l.map Value.string).flatMap (fun v => v.cells.toList) = l.flatMap cStr by rw [List.flatMap_map]; rfl]
  exact hK _ _ OwnR.push Pres.push New.self
theorem op_putw {α : Type} {f : α → List Value} {z : Nat} {t : TypeId} {x u : Operand} {p : Option Addr} {a d i : Nat} {l : List α} {j : Nat} {w y : α} {ws : List Value} {v : Value} (ho : o.op = .store t x u) (hx : e x = .pointer (some ⟨a,d,none⟩)) (hd : d = j * z + i) (hu : e u = v) (ht : tsize P t = some ws.length) (hz : ∀ x,(f x).length = z) (hv : v.cells.toList = ws) (hi : ws.all isCell = true) (hw : l[j]? = some w) (hf : ∃ A M B,f w = A ++ (M ++ B) ∧ f y = A ++ (ws ++ B) ∧ A.length = i ∧ M.length = ws.length)
  (hown : OwnR st z f p l) (hp : p = some ⟨a,0,none⟩)
  (hK : ∀ st',OwnR st' z f p (l.set j y) → Pr p st st' → st'.next = st.next → K (undef,lo,st')) : ∃ r,aoper P ls call o e lo st = some r ∧ K r := by
 subst hp hd
 rcases hown with ⟨h,_⟩ | ⟨a',h,ha,hm⟩
 ·cases h
 injection h with h
 injection h with h _ _
 subst h
 obtain ⟨hj,_⟩ := List.getElem?_eq_some_iff.1 hw
 obtain ⟨pre,cs,suf,h1,h2,h3,h4⟩ := flat_set hz (l := l) (j := j) (x := y) hj
 rw [hw] at h3
 injection h3 with h3
 obtain ⟨A,M,B,e1,e2,e3,e4⟩ := hf
 have hlen : j * z + i + ws.length ≤ (l.flatMap f).length := by
  rw [h1,← h3,e1]
  simp only [List.length_append]
  omega
 refine op_sta (z := ws.length) ho hx hu rfl ht (by rw [hv]) (by rw [hv]; exact hi) hm rfl hlen fun st' k1 k2 k3 => hK st' (.inr ⟨a,rfl,by omega,?_⟩) ⟨Nat.le_of_eq k2.symm,fun b _ hne => k3 b (fun hb => hne _ rfl hb)⟩ k2
 rw [k1]
 show some (Blk.mk true z (splice (l.flatMap f) (j * z + i) v.cells.toList)) = _
 rw [hv,h4,h1,← h3,e1,e2,← h2,← e3]
 have := splice_mid ws (pre ++ A) M (B ++ suf) e4
 simp only [List.append_assoc,List.length_append] at this ⊢
 rw [this]
end
theorem ac_d_l1Below {p : Option Addr} {bs : List Int} (c : Nat) (n : Int) (st : St) (hc : Cur st c p bs) (hs : bs.length < 1099511627776) : C 70 [vP c 0,vI n] st (fun v s => ∃ r,v = vI r ∧ 0 ≤ r ∧ (0 < n → r < n) ∧ (n ≤ 0 → r = 0) ∧ Cur s c p bs ∧ PresC c st s) := ac_l1Below c p bs n st hc hs
theorem ac_d_l1Once {p : Option Addr} {bs : List Int} (c : Nat) (n : Int) (st : St) (hc : Cur st c p bs) (hs : bs.length < 1099511627776) : C 145 [vP c 0,vI n] st (fun v s => ∃ b,v = .bool b ∧ Cur s c p bs ∧ PresC c st s) := ac_l1Once c p bs n st hc hs
theorem ac_d_l1PickInt {p : Option Addr} {bs : List Int} (c : Nat) (q : Option Addr) (l : List Int) (st : St) (hc : Cur st c p bs) (hs : bs.length < 1099511627776) (hl : 0 < l.length) (hO : OwnR st 1 fI q l) (hp : NC c q) : C 149 [vP c 0,vS q l.length] st (fun v s => ∃ r,v = vI r ∧ r ∈ l ∧ Cur s c p bs ∧ PresC c st s) := by
 refine AC.enter' (i := ⟨[],[],[0,1,4],[]⟩) Try.func149 rfl rfl (by kernel_rfl) Try.ntmps149 (Lb rfl) rfl (cw_sound _ _ _ _ _ ?_)
 refine ⟨_,rfl,?_⟩
 refine ⟨_,rfl,(ac_l1Below c p bs l.length st hc hs).mono ?_⟩
 rintro _ s1 ⟨r1,rfl,h0,h1,_,hc1,hp1⟩
 have h1 := h1 (by omega)
 obtain ⟨j,rfl⟩ : ∃ j : Nat,r1 = j := ⟨r1.toNat,by omega⟩
 have hO1 : OwnR s1 1 fI q l := by
  rcases hO with h | ⟨a,rfl,ha,hm⟩
  ·exact .inl h
  ·exact .inr ⟨a,rfl,Nat.lt_of_lt_of_le ha hp1.1,(hp1.2 a ha (hp _ rfl)).trans hm⟩
 obtain ⟨b1,o1,k1,x,rfl,hx,hb1,hcc,_⟩ := (hO1.rows fI_len).atB (j := j) (by omega)
 refine ⟨_,op_idx rfl rfl rfl rfl rfl (by omega) (by omega),?_⟩
 refine ⟨_,op_ldc (i := 0) rfl rfl rfl rfl hb1 hcc rfl rfl,?_⟩
 exact Rt ⟨x,rfl,List.mem_of_getElem? hx,hc1,hp1⟩
theorem ac_d_l1Pick {p : Option Addr} {bs : List Int} (c : Nat) (q : Option Addr) (l : List ByteArray) (st : St) (hc : Cur st c p bs) (hs : bs.length < 1099511627776) (hl : 0 < l.length) (hO : OwnR st 1 cStr q l) (hp : NC c q) : C 191 [vP c 0,vS q l.length] st (fun v s => ∃ r : ByteArray,v = .string r ∧ r ∈ l ∧ Cur s c p bs ∧ PresC c st s) := by
 refine AC.enter' (i := ⟨[],[],[0,1,4],[]⟩) Try.func191 rfl rfl (by kernel_rfl) Try.ntmps191 (Lb rfl) rfl (cw_sound _ _ _ _ _ ?_)
 refine ⟨_,rfl,?_⟩
 refine ⟨_,rfl,(ac_l1Below c p bs l.length st hc hs).mono ?_⟩
 rintro _ s1 ⟨r1,rfl,h0,h1,_,hc1,hp1⟩
 have h1 := h1 (by omega)
 obtain ⟨j,rfl⟩ : ∃ j : Nat,r1 = j := ⟨r1.toNat,by omega⟩
 have hO1 : OwnR s1 1 cStr q l := by
  rcases hO with h | ⟨a,rfl,ha,hm⟩
  ·exact .inl h
  ·exact .inr ⟨a,rfl,Nat.lt_of_lt_of_le ha hp1.1,(hp1.2 a ha (hp _ rfl)).trans hm⟩
 obtain ⟨b1,o1,k1,x,rfl,hx,hb1,hcc,_⟩ := (hO1.rows cStr_len).atB (j := j) (by omega)
 refine ⟨_,op_idx rfl rfl rfl rfl rfl (by omega) (by omega),?_⟩
 refine ⟨_,op_ldc (i := 0) rfl rfl rfl rfl hb1 hcc rfl rfl,?_⟩
 exact Rt ⟨x,rfl,List.mem_of_getElem? hx,hc1,hp1⟩
theorem texts_8 {x : ByteArray} (h : x ∈ [⟨#[]⟩,⟨#[97]⟩,⟨#[98]⟩,⟨#[97,98]⟩,⟨#[49,50,51,52,53,54,55,56]⟩]) : x.size ≤ 8 := by
 simp only [List.mem_cons,List.not_mem_nil,or_false] at h
 rcases h with rfl | rfl | rfl | rfl | rfl <;> decide
theorem ac_d_l2Right {p : Option Addr} {bs : List Int} (c : Nat) (st : St) (hc : Cur st c p bs) (hs : bs.length < 1099511627776) : C 180 [vP c 0] st (fun v s => ∃ e : Ent,v = .agg #[vI e.inc,vI e.rank,vI e.beat,vI e.ver,.string e.data] ∧ entOk e ∧ Cur s c p bs ∧ PresC c st s) := by
 refine AC.enterX (i := ⟨[2],[2],[0,2],[]⟩) [] Try.func180 rfl rfl (by kernel_rfl) (by kernel_rfl) Try.ntmps180 (Lb rfl) rfl ?_
 refine ⟨_,rfl,?_⟩
 refine Cm 1 st [(0,vP c 0),Ml 2 0] [(2,0,[vI 0,vI 0,vI 0,vI 0,.string ⟨#[]⟩])] fun _ _ => ?_
 refine ⟨_,rfl,(ac_d_l1Below c 3 st hc (by first | assumption | omega)).mono ?_⟩
 rintro _ s4 ⟨r4,rfl,h4,h4',h4'',hC4,hL4⟩
 have ew5 : IntKind.wrap .i64 ((1) + r4) = (1) + r4 := wrap_i64 (by omega) (by omega)
 refine ⟨_,rfl,?_⟩
 refine ⟨_,rfl,(ac_d_l1Below c 2 s4 hC4 (by first | assumption | omega)).mono ?_⟩
 rintro _ s7 ⟨r7,rfl,h7,h7',h7'',hC7,hL7⟩
 refine ⟨_,rfl,(ac_d_l1Below c 3 s7 hC7 (by first | assumption | omega)).mono ?_⟩
 rintro _ s9 ⟨r9,rfl,h9,h9',h9'',hC9,hL9⟩
 refine ⟨_,rfl,(ac_d_l1Below c 3 s9 hC9 (by first | assumption | omega)).mono ?_⟩
 rintro _ s11 ⟨r11,rfl,h11,h11',h11'',hC11,hL11⟩
 refine op_litS (l := [⟨#[]⟩,⟨#[97]⟩,⟨#[98]⟩,⟨#[97,98]⟩,⟨#[49,50,51,52,53,54,55,56]⟩]) rfl rfl rfl (Lb rfl) rfl rfl rfl (Lb rfl) ?_
 intro q13 s13 hO13 hP13 hN13
 refine ⟨_,rfl,(ac_d_l1Pick c q13 ([⟨#[]⟩,⟨#[97]⟩,⟨#[98]⟩,⟨#[97,98]⟩,⟨#[49,50,51,52,53,54,55,56]⟩]) s13 (hC11.pres hP13) (by first | assumption | omega) (by first | assumption | omega | decide) (by first | assumption | omega) (by first | assumption | exact NC.new (by assumption) (Cur.lt (by assumption)))).mono ?_⟩
 rintro _ s14 ⟨r14,rfl,h14,hC14,hL14⟩
 refine ⟨_,rfl,?_⟩
 refine ⟨_,Os rfl,?_⟩
 exact cxs (Rt ⟨⟨IntKind.wrap .i64 (1 + r4),r7,r9,r11,r14⟩,rfl,ent_mk (by omega) (by omega) (by omega) (by omega) (texts_8 h14),hC14,((((hL4.trans hL7).trans hL9).trans hL11).trans hP13.c).trans hL14⟩)
structure smM (g : Mg) : Prop where
 tree : g.tree.leaves.length ≤ 4
 vec : g.vec.length ≤ 5
 leaves : g.leaves.length ≤ 4
 items : g.part.items.length ≤ 5
 floors : g.part.floors.length ≤ 5
 part : stateOk g.part
 marks : g.marks.length ≤ 5
theorem msg_sm {g : Mg} (h : msgOk g) : smM g := by
 obtain ⟨_,_,h1,h2,h3,h4,h5⟩ := h
 refine ⟨?_,?_,?_,items_len h4,marks_len h4.2,h4,marks_len h5⟩
 ·unfold trOk at h1
  split at h1
  ·omega
  ·omega
 ·have := h2.1
  omega
 ·rcases Nat.lt_or_ge g.leaves.length 5 with h6 | h6
  ·omega
  ·have h7 := inc_ge h3 4 _ (List.getElem?_eq_getElem (by omega))
   have h8 := (h3 4 _ (List.getElem?_eq_getElem (by omega))).1.2
   omega
theorem sm_len {g : Mg} (h : smM g) : (mgB g).length ≤ 600 := by
 have h1 := numsL_len g.tree.leaves
 have h2 := numsL_len g.vec
 have h3 := numsL_len g.leaves
 have h4 := stB_len h.part
 have h5 := putN_len g.tree.root
 have h6 := putN_len ((stB g.part).length : Int)
 have h7 := putN_len (g.marks.length : Int)
 have h8 := numsB_len (mgN g)
 have e8 : (mgN g).length = 5 := rfl
 have h9 := fls_len g.marks g.marks.length
 rw [List.take_length] at h9
 have b1 := h.tree
 have b2 := h.vec
 have b3 := h.leaves
 have b4 := h.items
 have b5 := h.floors
 have b6 := h.marks
 have e9 : (crcB (mgB0 g)).length = 4 := rfl
 rw [mgB,List.length_append,e9,mgB0,List.length_append]
 simp only [mgH,List.length_append,List.length_cons,List.length_nil]
 omega
theorem mgBz_len (g : Mg) : (mgBz g).length ≤ 600 := by
 unfold mgBz
 split
 ·rename_i h; exact sm_len (msg_sm h)
 ·exact Nat.zero_le _
theorem mgBz_ok (g : Mg) : bytesOk (mgBz g) := by
 unfold mgBz
 split
 ·exact mgB_ok g
 ·intro x hx; cases hx
def gnF : List Int → Nat → Int → Option (Int × Nat)
 | [],_,_ => none
 | b :: t,i,n => if 5 ≤ i then none else if b < 128 then (if (0 < i ∧ b = 0) ∨ 2147483647 < n + b * 2 ^ (7 * i) then none else some (n + b * 2 ^ (7 * i),i + 1)) else gnF t (i + 1) (n + b % 128 * 2 ^ (7 * i))
theorem gnF_vlq : ∀ (k i n : Nat) (r : List Int),n + k * 2 ^ (7 * i) ≤ 2147483647 → (0 < k ∨ i = 0) → gnF (vlq k ++ r) i n = some (((n + k * 2 ^ (7 * i) : Nat) : Int),i + (vlq k).length) := by
 intro k
 induction k using Nat.strongRecOn with
 | _ k ih =>
  intro i n r h hk
  have h5 : ¬ 5 ≤ i := by
   intro h5
   rcases hk with hk | hk
   ·have h1 : 2 ^ 35 ≤ 2 ^ (7 * i) := Nat.pow_le_pow_right (by decide) (by omega)
    have h2 : 2 ^ (7 * i) ≤ k * 2 ^ (7 * i) := Nat.le_mul_of_pos_left _ hk
    have h3 : (2 : Nat) ^ 35 = 34359738368 := by decide
    omega
   ·omega
  by_cases hlt : k < 128
  ·rw [vlq_lt hlt]
   simp only [List.cons_append,List.nil_append,gnF]
   rw [if_neg h5,if_pos (by omega)]
   have hc : ((n : Int) + (k : Int) * 2 ^ (7 * i)) = ((n + k * 2 ^ (7 * i) : Nat) : Int) := by push_cast; rfl
   rw [if_neg (by rw [hc]; omega),hc]
   rfl
  ·rw [vlq_ge hlt]
   simp only [List.cons_append,gnF]
   rw [if_neg h5,if_neg (by omega)]
   have hm : (((k % 128 + 128 : Nat) : Int) % 128) = ((k % 128 : Nat) : Int) := by omega
   have hc : ((n : Int) + ((k % 128 : Nat) : Int) * 2 ^ (7 * i)) = ((n + k % 128 * 2 ^ (7 * i) : Nat) : Int) := by push_cast; rfl
   have hp : n + k % 128 * 2 ^ (7 * i) + k / 128 * 2 ^ (7 * (i + 1)) = n + k * 2 ^ (7 * i) := by
    have e1 : 2 ^ (7 * (i + 1)) = 128 * 2 ^ (7 * i) := by rw [Nat.mul_add,Nat.pow_add,Nat.mul_comm]
    rw [e1,← Nat.mul_assoc,Nat.add_assoc,← Nat.add_mul]
    congr 2
    omega
   rw [hm,hc,ih (k / 128) (by omega) (i + 1) (n + k % 128 * 2 ^ (7 * i)) r (by rw [hp]; exact h) (.inl (by omega)),hp]
   simp only [List.length_cons]
   rw [show i + 1 + (vlq (k / 128)).length = i + ((vlq (k / 128)).length + 1) by omega]
def gnAt (l : List Int) (at_ : Int) : Option (Int × Int) := if at_ < 0 then none else (gnF (l.drop at_.toNat) 0 0).map fun r => (r.1,at_ + r.2)
theorem gnAt_put {a r : List Int} {n : Int} (h : 0 ≤ n ∧ n ≤ 2147483647) : gnAt (a ++ (putN n ++ r)) a.length = some (n,(a.length : Int) + (putN n).length) := by
 unfold gnAt
 rw [if_neg (by omega),Int.toNat_natCast,List.drop_left]
 have : putN n = vlq n.toNat := if_pos h
 rw [this,show (0 : Int) = ((0 : Nat) : Int) from rfl,gnF_vlq n.toNat 0 0 r (by omega) (.inr rfl)]
 simp only [Option.map_some,Nat.mul_zero,Nat.pow_zero,Nat.mul_one,Nat.zero_add]
 congr 2
 omega
section
variable {P : Program} {ls : List Tmp} {call : ACallT} {o : Oper} {e : Operand → Value} {lo : Lo} {st : St}
theorem op_sl {t ty : TypeId} {x y : Operand} {a r : Int} {b : Nat} (ho : o.op = .binOp .shl t x y ty) (hx : e x = vI a) (hy : e y = vI (b : Int)) (hb : b ≤ 63) (hr : a * 2 ^ b = r) (h1 : -9223372036854775808 ≤ r) (h2 : r < 9223372036854775808) : aoper P ls call o e lo st = some (vI r,lo,st) := by
 obtain ⟨d,op,tt,pos,after,gd⟩ := o
 simp only at ho
 subst ho hr
 have h3 : (0 : Int) ≤ (b : Int) ∧ (b : Int) ≤ IntKind.bits .i64 := ⟨by omega,by show (b : Int) ≤ 64; omega⟩
 simp only [aoper,rop,hx,hy,abin,if_pos h3,Int.toNat_natCast,Option.map_some]
 rw [wrap_i64 h1 h2]
theorem op_ad {t ty : TypeId} {x y : Operand} {a b r : Int} (ho : o.op = .binOp .add t x y ty) (hx : e x = vI a) (hy : e y = vI b) (hr : a + b = r) (h1 : -9223372036854775808 ≤ r) (h2 : r < 9223372036854775808) : aoper P ls call o e lo st = some (vI r,lo,st) := by
 obtain ⟨d,op,tt,pos,after,gd⟩ := o
 simp only at ho
 subst ho hr
 simp only [aoper,rop,hx,hy,abin,aint,if_true,Option.map_some]
 rw [wrap_i64 h1 h2]
end
def gnR (l : List Int) (a : Int) : Int × Int × Bool := match gnAt l a with
 | some r => (r.1,r.2,true)
 | none => (0,0,false)
theorem gnR_neg {l : List Int} {a : Int} (h : a < 0) : gnR l a = (0,0,false) := by unfold gnR gnAt; rw [if_pos h]
theorem gnR_of {l : List Int} {a : Nat} : gnR l a = match gnF (l.drop a) 0 0 with
  | some r => (r.1,(a : Int) + r.2,true)
  | none => (0,0,false) := by
 unfold gnR gnAt
 rw [if_neg (by omega),Int.toNat_natCast]
 cases gnF (l.drop a) 0 0 <;> rfl
theorem dropCons {α : Type} {l : List α} {j : Nat} {x : α} (h : l[j]? = some x) : l.drop j = x :: l.drop (j + 1) := by
 obtain ⟨h1,rfl⟩ := List.getElem?_eq_some_iff.1 h
 exact List.drop_eq_getElem_cons h1
theorem gnF_five {l : List Int} {n : Int} : gnF l 5 n = none := by cases l <;> rfl
theorem gnF_go {l : List Int} {j i n c : Nat} {b : Int} (hb : l[j]? = some b) (hi : i ≤ 4) (h1 : ¬ b < 128) (hc : b % 128 = (c : Int)) : gnF (l.drop j) i n = gnF (l.drop (j + 1)) (i + 1) ((n + c * 2 ^ (7 * i) : Nat) : Int) := by
 rw [dropCons hb]
 simp only [gnF]
 rw [if_neg (by omega),if_neg h1,hc]
 congr 1
theorem gnF_no {l : List Int} {j i n : Nat} {b : Int} (hb : l[j]? = some b) (h1 : b < 128) (h2 : (0 < i ∧ b = 0) ∨ 2147483647 < n + b * 2 ^ (7 * i)) : gnF (l.drop j) i n = none := by
 rw [dropCons hb]
 simp only [gnF]
 by_cases h5 : 5 ≤ i
 ·rw [if_pos h5]
 ·rw [if_neg h5,if_pos h1,if_pos h2]
theorem gnF_yes {l : List Int} {j i n : Nat} {b : Int} (hb : l[j]? = some b) (hi : i ≤ 4) (h1 : b < 128) (h2 : ¬ ((0 < i ∧ b = 0) ∨ 2147483647 < n + b * 2 ^ (7 * i))) : gnF (l.drop j) i n = some (n + b * 2 ^ (7 * i),i + 1) := by
 rw [dropCons hb]
 simp only [gnF]
 rw [if_neg (by omega),if_pos h1,if_neg h2]
theorem pow7 {i : Nat} (h : i ≤ 4) (c : Nat) : c % 128 * 2 ^ (7 * i) ≤ 34091302912 := by
 have h1 : 2 ^ (7 * i) ≤ 2 ^ 28 := Nat.pow_le_pow_right (by decide) (by omega)
 have h2 : c % 128 * 2 ^ (7 * i) ≤ 127 * 2 ^ 28 := Nat.mul_le_mul (by omega) h1
 omega
theorem pow7n {i n : Nat} (h : i ≤ 4) (hn : n < 2 ^ (7 * i)) : n < 268435456 := by
 have h1 : 2 ^ (7 * i) ≤ 2 ^ 28 := Nat.pow_le_pow_right (by decide) (by omega)
 omega
theorem pow7s {i n c : Nat} (hn : n < 2 ^ (7 * i)) : n + c % 128 * 2 ^ (7 * i) < 2 ^ (7 * (i + 1)) := by
 have e1 : 2 ^ (7 * (i + 1)) = 128 * 2 ^ (7 * i) := by rw [Nat.mul_add,Nat.pow_add,Nat.mul_comm]
 have h2 : c % 128 * 2 ^ (7 * i) ≤ 127 * 2 ^ (7 * i) := Nat.mul_le_mul_right _ (by omega)
 omega
theorem gnR_yes {l : List Int} {a i n c : Nat} (hg : gnF (l.drop a) 0 0 = gnF (l.drop (a + i)) i n) (hb : l[a + i]? = some (c : Int)) (hi : i ≤ 4) (h1 : c < 128) (h2 : ¬ ((0 < i ∧ c = 0) ∨ 2147483647 < n + c % 128 * 2 ^ (7 * i))) : (((n + c % 128 * 2 ^ (7 * i) : Nat) : Int),(a : Int) + i + 1,true) = gnR l a := by
 have hm : c % 128 = c := Nat.mod_eq_of_lt h1
 have hc : ((n : Int) + (c : Int) * 2 ^ (7 * i)) = ((n + c * 2 ^ (7 * i) : Nat) : Int) := by push_cast; rfl
 rw [hm] at h2 ⊢
 rw [gnR_of,hg,gnF_yes hb hi (by omega) (by rw [hc]; omega),hc]
 simp only [Int.natCast_add,Int.natCast_one,Int.add_assoc]
theorem gnR_no {l : List Int} {a i n c : Nat} (hg : gnF (l.drop a) 0 0 = gnF (l.drop (a + i)) i n) (hb : l[a + i]? = some (c : Int)) (h1 : c < 128) (h2 : (0 < i ∧ c = 0) ∨ 2147483647 < n + c % 128 * 2 ^ (7 * i)) : (0,0,false) = gnR l a := by
 have hm : c % 128 = c := Nat.mod_eq_of_lt h1
 have hc : ((n : Int) + (c : Int) * 2 ^ (7 * i)) = ((n + c * 2 ^ (7 * i) : Nat) : Int) := by push_cast; rfl
 rw [hm] at h2
 rw [gnR_of,hg,gnF_no hb (by omega) (by rw [hc]; omega)]
theorem gnR_end {l : List Int} {a i n : Nat} (hg : gnF (l.drop a) 0 0 = gnF (l.drop (a + i)) i n) (h : i = 5 ∨ l.length ≤ a + i) : (0,0,false) = gnR l a := by
 rw [gnR_of,hg]
 rcases h with rfl | h
 ·rw [gnF_five]
 ·rw [List.drop_eq_nil_of_le h]; rfl
theorem ac_impl_GetNum (p : Option Addr) (l : List Int) (a : Int) (st : St) (hR : Rows st 1 fB p l) (hl : bytesOk l) (hs : l.length ≤ 1099511627776) (ha : a ≤ 1099511627776) : C 162 [vS p l.length,vI a] st (fun v s => ∃ n k b,v = .tuple #[vI n,vI k,vB b] ∧ (n,k,b) = gnR l a ∧ s = st) := by
 refine AC.enterX (i := ⟨[],[],[0,1,4,5,6,7,8,9,17,27,45,55],[]⟩) [] Try.func162 rfl rfl (by kernel_rfl) (by kernel_rfl) Try.ntmps162 (Lb rfl) rfl ?_
 refine Cu lo0 st [(0,vS p l.length),(1,vI a),(4,vI 0),(5,vI 0),(6,vB false)] fun _ => ?_
 refine ⟨_,rfl,?_⟩
 rintro (_|_) h11
 ·replace h11 : ¬ (a < (0)) := of_decide_eq_false h11
  iterate 2 refine ⟨_,rfl,?_⟩
  rintro (_|_) h16
  ·replace h16 : ¬ (a ≥ (l.length : Int)) := of_decide_eq_false h16
   refine ⟨_,rfl,?_⟩
   refine Cu lo0 st [(0,vS p l.length),(1,vI a),(4,vI 0),(5,vI 0),(6,vB false),(17,vB false)] fun _ => ?_
   obtain ⟨a,rfl⟩ := Int.eq_ofNat_of_zero_le (show 0 ≤ a by omega)
   refine cxs ?_
   refine cxs ?_
   refine Cu lo0 st [(0,vS p l.length),(1,vI a),(4,vI 0),(5,vI 0),(6,vB false),(7,vI 0),(8,vI 0)] fun _ => ?_
   refine AW.loop0 (fun x : Nat × Nat => [(0,vS p l.length),(1,vI a),(7,vI (x.2 : Int)),(8,vI (x.1 : Int))]) (fun m (x : Nat × Nat) st' => m = 5 - x.1 ∧ x.1 ≤ 5 ∧ x.2 < 2 ^ (7 * x.1) ∧ gnF (l.drop a) 0 0 = gnF (l.drop (a + x.1)) x.1 x.2 ∧ st = st') (0,0) _ ⟨rfl,rfl,rfl,rfl,trivial⟩ rfl ⟨rfl,Nat.zero_le _,Nat.one_pos,rfl,rfl⟩ ?_
   rintro m ⟨i,n⟩ ρ0 st' ⟨rfl,hi,hn,hg,rfl⟩
   simp only at hi hn hg
   refine ⟨_,rfl,?_⟩
   rintro (_|_) h19
   ·replace h19 : ¬ ((i : Int) < (5)) := of_decide_eq_false h19
    refine ⟨_,rfl,?_⟩
    refine Cu lo0 st [(0,vS p l.length),(1,vI a),(7,vI (n : Int)),(8,vI (i : Int)),(27,vB false)] fun _ => ?_
    refine cxs ?_
    exact cxs (Rt ⟨0,0,false,rfl,gnR_end hg (.inl (by omega)),rfl⟩)
   ·replace h19 : (i : Int) < (5) := of_decide_eq_true h19
    have ew23 : IntKind.wrap .i64 (a + (i : Int)) = a + (i : Int) := wrap_i64 (by omega) (by omega)
    iterate 3 refine ⟨_,rfl,?_⟩
    rintro (_|_) h26
    ·replace h26 : ¬ ((IntKind.wrap .i64 (a + (i : Int))) < (l.length : Int)) := of_decide_eq_false h26
     rw [ew23] at h26
     refine ⟨_,rfl,?_⟩
     refine Cu lo0 st [(0,vS p l.length),(1,vI a),(7,vI (n : Int)),(8,vI (i : Int)),(27,vB false)] fun _ => ?_
     refine cxs ?_
     exact cxs (Rt ⟨0,0,false,rfl,gnR_end hg (.inr (by omega)),rfl⟩)
    ·replace h26 : (IntKind.wrap .i64 (a + (i : Int))) < (l.length : Int) := of_decide_eq_true h26
     rw [ew23] at h26
     refine ⟨_,rfl,?_⟩
     refine Cu lo0 st [(0,vS p l.length),(1,vI a),(7,vI (n : Int)),(8,vI (i : Int)),(27,vB true)] fun _ => ?_
     refine cxs ?_
     have ew33 : IntKind.wrap .i64 (a + (i : Int)) = a + (i : Int) := wrap_i64 (by omega) (by omega)
     refine ⟨_,rfl,?_⟩
     refine op_at ((a + (i : Int)).toNat) hR (by omega) rfl rfl rfl rfl (by rw [ew33]; omega) rfl rfl ?_
     intro x34 b34 d34 k34 hy34 hb34 hm34 hc34 ho34
     refine ⟨_,op_ldc (i := 0) rfl rfl rfl rfl hm34 hc34 rfl rfl,?_⟩
     refine ⟨_,op_ofB rfl rfl rfl rfl rfl (hl.at hy34),?_⟩
     refine Cu lo0 st [(0,vS p l.length),(1,vI a),(7,vI (n : Int)),(8,vI (i : Int)),(9,vI (x34 : Int)),(27,vB true)] fun _ => ?_
     obtain ⟨x34,rfl⟩ := Int.eq_ofNat_of_zero_le (show 0 ≤ x34 from (hl _ (List.mem_of_getElem? hy34)).1)
     rw [show ((a : Int) + (i : Int)).toNat = a + i by omega] at hy34
     have hi4 : i ≤ 4 := by omega
     have hq := pow7 hi4 x34
     have hn4 := pow7n hi4 hn
     have hx := (hl _ (List.mem_of_getElem? hy34)).2
     refine ⟨_,op_rm (r := ((x34 % 128 : Nat) : Int)) rfl rfl rfl (by decide) ((tm_emod 128 (by omega)).trans (by omega)),?_⟩
     have ew41 : IntKind.wrap .i64 ((7) * (i : Int)) = (7) * (i : Int) := wrap_i64 (by omega) (by omega)
     refine ⟨_,rfl,?_⟩
     refine ⟨_,op_sl (b := 7 * i) (r := ((x34 % 128 * 2 ^ (7 * i) : Nat) : Int)) rfl rfl (congrArg vI (ew41.trans (by omega))) (by omega) (by push_cast; rfl) (by omega) (by omega),?_⟩
     refine ⟨_,op_ad (r := ((n + x34 % 128 * 2 ^ (7 * i) : Nat) : Int)) rfl rfl rfl (by omega) (by omega) (by omega),?_⟩
     refine Cu lo0 st [(0,vS p l.length),(1,vI a),(7,vI ((n + x34 % 128 * 2 ^ (7 * i) : Nat) : Int)),(8,vI (i : Int)),(9,vI (x34 : Int)),(27,vB true)] fun _ => ?_
     refine ⟨_,rfl,?_⟩
     rintro (_|_) h45
     ·replace h45 : ¬ ((x34 : Int) ≥ (128)) := of_decide_eq_false h45
      refine Cu lo0 st [(0,vS p l.length),(1,vI a),(7,vI ((n + x34 % 128 * 2 ^ (7 * i) : Nat) : Int)),(8,vI (i : Int)),(9,vI (x34 : Int)),(27,vB true),(45,vB false)] fun _ => ?_
      refine cxs ?_
      refine ⟨_,rfl,?_⟩
      rintro (_|_) h47
      ·replace h47 : ¬ ((i : Int) > (0)) := of_decide_eq_false h47
       iterate 2 refine ⟨_,rfl,?_⟩
       rintro (_|_) h54
       ·replace h54 : ¬ (((n + x34 % 128 * 2 ^ (7 * i) : Nat) : Int) > (2147483647)) := of_decide_eq_false h54
        refine ⟨_,rfl,?_⟩
        refine Cu lo0 st [(0,vS p l.length),(1,vI a),(7,vI ((n + x34 % 128 * 2 ^ (7 * i) : Nat) : Int)),(8,vI (i : Int)),(9,vI (x34 : Int)),(27,vB true),(45,vB false),(55,vB false)] fun _ => ?_
        refine cxs ?_
        have ew59 : IntKind.wrap .i64 (a + (i : Int)) = a + (i : Int) := wrap_i64 (by omega) (by omega)
        refine ⟨_,rfl,?_⟩
        have ew60 : IntKind.wrap .i64 ((IntKind.wrap .i64 (a + (i : Int))) + (1)) = (a + (i : Int)) + (1) := by rw [ew59]; exact wrap_i64 (by omega) (by omega)
        refine ⟨_,rfl,?_⟩
        exact cxs (Rt ⟨_,_,true,rfl,(by rw [ew60]; exact gnR_yes hg hy34 hi4 (by omega) (by omega)),rfl⟩)
       ·replace h54 : ((n + x34 % 128 * 2 ^ (7 * i) : Nat) : Int) > (2147483647) := of_decide_eq_true h54
        refine ⟨_,rfl,?_⟩
        refine Cu lo0 st [(0,vS p l.length),(1,vI a),(7,vI ((n + x34 % 128 * 2 ^ (7 * i) : Nat) : Int)),(8,vI (i : Int)),(9,vI (x34 : Int)),(27,vB true),(45,vB false),(55,vB true)] fun _ => ?_
        exact cxs (Rt ⟨0,0,false,rfl,gnR_no hg hy34 (by omega) (by omega),rfl⟩)
      ·replace h47 : (i : Int) > (0) := of_decide_eq_true h47
       refine ⟨_,rfl,?_⟩
       rintro (_|_) h50
       ·replace h50 : ¬ ((x34 : Int) = (0)) := beq_eq_false_iff_ne.1 h50
        iterate 2 refine ⟨_,rfl,?_⟩
        rintro (_|_) h54
        ·replace h54 : ¬ (((n + x34 % 128 * 2 ^ (7 * i) : Nat) : Int) > (2147483647)) := of_decide_eq_false h54
         refine ⟨_,rfl,?_⟩
         refine Cu lo0 st [(0,vS p l.length),(1,vI a),(7,vI ((n + x34 % 128 * 2 ^ (7 * i) : Nat) : Int)),(8,vI (i : Int)),(9,vI (x34 : Int)),(27,vB true),(45,vB false),(55,vB false)] fun _ => ?_
         refine cxs ?_
         have ew59 : IntKind.wrap .i64 (a + (i : Int)) = a + (i : Int) := wrap_i64 (by omega) (by omega)
         refine ⟨_,rfl,?_⟩
         have ew60 : IntKind.wrap .i64 ((IntKind.wrap .i64 (a + (i : Int))) + (1)) = (a + (i : Int)) + (1) := by rw [ew59]; exact wrap_i64 (by omega) (by omega)
         refine ⟨_,rfl,?_⟩
         exact cxs (Rt ⟨_,_,true,rfl,(by rw [ew60]; exact gnR_yes hg hy34 hi4 (by omega) (by omega)),rfl⟩)
        ·replace h54 : ((n + x34 % 128 * 2 ^ (7 * i) : Nat) : Int) > (2147483647) := of_decide_eq_true h54
         refine ⟨_,rfl,?_⟩
         refine Cu lo0 st [(0,vS p l.length),(1,vI a),(7,vI ((n + x34 % 128 * 2 ^ (7 * i) : Nat) : Int)),(8,vI (i : Int)),(9,vI (x34 : Int)),(27,vB true),(45,vB false),(55,vB true)] fun _ => ?_
         exact cxs (Rt ⟨0,0,false,rfl,gnR_no hg hy34 (by omega) (by omega),rfl⟩)
       ·replace h50 : (x34 : Int) = (0) := beq_iff_eq.1 h50
        iterate 2 refine ⟨_,rfl,?_⟩
        refine Cu lo0 st [(0,vS p l.length),(1,vI a),(7,vI ((n + x34 % 128 * 2 ^ (7 * i) : Nat) : Int)),(8,vI (i : Int)),(9,vI (x34 : Int)),(27,vB true),(45,vB false),(55,vB true)] fun _ => ?_
        exact cxs (Rt ⟨0,0,false,rfl,gnR_no hg hy34 (by omega) (by omega),rfl⟩)
     ·replace h45 : (x34 : Int) ≥ (128) := of_decide_eq_true h45
      refine Cu lo0 st [(0,vS p l.length),(1,vI a),(7,vI ((n + x34 % 128 * 2 ^ (7 * i) : Nat) : Int)),(8,vI (i : Int)),(9,vI (x34 : Int)),(27,vB true),(45,vB true)] fun _ => ?_
      refine cxs ?_
      have ew29 : IntKind.wrap .i64 ((i : Int) + (1)) = ((i + 1 : Nat) : Int) := (wrap_i64 (by omega) (by omega)).trans (by omega)
      refine ⟨_,rfl,?_⟩
      exact ⟨(i + 1,n + x34 % 128 * 2 ^ (7 * i)),5 - (i + 1),by omega,⟨rfl,rfl,rfl,congrArg (Value.int .i64) ew29,trivial⟩,rfl,rfl,by simp only; omega,pow7s hn,hg.trans (gnF_go (c := x34 % 128) hy34 hi4 (by omega) (by omega)),rfl⟩
  ·replace h16 : a ≥ (l.length : Int) := of_decide_eq_true h16
   refine ⟨_,rfl,?_⟩
   refine Cu lo0 st [(0,vS p l.length),(1,vI a),(4,vI 0),(5,vI 0),(6,vB false),(17,vB true)] fun _ => ?_
   obtain ⟨a,rfl⟩ := Int.eq_ofNat_of_zero_le (show 0 ≤ a by omega)
   exact cxs (Rt ⟨0,0,false,rfl,by rw [gnR_of,List.drop_eq_nil_of_le (by omega)]; rfl,rfl⟩)
 ·replace h11 : a < (0) := of_decide_eq_true h11
  refine ⟨_,rfl,?_⟩
  refine Cu lo0 st [(0,vS p l.length),(1,vI a),(4,vI 0),(5,vI 0),(6,vB false),(17,vB true)] fun _ => ?_
  exact cxs (Rt ⟨0,0,false,rfl,(gnR_neg h11).symm,rfl⟩)
theorem flat_map (l : List Int) : l.flatMap fB = l.map (Value.int .u8) := by
 induction l with
 | nil => rfl
 | cons x l ih => rw [List.flatMap_cons,ih]; rfl
section
variable {P : Program} {ls : List Tmp} {call : ACallT} {o : Oper} {e : Operand → Value} {lo : Lo} {st : St}
theorem op_sl3 {t el : TypeId} {x y w : Operand} {p : Option Addr} {n i j z : Nat} {a b : Int} (ho : o.op = .slice t x (some y) (some w) none) (hx : e x = .slice p n n) (hy : e y = vI a) (hw : e w = vI b) (ha : a = (i : Int)) (hb : b = (j : Int)) (he : telem P t = some el) (hz : tsize P el = some z) (h1 : i ≤ j) (h2 : j ≤ n) : aoper P ls call o e lo st = some (.slice (shO p z i) (j - i) (j - i),lo,st) := by
 obtain ⟨d,op,tt,pos,after,gd⟩ := o
 simp only at ho
 subst ho ha hb
 simp [aoper,rop,aslice,abound,hx,hy,hw,he,hz,h1,h2,shO]
theorem op_strS {src dst el : TypeId} {x : Operand} {p : Option Addr} {l : List Int} {k n : Nat} (ho : o.op = .convert src dst x) (hx : e x = .slice (shO p 1 k) n n) (hd : telem P dst = none) (hs : tstr P dst = true) (hse : telem P src = some el) (hi : tint P el = some .u8) (hR : Rows st 1 fB p l) (hl : 0 < l.length) (hk : k + n ≤ l.length) :
  aoper P ls call o e lo st = some (.string (toB ((l.drop k).take n)),lo,st) := by
 obtain ⟨d,op,ty,pos,after,gd⟩ := o
 simp only at ho
 subst ho
 rcases hR with rfl | ⟨b,off,blk,rfl,hm,_,hc⟩
 ·cases hl
 ·have h1 := take_rows (f := fB) (z := 1) (l := l) (cs := blk.cells) (off := off) fB_len hc
  rw [Nat.mul_one] at h1
  have h2 : (blk.cells.drop (off + k)).take n = ((l.drop k).take n).flatMap fB := by
   rw [flat_map,List.map_take,List.map_drop,← flat_map,← h1,← List.drop_drop,List.drop_take,List.take_take,Nat.min_eq_left (by omega)]
  have h3 : ((l.drop k).take n).length = n := by rw [List.length_take,List.length_drop]; omega
  simp only [shO,Option.map_some,aoper,hd,hx,aconv,hs,hse,hi,astring,rdB,hm,Option.bind_some,h2,flat_len fB_len,Nat.mul_one,h3,if_true,abytes_ints]
  rfl
end
theorem gnF_rng : ∀ (t : List Int) (i : Nat) (n v : Int) (j : Nat),bytesOk t → 0 ≤ n → gnF t i n = some (v,j) → 0 ≤ v ∧ v ≤ 2147483647 ∧ i < j ∧ j ≤ i + t.length
 | [],_,_,_,_,_,_,h => by cases h
 | b :: t,i,n,v,j,hb,hn,h => by
  have h0 := hb b (List.mem_cons_self ..)
  have hp : (0 : Int) < 2 ^ (7 * i) := Int.pow_pos (by decide)
  simp only [gnF] at h
  split at h
  ·cases h
  ·split at h
   ·split at h
    ·cases h
    ·rename_i hc
     injection h with h
     injection h with h1 h2
     have : 0 ≤ b * 2 ^ (7 * i) := Int.mul_nonneg h0.1 (Int.le_of_lt hp)
     rw [List.length_cons]
     omega
   ·have hm : 0 ≤ b % 128 * 2 ^ (7 * i) := Int.mul_nonneg (by omega) (Int.le_of_lt hp)
    have := gnF_rng t (i + 1) _ v j (fun x hx => hb x (List.mem_cons_of_mem _ hx)) (by omega) h
    rw [List.length_cons]
    omega
theorem gnR_ok {l : List Int} {a n k : Int} (hl : bytesOk l) (h : (n,k,true) = gnR l a) : 0 ≤ n ∧ n ≤ 2147483647 ∧ 0 ≤ a ∧ a < k ∧ k ≤ l.length := by
 unfold gnR gnAt at h
 by_cases h0 : a < 0
 ·rw [if_pos h0] at h; cases h
 ·rw [if_neg h0] at h
  cases hg : gnF (l.drop a.toNat) 0 0 with
  | none => rw [hg] at h; cases h
  | some r =>
   rw [hg] at h
   simp only [Option.map_some,Prod.mk.injEq] at h
   have := gnF_rng _ 0 0 r.1 r.2 (fun x hx => hl x (List.mem_of_mem_drop hx)) (Int.le_refl _) hg
   rw [List.length_drop] at this
   omega
def gtR (l : List Int) (a : Int) : ByteArray × Int × Bool := match gnR l a with
 | (n,k,b) => if b = true ∧ n ≤ l.length - k then (toB ((l.drop k.toNat).take n.toNat),k + n,true) else (⟨#[]⟩,0,false)
theorem gtR_no {l : List Int} {a n k : Int} {b : Bool} (h : (n,k,b) = gnR l a) (hk : ¬ (b = true ∧ n ≤ l.length - k)) : (⟨#[]⟩,0,false) = gtR l a := by
 unfold gtR
 rw [← h]
 simp only
 rw [if_neg hk]
theorem gtR_yes {l : List Int} {a : Int} {n k : Nat} (h : ((n : Int),(k : Int),true) = gnR l a) (hk : (n : Int) ≤ l.length - k) : (toB ((l.drop k).take n),(k : Int) + n,true) = gtR l a := by
 unfold gtR
 rw [← h]
 simp only [Int.toNat_natCast]
 rw [if_pos ⟨trivial,hk⟩]
theorem ac_impl_GetText (p : Option Addr) (l : List Int) (a : Int) (st : St) (hR : Rows st 1 fB p l) (hl : bytesOk l) (hs : l.length ≤ 1099511627776) (ha : a ≤ 1099511627776) : C 163 [vS p l.length,vI a] st (fun v s => ∃ t k b,v = .tuple #[.string t,vI k,vB b] ∧ (t,k,b) = gtR l a ∧ s = st) := by
 refine AC.enterX (i := ⟨[],[],[0,1,4,5,6,7,8,9,26],[]⟩) [] Try.func163 rfl rfl (by kernel_rfl) (by kernel_rfl) Try.ntmps163 (Lb rfl) rfl ?_
 refine Cu lo0 st [(0,vS p l.length),(1,vI a),(4,.string ⟨#[]⟩),(5,vI 0),(6,vB false)] fun _ => ?_
 refine ⟨_,rfl,(ac_impl_GetNum p l a st hR (by first | assumption | omega) (by first | assumption | omega) (by first | assumption | omega)).mono ?_⟩
 rintro _ st ⟨n13,k13,b13,rfl,h13,rfl⟩
 rcases b13 with _|_
 ·iterate 3 refine ⟨_,rfl,?_⟩
  refine Cu lo0 st [(0,vS p l.length),(4,.string ⟨#[]⟩),(5,vI 0),(6,vB false),(7,vI n13),(8,vI k13),(9,vB false)] fun _ => ?_
  iterate 2 refine ⟨_,rfl,?_⟩
  refine Cu lo0 st [(0,vS p l.length),(4,.string ⟨#[]⟩),(5,vI 0),(6,vB false),(7,vI n13),(8,vI k13),(26,vB true)] fun _ => ?_
  exact cxs (Rt ⟨_,0,false,rfl,gtR_no h13 (fun k => by cases k.1),rfl⟩)
 ·iterate 3 refine ⟨_,rfl,?_⟩
  refine Cu lo0 st [(0,vS p l.length),(4,.string ⟨#[]⟩),(5,vI 0),(6,vB false),(7,vI n13),(8,vI k13),(9,vB true)] fun _ => ?_
  obtain ⟨q1,q2,q3,q4,q5⟩ := gnR_ok hl h13
  obtain ⟨n13,rfl⟩ := Int.eq_ofNat_of_zero_le q1
  obtain ⟨k13,rfl⟩ := Int.eq_ofNat_of_zero_le (show 0 ≤ k13 by omega)
  iterate 2 refine ⟨_,rfl,?_⟩
  have ew24 : IntKind.wrap .i64 ((l.length : Int) - k13) = (l.length : Int) - k13 := wrap_i64 (by omega) (by omega)
  iterate 2 refine ⟨_,rfl,?_⟩
  rintro (_|_) h25
  ·replace h25 : ¬ (n13 > (IntKind.wrap .i64 ((l.length : Int) - k13))) := of_decide_eq_false h25
   rw [ew24] at h25
   refine ⟨_,rfl,?_⟩
   refine Cu lo0 st [(0,vS p l.length),(4,.string ⟨#[]⟩),(5,vI 0),(6,vB false),(7,vI n13),(8,vI k13),(26,vB false)] fun _ => ?_
   refine cxs ?_
   have ew31 : IntKind.wrap .i64 (k13 + n13) = k13 + n13 := wrap_i64 (by omega) (by omega)
   refine ⟨_,rfl,?_⟩
   refine ⟨_,op_sl3 (i := k13) (j := k13 + n13) rfl rfl rfl rfl rfl (ew31.trans (by omega)) rfl rfl (by omega) (by omega),?_⟩
   refine ⟨_,op_strS (l := l) (k := k13) (n := n13) rfl (by rw [show k13 + n13 - k13 = n13 by omega]; rfl) rfl rfl rfl rfl hR (by omega) (by omega),?_⟩
   have ew36 : IntKind.wrap .i64 (k13 + n13) = k13 + n13 := wrap_i64 (by omega) (by omega)
   refine ⟨_,rfl,?_⟩
   exact cxs (Rt ⟨_,_,true,rfl,(by rw [ew36]; exact gtR_yes h13 (by omega)),rfl⟩)
  ·replace h25 : n13 > (IntKind.wrap .i64 ((l.length : Int) - k13)) := of_decide_eq_true h25
   rw [ew24] at h25
   refine ⟨_,rfl,?_⟩
   refine Cu lo0 st [(0,vS p l.length),(4,.string ⟨#[]⟩),(5,vI 0),(6,vB false),(7,vI n13),(8,vI k13),(26,vB true)] fun _ => ?_
   exact cxs (Rt ⟨_,0,false,rfl,gtR_no h13 (fun k => by omega),rfl⟩)
abbrev rdC (c : Nat) (p : Option Addr) (l : List Int) (a : Int) (f : Bool) : Pc := ⟨0,some ⟨c,0,none⟩,[vS p l.length,vI a,vB f]⟩
theorem rdC_mem {st : St} {c : Nat} {p : Option Addr} {l : List Int} {a : Int} {f : Bool} (h : (rdC c p l a f).own st) : c < st.next ∧ st.mem c = some ⟨true,0,[vS p l.length,vI a,vB f]⟩ := by
 rcases h with ⟨h,_⟩ | ⟨x,h,h1,h2⟩
 ·cases h
 ·injection h with h
  injection h with h
  rw [h]
  exact ⟨h1,h2⟩
theorem op_stO {P : Program} {ls : List Tmp} {call : ACallT} {o : Oper} {e : Operand → Value} {lo : Lo} {st : St} {K : Value × Lo × St → Prop} {t : TypeId} {x u : Operand} {c off z : Nat} {cs : List Value} {v : Value} (ho : o.op = .store t x u) (hx : e x = .pointer (some ⟨c,off,none⟩)) (hu : e u = v) (ht : tsize P t = some 1) (hv : v.cells.toList = [v]) (hi : isCell v = true) (hown : (⟨z,some ⟨c,0,none⟩,cs⟩ : Pc).own st) (hl : off < cs.length)
  (hK : ∀ st',(⟨z,some ⟨c,0,none⟩,cs.set off v⟩ : Pc).own st' → Pr (some ⟨c,0,none⟩) st st' → st'.next = st.next → K (undef,lo,st')) : ∃ r,aoper P ls call o e lo st = some r ∧ K r := by
 rcases hown with ⟨h,_⟩ | ⟨a,h,h1,h2⟩
 ·cases h
 ·injection h with h
  injection h with h
  subst h
  refine op_stc ho hx hu rfl ht hv hi h2 rfl hl fun st' hm hn hk => hK st' (.inr ⟨_,rfl,by rw [hn]; exact h1,hm⟩) ⟨by rw [hn]; exact Nat.le_refl _,fun b hb hq => hk b (show b ≠ c from hq ⟨c,0,none⟩ rfl)⟩ hn
def rnF (l : List Int) (a : Int) (f : Bool) : Int × Int × Bool := match gnR l a with
 | (n,k,b) => if f = false ∧ b = true then (n,k,false) else (0,a,true)
theorem rnF_bad {l : List Int} {a : Int} : rnF l a true = (0,a,true) := by unfold rnF; simp
theorem rnF_no {l : List Int} {a n k : Int} {f : Bool} (h : (n,k,false) = gnR l a) : rnF l a f = (0,a,true) := by unfold rnF; rw [← h]; simp
theorem rnF_yes {l : List Int} {a n k : Int} (h : (n,k,true) = gnR l a) : rnF l a false = (n,k,false) := by unfold rnF; rw [← h]; simp
theorem rnF_rng {l : List Int} {a : Int} {f : Bool} (hl : bytesOk l) (hs : l.length ≤ 1099511627776) (ha : a ≤ 1099511627776) : (rnF l a f).2.1 ≤ 1099511627776 ∧ 0 ≤ (rnF l a f).1 ∧ (rnF l a f).1 ≤ 2147483647 := by
 rcases hg : gnR l a with ⟨n,k,b⟩
 cases f with
 | true => rw [rnF_bad]; exact ⟨ha,Int.le_refl _,by simp only; omega⟩
 | false =>
  cases b with
  | false => rw [rnF_no hg.symm]; exact ⟨ha,Int.le_refl _,by simp only; omega⟩
  | true =>
   rw [rnF_yes hg.symm]
   have := gnR_ok hl hg.symm
   exact ⟨by simp only; omega,this.1,this.2.1⟩
theorem bad_impl_num (c : Nat) (p : Option Addr) (l : List Int) (a : Int) (st : St) (hO : (rdC c p l a true).own st) (hR : Rows st 1 fB p l) (hl : bytesOk l) (hs : l.length ≤ 1099511627776) (ha : a ≤ 1099511627776) : C 99 [vP c 0] st (fun v s => v = vI 0 ∧ (rdC c p l a true).own s ∧ Pr (some ⟨c,0,none⟩) st s) := by
 obtain ⟨hc0,hm⟩ := rdC_mem hO
 refine AC.enterX (i := ⟨[],[],[0,2,3,4,5,26],[]⟩) [(1,[],[])] Try.func99 rfl rfl (by kernel_rfl) (by kernel_rfl) Try.ntmps99 (Lb rfl) rfl ?_
 refine Cu lo0 st [(0,vP c 0),(2,vI 0)] fun _ => ?_
 iterate 2 refine ⟨_,rfl,?_⟩
 refine ⟨_,op_ld rfl rfl rfl rfl hm rfl,?_⟩
 iterate 2 refine ⟨_,rfl,?_⟩
 refine ⟨_,op_ld rfl rfl rfl rfl hm rfl,?_⟩
 refine ⟨_,rfl,(ac_impl_GetNum p l a st hR hl hs ha).mono ?_⟩
 rintro _ st ⟨n,k,b,rfl,h15,rfl⟩
 iterate 3 refine ⟨_,rfl,?_⟩
 refine Cu lo0 st [(0,vP c 0),(2,vI 0),(3,vI n),(4,vI k),(5,vB b)] fun _ => ?_
 iterate 2 refine ⟨_,rfl,?_⟩
 refine ⟨_,op_ld rfl rfl rfl rfl hm rfl,?_⟩
 refine ⟨_,rfl,?_⟩
 refine Cu lo0 st [(0,vP c 0),(2,vI 0),(3,vI n),(4,vI k),(26,vB true)] fun _ => ?_
 iterate 2 refine ⟨_,rfl,?_⟩
 refine op_stO (z := 0) (c := c) (off := 2) rfl rfl rfl rfl rfl rfl hO (by simp) ?_
 intro s5 hO5 hP5 hn5
 refine cxs ?_
 exact cxs (Rt ⟨rfl,hO5,hP5⟩)
theorem good_impl_num (c : Nat) (p : Option Addr) (l : List Int) (a : Int) (st : St) (hO : (rdC c p l a false).own st) (hR : Rows st 1 fB p l) (hl : bytesOk l) (hs : l.length ≤ 1099511627776) (ha : a ≤ 1099511627776) : C 99 [vP c 0] st (fun v s => ∃ n k b,v = vI n ∧ (n,k,b) = rnF l a false ∧ (rdC c p l k b).own s ∧ Pr (some ⟨c,0,none⟩) st s) := by
 obtain ⟨hc0,hm⟩ := rdC_mem hO
 refine AC.enterX (i := ⟨[],[],[0,2,3,4,5,26],[]⟩) [(1,[],[])] Try.func99 rfl rfl (by kernel_rfl) (by kernel_rfl) Try.ntmps99 (Lb rfl) rfl ?_
 refine Cu lo0 st [(0,vP c 0),(2,vI 0)] fun _ => ?_
 iterate 2 refine ⟨_,rfl,?_⟩
 refine ⟨_,op_ld rfl rfl rfl rfl hm rfl,?_⟩
 iterate 2 refine ⟨_,rfl,?_⟩
 refine ⟨_,op_ld rfl rfl rfl rfl hm rfl,?_⟩
 refine ⟨_,rfl,(ac_impl_GetNum p l a st hR hl hs ha).mono ?_⟩
 rintro _ st ⟨n,k,b,rfl,h15,rfl⟩
 rcases b with _|_
 ·iterate 3 refine ⟨_,rfl,?_⟩
  refine Cu lo0 st [(0,vP c 0),(2,vI 0),(3,vI n),(4,vI k),(5,vB false)] fun _ => ?_
  iterate 2 refine ⟨_,rfl,?_⟩
  refine ⟨_,op_ld rfl rfl rfl rfl hm rfl,?_⟩
  iterate 2 refine ⟨_,rfl,?_⟩
  refine Cu lo0 st [(0,vP c 0),(2,vI 0),(3,vI n),(4,vI k),(26,vB true)] fun _ => ?_
  iterate 2 refine ⟨_,rfl,?_⟩
  refine op_stO (z := 0) (c := c) (off := 2) rfl rfl rfl rfl rfl rfl hO (by simp) ?_
  intro s5 hO5 hP5 hn5
  refine cxs ?_
  exact cxs (Rt ⟨0,a,true,rfl,(rnF_no h15).symm,hO5,hP5⟩)
 ·iterate 3 refine ⟨_,rfl,?_⟩
  refine Cu lo0 st [(0,vP c 0),(2,vI 0),(3,vI n),(4,vI k),(5,vB true)] fun _ => ?_
  iterate 2 refine ⟨_,rfl,?_⟩
  refine ⟨_,op_ld rfl rfl rfl rfl hm rfl,?_⟩
  iterate 2 refine ⟨_,rfl,?_⟩
  refine Cu lo0 st [(0,vP c 0),(2,vI 0),(3,vI n),(4,vI k),(26,vB false)] fun _ => ?_
  refine cxs ?_
  iterate 2 refine ⟨_,rfl,?_⟩
  refine op_stO (z := 0) (c := c) (off := 1) rfl rfl rfl rfl rfl rfl hO (by simp) ?_
  intro s5 hO5 hP5 hn5
  refine cxs ?_
  exact cxs (Rt ⟨_,_,false,rfl,(rnF_yes h15).symm,hO5,hP5⟩)
theorem ac_impl_num (c : Nat) (p : Option Addr) (l : List Int) (a : Int) (f : Bool) (st : St) (hO : (rdC c p l a f).own st) (hR : Rows st 1 fB p l) (hl : bytesOk l) (hs : l.length ≤ 1099511627776) (ha : a ≤ 1099511627776) : C 99 [vP c 0] st (fun v s => ∃ n k b,v = vI n ∧ (n,k,b) = rnF l a f ∧ (rdC c p l k b).own s ∧ Pr (some ⟨c,0,none⟩) st s) := by
 cases f with
 | false => exact good_impl_num c p l a st hO hR hl hs ha
 | true => exact AC.mono (bad_impl_num c p l a st hO hR hl hs ha) fun v s ⟨h1,h2,h3⟩ => ⟨0,a,true,h1,rnF_bad.symm,h2,h3⟩
def rtF (l : List Int) (a : Int) (f : Bool) : ByteArray × Int × Bool := match gtR l a with
 | (n,k,b) => if f = false ∧ b = true then (n,k,false) else (⟨#[]⟩,a,true)
theorem rtF_bad {l : List Int} {a : Int} : rtF l a true = (⟨#[]⟩,a,true) := by unfold rtF; simp
theorem rtF_no {l : List Int} {a k : Int} {n : ByteArray} {f : Bool} (h : (n,k,false) = gtR l a) : rtF l a f = (⟨#[]⟩,a,true) := by unfold rtF; rw [← h]; simp
theorem rtF_yes {l : List Int} {a k : Int} {n : ByteArray} (h : (n,k,true) = gtR l a) : rtF l a false = (n,k,false) := by unfold rtF; rw [← h]; simp
theorem bad_impl_text (c : Nat) (p : Option Addr) (l : List Int) (a : Int) (st : St) (hO : (rdC c p l a true).own st) (hR : Rows st 1 fB p l) (hl : bytesOk l) (hs : l.length ≤ 1099511627776) (ha : a ≤ 1099511627776) : C 100 [vP c 0] st (fun v s => v = .string ⟨#[]⟩ ∧ (rdC c p l a true).own s ∧ Pr (some ⟨c,0,none⟩) st s) := by
 obtain ⟨hc0,hm⟩ := rdC_mem hO
 refine AC.enterX (i := ⟨[],[],[0,2,3,4,5,26],[]⟩) [(1,[],[])] Try.func100 rfl rfl (by kernel_rfl) (by kernel_rfl) Try.ntmps100 (Lb rfl) rfl ?_
 refine Cu lo0 st [(0,vP c 0),(2,.string ⟨#[]⟩)] fun _ => ?_
 iterate 2 refine ⟨_,rfl,?_⟩
 refine ⟨_,op_ld rfl rfl rfl rfl hm rfl,?_⟩
 iterate 2 refine ⟨_,rfl,?_⟩
 refine ⟨_,op_ld rfl rfl rfl rfl hm rfl,?_⟩
 refine ⟨_,rfl,(ac_impl_GetText p l a st hR hl hs ha).mono ?_⟩
 rintro _ st ⟨n,k,b,rfl,h15,rfl⟩
 iterate 3 refine ⟨_,rfl,?_⟩
 refine Cu lo0 st [(0,vP c 0),(2,.string ⟨#[]⟩),(3,.string n),(4,vI k),(5,vB b)] fun _ => ?_
 iterate 2 refine ⟨_,rfl,?_⟩
 refine ⟨_,op_ld rfl rfl rfl rfl hm rfl,?_⟩
 refine ⟨_,rfl,?_⟩
 refine Cu lo0 st [(0,vP c 0),(2,.string ⟨#[]⟩),(3,.string n),(4,vI k),(26,vB true)] fun _ => ?_
 iterate 2 refine ⟨_,rfl,?_⟩
 refine op_stO (z := 0) (c := c) (off := 2) rfl rfl rfl rfl rfl rfl hO (by simp) ?_
 intro s5 hO5 hP5 hn5
 refine cxs ?_
 exact cxs (Rt ⟨rfl,hO5,hP5⟩)
theorem good_impl_text (c : Nat) (p : Option Addr) (l : List Int) (a : Int) (st : St) (hO : (rdC c p l a false).own st) (hR : Rows st 1 fB p l) (hl : bytesOk l) (hs : l.length ≤ 1099511627776) (ha : a ≤ 1099511627776) : C 100 [vP c 0] st (fun v s => ∃ n k b,v = .string n ∧ (n,k,b) = rtF l a false ∧ (rdC c p l k b).own s ∧ Pr (some ⟨c,0,none⟩) st s) := by
 obtain ⟨hc0,hm⟩ := rdC_mem hO
 refine AC.enterX (i := ⟨[],[],[0,2,3,4,5,26],[]⟩) [(1,[],[])] Try.func100 rfl rfl (by kernel_rfl) (by kernel_rfl) Try.ntmps100 (Lb rfl) rfl ?_
 refine Cu lo0 st [(0,vP c 0),(2,.string ⟨#[]⟩)] fun _ => ?_
 iterate 2 refine ⟨_,rfl,?_⟩
 refine ⟨_,op_ld rfl rfl rfl rfl hm rfl,?_⟩
 iterate 2 refine ⟨_,rfl,?_⟩
 refine ⟨_,op_ld rfl rfl rfl rfl hm rfl,?_⟩
 refine ⟨_,rfl,(ac_impl_GetText p l a st hR hl hs ha).mono ?_⟩
 rintro _ st ⟨n,k,b,rfl,h15,rfl⟩
 rcases b with _|_
 ·iterate 3 refine ⟨_,rfl,?_⟩
  refine Cu lo0 st [(0,vP c 0),(2,.string ⟨#[]⟩),(3,.string n),(4,vI k),(5,vB false)] fun _ => ?_
  iterate 2 refine ⟨_,rfl,?_⟩
  refine ⟨_,op_ld rfl rfl rfl rfl hm rfl,?_⟩
  iterate 2 refine ⟨_,rfl,?_⟩
  refine Cu lo0 st [(0,vP c 0),(2,.string ⟨#[]⟩),(3,.string n),(4,vI k),(26,vB true)] fun _ => ?_
  iterate 2 refine ⟨_,rfl,?_⟩
  refine op_stO (z := 0) (c := c) (off := 2) rfl rfl rfl rfl rfl rfl hO (by simp) ?_
  intro s5 hO5 hP5 hn5
  refine cxs ?_
  exact cxs (Rt ⟨_,a,true,rfl,(rtF_no h15).symm,hO5,hP5⟩)
 ·iterate 3 refine ⟨_,rfl,?_⟩
  refine Cu lo0 st [(0,vP c 0),(2,.string ⟨#[]⟩),(3,.string n),(4,vI k),(5,vB true)] fun _ => ?_
  iterate 2 refine ⟨_,rfl,?_⟩
  refine ⟨_,op_ld rfl rfl rfl rfl hm rfl,?_⟩
  iterate 2 refine ⟨_,rfl,?_⟩
  refine Cu lo0 st [(0,vP c 0),(2,.string ⟨#[]⟩),(3,.string n),(4,vI k),(26,vB false)] fun _ => ?_
  refine cxs ?_
  iterate 2 refine ⟨_,rfl,?_⟩
  refine op_stO (z := 0) (c := c) (off := 1) rfl rfl rfl rfl rfl rfl hO (by simp) ?_
  intro s5 hO5 hP5 hn5
  refine cxs ?_
  exact cxs (Rt ⟨_,_,false,rfl,(rtF_yes h15).symm,hO5,hP5⟩)
theorem ac_impl_text (c : Nat) (p : Option Addr) (l : List Int) (a : Int) (f : Bool) (st : St) (hO : (rdC c p l a f).own st) (hR : Rows st 1 fB p l) (hl : bytesOk l) (hs : l.length ≤ 1099511627776) (ha : a ≤ 1099511627776) : C 100 [vP c 0] st (fun v s => ∃ n k b,v = .string n ∧ (n,k,b) = rtF l a f ∧ (rdC c p l k b).own s ∧ Pr (some ⟨c,0,none⟩) st s) := by
 cases f with
 | false => exact good_impl_text c p l a st hO hR hl hs ha
 | true => exact AC.mono (bad_impl_text c p l a st hO hR hl hs ha) fun v s ⟨h1,h2,h3⟩ => ⟨_,a,true,h1,rtF_bad.symm,h2,h3⟩
def rcF (l : List Int) (a : Int) (f : Bool) (m : Int) : Int × Int × Bool := match rnF l a f with
 | (n,k,b) => if m < n then (0,k,true) else (n,k,b)
theorem ac_impl_count (c : Nat) (p : Option Addr) (l : List Int) (a : Int) (f : Bool) (m : Int) (st : St) (hO : (rdC c p l a f).own st) (hR : Rows st 1 fB p l) (hl : bytesOk l) (hs : l.length ≤ 1099511627776) (ha : a ≤ 1099511627776) : C 98 [vP c 0,vI m] st (fun v s => ∃ n k b,v = vI n ∧ (n,k,b) = rcF l a f m ∧ (rdC c p l k b).own s ∧ Pr (some ⟨c,0,none⟩) st s) := by
 refine AC.enterX (i := ⟨[],[],[0,1,4,5,10],[]⟩) [] Try.func98 rfl rfl (by kernel_rfl) (by kernel_rfl) Try.ntmps98 (Lb rfl) rfl ?_
 refine Cu lo0 st [(0,vP c 0),(1,vI m),(4,vI 0)] fun _ => ?_
 refine ⟨_,rfl,(ac_impl_num c p l a f st hO hR hl hs ha).mono ?_⟩
 rintro _ s7 ⟨n,k,b,rfl,h7,hO7,hP7⟩
 refine Cu lo0 s7 [(0,vP c 0),(1,vI m),(4,vI 0),(5,vI n)] fun _ => ?_
 refine ⟨_,rfl,?_⟩
 rintro (_|_) h10
 ·replace h10 : ¬ (n > m) := of_decide_eq_false h10
  refine Cu lo0 s7 [(0,vP c 0),(4,vI 0),(5,vI n),(10,vB false)] fun _ => ?_
  refine cxs ?_
  exact cxs (Rt ⟨n,k,b,rfl,by unfold rcF; rw [← h7]; exact (if_neg h10).symm,hO7,hP7⟩)
 ·replace h10 : n > m := of_decide_eq_true h10
  refine Cu lo0 s7 [(0,vP c 0),(4,vI 0),(5,vI n),(10,vB true)] fun _ => ?_
  iterate 2 refine ⟨_,rfl,?_⟩
  refine op_stO (z := 0) (c := c) (off := 2) rfl rfl rfl rfl rfl rfl hO7 (by simp) ?_
  intro s5 hO5 hP5 hn5
  refine cxs ?_
  exact cxs (Rt ⟨0,k,true,rfl,by unfold rcF; rw [← h7]; exact (if_pos h10).symm,hO5,hP7.trans hP5⟩)
def Sf (l : List Int) (a : Int) (r : List Int) : Prop := ∃ k : Nat,a = (k : Int) ∧ k ≤ l.length ∧ l.drop k = r
theorem Sf.start (l : List Int) : Sf l 0 l := ⟨0,rfl,Nat.zero_le _,rfl⟩
theorem Sf.next {l x r : List Int} {k : Nat} (h1 : k ≤ l.length) (h2 : l.drop k = x ++ r) : Sf l ((k : Int) + (x.length : Int)) r := by
 refine ⟨k + x.length,by omega,?_,?_⟩
 ·have := congrArg List.length h2
  rw [List.length_drop,List.length_append] at this
  omega
 ·rw [← List.drop_drop,h2,List.drop_left]
theorem Sf.gn {l r : List Int} {a n : Int} (h : Sf l a (putN n ++ r)) (hn : 0 ≤ n ∧ n ≤ 2147483647) : ∃ k,gnR l a = (n,k,true) ∧ Sf l k r := by
 obtain ⟨k,rfl,h1,h2⟩ := h
 refine ⟨(k : Int) + (putN n).length,?_,Sf.next h1 h2⟩
 have hl : l = l.take k ++ (putN n ++ r) := by rw [← h2,List.take_append_drop]
 have hk : (l.take k).length = k := by rw [List.length_take]; omega
 have := gnAt_put (a := l.take k) (r := r) hn
 rw [← hl,hk] at this
 unfold gnR
 rw [this]
theorem Sf.num {l r : List Int} {a n m k : Int} {f b : Bool} (h : Sf l a (putN n ++ r)) (hn : 0 ≤ n ∧ n ≤ 2147483647) (hf : f = false) (he : (m,k,b) = rnF l a f) : m = n ∧ b = false ∧ Sf l k r := by
 subst hf
 obtain ⟨k',h1,h2⟩ := h.gn hn
 rw [rnF_yes h1.symm] at he
 injection he with e1 he
 injection he with e2 e3
 subst e1 e2 e3
 exact ⟨rfl,rfl,h2⟩
theorem toB_bsl (d : ByteArray) : toB (bsl d) = d := by
 obtain ⟨⟨l⟩⟩ := d
 unfold toB bsl
 rw [List.map_map]
 congr 2
 conv => rhs; rw [← List.map_id l]
 refine List.map_congr_left fun x _ => ?_
 simp
theorem Sf.gt {l r : List Int} {a k : Int} {d t : ByteArray} {b : Bool} (h : Sf l a (putS d ++ r)) (hd : d.size ≤ 2147483647) (he : (t,k,b) = gtR l a) : t = d ∧ b = true ∧ Sf l k r := by
 have h : Sf l a (putN d.size ++ (bsl d ++ r)) := by rw [← List.append_assoc]; exact h
 obtain ⟨k1,h1,k2,rfl,h3,h4⟩ := h.gn ⟨by omega,by omega⟩
 have hlen := congrArg List.length h4
 rw [List.length_drop,List.length_append,bsl_len] at hlen
 rw [← gtR_yes h1.symm (by omega)] at he
 injection he with e1 he
 injection he with e2 e3
 refine ⟨?_,e3,?_⟩
 ·rw [e1,h4,← bsl_len,List.take_left,toB_bsl]
 ·rw [e2,← bsl_len]; exact Sf.next h3 h4
theorem Sf.text {l r : List Int} {a k : Int} {d t : ByteArray} {f b : Bool} (h : Sf l a (putS d ++ r)) (hd : d.size ≤ 2147483647) (hf : f = false) (he : (t,k,b) = rtF l a f) : t = d ∧ b = false ∧ Sf l k r := by
 subst hf
 rcases hg : gtR l a with ⟨t',k',b'⟩
 obtain ⟨rfl,rfl,h3⟩ := h.gt hd hg.symm
 rw [rtF_yes hg.symm] at he
 injection he with e1 he
 injection he with e2 e3
 subst e1 e2 e3
 exact ⟨rfl,rfl,h3⟩
theorem Sf.count {l r : List Int} {a n m k top : Int} {f b : Bool} (h : Sf l a (putN n ++ r)) (hn : 0 ≤ n ∧ n ≤ 2147483647) (ht : n ≤ top) (hf : f = false) (he : (m,k,b) = rcF l a f top) : m = n ∧ b = false ∧ Sf l k r := by
 rcases hr : rnF l a f with ⟨m',k',b'⟩
 obtain ⟨rfl,rfl,h3⟩ := h.num hn hf hr.symm
 unfold rcF at he
 rw [hr] at he
 simp only at he
 rw [if_neg (by omega)] at he
 injection he with e1 he
 injection he with e2 e3
 subst e1 e2 e3
 exact ⟨rfl,rfl,h3⟩
def rsF (l : List Int) (a : Int) (f : Bool) : Nat → List Int × Int × Bool
 | 0 => ([],a,f)
 | i + 1 => match rsF l a f i with
  | (L,k,b) => match rnF l k b with
   | (n,k',b') => (L ++ [n],k',b')
theorem rsF_succ {l L : List Int} {a k k' n : Int} {f b b' : Bool} {i : Nat} (h : (L,k,b) = rsF l a f i) (h2 : (n,k',b') = rnF l k b) : (L ++ [n],k',b') = rsF l a f (i + 1) := by
 rw [rsF,← h]
 simp only
 rw [← h2]
theorem rsF_rng {l : List Int} {a : Int} {f : Bool} (hl : bytesOk l) (hs : l.length ≤ 1099511627776) (ha : a ≤ 1099511627776) : ∀ i,(rsF l a f i).1.length = i ∧ (rsF l a f i).2.1 ≤ 1099511627776
 | 0 => ⟨rfl,ha⟩
 | i + 1 => by
  have ih := rsF_rng (f := f) hl hs ha i
  have h2 := (rnF_rng (f := (rsF l a f i).2.2) hl hs ih.2).1
  refine ⟨?_,?_⟩
  ·show ((rsF l a f i).1 ++ [_]).length = i + 1
   rw [List.length_append,ih.1]; rfl
  ·exact h2
theorem rsF_get {l L : List Int} {a k : Int} {f b : Bool} {i : Nat} (hl : bytesOk l) (hs : l.length ≤ 1099511627776) (ha : a ≤ 1099511627776) (h : (L,k,b) = rsF l a f i) : L.length = i ∧ k ≤ 1099511627776 := by
 have := rsF_rng (f := f) hl hs ha i
 rw [← h] at this
 exact this
theorem numsB_cons {L : List Int} {i : Nat} {x : Int} (h : L[i]? = some x) : numsB (L.drop i) = putN x ++ numsB (L.drop (i + 1)) := by
 rw [dropCons h,numsB,List.flatMap_cons]; rfl
theorem Sf.row {l r L0 : List Int} {a : Int} {f : Bool} (h : Sf l a (numsB L0 ++ r)) (h0 : ∀ x ∈ L0,0 ≤ x ∧ x ≤ 2147483647) (hf : f = false) : ∀ i,i ≤ L0.length → (rsF l a f i).1 = L0.take i ∧ (rsF l a f i).2.2 = false ∧ Sf l (rsF l a f i).2.1 (numsB (L0.drop i) ++ r)
 | 0,_ => ⟨rfl,hf,h⟩
 | i + 1,hi => by
  obtain ⟨h1,h2,h3⟩ := Sf.row h h0 hf i (by omega)
  have hx : L0[i]? = some L0[i] := List.getElem?_eq_getElem (by omega)
  rcases hr : rsF l a f i with ⟨L,k,b⟩
  rw [hr] at h1 h2 h3
  simp only at h1 h2 h3
  rcases hn : rnF l k b with ⟨n,k',b'⟩
  rw [numsB_cons hx,List.append_assoc] at h3
  obtain ⟨rfl,rfl,h5⟩ := h3.num (h0 _ (List.getElem_mem ..)) h2 hn.symm
  rw [← rsF_succ hr.symm hn.symm]
  refine ⟨?_,rfl,h5⟩
  show L ++ [_] = _
  rw [List.take_add_one,hx,h1]; rfl
theorem Sf.nums {l r L0 L : List Int} {a k : Int} {f b : Bool} (h : Sf l a (numsB L0 ++ r)) (h0 : ∀ x ∈ L0,0 ≤ x ∧ x ≤ 2147483647) (hf : f = false) (he : (L,k,b) = rsF l a f L0.length) : L = L0 ∧ b = false ∧ Sf l k r := by
 obtain ⟨h1,h2,h3⟩ := Sf.row h h0 hf L0.length (Nat.le_refl _)
 rw [← he] at h1 h2 h3
 simp only [List.take_length,List.drop_length] at h1 h2 h3
 exact ⟨h1,h2,h3⟩
theorem rcF_rng {l : List Int} {a m n k : Int} {f b : Bool} (hl : bytesOk l) (hs : l.length ≤ 1099511627776) (ha : a ≤ 1099511627776) (h0 : 0 ≤ m) (h : (n,k,b) = rcF l a f m) : 0 ≤ n ∧ n ≤ m ∧ k ≤ 1099511627776 := by
 have h1 := rnF_rng (f := f) hl hs ha
 unfold rcF at h
 rcases hr : rnF l a f with ⟨n',k',b'⟩
 rw [hr] at h1 h
 simp only at h1 h
 by_cases hc : m < n'
 ·rw [if_pos hc] at h
  injection h with e1 h
  injection h with e2 e3
  rw [e1,e2]
  exact ⟨Int.le_refl _,h0,h1.1⟩
 ·rw [if_neg hc] at h
  injection h with e1 h
  injection h with e2 e3
  rw [e1,e2]
  exact ⟨h1.2.1,by omega,h1.1⟩
theorem rnF_get {l : List Int} {a n k : Int} {f b : Bool} (hl : bytesOk l) (hs : l.length ≤ 1099511627776) (ha : a ≤ 1099511627776) (h : (n,k,b) = rnF l a f) : k ≤ 1099511627776 ∧ 0 ≤ n ∧ n ≤ 2147483647 := by
 have := rnF_rng (f := f) hl hs ha
 rw [← h] at this
 exact this
theorem gnR_live {l : List Int} {a n k : Int} (h : (n,k,true) = gnR l a) : 0 < l.length := by
 cases l with
 | nil =>
  unfold gnR gnAt at h
  split at h
  ·rename_i r hr
   split at hr
   ·cases hr
   ·simp [gnF] at hr
  ·cases h
 | cons x l => exact Nat.succ_pos _
theorem rnF_live {l : List Int} {a n k : Int} {f : Bool} (h : (n,k,false) = rnF l a f) : 0 < l.length := by
 unfold rnF at h
 rcases hg : gnR l a with ⟨n',k',b⟩
 rw [hg] at h
 simp only at h
 split at h
 ·rename_i hc; rw [hc.2] at hg; exact gnR_live hg.symm
 ·injection h with _ h; injection h with _ h; cases h
theorem rcF_live {l : List Int} {a n k m : Int} {f : Bool} (h : (n,k,false) = rcF l a f m) : 0 < l.length := by
 unfold rcF at h
 rcases hg : rnF l a f with ⟨n',k',b⟩
 rw [hg] at h
 simp only at h
 split at h
 ·injection h with _ h; injection h with _ h; cases h
 ·injection h with _ h; injection h with _ h; subst h; exact rnF_live hg.symm
theorem Pr.thenNew {c q : Option Addr} {a b d : St} (h : Pr c a b) (k : Pr q b d) (hn : New a.next q) : Pr c a d := ⟨Nat.le_trans h.1 k.1,fun x hx hc => (k.2 x (Nat.lt_of_lt_of_le hx h.1) fun r hr he => by have := hn r hr; omega).trans (h.2 x hx hc)⟩
abbrev DisR (c : Nat) (p : Option Addr) (l : List Int) : Prop := l = [] ∨ Dis (some ⟨c,0,none⟩) p
theorem Pr.rowsD {c : Nat} {p : Option Addr} {l : List Int} {s s' : St} (h : Pr (some ⟨c,0,none⟩) s s') (hd : DisR c p l) (hR : Rows s 1 fB p l) : Rows s' 1 fB p l := by
 rcases hd with rfl | hd
 ·exact .inl rfl
 ·exact h.rows hd hR
theorem DisR.new {p : Option Addr} {l : List Int} {s : St} (hR : Rows s 1 fB p l) : DisR s.next p l := by
 rcases hR with rfl | ⟨b,off,blk,rfl,_,hb,_⟩
 ·exact .inl rfl
 ·exact .inr fun x y hx hy he => by injection hx with hx; injection hy with hy; subst hx hy; simp only at he; omega
theorem Pc.own.pr {s s' : St} {x : Pc} {q : Option Addr} (h : x.own s) (hP : Pr q s s') (hd : Dis q x.p) : x.own s' := h.keep hP.1 fun r hr => hP.2 _ (h.old r hr) fun t ht he => hd t r ht hr he.symm
theorem Pc.own.pres {s s' : St} {x : Pc} (h : x.own s) (hP : Pres s s') : x.own s' := h.keep hP.1 fun r hr => hP.2 _ (h.old r hr)
theorem ac_impl_nums (c : Nat) (p : Option Addr) (l : List Int) (a : Int) (f : Bool) (m : Int) (st : St) (hO : (rdC c p l a f).own st) (hR : Rows st 1 fB p l) (hd : DisR c p l) (hl : bytesOk l) (hs : l.length ≤ 1099511627776) (ha : a ≤ 1099511627776) (hm0 : 0 ≤ m) (hm : m ≤ 1048576) : C 123 [vP c 0,vI m] st (fun v s => ∃ q n k b L k' b',v = vS q L.length ∧ (n,k,b) = rcF l a f m ∧ (L,k',b') = rsF l k b n.toNat ∧ OwnR s 1 fI q L ∧ New st.next q ∧ (rdC c p l k' b').own s ∧ Pr (some ⟨c,0,none⟩) st s) := by
 have hc0 := (rdC_mem hO).1
 refine AC.enterX (i := ⟨[],[],[0,1,4,5,6,7,12,13,14],[]⟩) [] Try.func123 rfl rfl (by kernel_rfl) (by kernel_rfl) Try.ntmps123 (Lb rfl) rfl ?_
 refine Cu lo0 st [(0,vP c 0),(1,vI m),(4,Sn)] fun _ => ?_
 refine op_nilK (z := 1) (f := fI) rfl rfl rfl rfl (by decide) rfl ?_
 intro q8 s8 hO8 hP8 hN8
 refine Cu lo0 s8 [(0,vP c 0),(1,vI m),(4,Sn),(5,vS q8 0)] fun _ => ?_
 refine ⟨_,rfl,(ac_impl_count c p l a f m s8 (hO.pres hP8) (hP8.rows hR) hl hs ha).mono ?_⟩
 rintro _ s11 ⟨n,k,b,rfl,h11,hO11,hP11⟩
 refine cxs ?_
 refine Cu lo0 s11 [(0,vP c 0),(4,Sn),(5,vS q8 0),(12,vI n),(13,vI 0)] fun _ => ?_
 obtain ⟨hn0,hnm,hk⟩ := rcF_rng hl hs ha hm0 h11
 have hN0 : New st.next q8 := hN8
 have hQ0 : OwnR s11 1 fI q8 [] := hP11.ownR (Dis.of (Old.some hc0) hN0) hO8
 have hP0 : Pr (some ⟨c,0,none⟩) st s11 := hP8.pr.trans hP11
 refine AW.loop0 (fun x : Nat × Option Addr × List Int × Int × Bool => [(0,vP c 0),(4,.slice none 0 0),(5,vS x.2.1 x.2.2.1.length),(12,vI n),(13,vI (x.1 : Int))]) (fun m (x : Nat × Option Addr × List Int × Int × Bool) st' => m = n.toNat - x.1 ∧ (x.1 : Int) ≤ n ∧ (x.2.2.1,x.2.2.2.1,x.2.2.2.2) = rsF l k b x.1 ∧ OwnR st' 1 fI x.2.1 x.2.2.1 ∧ New st.next x.2.1 ∧ (rdC c p l x.2.2.2.1 x.2.2.2.2).own st' ∧ Pr (some ⟨c,0,none⟩) st st') (0,q8,[],k,b) _ ⟨rfl,rfl,rfl,rfl,rfl,trivial⟩ rfl ⟨rfl,hn0,rfl,hQ0,hN0,hO11,hP0⟩ ?_
 rintro m ⟨i,q,L,k',b'⟩ ρ0 st' ⟨rfl,hi,hL,hQ,hN,hO',hP⟩
 simp only at hi hL hQ hN hO' hP
 refine ⟨_,rfl,?_⟩
 rintro (_|_) h14
 ·replace h14 : ¬ ((i : Int) < n) := of_decide_eq_false h14
  refine Cu lo0 st' [(0,vP c 0),(4,Sn),(5,vS q L.length),(12,vI n),(13,vI (i : Int)),(14,vB false)] fun _ => ?_
  refine cxs ?_
  exact cxs (Rt ⟨q,n,k,b,L,k',b',rfl,h11,(by rw [show n.toNat = i by omega]; exact hL),hQ,hN,hO',hP⟩)
 ·replace h14 : (i : Int) < n := of_decide_eq_true h14
  refine Cu lo0 st' [(0,vP c 0),(4,Sn),(5,vS q L.length),(12,vI n),(13,vI (i : Int)),(14,vB true)] fun _ => ?_
  refine cxs ?_
  refine ⟨_,rfl,(ac_impl_num c p l k' b' st' hO' (hP.rowsD hd hR) hl hs (rsF_get hl hs hk hL).2).mono ?_⟩
  rintro _ s16 ⟨n16,k16,b16,rfl,h16,hO16,hP16⟩
  refine Cu lo0 s16 [(0,vP c 0),(4,Sn),(5,vS q L.length),(7,vI n16),(12,vI n),(13,vI (i : Int)),(14,vB true)] fun _ => ?_
  have hQ16 : OwnR s16 1 fI q L := hP16.ownR (Dis.of (Old.some hc0) hN) hQ
  have hlen := (rsF_get hl hs hk hL).1
  refine op_one (z := 1) (a := (n16 : Int)) (f := fI) rfl rfl rfl rfl rfl (by decide) rfl (Lb rfl) rfl rfl rfl ?_
  refine op_snoc (z := 1) (st := s16) (f := fI) (b := 8) (l := L) (x := n16) rfl rfl rfl rfl rfl rfl rfl (by decide) fI_len rfl rfl rfl (by omega) (by unfold maxLen; omega) hQ16 ?_
  intro q20 s20 hO20 hP20 hN20
  refine Cu lo0 s20 [(0,vP c 0),(4,Sn),(5,vS q20 (L ++ [n16]).length),(7,vI n16),(12,vI n),(13,vI (i : Int)),(14,vB true)] fun _ => ?_
  have ew21 : IntKind.wrap .i64 ((i : Int) + (1)) = ((i + 1 : Nat) : Int) := (wrap_i64 (by omega) (by omega)).trans (by omega)
  refine ⟨_,rfl,?_⟩
  exact ⟨(i + 1,q20,L ++ [n16],k16,b16),n.toNat - (i + 1),by omega,⟨rfl,rfl,rfl,rfl,congrArg (Value.int .i64) ew21,trivial⟩,rfl,rfl,by simp only; omega,rsF_succ hL h16,hO20,hN20.le (Nat.le_trans hP.1 hP16.1),hO16.pr hP20 (Dis.of (Old.some hc0) hN).symm,(hP.trans hP16).thenNew hP20 hN⟩
section
variable {P : Program} {ls : List Tmp} {call : ACallT} {o : Oper} {e : Operand → Value} {lo : Lo} {st : St}
theorem op_strW {src dst el : TypeId} {x : Operand} {p : Option Addr} {l : List Int} (ho : o.op = .convert src dst x) (hx : e x = vS p l.length) (hd : telem P dst = none) (hs : tstr P dst = true) (hse : telem P src = some el) (hi : tint P el = some .u8) (hR : Rows st 1 fB p l) (hl : 0 < l.length) :
  aoper P ls call o e lo st = some (.string (toB l),lo,st) := by
 have hp : shO p 1 0 = p := by cases p <;> simp [shO]
 have := op_strS (ls := ls) (call := call) (lo := lo) (e := e) (k := 0) (n := l.length) ho (hx.trans (by rw [hp])) hd hs hse hi hR hl (by omega)
 rw [List.drop_zero,List.take_length] at this
 exact this
end
theorem bsl_toB {l : List Int} (h : bytesOk l) : bsl (toB l) = l := by
 unfold bsl toB
 rw [List.map_map]
 conv => rhs; rw [← List.map_id l]
 refine List.map_congr_left fun x hx => ?_
 have := h x hx
 show ((UInt8.ofNat x.toNat).toNat : Int) = x
 rw [UInt8.toNat_ofNat']
 omega
theorem toB_inj {a b : List Int} (ha : bytesOk a) (hb : bytesOk b) (h : toB a = toB b) : a = b := by rw [← bsl_toB ha,← bsl_toB hb,h]
theorem ac_bytes_Equal (p q : Option Addr) (a b : List Int) (st : St) (hA : Rows st 1 fB p a) (hB : Rows st 1 fB q b) (ha : 0 < a.length) (hb : 0 < b.length) (oa : bytesOk a) (ob : bytesOk b) : C 101 [vS p a.length,vS q b.length] st (fun v s => ∃ x,v = .bool x ∧ (x = true ↔ a = b) ∧ s = st) := by
 refine AC.enterX (i := ⟨[],[],[0,1,4],[]⟩) [] Try.func101 rfl rfl (by kernel_rfl) (by kernel_rfl) Try.ntmps101 (Lb rfl) rfl ?_
 refine Cu lo0 st [(0,vS p a.length),(1,vS q b.length),(4,vB false)] fun _ => ?_
 refine ⟨_,op_strW (l := a) rfl rfl rfl rfl rfl rfl hA ha,?_⟩
 refine ⟨_,op_strW (l := b) rfl rfl rfl rfl rfl rfl hB hb,?_⟩
 refine ⟨_,rfl,?_⟩
 rintro (_|_) h9
 ·replace h9 : ¬ ((toB a) = (toB b)) := str_bne h9
  exact cxs (Rt ⟨false,rfl,⟨fun h => absurd h Bool.false_ne_true,fun h => (show False from (h9 (by rw [h]))).elim⟩,rfl⟩)
 ·replace h9 : (toB a) = (toB b) := beq_bytes.1 h9
  exact cxs (Rt ⟨true,rfl,⟨fun _ => toB_inj oa ob h9,fun _ => rfl⟩,rfl⟩)
open Classical in
noncomputable def parseS (l : List Int) : Sta × Bool := if h : ∃ s,stateOk s ∧ stB s = l then (Classical.choose h,true) else (nilS,false)
theorem parse_ok {u : Sta} {l : List Int} (h1 : stateOk u) (h2 : stB u = l) (h3 : ∀ s,stateOk s → stB s = l → u = s) : (u,true) = parseS l := by
 unfold parseS
 have h : ∃ s,stateOk s ∧ stB s = l := ⟨u,h1,h2⟩
 rw [dif_pos h,← h3 _ (Classical.choose_spec h).1 (Classical.choose_spec h).2]
theorem parse_no {l : List Int} (h : ∀ s,stateOk s → stB s = l → False) : (nilS,false) = parseS l := by
 unfold parseS
 rw [dif_neg (fun ⟨s,h1,h2⟩ => h s h1 h2)]
theorem parse_yes {u : Sta} {l : List Int} (h : (u,true) = parseS l) : stateOk u ∧ stB u = l := by
 unfold parseS at h
 split at h
 ·rename_i hx
  injection h with h _
  rw [h]; exact Classical.choose_spec hx
 ·injection h with _ h; cases h
theorem sta_of {a b : Sta} (h1 : a.items = b.items) (h2 : a.floors = b.floors) : a = b := by
 obtain ⟨ai,af⟩ := a
 obtain ⟨bi,bf⟩ := b
 simp only at h1 h2
 rw [h1,h2]
theorem gtR_rng {l : List Int} {a k : Int} {t : ByteArray} {b : Bool} (hl : bytesOk l) (hs : l.length ≤ 1048576) (h : (t,k,b) = gtR l a) : k ≤ 1099511627776 ∧ t.size ≤ 1048576 ∧ (b = true → 0 < l.length) := by
 unfold gtR at h
 rcases hg : gnR l a with ⟨n',k',b'⟩
 rw [hg] at h
 simp only at h
 split at h
 ·rename_i hc
  obtain ⟨rfl,hc⟩ := hc
  have := gnR_ok hl hg.symm
  injection h with e1 h
  injection h with e2 e3
  rw [e1,e2]
  refine ⟨by omega,?_,fun _ => gnR_live hg.symm⟩
  rw [toB_size,List.length_take,List.length_drop]; omega
 ·injection h with e1 h
  injection h with e2 e3
  rw [e1,e2,e3]
  exact ⟨by decide,by decide,fun h => by cases h⟩
theorem rtF_rng {l : List Int} {a k : Int} {t : ByteArray} {f b : Bool} (hl : bytesOk l) (hs : l.length ≤ 1048576) (ha : a ≤ 1099511627776) (h : (t,k,b) = rtF l a f) : k ≤ 1099511627776 ∧ t.size ≤ 1048576 ∧ (b = false → 0 < l.length) := by
 unfold rtF at h
 rcases hg : gtR l a with ⟨n',k',b'⟩
 have hr := gtR_rng hl hs hg.symm
 rw [hg] at h
 simp only at h
 split at h
 ·rename_i hc
  injection h with e1 h
  injection h with e2 e3
  rw [e1,e2]
  exact ⟨hr.1,hr.2.1,fun _ => hr.2.2 hc.2⟩
 ·injection h with e1 h
  injection h with e2 e3
  rw [e1,e2,e3]
  exact ⟨ha,by decide,fun h => by cases h⟩
theorem flB_cons {L : List Flr} {i : Nat} {x : Flr} (h : L[i]? = some x) : flsB (L.drop i) = putN x.id ++ (putN x.inc ++ flsB (L.drop (i + 1))) := by
 rw [dropCons h,flsB,List.flatMap_cons,flB,List.append_assoc]; rfl
theorem itB_cons {L : List Itm} {i : Nat} {x : Itm} (h : L[i]? = some x) (r : List Int) : itsB (L.drop i) ++ r = putN x.id ++ (putN x.e.inc ++ (putN x.e.rank ++ (putN x.e.beat ++ (putN x.e.ver ++ (putS x.e.data ++ (itsB (L.drop (i + 1)) ++ r)))))) := by
 rw [dropCons h,itsB,List.flatMap_cons,itB]
 simp [numsB,itL,List.append_assoc,itsB]
theorem stB_eq (s : Sta) : stB s = putN (s.items.length : Int) ++ (itsB s.items ++ (putN (s.floors.length : Int) ++ flsB s.floors)) := by
 unfold stB; simp only [List.append_assoc]
theorem stB_pos {s : Sta} (h : stateOk s) : 0 < (stB s).length := by
 have h5 := items_len h
 rw [stB_eq,List.length_append]
 have hp : putN (s.items.length : Int) = vlq (s.items.length : Int).toNat := if_pos ⟨by omega,by omega⟩
 have := vlq_pos (s.items.length : Int).toNat
 rw [hp]; omega
theorem item_rng {s : Sta} (h : stateOk s) {i : Nat} {x : Itm} (hx : s.items[i]? = some x) : (0 ≤ x.id ∧ x.id ≤ 2147483647) ∧ (0 ≤ x.e.inc ∧ x.e.inc ≤ 2147483647) ∧ (0 ≤ x.e.rank ∧ x.e.rank ≤ 2147483647) ∧ (0 ≤ x.e.beat ∧ x.e.beat ≤ 2147483647) ∧ (0 ≤ x.e.ver ∧ x.e.ver ≤ 2147483647) ∧ x.e.data.size ≤ 2147483647 := by
 obtain ⟨h1,⟨h2,h3,h4,h5,h6⟩,_⟩ := h.1 i x hx
 omega
theorem floor_rng {s : Sta} (h : stateOk s) {i : Nat} {x : Flr} (hx : s.floors[i]? = some x) : (0 ≤ x.id ∧ x.id ≤ 2147483647) ∧ (0 ≤ x.inc ∧ x.inc ≤ 2147483647) := by
 obtain ⟨h1,h2,_⟩ := h.2 i x hx
 omega
theorem ac_impl_StateOf (p : Option Addr) (l : List Int) (st : St) (hR : Rows st 1 fB p l) (hl : bytesOk l) (hs : l.length ≤ 1048576) : C 40 [vS p l.length] st (fun v s => ∃ (u : SV) (b : Bool),v = .tuple #[.agg #[vS u.p u.x.items.length,vS u.q u.x.floors.length],vB b] ∧ (u.x,b) = parseS l ∧ OwnP s (pcS u) ∧ NewP st.next (pcS u) ∧ Pres st s) := by
 have hs' : l.length ≤ 1099511627776 := by omega
 refine AC.enterX (i := ⟨[2,5,7,9],[2,5,7,9,22,25,26,29,30,33,34,37,38,41,42,43,48,58,61,62,67],[0,2,3,4,5,6,7,8,9,16,17,18,52,53,54,84],[]⟩) [] Try.func40 rfl rfl (by kernel_rfl) (by kernel_rfl) Try.ntmps40 (Lb rfl) rfl ?_
 refine ⟨_,rfl,?_⟩
 refine Cm 1 st [(0,vS p l.length),Ml 2 0,(3,vB false)] [(2,0,[Sn,Sn])] fun _ _ => ?_
 refine ⟨_,rfl,?_⟩
 refine ⟨_,rfl,?_⟩
 refine Cm 1 (st.push 0 [vS p l.length,vI 0,vB false]) [(0,vS p l.length),Ml 2 0,(3,vB false),(4,vP st.next 0)] [(2,0,[Sn,Sn])] fun _ _ => ?_
 have hO1 : (rdC st.next p l 0 false).own (st.push 0 [vS p l.length,vI 0,vB false]) := .inr ⟨st.next,rfl,Nat.lt_succ_self _,if_pos rfl⟩
 have hP1 : Pres st (st.push 0 [vS p l.length,vI 0,vB false]) := Pres.push
 have hc1 : st.next < (st.push 0 [vS p l.length,vI 0,vB false]).next := Nat.lt_succ_self _
 obtain ⟨s1,hs1⟩ : ∃ s,s = st.push 0 [vS p l.length,vI 0,vB false] := ⟨_,rfl⟩
 rw [← hs1] at hO1 hP1 hc1 ⊢
 have hd := DisR.new hR
 have hR1 := hP1.rows hR
 iterate 2 refine ⟨_,rfl,?_⟩
 refine ⟨_,Os rfl,?_⟩
 refine Cm 2 s1 [(0,vS p l.length),Ml 2 0,(3,vB false),(4,vP st.next 0),Ml 5 1] [(2,0,[Sn,Sn]),(5,1,[Sn,Sn])] fun _ _ => ?_
 refine ⟨_,rfl,(ac_impl_count st.next p l 0 false 5 s1 hO1 hR1 hl hs' (by decide)).mono ?_⟩
 rintro _ s15 ⟨n,k,b,rfl,h15,hO15,hP15⟩
 refine cxs ?_
 obtain ⟨hn0,hn5,hk⟩ := rcF_rng hl hs' (by decide) (by decide) h15
 have hF15 : FrC st.next s1 s15 (pcS ⟨none,none,nilS⟩) := (Frs.nlS.toC (Nat.lt_of_lt_of_le hc1 hP15.1)).sooner (PresC.of.2 hP15) hc1
 have hS0 : ∀ s0,stateOk s0 → stB s0 = l → n = (s0.items.length : Int) ∧ ([] : List Itm) = s0.items.take 0 ∧ b = false ∧ Sf l k (itsB (s0.items.drop 0) ++ (putN (s0.floors.length : Int) ++ flsB s0.floors)) := fun s0 h1 h2 => by
  have h3 : Sf l 0 (putN (s0.items.length : Int) ++ (itsB s0.items ++ (putN (s0.floors.length : Int) ++ flsB s0.floors))) := by rw [← stB_eq,h2]; exact Sf.start l
  have h5 := items_len h1
  obtain ⟨e1,e2,e3⟩ := h3.count (by omega) (by omega) rfl h15
  exact ⟨e1,rfl,e2,e3⟩
 have hlive : b = false → 0 < l.length := fun hb => by subst hb; exact rcF_live h15
 refine Cm 2 s15 [(0,vS p l.length),Ml 2 0,(3,vB false),(4,vP st.next 0),Ml 5 1,(16,vI n),(17,vI 0)] [(2,0,[Sn,Sn]),(5,1,[Sn,Sn])] fun _ _ => ?_
 refine AW.loopM (fun x : Nat × SV × Int × Bool => [(0,vS p l.length),(2,vL 2 0 (0)),(3,vB false),(4,vP st.next 0),(5,vL 5 0 (1)),(16,vI n),(17,vI (x.1 : Int))]) (fun x : Nat × SV × Int × Bool => [(2,0,[.slice none 0 0,.slice none 0 0]),(5,1,[vS x.2.1.p x.2.1.x.items.length,vS x.2.1.q x.2.1.x.floors.length])]) (fun m (x : Nat × SV × Int × Bool) st' => m = n.toNat - x.1 ∧ (x.1 : Int) ≤ n ∧ (x.2.1.x.items.length = x.1 ∧ x.2.1.x.floors = [] ∧ ∀ y ∈ x.2.1.x.items,y.e.data.size ≤ 1048576) ∧ x.2.2.1 ≤ 1099511627776 ∧ (∀ s0,stateOk s0 → stB s0 = l → n = (s0.items.length : Int) ∧ x.2.1.x.items = s0.items.take x.1 ∧ x.2.2.2 = false ∧ Sf l x.2.2.1 (itsB (s0.items.drop x.1) ++ (putN (s0.floors.length : Int) ++ flsB s0.floors))) ∧ (x.2.2.2 = false → 0 < l.length) ∧ FrC st.next s1 st' (pcS x.2.1) ∧ (rdC st.next p l x.2.2.1 x.2.2.2).own st') (0,⟨none,none,nilS⟩,k,b) _ ⟨rfl,rfl,rfl,rfl,rfl,rfl,rfl,trivial⟩ ⟨rfl,rfl,trivial⟩ ⟨rfl,hn0,⟨rfl,rfl,fun y hy => (nomatch hy)⟩,hk,hS0,hlive,hF15,hO15⟩ ?_
 rintro m ⟨i,u,k',b'⟩ ρ0 ff gg st' ⟨rfl,hi,⟨hil,hfl,hds⟩,hk',hS,hlv,hF,hO'⟩
 simp only at hi hil hfl hds hk' hS hlv hF hO'
 have hRl : Rows st' 1 fB p l := (PresC.of.1 hF.2.2.1).rowsD hd hR1
 refine ⟨_,rfl,?_⟩
 rintro (_|_) h18
 ·replace h18 : ¬ ((i : Int) < n) := of_decide_eq_false h18
  refine Cm gg st' [(0,vS p l.length),Ml 2 0,(3,vB false),(4,vP st.next 0),Ml 5 1,(16,vI n),(17,vI (i : Int)),(18,vB false)] [(2,0,[Sn,Sn]),(5,1,cSV u)] fun _ _ => ?_
  refine cxs ?_
  refine ⟨_,rfl,(ac_impl_count st.next p l k' b' 5 st' hO' hRl hl hs' hk').mono ?_⟩
  rintro _ s51 ⟨n6,k7,b7,rfl,h51,hO51,hP51⟩
  refine cxs ?_
  obtain ⟨hm0,hm5,hk51⟩ := rcF_rng hl hs' hk' (by decide) h51
  have hF51 := hF.later (PresC.of.2 hP51)
  have hin : (i : Int) = n := by omega
  have hS1 : ∀ s0,stateOk s0 → stB s0 = l → u.x.items = s0.items ∧ n6 = (s0.floors.length : Int) ∧ u.x.floors = s0.floors.take 0 ∧ b7 = false ∧ Sf l k7 (flsB (s0.floors.drop 0)) := fun s0 g1 g2 => by
   obtain ⟨e1,e2,e3,e4⟩ := hS s0 g1 g2
   rw [List.drop_eq_nil_of_le (by omega)] at e4
   have h5 := marks_len g1.2
   obtain ⟨a1,a2,a3⟩ := Sf.count (r := flsB s0.floors) e4 (by omega) (by omega) e3 h51
   exact ⟨by rw [e2]; exact List.take_of_length_le (by omega),a1,hfl,a2,a3⟩
  have hlive1 : b7 = false → 0 < l.length := fun hb => by subst hb; exact rcF_live h51
  refine Cm gg s51 [(0,vS p l.length),Ml 2 0,(3,vB false),(4,vP st.next 0),Ml 5 1,(52,vI n6),(53,vI 0)] [(2,0,[Sn,Sn]),(5,1,cSV u)] fun _ _ => ?_
  refine AW.loopM (fun x : Nat × SV × Int × Bool => [(0,vS p l.length),(2,vL 2 0 (0)),(3,vB false),(4,vP st.next 0),(5,vL 5 0 (1)),(52,vI n6),(53,vI (x.1 : Int))]) (fun x : Nat × SV × Int × Bool => [(2,0,[.slice none 0 0,.slice none 0 0]),(5,1,[vS x.2.1.p x.2.1.x.items.length,vS x.2.1.q x.2.1.x.floors.length])]) (fun m (x : Nat × SV × Int × Bool) st' => m = n6.toNat - x.1 ∧ (x.1 : Int) ≤ n6 ∧ (x.2.1.x.items = u.x.items ∧ x.2.1.x.floors.length = x.1) ∧ x.2.2.1 ≤ 1099511627776 ∧ (∀ s0,stateOk s0 → stB s0 = l → u.x.items = s0.items ∧ n6 = (s0.floors.length : Int) ∧ x.2.1.x.floors = s0.floors.take x.1 ∧ x.2.2.2 = false ∧ Sf l x.2.2.1 (flsB (s0.floors.drop x.1))) ∧ (x.2.2.2 = false → 0 < l.length) ∧ FrC st.next s1 st' (pcS x.2.1) ∧ (rdC st.next p l x.2.2.1 x.2.2.2).own st') (0,u,k7,b7) _ ⟨rfl,rfl,rfl,rfl,rfl,rfl,rfl,trivial⟩ ⟨rfl,rfl,trivial⟩ ⟨rfl,hm0,⟨rfl,by rw [hfl]; rfl⟩,hk51,hS1,hlive1,hF51,hO51⟩ ?_
  rintro m ⟨j,w,kk,bb⟩ ρ0 ff gg st' ⟨rfl,hj,⟨hwi,hwf⟩,hkk,hT,hlw,hG,hOw⟩
  simp only at hj hwi hwf hkk hT hlw hG hOw
  have hRw : Rows st' 1 fB p l := (PresC.of.1 hG.2.2.1).rowsD hd hR1
  refine ⟨_,rfl,?_⟩
  rintro (_|_) h54
  ·replace h54 : ¬ ((j : Int) < n6) := of_decide_eq_false h54
   refine Cm gg st' [(0,vS p l.length),Ml 2 0,(3,vB false),(4,vP st.next 0),Ml 5 1,(52,vI n6),(53,vI (j : Int)),(54,vB false)] [(2,0,[Sn,Sn]),(5,1,cSV w)] fun _ _ => ?_
   refine cxs ?_
   iterate 2 refine ⟨_,rfl,?_⟩
   have hmem := (rdC_mem hOw).2
   have hbw : bigS w.x := ⟨by unfold szOk; rw [hwi]; omega,by unfold szOk; omega,fun y hy => hds y (by rw [← hwi]; exact hy)⟩
   have hRw' : RdS st' w := hG.1.rdS
   have hT' : ∀ s0,stateOk s0 → stB s0 = l → w.x = s0 ∧ bb = false := fun s0 g1 g2 => by
    obtain ⟨e0,e1,e2,e3,e4⟩ := hT s0 g1 g2
    have hf : w.x.floors = s0.floors := by rw [e2]; exact List.take_of_length_le (by omega)
    have hi' : w.x.items = s0.items := hwi.trans e0
    exact ⟨sta_of hi' hf,e3⟩
   refine ⟨_,op_ld rfl rfl rfl rfl hmem rfl,?_⟩
   rcases bb with _|_
   ·refine ⟨_,Od rfl,?_⟩
    refine ⟨_,rfl,(ac_impl_StateOk w st' hRw' hbw).mono ?_⟩
    rintro _ st' ⟨x75,rfl,h75,rfl⟩
    rcases x75 with _|_
    ·replace h75 := fun k => Bool.false_ne_true (h75.2 k)
     iterate 3 refine ⟨_,rfl,?_⟩
     refine Cm gg st' [Ml 2 0,(3,vB false),Ml 5 1,(84,vB true)] [(2,0,[Sn,Sn]),(5,1,cSV w)] fun _ _ => ?_
     refine ⟨_,rfl,?_⟩
     refine ⟨_,Os rfl,?_⟩
     exact cxs (Rt ⟨⟨none,none,nilS⟩,false,rfl,parse_no (fun s0 g1 g2 => h75 ((hT' s0 g1 g2).1 ▸ g1)),pcS_nil,newS_nil,(hG.out hP1).2.2⟩)
    ·replace h75 := h75.1 rfl
     iterate 2 refine ⟨_,rfl,?_⟩
     refine ⟨_,Od rfl,?_⟩
     refine ⟨_,rfl,(ac_impl_StateBytes w st' hRw' hbw h75).mono ?_⟩
     rintro _ s80 ⟨q80,rfl,hO80,hN80,hP80⟩
     refine ⟨_,rfl,(ac_bytes_Equal q80 p (stB w.x) l s80 (hO80.rows fB_len) (hP80.rows hRw) (stB_pos h75) (hlw rfl) (stB_ok w.x) hl).mono ?_⟩
     rintro _ s80 ⟨x82,rfl,h82,rfl⟩
     rcases x82 with _|_
     ·replace h82 := fun k => Bool.false_ne_true (h82.2 k)
      iterate 2 refine ⟨_,rfl,?_⟩
      refine Cm gg s80 [Ml 2 0,(3,vB false),Ml 5 1,(84,vB true)] [(2,0,[Sn,Sn]),(5,1,cSV w)] fun _ _ => ?_
      refine ⟨_,rfl,?_⟩
      refine ⟨_,Os rfl,?_⟩
      exact cxs (Rt ⟨⟨none,none,nilS⟩,false,rfl,parse_no (fun s0 g1 g2 => h82 ((hT' s0 g1 g2).1 ▸ g2)),pcS_nil,newS_nil,((hG.step hP80).out hP1).2.2⟩)
     ·replace h82 := h82.1 rfl
      iterate 2 refine ⟨_,rfl,?_⟩
      refine Cm gg s80 [Ml 2 0,(3,vB false),Ml 5 1,(84,vB false)] [(2,0,[Sn,Sn]),(5,1,cSV w)] fun _ _ => ?_
      refine cxs ?_
      refine ⟨_,Od rfl,?_⟩
      refine ⟨_,Os rfl,?_⟩
      refine cxs ?_
      have hFin := (hG.step hP80).out hP1
      exact Rt ⟨w,true,rfl,parse_ok h75 h82 (fun s0 g1 g2 => (hT' s0 g1 g2).1),hFin.1,hFin.2.1,hFin.2.2⟩
   ·iterate 2 refine ⟨_,rfl,?_⟩
    refine Cm gg st' [Ml 2 0,(3,vB false),Ml 5 1,(84,vB true)] [(2,0,[Sn,Sn]),(5,1,cSV w)] fun _ _ => ?_
    refine ⟨_,rfl,?_⟩
    refine ⟨_,Os rfl,?_⟩
    exact cxs (Rt ⟨⟨none,none,nilS⟩,false,rfl,parse_no (fun s0 g1 g2 => by cases (hT' s0 g1 g2).2),pcS_nil,newS_nil,(hG.out hP1).2.2⟩)
  ·replace h54 : (j : Int) < n6 := of_decide_eq_true h54
   refine Cm gg st' [(0,vS p l.length),Ml 2 0,(3,vB false),(4,vP st.next 0),Ml 5 1,(52,vI n6),(53,vI (j : Int)),(54,vB true)] [(2,0,[Sn,Sn]),(5,1,cSV w)] fun _ _ => ?_
   refine cxs ?_
   iterate 2 refine ⟨_,rfl,?_⟩
   refine ⟨_,Os rfl,?_⟩
   refine Cm (gg + 1) st' [(0,vS p l.length),Ml 2 0,(3,vB false),(4,vP st.next 0),Ml 5 1,Ml 9 gg,(52,vI n6),(53,vI (j : Int)),(54,vB true)] [(2,0,[Sn,Sn]),(5,1,cSV w),(9,gg,[vI 0,vI 0])] fun _ _ => ?_
   refine ⟨_,rfl,(ac_impl_num st.next p l kk bb st' hOw hRw hl hs' hkk).mono ?_⟩
   rintro _ s57 ⟨n7,k8,b8,rfl,h57,hO57,hP57⟩
   refine ⟨_,rfl,?_⟩
   refine ⟨_,Os rfl,?_⟩
   refine Cm (gg + 1) s57 [(0,vS p l.length),Ml 2 0,(3,vB false),(4,vP st.next 0),Ml 5 1,Ml 9 gg,(52,vI n6),(53,vI (j : Int)),(54,vB true)] [(2,0,[Sn,Sn]),(5,1,cSV w),(9,gg,[vI n7,vI 0])] fun _ _ => ?_
   have hR57 := hP57.rowsD hd hRw
   have hk57 := (rnF_get hl hs' hkk h57).1
   refine ⟨_,rfl,(ac_impl_num st.next p l k8 b8 s57 hO57 hR57 hl hs' hk57).mono ?_⟩
   rintro _ s60 ⟨n8,k9,b9,rfl,h60,hO60,hP60⟩
   refine ⟨_,rfl,?_⟩
   refine ⟨_,Os rfl,?_⟩
   refine Cm (gg + 1) s60 [(0,vS p l.length),Ml 2 0,(3,vB false),(4,vP st.next 0),Ml 5 1,Ml 9 gg,(52,vI n6),(53,vI (j : Int)),(54,vB true)] [(2,0,[Sn,Sn]),(5,1,cSV w),(9,gg,[vI n7,vI n8])] fun _ _ => ?_
   have hG60 := hG.later (PresC.of.2 (hP57.trans hP60))
   have hOf : OwnR s60 2 cFlr w.q w.x.floors := hG60.1.floors
   refine ⟨_,rfl,?_⟩
   refine ⟨_,Od rfl,?_⟩
   refine ⟨_,Od rfl,?_⟩
   refine op_one (z := 2) (a := ((⟨n7,n8⟩ : Flr) : Flr)) (f := cFlr) rfl rfl rfl rfl rfl (by decide) rfl (Lb rfl) rfl rfl rfl ?_
   refine op_snoc (z := 2) (st := s60) (f := cFlr) (b := 16) (l := w.x.floors) (x := (⟨n7,n8⟩ : Flr)) rfl rfl rfl rfl rfl rfl rfl (by decide) len_cFlr rfl rfl rfl (by omega) (by unfold maxLen; omega) hOf ?_
   intro q66 s66 hO66 hP66 hN66
   refine ⟨_,rfl,?_⟩
   refine ⟨_,Os rfl,?_⟩
   refine Cm (gg + 1) s66 [(0,vS p l.length),Ml 2 0,(3,vB false),(4,vP st.next 0),Ml 5 1,Ml 9 gg,(52,vI n6),(53,vI (j : Int)),(54,vB true)] [(2,0,[Sn,Sn]),(5,1,[vS w.p w.x.items.length,vS q66 (w.x.floors ++ [(⟨n7,n8⟩ : Flr)]).length]),(9,gg,[vI n7,vI n8])] fun _ _ => ?_
   have ew68 : IntKind.wrap .i64 ((j : Int) + (1)) = ((j + 1 : Nat) : Int) := (wrap_i64 (by omega) (by omega)).trans (by omega)
   refine ⟨_,rfl,?_⟩
   have hG66 := hG60.floors hP66 hO66 hN66
   have hNf : New s1.next w.q := hG60.2.1 _ (List.mem_cons_of_mem _ (List.mem_cons_self ..))
   refine ⟨(j + 1,⟨w.p,q66,⟨w.x.items,w.x.floors ++ [⟨n7,n8⟩]⟩⟩,k9,b9),n6.toNat - (j + 1),by omega,⟨rfl,rfl,rfl,rfl,rfl,rfl,congrArg (Value.int .i64) ew68,trivial⟩,⟨rfl,rfl,trivial⟩,rfl,by simp only; omega,⟨hwi,by simp only [List.length_append,List.length_singleton,hwf]⟩,(rnF_get hl hs' hk57 h60).1,fun s0 g1 g2 => ?_,fun hb => by subst hb; exact rnF_live h60,hG66.1,hO60.pr hP66 (Dis.of (Old.some hc1) hNf).symm⟩
   obtain ⟨e0,e1,e2,e3,e4⟩ := hT s0 g1 g2
   have hx : s0.floors[j]? = some s0.floors[j] := List.getElem?_eq_getElem (by omega)
   obtain ⟨r1,r2⟩ := floor_rng g1 hx
   rw [flB_cons hx] at e4
   obtain ⟨a1,a2,a3⟩ := e4.num r1 e3 h57
   obtain ⟨c1,c2,c3⟩ := a3.num r2 a2 h60
   refine ⟨e0,e1,?_,c2,c3⟩
   show w.x.floors ++ [_] = _
   rw [List.take_add_one,hx,← e2,a1,c1]; rfl
 ·replace h18 : (i : Int) < n := of_decide_eq_true h18
  refine Cm gg st' [(0,vS p l.length),Ml 2 0,(3,vB false),(4,vP st.next 0),Ml 5 1,(16,vI n),(17,vI (i : Int)),(18,vB true)] [(2,0,[Sn,Sn]),(5,1,cSV u)] fun _ _ => ?_
  refine cxs ?_
  iterate 2 refine ⟨_,rfl,?_⟩
  refine ⟨_,Os rfl,?_⟩
  refine Cm (gg + 1) st' [(0,vS p l.length),Ml 2 0,(3,vB false),(4,vP st.next 0),Ml 5 1,Ml 7 gg,(16,vI n),(17,vI (i : Int)),(18,vB true)] [(2,0,[Sn,Sn]),(5,1,cSV u),(7,gg,[vI 0,vI 0,vI 0,vI 0,vI 0,.string ⟨#[]⟩])] fun _ _ => ?_
  refine ⟨_,rfl,(ac_impl_num st.next p l k' b' st' hO' hRl hl hs' hk').mono ?_⟩
  rintro _ s21 ⟨n1,k1,b1,rfl,h21,hO21,hP21⟩
  refine ⟨_,rfl,?_⟩
  refine ⟨_,Os rfl,?_⟩
  refine Cm (gg + 1) s21 [(0,vS p l.length),Ml 2 0,(3,vB false),(4,vP st.next 0),Ml 5 1,Ml 7 gg,(16,vI n),(17,vI (i : Int)),(18,vB true)] [(2,0,[Sn,Sn]),(5,1,cSV u),(7,gg,[vI n1,vI 0,vI 0,vI 0,vI 0,.string ⟨#[]⟩])] fun _ _ => ?_
  have hR21 := hP21.rowsD hd hRl
  have hk21 := (rnF_get hl hs' hk' h21).1
  refine ⟨_,rfl,(ac_impl_num st.next p l k1 b1 s21 hO21 hR21 hl hs' hk21).mono ?_⟩
  rintro _ s24 ⟨n2,k2,b2,rfl,h24,hO24,hP24⟩
  iterate 2 refine ⟨_,rfl,?_⟩
  refine ⟨_,Os rfl,?_⟩
  refine Cm (gg + 1) s24 [(0,vS p l.length),Ml 2 0,(3,vB false),(4,vP st.next 0),Ml 5 1,Ml 7 gg,(16,vI n),(17,vI (i : Int)),(18,vB true)] [(2,0,[Sn,Sn]),(5,1,cSV u),(7,gg,[vI n1,vI n2,vI 0,vI 0,vI 0,.string ⟨#[]⟩])] fun _ _ => ?_
  have hR24 := hP24.rowsD hd hR21
  have hk24 := (rnF_get hl hs' hk21 h24).1
  refine ⟨_,rfl,(ac_impl_num st.next p l k2 b2 s24 hO24 hR24 hl hs' hk24).mono ?_⟩
  rintro _ s28 ⟨n3,k3,b3,rfl,h28,hO28,hP28⟩
  iterate 2 refine ⟨_,rfl,?_⟩
  refine ⟨_,Os rfl,?_⟩
  refine Cm (gg + 1) s28 [(0,vS p l.length),Ml 2 0,(3,vB false),(4,vP st.next 0),Ml 5 1,Ml 7 gg,(16,vI n),(17,vI (i : Int)),(18,vB true)] [(2,0,[Sn,Sn]),(5,1,cSV u),(7,gg,[vI n1,vI n2,vI n3,vI 0,vI 0,.string ⟨#[]⟩])] fun _ _ => ?_
  have hR28 := hP28.rowsD hd hR24
  have hk28 := (rnF_get hl hs' hk24 h28).1
  refine ⟨_,rfl,(ac_impl_num st.next p l k3 b3 s28 hO28 hR28 hl hs' hk28).mono ?_⟩
  rintro _ s32 ⟨n4,k4,b4,rfl,h32,hO32,hP32⟩
  iterate 2 refine ⟨_,rfl,?_⟩
  refine ⟨_,Os rfl,?_⟩
  refine Cm (gg + 1) s32 [(0,vS p l.length),Ml 2 0,(3,vB false),(4,vP st.next 0),Ml 5 1,Ml 7 gg,(16,vI n),(17,vI (i : Int)),(18,vB true)] [(2,0,[Sn,Sn]),(5,1,cSV u),(7,gg,[vI n1,vI n2,vI n3,vI n4,vI 0,.string ⟨#[]⟩])] fun _ _ => ?_
  have hR32 := hP32.rowsD hd hR28
  have hk32 := (rnF_get hl hs' hk28 h32).1
  refine ⟨_,rfl,(ac_impl_num st.next p l k4 b4 s32 hO32 hR32 hl hs' hk32).mono ?_⟩
  rintro _ s36 ⟨n5,k5,b5,rfl,h36,hO36,hP36⟩
  iterate 2 refine ⟨_,rfl,?_⟩
  refine ⟨_,Os rfl,?_⟩
  refine Cm (gg + 1) s36 [(0,vS p l.length),Ml 2 0,(3,vB false),(4,vP st.next 0),Ml 5 1,Ml 7 gg,(16,vI n),(17,vI (i : Int)),(18,vB true)] [(2,0,[Sn,Sn]),(5,1,cSV u),(7,gg,[vI n1,vI n2,vI n3,vI n4,vI n5,.string ⟨#[]⟩])] fun _ _ => ?_
  have hR36 := hP36.rowsD hd hR32
  have hk36 := (rnF_get hl hs' hk32 h36).1
  refine ⟨_,rfl,(ac_impl_text st.next p l k5 b5 s36 hO36 hR36 hl hs' hk36).mono ?_⟩
  rintro _ s40 ⟨t,k6,b6,rfl,h40,hO40,hP40⟩
  iterate 2 refine ⟨_,rfl,?_⟩
  refine ⟨_,Os rfl,?_⟩
  refine Cm (gg + 1) s40 [(0,vS p l.length),Ml 2 0,(3,vB false),(4,vP st.next 0),Ml 5 1,Ml 7 gg,(16,vI n),(17,vI (i : Int)),(18,vB true)] [(2,0,[Sn,Sn]),(5,1,cSV u),(7,gg,[vI n1,vI n2,vI n3,vI n4,vI n5,.string t])] fun _ _ => ?_
  have hF40 := hF.later (PresC.of.2 (((((hP21.trans hP24).trans hP28).trans hP32).trans hP36).trans hP40))
  have hOi : OwnR s40 6 cItm u.p u.x.items := hF40.1.items
  obtain ⟨hk40,ht40,hl40⟩ := rtF_rng hl hs hk36 h40
  refine ⟨_,rfl,?_⟩
  refine ⟨_,Od rfl,?_⟩
  refine ⟨_,Od rfl,?_⟩
  refine op_one (z := 6) (a := ((⟨n1,⟨n2,n3,n4,n5,t⟩⟩ : Itm) : Itm)) (f := cItm) rfl rfl rfl rfl rfl (by decide) rfl (Lb rfl) rfl rfl rfl ?_
  refine op_snoc (z := 6) (st := s40) (f := cItm) (b := 56) (l := u.x.items) (x := (⟨n1,⟨n2,n3,n4,n5,t⟩⟩ : Itm)) rfl rfl rfl rfl rfl rfl rfl (by decide) len_cItm rfl rfl rfl (by omega) (by unfold maxLen; omega) hOi ?_
  intro q47 s47 hO47 hP47 hN47
  refine ⟨_,rfl,?_⟩
  refine ⟨_,Os rfl,?_⟩
  refine Cm (gg + 1) s47 [(0,vS p l.length),Ml 2 0,(3,vB false),(4,vP st.next 0),Ml 5 1,Ml 7 gg,(16,vI n),(17,vI (i : Int)),(18,vB true)] [(2,0,[Sn,Sn]),(5,1,[vS q47 (u.x.items ++ [(⟨n1,⟨n2,n3,n4,n5,t⟩⟩ : Itm)]).length,vS u.q u.x.floors.length]),(7,gg,[vI n1,vI n2,vI n3,vI n4,vI n5,.string t])] fun _ _ => ?_
  have ew49 : IntKind.wrap .i64 ((i : Int) + (1)) = ((i + 1 : Nat) : Int) := (wrap_i64 (by omega) (by omega)).trans (by omega)
  refine ⟨_,rfl,?_⟩
  have hF47 := hF40.items hP47 hO47 hN47
  have hNi : New s1.next u.p := hF40.2.1 _ (List.mem_cons_self ..)
  refine ⟨(i + 1,⟨q47,u.q,⟨u.x.items ++ [⟨n1,⟨n2,n3,n4,n5,t⟩⟩],u.x.floors⟩⟩,k6,b6),n.toNat - (i + 1),by omega,⟨rfl,rfl,rfl,rfl,rfl,rfl,congrArg (Value.int .i64) ew49,trivial⟩,⟨rfl,rfl,trivial⟩,rfl,by simp only; omega,⟨by simp only [List.length_append,List.length_singleton,hil],hfl,fun y hy => ?_⟩,hk40,fun s0 g1 g2 => ?_,hl40,hF47.1,hO40.pr hP47 (Dis.of (Old.some hc1) hNi).symm⟩
  ·rcases List.mem_append.1 hy with hy | hy
   ·exact hds y hy
   ·rw [List.mem_singleton.1 hy]; exact ht40
  ·obtain ⟨e1,e2,e3,e4⟩ := hS s0 g1 g2
   have hx : s0.items[i]? = some s0.items[i] := List.getElem?_eq_getElem (by omega)
   obtain ⟨r1,r2,r3,r4,r5,r6⟩ := item_rng g1 hx
   rw [itB_cons hx] at e4
   obtain ⟨a1,a2,a3⟩ := e4.num r1 e3 h21
   obtain ⟨b1',b2',b3'⟩ := a3.num r2 a2 h24
   obtain ⟨c1,c2,c3⟩ := b3'.num r3 b2' h28
   obtain ⟨d1,d2,d3⟩ := c3.num r4 c2 h32
   obtain ⟨f1,f2,f3⟩ := d3.num r5 d2 h36
   obtain ⟨m1,m2,m3⟩ := f3.text r6 f2 h40
   refine ⟨e1,?_,m2,m3⟩
   show u.x.items ++ [_] = _
   rw [List.take_add_one,hx,← e2,a1,b1',c1,d1,f1,m1]; rfl
end Go.Proofs.Yteabadoaeadcgaa.AM
