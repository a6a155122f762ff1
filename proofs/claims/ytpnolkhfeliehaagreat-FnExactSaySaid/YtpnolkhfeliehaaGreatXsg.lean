/- Part 7 of the texts on which the law's proof rests. -/
import Derived.Test.YtpnolkhfeliehaaGreatXsf
namespace Go.Proofs.YtpnolkhfeliehaaGreat.AM
open Go Go.Proofs
set_option linter.unusedVariables false
set_option linter.unusedSimpArgs false
set_option maxRecDepth 100000
set_option maxHeartbeats 4000000
noncomputable abbrev pruneG (s : Sta) (t : List (List Int)) (id : Int) : Int := min (common t id) (goneAt s id)
open Classical in
noncomputable def pruneF (s : Sta) (t : List (List Int)) : Sta := if stateOk s then joinF s ⟨[],marksF (pruneG s t) 5⟩ 5 else s
theorem goneAt_le {s : Sta} (h : stateOk s) (id : Int) : 0 ≤ goneAt s id ∧ goneAt s id ≤ 1000 := by
 rw [goneAt,if_pos h]
 rcases hb : entP s.items id with ⟨e,b⟩
 cases b with
 | false => simpa using floorOf_pos h.2 id
 | true =>
  have he := (ent_ok h hb.symm).1
  simp only [if_true]
  split <;> omega
theorem marksOk_F {g : Int → Int} (h : ∀ i,g i ≤ 1000) : marksOk (marksF g 5) := by
 intro j x hx
 have hx' : ((List.range 5).filterMap fun (j : Nat) => if g (j : Int) > 0 then some (⟨(j : Int),g (j : Int)⟩ : Flr) else none)[j]? = some x := hx
 obtain ⟨k,hk,hf⟩ := pick_get hx'
 split at hf
 ·rename_i hp
  injection hf with hf
  have h1 := h (k : Int)
  rw [← hf]
  refine ⟨⟨by simp only; omega,by simp only; omega⟩,⟨by simp only; omega,h1⟩,fun y h0 hy => ?_⟩
  have := pick_lt (id := Flr.id) (fun j x hx => by
   split at hx
   ·injection hx with hx; rw [← hx]
   ·cases hx) hx' h0 hy
  rw [← hf] at this
  exact this
 ·cases hf
theorem big_floors {l : List Flr} (h : l.length ≤ 5) : bigS ⟨[],l⟩ := ⟨Nat.zero_le _,by show l.length ≤ 1048576; omega,fun x hx => (nomatch hx)⟩
theorem stateOk_floors {l : List Flr} (h : marksOk l) : stateOk ⟨[],l⟩ := ⟨fun j x hx => (nomatch hx),h⟩
theorem ac_spec_l1Min (a b : Int) (st : St) : C 210 [vI a,vI b] st (fun v s => v = vI (min a b) ∧ s = st) := by
 refine AC.enterX (i := ⟨[],[],[0,1,4,7],[]⟩) [] Tryz.func210 rfl rfl (by kernel_rfl) (by kernel_rfl) Tryz.ntmps210 (Lb rfl) rfl ?_
 refine Cu lo0 st [(0,vI a),(1,vI b),(4,vI 0)] fun _ => ?_
 refine ⟨_,rfl,?_⟩
 rintro (_|_) h7
 ·replace h7 : ¬ (a < b) := of_decide_eq_false h7
  refine Cu lo0 st [(0,vI a),(1,vI b),(4,vI 0),(7,vB false)] fun _ => ?_
  refine cxs ?_
  exact cxs (Rt ⟨congrArg vI (by omega),rfl⟩)
 ·replace h7 : a < b := of_decide_eq_true h7
  refine Cu lo0 st [(0,vI a),(1,vI b),(4,vI 0),(7,vB true)] fun _ => ?_
  exact cxs (Rt ⟨congrArg vI (by omega),rfl⟩)
theorem ac_impl_Prune (s : SV) (p : Option Addr) (t : List RV) (st : St) (hR : RdS st s) (hT : RdT st p t) (hb : bigS s.x) (hs : szOk t.length) (hr : ∀ r ∈ t,szOk r.l.length) : C 53 [.agg #[vS s.p s.x.items.length,vS s.q s.x.floors.length],vS p t.length] st (fun v s' => ∃ u : SV,v = .agg #[vS u.p u.x.items.length,vS u.q u.x.floors.length] ∧ u.x = pruneF s.x (rls t) ∧ OwnP s' (pcS u) ∧ NewP st.next (pcS u) ∧ Pres st s') := by
 refine AC.enterX (i := ⟨[2,4,5],[2,4,5,27,34],[0,1,2,4,5,6,7,10,15,26],[]⟩) [(7,[2],[3])] Tryz.func53 rfl rfl (by kernel_rfl) (by kernel_rfl) Tryz.ntmps53 (Lb rfl) rfl ?_
 iterate 2 refine ⟨_,rfl,?_⟩
 refine Cm 2 st [(1,vS p t.length),Ml 2 0,Ml 4 1] [(2,0,cSV s),(4,1,[Sn,Sn])] fun _ _ => ?_
 refine ⟨_,Od rfl,?_⟩
 refine ⟨_,rfl,(ac_impl_StateOk s st hR (by first | assumption | omega)).mono ?_⟩
 rintro _ st ⟨x9,rfl,h9,rfl⟩
 rcases x9 with _|_
 ·replace h9 := fun k => Bool.false_ne_true (h9.2 k)
  refine ⟨_,rfl,?_⟩
  refine Cm 2 st [(1,vS p t.length),Ml 2 0,Ml 4 1,(10,vB true)] [(2,0,cSV s),(4,1,[Sn,Sn])] fun _ _ => ?_
  refine ⟨_,Od rfl,?_⟩
  refine ⟨_,rfl,(ac_impl_copyState s st hR (by first | assumption | omega)).mono ?_⟩
  rintro _ s12 ⟨u12,rfl,h12,hO12,hN12,hP12⟩
  refine ⟨_,Os rfl,?_⟩
  exact cxs (Rt ⟨u12,rfl,h12.trans (by rw [pruneF,if_neg h9]),hO12,hN12,hP12⟩)
 ·replace h9 := h9.1 rfl
  refine ⟨_,rfl,?_⟩
  refine Cm 2 st [(1,vS p t.length),Ml 2 0,Ml 4 1,(10,vB false)] [(2,0,cSV s),(4,1,[Sn,Sn])] fun _ _ => ?_
  refine cxs ?_
  iterate 2 refine ⟨_,rfl,?_⟩
  refine ⟨_,Os rfl,?_⟩
  refine cxs ?_
  refine Cm 3 st [(1,vS p t.length),Ml 2 0,Ml 4 1,Ml 5 2,(6,vI 0)] [(2,0,cSV s),(4,1,[Sn,Sn]),(5,2,[Sn,Sn])] fun _ _ => ?_
  refine AW.loopM (fun x : Nat × Option Addr => [(1,vS p t.length),(2,vL 2 0 (0)),(4,vL 4 0 (1)),(5,vL 5 0 (2)),(6,vI (x.1 : Int))]) (fun x : Nat × Option Addr => [(2,0,[vS s.p s.x.items.length,vS s.q s.x.floors.length]),(4,1,[.slice none 0 0,.slice none 0 0]),(5,2,[.slice none 0 0,vS x.2 (marksF (pruneG s.x (rls t)) x.1).length])]) (fun m (x : Nat × Option Addr) st' => m = 5 - x.1 ∧ x.1 ≤ 5 ∧ OwnR st' 2 cFlr x.2 (marksF (pruneG s.x (rls t)) x.1) ∧ New st.next x.2 ∧ Pres st st') (0,none) _ ⟨rfl,rfl,rfl,rfl,rfl,trivial⟩ ⟨rfl,rfl,rfl,trivial⟩ ⟨rfl,Nat.zero_le _,OwnR.nil,New.none,Pres.refl _⟩ ?_
  rintro m ⟨i,q⟩ ρ0 ff gg st' ⟨rfl,hi,hO,hN,hP⟩
  simp only at hi hO hN
  have hml := marksF_len (pruneG s.x (rls t)) i
  have hm := marksF_succ (pruneG s.x (rls t)) i
  refine ⟨_,rfl,?_⟩
  rintro (_|_) h15
  ·replace h15 : ¬ ((i : Int) < (5)) := of_decide_eq_false h15
   refine Cm gg st' [(1,vS p t.length),Ml 2 0,Ml 4 1,Ml 5 2,(6,vI (i : Int)),(15,vB false)] [(2,0,cSV s),(4,1,[Sn,Sn]),(5,2,[Sn,vS q (marksF (pruneG s.x (rls t)) i).length])] fun _ _ => ?_
   have hil : i = 5 := by omega
   subst hil
   refine cxs ?_
   refine ⟨_,Od rfl,?_⟩
   refine ⟨_,Od rfl,?_⟩
   refine ⟨_,rfl,(ac_impl_stateJoin s ⟨none,q,⟨[],marksF (pruneG s.x (rls t)) 5⟩⟩ st' (hR.pres hP) ⟨Rows.nil,hO.rows len_cFlr⟩ hb (big_floors hml)).mono ?_⟩
   rintro _ s37 ⟨u,rfl,hu,hO37,hN37,hP37⟩
   refine ⟨_,Os rfl,?_⟩
   exact cxs (Rt ⟨u,rfl,by rw [hu,pruneF,if_pos h9],hO37,hN37.le hP.1,hP.trans hP37⟩)
  ·replace h15 : (i : Int) < (5) := of_decide_eq_true h15
   refine Cm gg st' [(1,vS p t.length),Ml 2 0,Ml 4 1,Ml 5 2,(6,vI (i : Int)),(15,vB true)] [(2,0,cSV s),(4,1,[Sn,Sn]),(5,2,[Sn,vS q (marksF (pruneG s.x (rls t)) i).length])] fun _ _ => ?_
   refine cxs ?_
   refine ⟨_,rfl,(ac_impl_Common p t (i : Int) st' (hT.pres hP) (by first | assumption | omega) (by first | assumption | omega)).mono ?_⟩
   rintro _ st' ⟨rfl,rfl⟩
   refine ⟨fun _ _ => rfl,?_⟩
   refine ⟨_,Od rfl,?_⟩
   refine ⟨ld_own rfl rfl rfl,?_⟩
   refine ⟨_,rfl,(ac_impl_GoneAt s (i : Int) st' (hR.pres hP) (by first | assumption | omega)).mono ?_⟩
   rintro _ st' ⟨rfl,rfl⟩
   refine ⟨.int .i64 (min (common (rls t) (i : Int)) (goneAt s.x (i : Int))),ammL_min _ _,?_⟩
   refine Cm gg st' [(1,vS p t.length),Ml 2 0,Ml 4 1,Ml 5 2,(6,vI (i : Int)),(7,vI (min (common (rls t) (i : Int)) (goneAt s.x (i : Int)))),(15,vB true)] [(2,0,cSV s),(4,1,[Sn,Sn]),(5,2,[Sn,vS q (marksF (pruneG s.x (rls t)) i).length])] fun _ _ => ?_
   refine ⟨_,rfl,?_⟩
   rintro (_|_) h26
   ·replace h26 : ¬ ((min (common (rls t) (i : Int)) (goneAt s.x (i : Int))) > (0)) := of_decide_eq_false h26
    refine Cm gg st' [(1,vS p t.length),Ml 2 0,Ml 4 1,Ml 5 2,(6,vI (i : Int)),(7,vI (min (common (rls t) (i : Int)) (goneAt s.x (i : Int)))),(15,vB true),(26,vB false)] [(2,0,cSV s),(4,1,[Sn,Sn]),(5,2,[Sn,vS q (marksF (pruneG s.x (rls t)) i).length])] fun _ _ => ?_
    refine cxs ?_
    have ew17 : IntKind.wrap .i64 ((i : Int) + (1)) = ((i + 1 : Nat) : Int) := (wrap_i64 (by omega) (by omega)).trans (by omega)
    refine ⟨_,rfl,?_⟩
    rw [if_neg h26] at hm
    exact ⟨(i + 1,q),5 - (i + 1),by omega,⟨rfl,rfl,rfl,rfl,congrArg (Value.int .i64) ew17,trivial⟩,⟨rfl,rfl,(show some (2,[.slice none 0 0,vS q (marksF (pruneG s.x (rls t)) i).length]) = some (2,[.slice none 0 0,vS q (marksF (pruneG s.x (rls t)) (i + 1)).length]) by rw [hm]),trivial⟩,rfl,by omega,by rw [hm]; exact hO,hN,hP⟩
   ·replace h26 : (min (common (rls t) (i : Int)) (goneAt s.x (i : Int))) > (0) := of_decide_eq_true h26
    refine Cm gg st' [(1,vS p t.length),Ml 2 0,Ml 4 1,Ml 5 2,(6,vI (i : Int)),(7,vI (min (common (rls t) (i : Int)) (goneAt s.x (i : Int)))),(15,vB true),(26,vB true)] [(2,0,cSV s),(4,1,[Sn,Sn]),(5,2,[Sn,vS q (marksF (pruneG s.x (rls t)) i).length])] fun _ _ => ?_
    refine ⟨_,rfl,?_⟩
    refine ⟨_,Od rfl,?_⟩
    refine ⟨_,rfl,?_⟩
    refine op_one (z := 2) (a := (⟨(i : Int),pruneG s.x (rls t) i⟩ : Flr)) (f := cFlr) rfl rfl rfl rfl rfl (by decide) rfl (Lb rfl) rfl rfl rfl ?_
    refine op_add (z := 2) (st := st') (f := cFlr) (b := 16) (l := marksF (pruneG s.x (rls t)) i) rfl rfl rfl rfl rfl rfl rfl (by decide) len_cFlr rfl rfl rfl (by omega) (by unfold maxLen; omega) hO ?_
    intro q33 s33 hO33 hP33 hN33
    refine ⟨_,rfl,?_⟩
    refine ⟨_,Os rfl,?_⟩
    refine Cm gg s33 [(1,vS p t.length),Ml 2 0,Ml 4 1,Ml 5 2,(6,vI (i : Int)),(7,vI (min (common (rls t) (i : Int)) (goneAt s.x (i : Int)))),(15,vB true),(26,vB true)] [(2,0,cSV s),(4,1,[Sn,Sn]),(5,2,[Sn,vS q33 ((marksF (pruneG s.x (rls t)) i).length + 1)])] fun _ _ => ?_
    have ew17 : IntKind.wrap .i64 ((i : Int) + (1)) = ((i + 1 : Nat) : Int) := (wrap_i64 (by omega) (by omega)).trans (by omega)
    refine ⟨_,rfl,?_⟩
    rw [if_pos h26] at hm
    exact ⟨(i + 1,q33),5 - (i + 1),by omega,⟨rfl,rfl,rfl,rfl,congrArg (Value.int .i64) ew17,trivial⟩,⟨rfl,rfl,(show some (2,[.slice none 0 0,vS q33 ((marksF (pruneG s.x (rls t)) i).length + 1)]) = some (2,[.slice none 0 0,vS q33 (marksF (pruneG s.x (rls t)) (i + 1)).length]) by rw [hm,List.length_append]; rfl),trivial⟩,rfl,by omega,by rw [hm]; exact hO33,hN33.le hP.1,hP33.pres hP hN⟩
theorem ac_spec_Prune (s : SV) (p : Option Addr) (t : List RV) (st : St) (hR : RdS st s) (hT : RdT st p t) (hb : bigS s.x) (hs : szOk t.length) (hr : ∀ r ∈ t,szOk r.l.length) : C 163 [.agg #[vS s.p s.x.items.length,vS s.q s.x.floors.length],vS p t.length] st (fun v s' => ∃ u : SV,v = .agg #[vS u.p u.x.items.length,vS u.q u.x.floors.length] ∧ u.x = pruneF s.x (rls t) ∧ OwnP s' (pcS u) ∧ NewP st.next (pcS u) ∧ Pres st s') := by
 refine AC.enterX (i := ⟨[2,4,5],[2,4,5,27,34],[0,1,2,4,5,6,7,10,15,26],[]⟩) [(7,[2],[3])] Tryz.func163 rfl rfl (by kernel_rfl) (by kernel_rfl) Tryz.ntmps163 (Lb rfl) rfl ?_
 iterate 2 refine ⟨_,rfl,?_⟩
 refine Cm 2 st [(1,vS p t.length),Ml 2 0,Ml 4 1] [(2,0,cSV s),(4,1,[Sn,Sn])] fun _ _ => ?_
 refine ⟨_,Od rfl,?_⟩
 refine ⟨_,rfl,(ac_spec_StateOk s st hR (by first | assumption | omega)).mono ?_⟩
 rintro _ st ⟨x9,rfl,h9,rfl⟩
 rcases x9 with _|_
 ·replace h9 := fun k => Bool.false_ne_true (h9.2 k)
  refine ⟨_,rfl,?_⟩
  refine Cm 2 st [(1,vS p t.length),Ml 2 0,Ml 4 1,(10,vB true)] [(2,0,cSV s),(4,1,[Sn,Sn])] fun _ _ => ?_
  refine ⟨_,Od rfl,?_⟩
  refine ⟨_,rfl,(ac_spec_l3Copy s st hR (by first | assumption | omega)).mono ?_⟩
  rintro _ s12 ⟨u12,rfl,h12,hO12,hN12,hP12⟩
  refine ⟨_,Os rfl,?_⟩
  exact cxs (Rt ⟨u12,rfl,h12.trans (by rw [pruneF,if_neg h9]),hO12,hN12,hP12⟩)
 ·replace h9 := h9.1 rfl
  refine ⟨_,rfl,?_⟩
  refine Cm 2 st [(1,vS p t.length),Ml 2 0,Ml 4 1,(10,vB false)] [(2,0,cSV s),(4,1,[Sn,Sn])] fun _ _ => ?_
  refine cxs ?_
  iterate 2 refine ⟨_,rfl,?_⟩
  refine ⟨_,Os rfl,?_⟩
  refine cxs ?_
  refine Cm 3 st [(1,vS p t.length),Ml 2 0,Ml 4 1,Ml 5 2,(6,vI 0)] [(2,0,cSV s),(4,1,[Sn,Sn]),(5,2,[Sn,Sn])] fun _ _ => ?_
  refine AW.loopM (fun x : Nat × Option Addr => [(1,vS p t.length),(2,vL 2 0 (0)),(4,vL 4 0 (1)),(5,vL 5 0 (2)),(6,vI (x.1 : Int))]) (fun x : Nat × Option Addr => [(2,0,[vS s.p s.x.items.length,vS s.q s.x.floors.length]),(4,1,[.slice none 0 0,.slice none 0 0]),(5,2,[.slice none 0 0,vS x.2 (marksF (pruneG s.x (rls t)) x.1).length])]) (fun m (x : Nat × Option Addr) st' => m = 5 - x.1 ∧ x.1 ≤ 5 ∧ OwnR st' 2 cFlr x.2 (marksF (pruneG s.x (rls t)) x.1) ∧ New st.next x.2 ∧ Pres st st') (0,none) _ ⟨rfl,rfl,rfl,rfl,rfl,trivial⟩ ⟨rfl,rfl,rfl,trivial⟩ ⟨rfl,Nat.zero_le _,OwnR.nil,New.none,Pres.refl _⟩ ?_
  rintro m ⟨i,q⟩ ρ0 ff gg st' ⟨rfl,hi,hO,hN,hP⟩
  simp only at hi hO hN
  have hml := marksF_len (pruneG s.x (rls t)) i
  have hm := marksF_succ (pruneG s.x (rls t)) i
  refine ⟨_,rfl,?_⟩
  rintro (_|_) h15
  ·replace h15 : ¬ ((i : Int) < (5)) := of_decide_eq_false h15
   refine Cm gg st' [(1,vS p t.length),Ml 2 0,Ml 4 1,Ml 5 2,(6,vI (i : Int)),(15,vB false)] [(2,0,cSV s),(4,1,[Sn,Sn]),(5,2,[Sn,vS q (marksF (pruneG s.x (rls t)) i).length])] fun _ _ => ?_
   have hil : i = 5 := by omega
   subst hil
   refine cxs ?_
   refine ⟨_,Od rfl,?_⟩
   refine ⟨_,Od rfl,?_⟩
   refine ⟨_,rfl,(ac_spec_l3Join s ⟨none,q,⟨[],marksF (pruneG s.x (rls t)) 5⟩⟩ st' (hR.pres hP) ⟨Rows.nil,hO.rows len_cFlr⟩ hb (big_floors hml) h9 (stateOk_floors (marksOk_F fun i => by have := goneAt_le h9 i; unfold pruneG; omega))).mono ?_⟩
   rintro _ s37 ⟨u,rfl,hu,hO37,hN37,hP37⟩
   refine ⟨_,Os rfl,?_⟩
   exact cxs (Rt ⟨u,rfl,by rw [hu,pruneF,if_pos h9],hO37,hN37.le hP.1,hP.trans hP37⟩)
  ·replace h15 : (i : Int) < (5) := of_decide_eq_true h15
   refine Cm gg st' [(1,vS p t.length),Ml 2 0,Ml 4 1,Ml 5 2,(6,vI (i : Int)),(15,vB true)] [(2,0,cSV s),(4,1,[Sn,Sn]),(5,2,[Sn,vS q (marksF (pruneG s.x (rls t)) i).length])] fun _ _ => ?_
   refine cxs ?_
   refine ⟨_,rfl,(ac_spec_Common p t (i : Int) st' (hT.pres hP) (by first | assumption | omega) (by first | assumption | omega)).mono ?_⟩
   rintro _ st' ⟨rfl,rfl⟩
   refine ⟨fun _ _ => rfl,?_⟩
   refine ⟨_,Od rfl,?_⟩
   refine ⟨ld_own rfl rfl rfl,?_⟩
   refine ⟨_,rfl,(ac_spec_GoneAt s (i : Int) st' (hR.pres hP) (by first | assumption | omega)).mono ?_⟩
   rintro _ st' ⟨rfl,rfl⟩
   refine ⟨_,rfl,(ac_spec_l1Min (common (rls t) (i : Int)) (goneAt s.x (i : Int)) st').mono ?_⟩
   rintro _ st' ⟨rfl,rfl⟩
   refine Cm gg st' [(1,vS p t.length),Ml 2 0,Ml 4 1,Ml 5 2,(6,vI (i : Int)),(7,vI (min (common (rls t) (i : Int)) (goneAt s.x (i : Int)))),(15,vB true)] [(2,0,cSV s),(4,1,[Sn,Sn]),(5,2,[Sn,vS q (marksF (pruneG s.x (rls t)) i).length])] fun _ _ => ?_
   refine ⟨_,rfl,?_⟩
   rintro (_|_) h26
   ·replace h26 : ¬ ((min (common (rls t) (i : Int)) (goneAt s.x (i : Int))) > (0)) := of_decide_eq_false h26
    refine Cm gg st' [(1,vS p t.length),Ml 2 0,Ml 4 1,Ml 5 2,(6,vI (i : Int)),(7,vI (min (common (rls t) (i : Int)) (goneAt s.x (i : Int)))),(15,vB true),(26,vB false)] [(2,0,cSV s),(4,1,[Sn,Sn]),(5,2,[Sn,vS q (marksF (pruneG s.x (rls t)) i).length])] fun _ _ => ?_
    refine cxs ?_
    have ew17 : IntKind.wrap .i64 ((i : Int) + (1)) = ((i + 1 : Nat) : Int) := (wrap_i64 (by omega) (by omega)).trans (by omega)
    refine ⟨_,rfl,?_⟩
    rw [if_neg h26] at hm
    exact ⟨(i + 1,q),5 - (i + 1),by omega,⟨rfl,rfl,rfl,rfl,congrArg (Value.int .i64) ew17,trivial⟩,⟨rfl,rfl,(show some (2,[.slice none 0 0,vS q (marksF (pruneG s.x (rls t)) i).length]) = some (2,[.slice none 0 0,vS q (marksF (pruneG s.x (rls t)) (i + 1)).length]) by rw [hm]),trivial⟩,rfl,by omega,by rw [hm]; exact hO,hN,hP⟩
   ·replace h26 : (min (common (rls t) (i : Int)) (goneAt s.x (i : Int))) > (0) := of_decide_eq_true h26
    refine Cm gg st' [(1,vS p t.length),Ml 2 0,Ml 4 1,Ml 5 2,(6,vI (i : Int)),(7,vI (min (common (rls t) (i : Int)) (goneAt s.x (i : Int)))),(15,vB true),(26,vB true)] [(2,0,cSV s),(4,1,[Sn,Sn]),(5,2,[Sn,vS q (marksF (pruneG s.x (rls t)) i).length])] fun _ _ => ?_
    refine ⟨_,rfl,?_⟩
    refine ⟨_,Od rfl,?_⟩
    refine ⟨_,rfl,?_⟩
    refine op_one (z := 2) (a := (⟨(i : Int),pruneG s.x (rls t) i⟩ : Flr)) (f := cFlr) rfl rfl rfl rfl rfl (by decide) rfl (Lb rfl) rfl rfl rfl ?_
    refine op_add (z := 2) (st := st') (f := cFlr) (b := 16) (l := marksF (pruneG s.x (rls t)) i) rfl rfl rfl rfl rfl rfl rfl (by decide) len_cFlr rfl rfl rfl (by omega) (by unfold maxLen; omega) hO ?_
    intro q33 s33 hO33 hP33 hN33
    refine ⟨_,rfl,?_⟩
    refine ⟨_,Os rfl,?_⟩
    refine Cm gg s33 [(1,vS p t.length),Ml 2 0,Ml 4 1,Ml 5 2,(6,vI (i : Int)),(7,vI (min (common (rls t) (i : Int)) (goneAt s.x (i : Int)))),(15,vB true),(26,vB true)] [(2,0,cSV s),(4,1,[Sn,Sn]),(5,2,[Sn,vS q33 ((marksF (pruneG s.x (rls t)) i).length + 1)])] fun _ _ => ?_
    have ew17 : IntKind.wrap .i64 ((i : Int) + (1)) = ((i + 1 : Nat) : Int) := (wrap_i64 (by omega) (by omega)).trans (by omega)
    refine ⟨_,rfl,?_⟩
    rw [if_pos h26] at hm
    exact ⟨(i + 1,q33),5 - (i + 1),by omega,⟨rfl,rfl,rfl,rfl,congrArg (Value.int .i64) ew17,trivial⟩,⟨rfl,rfl,(show some (2,[.slice none 0 0,vS q33 ((marksF (pruneG s.x (rls t)) i).length + 1)]) = some (2,[.slice none 0 0,vS q33 (marksF (pruneG s.x (rls t)) (i + 1)).length]) by rw [hm,List.length_append]; rfl),trivial⟩,rfl,by omega,by rw [hm]; exact hO33,hN33.le hP.1,hP33.pres hP hN⟩
theorem entP_sz {l : List Itm} (h : ∀ x ∈ l,szOk x.e.data.size) (id : Int) : szOk (entP l id).1.data.size := by
 induction l with
 | nil => exact Nat.zero_le _
 | cons x l ih =>
  rw [entP]
  split
  ·exact h x (List.mem_cons_self ..)
  ·exact ih fun y hy => h y (List.mem_cons_of_mem _ hy)
theorem bigS_join {a b : Sta} (ha : bigS a) (hb : bigS b) : bigS (joinF a b 5) := by
 have hl := joinF_len a b 5
 refine ⟨by unfold szOk; omega,by unfold szOk; omega,fun x hx => ?_⟩
 have hx : x ∈ (List.range 5).filterMap fun (j : Nat) => if (topE a b (j : Int)).inc > topF a b (j : Int) then some (⟨(j : Int),topE a b (j : Int)⟩ : Itm) else none := hx
 obtain ⟨j,_,hj⟩ := List.mem_filterMap.1 hx
 split at hj
 ·injection hj with hj
  rw [← hj]
  show szOk (entMax (entP a.items j).1 (entP b.items j).1).data.size
  unfold entMax
  split
  ·exact entP_sz hb.2.2 _
  ·exact entP_sz ha.2.2 _
 ·cases hj
theorem tableAdd_pos {t : List RV} {k : Int} {ms : List Flr} {r : RV} (h : t[k.toNat]? = some r) (hk : 0 ≤ k ∧ k ≤ (t.length : Int) - 1) (hm : marksOk ms) (h5 : 5 ≤ r.l.length) : tableAdd (t.map (·.l)) k ms = putT (t.map (·.l)) k.toNat (addMarks r.l ms) := by
 have hg : (t.map (·.l)).getD k.toNat [] = r.l := by rw [List.getD_eq_getElem?_getD,List.getElem?_map,h]; rfl
 rw [tableAdd,hg,if_pos ⟨by rw [List.length_map]; exact hk,hm,h5⟩]
theorem tableAdd_neg {t : List RV} {k : Int} {ms : List Flr} (h : ¬ (0 ≤ k ∧ k ≤ (t.length : Int) - 1) ∨ ¬ marksOk ms ∨ ∃ r,t[k.toNat]? = some r ∧ r.l.length < 5) : tableAdd (t.map (·.l)) k ms = t.map (·.l) := by
 rw [tableAdd,if_neg]
 rintro ⟨h1,h2,h3⟩
 rw [List.length_map] at h1
 rcases h with h | h | ⟨r,hr,h⟩
 ·exact h h1
 ·exact h h2
 ·rw [List.getD_eq_getElem?_getD,List.getElem?_map,hr] at h3
  exact absurd h3 (Nat.not_le.2 h)
theorem row_l {t u : List RV} {i : Nat} {r : RV} (h : u.map (·.l) = t.map (·.l)) (hr : t[i]? = some r) : ∃ a,u[i]? = some ⟨a,r.l⟩ := by
 have h1 : (u.map (·.l))[i]? = some r.l := by rw [h,List.getElem?_map,hr]; rfl
 rw [List.getElem?_map] at h1
 obtain ⟨y,hy,he⟩ := Option.map_eq_some_iff.1 h1
 exact ⟨y.p,by rw [hy,← he]⟩
theorem ac_spec_TableAdd (p pm : Option Addr) (t : List RV) (k : Int) (ms : List Flr) (st : St) (hR : RdT st p t) (hM : Rows st 2 cFlr pm ms) (hs : szOk t.length) (hr : ∀ r ∈ t,szOk r.l.length) (hms : szOk ms.length) : C 161 [vS p t.length,vI k,vS pm ms.length] st (fun v s => ∃ q u,v = vS q t.length ∧ u.length = t.length ∧ u.map (·.l) = tableAdd (t.map (·.l)) k ms ∧ OwnP s (pcT q u) ∧ NewP st.next (pcT q u) ∧ Pres st s) := by
 have hs : t.length ≤ 1048576 := hs
 have hms' : ms.length ≤ 1048576 := hms
 refine AC.enterX (i := ⟨[],[],[0,1,2,6,7,8,29,34],[]⟩) [(7,[25],[3,8])] Tryz.func161 rfl rfl (by kernel_rfl) (by kernel_rfl) Tryz.ntmps161 (Lb rfl) rfl ?_
 refine Cu lo0 st [(0,vS p t.length),(1,vI k),(2,vS pm ms.length),(6,Sn)] fun _ => ?_
 refine ⟨_,rfl,(ac_spec_l9Copy p t st hR hs hr).mono ?_⟩
 rintro _ s1 ⟨q,u0,rfl,hu,hO,hN,hP⟩
 refine Cu lo0 s1 [(0,vS p t.length),(1,vI k),(2,vS pm ms.length),(6,Sn),(7,vS q t.length)] fun _ => ?_
 have e14 : IntKind.wrap .i64 ((t.length : Int) - 1) = (t.length : Int) - 1 := wrap_i64 (by omega) (by omega)
 have hul : u0.length = t.length := (map_len hu hr).1
 iterate 2 refine ⟨_,rfl,?_⟩
 refine ⟨_,rfl,(ac_spec_l1In k 0 _ s1).mono ?_⟩
 rintro _ s1 ⟨y,rfl,hk,rfl⟩
 rcases y with _|_
 ·replace hk := of_decide_eq_false hk.symm
  iterate 3 refine ⟨_,rfl,?_⟩
  refine Cu lo0 s1 [(1,vI k),(2,vS pm ms.length),(6,Sn),(7,vS q t.length),(29,vB true)] fun _ => ?_
  exact cxs (Rt ⟨q,u0,rfl,hul,by rw [tableAdd_neg (.inl fun h => hk (by rw [e14]; exact h))]; exact hu,hO,hN,hP⟩)
 ·replace hk := of_decide_eq_true hk.symm
  refine ⟨_,rfl,?_⟩
  replace hk : 0 ≤ k ∧ k ≤ IntKind.wrap .i64 ((t.length : Int) - 1) := hk
  rw [e14] at hk
  refine ⟨_,rfl,(ac_spec_MarksOk pm ms s1 (hP.rows hM) hms).mono ?_⟩
  rintro _ s1 ⟨y2,rfl,hmk,rfl⟩
  rcases y2 with _|_
  ·replace hmk := fun k => Bool.false_ne_true (hmk.2 k)
   iterate 3 refine ⟨_,rfl,?_⟩
   refine Cu lo0 s1 [(1,vI k),(2,vS pm ms.length),(6,Sn),(7,vS q t.length),(29,vB true)] fun _ => ?_
   exact cxs (Rt ⟨q,u0,rfl,hul,by rw [tableAdd_neg (.inr (.inl hmk))]; exact hu,hO,hN,hP⟩)
  ·replace hmk := hmk.1 rfl
   iterate 2 refine ⟨_,rfl,?_⟩
   have ⟨b1,o1,k1,r,hpe,hr1,hm1,hc1,hb1⟩ := (hR.pres hP).1.atB (j := k.toNat) (by omega)
   refine ⟨_,op_idx (j := k) (n := t.length) (q := ⟨b1,o1,none⟩) rfl (congrArg (fun u => vS u t.length) hpe) rfl rfl rfl hk.1 (by omega),?_⟩
   refine ⟨_,op_ldc (i := 0) (v := vS r.p r.l.length) rfl rfl rfl rfl hm1 hc1 rfl rfl,?_⟩
   iterate 2 refine ⟨_,rfl,?_⟩
   rintro (_|_) h5
   ·replace h5 : ¬ ((r.l.length : Int) < 5) := of_decide_eq_false h5
    refine ⟨_,rfl,?_⟩
    refine Cu lo0 s1 [(1,vI k),(2,vS pm ms.length),(6,Sn),(7,vS q t.length),(29,vB false)] fun _ => ?_
    have ⟨qK,hqK⟩ := row_l hu hr1
    have hKu : k.toNat < u0.length := (List.getElem?_eq_some_iff.1 hqK).1
    have hself := putT_self hqK
    have hrs : r.l.length ≤ 1048576 := hr r (List.mem_of_getElem? hr1)
    refine cxs ?_
    refine Cu lo0 s1 [(1,vI k),(2,vS pm ms.length),(6,Sn),(7,vS q t.length),(8,vI 0)] fun _ => ?_
    refine AW.loop0 (fun i : Nat => [(1,vI k),(2,vS pm ms.length),(7,vS q t.length),(8,vI (i : Int))]) (fun m (i : Nat) st' => m = ms.length - i ∧ i ≤ ms.length ∧ OwnP st' (pcT q (putT u0 k.toNat ⟨qK,addMarks r.l (ms.take i)⟩)) ∧ NewP st.next (pcT q (putT u0 k.toNat ⟨qK,addMarks r.l (ms.take i)⟩)) ∧ Pres st st') 0 _ ⟨rfl,rfl,rfl,rfl,trivial⟩ rfl ⟨rfl,Nat.zero_le _,(show OwnP s1 (pcT q (putT u0 k.toNat ⟨qK,r.l⟩)) by rw [hself]; exact hO),(show NewP st.next (pcT q (putT u0 k.toNat ⟨qK,r.l⟩)) by rw [hself]; exact hN),hP⟩ ?_
    rintro m i ρ0 st' ⟨rfl,hi,hO',hN',hP'⟩
    iterate 2 refine ⟨_,rfl,?_⟩
    rintro (_|_) h6
    ·replace h6 : ¬ ((i : Int) < (ms.length : Int)) := of_decide_eq_false h6
     refine Cu lo0 st' [(1,vI k),(2,vS pm ms.length),(7,vS q t.length),(8,vI (i : Int)),(34,vB false)] fun _ => ?_
     refine cxs ?_
     refine cxs ?_
     have hil : i = ms.length := by omega
     rw [hil,List.take_length] at hO' hN'
     exact Rt ⟨q,_,rfl,by rw [putT_len hKu]; exact hul,by rw [putT_map,hu,tableAdd_pos hr1 hk hmk (by omega)],hO',hN',hP'⟩
    ·replace h6 : (i : Int) < (ms.length : Int) := of_decide_eq_true h6
     refine Cu lo0 st' [(1,vI k),(2,vS pm ms.length),(7,vS q t.length),(8,vI (i : Int)),(34,vB true)] fun _ => ?_
     have h6' := Int.ofNat_lt.1 h6
     have hcl := addMarks_len (ms.take i) r.l
     have hKt : k.toNat < (putT u0 k.toNat (⟨qK,addMarks r.l (ms.take i)⟩ : RV)).length := by rw [putT_len hKu]; exact hKu
     have hgt := putT_get (x := (⟨qK,addMarks r.l (ms.take i)⟩ : RV)) hKu
     have ⟨b2,o2,k2,x,hpe2,hx,hm2,hc2,hb2⟩ := (hO'.outer.rows cRV_len).atB hKt
     have hxe : x = ⟨qK,addMarks r.l (ms.take i)⟩ := by rw [hgt] at hx; injection hx with hx; exact hx.symm
     have hc2 : (k2.cells.drop (o2 + k.toNat * 1)).take 1 = cRV ⟨qK,addMarks r.l (ms.take i)⟩ := by rw [hc2,hxe]
     have hrow := hO'.row (List.mem_of_getElem? hgt)
     have ⟨b3,o3,k3,mk,hpe3,hmk3,hm3,hc3,hb3⟩ := (hP'.rows hM).atB h6'
     have hid := (hmk i mk hmk3).1
     have ⟨b4,o4,k4,z,hpe4,hz,hm4,hc4,hb4⟩ := (hrow.rows fI_len).atB (j := mk.id.toNat) (by simp only; omega)
     have ⟨a,ha⟩ := hrow.some (by simp only; omega)
     simp only at hpe4 ha
     refine cxs ?_
     refine ⟨_,op_idx (j := k) (n := t.length) (q := ⟨b2,o2,none⟩) rfl (congrArg (fun u => vS u t.length) hpe2) rfl rfl rfl hk.1 (by omega),?_⟩
     refine ⟨_,op_ldc (i := 0) rfl rfl rfl rfl hm2 hc2 rfl rfl,?_⟩
     refine ⟨ld_lt rfl rfl hb2,?_⟩
     refine ⟨_,op_idx (j := (i : Int)) (n := ms.length) (q := ⟨b3,o3,none⟩) rfl (congrArg (fun u => vS u ms.length) hpe3) rfl rfl rfl (Int.natCast_nonneg _) h6,?_⟩
     refine ⟨_,rfl,?_⟩
     refine ⟨_,op_ldc (i := 0) rfl rfl rfl rfl hm3 hc3 rfl rfl,?_⟩
     refine ⟨ld_lt rfl rfl hb3,?_⟩
     refine ⟨_,op_idx (j := k) (n := t.length) (q := ⟨b2,o2,none⟩) rfl (congrArg (fun u => vS u t.length) hpe2) rfl rfl rfl hk.1 (by omega),?_⟩
     refine ⟨_,op_ldc (i := 0) rfl rfl rfl rfl hm2 hc2 rfl rfl,?_⟩
     refine ⟨_,op_idx (j := (i : Int)) (n := ms.length) (q := ⟨b3,o3,none⟩) rfl (congrArg (fun u => vS u ms.length) hpe3) rfl rfl rfl (Int.natCast_nonneg _) h6,?_⟩
     refine ⟨_,rfl,?_⟩
     refine ⟨_,op_ldc (i := 0) rfl rfl rfl rfl hm3 hc3 rfl rfl,?_⟩
     refine ⟨_,op_idx (j := mk.id) (n := (addMarks r.l (ms.take i)).length) (q := ⟨b4,o4,none⟩) rfl (congrArg (fun u => vS u (addMarks r.l (ms.take i)).length) hpe4) rfl rfl rfl hid.1 (by omega),?_⟩
     refine ⟨_,op_ldc (i := 0) rfl rfl rfl rfl hm4 hc4 rfl rfl,?_⟩
     refine ⟨_,op_idx (j := (i : Int)) (n := ms.length) (q := ⟨b3,o3,none⟩) rfl (congrArg (fun u => vS u ms.length) hpe3) rfl rfl rfl (Int.natCast_nonneg _) h6,?_⟩
     refine ⟨_,rfl,?_⟩
     refine ⟨_,op_ldc (i := 1) rfl rfl rfl rfl hm3 hc3 rfl rfl,?_⟩
     refine ⟨_,rfl,(ac_spec_l1Max z mk.inc st').mono ?_⟩
     rintro _ st' ⟨rfl,rfl⟩
     refine ⟨fun _ _ => rfl,?_⟩
     refine ⟨_,op_idx (j := mk.id) (n := (addMarks r.l (ms.take i)).length) (q := ⟨a,0,none⟩) rfl (congrArg (fun u => vS u (addMarks r.l (ms.take i)).length) ha) rfl rfl rfl hid.1 (by omega),?_⟩
     refine op_put (z := 1) (st := st') (f := fI) (j := mk.id.toNat) (l := addMarks r.l (ms.take i)) (y := max z mk.inc) (p := qK) (d := 0 + mk.id.toNat * 1) rfl rfl (Nat.zero_add _) rfl rfl fI_len rfl rfl (by omega) hrow ha ?_
     intro s5 hO5 hP5 hn5
     refine Cu lo0 s5 [(1,vI k),(2,vS pm ms.length),(7,vS q t.length),(8,vI (i : Int)),(34,vB true)] fun _ => ?_
     have hstep : (addMarks r.l (ms.take i)).set mk.id.toNat (max z mk.inc) = addMarks r.l (ms.take (i + 1)) := by rw [(split_at hmk3).2.1,addMarks_snoc,getD_of hz]
     rw [hstep] at hO5
     have hN5 : New st.next qK := hN' (pcRV ⟨qK,addMarks r.l (ms.take i)⟩) (List.mem_cons_of_mem _ (List.mem_map_of_mem (List.mem_of_getElem? hgt)))
     have hOP := hO'.put hP5 hO5 (by rw [addMarks_len,addMarks_len])
     have e36 : IntKind.wrap .i64 ((i : Int) + 1) = ((i + 1 : Nat) : Int) := (wrap_i64 (by omega) (by omega)).trans (by omega)
     refine ⟨_,rfl,?_⟩
     refine ⟨i + 1,ms.length - (i + 1),by omega,⟨rfl,rfl,rfl,congrArg (Value.int .i64) e36,trivial⟩,rfl,rfl,h6',hOP,fun c hc => ?_,hP5.pres hP' hN5⟩
     rcases List.mem_cons.1 hc with rfl | hc
     ·exact (hN' (pcR 1 cRV q (putT u0 k.toNat ⟨qK,addMarks r.l (ms.take i)⟩)) (List.mem_cons_self ..) : New st.next q)
     ·obtain ⟨y,hy,rfl⟩ := List.mem_map.1 hc
      rcases List.mem_append.1 hy with hy | hy
      ·exact hN' (pcRV y) (List.mem_cons_of_mem _ (List.mem_map_of_mem (List.mem_append_left _ hy)))
      ·rcases List.mem_cons.1 hy with rfl | hy
       ·exact hN5
       ·exact hN' (pcRV y) (List.mem_cons_of_mem _ (List.mem_map_of_mem (List.mem_append_right _ (List.mem_cons_of_mem _ hy))))
   ·replace h5 : (r.l.length : Int) < 5 := of_decide_eq_true h5
    refine ⟨_,rfl,?_⟩
    refine Cu lo0 s1 [(1,vI k),(2,vS pm ms.length),(6,Sn),(7,vS q t.length),(29,vB true)] fun _ => ?_
    exact cxs (Rt ⟨q,u0,rfl,hul,by rw [tableAdd_neg (.inr (.inr ⟨r,hr1,by omega⟩))]; exact hu,hO,hN,hP⟩)
theorem ac_impl_TableAdd (p pm : Option Addr) (t : List RV) (k : Int) (ms : List Flr) (st : St) (hR : RdT st p t) (hM : Rows st 2 cFlr pm ms) (hs : szOk t.length) (hr : ∀ r ∈ t,szOk r.l.length) (hms : szOk ms.length) : C 51 [vS p t.length,vI k,vS pm ms.length] st (fun v s => ∃ q u,v = vS q t.length ∧ u.length = t.length ∧ u.map (·.l) = tableAdd (t.map (·.l)) k ms ∧ OwnP s (pcT q u) ∧ NewP st.next (pcT q u) ∧ Pres st s) := by
 have hs : t.length ≤ 1048576 := hs
 have hms' : ms.length ≤ 1048576 := hms
 refine AC.enterX (i := ⟨[9],[9,42,48,52],[0,1,2,6,7,9,30,32,33,34,35],[]⟩) [(7,[],[])] Tryz.func51 rfl rfl (by kernel_rfl) (by kernel_rfl) Tryz.ntmps51 (Lb rfl) rfl ?_
 refine Cm 0 st [(0,vS p t.length),(1,vI k),(2,vS pm ms.length),(6,Sn)] [] fun _ _ => ?_
 refine ⟨_,rfl,(ac_impl_copyTable p t st hR hs hr).mono ?_⟩
 rintro _ s1 ⟨q,u0,rfl,hu,hO,hN,hP⟩
 refine Cm 0 s1 [(0,vS p t.length),(1,vI k),(2,vS pm ms.length),(6,Sn),(7,vS q t.length)] [] fun _ _ => ?_
 have e15 : IntKind.wrap .i64 ((t.length : Int) - 1) = (t.length : Int) - 1 := wrap_i64 (by omega) (by omega)
 have hul : u0.length = t.length := (map_len hu hr).1
 iterate 2 refine ⟨_,rfl,?_⟩
 refine ⟨_,rfl,(ac_impl_within k 0 _ s1).mono ?_⟩
 rintro _ s1 ⟨y,rfl,hk,rfl⟩
 rcases y with _|_
 ·replace hk := of_decide_eq_false hk.symm
  iterate 3 refine ⟨_,rfl,?_⟩
  refine Cm 0 s1 [(1,vI k),(2,vS pm ms.length),(6,Sn),(7,vS q t.length),(30,vB true)] [] fun _ _ => ?_
  exact cxs (Rt ⟨q,u0,rfl,hul,by rw [tableAdd_neg (.inl fun h => hk (by rw [e15]; exact h))]; exact hu,hO,hN,hP⟩)
 ·replace hk := of_decide_eq_true hk.symm
  refine ⟨_,rfl,?_⟩
  replace hk : 0 ≤ k ∧ k ≤ IntKind.wrap .i64 ((t.length : Int) - 1) := hk
  rw [e15] at hk
  refine ⟨_,rfl,(ac_impl_MarksOk pm ms s1 (hP.rows hM) hms).mono ?_⟩
  rintro _ s1 ⟨y2,rfl,hmk,rfl⟩
  rcases y2 with _|_
  ·replace hmk := fun k => Bool.false_ne_true (hmk.2 k)
   iterate 3 refine ⟨_,rfl,?_⟩
   refine Cm 0 s1 [(1,vI k),(2,vS pm ms.length),(6,Sn),(7,vS q t.length),(30,vB true)] [] fun _ _ => ?_
   exact cxs (Rt ⟨q,u0,rfl,hul,by rw [tableAdd_neg (.inr (.inl hmk))]; exact hu,hO,hN,hP⟩)
  ·replace hmk := hmk.1 rfl
   iterate 2 refine ⟨_,rfl,?_⟩
   have ⟨b1,o1,k1,r,hpe,hr1,hm1,hc1,hb1⟩ := (hR.pres hP).1.atB (j := k.toNat) (by omega)
   refine ⟨_,op_idx (j := k) (n := t.length) (q := ⟨b1,o1,none⟩) rfl (congrArg (fun u => vS u t.length) hpe) rfl rfl rfl hk.1 (by omega),?_⟩
   refine ⟨_,op_ldc (i := 0) (v := vS r.p r.l.length) rfl rfl rfl rfl hm1 hc1 rfl rfl,?_⟩
   iterate 2 refine ⟨_,rfl,?_⟩
   rintro (_|_) h5
   ·replace h5 : ¬ ((r.l.length : Int) < 5) := of_decide_eq_false h5
    refine ⟨_,rfl,?_⟩
    refine Cm 0 s1 [(1,vI k),(2,vS pm ms.length),(6,Sn),(7,vS q t.length),(30,vB false)] [] fun _ _ => ?_
    have ⟨qK,hqK⟩ := row_l hu hr1
    have hKu : k.toNat < u0.length := (List.getElem?_eq_some_iff.1 hqK).1
    have hself := putT_self hqK
    have hrs : r.l.length ≤ 1048576 := hr r (List.mem_of_getElem? hr1)
    refine cxs ?_
    refine ⟨_,rfl,?_⟩
    refine Cm 0 s1 [(1,vI k),(6,Sn),(7,vS q t.length),(32,vS pm ms.length),(33,vI (ms.length)),(34,vI 0)] [] fun _ _ => ?_
    refine AW.loopM (fun i : Nat => [(1,vI k),(7,vS q t.length),(32,vS pm ms.length),(33,vI (ms.length : Int)),(34,vI (i : Int))]) (fun i : Nat => []) (fun m (i : Nat) st' => m = ms.length - i ∧ i ≤ ms.length ∧ OwnP st' (pcT q (putT u0 k.toNat ⟨qK,addMarks r.l (ms.take i)⟩)) ∧ NewP st.next (pcT q (putT u0 k.toNat ⟨qK,addMarks r.l (ms.take i)⟩)) ∧ Pres st st') 0 _ ⟨rfl,rfl,rfl,rfl,rfl,trivial⟩ trivial ⟨rfl,Nat.zero_le _,(show OwnP s1 (pcT q (putT u0 k.toNat ⟨qK,r.l⟩)) by rw [hself]; exact hO),(show NewP st.next (pcT q (putT u0 k.toNat ⟨qK,r.l⟩)) by rw [hself]; exact hN),hP⟩ ?_
    rintro m i ρ0 ff gg st' ⟨rfl,hi,hO',hN',hP'⟩
    refine ⟨_,rfl,?_⟩
    rintro (_|_) h6
    ·replace h6 : ¬ ((i : Int) < (ms.length : Int)) := of_decide_eq_false h6
     refine Cm gg st' [(1,vI k),(7,vS q t.length),(32,vS pm ms.length),(33,vI (ms.length : Int)),(34,vI (i : Int)),(35,vB false)] [] fun _ _ => ?_
     refine cxs ?_
     refine cxs ?_
     have hil : i = ms.length := by omega
     rw [hil,List.take_length] at hO' hN'
     exact Rt ⟨q,_,rfl,by rw [putT_len hKu]; exact hul,by rw [putT_map,hu,tableAdd_pos hr1 hk hmk (by omega)],hO',hN',hP'⟩
    ·replace h6 : (i : Int) < (ms.length : Int) := of_decide_eq_true h6
     refine Cm gg st' [(1,vI k),(7,vS q t.length),(32,vS pm ms.length),(33,vI (ms.length : Int)),(34,vI (i : Int)),(35,vB true)] [] fun _ _ => ?_
     have h6' := Int.ofNat_lt.1 h6
     have hcl := addMarks_len (ms.take i) r.l
     have hKt : k.toNat < (putT u0 k.toNat (⟨qK,addMarks r.l (ms.take i)⟩ : RV)).length := by rw [putT_len hKu]; exact hKu
     have hgt := putT_get (x := (⟨qK,addMarks r.l (ms.take i)⟩ : RV)) hKu
     have ⟨b2,o2,k2,x,hpe2,hx,hm2,hc2,hb2⟩ := (hO'.outer.rows cRV_len).atB hKt
     have hxe : x = ⟨qK,addMarks r.l (ms.take i)⟩ := by rw [hgt] at hx; injection hx with hx; exact hx.symm
     have hc2 : (k2.cells.drop (o2 + k.toNat * 1)).take 1 = cRV ⟨qK,addMarks r.l (ms.take i)⟩ := by rw [hc2,hxe]
     have hrow := hO'.row (List.mem_of_getElem? hgt)
     have ⟨b3,o3,k3,mk,hpe3,hmk3,hm3,hc3,hb3⟩ := (hP'.rows hM).atB h6'
     have hid := (hmk i mk hmk3).1
     have ⟨b4,o4,k4,z,hpe4,hz,hm4,hc4,hb4⟩ := (hrow.rows fI_len).atB (j := mk.id.toNat) (by simp only; omega)
     have ⟨a,ha⟩ := hrow.some (by simp only; omega)
     simp only at hpe4 ha
     refine cxs ?_
     refine ⟨_,op_idx (j := (i : Int)) (n := ms.length) (q := ⟨b3,o3,none⟩) rfl (congrArg (fun u => vS u ms.length) hpe3) rfl rfl rfl (Int.natCast_nonneg _) h6,?_⟩
     refine ⟨_,op_lda rfl rfl rfl rfl rfl hm3 hc3 rfl,?_⟩
     refine ⟨_,rfl,?_⟩
     refine ⟨_,Os rfl,?_⟩
     refine Cm (gg + 1) st' [(1,vI k),(7,vS q t.length),Ml 9 gg,(32,vS pm ms.length),(33,vI (ms.length : Int)),(34,vI (i : Int)),(35,vB true)] [(9,gg,[vI mk.id,vI mk.inc])] fun _ _ => ?_
     refine ⟨_,op_idx (j := k) (n := t.length) (q := ⟨b2,o2,none⟩) rfl (congrArg (fun u => vS u t.length) hpe2) rfl rfl rfl hk.1 (by omega),?_⟩
     refine ⟨_,op_ldc (i := 0) rfl rfl rfl rfl hm2 hc2 rfl rfl,?_⟩
     refine ⟨_,rfl,?_⟩
     refine ⟨_,Od rfl,?_⟩
     refine ⟨_,op_idx (j := k) (n := t.length) (q := ⟨b2,o2,none⟩) rfl (congrArg (fun u => vS u t.length) hpe2) rfl rfl rfl hk.1 (by omega),?_⟩
     refine ⟨_,op_ldc (i := 0) rfl rfl rfl rfl hm2 hc2 rfl rfl,?_⟩
     refine ⟨_,rfl,?_⟩
     refine ⟨_,Od rfl,?_⟩
     refine ⟨_,op_idx (j := mk.id) (n := (addMarks r.l (ms.take i)).length) (q := ⟨b4,o4,none⟩) rfl (congrArg (fun u => vS u (addMarks r.l (ms.take i)).length) hpe4) rfl rfl rfl hid.1 (by omega),?_⟩
     refine ⟨_,op_ldc (i := 0) rfl rfl rfl rfl hm4 hc4 rfl rfl,?_⟩
     refine ⟨_,rfl,?_⟩
     refine ⟨_,Od rfl,?_⟩
     refine ⟨.int .i64 (max z mk.inc),ammL_max _ _,?_⟩
     refine ⟨_,op_idx (j := mk.id) (n := (addMarks r.l (ms.take i)).length) (q := ⟨a,0,none⟩) rfl (congrArg (fun u => vS u (addMarks r.l (ms.take i)).length) ha) rfl rfl rfl hid.1 (by omega),?_⟩
     refine op_put (z := 1) (st := st') (f := fI) (j := mk.id.toNat) (l := addMarks r.l (ms.take i)) (y := max z mk.inc) (p := qK) (d := 0 + mk.id.toNat * 1) rfl rfl (Nat.zero_add _) rfl rfl fI_len rfl rfl (by omega) hrow ha ?_
     intro s5 hO5 hP5 hn5
     refine Cm (gg + 1) s5 [(1,vI k),(7,vS q t.length),Ml 9 gg,(32,vS pm ms.length),(33,vI (ms.length : Int)),(34,vI (i : Int)),(35,vB true)] [(9,gg,[vI mk.id,vI mk.inc])] fun _ _ => ?_
     have hstep : (addMarks r.l (ms.take i)).set mk.id.toNat (max z mk.inc) = addMarks r.l (ms.take (i + 1)) := by rw [(split_at hmk3).2.1,addMarks_snoc,getD_of hz]
     rw [hstep] at hO5
     have hN5 : New st.next qK := hN' (pcRV ⟨qK,addMarks r.l (ms.take i)⟩) (List.mem_cons_of_mem _ (List.mem_map_of_mem (List.mem_of_getElem? hgt)))
     have hOP := hO'.put hP5 hO5 (by rw [addMarks_len,addMarks_len])
     have e56 : IntKind.wrap .i64 ((i : Int) + 1) = ((i + 1 : Nat) : Int) := (wrap_i64 (by omega) (by omega)).trans (by omega)
     refine ⟨_,rfl,?_⟩
     refine ⟨i + 1,ms.length - (i + 1),by omega,⟨rfl,rfl,rfl,rfl,congrArg (Value.int .i64) e56,trivial⟩,trivial,rfl,h6',hOP,fun c hc => ?_,hP5.pres hP' hN5⟩
     rcases List.mem_cons.1 hc with rfl | hc
     ·exact (hN' (pcR 1 cRV q (putT u0 k.toNat ⟨qK,addMarks r.l (ms.take i)⟩)) (List.mem_cons_self ..) : New st.next q)
     ·obtain ⟨y,hy,rfl⟩ := List.mem_map.1 hc
      rcases List.mem_append.1 hy with hy | hy
      ·exact hN' (pcRV y) (List.mem_cons_of_mem _ (List.mem_map_of_mem (List.mem_append_left _ hy)))
      ·rcases List.mem_cons.1 hy with rfl | hy
       ·exact hN5
       ·exact hN' (pcRV y) (List.mem_cons_of_mem _ (List.mem_map_of_mem (List.mem_append_right _ (List.mem_cons_of_mem _ hy))))
   ·replace h5 : (r.l.length : Int) < 5 := of_decide_eq_true h5
    refine ⟨_,rfl,?_⟩
    refine Cm 0 s1 [(1,vI k),(2,vS pm ms.length),(6,Sn),(7,vS q t.length),(30,vB true)] [] fun _ _ => ?_
    exact cxs (Rt ⟨q,u0,rfl,hul,by rw [tableAdd_neg (.inr (.inr ⟨r,hr1,by omega⟩))]; exact hu,hO,hN,hP⟩)
theorem big_prune {s x : Sta} {t : List (List Int)} (h : x = pruneF s t) (hb : bigS s) : bigS x := by
 rw [h,pruneF]
 split
 ·exact bigS_join hb (big_floors (marksF_len _ 5))
 ·exact hb
theorem ok_prune {s x : Sta} {t : List (List Int)} (h : x = pruneF s t) (hk : stateOk s) : stateOk x := by
 rw [h,pruneF,if_pos hk]
 exact stateOk_join hk (stateOk_floors (marksOk_F fun i => Int.le_trans (Int.min_le_right _ _) (goneAt_le hk i).2))
theorem uc_impl_Prune (s : SV) (g : TT) (st : St) (hR : RdS st s) (hT : RdT st g.p g.t) (hb : bigS s.x) (hbt : bigT g.x) : C 53 [.agg #[vS s.p s.x.items.length,vS s.q s.x.floors.length],vS g.p g.t.length] st (fun v s' => ∃ u : SV,v = .agg #[vS u.p u.x.items.length,vS u.q u.x.floors.length] ∧ u.x = pruneF s.x g.x ∧ OwnP s' (pcS u) ∧ NewP st.next (pcS u) ∧ Pres st s') :=
 ac_impl_Prune s g.p g.t st hR hT hb (bigT_iff.1 hbt).1 (bigT_iff.1 hbt).2
theorem uc_spec_Prune (s : SV) (g : TT) (st : St) (hR : RdS st s) (hT : RdT st g.p g.t) (hb : bigS s.x) (hbt : bigT g.x) : C 163 [.agg #[vS s.p s.x.items.length,vS s.q s.x.floors.length],vS g.p g.t.length] st (fun v s' => ∃ u : SV,v = .agg #[vS u.p u.x.items.length,vS u.q u.x.floors.length] ∧ u.x = pruneF s.x g.x ∧ OwnP s' (pcS u) ∧ NewP st.next (pcS u) ∧ Pres st s') :=
 ac_spec_Prune s g.p g.t st hR hT hb (bigT_iff.1 hbt).1 (bigT_iff.1 hbt).2
theorem uc_impl_TableAdd (g : TT) (k : Int) (pm : Option Addr) (ms : List Flr) (st : St) (hT : RdT st g.p g.t) (hM : Rows st 2 cFlr pm ms) (hbt : bigT g.x) (hms : szOk ms.length) : C 51 [vS g.p g.t.length,vI k,vS pm ms.length] st (fun v s => ∃ u : TT,v = vS u.p u.t.length ∧ u.x = tableAdd g.x k ms ∧ u.t.length = g.t.length ∧ OwnP s (pcTT u) ∧ NewP st.next (pcTT u) ∧ Pres st s) :=
 (ac_impl_TableAdd g.p pm g.t k ms st hT hM (bigT_iff.1 hbt).1 (bigT_iff.1 hbt).2 hms).mono fun v s ⟨q,u,h1,h2,h3,h4,h5,h6⟩ => ⟨⟨q,u⟩,h1.trans (congrArg (vS q) h2.symm),h3,h2,h4,h5,h6⟩
theorem uc_spec_TableAdd (g : TT) (k : Int) (pm : Option Addr) (ms : List Flr) (st : St) (hT : RdT st g.p g.t) (hM : Rows st 2 cFlr pm ms) (hbt : bigT g.x) (hms : szOk ms.length) : C 161 [vS g.p g.t.length,vI k,vS pm ms.length] st (fun v s => ∃ u : TT,v = vS u.p u.t.length ∧ u.x = tableAdd g.x k ms ∧ u.t.length = g.t.length ∧ OwnP s (pcTT u) ∧ NewP st.next (pcTT u) ∧ Pres st s) :=
 (ac_spec_TableAdd g.p pm g.t k ms st hT hM (bigT_iff.1 hbt).1 (bigT_iff.1 hbt).2 hms).mono fun v s ⟨q,u,h1,h2,h3,h4,h5,h6⟩ => ⟨⟨q,u⟩,h1.trans (congrArg (vS q) h2.symm),h3,h2,h4,h5,h6⟩
theorem Frs.ndS {s0 st st' : St} {v : NW} {u : SV} (h : Frs s0 st (pcNW v)) (hF : Frs st st' (pcS u)) : Frs s0 st' (pcNW { v with s := u }) :=
 Frs.swap (a := []) (c := pcS v.s) h hF
theorem Frs.ndT {s0 st st' : St} {v : NW} {u : TV} (h : Frs s0 st (pcNW v)) (hF : Frs st st' (pcIs u.toRV)) : Frs s0 st' (pcNW { v with t := u }) :=
 Frs.swap (a := pcS v.s) (c := pcIs v.t.toRV) h hF
theorem Frs.ndE {s0 st st' : St} {v : NW} {u : TT} (h : Frs s0 st (pcNW v)) (hF : Frs st st' (pcTT u)) : Frs s0 st' (pcNW { v with seen := u }) := by
 have e : ∀ x : TT,pcNW { v with seen := x } = (pcS v.s ++ (pcIs v.t.toRV ++ (pcLog v.g ++ (pcIs v.got ++ pcIs v.acked)))) ++ (pcTT x ++ (pcSes v.sess ++ pcRis v.rises)) := fun x => by simp only [List.append_assoc]
 rw [e]
 exact Frs.swap (c := pcTT v.seen) (by rw [← e]; exact h) hF
theorem NW.risAt (v : NW) (x : RisV) : pcNW { v with rises := x } = (pcS v.s ++ (pcIs v.t.toRV ++ (pcLog v.g ++ (pcIs v.got ++ (pcIs v.acked ++ (pcTT v.seen ++ pcSes v.sess)))))) ++ pcR 3 cRise x.p x.l :: [] := by simp [List.append_assoc]
theorem NewP.lef {n : Nat} {a b : List Pc} (h : NewP n (a ++ b)) : NewP n a := fun c hc => h c (List.mem_append_left _ hc)
theorem NewP.rig {n : Nat} {a b : List Pc} (h : NewP n (a ++ b)) : NewP n b := fun c hc => h c (List.mem_append_right _ hc)
theorem Frs.upd {s0 st st' : St} {a b : List Pc} {c d : Pc} (h : Frs s0 st (a ++ c :: b)) (hp : Pr c.p st st') (hd : d.own st') (he : d.p = c.p) : Frs s0 st' (a ++ d :: b) :=
 ⟨h.1.update hp hd he,h.2.1.lef.app (NewP.cons (he ▸ h.2.1.rig c (List.mem_cons_self ..)) (NewP.rig (a := [c]) h.2.1.rig)),hp.pres h.2.2 (h.2.1.rig c (List.mem_cons_self ..))⟩
theorem Frs.ris {s0 st st' : St} {v : NW} {l' : List Ris} (h : Frs s0 st (pcNW v)) (hp : Pr v.rises.p st st') (hO : OwnR st' 3 cRise v.rises.p l') : Frs s0 st' (pcNW { v with rises := ⟨v.rises.p,l'⟩ }) := by
 have h : Frs s0 st (pcNW { v with rises := v.rises }) := h
 rw [NW.risAt] at h ⊢
 exact Frs.upd (c := pcR 3 cRise v.rises.p v.rises.l) h hp (own_pc hO) rfl
theorem Frs.ownRis {s0 st : St} {v : NW} (h : Frs s0 st (pcNW v)) : OwnR st 3 cRise v.rises.p v.rises.l := own_one (by decide) len_cRise h.1.right.right.right.right.right.right.right
def riseF (c : Int) (l : List Ris) (y : Itm) : List Ris := match l[y.id.toNat]? with
 | some r => if y.e.inc > r.inc ∨ (y.e.inc = r.inc ∧ y.e.beat > r.beat) then l.set y.id.toNat ⟨y.e.inc,y.e.beat,c⟩ else l
 | none => l
def risesF (c : Int) (l : List Ris) (its : List Itm) : List Ris := its.foldl (riseF c) l
theorem riseF_len (c : Int) (l : List Ris) (y : Itm) : (riseF c l y).length = l.length := by
 unfold riseF
 split
 ·split
  ·exact List.length_set
  ·rfl
 ·rfl
theorem risesF_len (c : Int) : ∀ (its : List Itm) (l : List Ris),(risesF c l its).length = l.length
 | [],_ => rfl
 | y :: its,l => by
  show (risesF c (riseF c l y) its).length = _
  rw [risesF_len c its,riseF_len]
theorem risesF_succ {c : Int} {l : List Ris} {its : List Itm} {i : Nat} {y : Itm} (h : its[i]? = some y) : risesF c l (its.take (i + 1)) = riseF c (risesF c l (its.take i)) y := by
 rw [List.take_add_one,h]
 simp [risesF]
theorem riseF_yes {c : Int} {l : List Ris} {y : Itm} {r : Ris} (h : l[y.id.toNat]? = some r) (hk : y.e.inc > r.inc ∨ (y.e.inc = r.inc ∧ y.e.beat > r.beat)) : riseF c l y = l.set y.id.toNat ⟨y.e.inc,y.e.beat,c⟩ := by unfold riseF; rw [h]; exact if_pos hk
theorem riseF_no {c : Int} {l : List Ris} {y : Itm} {r : Ris} (h : l[y.id.toNat]? = some r) (hk : ¬ (y.e.inc > r.inc ∨ (y.e.inc = r.inc ∧ y.e.beat > r.beat))) : riseF c l y = l := by unfold riseF; rw [h]; exact if_neg hk
noncomputable def takeF (x : Nd) (p : Sta) : Nd :=
 let seen := tableAdd x.seen x.id (marksF (goneAt (joinF x.s p 5)) 5)
 let s := pruneF (joinF x.s p 5) seen
 { x with s := s,t := treeF s,seen := seen,rises := risesF x.clock x.rises s.items }
open Classical in
noncomputable def takeP (x : Nd) (p : Sta) : Nd × Bool := if nodeOk x ∧ stateOk p then (takeF x p,true) else (x,false)
theorem take_no {g x : Nd} {p : Sta} (h : ¬ (nodeOk g ∧ stateOk p)) (hx : x = g) : (x,false) = takeP g p := by rw [hx]; exact (if_neg h).symm
theorem take_yes {g x : Nd} {p : Sta} (h : nodeOk g ∧ stateOk p) (hx : x = takeF g p) : (x,true) = takeP g p := by rw [hx]; exact (if_pos h).symm
theorem take_eq {g y : Nd} {p s1 s2 : Sta} {sn : List (List Int)} {t2 : Tr} {l : List Ris} (hy : y = g) (h1 : s1 = joinF g.s p 5) (h2 : sn = tableAdd g.seen g.id (marksF (goneAt s1) 5)) (h3 : s2 = pruneF s1 sn) (h4 : t2 = treeF s2) (hl : l = risesF g.clock g.rises s2.items) : ({ y with s := s2,t := t2,seen := sn,rises := l } : Nd) = takeF g p := by
 subst hy h1 h2 h3 h4 hl
 rfl
theorem tAdd_big {t : List (List Int)} {k : Int} {ms : List Flr} (hb : bigT t) : bigT (tableAdd t k ms) := by
 unfold tableAdd
 split
 ·rename_i h
  have hk : k.toNat < t.length := by omega
  have hx : t[k.toNat]? = some (t.getD k.toNat []) := by
   rw [List.getD_eq_getElem?_getD,List.getElem?_eq_getElem hk]; rfl
  refine ⟨by rw [putT_len hk]; exact hb.1,fun l hl => ?_⟩
  rcases List.mem_append.1 hl with h1 | h1
  ·exact hb.2 l (List.mem_of_mem_take h1)
  ·rcases List.mem_cons.1 h1 with rfl | h1
   ·rw [addMarks_len]; exact hb.2 _ (List.mem_of_getElem? hx)
   ·exact hb.2 l (List.mem_of_mem_drop h1)
 ·exact hb
theorem tableAdd_big {t r : List (List Int)} {k : Int} {ms : List Flr} (h : r = tableAdd t k ms) (hb : bigT t) : bigT r := by
 rw [h]; exact tAdd_big hb
theorem ac_impl_Take (g : NV) (d : SV) (st : St) (hR : RdN st g) (hD : RdS st d) (hb : bigN g.x) (hbd : bigS d.x) : C 12 [(vNV g),.agg #[vS d.p d.x.items.length,vS d.q d.x.floors.length]] st (fun v s => ∃ (u : NW) (b : Bool),v = .tuple #[(vNV u),vB b] ∧ (u.x,b) = takeP g.x d.x ∧ OwnP s (pcNW u) ∧ NewP st.next (pcNW u) ∧ Pres st s) := by
 refine AC.enterX (i := ⟨[2,3,4,6,7,9],[2,3,4,6,7,9,22,26,28,33,35,38,39,42,43,44,51,53,56,57,65,66,74,75,85,86,88,89,91],[0,1,2,3,4,5,6,7,9,10,20,45,46,47,48,83],[]⟩) [(5,[5],[1,3]),(12,[],[])] Tryz.func12 rfl rfl (by kernel_rfl) (by kernel_rfl) Tryz.ntmps12 (Lb rfl) rfl ?_
 iterate 3 refine ⟨_,rfl,?_⟩
 refine Cm 3 st [Ml 2 0,Ml 3 1,Ml 4 2,(5,vB false)] [(2,0,cNV g),(3,1,cSV d),(4,2,Zn)] fun _ _ => ?_
 refine ⟨_,op_ldo (v := (vNV g)) rfl rfl rfl rfl,?_⟩
 refine ⟨_,rfl,(ac_impl_copyNode g st hR (by first | assumption | omega)).mono ?_⟩
 rintro _ s12 ⟨u12,rfl,h12,hO12,hN12,hP12⟩
 refine ⟨_,rfl,?_⟩
 refine ⟨_,op_stw (vs := cNV u12.v) rfl rfl rfl rfl rfl rfl rfl rfl,?_⟩
 refine Cm 4 s12 [Ml 2 0,Ml 3 1,Ml 4 2,(5,vB false),Ml 6 3] [(2,0,cNV g),(3,1,cSV d),(4,2,Zn),(6,3,cNV u12.v)] fun _ _ => ?_
 refine ⟨_,op_ldo (v := (vNV g)) rfl rfl rfl rfl,?_⟩
 refine ⟨_,rfl,(ac_impl_NodeOk g s12 (hR.pres hP12) (by first | assumption | omega)).mono ?_⟩
 rintro _ s14 ⟨x14,rfl,h14,hP14⟩
 rcases x14 with _|_
 ·replace h14 := fun k => Bool.false_ne_true (h14.2 k)
  iterate 2 refine ⟨_,rfl,?_⟩
  refine Cm 4 s14 [Ml 2 0,Ml 3 1,Ml 4 2,(5,vB false),Ml 6 3,(20,vB true)] [(2,0,cNV g),(3,1,cSV d),(4,2,Zn),(6,3,cNV u12.v)] fun _ _ => ?_
  have hF14 : Frs st s14 (pcNW u12) := ⟨hO12.pres hP14,hN12,hP12.trans hP14⟩
  refine ⟨_,op_ldo (v := (vNV u12.v)) rfl rfl rfl rfl,?_⟩
  refine ⟨_,op_stw (vs := cNV u12.v) rfl rfl rfl rfl rfl rfl rfl rfl,?_⟩
  exact cxs (Rt ⟨u12,false,rfl,take_no (fun k => h14 k.1) h12,hF14.1,hF14.2.1,hF14.2.2⟩)
 ·replace h14 := h14.1 rfl
  refine ⟨_,rfl,?_⟩
  refine ⟨_,Od rfl,?_⟩
  refine ⟨_,rfl,(ac_impl_StateOk d s14 (hD.pres (hP12.trans hP14)) (by first | assumption | omega)).mono ?_⟩
  rintro _ s14 ⟨x18,rfl,h18,rfl⟩
  rcases x18 with _|_
  ·replace h18 := fun k => Bool.false_ne_true (h18.2 k)
   iterate 2 refine ⟨_,rfl,?_⟩
   refine Cm 4 s14 [Ml 2 0,Ml 3 1,Ml 4 2,(5,vB false),Ml 6 3,(20,vB true)] [(2,0,cNV g),(3,1,cSV d),(4,2,Zn),(6,3,cNV u12.v)] fun _ _ => ?_
   have hF14 : Frs st s14 (pcNW u12) := ⟨hO12.pres hP14,hN12,hP12.trans hP14⟩
   refine ⟨_,op_ldo (v := (vNV u12.v)) rfl rfl rfl rfl,?_⟩
   refine ⟨_,op_stw (vs := cNV u12.v) rfl rfl rfl rfl rfl rfl rfl rfl,?_⟩
   exact cxs (Rt ⟨u12,false,rfl,take_no (fun k => h18 k.2) h12,hF14.1,hF14.2.1,hF14.2.2⟩)
  ·replace h18 := h18.1 rfl
   iterate 2 refine ⟨_,rfl,?_⟩
   refine Cm 4 s14 [Ml 2 0,Ml 3 1,Ml 4 2,(5,vB false),Ml 6 3,(20,vB false)] [(2,0,cNV g),(3,1,cSV d),(4,2,Zn),(6,3,cNV u12.v)] fun _ _ => ?_
   have hF14 : Frs st s14 (pcNW u12) := ⟨hO12.pres hP14,hN12,hP12.trans hP14⟩
   refine cxs ?_
   refine ⟨_,rfl,?_⟩
   refine ⟨_,Od rfl,?_⟩
   refine ⟨_,Od rfl,?_⟩
   refine ⟨_,rfl,(ac_impl_stateJoin g.s d s14 (hR.s.pres (hP12.trans hP14)) (hD.pres (hP12.trans hP14)) (hb.s) (by first | assumption | omega)).mono ?_⟩
   rintro _ s25 ⟨u25,rfl,h25,hO25,hN25,hP25⟩
   refine ⟨_,rfl,?_⟩
   refine ⟨_,Os rfl,?_⟩
   refine Cm 5 s25 [Ml 2 0,Ml 4 2,(5,vB false),Ml 6 3,Ml 7 4] [(2,0,cNV g),(4,2,Zn),(6,3,cNV u12.v),(7,4,cSV u25)] fun _ _ => ?_
   have hk25 : stateOk u25.x := by rw [h25]; exact stateOk_join h14.s h18
   have hb25 : bigS u25.x := by rw [h25]; exact bigS_join hb.s hbd
   have hml := marksF_len (goneAt u25.x) 5
   refine ⟨_,rfl,?_⟩
   refine ⟨_,Od rfl,?_⟩
   refine ⟨ld_own rfl rfl rfl,?_⟩
   refine ⟨_,rfl,?_⟩
   refine ⟨_,Od rfl,?_⟩
   refine ⟨ld_own rfl rfl rfl,?_⟩
   refine ⟨_,Od rfl,?_⟩
   refine ⟨_,rfl,(ac_impl_MarksOf u25 s25 (hO25.rdS) (by first | assumption | omega)).mono ?_⟩
   rintro _ s31 ⟨q31,rfl,hO31,hP31,hN31⟩
   refine ⟨hP31.2,?_⟩
   refine ⟨_,rfl,(uc_impl_TableAdd g.seen g.id q31 (marksF (goneAt u25.x) 5) s31 (hR.seen.pres ((hF14.2.2.trans hP25).trans hP31)) (hO31.rows len_cFlr) hb.seen (by unfold szOk; omega)).mono ?_⟩
   rintro _ s32 ⟨u32,rfl,h32,h32',hO32,hN32,hP32⟩
   refine ⟨_,rfl,?_⟩
   refine ⟨_,Os rfl,?_⟩
   refine Cm 5 s32 [Ml 2 0,Ml 4 2,(5,vB false),Ml 6 3,Ml 7 4] [(2,0,cNV g),(4,2,Zn),(6,3,Nv u12 [(11,vS u32.p u32.t.length)]),(7,4,cSV u25)] fun _ _ => ?_
   have hF32 : Frs st s32 (pcNW { u12 with seen := u32 }) := (hF14.later (hP25.trans hP31)).ndE ⟨hO32,hN32,hP32⟩
   have hbt32 : bigT u32.x := tableAdd_big h32 hb.seen
   refine ⟨_,Od rfl,?_⟩
   refine ⟨_,rfl,?_⟩
   refine ⟨_,Od rfl,?_⟩
   refine ⟨_,rfl,(uc_impl_Prune u25 u32 s32 (hO25.rdS.pres (hP31.trans hP32)) hO32.rdT hb25 hbt32).mono ?_⟩
   rintro _ s37 ⟨u37,rfl,h37,hO37,hN37,hP37⟩
   refine ⟨_,rfl,?_⟩
   refine ⟨_,Os rfl,?_⟩
   refine Cm 5 s37 [Ml 2 0,Ml 4 2,(5,vB false),Ml 6 3] [(2,0,cNV g),(4,2,Zn),(6,3,Nv u12 [(2,vS u37.p u37.x.items.length),(3,vS u37.q u37.x.floors.length),(11,vS u32.p u32.t.length)])] fun _ _ => ?_
   have hF37 : Frs st s37 (pcNW { u12 with seen := u32,s := u37 }) := hF32.ndS ⟨hO37,hN37,hP37⟩
   have hk37 : stateOk u37.x := ok_prune h37 hk25
   have hb37 : bigS u37.x := big_prune h37 hb25
   refine ⟨_,rfl,?_⟩
   refine ⟨_,Od rfl,?_⟩
   refine ⟨_,rfl,(ac_impl_TreeOf u37 s37 hO37.rdS hb37).mono ?_⟩
   rintro _ s41 ⟨u41,rfl,h41,hO41,hN41,hP41⟩
   refine ⟨_,rfl,?_⟩
   refine ⟨_,Os rfl,?_⟩
   refine Cm 5 s41 [Ml 2 0,Ml 4 2,(5,vB false),Ml 6 3] [(2,0,cNV g),(4,2,Zn),(6,3,Nv u12 [(2,vS u37.p u37.x.items.length),(3,vS u37.q u37.x.floors.length),(4,vS u41.p u41.l.length),(5,vI u41.root),(11,vS u32.p u32.t.length)])] fun _ _ => ?_
   have hF41 : Frs st s41 (pcNW { u12 with seen := u32,s := u37,t := u41 }) := hF37.ndT (Frs.one hO41 hN41 hP41)
   have hR37 := hO37.rdS.pres hP41
   have hr5 : g.rises.l.length = 5 := h14.rises.1
   have hr12 : u12.rises.l = g.rises.l := congrArg Nd.rises h12
   have hi37 : u37.x.items.length ≤ 1048576 := hb37.1
   iterate 2 refine ⟨_,rfl,?_⟩
   refine ⟨_,Od rfl,?_⟩
   refine ⟨_,rfl,?_⟩
   refine Cm 5 s41 [Ml 2 0,Ml 4 2,(5,vB false),Ml 6 3,(45,vS u37.p u37.x.items.length),(46,vI (u37.x.items.length : Int)),(47,vI 0)] [(2,0,cNV g),(4,2,Zn),(6,3,Nv u12 [(2,vS u37.p u37.x.items.length),(3,vS u37.q u37.x.floors.length),(4,vS u41.p u41.l.length),(5,vI u41.root),(11,vS u32.p u32.t.length)])] fun _ _ => ?_
   refine AW.loopM (fun x : Nat × List Ris => [(2,vL 2 0 (0)),(4,vL 4 0 (2)),(5,vB false),(6,vL 6 0 (3)),(45,vS u37.p u37.x.items.length),(46,vI (u37.x.items.length : Int)),(47,vI (x.1 : Int))]) (fun x : Nat × List Ris => [(2,0,cNV g),(4,2,[vI 0,vI 0,.slice none 0 0,.slice none 0 0,.slice none 0 0,vI 0,vI 0,vI 0,.slice none 0 0,.slice none 0 0,.slice none 0 0,.slice none 0 0,vI 0,vI 0,.slice none 0 0,vI 0,vI 0,vI 0,.slice none 0 0]),(6,3,[vI u12.id,vI u12.n,vS u37.p u37.x.items.length,vS u37.q u37.x.floors.length,vS u41.p u41.l.length,vI u41.root,vI u12.g.cap,vI u12.g.frm,vS u12.g.p u12.g.l.length,vS u12.got.p u12.got.l.length,vS u12.acked.p u12.acked.l.length,vS u32.p u32.t.length,vI u12.num,vI u12.slots,vS u12.sess.p u12.sess.l.length,vI u12.wait,vI u12.limit,vI u12.clock,vS u12.rises.p x.2.length])]) (fun m (x : Nat × List Ris) st' => m = u37.x.items.length - x.1 ∧ x.1 ≤ u37.x.items.length ∧ x.2 = risesF g.clock g.rises.l (u37.x.items.take x.1) ∧ Frs st st' (pcNW { u12 with seen := u32,s := u37,t := u41,rises := ⟨u12.rises.p,x.2⟩ })) (0,u12.rises.l) _ ⟨rfl,rfl,rfl,rfl,rfl,rfl,rfl,trivial⟩ ⟨rfl,rfl,rfl,trivial⟩ ⟨rfl,Nat.zero_le _,hr12,hF41⟩ ?_
   rintro m ⟨i,l⟩ ρ0 ff gg st' ⟨rfl,hi,hv,hF⟩
   simp only at hi hv hF
   have hll : l.length = 5 := by rw [hv,risesF_len]; exact hr5
   refine ⟨_,rfl,?_⟩
   rintro (_|_) h48
   ·replace h48 : ¬ ((i : Int) < (u37.x.items.length : Int)) := of_decide_eq_false h48
    refine Cm gg st' [Ml 2 0,Ml 4 2,(5,vB false),Ml 6 3,(45,vS u37.p u37.x.items.length),(46,vI (u37.x.items.length : Int)),(47,vI (i : Int)),(48,vB false)] [(2,0,cNV g),(4,2,Zn),(6,3,Nv u12 [(2,vS u37.p u37.x.items.length),(3,vS u37.q u37.x.floors.length),(4,vS u41.p u41.l.length),(5,vI u41.root),(11,vS u32.p u32.t.length),(18,vS u12.rises.p l.length)])] fun _ _ => ?_
    refine cxs ?_
    refine ⟨_,op_ldo (v := .agg #[vI u12.id,vI u12.n,vS u37.p u37.x.items.length,vS u37.q u37.x.floors.length,vS u41.p u41.l.length,vI u41.root,vI u12.g.cap,vI u12.g.frm,vS u12.g.p u12.g.l.length,vS u12.got.p u12.got.l.length,vS u12.acked.p u12.acked.l.length,vS u32.p u32.t.length,vI u12.num,vI u12.slots,vS u12.sess.p u12.sess.l.length,vI u12.wait,vI u12.limit,vI u12.clock,vS u12.rises.p l.length]) rfl rfl rfl rfl,?_⟩
    refine ⟨_,op_stw (vs := [vI u12.id,vI u12.n,vS u37.p u37.x.items.length,vS u37.q u37.x.floors.length,vS u41.p u41.l.length,vI u41.root,vI u12.g.cap,vI u12.g.frm,vS u12.g.p u12.g.l.length,vS u12.got.p u12.got.l.length,vS u12.acked.p u12.acked.l.length,vS u32.p u32.t.length,vI u12.num,vI u12.slots,vS u12.sess.p u12.sess.l.length,vI u12.wait,vI u12.limit,vI u12.clock,vS u12.rises.p l.length]) rfl rfl rfl rfl rfl rfl rfl rfl,?_⟩
    exact cxs (Rt ⟨{ u12 with seen := u32,s := u37,t := u41,rises := ⟨u12.rises.p,l⟩ },true,rfl,take_yes ⟨h14,h18⟩ (take_eq (y := u12.x) h12 h25 h32 h37 h41 (by rw [hv,show i = u37.x.items.length by omega,List.take_length])),hF.1,hF.2.1,hF.2.2⟩)
   ·replace h48 : (i : Int) < (u37.x.items.length : Int) := of_decide_eq_true h48
    refine Cm gg st' [Ml 2 0,Ml 4 2,(5,vB false),Ml 6 3,(45,vS u37.p u37.x.items.length),(46,vI (u37.x.items.length : Int)),(47,vI (i : Int)),(48,vB true)] [(2,0,cNV g),(4,2,Zn),(6,3,Nv u12 [(2,vS u37.p u37.x.items.length),(3,vS u37.q u37.x.floors.length),(4,vS u41.p u41.l.length),(5,vI u41.root),(11,vS u32.p u32.t.length),(18,vS u12.rises.p l.length)])] fun _ _ => ?_
    have hO : OwnR st' 3 cRise u12.rises.p l := hF.ownRis
    have hR2 : RdS st' u37 := hF.1.rdN.s
    refine cxs ?_
    refine op_at i hR2.1 (by omega) rfl rfl rfl rfl rfl rfl rfl ?_
    intro x49 b49 d49 k49 hy49 hb49 hm49 hc49 ho49
    refine ⟨_,op_lda rfl rfl rfl rfl rfl hm49 hc49 rfl,?_⟩
    refine ⟨_,rfl,?_⟩
    refine ⟨_,Os rfl,?_⟩
    refine Cm (gg + 1) st' [Ml 2 0,Ml 4 2,(5,vB false),Ml 6 3,Ml 9 gg,(45,vS u37.p u37.x.items.length),(46,vI (u37.x.items.length : Int)),(47,vI (i : Int)),(48,vB true)] [(2,0,cNV g),(4,2,Zn),(6,3,Nv u12 [(2,vS u37.p u37.x.items.length),(3,vS u37.q u37.x.floors.length),(4,vS u41.p u41.l.length),(5,vI u41.root),(11,vS u32.p u32.t.length),(18,vS u12.rises.p l.length)]),(9,gg,[vI x49.id,vI x49.e.inc,vI x49.e.rank,vI x49.e.beat,vI x49.e.ver,.string x49.e.data])] fun _ _ => ?_
    have hid : 0 ≤ x49.id ∧ x49.id ≤ 4 := (hk37.1 i x49 hy49).1
    obtain ⟨a,ha⟩ := hO.some (by omega)
    obtain ⟨b1,o1,k1,r,hpe,hr,hm1,hc1,hb1⟩ := (hO.rows len_cRise).atB (j := x49.id.toNat) (by omega)
    obtain ⟨rfl,rfl⟩ : a = b1 ∧ 0 = o1 := by rw [ha] at hpe; injection hpe with hpe; injection hpe with e1 e2; exact ⟨e1,e2⟩
    refine ⟨_,rfl,?_⟩
    refine ⟨_,Od rfl,?_⟩
    refine ⟨_,rfl,?_⟩
    refine ⟨_,Od rfl,?_⟩
    refine ⟨_,op_idx (j := x49.id) (n := l.length) (q := ⟨a,0,none⟩) rfl (congrArg (fun v => vS v l.length) ha) rfl rfl rfl hid.1 (by omega),?_⟩
    refine Cm (gg + 1) st' [Ml 2 0,Ml 4 2,(5,vB false),Ml 6 3,Ml 9 gg,(10,vP a (0 + x49.id.toNat * 3)),(45,vS u37.p u37.x.items.length),(46,vI (u37.x.items.length : Int)),(47,vI (i : Int)),(48,vB true)] [(2,0,cNV g),(4,2,Zn),(6,3,Nv u12 [(2,vS u37.p u37.x.items.length),(3,vS u37.q u37.x.floors.length),(4,vS u41.p u41.l.length),(5,vI u41.root),(11,vS u32.p u32.t.length),(18,vS u12.rises.p l.length)]),(9,gg,[vI x49.id,vI x49.e.inc,vI x49.e.rank,vI x49.e.beat,vI x49.e.ver,.string x49.e.data])] fun _ _ => ?_
    iterate 2 refine ⟨_,rfl,?_⟩
    refine ⟨_,Od rfl,?_⟩
    iterate 2 refine ⟨_,rfl,?_⟩
    refine ⟨_,op_ldc (i := 0) rfl rfl rfl rfl hm1 hc1 rfl rfl,?_⟩
    refine ⟨_,rfl,?_⟩
    rintro (_|_) h63
    ·replace h63 : ¬ (x49.e.inc > r.inc) := of_decide_eq_false h63
     iterate 2 refine ⟨_,rfl,?_⟩
     refine ⟨_,Od rfl,?_⟩
     iterate 2 refine ⟨_,rfl,?_⟩
     refine ⟨_,op_ldc (i := 0) rfl rfl rfl rfl hm1 hc1 rfl rfl,?_⟩
     refine ⟨_,rfl,?_⟩
     rintro (_|_) h72
     ·replace h72 : ¬ (x49.e.inc = r.inc) := beq_eq_false_iff_ne.1 h72
      iterate 2 refine ⟨_,rfl,?_⟩
      refine Cm (gg + 1) st' [Ml 2 0,Ml 4 2,(5,vB false),Ml 6 3,Ml 9 gg,(10,vP a (0 + x49.id.toNat * 3)),(45,vS u37.p u37.x.items.length),(46,vI (u37.x.items.length : Int)),(47,vI (i : Int)),(48,vB true),(83,vB false)] [(2,0,cNV g),(4,2,Zn),(6,3,Nv u12 [(2,vS u37.p u37.x.items.length),(3,vS u37.q u37.x.floors.length),(4,vS u41.p u41.l.length),(5,vI u41.root),(11,vS u32.p u32.t.length),(18,vS u12.rises.p l.length)]),(9,gg,[vI x49.id,vI x49.e.inc,vI x49.e.rank,vI x49.e.beat,vI x49.e.ver,.string x49.e.data])] fun _ _ => ?_
      refine cxs ?_
      have ew95 : IntKind.wrap .i64 ((i : Int) + (1)) = ((i + 1 : Nat) : Int) := (wrap_i64 (by omega) (by omega)).trans (by omega)
      refine ⟨_,rfl,?_⟩
      exact ⟨(i + 1,l),u37.x.items.length - (i + 1),by omega,⟨rfl,rfl,rfl,rfl,rfl,rfl,congrArg (Value.int .i64) ew95,trivial⟩,⟨rfl,rfl,rfl,trivial⟩,rfl,by simp only; omega,by rw [risesF_succ hy49,← hv]; exact (riseF_no hr (fun k => k.elim h63 fun k => h72 k.1)).symm,hF⟩
     ·replace h72 : x49.e.inc = r.inc := beq_iff_eq.1 h72
      refine ⟨_,rfl,?_⟩
      refine owE_cut [(2,vL 2 0 (0)),(4,vL 4 0 (2)),(5,vB false),(6,vL 6 0 (3)),(9,vL 9 0 (gg)),(10,vP a (0 + x49.id.toNat * 3)),(45,vS u37.p u37.x.items.length),(46,vI (u37.x.items.length : Int)),(47,vI (i : Int)),(48,vB true),(64,vB false),(73,vB true),(74,vL 9 1 (gg))] ⟨rfl,rfl,rfl,rfl,rfl,rfl,rfl,rfl,rfl,rfl,rfl,rfl,rfl,trivial⟩ fun _ => ?_
      refine ⟨_,rfl,?_⟩
      refine ⟨_,Od rfl,?_⟩
      iterate 2 refine ⟨_,rfl,?_⟩
      refine ⟨_,op_ldc (i := 1) rfl rfl rfl rfl hm1 hc1 rfl rfl,?_⟩
      refine ⟨_,rfl,?_⟩
      rintro (_|_) h81
      ·replace h81 : ¬ (x49.e.beat > r.beat) := of_decide_eq_false h81
       iterate 2 refine ⟨_,rfl,?_⟩
       refine Cm (gg + 1) st' [Ml 2 0,Ml 4 2,(5,vB false),Ml 6 3,Ml 9 gg,(10,vP a (0 + x49.id.toNat * 3)),(45,vS u37.p u37.x.items.length),(46,vI (u37.x.items.length : Int)),(47,vI (i : Int)),(48,vB true),(83,vB false)] [(2,0,cNV g),(4,2,Zn),(6,3,Nv u12 [(2,vS u37.p u37.x.items.length),(3,vS u37.q u37.x.floors.length),(4,vS u41.p u41.l.length),(5,vI u41.root),(11,vS u32.p u32.t.length),(18,vS u12.rises.p l.length)]),(9,gg,[vI x49.id,vI x49.e.inc,vI x49.e.rank,vI x49.e.beat,vI x49.e.ver,.string x49.e.data])] fun _ _ => ?_
       refine cxs ?_
       have ew95 : IntKind.wrap .i64 ((i : Int) + (1)) = ((i + 1 : Nat) : Int) := (wrap_i64 (by omega) (by omega)).trans (by omega)
       refine ⟨_,rfl,?_⟩
       exact ⟨(i + 1,l),u37.x.items.length - (i + 1),by omega,⟨rfl,rfl,rfl,rfl,rfl,rfl,congrArg (Value.int .i64) ew95,trivial⟩,⟨rfl,rfl,rfl,trivial⟩,rfl,by simp only; omega,by rw [risesF_succ hy49,← hv]; exact (riseF_no hr (fun k => k.elim h63 fun k => h81 k.2)).symm,hF⟩
      ·replace h81 : x49.e.beat > r.beat := of_decide_eq_true h81
       iterate 2 refine ⟨_,rfl,?_⟩
       refine Cm (gg + 1) st' [Ml 2 0,Ml 4 2,(5,vB false),Ml 6 3,Ml 9 gg,(10,vP a (0 + x49.id.toNat * 3)),(45,vS u37.p u37.x.items.length),(46,vI (u37.x.items.length : Int)),(47,vI (i : Int)),(48,vB true),(83,vB true)] [(2,0,cNV g),(4,2,Zn),(6,3,Nv u12 [(2,vS u37.p u37.x.items.length),(3,vS u37.q u37.x.floors.length),(4,vS u41.p u41.l.length),(5,vI u41.root),(11,vS u32.p u32.t.length),(18,vS u12.rises.p l.length)]),(9,gg,[vI x49.id,vI x49.e.inc,vI x49.e.rank,vI x49.e.beat,vI x49.e.ver,.string x49.e.data])] fun _ _ => ?_
       iterate 2 refine ⟨_,rfl,?_⟩
       refine ⟨_,Od rfl,?_⟩
       iterate 2 refine ⟨_,rfl,?_⟩
       refine ⟨_,Od rfl,?_⟩
       refine ⟨_,rfl,?_⟩
       refine ⟨_,Od rfl,?_⟩
       iterate 2 refine ⟨_,rfl,?_⟩
       refine op_put (st := st') (f := cRise) (j := x49.id.toNat) (l := l) (y := (⟨x49.e.inc,x49.e.beat,g.clock⟩ : Ris)) (p := u12.rises.p) (d := 0 + x49.id.toNat * 3) rfl rfl (Nat.zero_add _) rfl rfl len_cRise rfl rfl (by omega) hO ha ?_
       intro s94 hO94 hP94 hn94
       refine Cm (gg + 1) s94 [Ml 2 0,Ml 4 2,(5,vB false),Ml 6 3,Ml 9 gg,(10,vP a (0 + x49.id.toNat * 3)),(45,vS u37.p u37.x.items.length),(46,vI (u37.x.items.length : Int)),(47,vI (i : Int)),(48,vB true),(83,vB true)] [(2,0,cNV g),(4,2,Zn),(6,3,Nv u12 [(2,vS u37.p u37.x.items.length),(3,vS u37.q u37.x.floors.length),(4,vS u41.p u41.l.length),(5,vI u41.root),(11,vS u32.p u32.t.length),(18,vS u12.rises.p l.length)]),(9,gg,[vI x49.id,vI x49.e.inc,vI x49.e.rank,vI x49.e.beat,vI x49.e.ver,.string x49.e.data])] fun _ _ => ?_
       have ew95 : IntKind.wrap .i64 ((i : Int) + (1)) = ((i + 1 : Nat) : Int) := (wrap_i64 (by omega) (by omega)).trans (by omega)
       refine ⟨_,rfl,?_⟩
       exact ⟨(i + 1,l.set x49.id.toNat ⟨x49.e.inc,x49.e.beat,g.clock⟩),u37.x.items.length - (i + 1),by omega,⟨rfl,rfl,rfl,rfl,rfl,rfl,congrArg (Value.int .i64) ew95,trivial⟩,⟨rfl,rfl,(show some (3,[vI u12.id,vI u12.n,vS u37.p u37.x.items.length,vS u37.q u37.x.floors.length,vS u41.p u41.l.length,vI u41.root,vI u12.g.cap,vI u12.g.frm,vS u12.g.p u12.g.l.length,vS u12.got.p u12.got.l.length,vS u12.acked.p u12.acked.l.length,vS u32.p u32.t.length,vI u12.num,vI u12.slots,vS u12.sess.p u12.sess.l.length,vI u12.wait,vI u12.limit,vI u12.clock,vS u12.rises.p l.length]) = _ by rw [List.length_set]),trivial⟩,rfl,by simp only; omega,by rw [risesF_succ hy49,← hv]; exact (riseF_yes hr (.inr ⟨h72,h81⟩)).symm,hF.ris hP94 hO94⟩
    ·replace h63 : x49.e.inc > r.inc := of_decide_eq_true h63
     refine ⟨_,rfl,?_⟩
     refine Cm (gg + 1) st' [Ml 2 0,Ml 4 2,(5,vB false),Ml 6 3,Ml 9 gg,(10,vP a (0 + x49.id.toNat * 3)),(45,vS u37.p u37.x.items.length),(46,vI (u37.x.items.length : Int)),(47,vI (i : Int)),(48,vB true),(83,vB true)] [(2,0,cNV g),(4,2,Zn),(6,3,Nv u12 [(2,vS u37.p u37.x.items.length),(3,vS u37.q u37.x.floors.length),(4,vS u41.p u41.l.length),(5,vI u41.root),(11,vS u32.p u32.t.length),(18,vS u12.rises.p l.length)]),(9,gg,[vI x49.id,vI x49.e.inc,vI x49.e.rank,vI x49.e.beat,vI x49.e.ver,.string x49.e.data])] fun _ _ => ?_
     iterate 2 refine ⟨_,rfl,?_⟩
     refine ⟨_,Od rfl,?_⟩
     iterate 2 refine ⟨_,rfl,?_⟩
     refine ⟨_,Od rfl,?_⟩
     refine ⟨_,rfl,?_⟩
     refine ⟨_,Od rfl,?_⟩
     iterate 2 refine ⟨_,rfl,?_⟩
     refine op_put (st := st') (f := cRise) (j := x49.id.toNat) (l := l) (y := (⟨x49.e.inc,x49.e.beat,g.clock⟩ : Ris)) (p := u12.rises.p) (d := 0 + x49.id.toNat * 3) rfl rfl (Nat.zero_add _) rfl rfl len_cRise rfl rfl (by omega) hO ha ?_
     intro s94 hO94 hP94 hn94
     refine Cm (gg + 1) s94 [Ml 2 0,Ml 4 2,(5,vB false),Ml 6 3,Ml 9 gg,(10,vP a (0 + x49.id.toNat * 3)),(45,vS u37.p u37.x.items.length),(46,vI (u37.x.items.length : Int)),(47,vI (i : Int)),(48,vB true),(83,vB true)] [(2,0,cNV g),(4,2,Zn),(6,3,Nv u12 [(2,vS u37.p u37.x.items.length),(3,vS u37.q u37.x.floors.length),(4,vS u41.p u41.l.length),(5,vI u41.root),(11,vS u32.p u32.t.length),(18,vS u12.rises.p l.length)]),(9,gg,[vI x49.id,vI x49.e.inc,vI x49.e.rank,vI x49.e.beat,vI x49.e.ver,.string x49.e.data])] fun _ _ => ?_
     have ew95 : IntKind.wrap .i64 ((i : Int) + (1)) = ((i + 1 : Nat) : Int) := (wrap_i64 (by omega) (by omega)).trans (by omega)
     refine ⟨_,rfl,?_⟩
     exact ⟨(i + 1,l.set x49.id.toNat ⟨x49.e.inc,x49.e.beat,g.clock⟩),u37.x.items.length - (i + 1),by omega,⟨rfl,rfl,rfl,rfl,rfl,rfl,congrArg (Value.int .i64) ew95,trivial⟩,⟨rfl,rfl,(show some (3,[vI u12.id,vI u12.n,vS u37.p u37.x.items.length,vS u37.q u37.x.floors.length,vS u41.p u41.l.length,vI u41.root,vI u12.g.cap,vI u12.g.frm,vS u12.g.p u12.g.l.length,vS u12.got.p u12.got.l.length,vS u12.acked.p u12.acked.l.length,vS u32.p u32.t.length,vI u12.num,vI u12.slots,vS u12.sess.p u12.sess.l.length,vI u12.wait,vI u12.limit,vI u12.clock,vS u12.rises.p l.length]) = _ by rw [List.length_set]),trivial⟩,rfl,by simp only; omega,by rw [risesF_succ hy49,← hv]; exact (riseF_yes hr (.inl h63)).symm,hF.ris hP94 hO94⟩
theorem Frs.st0 {a : St} : Frs a a (pcS ⟨none,none,nilS⟩) := ⟨pcS_nil,newS_nil,Pres.refl _⟩
theorem Frs.renew {s0 st st' : St} {a b : List Pc} {c d : Pc} (h : Frs s0 st (a ++ c :: b)) (hp : Pr c.p st st') (hd : d.own st') (hn : New st.next d.p) : Frs s0 st' (a ++ d :: b) :=
 ⟨h.1.renew hp hd hn,h.2.1.left.app (NewP.cons (hn.le h.2.2.1) (NewP.right (a := [c]) h.2.1.right)),hp.pres h.2.2 (h.2.1.right c (List.mem_cons_self ..))⟩
theorem Frs.update {s0 st st' : St} {a b : List Pc} {c d : Pc} (h : Frs s0 st (a ++ c :: b)) (hp : Pr c.p st st') (hd : d.own st') (he : d.p = c.p) : Frs s0 st' (a ++ d :: b) :=
 ⟨h.1.update hp hd he,h.2.1.left.app (NewP.cons (he ▸ h.2.1.right c (List.mem_cons_self ..)) (NewP.right (a := [c]) h.2.1.right)),hp.pres h.2.2 (h.2.1.right c (List.mem_cons_self ..))⟩
theorem Frs.part {s0 st st' : St} {v : MV} {u : SV} (h : Frs s0 st (pcMV v)) (hF : Frs st st' (pcS u)) : Frs s0 st' (pcMV { v with part := u }) := by
 have e : ∀ x : SV,pcMV { v with part := x } = (pcIs v.tree.toRV ++ (pcIs v.vec ++ pcIs v.leaves)) ++ (pcS x ++ pcFV v.marks) := fun x => by simp only [List.append_assoc]
 rw [e]
 exact Frs.swap (c := pcS v.part) (by rw [← e]; exact h) hF
theorem Frs.tree {s0 st st' : St} {v : MV} {u : TV} (h : Frs s0 st (pcMV v)) (hF : Frs st st' (pcIs u.toRV)) : Frs s0 st' (pcMV { v with tree := u }) :=
 Frs.swap (a := []) (c := pcIs v.tree.toRV) h hF
end Go.Proofs.YtpnolkhfeliehaaGreat.AM
namespace Go.Proofs.YtpnolkhfeliehaaGreat.AM
open Go Go.Proofs
set_option linter.unusedVariables false
set_option linter.unusedSimpArgs false
theorem entMax_or (a b : Ent) : entMax a b = a ∨ entMax a b = b := by unfold entMax; split; exact .inr rfl; exact .inl rfl
def vE (e : Ent) : Prop := e = zEnt ∨ entOk e
theorem vE.max {a b : Ent} (h : vE a) (k : vE b) : vE (entMax a b) := by
 rcases entMax_or a b with e | e <;> rw [e] <;> assumption
theorem vE.inc {a : Ent} (h : vE a) : 0 ≤ a.inc := by
 rcases h with rfl | h
 ·exact Int.le_refl _
 ·have := h.1.1; omega
theorem vE.zero {a : Ent} (h : vE a) (h0 : a.inc ≤ 0) : a = zEnt := by
 rcases h with h | h
 ·exact h
 ·have := h.1.1; omega
def cut (f : Int) (e : Ent) : Ent := if e.inc > f then e else zEnt
end Go.Proofs.YtpnolkhfeliehaaGreat.AM
namespace Go.Proofs.YtpnolkhfeliehaaGreat.AM
open Go Go.Proofs
set_option linter.unusedVariables false
set_option linter.unusedSimpArgs false
set_option maxRecDepth 100000
set_option maxHeartbeats 4000000
theorem mem_ps {q : Option Addr} {t : List RV} {p : Option Addr} (h : p ∈ t.map (·.p)) : ∃ c ∈ pcT q t,c.p = p := by
 obtain ⟨r,hr,rfl⟩ := List.mem_map.1 h
 exact ⟨pcRV r,List.mem_cons_of_mem _ (List.mem_map_of_mem hr),rfl⟩
theorem OwnP.after {st0 s s' : St} {l : List Pc} {q : Option Addr} {t : List RV} {n : Nat} (h : OwnP s l) (h0 : OwnP st0 l) (hn : st0.next ≤ n) (hN : NewP n (pcT q t)) (hL : PrL (t.map (·.p)) s s') : OwnP s' l :=
 h.prl hL fun c hc p hp => by
  obtain ⟨d,hd,rfl⟩ := mem_ps (q := q) hp
  exact (Dis.of (((h0.1 c hc).old).le hn) (hN d hd)).symm
theorem OwnP.before {st0 s s' : St} {l : List Pc} {q : Option Addr} {t : List RV} {n : Nat} (h : OwnP s l) (hN : NewP n l) (h0 : OwnP st0 (pcT q t)) (hn : st0.next ≤ n) (hL : PrL (t.map (·.p)) s s') : OwnP s' l :=
 h.prl hL fun c hc p hp => by
  obtain ⟨d,hd,rfl⟩ := mem_ps (q := q) hp
  exact Dis.of (((h0.1 d hd).old).le hn) (hN c hc)
end Go.Proofs.YtpnolkhfeliehaaGreat.AM
namespace Go.Proofs.YtpnolkhfeliehaaGreat.AM
open Go Go.Proofs
set_option linter.unusedVariables false
set_option linter.unusedSimpArgs false
theorem vE.rank {e : Ent} (h : vE e) (h1 : 1 ≤ e.inc) : 0 ≤ e.rank ∧ e.rank ≤ 1 := by
 rcases h with rfl | h
 ·simp [zEnt] at h1
 ·exact h.2.1
end Go.Proofs.YtpnolkhfeliehaaGreat.AM
namespace Go.Proofs.YtpnolkhfeliehaaGreat.AM
open Go Go.Proofs
set_option linter.unusedVariables false
set_option linter.unusedSimpArgs false
set_option maxRecDepth 100000
set_option maxHeartbeats 4000000
def Cur (st : St) (c : Nat) (p : Option Addr) (bs : List Int) : Prop := c < st.next ∧ ∃ (z : Nat) (i : Nat) (h : Int),st.mem c = some ⟨true,z,[.slice p bs.length bs.length,.int .i64 i,.int .i64 h]⟩ ∧ Ints st .u8 p bs ∧ (bs.length = 0 ∨ ∀ q,p = some q → q.block ≠ c) ∧ i ≤ bs.length
def PresC (c : Nat) (st st' : St) : Prop := st.next ≤ st'.next ∧ ∀ a,a < st.next → a ≠ c → st'.mem a = st.mem a
theorem PresC.refl (c : Nat) (st : St) : PresC c st st := ⟨Nat.le_refl _,fun _ _ _ => rfl⟩
theorem PresC.trans {c : Nat} {x y z : St} (h : PresC c x y) (k : PresC c y z) : PresC c x z := ⟨Nat.le_trans h.1 k.1,fun a ha hc => (k.2 a (Nat.lt_of_lt_of_le ha h.1) hc).trans (h.2 a ha hc)⟩
theorem PresC.ints {c : Nat} {st st' : St} {k : IntKind} {p : Option Addr} {l : List Int} (h : PresC c st st') (hi : Ints st k p l) (hp : l.length = 0 ∨ ∀ q,p = some q → q.block ≠ c) : Ints st' k p l := by
 rcases hi with hi | ⟨b,off,blk,rfl,hm,hb,hc⟩
 ·exact .inl hi
 rcases hp with h0 | hp
 ·exact .inl h0
 ·exact .inr ⟨b,off,blk,rfl,(h.2 b hb (hp _ rfl)).trans hm,Nat.lt_of_lt_of_le hb h.1,hc⟩
theorem PresC.own {c : Nat} {st st' : St} {k : IntKind} {p : Option Addr} {l : List Int} (h : PresC c st st') (hi : Own st k p l) (hp : ∀ q,p = some q → q.block ≠ c) : Own st' k p l := by
 rcases hi with ⟨rfl,rfl⟩ | ⟨a,rfl,ha,hm⟩
 ·exact .inl ⟨rfl,rfl⟩
 ·exact .inr ⟨a,rfl,Nat.lt_of_lt_of_le ha h.1,(h.2 a ha (hp _ rfl)).trans hm⟩
theorem Pres.c {c : Nat} {st st' : St} (h : Pres st st') : PresC c st st' := ⟨h.1,fun a ha _ => h.2 a ha⟩
theorem Cur.pres {c : Nat} {st st' : St} {bs : List Int} {p : Option Addr} (h : Pres st st') (hc : Cur st c p bs) : Cur st' c p bs := by
 obtain ⟨h1,z,i,x,hm,hI,hp,hi⟩ := hc
 exact ⟨Nat.lt_of_lt_of_le h1 h.1,z,i,x,(h.2 c h1).trans hm,h.ints hI,hp,hi⟩
theorem Cur.grow {c : Nat} {p q : Option Addr} {st0 st1 st2 : St} {bs : List Int} (h0 : Cur st0 c p bs) (h1 : PresC c st0 st1) (hc : Cur st1 c p bs) (h2 : ∀ a,a < st1.next → (∀ r,q = some r → a ≠ r.block) → st2.mem a = st1.mem a) (hn : st1.next ≤ st2.next) (hq : ∀ r,q = some r → st0.next ≤ r.block) : Cur st2 c p bs := by
 obtain ⟨hlt,_,_,_,_,hI,hp,_⟩ := h0
 obtain ⟨hl,z,i,h,hm,_,_,hi⟩ := hc
 have hP : PresC c st0 st2 := ⟨Nat.le_trans h1.1 hn,fun a ha hne => (h2 a (Nat.lt_of_lt_of_le ha h1.1) fun r hr he => by have := hq r hr; omega).trans (h1.2 a ha hne)⟩
 exact ⟨Nat.lt_of_lt_of_le hl hn,z,i,h,(h2 c hl fun r hr he => by have := hq r hr; omega).trans hm,hP.ints hI hp,hp,hi⟩
theorem PresC.of {c : Nat} {st st' : St} : PresC c st st' ↔ Pr (some ⟨c,0,none⟩) st st' :=
 ⟨fun h => ⟨h.1,fun a ha hn => h.2 a ha (hn _ rfl)⟩,fun h => ⟨h.1,fun a ha hn => h.2 a ha fun q hq => by injection hq with hq; subst hq; exact hn⟩⟩
theorem PresC.pres {c : Nat} {st st1 st2 : St} (h : Pres st st1) (k : PresC c st1 st2) (hc : st.next ≤ c) : Pres st st2 := ⟨Nat.le_trans h.1 k.1,fun a ha => (k.2 a (Nat.lt_of_lt_of_le ha h.1) (by omega)).trans (h.2 a ha)⟩
def NC (c : Nat) (q : Option Addr) : Prop := ∀ a,q = some a → a.block ≠ c
theorem NC.new {c n : Nat} {q : Option Addr} (hN : New n q) (h : c < n) : NC c q := fun a ha => Nat.ne_of_gt (Nat.lt_of_lt_of_le h (hN a ha))
theorem Cur.lt {st : St} {c : Nat} {p : Option Addr} {bs : List Int} (h : Cur st c p bs) : c < st.next := h.1
def FrC (c : Nat) (a b : St) (l : List Pc) : Prop := OwnP b l ∧ NewP a.next l ∧ PresC c a b ∧ c < a.next
theorem FrC.nil {c : Nat} {a : St} (h : c < a.next) : FrC c a a [] := ⟨OwnP.nil,NewP.nil,PresC.refl _ _,h⟩
theorem Frs.toC {c : Nat} {a b : St} {l : List Pc} (h : Frs a b l) (hc : c < a.next) : FrC c a b l := ⟨h.1,h.2.1,h.2.2.c,hc⟩
theorem OwnP.presC {c n : Nat} {st st' : St} {l : List Pc} (h : OwnP st l) (hP : PresC c st st') (hN : NewP n l) (hn : c < n) : OwnP st' l :=
 h.keep hP.1 fun x hx q hq => hP.2 _ ((h.1 x hx).old q hq) (Nat.ne_of_gt (Nat.lt_of_lt_of_le hn (hN x hx q hq)))
theorem FrC.later {c : Nat} {a b d : St} {l : List Pc} (h : FrC c a b l) (k : PresC c b d) : FrC c a d l := ⟨h.1.presC k h.2.1 h.2.2.2,h.2.1,h.2.2.1.trans k,h.2.2.2⟩
theorem FrC.step {c : Nat} {a b d : St} {l : List Pc} (h : FrC c a b l) (k : Pres b d) : FrC c a d l := h.later k.c
theorem FrC.join {c : Nat} {a b d : St} {l m : List Pc} (h : FrC c a b l) (k : FrC c b d m) : FrC c a d (l ++ m) :=
 ⟨(h.later k.2.2.1).1.app k.1 fun x hx y hy => Dis.of (h.1.1 x hx).old (k.2.1 y hy),h.2.1.app (k.2.1.le h.2.2.1.1),h.2.2.1.trans k.2.2.1,h.2.2.2⟩
theorem FrC.lt {c : Nat} {a b : St} {l : List Pc} (h : FrC c a b l) : c < b.next := Nat.lt_of_lt_of_le h.2.2.2 h.2.2.1.1
theorem FrC.add {c : Nat} {a b d : St} {l m : List Pc} (h : FrC c a b l) (k : Frs b d m) : FrC c a d (l ++ m) := h.join (k.toC h.lt)
theorem FrC.left {c : Nat} {a b : St} {l m : List Pc} (h : FrC c a b (l ++ m)) : FrC c a b l := ⟨h.1.left,fun x hx => h.2.1 x (List.mem_append_left _ hx),h.2.2⟩
theorem FrC.right {c : Nat} {a b : St} {l m : List Pc} (h : FrC c a b (l ++ m)) : FrC c a b m := ⟨h.1.right,fun x hx => h.2.1 x (List.mem_append_right _ hx),h.2.2⟩
theorem PresC.thenNew {c : Nat} {q : Option Addr} {a b d : St} (h : PresC c a b) (k : Pr q b d) (hn : New a.next q) : PresC c a d :=
 ⟨Nat.le_trans h.1 k.1,fun x hx hc => (k.2 x (Nat.lt_of_lt_of_le hx h.1) fun r hr he => by have := hn r hr; omega).trans (h.2 x hx hc)⟩
theorem Cur.thenNew {c : Nat} {p q : Option Addr} {bs : List Int} {s0 s1 s2 : St} (h1 : Cur s1 c p bs) (h0 : Cur s0 c p bs) (h : PresC c s0 s1) (k : Pr q s1 s2) (hn : New s0.next q) : Cur s2 c p bs := Cur.grow h0 h h1 k.2 k.1 hn
theorem FrC.items {c : Nat} {a b d : St} {u : SV} {q : Option Addr} {l : List Itm} (h : FrC c a b (pcS u)) (hp : Pr u.p b d) (ho : OwnR d 6 cItm q l) (hn : New b.next q) : FrC c a d (pcS ⟨q,u.q,⟨l,u.x.floors⟩⟩) ∧ PresC c a d :=
 have hP := PresC.thenNew h.2.2.1 hp (h.2.1 _ (List.mem_cons_self ..))
 ⟨⟨pcS_items h.1 hp ho hn,NewP.cons (hn.le h.2.2.1.1) (NewP.cons (h.2.1 _ (List.mem_cons_of_mem _ (List.mem_cons_self ..))) NewP.nil),hP,h.2.2.2⟩,hP⟩
theorem FrC.floors {c : Nat} {a b d : St} {u : SV} {q : Option Addr} {l : List Flr} (h : FrC c a b (pcS u)) (hp : Pr u.q b d) (ho : OwnR d 2 cFlr q l) (hn : New b.next q) : FrC c a d (pcS ⟨u.p,q,⟨u.x.items,l⟩⟩) ∧ PresC c a d :=
 have hP := PresC.thenNew h.2.2.1 hp (h.2.1 _ (List.mem_cons_of_mem _ (List.mem_cons_self ..)))
 ⟨⟨pcS_floors h.1 hp ho hn,NewP.cons (h.2.1 _ (List.mem_cons_self ..)) (NewP.cons (hn.le h.2.2.1.1) NewP.nil),hP,h.2.2.2⟩,hP⟩
theorem Frs.nlS {a : St} : Frs a a (pcS ⟨none,none,nilS⟩) := ⟨pcS_nil,newS_nil,Pres.refl _⟩
structure smS (n : Nat) (x : Sta) : Prop where
 i : x.items.length ≤ n
 f : x.floors.length ≤ n
 d : ∀ y ∈ x.items,y.e.data.size ≤ 9
theorem smS.big {n : Nat} {x : Sta} (h : smS n x) (hn : n ≤ 1048576) : bigS x := ⟨Nat.le_trans h.i hn,Nat.le_trans h.f hn,fun y hy => Nat.le_trans (h.d y hy) (by decide)⟩
theorem smS.le {n m : Nat} {x : Sta} (h : smS n x) (k : n ≤ m) : smS m x := ⟨Nat.le_trans h.i k,Nat.le_trans h.f k,h.d⟩
theorem ids_len {α : Type} {id : α → Int} {l : List α} (h : ∀ (j : Nat) x,l[j]? = some x → (0 ≤ id x ∧ id x ≤ 4) ∧ ∀ y,0 < j → l[j - 1]? = some y → id y < id x) : l.length ≤ 5 := by
 have key : ∀ (j : Nat) x,l[j]? = some x → (j : Int) ≤ id x := by
  intro j
  induction j with
  | zero => intro x hx; exact (h 0 x hx).1.1
  | succ j ih =>
   intro x hx
   obtain ⟨hj,_⟩ := List.getElem?_eq_some_iff.1 hx
   have hy : l[j]? = some l[j] := List.getElem?_eq_getElem (by omega)
   have := ih _ hy
   have := (h _ _ hx).2 l[j] (Nat.succ_pos j) hy
   omega
 rcases Nat.lt_or_ge 5 l.length with h5 | h5
 ·have hx : l[5]? = some l[5] := List.getElem?_eq_getElem h5
  have := key 5 _ hx
  have := (h 5 _ hx).1.2
  omega
 ·exact h5
theorem marks_len {l : List Flr} (h : marksOk l) : l.length ≤ 5 := ids_len (id := fun x => x.id) fun j x hx => ⟨(h j x hx).1,(h j x hx).2.2⟩
theorem items_len {s : Sta} (h : stateOk s) : s.items.length ≤ 5 := ids_len (id := fun x => x.id) fun j x hx => ⟨(h.1 j x hx).1,(h.1 j x hx).2.2.2⟩
theorem sm_ok {s : Sta} (h : stateOk s) : smS 5 s := ⟨items_len h,marks_len h.2,fun y hy => by
 obtain ⟨j,hj⟩ := List.getElem?_of_mem hy
 have := (h.1 j y hj).2.1.2.2.2.2
 omega⟩
theorem big_ok {s : Sta} (h : stateOk s) : bigS s := (sm_ok h).big (by decide)
section
variable {P : Program} {ls : List Tmp} {call : ACallT} {o : Oper} {e : Operand → Value} {lo : Lo} {st : St} {K : Value × Lo × St → Prop}
end
end Go.Proofs.YtpnolkhfeliehaaGreat.AM
namespace Go.Proofs.YtpnolkhfeliehaaGreat.AM
open Go Go.Proofs
set_option linter.unusedVariables false
set_option linter.unusedSimpArgs false
theorem items_ent {s : Sta} (h : stateOk s) : ∀ y ∈ s.items,entOk y.e := fun y hy => by
 obtain ⟨j,hj⟩ := List.getElem?_of_mem hy
 exact (h.1 j y hj).2.1
end Go.Proofs.YtpnolkhfeliehaaGreat.AM
namespace Go.Proofs.YtpnolkhfeliehaaGreat.AM
open Go Go.Proofs
set_option linter.unusedVariables false
set_option linter.unusedSimpArgs false
set_option maxRecDepth 100000
set_option maxHeartbeats 4000000
theorem Frs.t0 {a : St} : Frs a a (pcTT ⟨none,[]⟩) := ⟨OwnP.one (.inl ⟨rfl,rfl⟩),NewP.cons New.none NewP.nil,Pres.refl _⟩
theorem Frs.r0 {a : St} : Frs a a (pcRis ⟨none,[]⟩) := ⟨OwnP.one (.inl ⟨rfl,rfl⟩),NewP.cons New.none NewP.nil,Pres.refl _⟩
theorem Frs.s0 {a : St} : Frs a a (pcS ⟨none,none,nilS⟩) := ⟨pcS_nil,newS_nil,Pres.refl _⟩
theorem Frs.got {s0 st st' : St} {v : NW} {q : RV} (h : Frs s0 st (pcNW v)) (hF : Frs st st' (pcIs q)) : Frs s0 st' (pcNW { v with got := q }) := by
 have e : ∀ x : RV,pcNW { v with got := x } = (pcS v.s ++ (pcIs v.t.toRV ++ pcLog v.g)) ++ (pcIs x ++ (pcIs v.acked ++ (pcTT v.seen ++ (pcSes v.sess ++ pcRis v.rises)))) := fun x => by simp only [List.append_assoc]
 rw [e]
 exact Frs.swap (c := pcIs v.got) (by rw [← e]; exact h) hF
theorem Frs.acked {s0 st st' : St} {v : NW} {q : RV} (h : Frs s0 st (pcNW v)) (hF : Frs st st' (pcIs q)) : Frs s0 st' (pcNW { v with acked := q }) := by
 have e : ∀ x : RV,pcNW { v with acked := x } = (pcS v.s ++ (pcIs v.t.toRV ++ (pcLog v.g ++ pcIs v.got))) ++ (pcIs x ++ (pcTT v.seen ++ (pcSes v.sess ++ pcRis v.rises))) := fun x => by simp only [List.append_assoc]
 rw [e]
 exact Frs.swap (c := pcIs v.acked) (by rw [← e]; exact h) hF
open Classical in
noncomputable def singF (id : Int) (e : Ent) : Sta × Bool := if stateOk ⟨[⟨id,e⟩],[]⟩ then (⟨[⟨id,e⟩],[]⟩,true) else (nilS,false)
theorem ac_spec_Single (id : Int) (e : Ent) (st : St) (hz : e.data.size ≤ 1048576) : C 197 [vI id,.agg #[vI e.inc,vI e.rank,vI e.beat,vI e.ver,.string e.data]] st (fun v s => ∃ (u : SV) (b : Bool),v = .tuple #[.agg #[vS u.p u.x.items.length,vS u.q u.x.floors.length],vB b] ∧ (u.x,b) = singF id e ∧ OwnP s (pcS u) ∧ NewP st.next (pcS u) ∧ Pres st s) := by
 refine AC.enterX (i := ⟨[3,4,6],[3,4,6],[0,1,3,4,5,6,14],[]⟩) [] Tryz.func197 rfl rfl (by kernel_rfl) (by kernel_rfl) Tryz.ntmps197 (Lb rfl) rfl ?_
 iterate 2 refine ⟨_,rfl,?_⟩
 refine Cm 2 st [(0,vI id),Ml 3 0,Ml 4 1,(5,vB false)] [(3,0,[vI e.inc,vI e.rank,vI e.beat,vI e.ver,.string e.data]),(4,1,[Sn,Sn])] fun _ _ => ?_
 refine ⟨_,Od rfl,?_⟩
 refine ⟨_,rfl,?_⟩
 refine op_one (z := 6) (a := (⟨id,e⟩ : Itm)) (f := cItm) rfl rfl rfl rfl rfl (by decide) rfl (Lb rfl) rfl rfl rfl ?_
 iterate 2 refine ⟨_,rfl,?_⟩
 refine ⟨_,Os rfl,?_⟩
 refine Cm 3 (st.push 6 ([(⟨id,e⟩ : Itm)].flatMap cItm)) [Ml 4 1,(5,vB false),Ml 6 2] [(4,1,[Sn,Sn]),(6,2,[vS (some ⟨st.next,0,none⟩) 1,Sn])] fun _ _ => ?_
 have hO : OwnR (st.push 6 ([(⟨id,e⟩ : Itm)].flatMap cItm)) 6 cItm (some ⟨st.next,0,none⟩) [(⟨id,e⟩ : Itm)] := OwnR.push
 obtain ⟨s1,hs1⟩ : ∃ s,s = st.push 6 ([(⟨id,e⟩ : Itm)].flatMap cItm) := ⟨_,rfl⟩
 have hP1 : Pres st (st.push 6 ([(⟨id,e⟩ : Itm)].flatMap cItm)) := Pres.push
 rw [← hs1] at hO hP1 ⊢
 have hF : Frs st s1 (pcS ⟨some ⟨st.next,0,none⟩,none,⟨[⟨id,e⟩],[]⟩⟩) := ⟨⟨fun d hd => by
  rcases List.mem_cons.1 hd with rfl | hd
  ·exact own_pc hO
  ·rw [List.mem_singleton.1 hd]; exact .inl ⟨rfl,rfl⟩,List.pairwise_pair.2 (Dis.symm Dis.none)⟩,NewP.cons (by intro r hr; injection hr with hr; rw [← hr]; exact Nat.le_refl _) (NewP.cons New.none NewP.nil),hP1⟩
 have hb : bigS ⟨[⟨id,e⟩],[]⟩ := ⟨show 1 ≤ 1048576 by decide,Nat.zero_le _,fun y hy => by rw [List.mem_singleton.1 hy]; exact hz⟩
 refine ⟨_,Od rfl,?_⟩
 refine ⟨_,rfl,(ac_spec_StateOk ⟨some ⟨st.next,0,none⟩,none,⟨[⟨id,e⟩],[]⟩⟩ s1 hF.1.rdS hb).mono ?_⟩
 rintro _ s1 ⟨x13,rfl,h13,rfl⟩
 rcases x13 with _|_
 ·replace h13 := fun k => Bool.false_ne_true (h13.2 k)
  refine ⟨_,rfl,?_⟩
  refine Cm 3 s1 [Ml 4 1,(5,vB false),Ml 6 2,(14,vB true)] [(4,1,[Sn,Sn]),(6,2,[vS (some ⟨st.next,0,none⟩) 1,Sn])] fun _ _ => ?_
  refine ⟨_,rfl,?_⟩
  refine ⟨_,Os rfl,?_⟩
  exact cxs (Rt ⟨⟨none,none,nilS⟩,false,rfl,(if_neg h13).symm,pcS_nil,newS_nil,hP1⟩)
 ·replace h13 := h13.1 rfl
  refine ⟨_,rfl,?_⟩
  refine Cm 3 s1 [Ml 4 1,(5,vB false),Ml 6 2,(14,vB false)] [(4,1,[Sn,Sn]),(6,2,[vS (some ⟨st.next,0,none⟩) 1,Sn])] fun _ _ => ?_
  refine cxs ?_
  refine ⟨_,Od rfl,?_⟩
  refine ⟨_,Os rfl,?_⟩
  exact cxs (Rt ⟨⟨some ⟨st.next,0,none⟩,none,⟨[⟨id,e⟩],[]⟩⟩,true,rfl,(if_pos h13).symm,hF.1,hF.2.1,hP1⟩)
structure smL (n : Nat) (g : Lg) : Prop where
 l : g.list.length ≤ n
 s : ∀ x ∈ g.list,smS 6 x
 f : -1 ≤ g.frm ∧ g.frm ≤ 9223372036854775807
theorem smL.big {n : Nat} {g : LV} (h : smL n g.x) (hn : n ≤ 1000) : bigL g.l := ⟨by have := h.l; simp only [List.length_map] at this; unfold szOk; omega,fun s hs => (h.s _ (List.mem_map_of_mem hs)).big (by decide)⟩
theorem smL.add {n : Nat} {g : Lg} {d : Sta} (h : smL n g) (hd : smS 6 d) : smL (n + 1) (addL g d).1 := by
 unfold addL
 split
 ·rename_i hk
  have h3 : 0 ≤ g.frm ∧ g.frm ≤ 100000 := hk.1.2.2.1
  have hs : ∀ x ∈ g.list ++ [d],smS 6 x := fun x hx => by
   rcases List.mem_append.1 hx with hx | hx
   ·exact h.s x hx
   ·rw [List.mem_singleton.1 hx]; exact hd
  have hl : (g.list ++ [d]).length ≤ n + 1 := by rw [List.length_append]; exact Nat.succ_le_succ h.l
  split
  ·exact ⟨by show ((g.list ++ [d]).drop 1).length ≤ n + 1; rw [List.length_drop]; omega,fun x hx => hs x (List.mem_of_mem_drop hx),by show -1 ≤ g.frm + 1 ∧ _; simp only; omega⟩
  ·exact ⟨hl,hs,h.f⟩
 ·exact ⟨Nat.le_succ_of_le h.l,h.s,h.f⟩
theorem smL.of {n : Nat} {g x : Lg} {d : Sta} {b : Bool} (he : (x,b) = addL g d) (h : smL n g) (hd : smS 6 d) : smL (n + 1) x := by
 have := h.add hd
 rw [← he] at this
 exact this
structure Added (g x : Lg) (d : Sta) : Prop where
 og : logOk g
 od : stateOk d
 ox : logOk x
 seq : x.frm + (x.list.length : Int) = g.frm + (g.list.length : Int) + 1
 frm : g.frm ≤ x.frm
 last : x.list.drop (x.list.length - 1) = [d]
 pos : 1 ≤ x.list.length
theorem addL_yes {g x : Lg} {d : Sta} (h : (x,true) = addL g d) : Added g x d := by
 unfold addL at h
 split at h
 ·rename_i hk
  obtain ⟨h1,h2,h3⟩ := hk
  have h4 := logOk_add h1 h2
  have hcap := h1.1
  split at h
  ·rename_i hc
   injection h with h _
   subst h
   have hl : ((g.list ++ [d]).drop 1).length = g.list.length := by rw [List.length_drop,List.length_append,List.length_singleton]; omega
   refine ⟨h1,h2,h4.1.2 h3,?_,by show g.frm ≤ g.frm + 1; omega,?_,by show 1 ≤ ((g.list ++ [d]).drop 1).length; omega⟩
   ·show g.frm + 1 + (((g.list ++ [d]).drop 1).length : Int) = _; rw [hl]; omega
   ·show ((g.list ++ [d]).drop 1).drop (((g.list ++ [d]).drop 1).length - 1) = [d]
    rw [hl,List.drop_drop,show 1 + (g.list.length - 1) = g.list.length by omega,List.drop_left]
  ·rename_i hc
   injection h with h _
   subst h
   have hl : (g.list ++ [d]).length = g.list.length + 1 := by rw [List.length_append,List.length_singleton]
   refine ⟨h1,h2,(h4.2 hc).2 h3,?_,Int.le_refl _,?_,by show 1 ≤ (g.list ++ [d]).length; omega⟩
   ·show g.frm + ((g.list ++ [d]).length : Int) = _; rw [hl]; omega
   ·show (g.list ++ [d]).drop ((g.list ++ [d]).length - 1) = [d]
    rw [hl,show g.list.length + 1 - 1 = g.list.length by omega,List.drop_left]
 ·injection h with _ h; cases h
theorem logSeq_ok {g : Lg} (h : logOk g) : logSeq g = g.frm + (g.list.length : Int) := if_pos h
theorem logSeq_rng (g : Lg) : 0 ≤ logSeq g ∧ logSeq g ≤ 100000 := by
 unfold logSeq
 split
 ·rename_i h; have := h.2.2.1; have := h.2.2.2.1; omega
 ·omega
end Go.Proofs.YtpnolkhfeliehaaGreat.AM
namespace Go.Proofs.YtpnolkhfeliehaaGreat.AM
open Go Go.Proofs
set_option linter.unusedVariables false
set_option linter.unusedSimpArgs false
theorem vec_set {l : List Int} {n v : Int} {i : Nat} (h : vecOk l n) (hv : 0 ≤ v ∧ v ≤ 100000) : vecOk (l.set i v) n := ⟨h.1,by rw [List.length_set]; exact h.2.1,fun j x hx => by
 rw [List.getElem?_set] at hx
 split at hx
 ·split at hx
  ·injection hx with hx; rw [← hx]; exact hv
  ·cases hx
 ·exact h.2.2 j x hx⟩
theorem said_ok {x : Nd} {g : Lg} {d : Sta} (h : nodeOk x) (hA : Added x.g g d) : logSeq g = logSeq x.g + 1 ∧ nodeOk { x with g := g,got := x.got.set x.id.toNat (logSeq g) } := by
 have e : logSeq g = logSeq x.g + 1 := by rw [logSeq_ok hA.ox,logSeq_ok hA.og]; exact hA.seq
 have hl : x.id.toNat < x.got.length := by have := h.id; have := h.got.2.1; omega
 refine ⟨e,h.n,h.id,h.s,h.t,hA.ox,vec_set h.got (logSeq_rng g),h.acked,List.getElem?_set_self hl,fun j y hy => ?_,h.seen,h.num,h.clock,h.wait,h.limit,h.slots,h.sess,h.rises⟩
 have := h.ack j y hy
 show y ≤ logSeq g
 omega
end Go.Proofs.YtpnolkhfeliehaaGreat.AM
namespace Go.Proofs.YtpnolkhfeliehaaGreat.AM
open Go Go.Proofs
set_option linter.unusedVariables false
set_option linter.unusedSimpArgs false
set_option maxRecDepth 100000
set_option maxHeartbeats 4000000
abbrev upI (l : List Itm) : List Itm := l.filter fun x => decide (x.e.rank = 0)
open Classical in
noncomputable def viewF (s : Sta) : List Itm := if stateOk s then upI s.items else []
theorem view_big {s : Sta} (h : bigS s) : bigS ⟨viewF s,[]⟩ := by
 unfold viewF
 split
 ·exact ⟨Nat.le_trans (List.length_filter_le _ _) h.1,Nat.zero_le _,fun x hx => h.2.2 x ((List.mem_filter.1 hx).1)⟩
 ·exact ⟨Nat.zero_le _,Nat.zero_le _,fun x hx => by cases hx⟩
noncomputable def lookF (s : Sta) (id : Int) : Ent × Bool := entP (viewF s) id
theorem ac_impl_View (s : SV) (st : St) (hR : RdS st s) (hb : bigS s.x) : C 244 [.agg #[vS s.p s.x.items.length,vS s.q s.x.floors.length]] st (fun v s' => ∃ q,v = vS q (viewF s.x).length ∧ OwnR s' 6 cItm q (viewF s.x) ∧ New st.next q ∧ Pres st s') := by
 have hs1 : s.x.items.length ≤ 1048576 := hb.1
 refine AC.enterX (i := ⟨[1,5],[1,5,11,18,19],[0,1,2,3,5,9,12,13,14,15,21],[]⟩) [] Tryz.func244 rfl rfl (by kernel_rfl) (by kernel_rfl) Tryz.ntmps244 (Lb rfl) rfl ?_
 refine ⟨_,rfl,?_⟩
 refine Cm 1 st [Ml 1 0,(2,Sn)] [(1,0,cSV s)] fun _ _ => ?_
 refine op_nilK (z := 6) (f := cItm) rfl rfl rfl rfl (by decide) rfl ?_
 intro q6 s6 hO6 hP6 hN6
 refine Cm 1 s6 [Ml 1 0,(2,Sn),(3,vS q6 0)] [(1,0,cSV s)] fun _ _ => ?_
 refine ⟨_,Od rfl,?_⟩
 refine ⟨_,rfl,(ac_impl_StateOk s s6 (hR.pres hP6) (by first | assumption | omega)).mono ?_⟩
 rintro _ s6 ⟨x8,rfl,h8,rfl⟩
 rcases x8 with _|_
 ·replace h8 := fun k => Bool.false_ne_true (h8.2 k)
  refine ⟨_,rfl,?_⟩
  refine Cm 1 s6 [Ml 1 0,(2,Sn),(3,vS q6 0),(9,vB true)] [(1,0,cSV s)] fun _ _ => ?_
  exact cxs (Rt ⟨q6,by rw [viewF,if_neg h8]; rfl,by rw [viewF,if_neg h8]; exact hO6,hN6,hP6⟩)
 ·replace h8 := h8.1 rfl
  refine ⟨_,rfl,?_⟩
  refine Cm 1 s6 [Ml 1 0,(2,Sn),(3,vS q6 0),(9,vB false)] [(1,0,cSV s)] fun _ _ => ?_
  refine cxs ?_
  refine ⟨_,rfl,?_⟩
  refine ⟨_,Od rfl,?_⟩
  refine ⟨_,rfl,?_⟩
  refine Cm 1 s6 [(2,Sn),(3,vS q6 0),(12,vS s.p s.x.items.length),(13,vI (s.x.items.length : Int)),(14,vI 0)] [] fun _ _ => ?_
  refine AW.loopM (fun x : Nat × Option Addr × List Itm => [(2,.slice none 0 0),(3,vS x.2.1 x.2.2.length),(12,vS s.p s.x.items.length),(13,vI (s.x.items.length : Int)),(14,vI (x.1 : Int))]) (fun x : Nat × Option Addr × List Itm => []) (fun m (x : Nat × Option Addr × List Itm) st' => m = s.x.items.length - x.1 ∧ x.1 ≤ s.x.items.length ∧ x.2.2 = upI (s.x.items.take x.1) ∧ OwnR st' 6 cItm x.2.1 x.2.2 ∧ New st.next x.2.1 ∧ Pres st st') (0,q6,[]) _ ⟨rfl,rfl,rfl,rfl,rfl,trivial⟩ trivial ⟨rfl,Nat.zero_le _,rfl,hO6,hN6,hP6⟩ ?_
  rintro m ⟨i,q,l⟩ ρ0 ff gg st' ⟨rfl,hi,hv,hO,hN,hP⟩
  simp only at hi hv hO hN
  have hll : l.length ≤ i := by rw [hv]; exact Nat.le_trans (List.length_filter_le _ _) (by rw [List.length_take]; omega)
  refine ⟨_,rfl,?_⟩
  rintro (_|_) h15
  ·replace h15 : ¬ ((i : Int) < (s.x.items.length : Int)) := of_decide_eq_false h15
   refine Cm gg st' [(2,Sn),(3,vS q l.length),(12,vS s.p s.x.items.length),(13,vI (s.x.items.length : Int)),(14,vI (i : Int)),(15,vB false)] [] fun _ _ => ?_
   refine cxs ?_
   refine cxs ?_
   have hle : l = viewF s.x := by rw [hv,viewF,if_pos h8,List.take_of_length_le (by omega)]
   exact Rt ⟨q,by rw [← hle]; rfl,by rw [← hle]; exact hO,hN,hP⟩
  ·replace h15 : (i : Int) < (s.x.items.length : Int) := of_decide_eq_true h15
   refine Cm gg st' [(2,Sn),(3,vS q l.length),(12,vS s.p s.x.items.length),(13,vI (s.x.items.length : Int)),(14,vI (i : Int)),(15,vB true)] [] fun _ _ => ?_
   refine cxs ?_
   refine op_at i (hP.rows hR.1) (by omega) rfl rfl rfl rfl rfl rfl rfl ?_
   intro x16 b16 d16 k16 hy16 hb16 hm16 hc16 ho16
   refine ⟨_,op_lda rfl rfl rfl rfl rfl hm16 hc16 rfl,?_⟩
   refine ⟨_,rfl,?_⟩
   refine ⟨_,Os rfl,?_⟩
   refine Cm (gg + 1) st' [(2,Sn),(3,vS q l.length),Ml 5 gg,(12,vS s.p s.x.items.length),(13,vI (s.x.items.length : Int)),(14,vI (i : Int)),(15,vB true)] [(5,gg,[vI x16.id,vI x16.e.inc,vI x16.e.rank,vI x16.e.beat,vI x16.e.ver,.string x16.e.data])] fun _ _ => ?_
   iterate 2 refine ⟨_,rfl,?_⟩
   refine ⟨_,Od rfl,?_⟩
   refine ⟨_,rfl,?_⟩
   rintro (_|_) h21
   ·replace h21 : ¬ (x16.e.rank = (0)) := beq_eq_false_iff_ne.1 h21
    refine Cm (gg + 1) st' [(2,Sn),(3,vS q l.length),Ml 5 gg,(12,vS s.p s.x.items.length),(13,vI (s.x.items.length : Int)),(14,vI (i : Int)),(15,vB true),(21,vB false)] [(5,gg,[vI x16.id,vI x16.e.inc,vI x16.e.rank,vI x16.e.beat,vI x16.e.ver,.string x16.e.data])] fun _ _ => ?_
    refine cxs ?_
    have ew26 : IntKind.wrap .i64 ((i : Int) + (1)) = ((i + 1 : Nat) : Int) := (wrap_i64 (by omega) (by omega)).trans (by omega)
    refine ⟨_,rfl,?_⟩
    exact ⟨(i + 1,q,l),s.x.items.length - (i + 1),by omega,⟨rfl,rfl,rfl,rfl,congrArg (Value.int .i64) ew26,trivial⟩,trivial,rfl,by simp only; omega,by rw [show upI (s.x.items.take (i + 1)) = upI (s.x.items.take i) from filt_out hy16 (decide_eq_false h21)]; exact hv,hO,hN,hP⟩
   ·replace h21 : x16.e.rank = (0) := beq_iff_eq.1 h21
    refine Cm (gg + 1) st' [(2,Sn),(3,vS q l.length),Ml 5 gg,(12,vS s.p s.x.items.length),(13,vI (s.x.items.length : Int)),(14,vI (i : Int)),(15,vB true),(21,vB true)] [(5,gg,[vI x16.id,vI x16.e.inc,vI x16.e.rank,vI x16.e.beat,vI x16.e.ver,.string x16.e.data])] fun _ _ => ?_
    refine ⟨_,Od rfl,?_⟩
    refine op_one (z := 6) (a := (x16 : Itm)) (f := cItm) rfl rfl rfl rfl rfl (by decide) rfl (Lb rfl) rfl rfl rfl ?_
    refine op_snoc (z := 6) (st := st') (f := cItm) (b := 56) (l := l) (x := x16) rfl rfl rfl rfl rfl rfl rfl (by decide) len_cItm rfl rfl rfl (by omega) (by unfold maxLen; omega) hO ?_
    intro q25 s25 hO25 hP25 hN25
    refine Cm (gg + 1) s25 [(2,Sn),(3,vS q25 (l ++ [x16]).length),Ml 5 gg,(12,vS s.p s.x.items.length),(13,vI (s.x.items.length : Int)),(14,vI (i : Int)),(15,vB true),(21,vB true)] [(5,gg,[vI x16.id,vI x16.e.inc,vI x16.e.rank,vI x16.e.beat,vI x16.e.ver,.string x16.e.data])] fun _ _ => ?_
    have ew26 : IntKind.wrap .i64 ((i : Int) + (1)) = ((i + 1 : Nat) : Int) := (wrap_i64 (by omega) (by omega)).trans (by omega)
    refine ⟨_,rfl,?_⟩
    exact ⟨(i + 1,q25,l ++ [x16]),s.x.items.length - (i + 1),by omega,⟨rfl,rfl,rfl,rfl,congrArg (Value.int .i64) ew26,trivial⟩,trivial,rfl,by simp only; omega,by rw [show upI (s.x.items.take (i + 1)) = upI (s.x.items.take i) ++ [x16] from filt_in hy16 (decide_eq_true h21),← hv],hO25,hN25.le hP.1,hP25.pres hP hN⟩
theorem ac_spec_View (s : SV) (st : St) (hR : RdS st s) (hb : bigS s.x) : C 238 [.agg #[vS s.p s.x.items.length,vS s.q s.x.floors.length]] st (fun v s' => ∃ q,v = vS q (viewF s.x).length ∧ OwnR s' 6 cItm q (viewF s.x) ∧ New st.next q ∧ Pres st s') := by
 have hs1 : s.x.items.length ≤ 1048576 := hb.1
 refine AC.enterX (i := ⟨[1],[1,11,17,26],[0,1,2,3,4,8,14,24],[]⟩) [] Tryz.func238 rfl rfl (by kernel_rfl) (by kernel_rfl) Tryz.ntmps238 (Lb rfl) rfl ?_
 refine ⟨_,rfl,?_⟩
 refine Cm 1 st [Ml 1 0,(2,Sn)] [(1,0,cSV s)] fun _ _ => ?_
 refine op_nilK (z := 6) (f := cItm) rfl rfl rfl rfl (by decide) rfl ?_
 intro q5 s5 hO5 hP5 hN5
 refine Cm 1 s5 [Ml 1 0,(2,Sn),(3,vS q5 0)] [(1,0,cSV s)] fun _ _ => ?_
 refine ⟨_,Od rfl,?_⟩
 refine ⟨_,rfl,(ac_spec_StateOk s s5 (hR.pres hP5) (by first | assumption | omega)).mono ?_⟩
 rintro _ s5 ⟨x7,rfl,h7,rfl⟩
 rcases x7 with _|_
 ·replace h7 := fun k => Bool.false_ne_true (h7.2 k)
  refine ⟨_,rfl,?_⟩
  refine Cm 1 s5 [Ml 1 0,(2,Sn),(3,vS q5 0),(8,vB true)] [(1,0,cSV s)] fun _ _ => ?_
  exact cxs (Rt ⟨q5,by rw [viewF,if_neg h7]; rfl,by rw [viewF,if_neg h7]; exact hO5,hN5,hP5⟩)
 ·replace h7 := h7.1 rfl
  refine ⟨_,rfl,?_⟩
  refine Cm 1 s5 [Ml 1 0,(2,Sn),(3,vS q5 0),(8,vB false)] [(1,0,cSV s)] fun _ _ => ?_
  refine cxs ?_
  refine Cm 1 s5 [Ml 1 0,(2,Sn),(3,vS q5 0),(4,vI 0)] [(1,0,cSV s)] fun _ _ => ?_
  refine AW.loopM (fun x : Nat × Option Addr × List Itm => [(1,vL 1 0 (0)),(2,.slice none 0 0),(3,vS x.2.1 x.2.2.length),(4,vI (x.1 : Int))]) (fun x : Nat × Option Addr × List Itm => [(1,0,[vS s.p s.x.items.length,vS s.q s.x.floors.length])]) (fun m (x : Nat × Option Addr × List Itm) st' => m = s.x.items.length - x.1 ∧ x.1 ≤ s.x.items.length ∧ x.2.2 = upI (s.x.items.take x.1) ∧ OwnR st' 6 cItm x.2.1 x.2.2 ∧ New st.next x.2.1 ∧ Pres st st') (0,q5,[]) _ ⟨rfl,rfl,rfl,rfl,trivial⟩ ⟨rfl,trivial⟩ ⟨rfl,Nat.zero_le _,rfl,hO5,hN5,hP5⟩ ?_
  rintro m ⟨i,q,l⟩ ρ0 ff gg st' ⟨rfl,hi,hv,hO,hN,hP⟩
  simp only at hi hv hO hN
  have hll : l.length ≤ i := by rw [hv]; exact Nat.le_trans (List.length_filter_le _ _) (by rw [List.length_take]; omega)
  refine ⟨_,rfl,?_⟩
  refine ⟨_,Od rfl,?_⟩
  iterate 2 refine ⟨_,rfl,?_⟩
  rintro (_|_) h14
  ·replace h14 : ¬ ((i : Int) < (s.x.items.length : Int)) := of_decide_eq_false h14
   refine Cm gg st' [Ml 1 0,(2,Sn),(3,vS q l.length),(4,vI (i : Int)),(14,vB false)] [(1,0,cSV s)] fun _ _ => ?_
   refine cxs ?_
   refine cxs ?_
   have hle : l = viewF s.x := by rw [hv,viewF,if_pos h7,List.take_of_length_le (by omega)]
   exact Rt ⟨q,by rw [← hle]; rfl,by rw [← hle]; exact hO,hN,hP⟩
  ·replace h14 : (i : Int) < (s.x.items.length : Int) := of_decide_eq_true h14
   refine Cm gg st' [Ml 1 0,(2,Sn),(3,vS q l.length),(4,vI (i : Int)),(14,vB true)] [(1,0,cSV s)] fun _ _ => ?_
   refine cxs ?_
   refine ⟨_,rfl,?_⟩
   refine ⟨_,Od rfl,?_⟩
   refine op_at i (hP.rows hR.1) (by omega) rfl rfl rfl rfl rfl rfl rfl ?_
   intro x20 b20 d20 k20 hy20 hb20 hm20 hc20 ho20
   iterate 2 refine ⟨_,rfl,?_⟩
   refine ⟨_,op_ldc (i := 2) rfl rfl rfl rfl hm20 hc20 rfl rfl,?_⟩
   refine ⟨_,rfl,?_⟩
   rintro (_|_) h24
   ·replace h24 : ¬ (x20.e.rank = (0)) := beq_eq_false_iff_ne.1 h24
    refine Cm gg st' [Ml 1 0,(2,Sn),(3,vS q l.length),(4,vI (i : Int)),(14,vB true),(24,vB false)] [(1,0,cSV s)] fun _ _ => ?_
    refine cxs ?_
    have ew16 : IntKind.wrap .i64 ((i : Int) + (1)) = ((i + 1 : Nat) : Int) := (wrap_i64 (by omega) (by omega)).trans (by omega)
    refine ⟨_,rfl,?_⟩
    exact ⟨(i + 1,q,l),s.x.items.length - (i + 1),by omega,⟨rfl,rfl,rfl,congrArg (Value.int .i64) ew16,trivial⟩,⟨rfl,trivial⟩,rfl,by simp only; omega,by rw [show upI (s.x.items.take (i + 1)) = upI (s.x.items.take i) from filt_out hy20 (decide_eq_false h24)]; exact hv,hO,hN,hP⟩
   ·replace h24 : x20.e.rank = (0) := beq_iff_eq.1 h24
    refine Cm gg st' [Ml 1 0,(2,Sn),(3,vS q l.length),(4,vI (i : Int)),(14,vB true),(24,vB true)] [(1,0,cSV s)] fun _ _ => ?_
    refine ⟨_,rfl,?_⟩
    refine ⟨_,Od rfl,?_⟩
    refine op_el i (hP.rows hR.1) hy20 rfl rfl rfl rfl rfl rfl rfl ?_
    intro b29 d29 k29 hb29 hm29 hc29 ho29
    refine ⟨_,op_lda rfl rfl rfl rfl rfl hm29 hc29 rfl,?_⟩
    refine op_one (z := 6) (a := (x20 : Itm)) (f := cItm) rfl rfl rfl rfl rfl (by decide) rfl (Lb rfl) rfl rfl rfl ?_
    refine op_snoc (z := 6) (st := st') (f := cItm) (b := 56) (l := l) (x := x20) rfl rfl rfl rfl rfl rfl rfl (by decide) len_cItm rfl rfl rfl (by omega) (by unfold maxLen; omega) hO ?_
    intro q32 s32 hO32 hP32 hN32
    refine Cm gg s32 [Ml 1 0,(2,Sn),(3,vS q32 (l ++ [x20]).length),(4,vI (i : Int)),(14,vB true),(24,vB true)] [(1,0,cSV s)] fun _ _ => ?_
    have ew16 : IntKind.wrap .i64 ((i : Int) + (1)) = ((i + 1 : Nat) : Int) := (wrap_i64 (by omega) (by omega)).trans (by omega)
    refine ⟨_,rfl,?_⟩
    exact ⟨(i + 1,q32,l ++ [x20]),s.x.items.length - (i + 1),by omega,⟨rfl,rfl,rfl,congrArg (Value.int .i64) ew16,trivial⟩,⟨rfl,trivial⟩,rfl,by simp only; omega,by rw [show upI (s.x.items.take (i + 1)) = upI (s.x.items.take i) ++ [x20] from filt_in hy20 (decide_eq_true h24),← hv],hO32,hN32.le hP.1,hP32.pres hP hN⟩
theorem ac_impl_Lookup (s : SV) (id : Int) (st : St) (hR : RdS st s) (hb : bigS s.x) : C 237 [.agg #[vS s.p s.x.items.length,vS s.q s.x.floors.length],vI id] st (fun v s' => ∃ e b,v = .tuple #[.agg #[vI e.inc,vI e.rank,vI e.beat,vI e.ver,.string e.data],vB b] ∧ (e,b) = lookF s.x id ∧ Pres st s') := by
 refine AC.enterX (i := ⟨[2,4],[2,4],[0,1,2,4,5],[]⟩) [] Tryz.func237 rfl rfl (by kernel_rfl) (by kernel_rfl) Tryz.ntmps237 (Lb rfl) rfl ?_
 iterate 2 refine ⟨_,rfl,?_⟩
 refine Cm 2 st [(1,vI id),Ml 2 0,Ml 4 1,(5,vB false)] [(2,0,cSV s),(4,1,[vI 0,vI 0,vI 0,vI 0,.string ⟨#[]⟩])] fun _ _ => ?_
 refine ⟨_,Od rfl,?_⟩
 refine ⟨_,rfl,(ac_impl_View s st hR (by first | assumption | omega)).mono ?_⟩
 rintro _ s7 ⟨q7,rfl,hO7,hN7,hP7⟩
 refine ⟨_,rfl,?_⟩
 refine ⟨_,rfl,(ac_impl_EntryOf ⟨q7,none,⟨viewF s.x,[]⟩⟩ id s7 ⟨hO7.rows len_cItm,Rows.nil⟩ (view_big hb)).mono ?_⟩
 rintro _ s7 ⟨e10,b10,rfl,h10,rfl⟩
 iterate 2 refine ⟨_,rfl,?_⟩
 refine ⟨_,Os rfl,?_⟩
 exact cxs (Rt ⟨e10,b10,rfl,h10,hP7⟩)
theorem ac_spec_Lookup (s : SV) (id : Int) (st : St) (hR : RdS st s) (hb : bigS s.x) : C 218 [.agg #[vS s.p s.x.items.length,vS s.q s.x.floors.length],vI id] st (fun v s' => ∃ e b,v = .tuple #[.agg #[vI e.inc,vI e.rank,vI e.beat,vI e.ver,.string e.data],vB b] ∧ (e,b) = lookF s.x id ∧ Pres st s') := by
 refine AC.enterX (i := ⟨[2,4],[2,4],[0,1,2,4,5],[]⟩) [] Tryz.func218 rfl rfl (by kernel_rfl) (by kernel_rfl) Tryz.ntmps218 (Lb rfl) rfl ?_
 iterate 2 refine ⟨_,rfl,?_⟩
 refine Cm 2 st [(1,vI id),Ml 2 0,Ml 4 1,(5,vB false)] [(2,0,cSV s),(4,1,[vI 0,vI 0,vI 0,vI 0,.string ⟨#[]⟩])] fun _ _ => ?_
 refine ⟨_,Od rfl,?_⟩
 refine ⟨_,rfl,(ac_spec_View s st hR (by first | assumption | omega)).mono ?_⟩
 rintro _ s7 ⟨q7,rfl,hO7,hN7,hP7⟩
 refine ⟨_,rfl,?_⟩
 refine ⟨_,rfl,(ac_spec_EntryOf ⟨q7,none,⟨viewF s.x,[]⟩⟩ id s7 ⟨hO7.rows len_cItm,Rows.nil⟩ (view_big hb)).mono ?_⟩
 rintro _ s7 ⟨e10,b10,rfl,h10,rfl⟩
 iterate 2 refine ⟨_,rfl,?_⟩
 refine ⟨_,Os rfl,?_⟩
 exact cxs (Rt ⟨e10,b10,rfl,h10,hP7⟩)
theorem ac_spec_l11Take (g : NV) (d : SV) (st : St) (hR : RdN st g) (hD : RdS st d) (hb : bigN g.x) (hbd : bigS d.x) (hk : stateOk g.s.x) (hkd : stateOk d.x) (hr5 : g.rises.l.length = 5) : C 56 [(vNV g),.agg #[vS d.p d.x.items.length,vS d.q d.x.floors.length]] st (fun v s => ∃ u : NW,v = (vNV u) ∧ u.x = takeF g.x d.x ∧ OwnP s (pcNW u) ∧ NewP st.next (pcNW u) ∧ Pres st s) := by
 refine AC.enterX (i := ⟨[2,3,4,5,6,8,9],[2,3,4,5,6,8,9,12,16,18,23,25,28,29,32,34,35,41,42,47,49,53,54,56,60,61,63,67,68,70,75,77,79,80,82,83,85],[0,1,2,3,4,5,6,7,8,9,38,74],[]⟩) [(3,[5],[1,3])] Tryz.func56 rfl rfl (by kernel_rfl) (by kernel_rfl) Tryz.ntmps56 (Lb rfl) rfl ?_
 iterate 3 refine ⟨_,rfl,?_⟩
 refine Cm 3 st [Ml 2 0,Ml 3 1,Ml 4 2] [(2,0,cNV g),(3,1,cSV d),(4,2,Zn)] fun _ _ => ?_
 refine ⟨_,op_ldo (v := (vNV g)) rfl rfl rfl rfl,?_⟩
 refine ⟨_,rfl,(ac_spec_l11Copy g st hR (by first | assumption | omega)).mono ?_⟩
 rintro _ s11 ⟨u11,rfl,h11,hO11,hN11,hP11⟩
 refine ⟨_,rfl,?_⟩
 refine ⟨_,op_stw (vs := cNV u11.v) rfl rfl rfl rfl rfl rfl rfl rfl,?_⟩
 refine Cm 4 s11 [Ml 2 0,Ml 3 1,Ml 4 2,Ml 5 3] [(2,0,cNV g),(3,1,cSV d),(4,2,Zn),(5,3,cNV u11.v)] fun _ _ => ?_
 refine ⟨_,rfl,?_⟩
 refine ⟨_,Od rfl,?_⟩
 refine ⟨_,Od rfl,?_⟩
 refine ⟨_,rfl,(ac_spec_l3Join g.s d s11 (hR.s.pres hP11) (hD.pres hP11) hb.s hbd hk hkd).mono ?_⟩
 rintro _ s15 ⟨u15,rfl,h15,hO15,hN15,hP15⟩
 refine ⟨_,rfl,?_⟩
 refine ⟨_,Os rfl,?_⟩
 refine Cm 5 s15 [Ml 2 0,Ml 4 2,Ml 5 3,Ml 6 4] [(2,0,cNV g),(4,2,Zn),(5,3,cNV u11.v),(6,4,cSV u15)] fun _ _ => ?_
 have hF11 : Frs st s11 (pcNW u11) := ⟨hO11,hN11,hP11⟩
 have hR15 := hO15.rdS
 have hk15 : stateOk u15.x := by rw [h15]; exact stateOk_join hk hkd
 have hb15 : bigS u15.x := by rw [h15]; exact bigS_join hb.s hbd
 have hml := marksF_len (goneAt u15.x) 5
 refine ⟨_,rfl,?_⟩
 refine ⟨_,Od rfl,?_⟩
 refine ⟨ld_own rfl rfl rfl,?_⟩
 refine ⟨_,rfl,?_⟩
 refine ⟨_,Od rfl,?_⟩
 refine ⟨ld_own rfl rfl rfl,?_⟩
 refine ⟨_,Od rfl,?_⟩
 refine ⟨_,rfl,(ac_spec_MarksOf u15 s15 hR15 (by first | assumption | omega)).mono ?_⟩
 rintro _ s21 ⟨q21,rfl,hO21,hP21,hN21⟩
 refine ⟨hP21.2,?_⟩
 refine ⟨_,rfl,(uc_spec_TableAdd g.seen g.id q21 (marksF (goneAt u15.x) 5) s21 (hR.seen.pres ((hP11.trans hP15).trans hP21)) (hO21.rows len_cFlr) hb.seen (by unfold szOk; omega)).mono ?_⟩
 rintro _ s22 ⟨u22,rfl,h22,h22',hO22,hN22,hP22⟩
 refine ⟨_,rfl,?_⟩
 refine ⟨_,Os rfl,?_⟩
 refine Cm 5 s22 [Ml 2 0,Ml 4 2,Ml 5 3,Ml 6 4] [(2,0,cNV g),(4,2,Zn),(5,3,Nv u11 [(11,vS u22.p u22.t.length)]),(6,4,cSV u15)] fun _ _ => ?_
 have hF22 : Frs st s22 (pcNW { u11 with seen := u22 }) := (hF11.later (hP15.trans hP21)).ndE ⟨hO22,hN22,hP22⟩
 have hbt22 : bigT u22.x := tableAdd_big h22 hb.seen
 refine ⟨_,Od rfl,?_⟩
 refine ⟨_,rfl,?_⟩
 refine ⟨_,Od rfl,?_⟩
 refine ⟨_,rfl,(uc_spec_Prune u15 u22 s22 (hO15.rdS.pres (hP21.trans hP22)) hO22.rdT hb15 hbt22).mono ?_⟩
 rintro _ s27 ⟨u27,rfl,h27,hO27,hN27,hP27⟩
 refine ⟨_,rfl,?_⟩
 refine ⟨_,Os rfl,?_⟩
 refine Cm 5 s27 [Ml 2 0,Ml 4 2,Ml 5 3] [(2,0,cNV g),(4,2,Zn),(5,3,Nv u11 [(2,vS u27.p u27.x.items.length),(3,vS u27.q u27.x.floors.length),(11,vS u22.p u22.t.length)])] fun _ _ => ?_
 have hF27 : Frs st s27 (pcNW { u11 with seen := u22,s := u27 }) := hF22.ndS ⟨hO27,hN27,hP27⟩
 have hk27 : stateOk u27.x := ok_prune h27 hk15
 have hb27 : bigS u27.x := big_prune h27 hb15
 refine ⟨_,rfl,?_⟩
 refine ⟨_,Od rfl,?_⟩
 refine ⟨_,rfl,(ac_spec_TreeOf u27 s27 hO27.rdS hb27).mono ?_⟩
 rintro _ s31 ⟨u31,rfl,h31,hO31,hN31,hP31⟩
 refine ⟨_,rfl,?_⟩
 refine ⟨_,Os rfl,?_⟩
 refine cxs ?_
 have hF31 : Frs st s31 (pcNW { u11 with seen := u22,s := u27,t := u31 }) := hF27.ndT (Frs.one hO31 hN31 hP31)
 have hr11 : u11.rises.l = g.rises.l := congrArg Nd.rises h11
 have hi27 : u27.x.items.length ≤ 1048576 := hb27.1
 refine Cm 5 s31 [Ml 2 0,Ml 4 2,Ml 5 3,(7,vI 0)] [(2,0,cNV g),(4,2,Zn),(5,3,Nv u11 [(2,vS u27.p u27.x.items.length),(3,vS u27.q u27.x.floors.length),(4,vS u31.p u31.l.length),(5,vI u31.root),(11,vS u22.p u22.t.length)])] fun _ _ => ?_
 refine AW.loopM (fun x : Nat × List Ris => [(2,vL 2 0 (0)),(4,vL 4 0 (2)),(5,vL 5 0 (3)),(7,vI (x.1 : Int))]) (fun x : Nat × List Ris => [(2,0,cNV g),(4,2,[vI 0,vI 0,.slice none 0 0,.slice none 0 0,.slice none 0 0,vI 0,vI 0,vI 0,.slice none 0 0,.slice none 0 0,.slice none 0 0,.slice none 0 0,vI 0,vI 0,.slice none 0 0,vI 0,vI 0,vI 0,.slice none 0 0]),(5,3,[vI u11.id,vI u11.n,vS u27.p u27.x.items.length,vS u27.q u27.x.floors.length,vS u31.p u31.l.length,vI u31.root,vI u11.g.cap,vI u11.g.frm,vS u11.g.p u11.g.l.length,vS u11.got.p u11.got.l.length,vS u11.acked.p u11.acked.l.length,vS u22.p u22.t.length,vI u11.num,vI u11.slots,vS u11.sess.p u11.sess.l.length,vI u11.wait,vI u11.limit,vI u11.clock,vS u11.rises.p x.2.length])]) (fun m (x : Nat × List Ris) st' => m = u27.x.items.length - x.1 ∧ x.1 ≤ u27.x.items.length ∧ x.2 = risesF g.clock g.rises.l (u27.x.items.take x.1) ∧ Frs st st' (pcNW { u11 with seen := u22,s := u27,t := u31,rises := ⟨u11.rises.p,x.2⟩ })) (0,u11.rises.l) _ ⟨rfl,rfl,rfl,rfl,trivial⟩ ⟨rfl,rfl,rfl,trivial⟩ ⟨rfl,Nat.zero_le _,hr11,hF31⟩ ?_
 rintro m ⟨i,l⟩ ρ0 ff gg st' ⟨rfl,hi,hv,hF⟩
 simp only at hi hv hF
 have hll : l.length = 5 := by rw [hv,risesF_len]; exact hr5
 iterate 2 refine ⟨_,rfl,?_⟩
 refine ⟨_,Od rfl,?_⟩
 iterate 2 refine ⟨_,rfl,?_⟩
 rintro (_|_) h38
 ·replace h38 : ¬ ((i : Int) < (u27.x.items.length : Int)) := of_decide_eq_false h38
  refine Cm gg st' [Ml 2 0,Ml 4 2,Ml 5 3,(7,vI (i : Int)),(38,vB false)] [(2,0,cNV g),(4,2,Zn),(5,3,Nv u11 [(2,vS u27.p u27.x.items.length),(3,vS u27.q u27.x.floors.length),(4,vS u31.p u31.l.length),(5,vI u31.root),(11,vS u22.p u22.t.length),(18,vS u11.rises.p l.length)])] fun _ _ => ?_
  refine cxs ?_
  refine ⟨_,op_ldo (v := .agg #[vI u11.id,vI u11.n,vS u27.p u27.x.items.length,vS u27.q u27.x.floors.length,vS u31.p u31.l.length,vI u31.root,vI u11.g.cap,vI u11.g.frm,vS u11.g.p u11.g.l.length,vS u11.got.p u11.got.l.length,vS u11.acked.p u11.acked.l.length,vS u22.p u22.t.length,vI u11.num,vI u11.slots,vS u11.sess.p u11.sess.l.length,vI u11.wait,vI u11.limit,vI u11.clock,vS u11.rises.p l.length]) rfl rfl rfl rfl,?_⟩
  refine ⟨_,op_stw (vs := [vI u11.id,vI u11.n,vS u27.p u27.x.items.length,vS u27.q u27.x.floors.length,vS u31.p u31.l.length,vI u31.root,vI u11.g.cap,vI u11.g.frm,vS u11.g.p u11.g.l.length,vS u11.got.p u11.got.l.length,vS u11.acked.p u11.acked.l.length,vS u22.p u22.t.length,vI u11.num,vI u11.slots,vS u11.sess.p u11.sess.l.length,vI u11.wait,vI u11.limit,vI u11.clock,vS u11.rises.p l.length]) rfl rfl rfl rfl rfl rfl rfl rfl,?_⟩
  exact cxs (Rt ⟨{ u11 with seen := u22,s := u27,t := u31,rises := ⟨u11.rises.p,l⟩ },rfl,take_eq (y := u11.x) h11 h15 h22 h27 h31 (by rw [hv,show i = u27.x.items.length by omega,List.take_length]),hF.1,hF.2.1,hF.2.2⟩)
 ·replace h38 : (i : Int) < (u27.x.items.length : Int) := of_decide_eq_true h38
  refine Cm gg st' [Ml 2 0,Ml 4 2,Ml 5 3,(7,vI (i : Int)),(38,vB true)] [(2,0,cNV g),(4,2,Zn),(5,3,Nv u11 [(2,vS u27.p u27.x.items.length),(3,vS u27.q u27.x.floors.length),(4,vS u31.p u31.l.length),(5,vI u31.root),(11,vS u22.p u22.t.length),(18,vS u11.rises.p l.length)])] fun _ _ => ?_
  have hO : OwnR st' 3 cRise u11.rises.p l := hF.ownRis
  have hR2 : RdS st' u27 := hF.1.rdN.s
  refine cxs ?_
  iterate 2 refine ⟨_,rfl,?_⟩
  refine ⟨_,Od rfl,?_⟩
  refine op_at i hR2.1 (by omega) rfl rfl rfl rfl rfl rfl rfl ?_
  intro x45 b45 d45 k45 hy45 hb45 hm45 hc45 ho45
  refine ⟨_,op_lda rfl rfl rfl rfl rfl hm45 hc45 rfl,?_⟩
  refine ⟨_,rfl,?_⟩
  refine ⟨_,Os rfl,?_⟩
  refine Cm (gg + 1) st' [Ml 2 0,Ml 4 2,Ml 5 3,(7,vI (i : Int)),Ml 8 gg,(38,vB true)] [(2,0,cNV g),(4,2,Zn),(5,3,Nv u11 [(2,vS u27.p u27.x.items.length),(3,vS u27.q u27.x.floors.length),(4,vS u31.p u31.l.length),(5,vI u31.root),(11,vS u22.p u22.t.length),(18,vS u11.rises.p l.length)]),(8,gg,[vI x45.id,vI x45.e.inc,vI x45.e.rank,vI x45.e.beat,vI x45.e.ver,.string x45.e.data])] fun _ _ => ?_
  have hid : 0 ≤ x45.id ∧ x45.id ≤ 4 := (hk27.1 i x45 hy45).1
  obtain ⟨a,ha⟩ := hO.some (by omega)
  obtain ⟨b1,o1,k1,r,hpe,hr,hm1,hc1,hb1⟩ := (hO.rows len_cRise).atB (j := x45.id.toNat) (by omega)
  obtain ⟨rfl,rfl⟩ : a = b1 ∧ 0 = o1 := by rw [ha] at hpe; injection hpe with hpe; injection hpe with e1 e2; exact ⟨e1,e2⟩
  refine ⟨_,rfl,?_⟩
  refine ⟨_,Od rfl,?_⟩
  refine ⟨_,rfl,?_⟩
  refine ⟨_,Od rfl,?_⟩
  refine ⟨_,op_idx (j := x45.id) (n := l.length) (q := ⟨a,0,none⟩) rfl (congrArg (fun v => vS v l.length) ha) rfl rfl rfl hid.1 (by omega),?_⟩
  refine ⟨_,op_lda rfl rfl rfl rfl rfl hm1 hc1 rfl,?_⟩
  refine ⟨_,rfl,?_⟩
  refine ⟨_,Os rfl,?_⟩
  refine Cm (gg + 2) st' [Ml 2 0,Ml 4 2,Ml 5 3,(7,vI (i : Int)),Ml 8 gg,(9,vL 9 0 (gg + 1)),(38,vB true)] [(2,0,cNV g),(4,2,Zn),(5,3,Nv u11 [(2,vS u27.p u27.x.items.length),(3,vS u27.q u27.x.floors.length),(4,vS u31.p u31.l.length),(5,vI u31.root),(11,vS u22.p u22.t.length),(18,vS u11.rises.p l.length)]),(8,gg,[vI x45.id,vI x45.e.inc,vI x45.e.rank,vI x45.e.beat,vI x45.e.ver,.string x45.e.data]),(9,gg + 1,[vI r.inc,vI r.beat,vI r.tick])] fun _ _ => ?_
  iterate 2 refine ⟨_,rfl,?_⟩
  refine ⟨_,Od rfl,?_⟩
  refine ⟨_,rfl,?_⟩
  refine ⟨_,Od rfl,?_⟩
  refine ⟨_,rfl,?_⟩
  rintro (_|_) h58
  ·replace h58 : ¬ (x45.e.inc > r.inc) := of_decide_eq_false h58
   iterate 2 refine ⟨_,rfl,?_⟩
   refine ⟨_,Od rfl,?_⟩
   refine ⟨_,rfl,?_⟩
   refine ⟨_,Od rfl,?_⟩
   refine ⟨_,rfl,?_⟩
   rintro (_|_) h65
   ·replace h65 : ¬ (x45.e.inc = r.inc) := beq_eq_false_iff_ne.1 h65
    iterate 2 refine ⟨_,rfl,?_⟩
    refine Cm (gg + 2) st' [Ml 2 0,Ml 4 2,Ml 5 3,(7,vI (i : Int)),Ml 8 gg,(9,vL 9 0 (gg + 1)),(38,vB true),(74,vB false)] [(2,0,cNV g),(4,2,Zn),(5,3,Nv u11 [(2,vS u27.p u27.x.items.length),(3,vS u27.q u27.x.floors.length),(4,vS u31.p u31.l.length),(5,vI u31.root),(11,vS u22.p u22.t.length),(18,vS u11.rises.p l.length)]),(8,gg,[vI x45.id,vI x45.e.inc,vI x45.e.rank,vI x45.e.beat,vI x45.e.ver,.string x45.e.data]),(9,gg + 1,[vI r.inc,vI r.beat,vI r.tick])] fun _ _ => ?_
    refine cxs ?_
    have ew40 : IntKind.wrap .i64 ((i : Int) + (1)) = ((i + 1 : Nat) : Int) := (wrap_i64 (by omega) (by omega)).trans (by omega)
    refine ⟨_,rfl,?_⟩
    exact ⟨(i + 1,l),u27.x.items.length - (i + 1),by omega,⟨rfl,rfl,rfl,congrArg (Value.int .i64) ew40,trivial⟩,⟨rfl,rfl,rfl,trivial⟩,rfl,by simp only; omega,by rw [risesF_succ hy45,← hv]; exact (riseF_no hr (fun k => k.elim h58 fun k => h65 k.1)).symm,hF⟩
   ·replace h65 : x45.e.inc = r.inc := beq_iff_eq.1 h65
    iterate 2 refine ⟨_,rfl,?_⟩
    refine ⟨_,Od rfl,?_⟩
    refine ⟨_,rfl,?_⟩
    refine ⟨_,Od rfl,?_⟩
    refine ⟨_,rfl,?_⟩
    rintro (_|_) h72
    ·replace h72 : ¬ (x45.e.beat > r.beat) := of_decide_eq_false h72
     iterate 2 refine ⟨_,rfl,?_⟩
     refine Cm (gg + 2) st' [Ml 2 0,Ml 4 2,Ml 5 3,(7,vI (i : Int)),Ml 8 gg,(9,vL 9 0 (gg + 1)),(38,vB true),(74,vB false)] [(2,0,cNV g),(4,2,Zn),(5,3,Nv u11 [(2,vS u27.p u27.x.items.length),(3,vS u27.q u27.x.floors.length),(4,vS u31.p u31.l.length),(5,vI u31.root),(11,vS u22.p u22.t.length),(18,vS u11.rises.p l.length)]),(8,gg,[vI x45.id,vI x45.e.inc,vI x45.e.rank,vI x45.e.beat,vI x45.e.ver,.string x45.e.data]),(9,gg + 1,[vI r.inc,vI r.beat,vI r.tick])] fun _ _ => ?_
     refine cxs ?_
     have ew40 : IntKind.wrap .i64 ((i : Int) + (1)) = ((i + 1 : Nat) : Int) := (wrap_i64 (by omega) (by omega)).trans (by omega)
     refine ⟨_,rfl,?_⟩
     exact ⟨(i + 1,l),u27.x.items.length - (i + 1),by omega,⟨rfl,rfl,rfl,congrArg (Value.int .i64) ew40,trivial⟩,⟨rfl,rfl,rfl,trivial⟩,rfl,by simp only; omega,by rw [risesF_succ hy45,← hv]; exact (riseF_no hr (fun k => k.elim h58 fun k => h72 k.2)).symm,hF⟩
    ·replace h72 : x45.e.beat > r.beat := of_decide_eq_true h72
     iterate 2 refine ⟨_,rfl,?_⟩
     refine Cm (gg + 2) st' [Ml 2 0,Ml 4 2,Ml 5 3,(7,vI (i : Int)),Ml 8 gg,(9,vL 9 0 (gg + 1)),(38,vB true),(74,vB true)] [(2,0,cNV g),(4,2,Zn),(5,3,Nv u11 [(2,vS u27.p u27.x.items.length),(3,vS u27.q u27.x.floors.length),(4,vS u31.p u31.l.length),(5,vI u31.root),(11,vS u22.p u22.t.length),(18,vS u11.rises.p l.length)]),(8,gg,[vI x45.id,vI x45.e.inc,vI x45.e.rank,vI x45.e.beat,vI x45.e.ver,.string x45.e.data]),(9,gg + 1,[vI r.inc,vI r.beat,vI r.tick])] fun _ _ => ?_
     refine ⟨_,rfl,?_⟩
     refine ⟨_,Od rfl,?_⟩
     refine ⟨_,rfl,?_⟩
     refine ⟨_,Od rfl,?_⟩
     iterate 2 refine ⟨_,rfl,?_⟩
     refine ⟨_,Od rfl,?_⟩
     iterate 2 refine ⟨_,rfl,?_⟩
     refine ⟨_,Od rfl,?_⟩
     refine ⟨_,rfl,?_⟩
     refine ⟨_,Od rfl,?_⟩
     refine ⟨_,rfl,?_⟩
     refine ⟨_,op_idx (j := x45.id) (n := l.length) (q := ⟨a,0,none⟩) rfl (congrArg (fun v => vS v l.length) ha) rfl rfl rfl hid.1 (by omega),?_⟩
     refine op_put (st := st') (f := cRise) (j := x45.id.toNat) (l := l) (y := (⟨x45.e.inc,x45.e.beat,g.clock⟩ : Ris)) (p := u11.rises.p) (d := 0 + x45.id.toNat * 3) rfl rfl (Nat.zero_add _) rfl rfl len_cRise rfl rfl (by omega) hO ha ?_
     intro s94 hO94 hP94 hn94
     refine Cm (gg + 2) s94 [Ml 2 0,Ml 4 2,Ml 5 3,(7,vI (i : Int)),Ml 8 gg,(9,vL 9 0 (gg + 1)),(38,vB true),(74,vB true)] [(2,0,cNV g),(4,2,Zn),(5,3,Nv u11 [(2,vS u27.p u27.x.items.length),(3,vS u27.q u27.x.floors.length),(4,vS u31.p u31.l.length),(5,vI u31.root),(11,vS u22.p u22.t.length),(18,vS u11.rises.p l.length)]),(8,gg,[vI x45.id,vI x45.e.inc,vI x45.e.rank,vI x45.e.beat,vI x45.e.ver,.string x45.e.data]),(9,gg + 1,[vI r.inc,vI r.beat,vI r.tick])] fun _ _ => ?_
     have ew40 : IntKind.wrap .i64 ((i : Int) + (1)) = ((i + 1 : Nat) : Int) := (wrap_i64 (by omega) (by omega)).trans (by omega)
     refine ⟨_,rfl,?_⟩
     exact ⟨(i + 1,l.set x45.id.toNat ⟨x45.e.inc,x45.e.beat,g.clock⟩),u27.x.items.length - (i + 1),by omega,⟨rfl,rfl,rfl,congrArg (Value.int .i64) ew40,trivial⟩,⟨rfl,rfl,(show some (3,[vI u11.id,vI u11.n,vS u27.p u27.x.items.length,vS u27.q u27.x.floors.length,vS u31.p u31.l.length,vI u31.root,vI u11.g.cap,vI u11.g.frm,vS u11.g.p u11.g.l.length,vS u11.got.p u11.got.l.length,vS u11.acked.p u11.acked.l.length,vS u22.p u22.t.length,vI u11.num,vI u11.slots,vS u11.sess.p u11.sess.l.length,vI u11.wait,vI u11.limit,vI u11.clock,vS u11.rises.p l.length]) = _ by rw [List.length_set]),trivial⟩,rfl,by simp only; omega,by rw [risesF_succ hy45,← hv]; exact (riseF_yes hr (.inr ⟨h65,h72⟩)).symm,hF.ris hP94 hO94⟩
  ·replace h58 : x45.e.inc > r.inc := of_decide_eq_true h58
   refine ⟨_,rfl,?_⟩
   refine Cm (gg + 2) st' [Ml 2 0,Ml 4 2,Ml 5 3,(7,vI (i : Int)),Ml 8 gg,(9,vL 9 0 (gg + 1)),(38,vB true),(74,vB true)] [(2,0,cNV g),(4,2,Zn),(5,3,Nv u11 [(2,vS u27.p u27.x.items.length),(3,vS u27.q u27.x.floors.length),(4,vS u31.p u31.l.length),(5,vI u31.root),(11,vS u22.p u22.t.length),(18,vS u11.rises.p l.length)]),(8,gg,[vI x45.id,vI x45.e.inc,vI x45.e.rank,vI x45.e.beat,vI x45.e.ver,.string x45.e.data]),(9,gg + 1,[vI r.inc,vI r.beat,vI r.tick])] fun _ _ => ?_
   refine ⟨_,rfl,?_⟩
   refine ⟨_,Od rfl,?_⟩
   refine ⟨_,rfl,?_⟩
   refine ⟨_,Od rfl,?_⟩
   iterate 2 refine ⟨_,rfl,?_⟩
   refine ⟨_,Od rfl,?_⟩
   iterate 2 refine ⟨_,rfl,?_⟩
   refine ⟨_,Od rfl,?_⟩
   refine ⟨_,rfl,?_⟩
   refine ⟨_,Od rfl,?_⟩
   refine ⟨_,rfl,?_⟩
   refine ⟨_,op_idx (j := x45.id) (n := l.length) (q := ⟨a,0,none⟩) rfl (congrArg (fun v => vS v l.length) ha) rfl rfl rfl hid.1 (by omega),?_⟩
   refine op_put (st := st') (f := cRise) (j := x45.id.toNat) (l := l) (y := (⟨x45.e.inc,x45.e.beat,g.clock⟩ : Ris)) (p := u11.rises.p) (d := 0 + x45.id.toNat * 3) rfl rfl (Nat.zero_add _) rfl rfl len_cRise rfl rfl (by omega) hO ha ?_
   intro s94 hO94 hP94 hn94
   refine Cm (gg + 2) s94 [Ml 2 0,Ml 4 2,Ml 5 3,(7,vI (i : Int)),Ml 8 gg,(9,vL 9 0 (gg + 1)),(38,vB true),(74,vB true)] [(2,0,cNV g),(4,2,Zn),(5,3,Nv u11 [(2,vS u27.p u27.x.items.length),(3,vS u27.q u27.x.floors.length),(4,vS u31.p u31.l.length),(5,vI u31.root),(11,vS u22.p u22.t.length),(18,vS u11.rises.p l.length)]),(8,gg,[vI x45.id,vI x45.e.inc,vI x45.e.rank,vI x45.e.beat,vI x45.e.ver,.string x45.e.data]),(9,gg + 1,[vI r.inc,vI r.beat,vI r.tick])] fun _ _ => ?_
   have ew40 : IntKind.wrap .i64 ((i : Int) + (1)) = ((i + 1 : Nat) : Int) := (wrap_i64 (by omega) (by omega)).trans (by omega)
   refine ⟨_,rfl,?_⟩
   exact ⟨(i + 1,l.set x45.id.toNat ⟨x45.e.inc,x45.e.beat,g.clock⟩),u27.x.items.length - (i + 1),by omega,⟨rfl,rfl,rfl,congrArg (Value.int .i64) ew40,trivial⟩,⟨rfl,rfl,(show some (3,[vI u11.id,vI u11.n,vS u27.p u27.x.items.length,vS u27.q u27.x.floors.length,vS u31.p u31.l.length,vI u31.root,vI u11.g.cap,vI u11.g.frm,vS u11.g.p u11.g.l.length,vS u11.got.p u11.got.l.length,vS u11.acked.p u11.acked.l.length,vS u22.p u22.t.length,vI u11.num,vI u11.slots,vS u11.sess.p u11.sess.l.length,vI u11.wait,vI u11.limit,vI u11.clock,vS u11.rises.p l.length]) = _ by rw [List.length_set]),trivial⟩,rfl,by simp only; omega,by rw [risesF_succ hy45,← hv]; exact (riseF_yes hr (.inl h58)).symm,hF.ris hP94 hO94⟩
end Go.Proofs.YtpnolkhfeliehaaGreat.AM
