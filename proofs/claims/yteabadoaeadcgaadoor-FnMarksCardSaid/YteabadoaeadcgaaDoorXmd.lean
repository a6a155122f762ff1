/- Part 4 of the texts on which the law's proof rests. -/
import Derived.Test.YteabadoaeadcgaaDoorXmc
namespace Go.Proofs.YteabadoaeadcgaaDoor.AM
open Go Go.Proofs
set_option linter.unusedVariables false
set_option linter.unusedSimpArgs false
set_option maxRecDepth 100000
set_option maxHeartbeats 4000000
theorem szW (g : Int → Int) : szOk (marksF g 5).length := by
 have : (marksF g 5).length ≤ 5 := by unfold marksF; exact Nat.le_trans (List.length_filterMap_le ..) (by simp)
 unfold szOk; omega
theorem AC.truQ {f : FuncId} {args : List Value} {st : St} {p : Prop} (h : C f args st (fun v s => ∃ x,v = .bool x ∧ (x = true ↔ p) ∧ Pres st s)) (hp : p) : C f args st (fun v s => v = vB true ∧ Pres st s) :=
 h.mono fun v s ⟨x,h1,h2,h3⟩ => ⟨by rw [h1,h2.2 hp],h3⟩
theorem ac_spec_DrawPrune (p : Option Addr) (bs : List Int) (st : St) (hI : Ints st .u8 p bs) (hs : bs.length < 1099511627776) : C 15 [vS p bs.length] st (fun v s => ∃ (u : SV) (q : Option Addr) (t : List RV),v = .tuple #[.agg #[vS u.p u.x.items.length,vS u.q u.x.floors.length],vS q t.length] ∧ smS 6 u.x ∧ szOk t.length ∧ (∀ r ∈ t,szOk r.l.length) ∧ RdS s u ∧ RdT s q t ∧ Pres st s) := by
 refine AC.enterX (i := ⟨[2,5],[2,5],[0,2,3,4,5,6,7,15,19],[]⟩) [] Tryd.func15 rfl rfl (by kernel_rfl) (by kernel_rfl) Tryd.ntmps15 (Lb rfl) rfl ?_
 refine ⟨_,rfl,?_⟩
 refine Cm 1 st [(0,vS p bs.length),Ml 2 0,(3,Sn)] [(2,0,[Sn,Sn])] fun _ _ => ?_
 refine ⟨_,rfl,(ac_spec_l1New p bs st hI (by first | assumption | omega)).mono ?_⟩
 rintro _ s9 ⟨rfl,hC9,hP9,h9⟩
 refine Cm 1 s9 [Ml 2 0,(3,Sn),(4,vP st.next 0)] [(2,0,[Sn,Sn])] fun _ _ => ?_
 refine ⟨_,rfl,(ac_d_l3Draw st.next s9 hC9 (by first | assumption | omega)).mono ?_⟩
 rintro _ s11 ⟨u11,rfl,h11,hF11,hC11⟩
 refine ⟨_,rfl,?_⟩
 refine ⟨_,Os rfl,?_⟩
 refine Cm 2 s11 [Ml 2 0,(3,Sn),(4,vP st.next 0),Ml 5 1] [(2,0,[Sn,Sn]),(5,1,cSV u11)] fun _ _ => ?_
 refine ⟨_,rfl,(ac_d_l9Draw st.next s11 hC11 (by first | assumption | omega)).mono ?_⟩
 rintro _ s13 ⟨q13,t13,L13,rfl,h13,hF13,h13',hC13⟩
 refine Cm 2 s13 [Ml 2 0,(3,Sn),(4,vP st.next 0),Ml 5 1,(6,vS q13 t13.length)] [(2,0,[Sn,Sn]),(5,1,cSV u11)] fun _ _ => ?_
 refine ⟨_,rfl,(ac_d_l1Once st.next 2 s13 hC13 (by first | assumption | omega)).mono ?_⟩
 rintro _ s15 ⟨b15,rfl,hC15,hL15⟩
 rcases b15 with _|_
 ·refine Cm 2 s15 [Ml 2 0,(3,Sn),Ml 5 1,(6,vS q13 t13.length),(15,vB false)] [(2,0,[Sn,Sn]),(5,1,cSV u11)] fun _ _ => ?_
  have hFa := (hF11.join hF13).later hL15
  have hRd : RdS s15 u11 := hFa.left.1.rdS
  have hRt : RdT s15 q13 t13 := h13' _ hFa.right.1
  have hPs : Pres st s15 := (hFa.out hP9).2.2
  have hsz : szOk t13.length := Nat.le_trans h13.1 (by decide)
  have hsr : ∀ r ∈ t13,szOk r.l.length := fun r hr => Nat.le_trans (h13.2 r hr) (by decide)
  have hbu := h11.big (by decide)
  refine cxs ?_
  refine ⟨_,Od rfl,?_⟩
  refine ⟨_,Os rfl,?_⟩
  exact cxs (Rt ⟨u11,q13,t13,rfl,h11,hsz,hsr,hRd,hRt,hPs⟩)
 ·refine Cm 2 s15 [Ml 2 0,(3,Sn),Ml 5 1,(6,vS q13 t13.length),(15,vB true)] [(2,0,[Sn,Sn]),(5,1,cSV u11)] fun _ _ => ?_
  have hFa := (hF11.join hF13).later hL15
  have hRd : RdS s15 u11 := hFa.left.1.rdS
  have hRt : RdT s15 q13 t13 := h13' _ hFa.right.1
  have hPs : Pres st s15 := (hFa.out hP9).2.2
  have hsz : szOk t13.length := Nat.le_trans h13.1 (by decide)
  have hsr : ∀ r ∈ t13,szOk r.l.length := fun r hr => Nat.le_trans (h13.2 r hr) (by decide)
  have hbu := h11.big (by decide)
  refine Cm 2 s15 [Ml 2 0,(3,Sn),Ml 5 1,(6,vS q13 t13.length),(7,vI 0)] [(2,0,[Sn,Sn]),(5,1,cSV u11)] fun _ _ => ?_
  refine AW.loopM (fun x : Nat × Option Addr × List RV => [(2,vL 2 0 (0)),(3,.slice none 0 0),(5,vL 5 0 (1)),(6,vS x.2.1 x.2.2.length),(7,vI (x.1 : Int))]) (fun x : Nat × Option Addr × List RV => [(2,0,[.slice none 0 0,.slice none 0 0]),(5,1,[vS u11.p u11.x.items.length,vS u11.q u11.x.floors.length])]) (fun m (x : Nat × Option Addr × List RV) st' => m = x.2.2.length - x.1 ∧ szOk x.2.2.length ∧ (∀ r ∈ x.2.2,szOk r.l.length) ∧ RdT st' x.2.1 x.2.2 ∧ Pres s15 st') (0,q13,t13) _ ⟨rfl,rfl,rfl,rfl,rfl,trivial⟩ ⟨rfl,rfl,trivial⟩ ⟨rfl,hsz,hsr,hRt,Pres.refl _⟩ ?_
  rintro m ⟨k,q,t⟩ ρ0 ff gg st' ⟨rfl,ht,hr,hRq,hP⟩
  simp only at ht hr hRq
  have hRu := hRd.pres hP
  have ht4 : t.length ≤ 1048576 := ht
  iterate 2 refine ⟨_,rfl,?_⟩
  rintro (_|_) h19
  ·replace h19 : ¬ ((k : Int) < (t.length : Int)) := of_decide_eq_false h19
   refine Cm gg st' [Ml 2 0,(3,Sn),Ml 5 1,(6,vS q t.length),(7,vI (k : Int)),(19,vB false)] [(2,0,[Sn,Sn]),(5,1,cSV u11)] fun _ _ => ?_
   refine cxs ?_
   refine ⟨_,Od rfl,?_⟩
   refine ⟨_,Os rfl,?_⟩
   exact cxs (Rt ⟨u11,q,t,rfl,h11,ht,hr,hRu,hRq,hPs.trans hP⟩)
  ·replace h19 : (k : Int) < (t.length : Int) := of_decide_eq_true h19
   refine Cm gg st' [Ml 2 0,(3,Sn),Ml 5 1,(6,vS q t.length),(7,vI (k : Int)),(19,vB true)] [(2,0,[Sn,Sn]),(5,1,cSV u11)] fun _ _ => ?_
   refine cxs ?_
   refine ⟨_,Od rfl,?_⟩
   refine ⟨_,rfl,(ac_spec_MarksOf u11 st' (by first | assumption | omega) (by first | assumption | omega)).mono ?_⟩
   rintro _ s25 ⟨q25,rfl,hO25,hP25,hN25⟩
   refine ⟨_,rfl,(ac_spec_TableAdd q q25 t (k : Int) (marksF (goneAt u11.x) 5) s25 (hRq.pres hP25) (hO25.rows len_cFlr) ht hr (szW _)).mono ?_⟩
   rintro _ s26 ⟨q26,t26,rfl,h26,h26',hO26,hN26,hP26⟩
   refine AW.cutM (gg) s26 [Ml 2 0,(3,Sn),Ml 5 1,(6,vS q26 t26.length),(7,vI (k : Int)),(19,vB true)] [(2,0,[Sn,Sn]),(5,1,cSV u11)] ⟨rfl,rfl,rfl,congrArg (vS q26) h26.symm,rfl,rfl,trivial⟩ ⟨rfl,rfl,trivial⟩ rfl fun _ _ => ?_
   have ew21 : IntKind.wrap .i64 ((k : Int) + (1)) = ((k + 1 : Nat) : Int) := (wrap_i64 (by omega) (by omega)).trans (by omega)
   refine ⟨_,rfl,?_⟩
   exact ⟨(k + 1,q26,t26),t26.length - (k + 1),by simp only; omega,⟨rfl,rfl,rfl,rfl,congrArg (Value.int .i64) ew21,trivial⟩,⟨rfl,rfl,trivial⟩,rfl,by show szOk t26.length; rw [h26]; exact ht,rows_lens (by rw [h26']; exact tableAdd_lens _ _ _) hr,hO26.rdT,(hP.trans hP25).trans hP26⟩
theorem marksF_get {g : Int → Int} {n j : Nat} {x : Flr} (h : (marksF g n)[j]? = some x) : x.inc = g x.id ∧ 1 ≤ x.inc := by
 obtain ⟨k,_,hk⟩ := List.mem_filterMap.1 (List.mem_of_getElem? h)
 split at hk
 ·rename_i h0; injection hk with hk; subst hk; exact ⟨rfl,h0⟩
 ·cases hk
theorem prune_floor {s : Sta} (h : stateOk s) (t : List (List Int)) {j : Nat} (hj : j < 5) (h1 : floorOf (pruneF s t).floors (j : Int) > floorOf s.floors (j : Int)) : ¬ floorOf (pruneF s t).floors (j : Int) > common t (j : Int) := by
 have e : floorOf (pruneF s t).floors (j : Int) = max (floorOf s.floors (j : Int)) (max (pruneG s t (j : Int)) 0) := prune_gF h t hj
 have h0 := (gF_pos h (j : Int)).1
 have h0 : 0 ≤ floorOf s.floors (j : Int) := h0
 have hp : pruneG s t (j : Int) ≤ common t (j : Int) := Int.min_le_left _ _
 omega
theorem prune_over {s : Sta} (h : stateOk s) (t : List (List Int)) {j : Nat} (hj : j < 5) {e : Ent} (he : (e,true) = entP (pruneF s t).items (j : Int)) (hr : e.rank = 1) : ¬ e.inc ≤ common t (j : Int) := by
 have e1 : e = gE (pruneF s t) (j : Int) := congrArg Prod.fst he
 have e2 : (entP (pruneF s t).items (j : Int)).2 = true := (congrArg Prod.snd he).symm
 have e3 := (gE_in (prune_ok h t) (j : Int)).1 e2
 have e4 := prune_gE h t hj
 rw [← e1] at e3 e4
 by_cases hc : (gE s (j : Int)).inc > max (gF s (j : Int)) (max (pruneG s t (j : Int)) 0)
 ·have e5 : e = gE s (j : Int) := e4.trans (if_pos hc)
  have hgo := goneAt_eq h (j : Int)
  rw [← e5] at hgo hc
  rw [if_pos e3,if_pos hr] at hgo
  have hp : pruneG s t (j : Int) = min (common t (j : Int)) e.inc := by rw [pruneG_eq,hgo]
  rw [hp] at hc
  omega
 ·have e5 : e = zEnt := e4.trans (if_neg hc)
  rw [e5] at e3
  exact absurd e3 (by decide)
theorem mo_impl_MarksOf (s : SV) (st : St) (hR : RdS st s) (hb : bigS s.x) : C 11 [.agg #[vS s.p s.x.items.length,vS s.q s.x.floors.length]] st (fun v s' => ∃ q l,v = vS q l.length ∧ l = marksF (goneAt s.x) 5 ∧ szOk l.length ∧ OwnR s' 2 cFlr q l ∧ Pres st s' ∧ New st.next q) :=
 (ac_impl_MarksOf s st hR hb).mono fun v s' ⟨q,h1,h2,h3,h4⟩ => ⟨q,_,h1,rfl,szW _,h2,h3,h4⟩
theorem ac_laws_FnMarks (p : Option Addr) (bs : List Int) (st : St) (hI : Ints st .u8 p bs) (hT : Tab st) : C 4 [vS p bs.length] st (fun v s => v = vB true) := by
 refine AC.enterX (i := ⟨[3,5,9],[3,5,9,99,104],[0,2,3,4,5,6,7,8,9,10,12,26,29,38,61,63,90,110],[]⟩) [(5,[3],[0]),(13,[11],[4]),(18,[2,10],[3,11]),(21,[11],[8]),(23,[4,17],[5,18])] Tryd.func4 rfl rfl (by kernel_rfl) (by kernel_rfl) Tryd.ntmps4 (Lb rfl) rfl ?_
 refine Cm 0 st [(0,vS p bs.length),(2,vB false)] [] fun _ _ => ?_
 refine ⟨_,rfl,(ac_laws_big p bs.length st).mono ?_⟩
 rintro _ st ⟨x12,rfl,h12,rfl⟩
 rcases x12 with _|_
 ·replace h12 := of_decide_eq_false h12.symm
  refine Cm 0 st [(0,vS p bs.length),(2,vB false),(12,vB false)] [] fun _ _ => ?_
  refine cxs ?_
  refine ⟨_,rfl,(ac_spec_DrawPrune p bs st hI (by first | assumption | omega)).mono ?_⟩
  rintro _ s15 ⟨u,q,t,rfl,hsm,hts,htr,hRu,hRt,hP15⟩
  iterate 3 refine ⟨_,rfl,?_⟩
  refine ⟨_,Os rfl,?_⟩
  refine Cm 1 s15 [(2,vB false),Ml 3 0,(4,vS q t.length)] [(3,0,cSV u)] fun _ _ => ?_
  have hb := hsm.big (by decide)
  refine ⟨_,Od rfl,?_⟩
  refine ⟨_,rfl,(ac_impl_Prune u q t s15 hRu hRt hb hts htr).mono ?_⟩
  rintro _ s20 ⟨u20,rfl,h20,hO20,hN20,hP20⟩
  refine ⟨_,rfl,?_⟩
  refine ⟨_,Os rfl,?_⟩
  refine Cm 2 s20 [(2,vB false),Ml 3 0,(4,vS q t.length),Ml 5 1] [(3,0,cSV u),(5,1,cSV u20)] fun _ _ => ?_
  have hb20 : bigS u20.x := by
   rw [h20]
   by_cases hk : stateOk u.x
   ·exact big_ok (prune_ok hk _)
   ·rw [show pruneF u.x (rls t) = u.x from if_neg hk]; exact hb
  refine ⟨_,Od rfl,?_⟩
  refine ⟨ld_own rfl rfl rfl,?_⟩
  refine ⟨_,Od rfl,?_⟩
  refine ⟨_,rfl,(ac_spec_Prune u q t s20 (hRu.pres hP20) (hRt.pres hP20) hb hts htr).mono ?_⟩
  rintro _ s24 ⟨u24,rfl,h24,hO24,hN24,hP24⟩
  refine ⟨hP24.2,?_⟩
  refine ⟨_,rfl,(AC.tru (ac_spec_StateSame u20 u24 s24 (hO20.rdS.pres hP24) hO24.rdS hb20) (h20.trans h24.symm)).mono ?_⟩
  rintro _ s24 ⟨rfl,rfl⟩
  refine ⟨_,rfl,?_⟩
  refine Cm 2 s24 [(2,vB false),Ml 3 0,(4,vS q t.length),Ml 5 1,(26,vB false)] [(3,0,cSV u),(5,1,cSV u20)] fun _ _ => ?_
  have hRu24 := (hRu.pres hP20).pres hP24
  have hRp := hO20.rdS.pres hP24
  have hRt24 := (hRt.pres hP20).pres hP24
  have hT24 := ((hT.pres hP15).pres hP20).pres hP24
  refine cxs ?_
  refine ⟨_,Od rfl,?_⟩
  refine ⟨_,rfl,(ac_spec_StateOk u s24 hRu24 (by first | assumption | omega)).mono ?_⟩
  rintro _ s24 ⟨x28,rfl,h28,rfl⟩
  rcases x28 with _|_
  ·replace h28 := fun k => Bool.false_ne_true (h28.2 k)
   refine ⟨_,rfl,?_⟩
   refine Cm 2 s24 [(2,vB false),Ml 3 0,(4,vS q t.length),Ml 5 1,(29,vB true)] [(3,0,cSV u),(5,1,cSV u20)] fun _ _ => ?_
   refine ⟨_,Od rfl,?_⟩
   refine ⟨_,Od rfl,?_⟩
   refine ⟨_,rfl,(AC.tru (ac_spec_StateSame u20 u s24 hRp hRu24 hb20) (h20.trans (if_neg h28))).mono ?_⟩
   rintro _ s24 ⟨rfl,rfl⟩
   refine cxs ?_
   exact ⟨.inl rfl,_,rfl,rfl⟩
  ·replace h28 := h28.1 rfl
   refine ⟨_,rfl,?_⟩
   refine Cm 2 s24 [(2,vB false),Ml 3 0,(4,vS q t.length),Ml 5 1,(29,vB false)] [(3,0,cSV u),(5,1,cSV u20)] fun _ _ => ?_
   refine cxs ?_
   refine ⟨_,Od rfl,?_⟩
   refine ⟨_,rfl,(mo_impl_MarksOf u s24 hRu24 hb).mono ?_⟩
   rintro _ s34 ⟨q34,ml,rfl,hme,hml,hO34,hP34,hN34⟩
   refine cxs ?_
   have hM34 := hO34.rows len_cFlr
   have hRu34 := hRu24.pres hP34
   have hRp34 := hRp.pres hP34
   have hRt34 := hRt24.pres hP34
   have hT34 := hT24.pres hP34
   have hml' : ml.length ≤ 1048576 := hml
   refine Cm 2 s34 [(2,vB false),Ml 3 0,(4,vS q t.length),Ml 5 1,(6,vS q34 ml.length),(7,vI 0)] [(3,0,cSV u),(5,1,cSV u20)] fun _ _ => ?_
   refine AW.loopM (fun i : Nat => [(3,vL 3 0 (0)),(4,vS q t.length),(5,vL 5 0 (1)),(6,vS q34 ml.length),(7,vI (i : Int))]) (fun i : Nat => [(3,0,[vS u.p u.x.items.length,vS u.q u.x.floors.length]),(5,1,[vS u20.p u20.x.items.length,vS u20.q u20.x.floors.length])]) (fun m (i : Nat) st' => m = ml.length - i ∧ i ≤ ml.length ∧ s34 = st') 0 _ ⟨rfl,rfl,rfl,rfl,rfl,trivial⟩ ⟨rfl,rfl,trivial⟩ ⟨rfl,Nat.zero_le _,rfl⟩ ?_
   rintro m i ρ0 ff gg st' ⟨rfl,hi,rfl⟩
   iterate 2 refine ⟨_,rfl,?_⟩
   rintro (_|_) h38
   ·replace h38 : ¬ ((i : Int) < (ml.length : Int)) := of_decide_eq_false h38
    refine Cm gg s34 [Ml 3 0,(4,vS q t.length),Ml 5 1,(6,vS q34 ml.length),(7,vI (i : Int)),(38,vB false)] [(3,0,cSV u),(5,1,cSV u20)] fun _ _ => ?_
    refine cxs ?_
    refine Cm gg s34 [Ml 3 0,(4,vS q t.length),Ml 5 1,(6,vS q34 ml.length),(8,vI 0)] [(3,0,cSV u),(5,1,cSV u20)] fun _ _ => ?_
    refine AW.loopM (fun j : Nat => [(3,vL 3 0 (0)),(4,vS q t.length),(5,vL 5 0 (1)),(6,vS q34 ml.length),(8,vI (j : Int))]) (fun j : Nat => [(3,0,[vS u.p u.x.items.length,vS u.q u.x.floors.length]),(5,1,[vS u20.p u20.x.items.length,vS u20.q u20.x.floors.length])]) (fun m (j : Nat) st' => m = 5 - j ∧ j ≤ 5 ∧ s34 = st') 0 _ ⟨rfl,rfl,rfl,rfl,rfl,trivial⟩ ⟨rfl,rfl,trivial⟩ ⟨rfl,Nat.zero_le _,rfl⟩ ?_
    rintro m j ρ0 ff gg st' ⟨rfl,hj,rfl⟩
    refine ⟨_,rfl,?_⟩
    rintro (_|_) h63
    ·replace h63 : ¬ ((j : Int) < (5)) := of_decide_eq_false h63
     refine Cm gg s34 [Ml 3 0,(4,vS q t.length),Ml 5 1,(6,vS q34 ml.length),(8,vI (j : Int)),(63,vB false)] [(3,0,cSV u),(5,1,cSV u20)] fun _ _ => ?_
     refine cxs ?_
     refine ⟨_,rfl,(AC.tru (ac_impl_MarksOk q34 ml s34 hM34 hml) (hme ▸ marks_ok h28)).mono ?_⟩
     rintro _ s34 ⟨rfl,rfl⟩
     refine ⟨_,Od rfl,?_⟩
     refine ⟨_,rfl,(ac_impl_ViewText u20 s34 hRp34 hb20 hT34).mono ?_⟩
     rintro _ s115 ⟨rfl,hP115⟩
     refine ⟨hP115.2,?_⟩
     refine ⟨_,Od rfl,?_⟩
     refine ⟨ld_own rfl rfl rfl,?_⟩
     refine ⟨_,rfl,(ac_impl_ViewText u s115 (hRu34.pres hP115) hb (hT34.pres hP115)).mono ?_⟩
     rintro _ s117 ⟨rfl,hP117⟩
     refine ⟨_,rfl,?_⟩
     rintro (_|_) h118
     ·exact absurd ((by rw [h20,view_prune h28])) (str_bne h118)
     refine ⟨_,rfl,?_⟩
     refine ⟨_,Od rfl,?_⟩
     refine ⟨_,Od rfl,?_⟩
     refine ⟨_,rfl,(AC.truQ (ac_impl_StateLeq u u20 s117 ((hRu34.pres hP115).pres hP117) ((hRp34.pres hP115).pres hP117) hb hb20) ⟨h28,h20 ▸ prune_ok h28 _,h20 ▸ leS_prune h28 _⟩).mono ?_⟩
     rintro _ s123 ⟨rfl,hP123⟩
     refine ⟨_,rfl,?_⟩
     refine ⟨_,Od rfl,?_⟩
     refine ⟨_,rfl,(ac_impl_Prune u20 q t s123 (((hRp34.pres hP115).pres hP117).pres hP123) (((hRt34.pres hP115).pres hP117).pres hP123) hb20 hts htr).mono ?_⟩
     rintro _ s128 ⟨u128,rfl,h128,hO128,hN128,hP128⟩
     refine ⟨hP128.low ((hP115.trans hP117).trans hP123),?_⟩
     refine ⟨_,Od rfl,?_⟩
     refine ⟨ld_own rfl rfl rfl,?_⟩
     refine ⟨_,rfl,(AC.tru (ac_spec_StateSame u128 u20 s128 hO128.rdS ((((hRp34.pres hP115).pres hP117).pres hP123).pres hP128) (by rw [h128,h20,prune_again h28]; exact h20 ▸ hb20)) (by rw [h128,h20,prune_again h28])).mono ?_⟩
     rintro _ s128 ⟨rfl,rfl⟩
     refine ⟨_,rfl,?_⟩
     refine cxs ?_
     exact ⟨.inl rfl,_,rfl,rfl⟩
    ·replace h63 : (j : Int) < (5) := of_decide_eq_true h63
     refine Cm gg s34 [Ml 3 0,(4,vS q t.length),Ml 5 1,(6,vS q34 ml.length),(8,vI (j : Int)),(63,vB true)] [(3,0,cSV u),(5,1,cSV u20)] fun _ _ => ?_
     refine cxs ?_
     refine ⟨_,Od rfl,?_⟩
     refine ⟨_,rfl,(ac_impl_GoneAt u20 (j : Int) s34 hRp34 (by first | assumption | omega)).mono ?_⟩
     rintro _ s34 ⟨rfl,rfl⟩
     refine ⟨fun _ _ => rfl,?_⟩
     refine ⟨_,Od rfl,?_⟩
     refine ⟨ld_own rfl rfl rfl,?_⟩
     refine ⟨_,rfl,(ac_impl_GoneAt u (j : Int) s34 hRu34 (by first | assumption | omega)).mono ?_⟩
     rintro _ s34 ⟨rfl,rfl⟩
     refine ⟨_,rfl,?_⟩
     rintro (_|_) h72
     rotate_left
     ·exact absurd ((by rw [h20]; exact prune_gone h28 _ (by omega))) (bne_iff_ne.1 h72)
     refine ⟨_,Od rfl,?_⟩
     refine ⟨_,rfl,(ac_impl_FloorOf u20 (j : Int) s34 hRp34 (by first | assumption | omega)).mono ?_⟩
     rintro _ s34 ⟨rfl,rfl⟩
     refine ⟨fun _ _ => rfl,?_⟩
     refine ⟨_,Od rfl,?_⟩
     refine ⟨ld_own rfl rfl rfl,?_⟩
     refine ⟨_,rfl,(ac_impl_FloorOf u (j : Int) s34 hRu34 (by first | assumption | omega)).mono ?_⟩
     rintro _ s34 ⟨rfl,rfl⟩
     refine ⟨_,rfl,?_⟩
     rintro (_|_) h80
     ·replace h80 : ¬ ((floorOf u20.x.floors (j : Int)) > (floorOf u.x.floors (j : Int))) := of_decide_eq_false h80
      iterate 2 refine ⟨_,rfl,?_⟩
      refine Cm gg s34 [Ml 3 0,(4,vS q t.length),Ml 5 1,(6,vS q34 ml.length),(8,vI (j : Int)),(63,vB true),(90,vB false)] [(3,0,cSV u),(5,1,cSV u20)] fun _ _ => ?_
      refine cxs ?_
      refine ⟨_,Od rfl,?_⟩
      refine ⟨_,rfl,(ac_impl_EntryOf u20 (j : Int) s34 hRp34 (by first | assumption | omega)).mono ?_⟩
      rintro _ s34 ⟨e94,b94,rfl,h94,rfl⟩
      rcases b94 with _|_
      ·iterate 3 refine ⟨_,rfl,?_⟩
       refine ⟨_,Os rfl,?_⟩
       refine Cm (gg + 1) s34 [Ml 3 0,(4,vS q t.length),Ml 5 1,(6,vS q34 ml.length),(8,vI (j : Int)),Ml 9 gg,(10,vB false),(63,vB true),(90,vB false)] [(3,0,cSV u),(5,1,cSV u20),(9,gg,[vI e94.inc,vI e94.rank,vI e94.beat,vI e94.ver,.string e94.data])] fun _ _ => ?_
       iterate 2 refine ⟨_,rfl,?_⟩
       refine Cm (gg + 1) s34 [Ml 3 0,(4,vS q t.length),Ml 5 1,(6,vS q34 ml.length),(8,vI (j : Int)),Ml 9 gg,(10,vB false),(63,vB true),(90,vB false),(110,vB false)] [(3,0,cSV u),(5,1,cSV u20),(9,gg,[vI e94.inc,vI e94.rank,vI e94.beat,vI e94.ver,.string e94.data])] fun _ _ => ?_
       refine cxs ?_
       have ew65 : IntKind.wrap .i64 ((j : Int) + (1)) = ((j + 1 : Nat) : Int) := (wrap_i64 (by omega) (by omega)).trans (by omega)
       refine ⟨_,rfl,?_⟩
       exact ⟨j + 1,5 - (j + 1),by omega,⟨rfl,rfl,rfl,rfl,congrArg (Value.int .i64) ew65,trivial⟩,⟨rfl,rfl,trivial⟩,rfl,by omega,rfl⟩
      ·iterate 3 refine ⟨_,rfl,?_⟩
       refine ⟨_,Os rfl,?_⟩
       refine Cm (gg + 1) s34 [Ml 3 0,(4,vS q t.length),Ml 5 1,(6,vS q34 ml.length),(8,vI (j : Int)),Ml 9 gg,(10,vB true),(63,vB true),(90,vB false)] [(3,0,cSV u),(5,1,cSV u20),(9,gg,[vI e94.inc,vI e94.rank,vI e94.beat,vI e94.ver,.string e94.data])] fun _ _ => ?_
       refine ⟨_,rfl,?_⟩
       refine ⟨_,Od rfl,?_⟩
       refine ⟨_,rfl,?_⟩
       rintro (_|_) h101
       ·replace h101 : ¬ (e94.rank = (1)) := beq_eq_false_iff_ne.1 h101
        iterate 2 refine ⟨_,rfl,?_⟩
        refine Cm (gg + 1) s34 [Ml 3 0,(4,vS q t.length),Ml 5 1,(6,vS q34 ml.length),(8,vI (j : Int)),Ml 9 gg,(10,vB true),(63,vB true),(90,vB false),(110,vB false)] [(3,0,cSV u),(5,1,cSV u20),(9,gg,[vI e94.inc,vI e94.rank,vI e94.beat,vI e94.ver,.string e94.data])] fun _ _ => ?_
        refine cxs ?_
        have ew65 : IntKind.wrap .i64 ((j : Int) + (1)) = ((j + 1 : Nat) : Int) := (wrap_i64 (by omega) (by omega)).trans (by omega)
        refine ⟨_,rfl,?_⟩
        exact ⟨j + 1,5 - (j + 1),by omega,⟨rfl,rfl,rfl,rfl,congrArg (Value.int .i64) ew65,trivial⟩,⟨rfl,rfl,trivial⟩,rfl,by omega,rfl⟩
       ·replace h101 : e94.rank = (1) := beq_iff_eq.1 h101
        iterate 2 refine ⟨_,rfl,?_⟩
        refine ⟨_,Od rfl,?_⟩
        refine ⟨ld_own rfl rfl rfl,?_⟩
        refine ⟨_,rfl,(ac_impl_Common q t (j : Int) s34 hRt34 (by first | assumption | omega) (by first | assumption | omega)).mono ?_⟩
        rintro _ s34 ⟨rfl,rfl⟩
        refine ⟨fun _ _ => rfl,?_⟩
        refine ⟨_,rfl,?_⟩
        rintro (_|_) h109
        rotate_left
        ·exact absurd (of_decide_eq_true h109) ((by rw [h20] at h94; exact prune_over h28 _ (by omega) h94 h101))
        refine ⟨_,rfl,?_⟩
        refine Cm (gg + 1) s34 [Ml 3 0,(4,vS q t.length),Ml 5 1,(6,vS q34 ml.length),(8,vI (j : Int)),Ml 9 gg,(10,vB true),(63,vB true),(90,vB false),(110,vB false)] [(3,0,cSV u),(5,1,cSV u20),(9,gg,[vI e94.inc,vI e94.rank,vI e94.beat,vI e94.ver,.string e94.data])] fun _ _ => ?_
        refine cxs ?_
        have ew65 : IntKind.wrap .i64 ((j : Int) + (1)) = ((j + 1 : Nat) : Int) := (wrap_i64 (by omega) (by omega)).trans (by omega)
        refine ⟨_,rfl,?_⟩
        exact ⟨j + 1,5 - (j + 1),by omega,⟨rfl,rfl,rfl,rfl,congrArg (Value.int .i64) ew65,trivial⟩,⟨rfl,rfl,trivial⟩,rfl,by omega,rfl⟩
     ·replace h80 : (floorOf u20.x.floors (j : Int)) > (floorOf u.x.floors (j : Int)) := of_decide_eq_true h80
      refine ⟨_,Od rfl,?_⟩
      refine ⟨_,rfl,(ac_impl_FloorOf u20 (j : Int) s34 hRp34 (by first | assumption | omega)).mono ?_⟩
      rintro _ s34 ⟨rfl,rfl⟩
      refine ⟨_,rfl,(ac_impl_Common q t (j : Int) s34 hRt34 (by first | assumption | omega) (by first | assumption | omega)).mono ?_⟩
      rintro _ s34 ⟨rfl,rfl⟩
      refine ⟨_,rfl,?_⟩
      rintro (_|_) h88
      rotate_left
      ·exact absurd (of_decide_eq_true h88) ((by rw [h20] at h80 ⊢; exact prune_floor h28 _ (by omega) h80))
      iterate 2 refine ⟨_,rfl,?_⟩
      refine Cm gg s34 [Ml 3 0,(4,vS q t.length),Ml 5 1,(6,vS q34 ml.length),(8,vI (j : Int)),(63,vB true),(90,vB false)] [(3,0,cSV u),(5,1,cSV u20)] fun _ _ => ?_
      refine cxs ?_
      refine ⟨_,Od rfl,?_⟩
      refine ⟨_,rfl,(ac_impl_EntryOf u20 (j : Int) s34 hRp34 (by first | assumption | omega)).mono ?_⟩
      rintro _ s34 ⟨e94,b94,rfl,h94,rfl⟩
      rcases b94 with _|_
      ·iterate 3 refine ⟨_,rfl,?_⟩
       refine ⟨_,Os rfl,?_⟩
       refine Cm (gg + 1) s34 [Ml 3 0,(4,vS q t.length),Ml 5 1,(6,vS q34 ml.length),(8,vI (j : Int)),Ml 9 gg,(10,vB false),(63,vB true),(90,vB false)] [(3,0,cSV u),(5,1,cSV u20),(9,gg,[vI e94.inc,vI e94.rank,vI e94.beat,vI e94.ver,.string e94.data])] fun _ _ => ?_
       iterate 2 refine ⟨_,rfl,?_⟩
       refine Cm (gg + 1) s34 [Ml 3 0,(4,vS q t.length),Ml 5 1,(6,vS q34 ml.length),(8,vI (j : Int)),Ml 9 gg,(10,vB false),(63,vB true),(90,vB false),(110,vB false)] [(3,0,cSV u),(5,1,cSV u20),(9,gg,[vI e94.inc,vI e94.rank,vI e94.beat,vI e94.ver,.string e94.data])] fun _ _ => ?_
       refine cxs ?_
       have ew65 : IntKind.wrap .i64 ((j : Int) + (1)) = ((j + 1 : Nat) : Int) := (wrap_i64 (by omega) (by omega)).trans (by omega)
       refine ⟨_,rfl,?_⟩
       exact ⟨j + 1,5 - (j + 1),by omega,⟨rfl,rfl,rfl,rfl,congrArg (Value.int .i64) ew65,trivial⟩,⟨rfl,rfl,trivial⟩,rfl,by omega,rfl⟩
      ·iterate 3 refine ⟨_,rfl,?_⟩
       refine ⟨_,Os rfl,?_⟩
       refine Cm (gg + 1) s34 [Ml 3 0,(4,vS q t.length),Ml 5 1,(6,vS q34 ml.length),(8,vI (j : Int)),Ml 9 gg,(10,vB true),(63,vB true),(90,vB false)] [(3,0,cSV u),(5,1,cSV u20),(9,gg,[vI e94.inc,vI e94.rank,vI e94.beat,vI e94.ver,.string e94.data])] fun _ _ => ?_
       refine ⟨_,rfl,?_⟩
       refine ⟨_,Od rfl,?_⟩
       refine ⟨_,rfl,?_⟩
       rintro (_|_) h101
       ·replace h101 : ¬ (e94.rank = (1)) := beq_eq_false_iff_ne.1 h101
        iterate 2 refine ⟨_,rfl,?_⟩
        refine Cm (gg + 1) s34 [Ml 3 0,(4,vS q t.length),Ml 5 1,(6,vS q34 ml.length),(8,vI (j : Int)),Ml 9 gg,(10,vB true),(63,vB true),(90,vB false),(110,vB false)] [(3,0,cSV u),(5,1,cSV u20),(9,gg,[vI e94.inc,vI e94.rank,vI e94.beat,vI e94.ver,.string e94.data])] fun _ _ => ?_
        refine cxs ?_
        have ew65 : IntKind.wrap .i64 ((j : Int) + (1)) = ((j + 1 : Nat) : Int) := (wrap_i64 (by omega) (by omega)).trans (by omega)
        refine ⟨_,rfl,?_⟩
        exact ⟨j + 1,5 - (j + 1),by omega,⟨rfl,rfl,rfl,rfl,congrArg (Value.int .i64) ew65,trivial⟩,⟨rfl,rfl,trivial⟩,rfl,by omega,rfl⟩
       ·replace h101 : e94.rank = (1) := beq_iff_eq.1 h101
        iterate 2 refine ⟨_,rfl,?_⟩
        refine ⟨_,Od rfl,?_⟩
        refine ⟨ld_own rfl rfl rfl,?_⟩
        refine ⟨_,rfl,(ac_impl_Common q t (j : Int) s34 hRt34 (by first | assumption | omega) (by first | assumption | omega)).mono ?_⟩
        rintro _ s34 ⟨rfl,rfl⟩
        refine ⟨fun _ _ => rfl,?_⟩
        refine ⟨_,rfl,?_⟩
        rintro (_|_) h109
        rotate_left
        ·exact absurd (of_decide_eq_true h109) ((by rw [h20] at h94; exact prune_over h28 _ (by omega) h94 h101))
        refine ⟨_,rfl,?_⟩
        refine Cm (gg + 1) s34 [Ml 3 0,(4,vS q t.length),Ml 5 1,(6,vS q34 ml.length),(8,vI (j : Int)),Ml 9 gg,(10,vB true),(63,vB true),(90,vB false),(110,vB false)] [(3,0,cSV u),(5,1,cSV u20),(9,gg,[vI e94.inc,vI e94.rank,vI e94.beat,vI e94.ver,.string e94.data])] fun _ _ => ?_
        refine cxs ?_
        have ew65 : IntKind.wrap .i64 ((j : Int) + (1)) = ((j + 1 : Nat) : Int) := (wrap_i64 (by omega) (by omega)).trans (by omega)
        refine ⟨_,rfl,?_⟩
        exact ⟨j + 1,5 - (j + 1),by omega,⟨rfl,rfl,rfl,rfl,congrArg (Value.int .i64) ew65,trivial⟩,⟨rfl,rfl,trivial⟩,rfl,by omega,rfl⟩
   ·replace h38 : (i : Int) < (ml.length : Int) := of_decide_eq_true h38
    refine Cm gg s34 [Ml 3 0,(4,vS q t.length),Ml 5 1,(6,vS q34 ml.length),(7,vI (i : Int)),(38,vB true)] [(3,0,cSV u),(5,1,cSV u20)] fun _ _ => ?_
    refine cxs ?_
    refine op_at i hM34 (by omega) rfl rfl rfl rfl rfl rfl rfl ?_
    intro x43 b43 d43 k43 hy43 hb43 hm43 hc43 ho43
    refine ⟨_,rfl,?_⟩
    refine ⟨_,op_ldc (i := 1) rfl rfl rfl rfl hm43 hc43 rfl rfl,?_⟩
    refine ⟨ld_lt rfl rfl hb43,?_⟩
    refine ⟨_,Od rfl,?_⟩
    refine op_el i hM34 hy43 rfl rfl rfl rfl rfl rfl rfl ?_
    intro b49 d49 k49 hb49 hm49 hc49 ho49
    refine ⟨_,rfl,?_⟩
    refine ⟨_,op_ldc (i := 0) rfl rfl rfl rfl hm49 hc49 rfl rfl,?_⟩
    refine ⟨_,rfl,(ac_impl_GoneAt u x43.id s34 hRu34 (by first | assumption | omega)).mono ?_⟩
    rintro _ s34 ⟨rfl,rfl⟩
    refine ⟨fun _ _ => rfl,?_⟩
    refine ⟨_,rfl,?_⟩
    rintro (_|_) h53
    rotate_left
    ·exact absurd ((by rw [hme] at hy43; exact (marksF_get hy43).1)) (bne_iff_ne.1 h53)
    refine op_el i hM34 hy43 rfl rfl rfl rfl rfl rfl rfl ?_
    intro b57 d57 k57 hb57 hm57 hc57 ho57
    refine ⟨_,rfl,?_⟩
    refine ⟨_,op_ldc (i := 1) rfl rfl rfl rfl hm57 hc57 rfl rfl,?_⟩
    refine ⟨_,rfl,?_⟩
    rintro (_|_) h60
    rotate_left
    ·exact absurd (of_decide_eq_true h60) ((by rw [hme] at hy43; have := (marksF_get hy43).2; omega))
    refine ⟨_,rfl,?_⟩
    refine Cm gg s34 [Ml 3 0,(4,vS q t.length),Ml 5 1,(6,vS q34 ml.length),(7,vI (i : Int)),(38,vB true),(61,vB false)] [(3,0,cSV u),(5,1,cSV u20)] fun _ _ => ?_
    refine cxs ?_
    have ew40 : IntKind.wrap .i64 ((i : Int) + (1)) = ((i + 1 : Nat) : Int) := (wrap_i64 (by omega) (by omega)).trans (by omega)
    refine ⟨_,rfl,?_⟩
    exact ⟨i + 1,ml.length - (i + 1),by omega,⟨rfl,rfl,rfl,rfl,congrArg (Value.int .i64) ew40,trivial⟩,⟨rfl,rfl,trivial⟩,rfl,by omega,rfl⟩
 ·replace h12 := of_decide_eq_true h12.symm
  refine Cm 0 st [(0,vS p bs.length),(2,vB false),(12,vB true)] [] fun _ _ => ?_
  refine cxs ?_
  exact ⟨.inl rfl,_,rfl,rfl⟩
end Go.Proofs.YteabadoaeadcgaaDoor.AM
