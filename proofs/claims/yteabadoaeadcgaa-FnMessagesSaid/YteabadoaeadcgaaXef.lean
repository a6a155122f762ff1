/- Part 6 of the texts on which the law's proof rests. -/
import Derived.Test.YteabadoaeadcgaaXee
namespace Go.Proofs.Yteabadoaeadcgaa.AM
open Go Go.Proofs
set_option linter.unusedVariables false
set_option linter.unusedSimpArgs false
set_option maxRecDepth 100000
set_option maxHeartbeats 4000000
theorem back_ok {g u : Mg} {b : Bool} (h : (u,b) = parseM (mgBz g)) : (b = true → msgOk g ∧ u = g) ∧ (b = false → ¬ msgOk g) := by
 refine ⟨fun hb => ?_,fun hb hk => ?_⟩
 ·subst hb
  have hk : msgOk g := Classical.byContradiction fun k => by
   rw [mgBz_no k] at h
   have := parsm_nil h
   cases this
  rw [mgBz_of hk] at h
  exact ⟨hk,(parsm_of hk h).2⟩
 ·subst hb
  rw [mgBz_of hk] at h
  have := (parsm_of hk h).1
  cases this
theorem parsm_eq {u v : Mg} {b c : Bool} {l : List Int} (h : (u,b) = parseM l) (k : (v,c) = parseM l) : b = c := by
 have := h.trans k.symm
 injection this
theorem ac_laws_FnMessages (p : Option Addr) (bs : List Int) (st : St) (hI : Ints st .u8 p bs) : C 12 [vS p bs.length] st (fun v s => v = vB true) := by
 refine AC.enterX (i := ⟨[3,5,8,10],[3,5,8,10],[0,2,3,4,5,6,7,8,9,11,13,35],[]⟩) [(11,[8],[11])] Try.func12 rfl rfl (by kernel_rfl) (by kernel_rfl) Try.ntmps12 (Lb rfl) rfl ?_
 refine Cm 0 st [(0,vS p bs.length),(2,vB false)] [] fun _ _ => ?_
 refine ⟨_,rfl,(ac_laws_big p bs.length st).mono ?_⟩
 rintro _ st ⟨x13,rfl,h13,rfl⟩
 rcases x13 with _|_
 ·replace h13 := of_decide_eq_false h13.symm
  refine Cm 0 st [(0,vS p bs.length),(2,vB false),(13,vB false)] [] fun _ _ => ?_
  refine cxs ?_
  refine ⟨_,rfl,(ac_spec_DrawMsgBytes p bs st hI (by first | assumption | omega)).mono ?_⟩
  rintro _ s15 ⟨g15,rfl,h15,h15',hP15⟩
  refine ⟨_,rfl,?_⟩
  refine ⟨_,op_stw (vs := cMV g15) rfl rfl rfl rfl rfl rfl rfl rfl,?_⟩
  refine Cm 1 s15 [(0,vS p bs.length),(2,vB false),Ml 3 0] [(3,0,cMV g15)] fun _ _ => ?_
  refine ⟨_,op_ldo (v := (vMV g15)) rfl rfl rfl rfl,?_⟩
  refine ⟨_,rfl,(ac_impl_MsgBytes g15 s15 h15' h15.big).mono ?_⟩
  rintro _ s17 ⟨q17,rfl,hO17,hN17,hP17⟩
  refine Cm 1 s17 [(0,vS p bs.length),(2,vB false),Ml 3 0,(4,vS q17 (mgBz g15.x).length)] [(3,0,cMV g15)] fun _ _ => ?_
  have hlen := mgBz_len g15.x
  refine ⟨_,rfl,(ac_impl_MsgOf q17 (mgBz g15.x) s17 (hO17.rows fB_len) (mgBz_ok _) (by omega)).mono ?_⟩
  rintro _ s20 ⟨u20,b20,rfl,h20,hO20,hN20,hP20⟩
  rcases b20 with _|_
  ·iterate 3 refine ⟨_,rfl,?_⟩
   refine ⟨_,op_stw (vs := cMV u20) rfl rfl rfl rfl rfl rfl rfl rfl,?_⟩
   refine Cm 2 s20 [(0,vS p bs.length),(2,vB false),Ml 3 0,Ml 5 1,(6,vB false)] [(3,0,cMV g15),(5,1,cMV u20)] fun _ _ => ?_
   have hbk := back_ok h20
   have hR20 : RdM s20 g15 := (h15'.pres hP17).pres hP20
   have hP20' : Pres st s20 := (hP15.trans hP17).trans hP20
   refine ⟨_,op_ldo (v := (vMV g15)) rfl rfl rfl rfl,?_⟩
   refine ⟨_,rfl,(AC.fls (ac_spec_MsgOk g15 s20 hR20 h15.big) (hbk.2 rfl)).mono ?_⟩
   rintro _ s20 ⟨rfl,rfl⟩
   refine ⟨_,rfl,?_⟩
   rintro (_|_) h26
   rotate_left
   ·exact absurd (rfl) (b_ne h26)
   iterate 2 refine ⟨_,rfl,?_⟩
   refine Cm 2 s20 [(0,vS p bs.length),(2,vB false),(35,vB false)] [] fun _ _ => ?_
   refine cxs ?_
   refine ⟨_,rfl,(ac_spec_DrawMsgOf p bs s20 (hP20'.ints hI) (by first | assumption | omega)).mono ?_⟩
   rintro _ s37 ⟨q37,l37,rfl,hb37,hl37,hR37,hP37⟩
   refine Cm 2 s37 [(2,vB false),(7,vS q37 l37.length)] [] fun _ _ => ?_
   refine ⟨_,rfl,(ac_impl_MsgOf q37 l37 s37 hR37 hb37 (by omega)).mono ?_⟩
   rintro _ s40 ⟨u40,b40,rfl,h40,hO40,hN40,hP40⟩
   rcases b40 with _|_
   ·iterate 3 refine ⟨_,rfl,?_⟩
    refine ⟨_,op_stw (vs := cMV u40) rfl rfl rfl rfl rfl rfl rfl rfl,?_⟩
    refine Cm 3 s40 [(2,vB false),(7,vS q37 l37.length),Ml 8 2,(9,vB false)] [(8,2,cMV u40)] fun _ _ => ?_
    refine ⟨_,rfl,(ac_spec_MsgOf q37 l37 s40 (hP40.rows hR37) hb37 (by omega)).mono ?_⟩
    rintro _ s45 ⟨u45,b45,rfl,h45,hO45,hN45,hP45⟩
    iterate 3 refine ⟨_,rfl,?_⟩
    refine ⟨_,op_stw (vs := cMV u45) rfl rfl rfl rfl rfl rfl rfl rfl,?_⟩
    refine Cm 4 s45 [(2,vB false),(7,vS q37 l37.length),Ml 8 2,(9,vB false),(11,vB b45)] [(8,2,cMV u40)] fun _ _ => ?_
    refine ⟨_,rfl,?_⟩
    rintro (_|_) h50
    ·exact absurd ((parsm_eq h40 h45)) (beq_eq_false_iff_ne.1 h50)
    iterate 3 refine ⟨_,rfl,?_⟩
    refine cxs ?_
    exact ⟨.inl rfl,_,rfl,rfl⟩
   ·iterate 3 refine ⟨_,rfl,?_⟩
    refine ⟨_,op_stw (vs := cMV u40) rfl rfl rfl rfl rfl rfl rfl rfl,?_⟩
    refine Cm 3 s40 [(2,vB false),(7,vS q37 l37.length),Ml 8 2,(9,vB true)] [(8,2,cMV u40)] fun _ _ => ?_
    refine ⟨_,rfl,(ac_spec_MsgOf q37 l37 s40 (hP40.rows hR37) hb37 (by omega)).mono ?_⟩
    rintro _ s45 ⟨u45,b45,rfl,h45,hO45,hN45,hP45⟩
    iterate 3 refine ⟨_,rfl,?_⟩
    refine ⟨_,op_stw (vs := cMV u45) rfl rfl rfl rfl rfl rfl rfl rfl,?_⟩
    refine Cm 4 s45 [(2,vB false),(7,vS q37 l37.length),Ml 8 2,(9,vB true),(11,vB b45)] [(8,2,cMV u40)] fun _ _ => ?_
    have hy := parsm_yes h40
    have hz : mgBz u40.x = l37 := by rw [mgBz_of hy.1]; exact hy.2
    have hRu : RdM s45 u40 := hO40.rdM.pres hP45
    have hR45 : Rows s45 1 fB q37 l37 := (hP40.trans hP45).rows hR37
    have hl0 : 0 < l37.length := by rw [← hz]; exact mgBz_pos hy.1
    refine ⟨_,rfl,?_⟩
    rintro (_|_) h50
    ·exact absurd ((parsm_eq h40 h45)) (beq_eq_false_iff_ne.1 h50)
    refine ⟨_,rfl,?_⟩
    refine ⟨_,op_ldo (v := (vMV u40)) rfl rfl rfl rfl,?_⟩
    refine ⟨_,rfl,(ac_impl_MsgBytes u40 s45 hRu (parsm_big h40)).mono ?_⟩
    rintro _ s56 ⟨q56,rfl,hO56,hN56,hP56⟩
    refine ⟨hP56.2,?_⟩
    refine ⟨_,op_strW (l := mgBz u40.x) rfl rfl rfl rfl rfl rfl (hO56.rows fB_len) (mgBz_pos hy.1),?_⟩
    refine ⟨_,op_strW (l := l37) rfl rfl rfl rfl rfl rfl (hP56.rows hR45) hl0,?_⟩
    refine ⟨ld_str rfl rfl (rows_lt hR45 hl0),?_⟩
    refine ⟨_,rfl,?_⟩
    rintro (_|_) h60
    ·exact absurd ((congrArg toB hz)) (str_bne h60)
    refine ⟨_,op_ldo (v := (vMV u40)) rfl rfl rfl rfl,?_⟩
    refine ⟨_,rfl,(AC.tru (ac_impl_MsgOk u40 s56 (hRu.pres hP56) (parsm_big h40)) hy.1).mono ?_⟩
    rintro _ s56 ⟨rfl,rfl⟩
    iterate 3 refine ⟨_,rfl,?_⟩
    refine cxs ?_
    exact ⟨.inl rfl,_,rfl,rfl⟩
  ·iterate 3 refine ⟨_,rfl,?_⟩
   refine ⟨_,op_stw (vs := cMV u20) rfl rfl rfl rfl rfl rfl rfl rfl,?_⟩
   refine Cm 2 s20 [(0,vS p bs.length),(2,vB false),Ml 3 0,Ml 5 1,(6,vB true)] [(3,0,cMV g15),(5,1,cMV u20)] fun _ _ => ?_
   have hbk := back_ok h20
   have hR20 : RdM s20 g15 := (h15'.pres hP17).pres hP20
   have hP20' : Pres st s20 := (hP15.trans hP17).trans hP20
   refine ⟨_,op_ldo (v := (vMV g15)) rfl rfl rfl rfl,?_⟩
   refine ⟨_,rfl,(AC.tru (ac_spec_MsgOk g15 s20 hR20 h15.big) (hbk.1 rfl).1).mono ?_⟩
   rintro _ s20 ⟨rfl,rfl⟩
   refine ⟨_,rfl,?_⟩
   rintro (_|_) h26
   rotate_left
   ·exact absurd (rfl) (b_ne h26)
   refine ⟨_,op_ldo (v := (vMV u20)) rfl rfl rfl rfl,?_⟩
   refine ⟨_,op_ldo (v := (vMV g15)) rfl rfl rfl rfl,?_⟩
   refine ⟨_,rfl,(AC.tru (ac_spec_MsgSame u20 g15 s20 hO20.rdM hR20 (parsm_big h20)) (hbk.1 rfl).2).mono ?_⟩
   rintro _ s20 ⟨rfl,rfl⟩
   iterate 3 refine ⟨_,rfl,?_⟩
   refine Cm 2 s20 [(0,vS p bs.length),(2,vB false),(35,vB false)] [] fun _ _ => ?_
   refine cxs ?_
   refine ⟨_,rfl,(ac_spec_DrawMsgOf p bs s20 (hP20'.ints hI) (by first | assumption | omega)).mono ?_⟩
   rintro _ s37 ⟨q37,l37,rfl,hb37,hl37,hR37,hP37⟩
   refine Cm 2 s37 [(2,vB false),(7,vS q37 l37.length)] [] fun _ _ => ?_
   refine ⟨_,rfl,(ac_impl_MsgOf q37 l37 s37 hR37 hb37 (by omega)).mono ?_⟩
   rintro _ s40 ⟨u40,b40,rfl,h40,hO40,hN40,hP40⟩
   rcases b40 with _|_
   ·iterate 3 refine ⟨_,rfl,?_⟩
    refine ⟨_,op_stw (vs := cMV u40) rfl rfl rfl rfl rfl rfl rfl rfl,?_⟩
    refine Cm 3 s40 [(2,vB false),(7,vS q37 l37.length),Ml 8 2,(9,vB false)] [(8,2,cMV u40)] fun _ _ => ?_
    refine ⟨_,rfl,(ac_spec_MsgOf q37 l37 s40 (hP40.rows hR37) hb37 (by omega)).mono ?_⟩
    rintro _ s45 ⟨u45,b45,rfl,h45,hO45,hN45,hP45⟩
    iterate 3 refine ⟨_,rfl,?_⟩
    refine ⟨_,op_stw (vs := cMV u45) rfl rfl rfl rfl rfl rfl rfl rfl,?_⟩
    refine Cm 4 s45 [(2,vB false),(7,vS q37 l37.length),Ml 8 2,(9,vB false),(11,vB b45)] [(8,2,cMV u40)] fun _ _ => ?_
    refine ⟨_,rfl,?_⟩
    rintro (_|_) h50
    ·exact absurd ((parsm_eq h40 h45)) (beq_eq_false_iff_ne.1 h50)
    iterate 3 refine ⟨_,rfl,?_⟩
    refine cxs ?_
    exact ⟨.inl rfl,_,rfl,rfl⟩
   ·iterate 3 refine ⟨_,rfl,?_⟩
    refine ⟨_,op_stw (vs := cMV u40) rfl rfl rfl rfl rfl rfl rfl rfl,?_⟩
    refine Cm 3 s40 [(2,vB false),(7,vS q37 l37.length),Ml 8 2,(9,vB true)] [(8,2,cMV u40)] fun _ _ => ?_
    refine ⟨_,rfl,(ac_spec_MsgOf q37 l37 s40 (hP40.rows hR37) hb37 (by omega)).mono ?_⟩
    rintro _ s45 ⟨u45,b45,rfl,h45,hO45,hN45,hP45⟩
    iterate 3 refine ⟨_,rfl,?_⟩
    refine ⟨_,op_stw (vs := cMV u45) rfl rfl rfl rfl rfl rfl rfl rfl,?_⟩
    refine Cm 4 s45 [(2,vB false),(7,vS q37 l37.length),Ml 8 2,(9,vB true),(11,vB b45)] [(8,2,cMV u40)] fun _ _ => ?_
    have hy := parsm_yes h40
    have hz : mgBz u40.x = l37 := by rw [mgBz_of hy.1]; exact hy.2
    have hRu : RdM s45 u40 := hO40.rdM.pres hP45
    have hR45 : Rows s45 1 fB q37 l37 := (hP40.trans hP45).rows hR37
    have hl0 : 0 < l37.length := by rw [← hz]; exact mgBz_pos hy.1
    refine ⟨_,rfl,?_⟩
    rintro (_|_) h50
    ·exact absurd ((parsm_eq h40 h45)) (beq_eq_false_iff_ne.1 h50)
    refine ⟨_,rfl,?_⟩
    refine ⟨_,op_ldo (v := (vMV u40)) rfl rfl rfl rfl,?_⟩
    refine ⟨_,rfl,(ac_impl_MsgBytes u40 s45 hRu (parsm_big h40)).mono ?_⟩
    rintro _ s56 ⟨q56,rfl,hO56,hN56,hP56⟩
    refine ⟨hP56.2,?_⟩
    refine ⟨_,op_strW (l := mgBz u40.x) rfl rfl rfl rfl rfl rfl (hO56.rows fB_len) (mgBz_pos hy.1),?_⟩
    refine ⟨_,op_strW (l := l37) rfl rfl rfl rfl rfl rfl (hP56.rows hR45) hl0,?_⟩
    refine ⟨ld_str rfl rfl (rows_lt hR45 hl0),?_⟩
    refine ⟨_,rfl,?_⟩
    rintro (_|_) h60
    ·exact absurd ((congrArg toB hz)) (str_bne h60)
    refine ⟨_,op_ldo (v := (vMV u40)) rfl rfl rfl rfl,?_⟩
    refine ⟨_,rfl,(AC.tru (ac_impl_MsgOk u40 s56 (hRu.pres hP56) (parsm_big h40)) hy.1).mono ?_⟩
    rintro _ s56 ⟨rfl,rfl⟩
    iterate 3 refine ⟨_,rfl,?_⟩
    refine cxs ?_
    exact ⟨.inl rfl,_,rfl,rfl⟩
 ·replace h13 := of_decide_eq_true h13.symm
  refine Cm 0 st [(0,vS p bs.length),(2,vB false),(13,vB true)] [] fun _ _ => ?_
  refine cxs ?_
  exact ⟨.inl rfl,_,rfl,rfl⟩
end Go.Proofs.Yteabadoaeadcgaa.AM
