/- Part 8 of the texts on which the law's proof rests. -/
import Derived.Test.YtpnolkhfeliehaaGreatXtg
namespace Go.Proofs.YtpnolkhfeliehaaGreat.AM
open Go Go.Proofs
set_option linter.unusedVariables false
set_option linter.unusedSimpArgs false
set_option maxRecDepth 100000
set_option maxHeartbeats 4000000
theorem AC.truP {f : FuncId} {args : List Value} {st : St} {P : Prop} (h : C f args st (fun v s => ∃ x,v = .bool x ∧ (x = true ↔ P) ∧ Pres st s)) (hp : P) : C f args st (fun v s => v = vB true ∧ Pres st s) :=
 AC.mono h fun v s ⟨x,h1,h2,h3⟩ => ⟨by rw [h1,h2.2 hp],h3⟩
theorem takeP_eq {x u w : Nd} {p : Sta} {b c : Bool} (h : (u,b) = takeP x p) (k : (w,c) = takeP x p) : b = c ∧ u = w := by
 have := h.trans k.symm
 injection this with h1 h2
 exact ⟨h2,h1⟩
theorem takeP_no {x u : Nd} {p : Sta} (h : (u,false) = takeP x p) : u = x := by
 unfold takeP at h
 split at h
 ·injection h with _ h; cases h
 ·injection h
theorem takeP_yes {x u : Nd} {p : Sta} (h : (u,true) = takeP x p) : nodeOk x ∧ stateOk p ∧ u = takeF x p := by
 unfold takeP at h
 split at h
 ·rename_i hk; injection h with h _; exact ⟨hk.1,hk.2,h⟩
 ·injection h with _ h; cases h
theorem ac_laws_FnTaken (p : Option Addr) (bs : List Int) (st : St) (hI : Ints st .u8 p bs) : C 5 [vS p bs.length] st (fun v s => v = vB true) := by
 refine AC.enterX (i := ⟨[3,4,5,7,9],[3,4,5,7,9,50,52,58,68,71],[0,2,3,4,5,6,8,9,10,12,32,34],[]⟩) [] Tryz.func5 rfl rfl (by kernel_rfl) (by kernel_rfl) Tryz.ntmps5 (Lb rfl) rfl ?_
 refine Cm 0 st [(0,vS p bs.length),(2,vB false)] [] fun _ _ => ?_
 refine ⟨_,rfl,(ac_laws_big p bs.length st).mono ?_⟩
 rintro _ st ⟨x12,rfl,h12,rfl⟩
 rcases x12 with _|_
 ·replace h12 := of_decide_eq_false h12.symm
  refine Cm 0 st [(0,vS p bs.length),(2,vB false),(12,vB false)] [] fun _ _ => ?_
  refine cxs ?_
  refine ⟨_,rfl,(ac_spec_DrawTake p bs st hI (by first | assumption | omega)).mono ?_⟩
  rintro _ s15 ⟨g15,d15,rfl,h15,h15',h15'',h15''',hP15⟩
  iterate 4 refine ⟨_,rfl,?_⟩
  refine ⟨_,op_stw (vs := cNV g15) rfl rfl rfl rfl rfl rfl rfl rfl,?_⟩
  refine ⟨_,Os rfl,?_⟩
  refine Cm 2 s15 [(2,vB false),Ml 3 0,Ml 4 1] [(3,0,cNV g15),(4,1,cSV d15)] fun _ _ => ?_
  have hbd := h15'.big (show 6 ≤ 1048576 by decide)
  refine ⟨_,op_ldo (v := (vNV g15)) rfl rfl rfl rfl,?_⟩
  refine ⟨_,Od rfl,?_⟩
  refine ⟨_,rfl,(ac_impl_Take g15 d15 s15 h15'' h15''' h15 hbd).mono ?_⟩
  rintro _ s21 ⟨u21,b21,rfl,h21,hO21,hN21,hP21⟩
  rcases b21 with _|_
  ·iterate 3 refine ⟨_,rfl,?_⟩
   refine ⟨_,op_stw (vs := cNV u21.v) rfl rfl rfl rfl rfl rfl rfl rfl,?_⟩
   refine Cm 3 s21 [(2,vB false),Ml 3 0,Ml 4 1,Ml 5 2,(6,vB false)] [(3,0,cNV g15),(4,1,cSV d15),(5,2,cNV u21.v)] fun _ _ => ?_
   refine ⟨_,op_ldo (v := (vNV g15)) rfl rfl rfl rfl,?_⟩
   refine ⟨_,Od rfl,?_⟩
   refine ⟨_,rfl,(ac_spec_Take g15 d15 s21 (h15''.pres hP21) (h15'''.pres hP21) h15 hbd).mono ?_⟩
   rintro _ s27 ⟨u27,b27,rfl,h27,hO27,hN27,hP27⟩
   iterate 3 refine ⟨_,rfl,?_⟩
   refine ⟨_,op_stw (vs := cNV u27.v) rfl rfl rfl rfl rfl rfl rfl rfl,?_⟩
   refine Cm 4 s27 [(2,vB false),Ml 3 0,Ml 4 1,Ml 5 2,(6,vB false),(8,vB b27)] [(3,0,cNV g15),(4,1,cSV d15),(5,2,cNV u21.v)] fun _ _ => ?_
   refine ⟨_,rfl,?_⟩
   rintro (_|_) h32
   rotate_left
   ·exact absurd ((takeP_eq h21 h27).1) (b_ne h32)
   refine Cm 4 s27 [(2,vB false),Ml 3 0,Ml 4 1,Ml 5 2,(6,vB false),(32,vB false)] [(3,0,cNV g15),(4,1,cSV d15),(5,2,cNV u21.v)] fun _ _ => ?_
   refine cxs ?_
   refine ⟨_,rfl,?_⟩
   refine Cm 4 s27 [(2,vB false),Ml 3 0,Ml 4 1,Ml 5 2,(34,vB true)] [(3,0,cNV g15),(4,1,cSV d15),(5,2,cNV u21.v)] fun _ _ => ?_
   refine ⟨_,op_ldo (v := (vNV u21.v)) rfl rfl rfl rfl,?_⟩
   refine ⟨_,op_ldo (v := (vNV g15)) rfl rfl rfl rfl,?_⟩
   refine ⟨_,rfl,(AC.tru (ac_spec_NodeSame u21.v g15 s27 (hO21.rdN.pres hP27) (h15''.pres (hP21.trans hP27)) (show bigN u21.x from (takeP_no h21).symm ▸ h15)) (takeP_no h21)).mono ?_⟩
   rintro _ s27 ⟨rfl,rfl⟩
   refine cxs ?_
   exact ⟨.inl rfl,_,rfl,rfl⟩
  ·iterate 3 refine ⟨_,rfl,?_⟩
   refine ⟨_,op_stw (vs := cNV u21.v) rfl rfl rfl rfl rfl rfl rfl rfl,?_⟩
   refine Cm 3 s21 [(2,vB false),Ml 3 0,Ml 4 1,Ml 5 2,(6,vB true)] [(3,0,cNV g15),(4,1,cSV d15),(5,2,cNV u21.v)] fun _ _ => ?_
   refine ⟨_,op_ldo (v := (vNV g15)) rfl rfl rfl rfl,?_⟩
   refine ⟨_,Od rfl,?_⟩
   refine ⟨_,rfl,(ac_spec_Take g15 d15 s21 (h15''.pres hP21) (h15'''.pres hP21) h15 hbd).mono ?_⟩
   rintro _ s27 ⟨u27,b27,rfl,h27,hO27,hN27,hP27⟩
   iterate 3 refine ⟨_,rfl,?_⟩
   refine ⟨_,op_stw (vs := cNV u27.v) rfl rfl rfl rfl rfl rfl rfl rfl,?_⟩
   refine Cm 4 s27 [(2,vB false),Ml 3 0,Ml 4 1,Ml 5 2,(6,vB true),(8,vB b27)] [(3,0,cNV g15),(4,1,cSV d15),(5,2,cNV u21.v)] fun _ _ => ?_
   refine ⟨_,rfl,?_⟩
   rintro (_|_) h32
   rotate_left
   ·exact absurd ((takeP_eq h21 h27).1) (b_ne h32)
   refine Cm 4 s27 [(2,vB false),Ml 3 0,Ml 4 1,Ml 5 2,(6,vB true),(32,vB false)] [(3,0,cNV g15),(4,1,cSV d15),(5,2,cNV u21.v)] fun _ _ => ?_
   refine cxs ?_
   refine ⟨_,rfl,?_⟩
   refine Cm 4 s27 [(2,vB false),Ml 3 0,Ml 4 1,Ml 5 2,(34,vB false)] [(3,0,cNV g15),(4,1,cSV d15),(5,2,cNV u21.v)] fun _ _ => ?_
   have ⟨hk,hkd,hu⟩ := takeP_yes h21
   have hk21 : nodeOk u21.x := by rw [hu]; exact take_ok hk hkd
   have hb21 := node_big hk21
   have hR21 := hO21.rdN.pres hP27
   have hle := take_le hk hkd
   rw [← hu] at hle
   refine cxs ?_
   refine ⟨_,op_ldo (v := (vNV u21.v)) rfl rfl rfl rfl,?_⟩
   refine ⟨_,Od rfl,?_⟩
   refine ⟨_,rfl,(ac_impl_Take u21.v d15 s27 hR21 ((h15'''.pres hP21).pres hP27) hb21 hbd).mono ?_⟩
   rintro _ s41 ⟨u41,b41,rfl,h41,hO41,hN41,hP41⟩
   iterate 3 refine ⟨_,rfl,?_⟩
   refine ⟨_,op_stw (vs := cNV u41.v) rfl rfl rfl rfl rfl rfl rfl rfl,?_⟩
   refine Cm 5 s41 [(2,vB false),Ml 3 0,Ml 4 1,Ml 5 2,Ml 9 4,(10,vB b41)] [(3,0,cNV g15),(4,1,cSV d15),(5,2,cNV u21.v),(9,4,cNV u41.v)] fun _ _ => ?_
   have h41 : (u41.x,b41) = takeP u21.x d15.x := h41
   rw [← take_yes ⟨hk21,hkd⟩ rfl] at h41
   injection h41 with hx41 hb41
   subst hb41
   have he41 : u41.x = u21.x := by rw [hx41,hu]; exact take_again hk hkd
   refine ⟨_,op_ldo (v := (vNV u21.v)) rfl rfl rfl rfl,?_⟩
   refine ⟨_,rfl,(AC.truP (ac_impl_NodeOk u21.v s41 (hR21.pres hP41) hb21) hk21).mono ?_⟩
   rintro _ s47 ⟨rfl,hP47⟩
   iterate 2 refine ⟨_,rfl,?_⟩
   refine ⟨_,Od rfl,?_⟩
   refine ⟨_,rfl,?_⟩
   refine ⟨_,Od rfl,?_⟩
   refine ⟨_,rfl,(AC.truP (ac_impl_StateLeq g15.s u21.s s47 ((h15''.pres ((hP21.trans hP27).trans (hP41.trans hP47))).s) ((hR21.pres (hP41.trans hP47)).s) h15.s hb21.s) ⟨hk.s,hk21.s,hle.1⟩).mono ?_⟩
   rintro _ s54 ⟨rfl,hP54⟩
   refine ⟨_,rfl,?_⟩
   refine ⟨_,Od rfl,?_⟩
   refine ⟨_,rfl,?_⟩
   refine ⟨_,Od rfl,?_⟩
   refine ⟨_,rfl,(AC.truP (ac_impl_StateLeq d15 u21.s s54 (h15'''.pres ((hP21.trans hP27).trans ((hP41.trans hP47).trans hP54))) ((hR21.pres ((hP41.trans hP47).trans hP54)).s) hbd hb21.s) ⟨hkd,hk21.s,hle.2⟩).mono ?_⟩
   rintro _ s60 ⟨rfl,hP60⟩
   refine ⟨_,rfl,?_⟩
   refine ow_cut [(2,vB false),(3,vL 3 0 (0)),(5,vL 5 0 (2)),(9,vL 9 0 (4)),(61,vB true)] ⟨rfl,rfl,rfl,rfl,rfl,trivial⟩ fun _ => ?_
   refine ⟨_,op_ldo (v := (vNV u41.v)) rfl rfl rfl rfl,?_⟩
   refine ⟨_,op_ldo (v := (vNV u21.v)) rfl rfl rfl rfl,?_⟩
   refine ⟨_,rfl,(AC.tru (ac_spec_NodeSame u41.v u21.v s60 (hO41.rdN.pres ((hP47.trans hP54).trans hP60)) (hR21.pres ((hP41.trans hP47).trans (hP54.trans hP60))) (show bigN u41.x from he41.symm ▸ hb21)) he41).mono ?_⟩
   rintro _ s60 ⟨rfl,rfl⟩
   iterate 2 refine ⟨_,rfl,?_⟩
   refine ⟨_,Od rfl,?_⟩
   iterate 2 refine ⟨_,rfl,?_⟩
   refine ⟨_,Od rfl,?_⟩
   refine ⟨_,rfl,?_⟩
   have hsl : u21.sess.l.length = g15.sess.l.length := by have := congrArg (fun x => x.sess.length) hu; exact this
   refine ⟨_,rfl,?_⟩
   rintro (_|_) h74
   ·exact absurd ((congrArg Nat.cast hsl)) (beq_eq_false_iff_ne.1 h74)
   refine ⟨_,rfl,?_⟩
   refine cxs ?_
   exact ⟨.inl rfl,_,rfl,rfl⟩
 ·replace h12 := of_decide_eq_true h12.symm
  refine Cm 0 st [(0,vS p bs.length),(2,vB false),(12,vB true)] [] fun _ _ => ?_
  refine cxs ?_
  exact ⟨.inl rfl,_,rfl,rfl⟩
end Go.Proofs.YtpnolkhfeliehaaGreat.AM
