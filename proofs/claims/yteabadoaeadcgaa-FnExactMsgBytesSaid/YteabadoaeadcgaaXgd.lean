/- Part 4 of the texts on which the law's proof rests. -/
import Derived.Test.YteabadoaeadcgaaXgc
namespace Go.Proofs.Yteabadoaeadcgaa.AM
open Go Go.Proofs
set_option linter.unusedVariables false
set_option linter.unusedSimpArgs false
set_option maxRecDepth 100000
set_option maxHeartbeats 4000000
def putT {α : Type} (t : List α) (K : Nat) (x : α) : List α := t.take K ++ x :: t.drop (K + 1)
theorem OwnP.put {st st' : St} {q : Option Addr} {u : List RV} {K : Nat} {a : Option Addr} {l l' : List Int} (h : OwnP st (pcT q (putT u K ⟨a,l⟩))) (hp : Pr a st st') (ho : OwnR st' 1 fI a l') (hl : l'.length = l.length) : OwnP st' (pcT q (putT u K ⟨a,l'⟩)) := by
 have h1 : pcT q (putT u K ⟨a,l⟩) = (pcR 1 cRV q (putT u K ⟨a,l⟩) :: (u.take K).map pcRV) ++ pcRV ⟨a,l⟩ :: (u.drop (K + 1)).map pcRV := by simp [pcT,putT]
 have h2 : pcT q (putT u K ⟨a,l'⟩) = (pcR 1 cRV q (putT u K ⟨a,l⟩) :: (u.take K).map pcRV) ++ pcRV ⟨a,l'⟩ :: (u.drop (K + 1)).map pcRV := by simp [pcT,putT,pcR,hl]
 rw [h1] at h
 rw [h2]
 exact OwnP.update h hp (own_pc ho) rfl
theorem Frs.one {α : Type} {a b : St} {z : Nat} {f : α → List Value} {p : Option Addr} {l : List α} (hO : OwnR b z f p l) (hN : New a.next p) (hP : Pres a b) : Frs a b [pcR z f p l] := ⟨OwnP.one (own_pc hO),NewP.cons hN NewP.nil,hP⟩
theorem Frs.nil (a : St) : Frs a a [] := ⟨OwnP.nil,NewP.nil,Pres.refl _⟩
theorem Frs.later {a b c : St} {l : List Pc} (h : Frs a b l) (k : Pres b c) : Frs a c l := ⟨h.1.pres k,h.2.1,h.2.2.trans k⟩
theorem OwnP.rot {st : St} {a b : List Pc} (h : OwnP st (a ++ b)) : OwnP st (b ++ a) := h.perm List.perm_append_comm
def mkMsg (u : MV) (k : Int) : MV := { u with tree := mkTV u.tree k,vec := mkIs u.vec (k + (cntTV u.tree.x : Int)),leaves := mkIs u.leaves (k + (cntTV u.tree.x : Int) + (cntIs u.vec.l : Int)),part := mkState u.part (k + (cntTV u.tree.x : Int) + (cntIs u.vec.l : Int) + (cntIs u.leaves.l : Int)),marks := mkFV u.marks (k + (cntTV u.tree.x : Int) + (cntIs u.vec.l : Int) + (cntIs u.leaves.l : Int) + (cntState u.part.x : Int)) }
theorem mkp_Msg (u : MV) (k : Int) : (pcMV (mkMsg u k)).map (·.p) = (pcMV u).map (·.p) :=
 map_app2 (mkp_TV _ _) (map_app2 (mkp_Is _ _) (map_app2 (mkp_Is _ _) (map_app2 (mkp_State _ _) (mkp_FV _ _))))
theorem uc_markMsg (u : MV) (k : Int) (st : St) (hO : OwnP st (pcMV u)) (hb : bigM u.x) (h0 : 0 ≤ k) (hk : k + (cntMsg u.x : Int) ≤ 137438953472) : C 61 [.agg #[vI u.kind,vI u.frm,vI u.to,vI u.num,vI u.hi,vS u.tree.p u.tree.l.length,vI u.tree.root,vS u.vec.p u.vec.l.length,vS u.leaves.p u.leaves.l.length,vS u.part.p u.part.x.items.length,vS u.part.q u.part.x.floors.length,vS u.marks.p u.marks.l.length],vI k] st (fun v s => v = vI (k + (cntMsg u.x : Int)) ∧ OwnP s (pcMV (mkMsg u k)) ∧ PrL ((pcMV u).map (·.p)) st s) := by
 have hc : cntMsg u.x = cntTV u.tree.x + cntIs u.vec.l + cntIs u.leaves.l + cntState u.part.x + cntFV u.marks.l := rfl
 refine AC.enterX (i := ⟨[2],[2,5,9,13,17,21],[0,1,2,4],[]⟩) [] Try.func61 rfl rfl (by kernel_rfl) (by kernel_rfl) Try.ntmps61 (Lb rfl) rfl ?_
 refine ⟨_,rfl,?_⟩
 refine Cm 1 st [(1,vI k),Ml 2 0,(4,vI 0)] [(2,0,cMV u)] fun _ _ => ?_
 refine ⟨_,rfl,?_⟩
 refine ⟨_,Od rfl,?_⟩
 refine ⟨_,rfl,(uc_markTree u.tree k st (OwnP.left hO) hb.tree (by omega) (by omega)).mono ?_⟩
 rintro _ s8 ⟨rfl,hO8,hL8⟩
 refine Cm 1 s8 [(1,vI (k + (cntTV u.tree.x : Int))),Ml 2 0,(4,vI 0)] [(2,0,cMV u)] fun _ _ => ?_
 have hA8 : OwnP s8 (pcIs u.vec ++ (pcIs u.leaves ++ (pcS u.part ++ (pcFV u.marks ++ (pcTV (mkTV u.tree k)))))) := by
  have := (OwnP.markG hO hO8 (mkp_TV _ _) hL8).rot
  simpa only [List.append_assoc] using this
 refine ⟨_,rfl,?_⟩
 refine ⟨_,Od rfl,?_⟩
 refine ⟨_,rfl,(uc_markIntS u.vec (k + (cntTV u.tree.x : Int)) s8 (OwnP.left hA8) hb.vec (by omega) (by omega)).mono ?_⟩
 rintro _ s12 ⟨rfl,hO12,hL12⟩
 refine Cm 1 s12 [(1,vI (k + (cntTV u.tree.x : Int) + (cntIs u.vec.l : Int))),Ml 2 0,(4,vI 0)] [(2,0,cMV u)] fun _ _ => ?_
 have hA12 : OwnP s12 (pcIs u.leaves ++ (pcS u.part ++ (pcFV u.marks ++ (pcTV (mkTV u.tree k) ++ (pcIs (mkIs u.vec (k + (cntTV u.tree.x : Int)))))))) := by
  have := (OwnP.markG hA8 hO12 (mkp_Is _ _) hL12).rot
  simpa only [List.append_assoc] using this
 refine ⟨_,rfl,?_⟩
 refine ⟨_,Od rfl,?_⟩
 refine ⟨_,rfl,(uc_markIntS u.leaves (k + (cntTV u.tree.x : Int) + (cntIs u.vec.l : Int)) s12 (OwnP.left hA12) hb.leaves (by omega) (by omega)).mono ?_⟩
 rintro _ s16 ⟨rfl,hO16,hL16⟩
 refine Cm 1 s16 [(1,vI (k + (cntTV u.tree.x : Int) + (cntIs u.vec.l : Int) + (cntIs u.leaves.l : Int))),Ml 2 0,(4,vI 0)] [(2,0,cMV u)] fun _ _ => ?_
 have hA16 : OwnP s16 (pcS u.part ++ (pcFV u.marks ++ (pcTV (mkTV u.tree k) ++ (pcIs (mkIs u.vec (k + (cntTV u.tree.x : Int))) ++ (pcIs (mkIs u.leaves (k + (cntTV u.tree.x : Int) + (cntIs u.vec.l : Int)))))))) := by
  have := (OwnP.markG hA12 hO16 (mkp_Is _ _) hL16).rot
  simpa only [List.append_assoc] using this
 refine ⟨_,rfl,?_⟩
 refine ⟨_,Od rfl,?_⟩
 refine ⟨_,rfl,(uc_markState u.part (k + (cntTV u.tree.x : Int) + (cntIs u.vec.l : Int) + (cntIs u.leaves.l : Int)) s16 (OwnP.left hA16) hb.part (by omega) (by omega)).mono ?_⟩
 rintro _ s20 ⟨rfl,hO20,hL20⟩
 refine Cm 1 s20 [(1,vI (k + (cntTV u.tree.x : Int) + (cntIs u.vec.l : Int) + (cntIs u.leaves.l : Int) + (cntState u.part.x : Int))),Ml 2 0,(4,vI 0)] [(2,0,cMV u)] fun _ _ => ?_
 have hA20 : OwnP s20 (pcFV u.marks ++ (pcTV (mkTV u.tree k) ++ (pcIs (mkIs u.vec (k + (cntTV u.tree.x : Int))) ++ (pcIs (mkIs u.leaves (k + (cntTV u.tree.x : Int) + (cntIs u.vec.l : Int))) ++ (pcS (mkState u.part (k + (cntTV u.tree.x : Int) + (cntIs u.vec.l : Int) + (cntIs u.leaves.l : Int)))))))) := by
  have := (OwnP.markG hA16 hO20 (mkp_State _ _) hL20).rot
  simpa only [List.append_assoc] using this
 refine ⟨_,rfl,?_⟩
 refine ⟨_,Od rfl,?_⟩
 refine ⟨_,rfl,(uc_markMarkS u.marks (k + (cntTV u.tree.x : Int) + (cntIs u.vec.l : Int) + (cntIs u.leaves.l : Int) + (cntState u.part.x : Int)) s20 (OwnP.left hA20) hb.marks (by omega) (by omega)).mono ?_⟩
 rintro _ s24 ⟨rfl,hO24,hL24⟩
 refine cxs ?_
 have hA24 : OwnP s24 (pcTV (mkTV u.tree k) ++ (pcIs (mkIs u.vec (k + (cntTV u.tree.x : Int))) ++ (pcIs (mkIs u.leaves (k + (cntTV u.tree.x : Int) + (cntIs u.vec.l : Int))) ++ (pcS (mkState u.part (k + (cntTV u.tree.x : Int) + (cntIs u.vec.l : Int) + (cntIs u.leaves.l : Int))) ++ (pcFV (mkFV u.marks (k + (cntTV u.tree.x : Int) + (cntIs u.vec.l : Int) + (cntIs u.leaves.l : Int) + (cntState u.part.x : Int)))))))) := by
  have := (OwnP.markG hA20 hO24 (mkp_FV _ _) hL24).rot
  simpa only [List.append_assoc] using this
 exact cxs (Rt ⟨congrArg vI (by rw [hc]; omega),hA24,(((((PrL.inl hL8).trans (PrL.inr (PrL.inl hL12))).trans (PrL.inr (PrL.inr (PrL.inl hL16)))).trans (PrL.inr (PrL.inr (PrL.inr (PrL.inl hL20))))).trans (PrL.inr (PrL.inr (PrL.inr (PrL.inr (hL24))))))⟩)
theorem mg_big {l : List Int} {g : Mg} (h : l = mgBz g) : szOk l.length := by
 have := mgBz_len g
 rw [h]; unfold szOk; omega
theorem mg_cnt {l : List Int} {g : Mg} (h : l = mgBz g) : cntBs l ≤ 8388608 := by
 have := mgBz_len g
 rw [h]; show (mgBz g).length ≤ 8388608; omega
theorem ac_laws_FnExactMsgBytes (g : MV) (st : St) (hR_g : RdM st g ∧ maxM g.x) : C 10 [.agg #[vI g.kind,vI g.frm,vI g.to,vI g.num,vI g.hi,vS g.tree.p g.tree.l.length,vI g.tree.root,vS g.vec.p g.vec.l.length,vS g.leaves.p g.leaves.l.length,vS g.part.p g.part.x.items.length,vS g.part.q g.part.x.floors.length,vS g.marks.p g.marks.l.length]] st (fun v s => v = vB true) := by
 refine AC.enterX (i := ⟨[1,5],[1,5],[0,1,2,3,4,5,6,7,8,9,10,15,26,31,42,50,53,60,65,68],[]⟩) [(10,[2],[0])] Try.func10 rfl rfl (by kernel_rfl) (by kernel_rfl) Try.ntmps10 (Lb rfl) rfl ?_
 refine ⟨_,rfl,?_⟩
 refine cxs ?_
 refine Cm 1 st [Ml 1 0,(2,vB false),(3,vI 1048576)] [(1,0,cMV g)] fun _ _ => ?_
 refine ⟨_,rfl,?_⟩
 refine ⟨_,rfl,(ac_laws_szMsg g 1048576 st hR_g.1 (by decide) (by decide) hR_g.2).mono ?_⟩
 rintro _ st ⟨z_g,rfl,hr_g,hz_g,rfl⟩
 refine Cm 1 st [Ml 1 0,(2,vB false),(3,vI z_g)] [(1,0,cMV g)] fun _ _ => ?_
 refine ⟨_,rfl,?_⟩
 rintro (_|_) hn_g
 ·replace hn_g : ¬ (z_g < 0) := of_decide_eq_false hn_g
  refine Cm 1 st [Ml 1 0,(2,vB false),(15,vB false)] [(1,0,cMV g)] fun _ _ => ?_
  have hz_g' := hz_g (by omega)
  have hb_g := sz_bigM (x := g.x) (by omega)
  have hc_g : cntMsg g.x ≤ 8388608 := (cnt_Msg (by omega))
  refine cxs ?_
  refine ⟨_,rfl,?_⟩
  refine ⟨_,rfl,(ac_laws_toMsg g st hR_g.1 hb_g).mono ?_⟩
  rintro _ s1 ⟨u1,rfl,hu1,hO1,hN1,hP1⟩
  refine ⟨_,rfl,(bc_spec_MsgBytes u1 s1 (OwnP.rdM (OwnP.left (OwnP.joinF OwnP.nil hP1 hO1 hN1))) (hu1 ▸ hb_g)).mono ?_⟩
  rintro _ s2 ⟨r2,rfl,hr2,hO2,hN2,hP2⟩
  refine Cm 1 s2 [Ml 1 0,(2,vB false),(4,vS r2.p r2.l.length)] [(1,0,cMV g)] fun _ _ => ?_
  have hA5 : OwnP s2 (pcBs r2 ++ (pcMV u1 ++ [])) := (OwnP.joinF (OwnP.joinF OwnP.nil hP1 hO1 hN1) hP2 hO2 hN2)
  have hQ5 : Pres st s2 := (hP1.trans hP2)
  refine ⟨_,rfl,?_⟩
  refine ⟨_,rfl,(ac_laws_toMsg g s2 (hR_g.1.pres hQ5) hb_g).mono ?_⟩
  rintro _ s3 ⟨u3,rfl,hu3,hO3,hN3,hP3⟩
  iterate 2 refine ⟨_,rfl,?_⟩
  refine Cm 2 s3 [Ml 1 0,(2,vB false),(4,vS r2.p r2.l.length),Ml 5 1] [(1,0,cMV g),(5,1,cMV u3)] fun _ _ => ?_
  have hA6 : OwnP s3 (pcMV u3 ++ (pcBs r2 ++ (pcMV u1 ++ []))) := (OwnP.joinF hA5 hP3 hO3 hN3)
  have hQ6 : Pres st s3 := (hQ5.trans hP3)
  refine ⟨_,rfl,?_⟩
  refine ⟨_,rfl,(bc_impl_MsgBytes u3 s3 (OwnP.rdM (OwnP.left hA6)) (hu3 ▸ hb_g)).mono ?_⟩
  rintro _ s4 ⟨r4,rfl,hr4,hO4,hN4,hP4⟩
  refine Cm 2 s4 [Ml 1 0,(2,vB false),(4,vS r2.p r2.l.length),Ml 5 1,(6,vS r4.p r4.l.length)] [(1,0,cMV g),(5,1,cMV u3)] fun _ _ => ?_
  have hA7 : OwnP s4 (pcBs r4 ++ (pcMV u3 ++ (pcBs r2 ++ (pcMV u1 ++ [])))) := (OwnP.joinF hA6 hP4 hO4 hN4)
  have hQ7 : Pres st s4 := (hQ6.trans hP4)
  have hE1 : r4.l = r2.l := by rw [hr4,hr2,hu3,hu1]
  refine ⟨_,rfl,(AC.tru (uc_eqByteS r4 r2 s4 (OwnP.rdBs (OwnP.left hA7)) (OwnP.rdBs (OwnP.left (OwnP.right (OwnP.right hA7)))) (mg_big hr4)) hE1).mono ?_⟩
  rintro _ s4 ⟨rfl,rfl⟩
  refine ⟨_,rfl,?_⟩
  refine Cm 2 s4 [Ml 1 0,(2,vB false),(4,vS r2.p r2.l.length),Ml 5 1,(6,vS r4.p r4.l.length),(26,vB false)] [(1,0,cMV g),(5,1,cMV u3)] fun _ _ => ?_
  refine cxs ?_
  refine ⟨_,rfl,?_⟩
  refine ⟨ld_own rfl rfl rfl,?_⟩
  refine ⟨_,rfl,?_⟩
  refine ⟨_,rfl,(ac_laws_toMsg g s4 (hR_g.1.pres hQ7) hb_g).mono ?_⟩
  rintro _ s5 ⟨u5,rfl,hu5,hO5,hN5,hP5⟩
  refine ⟨hP5.2,?_⟩
  refine ⟨_,rfl,(AC.tru (ac_laws_eqMsg u3 u5 s5 (OwnP.rdM (OwnP.left (OwnP.right (OwnP.right (OwnP.joinF hA7 hP5 hO5 hN5))))) (OwnP.rdM (OwnP.left (OwnP.joinF hA7 hP5 hO5 hN5))) (hu3 ▸ hb_g)) (hu3.trans hu5.symm)).mono ?_⟩
  rintro _ s5 ⟨rfl,rfl⟩
  refine ⟨_,rfl,?_⟩
  refine Cm 2 s5 [Ml 1 0,(2,vB false),(4,vS r2.p r2.l.length),Ml 5 1,(6,vS r4.p r4.l.length),(31,vB false)] [(1,0,cMV g),(5,1,cMV u3)] fun _ _ => ?_
  have hA10 : OwnP s5 (pcMV u5 ++ (pcBs r4 ++ (pcMV u3 ++ (pcBs r2 ++ (pcMV u1 ++ []))))) := (OwnP.joinF hA7 hP5 hO5 hN5)
  have hQ10 : Pres st s5 := (hQ7.trans hP5)
  refine cxs ?_
  refine Cm 2 s5 [Ml 1 0,(2,vB false),(4,vS r2.p r2.l.length),Ml 5 1,(6,vS r4.p r4.l.length),(7,vI 1)] [(1,0,cMV g),(5,1,cMV u3)] fun _ _ => ?_
  refine ⟨_,rfl,?_⟩
  have hM6 := (OwnP.front2 hA10)
  have hNw6 := newPs (hN3.le ((hP1.trans hP2)).1)
  have hcm6 : cntMsg u3.x ≤ 8388608 := by rw [hu3]; exact hc_g
  refine ⟨_,rfl,(uc_markMsg u3 1 s5 (OwnP.left hM6) (hu3 ▸ hb_g) (by omega) (by omega)).mono ?_⟩
  rintro _ s6 ⟨rfl,hO6,hL6⟩
  refine Cm 2 s6 [Ml 1 0,(2,vB false),(4,vS r2.p r2.l.length),(6,vS r4.p r4.l.length),(7,vI (1 + (cntMsg u3.x : Int)))] [(1,0,cMV g)] fun _ _ => ?_
  have hA13 : OwnP s6 (pcMV (mkMsg u3 1) ++ _) := OwnP.markG hM6 hO6 (mkp_Msg _ _) hL6
  have hQ13 : Pres st s6 := hL6.pres hQ10 hNw6
  refine ⟨_,rfl,?_⟩
  rintro (_|_) hg7
  rotate_left
  ·exact absurd (of_decide_eq_true hg7) ((by omega))
  refine ⟨_,rfl,(AC.tru (uc_eqByteS r4 r2 s6 (OwnP.rdBs (OwnP.left (OwnP.right (OwnP.right hA13)))) (OwnP.rdBs (OwnP.left (OwnP.right (OwnP.right (OwnP.right hA13))))) (mg_big hr4)) hE1).mono ?_⟩
  rintro _ s6 ⟨rfl,rfl⟩
  iterate 2 refine ⟨_,rfl,?_⟩
  refine Cm 2 s6 [Ml 1 0,(2,vB false),(4,vS r2.p r2.l.length),(6,vS r4.p r4.l.length),(42,vB false)] [(1,0,cMV g)] fun _ _ => ?_
  refine cxs ?_
  refine Cm 2 s6 [Ml 1 0,(2,vB false),(4,vS r2.p r2.l.length),(6,vS r4.p r4.l.length),(8,vI 1)] [(1,0,cMV g)] fun _ _ => ?_
  have hM8 := (OwnP.front2 hA13)
  have hNw8 := newPs (hN4.le (((hP1.trans hP2).trans hP3)).1)
  have hcm8 : cntBs r4.l ≤ 8388608 := (mg_cnt hr4)
  refine ⟨_,rfl,(uc_markByteS r4 1 s6 (OwnP.left hM8) (mg_big hr4) (by omega) (by omega)).mono ?_⟩
  rintro _ s8 ⟨rfl,hO8,hL8⟩
  refine cxs ?_
  have hA17 : OwnP s8 (pcBs (mkBs r4 1) ++ _) := OwnP.markG hM8 hO8 (mkp_Bs _ _) hL8
  have hQ17 : Pres st s8 := hL8.pres hQ13 hNw8
  refine Cm 2 s8 [Ml 1 0,(2,vB false),(4,vS r2.p r2.l.length),(6,vS r4.p r4.l.length),(8,vI (1 + (cntBs r4.l : Int))),(9,vI 1)] [(1,0,cMV g)] fun _ _ => ?_
  refine ⟨_,rfl,(uc_heldByteS r4 1 s8 (OwnP.rdBs (OwnP.left hA17)) (mg_big hr4) (by decide) (by omega)).mono ?_⟩
  rintro _ s9 ⟨rfl,hP9⟩
  refine Cm 2 s9 [Ml 1 0,(2,vB false),(4,vS r2.p r2.l.length),(6,vS r4.p r4.l.length),(8,vI (1 + (cntBs r4.l : Int))),(9,vI (1 + (cntBs r4.l : Int)))] [(1,0,cMV g)] fun _ _ => ?_
  have hA19 : OwnP s9 (pcBs (mkBs r4 1) ++ (pcMV (mkMsg u3 1) ++ (pcMV u5 ++ (pcBs r2 ++ (pcMV u1 ++ []))))) := (OwnP.pres hA17 hP9)
  have hQ19 : Pres st s9 := (hQ17.trans hP9)
  refine ⟨_,rfl,?_⟩
  rintro (_|_) hg10
  rotate_left
  ·exact absurd (of_decide_eq_true hg10) ((by omega))
  refine Cm 2 s9 [Ml 1 0,(2,vB false),(4,vS r2.p r2.l.length),(6,vS r4.p r4.l.length),(8,vI (1 + (cntBs r4.l : Int))),(9,vI (1 + (cntBs r4.l : Int))),(50,vB false)] [(1,0,cMV g)] fun _ _ => ?_
  refine cxs ?_
  refine ⟨_,rfl,?_⟩
  rintro (_|_) hg11
  rotate_left
  ·exact absurd (rfl) (bne_iff_ne.1 hg11)
  refine Cm 2 s9 [Ml 1 0,(2,vB false),(4,vS r2.p r2.l.length),(6,vS r4.p r4.l.length),(8,vI (1 + (cntBs r4.l : Int))),(9,vI (1 + (cntBs r4.l : Int))),(53,vB false)] [(1,0,cMV g)] fun _ _ => ?_
  refine cxs ?_
  refine ⟨_,rfl,?_⟩
  refine ⟨_,rfl,(ac_laws_toMsg g s9 (hR_g.1.pres hQ19) hb_g).mono ?_⟩
  rintro _ s12 ⟨u12,rfl,hu12,hO12,hN12,hP12⟩
  refine ⟨_,rfl,(bc_impl_MsgBytes u12 s12 (OwnP.rdM (OwnP.left (OwnP.joinF hA19 hP12 hO12 hN12))) (hu12 ▸ hb_g)).mono ?_⟩
  rintro _ s13 ⟨r13,rfl,hr13,hO13,hN13,hP13⟩
  refine Cm 2 s13 [(2,vB false),(4,vS r2.p r2.l.length),(6,vS r4.p r4.l.length),(8,vI (1 + (cntBs r4.l : Int))),(9,vI (1 + (cntBs r4.l : Int))),(10,vS r13.p r13.l.length)] [] fun _ _ => ?_
  have hA24 : OwnP s13 (pcBs r13 ++ (pcMV u12 ++ (pcBs (mkBs r4 1) ++ (pcMV (mkMsg u3 1) ++ (pcMV u5 ++ (pcBs r2 ++ (pcMV u1 ++ []))))))) := (OwnP.joinF (OwnP.joinF hA19 hP12 hO12 hN12) hP13 hO13 hN13)
  have hQ24 : Pres st s13 := ((hQ19.trans hP12).trans hP13)
  have hE2 : r13.l = r2.l := by rw [hr13,hr2,hu12,hu1]
  refine ⟨_,rfl,(AC.tru (uc_eqByteS r13 r2 s13 (OwnP.rdBs (OwnP.left hA24)) (OwnP.rdBs (OwnP.left (OwnP.right (OwnP.right (OwnP.right (OwnP.right (OwnP.right hA24))))))) (mg_big hr13)) hE2).mono ?_⟩
  rintro _ s13 ⟨rfl,rfl⟩
  refine ⟨_,rfl,?_⟩
  refine Cm 2 s13 [(2,vB false),(6,vS r4.p r4.l.length),(8,vI (1 + (cntBs r4.l : Int))),(9,vI (1 + (cntBs r4.l : Int))),(60,vB false)] [] fun _ _ => ?_
  refine cxs ?_
  refine Cm 2 s13 [(2,vB false),(6,vS r4.p r4.l.length),(8,vI (1 + (cntBs r4.l : Int))),(9,vI 1)] [] fun _ _ => ?_
  refine ⟨_,rfl,(uc_heldByteS r4 1 s13 (OwnP.rdBs (OwnP.left (OwnP.right (OwnP.right hA24)))) (mg_big hr4) (by decide) (by omega)).mono ?_⟩
  rintro _ s14 ⟨rfl,hP14⟩
  refine Cm 2 s14 [(2,vB false),(8,vI (1 + (cntBs r4.l : Int))),(9,vI (1 + (cntBs r4.l : Int)))] [] fun _ _ => ?_
  have hA28 : OwnP s14 (pcBs r13 ++ (pcMV u12 ++ (pcBs (mkBs r4 1) ++ (pcMV (mkMsg u3 1) ++ (pcMV u5 ++ (pcBs r2 ++ (pcMV u1 ++ []))))))) := (OwnP.pres hA24 hP14)
  have hQ28 : Pres st s14 := (hQ24.trans hP14)
  refine ⟨_,rfl,?_⟩
  rintro (_|_) hg15
  rotate_left
  ·exact absurd (of_decide_eq_true hg15) ((by omega))
  refine Cm 2 s14 [(2,vB false),(8,vI (1 + (cntBs r4.l : Int))),(9,vI (1 + (cntBs r4.l : Int))),(65,vB false)] [] fun _ _ => ?_
  refine cxs ?_
  refine ⟨_,rfl,?_⟩
  rintro (_|_) hg16
  rotate_left
  ·exact absurd (rfl) (bne_iff_ne.1 hg16)
  refine Cm 2 s14 [(2,vB false),(68,vB false)] [] fun _ _ => ?_
  refine cxs ?_
  refine cxs ?_
  exact ⟨.inl rfl,_,rfl,rfl⟩
 ·replace hn_g : z_g < 0 := of_decide_eq_true hn_g
  refine Cm 1 st [Ml 1 0,(2,vB false),(15,vB true)] [(1,0,cMV g)] fun _ _ => ?_
  refine cxs ?_
  exact ⟨.inl rfl,_,rfl,rfl⟩
end Go.Proofs.Yteabadoaeadcgaa.AM
