/- Part 9 of the texts on which the law's proof rests. -/
import Derived.Test.YtpnolkhfeliehaaGreatXsh
namespace Go.Proofs.YtpnolkhfeliehaaGreat.AM
open Go Go.Proofs
set_option linter.unusedVariables false
set_option linter.unusedSimpArgs false
set_option maxRecDepth 100000
set_option maxHeartbeats 4000000
theorem bigNW {u : NW} (h : bigN u.x) : bigN u.v.x := h
theorem cntNW {u : NW} {n : Nat} (h : cntNode u.x ≤ n) : cntNode u.v.x ≤ n := h
theorem tree_le (s : Sta) : (treeF s).leaves.length ≤ 4 := by
 unfold treeF
 split
 ·exact Nat.le_of_eq (sums_len s 4)
 ·exact Nat.zero_le _
theorem takeF_big {x : Nd} {p : Sta} (hb : bigN x) (hp : bigS p) : bigN (takeF x p) := by
 have h3 := tree_le (takeF x p).s
 refine ⟨big_prune rfl (bigS_join hb.s hp),?_,hb.g,hb.got,hb.acked,tAdd_big hb.seen,hb.sess,?_⟩
 ·show (treeF (takeF x p).s).leaves.length ≤ 1048576
  omega
 ·show (risesF _ _ _).length ≤ 1048576
  rw [risesF_len]; exact hb.rises
theorem tAdd_lens {t : List (List Int)} {k : Int} {ms : List Flr} : (tableAdd t k ms).map List.length = t.map List.length := by
 unfold tableAdd
 split
 ·rename_i h
  have hk : k.toNat < t.length := by omega
  have hx : t[k.toNat]? = some (t.getD k.toNat []) := by
   rw [List.getD_eq_getElem?_getD,List.getElem?_eq_getElem hk]; rfl
  have h1 := putT_self hx
  have h2 : ∀ y : List Int,(putT t k.toNat y).map List.length = putT (t.map List.length) k.toNat y.length := fun y => by simp [putT,List.map_take,List.map_drop]
  rw [h2,addMarks_len,← h2,h1]
 ·rfl
theorem OwnP.joinF2 {st st' : St} {a b l : List Pc} (h : OwnP st l) (hp : Pres st st') (k : OwnP st' (a ++ b)) (hn : NewP st.next (a ++ b)) : OwnP st' (a ++ (b ++ l)) := by
 have := OwnP.joinF h hp k hn
 rwa [List.append_assoc] at this
theorem takeF_cnt {x : Nd} {p : Sta} (hb : bigN x) (hp : bigS p) : cntNode (takeF x p) ≤ cntNode x + 8388612 := by
 have h1 := cnt_State (takeF_big hb hp).s
 have h3 := tree_le (takeF x p).s
 have h4 : cntTab (takeF x p).seen = cntTab x.seen := congrArg List.sum tAdd_lens
 have h5 : (takeF x p).rises.length = x.rises.length := risesF_len _ _ _
 have h6 : (takeF x p).t.leaves.length ≤ 4 := h3
 have h7 : cntS (takeF x p).s ≤ 8388608 := h1
 unfold cntNode
 show cntS (takeF x p).s + (takeF x p).t.leaves.length + cntLog x.g + x.got.length + x.acked.length + cntTab (takeF x p).seen + 4 * x.sess.length + 3 * (takeF x p).rises.length ≤ cntS x.s + x.t.leaves.length + cntLog x.g + x.got.length + x.acked.length + cntTab x.seen + 4 * x.sess.length + 3 * x.rises.length + 8388612
 omega
theorem say_bd {x r : Nd} {kind id c : Int} {d : ByteArray} {w : Sta} (h : (r,w,c) = sayF x kind id d) (hb : bigN x) : bigN r ∧ bigS w ∧ (cntNode x ≤ 8388608 → cntNode r ≤ 67108864) := by
 unfold sayF at h
 split at h
 ·split at h
  ·rename_i hk h0
   have hs : bigS (sayS x.s kind id d).1 := big_ok (say_ok (s := x.s) (kind := kind) (id := id) (data := d) (by rw [← h0]))
   obtain ⟨gl,bl,hA⟩ : ∃ gl bl,(gl,bl) = addL x.g (sayS x.s kind id d).1 := ⟨_,_,rfl⟩
   rw [← hA] at h
   split at h
   ·injection h with h h2
    injection h2 with h2 h3
    replace h : r = takeF (ownF x gl) (sayS x.s kind id d).1 := h
    have hg : bigLog gl := big_add hA hb.g hs
    have ho : bigN (ownF x gl) := ⟨hb.s,hb.t,hg,by show (List.set _ _ _).length ≤ 1048576; rw [List.length_set]; exact hb.got,hb.acked,hb.seen,hb.sess,hb.rises⟩
    refine ⟨h ▸ takeF_big ho hs,h2 ▸ hs,fun hc => ?_⟩
    rw [h]
    have h4 := takeF_cnt ho hs
    have h5 : cntLog x.g ≤ 8388608 := by unfold cntNode at hc; omega
    have h6 := cnt_add hA h5 (cnt_State hs)
    have h7 : cntNode (ownF x gl) ≤ cntNode x + cntLog gl := by
     unfold cntNode
     show cntS x.s + x.t.leaves.length + cntLog gl + (x.got.set x.id.toNat (logSeq gl)).length + x.acked.length + cntTab x.seen + 4 * x.sess.length + 3 * x.rises.length ≤ _
     rw [List.length_set]; omega
    omega
   ·injection h with h h2
    injection h2 with h2 h3
    exact ⟨h ▸ hb,h2 ▸ bigS_nil,fun hc => by rw [h]; omega⟩
  ·injection h with h h2
   injection h2 with h2 h3
   exact ⟨h ▸ hb,h2 ▸ bigS_nil,fun hc => by rw [h]; omega⟩
 ·injection h with h h2
  injection h2 with h2 h3
  exact ⟨h ▸ hb,h2 ▸ bigS_nil,fun hc => by rw [h]; omega⟩
theorem ac_laws_FnExactSay (g : NV) (k : Int) (i : Int) (d : ByteArray) (st : St) (hR_g : RdN st g ∧ maxN g) (hw_k : (Lit.int .i64 k).wf = true) (hw_i : (Lit.int .i64 i).wf = true)  : C 8 [(vNV g),vI k,vI i,.string d] st (fun v s => v = vB true) := by
 refine AC.enterX (i := ⟨[4,10,11,13,14,15,20,21],[4,10,11,13,14,15,20,21],[0,1,2,3,4,8,9,10,11,12,13,14,15,16,17,18,19,20,21,22,25,30,66,71,93,104,109,112,137,142,147,150],[]⟩) [(12,[2],[0])] Tryz.func8 rfl rfl (by kernel_rfl) (by kernel_rfl) Tryz.ntmps8 (Lb rfl) rfl ?_
 refine ⟨_,rfl,?_⟩
 refine Cm 1 st [(1,vI k),(2,vI i),(3,.string d),Ml 4 0,(8,vB false)] [(4,0,cNV g)] fun _ _ => ?_
 iterate 2 refine ⟨_,rfl,?_⟩
 rintro (_|_) hn_d
 ·replace hn_d : ¬ ((d.size : Int) > 1048576) := of_decide_eq_false hn_d
  refine Cm 1 st [(1,vI k),(2,vI i),(3,.string d),Ml 4 0,(8,vB false),(25,vB false)] [(4,0,cNV g)] fun _ _ => ?_
  refine cxs ?_
  refine Cm 1 st [(1,vI k),(2,vI i),(3,.string d),Ml 4 0,(8,vB false),(9,vI 1048576)] [(4,0,cNV g)] fun _ _ => ?_
  refine ⟨_,op_ldo (v := (vNV g)) rfl rfl rfl rfl,?_⟩
  refine ⟨_,rfl,(ac_laws_szNode g 1048576 st hR_g.1 (by decide) (by decide) hR_g.2).mono ?_⟩
  rintro _ st ⟨z_g,rfl,hr_g,hz_g,rfl⟩
  refine Cm 1 st [(1,vI k),(2,vI i),(3,.string d),Ml 4 0,(8,vB false),(9,vI z_g)] [(4,0,cNV g)] fun _ _ => ?_
  refine ⟨_,rfl,?_⟩
  rintro (_|_) hn_g
  ·replace hn_g : ¬ (z_g < 0) := of_decide_eq_false hn_g
   refine Cm 1 st [(1,vI k),(2,vI i),(3,.string d),Ml 4 0,(8,vB false),(30,vB false)] [(4,0,cNV g)] fun _ _ => ?_
   have hz_g' := hz_g (by omega)
   have hb_g := sz_bigN (v := g) (by omega)
   have hc_g : cntNode g.x ≤ 8388608 := (cnt_Node (v := g) (by omega))
   refine cxs ?_
   refine ⟨_,op_ldo (v := (vNV g)) rfl rfl rfl rfl,?_⟩
   refine ⟨_,rfl,(ac_laws_toNode g st hR_g.1 hb_g).mono ?_⟩
   rintro _ s1 ⟨u1,rfl,hu1,hO1,hN1,hP1⟩
   refine ⟨_,rfl,(ac_spec_Say u1.v k i d s1 (OwnP.rdN (OwnP.left (OwnP.joinF OwnP.nil hP1 hO1 hN1))) (bigNW (hu1 ▸ hb_g))).mono ?_⟩
   rintro _ s2 ⟨r2,q2,b2,rfl,hr2,hO2,hN2,hP2⟩
   iterate 5 refine ⟨_,rfl,?_⟩
   refine ⟨_,op_stw (vs := cNV r2.v) rfl rfl rfl rfl rfl rfl rfl rfl,?_⟩
   refine ⟨_,rfl,?_⟩
   refine Cm 3 s2 [(1,vI k),(2,vI i),(3,.string d),Ml 4 0,(8,vB false),Ml 10 1,Ml 11 2,(12,vI b2)] [(4,0,cNV g),(10,1,cNV r2.v),(11,2,cSV q2)] fun _ _ => ?_
   have hA7 : OwnP s2 (pcNW r2 ++ (pcS q2 ++ (pcNW u1 ++ []))) := (OwnP.joinF2 (OwnP.joinF OwnP.nil hP1 hO1 hN1) hP2 hO2 hN2)
   have hQ7 : Pres st s2 := (hP1.trans hP2)
   refine ⟨_,op_ldo (v := (vNV g)) rfl rfl rfl rfl,?_⟩
   refine ⟨_,rfl,(ac_laws_toNode g s2 (hR_g.1.pres hQ7) hb_g).mono ?_⟩
   rintro _ s3 ⟨u3,rfl,hu3,hO3,hN3,hP3⟩
   refine ⟨_,rfl,?_⟩
   refine ⟨_,op_stw (vs := cNV u3.v) rfl rfl rfl rfl rfl rfl rfl rfl,?_⟩
   refine Cm 4 s3 [(1,vI k),(2,vI i),(3,.string d),Ml 4 0,(8,vB false),Ml 10 1,Ml 11 2,(12,vI b2),Ml 13 3] [(4,0,cNV g),(10,1,cNV r2.v),(11,2,cSV q2),(13,3,cNV u3.v)] fun _ _ => ?_
   have hA8 : OwnP s3 (pcNW u3 ++ (pcNW r2 ++ (pcS q2 ++ (pcNW u1 ++ [])))) := (OwnP.joinF hA7 hP3 hO3 hN3)
   have hQ8 : Pres st s3 := (hQ7.trans hP3)
   refine ⟨_,op_ldo (v := (vNV u3.v)) rfl rfl rfl rfl,?_⟩
   refine ⟨_,rfl,(ac_impl_Say u3.v k i d s3 (OwnP.rdN (OwnP.left hA8)) (bigNW (hu3 ▸ hb_g))).mono ?_⟩
   rintro _ s4 ⟨r4,q4,b4,rfl,hr4,hO4,hN4,hP4⟩
   iterate 5 refine ⟨_,rfl,?_⟩
   refine ⟨_,op_stw (vs := cNV r4.v) rfl rfl rfl rfl rfl rfl rfl rfl,?_⟩
   refine ⟨_,rfl,?_⟩
   refine Cm 6 s4 [(1,vI k),(2,vI i),(3,.string d),Ml 4 0,(8,vB false),Ml 10 1,Ml 11 2,(12,vI b2),Ml 13 3,Ml 14 4,Ml 15 5,(16,vI b4)] [(4,0,cNV g),(10,1,cNV r2.v),(11,2,cSV q2),(13,3,cNV u3.v),(14,4,cNV r4.v),(15,5,cSV q4)] fun _ _ => ?_
   have hA9 : OwnP s4 (pcNW r4 ++ (pcS q4 ++ (pcNW u3 ++ (pcNW r2 ++ (pcS q2 ++ (pcNW u1 ++ [])))))) := (OwnP.joinF2 hA8 hP4 hO4 hN4)
   have hQ9 : Pres st s4 := (hQ8.trans hP4)
   have hE1 : (r4.x,q4.x,b4) = (r2.x,q2.x,b2) := by rw [hr4,hr2,show u3.v.x = _ from hu3,show u1.v.x = _ from hu1]
   refine ⟨_,op_ldo (v := (vNV r4.v)) rfl rfl rfl rfl,?_⟩
   refine ⟨_,op_ldo (v := (vNV r2.v)) rfl rfl rfl rfl,?_⟩
   refine ⟨_,rfl,(AC.tru (uc_eqNode r4 r2 s4 (OwnP.rdN (OwnP.left hA9)) (OwnP.rdN (OwnP.left (OwnP.right (OwnP.right (OwnP.right hA9))))) (say_bd hr4 (bigNW (hu3 ▸ hb_g))).1) ((Prod.mk.inj hE1).1)).mono ?_⟩
   rintro _ s4 ⟨rfl,rfl⟩
   iterate 3 refine ⟨_,rfl,?_⟩
   refine ⟨_,rfl,(AC.tru (ac_laws_eqState q4 q2 s4 (OwnP.rdS (OwnP.left (OwnP.right hA9))) (OwnP.rdS (OwnP.left (OwnP.right (OwnP.right (OwnP.right (OwnP.right hA9)))))) (say_bd hr4 (bigNW (hu3 ▸ hb_g))).2.1) ((Prod.mk.inj (Prod.mk.inj hE1).2).1)).mono ?_⟩
   rintro _ s4 ⟨rfl,rfl⟩
   iterate 3 refine ⟨_,rfl,?_⟩
   rintro (_|_) he5
   rotate_left
   ·exact absurd (((Prod.mk.inj (Prod.mk.inj hE1).2).2)) (bne_iff_ne.1 he5)
   refine ⟨_,rfl,?_⟩
   refine Cm 6 s4 [(1,vI k),(2,vI i),(3,.string d),Ml 4 0,(8,vB false),Ml 10 1,Ml 11 2,(12,vI b2),Ml 13 3,Ml 14 4,Ml 15 5,(16,vI b4),(66,vB false)] [(4,0,cNV g),(10,1,cNV r2.v),(11,2,cSV q2),(13,3,cNV u3.v),(14,4,cNV r4.v),(15,5,cSV q4)] fun _ _ => ?_
   refine cxs ?_
   refine ⟨_,op_ldo (v := (vNV u3.v)) rfl rfl rfl rfl,?_⟩
   refine ⟨ld_own rfl rfl rfl,?_⟩
   refine ⟨_,op_ldo (v := (vNV g)) rfl rfl rfl rfl,?_⟩
   refine ⟨_,rfl,(ac_laws_toNode g s4 (hR_g.1.pres hQ9) hb_g).mono ?_⟩
   rintro _ s6 ⟨u6,rfl,hu6,hO6,hN6,hP6⟩
   refine ⟨hP6.2,?_⟩
   refine ⟨_,rfl,(AC.tru (uc_eqNode u3 u6 s6 (OwnP.rdN (OwnP.left (OwnP.right (OwnP.right (OwnP.right (OwnP.joinF hA9 hP6 hO6 hN6)))))) (OwnP.rdN (OwnP.left (OwnP.joinF hA9 hP6 hO6 hN6))) (hu3 ▸ hb_g)) (hu3.trans hu6.symm)).mono ?_⟩
   rintro _ s6 ⟨rfl,rfl⟩
   refine ⟨_,rfl,?_⟩
   refine Cm 6 s6 [(1,vI k),(2,vI i),(3,.string d),Ml 4 0,(8,vB false),Ml 10 1,Ml 11 2,(12,vI b2),Ml 13 3,Ml 14 4,Ml 15 5,(16,vI b4),(71,vB false)] [(4,0,cNV g),(10,1,cNV r2.v),(11,2,cSV q2),(13,3,cNV u3.v),(14,4,cNV r4.v),(15,5,cSV q4)] fun _ _ => ?_
   have hA12 : OwnP s6 (pcNW u6 ++ (pcNW r4 ++ (pcS q4 ++ (pcNW u3 ++ (pcNW r2 ++ (pcS q2 ++ (pcNW u1 ++ []))))))) := (OwnP.joinF hA9 hP6 hO6 hN6)
   have hQ12 : Pres st s6 := (hQ9.trans hP6)
   refine cxs ?_
   refine Cm 6 s6 [(1,vI k),(2,vI i),(3,.string d),Ml 4 0,(8,vB false),Ml 10 1,Ml 11 2,(12,vI b2),Ml 13 3,Ml 14 4,Ml 15 5,(16,vI b4),(17,vI 1)] [(4,0,cNV g),(10,1,cNV r2.v),(11,2,cSV q2),(13,3,cNV u3.v),(14,4,cNV r4.v),(15,5,cSV q4)] fun _ _ => ?_
   refine ⟨_,op_ldo (v := (vNV u3.v)) rfl rfl rfl rfl,?_⟩
   have hM7 := (OwnP.front3 hA12)
   have hNw7 := newPs (hN3.le ((hP1.trans hP2)).1)
   have hcm7 : cntNode u3.x ≤ 8388608 := by rw [hu3]; exact hc_g
   refine ⟨_,rfl,(uc_markNode u3 1 s6 (OwnP.left hM7) (hu3 ▸ hb_g) (by omega) (by omega)).mono ?_⟩
   rintro _ s7 ⟨rfl,hO7,hL7⟩
   refine Cm 6 s7 [(1,vI k),(2,vI i),(3,.string d),Ml 4 0,(8,vB false),Ml 10 1,Ml 11 2,(12,vI b2),Ml 14 4,Ml 15 5,(16,vI b4),(17,vI (1 + (cntNode u3.x : Int)))] [(4,0,cNV g),(10,1,cNV r2.v),(11,2,cSV q2),(14,4,cNV r4.v),(15,5,cSV q4)] fun _ _ => ?_
   have hA15 : OwnP s7 (pcNW (mkNode u3 1) ++ _) := OwnP.markG hM7 hO7 (mkp_Node _ _) hL7
   have hQ15 : Pres st s7 := hL7.pres hQ12 hNw7
   refine ⟨_,rfl,?_⟩
   rintro (_|_) hg8
   rotate_left
   ·exact absurd (of_decide_eq_true hg8) ((by omega))
   refine ⟨_,op_ldo (v := (vNV r4.v)) rfl rfl rfl rfl,?_⟩
   refine ⟨_,op_ldo (v := (vNV r2.v)) rfl rfl rfl rfl,?_⟩
   refine ⟨_,rfl,(AC.tru (uc_eqNode r4 r2 s7 (OwnP.rdN (OwnP.left (OwnP.right (OwnP.right hA15)))) (OwnP.rdN (OwnP.left (OwnP.right (OwnP.right (OwnP.right (OwnP.right hA15)))))) (say_bd hr4 (bigNW (hu3 ▸ hb_g))).1) ((Prod.mk.inj hE1).1)).mono ?_⟩
   rintro _ s7 ⟨rfl,rfl⟩
   iterate 4 refine ⟨_,rfl,?_⟩
   refine ⟨_,rfl,(AC.tru (ac_laws_eqState q4 q2 s7 (OwnP.rdS (OwnP.left (OwnP.right (OwnP.right (OwnP.right hA15))))) (OwnP.rdS (OwnP.left (OwnP.right (OwnP.right (OwnP.right (OwnP.right (OwnP.right hA15))))))) (say_bd hr4 (bigNW (hu3 ▸ hb_g))).2.1) ((Prod.mk.inj (Prod.mk.inj hE1).2).1)).mono ?_⟩
   rintro _ s7 ⟨rfl,rfl⟩
   iterate 3 refine ⟨_,rfl,?_⟩
   rintro (_|_) he9
   rotate_left
   ·exact absurd (((Prod.mk.inj (Prod.mk.inj hE1).2).2)) (bne_iff_ne.1 he9)
   refine ⟨_,rfl,?_⟩
   refine Cm 6 s7 [(1,vI k),(2,vI i),(3,.string d),Ml 4 0,(8,vB false),Ml 10 1,Ml 11 2,(12,vI b2),Ml 14 4,Ml 15 5,(93,vB false)] [(4,0,cNV g),(10,1,cNV r2.v),(11,2,cSV q2),(14,4,cNV r4.v),(15,5,cSV q4)] fun _ _ => ?_
   refine cxs ?_
   refine Cm 6 s7 [(1,vI k),(2,vI i),(3,.string d),Ml 4 0,(8,vB false),Ml 10 1,Ml 11 2,(12,vI b2),Ml 14 4,Ml 15 5,(18,vI 1)] [(4,0,cNV g),(10,1,cNV r2.v),(11,2,cSV q2),(14,4,cNV r4.v),(15,5,cSV q4)] fun _ _ => ?_
   refine ⟨_,op_ldo (v := (vNV r4.v)) rfl rfl rfl rfl,?_⟩
   have hM10 := (OwnP.front2 hA15)
   have hNw10 := newPs ((NewP.left hN4).le (((hP1.trans hP2).trans hP3)).1)
   have hcm10 : cntNode r4.x ≤ 67108864 := (say_bd hr4 (bigNW (hu3 ▸ hb_g))).2.2 (cntNW (hu3 ▸ hc_g))
   refine ⟨_,rfl,(uc_markNode r4 1 s7 (OwnP.left hM10) (say_bd hr4 (bigNW (hu3 ▸ hb_g))).1 (by omega) (by omega)).mono ?_⟩
   rintro _ s10 ⟨rfl,hO10,hL10⟩
   refine Cm 6 s10 [(1,vI k),(2,vI i),(3,.string d),Ml 4 0,(8,vB false),Ml 10 1,Ml 11 2,(12,vI b2),Ml 14 4,Ml 15 5,(18,vI (1 + (cntNode r4.x : Int)))] [(4,0,cNV g),(10,1,cNV r2.v),(11,2,cSV q2),(14,4,cNV r4.v),(15,5,cSV q4)] fun _ _ => ?_
   have hA19 : OwnP s10 (pcNW (mkNode r4 1) ++ _) := OwnP.markG hM10 hO10 (mkp_Node _ _) hL10
   have hQ19 : Pres st s10 := hL10.pres hQ15 hNw10
   refine ⟨_,rfl,?_⟩
   have hM11 := (OwnP.front3 hA19)
   have hNw11 := newPs ((NewP.right hN4).le (((hP1.trans hP2).trans hP3)).1)
   have hcm11 : cntState q4.x ≤ 67108864 := Nat.le_trans (cnt_State (say_bd hr4 (bigNW (hu3 ▸ hb_g))).2.1) (by decide)
   refine ⟨_,rfl,(uc_markState q4 _ s10 (OwnP.left hM11) (say_bd hr4 (bigNW (hu3 ▸ hb_g))).2.1 (by omega) (by omega)).mono ?_⟩
   rintro _ s11 ⟨rfl,hO11,hL11⟩
   refine cxs ?_
   have hA20 : OwnP s11 (pcS (mkState q4 (1 + (cntNode r4.x : Int))) ++ _) := OwnP.markG hM11 hO11 (mkp_State _ _) hL11
   have hQ20 : Pres st s11 := hL11.pres hQ19 hNw11
   refine Cm 6 s11 [(1,vI k),(2,vI i),(3,.string d),Ml 4 0,(8,vB false),Ml 10 1,Ml 11 2,(12,vI b2),Ml 14 4,Ml 15 5,(18,vI (1 + (cntNode r4.x : Int) + (cntState q4.x : Int))),(19,vI 1)] [(4,0,cNV g),(10,1,cNV r2.v),(11,2,cSV q2),(14,4,cNV r4.v),(15,5,cSV q4)] fun _ _ => ?_
   refine ⟨_,op_ldo (v := (vNV r4.v)) rfl rfl rfl rfl,?_⟩
   refine ⟨_,rfl,(uc_heldNode r4 1 s11 (OwnP.left (OwnP.right hA20)) (say_bd hr4 (bigNW (hu3 ▸ hb_g))).1 (by decide) (by omega)).mono ?_⟩
   rintro _ s12 ⟨rfl,hP12⟩
   refine Cm 6 s12 [(1,vI k),(2,vI i),(3,.string d),Ml 4 0,(8,vB false),Ml 10 1,Ml 11 2,(12,vI b2),Ml 14 4,Ml 15 5,(18,vI (1 + (cntNode r4.x : Int) + (cntState q4.x : Int))),(19,vI (1 + (cntNode r4.x : Int)))] [(4,0,cNV g),(10,1,cNV r2.v),(11,2,cSV q2),(14,4,cNV r4.v),(15,5,cSV q4)] fun _ _ => ?_
   have hA22 : OwnP s12 (pcS (mkState q4 (1 + (cntNode r4.x : Int))) ++ (pcNW (mkNode r4 1) ++ (pcNW (mkNode u3 1) ++ (pcNW u6 ++ (pcNW r2 ++ (pcS q2 ++ (pcNW u1 ++ []))))))) := (OwnP.pres hA20 hP12)
   have hQ22 : Pres st s12 := (hQ20.trans hP12)
   refine ⟨_,rfl,?_⟩
   rintro (_|_) hg13
   rotate_left
   ·exact absurd (of_decide_eq_true hg13) ((by omega))
   refine Cm 6 s12 [(1,vI k),(2,vI i),(3,.string d),Ml 4 0,(8,vB false),Ml 10 1,Ml 11 2,(12,vI b2),Ml 14 4,Ml 15 5,(18,vI (1 + (cntNode r4.x : Int) + (cntState q4.x : Int))),(19,vI (1 + (cntNode r4.x : Int))),(104,vB false)] [(4,0,cNV g),(10,1,cNV r2.v),(11,2,cSV q2),(14,4,cNV r4.v),(15,5,cSV q4)] fun _ _ => ?_
   refine cxs ?_
   refine ⟨_,rfl,?_⟩
   refine ⟨_,rfl,(uc_heldState q4 (1 + (cntNode r4.x : Int)) s12 (OwnP.rdS (OwnP.left hA22)) (say_bd hr4 (bigNW (hu3 ▸ hb_g))).2.1 (by omega) (by omega)).mono ?_⟩
   rintro _ s14 ⟨rfl,hP14⟩
   refine Cm 6 s14 [(1,vI k),(2,vI i),(3,.string d),Ml 4 0,(8,vB false),Ml 10 1,Ml 11 2,(12,vI b2),Ml 14 4,Ml 15 5,(18,vI (1 + (cntNode r4.x : Int) + (cntState q4.x : Int))),(19,vI (1 + (cntNode r4.x : Int) + (cntState q4.x : Int)))] [(4,0,cNV g),(10,1,cNV r2.v),(11,2,cSV q2),(14,4,cNV r4.v),(15,5,cSV q4)] fun _ _ => ?_
   have hA25 : OwnP s14 (pcS (mkState q4 (1 + (cntNode r4.x : Int))) ++ (pcNW (mkNode r4 1) ++ (pcNW (mkNode u3 1) ++ (pcNW u6 ++ (pcNW r2 ++ (pcS q2 ++ (pcNW u1 ++ []))))))) := (OwnP.pres hA22 hP14)
   have hQ25 : Pres st s14 := (hQ22.trans hP14)
   refine ⟨_,rfl,?_⟩
   rintro (_|_) hg15
   rotate_left
   ·exact absurd (of_decide_eq_true hg15) ((by omega))
   refine Cm 6 s14 [(1,vI k),(2,vI i),(3,.string d),Ml 4 0,(8,vB false),Ml 10 1,Ml 11 2,(12,vI b2),Ml 14 4,Ml 15 5,(18,vI (1 + (cntNode r4.x : Int) + (cntState q4.x : Int))),(19,vI (1 + (cntNode r4.x : Int) + (cntState q4.x : Int))),(109,vB false)] [(4,0,cNV g),(10,1,cNV r2.v),(11,2,cSV q2),(14,4,cNV r4.v),(15,5,cSV q4)] fun _ _ => ?_
   refine cxs ?_
   refine ⟨_,rfl,?_⟩
   rintro (_|_) hg16
   rotate_left
   ·exact absurd (rfl) (bne_iff_ne.1 hg16)
   refine Cm 6 s14 [(1,vI k),(2,vI i),(3,.string d),Ml 4 0,(8,vB false),Ml 10 1,Ml 11 2,(12,vI b2),Ml 14 4,Ml 15 5,(18,vI (1 + (cntNode r4.x : Int) + (cntState q4.x : Int))),(19,vI (1 + (cntNode r4.x : Int) + (cntState q4.x : Int))),(112,vB false)] [(4,0,cNV g),(10,1,cNV r2.v),(11,2,cSV q2),(14,4,cNV r4.v),(15,5,cSV q4)] fun _ _ => ?_
   refine cxs ?_
   refine ⟨_,op_ldo (v := (vNV g)) rfl rfl rfl rfl,?_⟩
   refine ⟨_,rfl,(ac_laws_toNode g s14 (hR_g.1.pres hQ25) hb_g).mono ?_⟩
   rintro _ s17 ⟨u17,rfl,hu17,hO17,hN17,hP17⟩
   refine ⟨_,rfl,(ac_impl_Say u17.v k i d s17 (OwnP.rdN (OwnP.left (OwnP.joinF hA25 hP17 hO17 hN17))) (bigNW (hu17 ▸ hb_g))).mono ?_⟩
   rintro _ s18 ⟨r18,q18,b18,rfl,hr18,hO18,hN18,hP18⟩
   iterate 5 refine ⟨_,rfl,?_⟩
   refine ⟨_,op_stw (vs := cNV r18.v) rfl rfl rfl rfl rfl rfl rfl rfl,?_⟩
   refine ⟨_,rfl,?_⟩
   refine Cm 8 s18 [(8,vB false),Ml 10 1,Ml 11 2,(12,vI b2),Ml 14 4,Ml 15 5,(18,vI (1 + (cntNode r4.x : Int) + (cntState q4.x : Int))),(19,vI (1 + (cntNode r4.x : Int) + (cntState q4.x : Int))),Ml 20 6,Ml 21 7,(22,vI b18)] [(10,1,cNV r2.v),(11,2,cSV q2),(14,4,cNV r4.v),(15,5,cSV q4),(20,6,cNV r18.v),(21,7,cSV q18)] fun _ _ => ?_
   have hA30 : OwnP s18 (pcNW r18 ++ (pcS q18 ++ (pcNW u17 ++ (pcS (mkState q4 (1 + (cntNode r4.x : Int))) ++ (pcNW (mkNode r4 1) ++ (pcNW (mkNode u3 1) ++ (pcNW u6 ++ (pcNW r2 ++ (pcS q2 ++ (pcNW u1 ++ [])))))))))) := (OwnP.joinF2 (OwnP.joinF hA25 hP17 hO17 hN17) hP18 hO18 hN18)
   have hQ30 : Pres st s18 := ((hQ25.trans hP17).trans hP18)
   have hE2 : (r18.x,q18.x,b18) = (r2.x,q2.x,b2) := by rw [hr18,hr2,show u17.v.x = _ from hu17,show u1.v.x = _ from hu1]
   refine ⟨_,op_ldo (v := (vNV r18.v)) rfl rfl rfl rfl,?_⟩
   refine ⟨_,op_ldo (v := (vNV r2.v)) rfl rfl rfl rfl,?_⟩
   refine ⟨_,rfl,(AC.tru (uc_eqNode r18 r2 s18 (OwnP.rdN (OwnP.left hA30)) (OwnP.rdN (OwnP.left (OwnP.right (OwnP.right (OwnP.right (OwnP.right (OwnP.right (OwnP.right (OwnP.right hA30))))))))) (say_bd hr18 (bigNW (hu17 ▸ hb_g))).1) ((Prod.mk.inj hE2).1)).mono ?_⟩
   rintro _ s18 ⟨rfl,rfl⟩
   iterate 3 refine ⟨_,rfl,?_⟩
   refine ⟨_,rfl,(AC.tru (ac_laws_eqState q18 q2 s18 (OwnP.rdS (OwnP.left (OwnP.right hA30))) (OwnP.rdS (OwnP.left (OwnP.right (OwnP.right (OwnP.right (OwnP.right (OwnP.right (OwnP.right (OwnP.right (OwnP.right hA30)))))))))) (say_bd hr18 (bigNW (hu17 ▸ hb_g))).2.1) ((Prod.mk.inj (Prod.mk.inj hE2).2).1)).mono ?_⟩
   rintro _ s18 ⟨rfl,rfl⟩
   iterate 3 refine ⟨_,rfl,?_⟩
   rintro (_|_) he19
   rotate_left
   ·exact absurd (((Prod.mk.inj (Prod.mk.inj hE2).2).2)) (bne_iff_ne.1 he19)
   refine ⟨_,rfl,?_⟩
   refine Cm 8 s18 [(8,vB false),Ml 14 4,Ml 15 5,(18,vI (1 + (cntNode r4.x : Int) + (cntState q4.x : Int))),(19,vI (1 + (cntNode r4.x : Int) + (cntState q4.x : Int))),(137,vB false)] [(14,4,cNV r4.v),(15,5,cSV q4)] fun _ _ => ?_
   refine cxs ?_
   refine Cm 8 s18 [(8,vB false),Ml 14 4,Ml 15 5,(18,vI (1 + (cntNode r4.x : Int) + (cntState q4.x : Int))),(19,vI 1)] [(14,4,cNV r4.v),(15,5,cSV q4)] fun _ _ => ?_
   refine ⟨_,op_ldo (v := (vNV r4.v)) rfl rfl rfl rfl,?_⟩
   refine ⟨_,rfl,(uc_heldNode r4 1 s18 (OwnP.left (OwnP.right (OwnP.right (OwnP.right (OwnP.right hA30))))) (say_bd hr4 (bigNW (hu3 ▸ hb_g))).1 (by decide) (by omega)).mono ?_⟩
   rintro _ s20 ⟨rfl,hP20⟩
   refine Cm 8 s20 [(8,vB false),Ml 15 5,(18,vI (1 + (cntNode r4.x : Int) + (cntState q4.x : Int))),(19,vI (1 + (cntNode r4.x : Int)))] [(15,5,cSV q4)] fun _ _ => ?_
   have hA34 : OwnP s20 (pcNW r18 ++ (pcS q18 ++ (pcNW u17 ++ (pcS (mkState q4 (1 + (cntNode r4.x : Int))) ++ (pcNW (mkNode r4 1) ++ (pcNW (mkNode u3 1) ++ (pcNW u6 ++ (pcNW r2 ++ (pcS q2 ++ (pcNW u1 ++ [])))))))))) := (OwnP.pres hA30 hP20)
   have hQ34 : Pres st s20 := (hQ30.trans hP20)
   refine ⟨_,rfl,?_⟩
   rintro (_|_) hg21
   rotate_left
   ·exact absurd (of_decide_eq_true hg21) ((by omega))
   refine Cm 8 s20 [(8,vB false),Ml 15 5,(18,vI (1 + (cntNode r4.x : Int) + (cntState q4.x : Int))),(19,vI (1 + (cntNode r4.x : Int))),(142,vB false)] [(15,5,cSV q4)] fun _ _ => ?_
   refine cxs ?_
   refine ⟨_,rfl,?_⟩
   refine ⟨_,rfl,(uc_heldState q4 (1 + (cntNode r4.x : Int)) s20 (OwnP.rdS (OwnP.left (OwnP.right (OwnP.right (OwnP.right hA34))))) (say_bd hr4 (bigNW (hu3 ▸ hb_g))).2.1 (by omega) (by omega)).mono ?_⟩
   rintro _ s22 ⟨rfl,hP22⟩
   refine Cm 8 s22 [(8,vB false),(18,vI (1 + (cntNode r4.x : Int) + (cntState q4.x : Int))),(19,vI (1 + (cntNode r4.x : Int) + (cntState q4.x : Int)))] [] fun _ _ => ?_
   have hA37 : OwnP s22 (pcNW r18 ++ (pcS q18 ++ (pcNW u17 ++ (pcS (mkState q4 (1 + (cntNode r4.x : Int))) ++ (pcNW (mkNode r4 1) ++ (pcNW (mkNode u3 1) ++ (pcNW u6 ++ (pcNW r2 ++ (pcS q2 ++ (pcNW u1 ++ [])))))))))) := (OwnP.pres hA34 hP22)
   have hQ37 : Pres st s22 := (hQ34.trans hP22)
   refine ⟨_,rfl,?_⟩
   rintro (_|_) hg23
   rotate_left
   ·exact absurd (of_decide_eq_true hg23) ((by omega))
   refine Cm 8 s22 [(8,vB false),(18,vI (1 + (cntNode r4.x : Int) + (cntState q4.x : Int))),(19,vI (1 + (cntNode r4.x : Int) + (cntState q4.x : Int))),(147,vB false)] [] fun _ _ => ?_
   refine cxs ?_
   refine ⟨_,rfl,?_⟩
   rintro (_|_) hg24
   rotate_left
   ·exact absurd (rfl) (bne_iff_ne.1 hg24)
   refine Cm 8 s22 [(8,vB false),(150,vB false)] [] fun _ _ => ?_
   refine cxs ?_
   refine cxs ?_
   exact ⟨.inl rfl,_,rfl,rfl⟩
  ·replace hn_g : z_g < 0 := of_decide_eq_true hn_g
   refine Cm 1 st [(1,vI k),(2,vI i),(3,.string d),Ml 4 0,(8,vB false),(30,vB true)] [(4,0,cNV g)] fun _ _ => ?_
   refine cxs ?_
   exact ⟨.inl rfl,_,rfl,rfl⟩
 ·replace hn_d : (d.size : Int) > 1048576 := of_decide_eq_true hn_d
  refine Cm 1 st [(1,vI k),(2,vI i),(3,.string d),Ml 4 0,(8,vB false),(25,vB true)] [(4,0,cNV g)] fun _ _ => ?_
  refine cxs ?_
  exact ⟨.inl rfl,_,rfl,rfl⟩
end Go.Proofs.YtpnolkhfeliehaaGreat.AM
