/- Part 3 of the texts on which the law's proof rests. -/
import Derived.Test.YteabadoaeadcgaaXeb
import Derived.Lib.Bytealg
namespace Go.Proofs.Yteabadoaeadcgaa.AM
open Go Go.Proofs
set_option linter.unusedVariables false
set_option linter.unusedSimpArgs false
set_option maxRecDepth 100000
set_option maxHeartbeats 4000000
theorem mgB0_len {g : Mg} (hb : bigM g) (hk : stateOk g.part) : (mgB0 g).length ≤ 120000000 := by
 have h1 := mgH_len hb hk
 have h2 := fls_len g.marks g.marks.length
 rw [List.take_length] at h2
 have h3 : g.marks.length ≤ 1048576 := hb.marks
 rw [mgB0,List.length_append]
 omega
theorem mgB_len {g : Mg} (hb : bigM g) (hk : stateOk g.part) : (mgB g).length ≤ 120000004 := by
 have h1 := mgB0_len hb hk
 rw [mgB,List.length_append]
 have : (crcB (mgB0 g)).length = 4 := rfl
 omega
theorem ac_spec_l10Body (g : MV) (st : St) (hR : RdM st g) (hb : bigM g.x) (hk : stateOk g.part.x) : C 128 [.agg #[vI g.kind,vI g.frm,vI g.to,vI g.num,vI g.hi,vS g.tree.p g.tree.l.length,vI g.tree.root,vS g.vec.p g.vec.l.length,vS g.leaves.p g.leaves.l.length,vS g.part.p g.part.x.items.length,vS g.part.q g.part.x.floors.length,vS g.marks.p g.marks.l.length]] st (fun v s => ∃ q,v = vS q (mgB0 g.x).length ∧ OwnR s 1 fB q (mgB0 g.x) ∧ New st.next q ∧ Pres st s) := by
 have hb1 : g.tree.l.length ≤ 1048576 := hb.tree
 have hb2 : g.vec.l.length ≤ 1048576 := hb.vec
 have hb3 : g.leaves.l.length ≤ 1048576 := hb.leaves
 have hb4 : g.part.x.items.length ≤ 1048576 := hb.part.1
 have hb5 : g.part.x.floors.length ≤ 1048576 := hb.part.2.1
 have hb6 : g.marks.l.length ≤ 1048576 := hb.marks
 have hbH := mgH_len hb hk
 have hpl := stB_len hk
 refine AC.enterX (i := ⟨[1],[1,9,11,13,15,17,34,35,40,41,46,51,55,67,73,80,89],[0,1,2,3,4,5,6,7,23,76],[]⟩) [] Try.func128 rfl rfl (by kernel_rfl) (by kernel_rfl) Try.ntmps128 (Lb rfl) rfl ?_
 refine ⟨_,rfl,?_⟩
 refine Cm 1 st [Ml 1 0,(2,Sn)] [(1,0,cMV g)] fun _ _ => ?_
 refine op_litI (k := .u8) (l := [82,75]) rfl rfl rfl rfl rfl rfl (by decide) ?_
 intro q8 s8 hO8 hP8 hN8
 refine Cm 1 s8 [Ml 1 0,(2,Sn),(3,vS q8 ([82,75] : List Int).length)] [(1,0,cMV g)] fun _ _ => ?_
 have hO8 : OwnR s8 1 fB q8 [82,75] := hO8
 refine ⟨_,rfl,?_⟩
 refine ⟨_,Od rfl,?_⟩
 refine ⟨_,rfl,?_⟩
 refine ⟨_,Od rfl,?_⟩
 refine ⟨_,rfl,?_⟩
 refine ⟨_,Od rfl,?_⟩
 refine ⟨_,rfl,?_⟩
 refine ⟨_,Od rfl,?_⟩
 refine ⟨_,rfl,?_⟩
 refine ⟨_,Od rfl,?_⟩
 refine op_litI (k := .i64) (l := mgN g.x) rfl rfl rfl rfl rfl rfl (by decide) ?_
 intro q19 s19 hO19 hP19 hN19
 refine cxs ?_
 have hO19 : OwnR s19 1 fI q19 (mgN g.x) := hO19
 have h5 : (mgN g.x).length = 5 := rfl
 refine Cm 1 s19 [Ml 1 0,(2,Sn),(3,vS q8 ([82,75] : List Int).length),(4,vS q19 (mgN g.x).length),(5,vI 0)] [(1,0,cMV g)] fun _ _ => ?_
 refine AW.loopM (fun x : Nat × Option Addr × List Int => [(1,vL 1 0 (0)),(2,.slice none 0 0),(3,vS x.2.1 x.2.2.length),(4,vS q19 (mgN g.x).length),(5,vI (x.1 : Int))]) (fun x : Nat × Option Addr × List Int => [(1,0,cMV g)]) (fun m (x : Nat × Option Addr × List Int) st' => m = 5 - x.1 ∧ x.1 ≤ 5 ∧ x.2.2 = [82,75] ++ numsB ((mgN g.x).take x.1) ∧ OwnR st' 1 fB x.2.1 x.2.2 ∧ New st.next x.2.1 ∧ OwnR st' 1 fI q19 (mgN g.x) ∧ Dis x.2.1 q19 ∧ Pres st st') (0,q8,[82,75]) _ ⟨rfl,rfl,rfl,rfl,rfl,trivial⟩ ⟨rfl,trivial⟩ ⟨rfl,Nat.zero_le _,(List.append_nil _).symm,hP19.ownR hO8,hN8,hO19,Dis.of hO8.old hN19,hP8.trans hP19⟩ ?_
 rintro m ⟨i,q,b⟩ ρ0 ff gg st' ⟨rfl,hi,hv,hO,hN,hO5,hd5,hP⟩
 simp only at hi hv hO hN hd5
 have hbl : b.length ≤ 27 := by rw [hv,List.length_append]; have := numsB_len ((mgN g.x).take i); rw [List.length_take] at this; simp only [List.length_cons,List.length_nil]; omega
 iterate 2 refine ⟨_,rfl,?_⟩
 rintro (_|_) h23
 ·replace h23 : ¬ ((i : Int) < ((mgN g.x).length : Int)) := of_decide_eq_false h23
  refine Cm gg st' [Ml 1 0,(2,Sn),(3,vS q b.length),(4,vS q19 (mgN g.x).length),(5,vI (i : Int)),(23,vB false)] [(1,0,cMV g)] fun _ _ => ?_
  have hv1 : b = [82,75] ++ numsB (mgN g.x) := by rw [hv,show i = 5 by omega]; rfl
  obtain ⟨s1,hs1'⟩ : ∃ s1,s1 = st' := ⟨_,rfl⟩
  subst hs1'
  clear hv
  refine cxs ?_
  iterate 2 refine ⟨_,rfl,?_⟩
  refine ⟨_,Od rfl,?_⟩
  refine ⟨_,rfl,(ac_spec_l10List g.tree.p g.tree.l s1 (hP.rows hR.tree) (hb.tree)).mono ?_⟩
  rintro _ s37 ⟨q37,rfl,hO37,hN37,hP37⟩
  have hn38 := numsL_len g.tree.l
  refine op_cat' (z := 1) (st := s37) (f := fB) (b := 1) (l := b) (l2 := numsL g.tree.l) rfl rfl rfl rfl rfl rfl rfl (by decide) fB_len rfl rfl rfl rfl (by first | omega | (simp only [List.length_nil]; omega)) (by unfold maxLen; first | omega | (simp only [List.length_nil]; omega)) (hP37.ownR hO) (hO37.rows fB_len) ?_
  intro q38 s38 hO38 hPr38 hN38
  refine Cm gg s38 [Ml 1 0,(2,Sn),(3,vS q38 (b ++ (numsL g.tree.l)).length)] [(1,0,cMV g)] fun _ _ => ?_
  have hl38 : (b ++ numsL g.tree.l).length ≤ b.length + (numsL g.tree.l).length := by rw [List.length_append]; omega
  have hN38' := cat_new (hP.trans hP37) hN hN38
  have hP38' := hPr38.pres (hP.trans hP37) hN
  iterate 2 refine ⟨_,rfl,?_⟩
  refine ⟨_,Od rfl,?_⟩
  refine ⟨_,rfl,(ac_spec_PutNum g.tree.root s38).mono ?_⟩
  rintro _ s43 ⟨q43,rfl,hO43,hN43,hP43⟩
  have hn44 := putN_len g.tree.root
  refine op_cat' (z := 1) (st := s43) (f := fB) (b := 1) (l := (b ++ numsL g.tree.l)) (l2 := putN g.tree.root) rfl rfl rfl rfl rfl rfl rfl (by decide) fB_len rfl rfl rfl rfl (by first | omega | (simp only [List.length_nil]; omega)) (by unfold maxLen; first | omega | (simp only [List.length_nil]; omega)) (hP43.ownR hO38) (hO43.rows fB_len) ?_
  intro q44 s44 hO44 hPr44 hN44
  refine Cm gg s44 [Ml 1 0,(2,Sn),(3,vS q44 ((b ++ numsL g.tree.l) ++ (putN g.tree.root)).length)] [(1,0,cMV g)] fun _ _ => ?_
  have hl44 : (b ++ numsL g.tree.l ++ putN g.tree.root).length ≤ (b ++ numsL g.tree.l).length + (putN g.tree.root).length := by rw [List.length_append]; omega
  have hN44' := cat_new (hP38'.trans hP43) hN38' hN44
  have hP44' := hPr44.pres (hP38'.trans hP43) hN38'
  refine ⟨_,rfl,?_⟩
  refine ⟨_,Od rfl,?_⟩
  refine ⟨_,rfl,(ac_spec_l10List g.vec.p g.vec.l s44 (hP44'.rows hR.vec) (hb.vec)).mono ?_⟩
  rintro _ s48 ⟨q48,rfl,hO48,hN48,hP48⟩
  have hn49 := numsL_len g.vec.l
  refine op_cat' (z := 1) (st := s48) (f := fB) (b := 1) (l := (b ++ numsL g.tree.l ++ putN g.tree.root)) (l2 := numsL g.vec.l) rfl rfl rfl rfl rfl rfl rfl (by decide) fB_len rfl rfl rfl rfl (by first | omega | (simp only [List.length_nil]; omega)) (by unfold maxLen; first | omega | (simp only [List.length_nil]; omega)) (hP48.ownR hO44) (hO48.rows fB_len) ?_
  intro q49 s49 hO49 hPr49 hN49
  refine Cm gg s49 [Ml 1 0,(2,Sn),(3,vS q49 ((b ++ numsL g.tree.l ++ putN g.tree.root) ++ (numsL g.vec.l)).length)] [(1,0,cMV g)] fun _ _ => ?_
  have hl49 : (b ++ numsL g.tree.l ++ putN g.tree.root ++ numsL g.vec.l).length ≤ (b ++ numsL g.tree.l ++ putN g.tree.root).length + (numsL g.vec.l).length := by rw [List.length_append]; omega
  have hN49' := cat_new (hP44'.trans hP48) hN44' hN49
  have hP49' := hPr49.pres (hP44'.trans hP48) hN44'
  refine ⟨_,rfl,?_⟩
  refine ⟨_,Od rfl,?_⟩
  refine ⟨_,rfl,(ac_spec_l10List g.leaves.p g.leaves.l s49 (hP49'.rows hR.leaves) (hb.leaves)).mono ?_⟩
  rintro _ s53 ⟨q53,rfl,hO53,hN53,hP53⟩
  have hn54 := numsL_len g.leaves.l
  refine op_cat' (z := 1) (st := s53) (f := fB) (b := 1) (l := (b ++ numsL g.tree.l ++ putN g.tree.root ++ numsL g.vec.l)) (l2 := numsL g.leaves.l) rfl rfl rfl rfl rfl rfl rfl (by decide) fB_len rfl rfl rfl rfl (by first | omega | (simp only [List.length_nil]; omega)) (by unfold maxLen; first | omega | (simp only [List.length_nil]; omega)) (hP53.ownR hO49) (hO53.rows fB_len) ?_
  intro q54 s54 hO54 hPr54 hN54
  refine Cm gg s54 [Ml 1 0,(2,Sn),(3,vS q54 ((b ++ numsL g.tree.l ++ putN g.tree.root ++ numsL g.vec.l) ++ (numsL g.leaves.l)).length)] [(1,0,cMV g)] fun _ _ => ?_
  have hl54 : (b ++ numsL g.tree.l ++ putN g.tree.root ++ numsL g.vec.l ++ numsL g.leaves.l).length ≤ (b ++ numsL g.tree.l ++ putN g.tree.root ++ numsL g.vec.l).length + (numsL g.leaves.l).length := by rw [List.length_append]; omega
  have hN54' := cat_new (hP49'.trans hP53) hN49' hN54
  have hP54' := hPr54.pres (hP49'.trans hP53) hN49'
  refine ⟨_,rfl,?_⟩
  refine ⟨_,Od rfl,?_⟩
  refine ⟨_,rfl,(ac_spec_l6Bytes g.part s54 (hR.part.pres hP54') hb.part hk).mono ?_⟩
  rintro _ s57 ⟨q57,rfl,hO57,hN57,hP57⟩
  refine Cm gg s57 [Ml 1 0,(2,Sn),(3,vS q54 ((b ++ numsL g.tree.l ++ putN g.tree.root ++ numsL g.vec.l) ++ (numsL g.leaves.l)).length),(6,vS q57 (stB g.part.x).length)] [(1,0,cMV g)] fun _ _ => ?_
  have hd57 := Dis.of hO54.old hN57
  have hP57' := hP54'.trans hP57
  refine ⟨_,rfl,?_⟩
  refine ⟨_,rfl,(ac_spec_PutNum ((stB g.part.x).length : Int) s57).mono ?_⟩
  rintro _ s61 ⟨q61,rfl,hO61,hN61,hP61⟩
  have hn62 := putN_len ((stB g.part.x).length : Int)
  refine op_cat' (z := 1) (st := s61) (f := fB) (b := 1) (l := (b ++ numsL g.tree.l ++ putN g.tree.root ++ numsL g.vec.l ++ numsL g.leaves.l)) (l2 := putN ((stB g.part.x).length : Int)) rfl rfl rfl rfl rfl rfl rfl (by decide) fB_len rfl rfl rfl rfl (by first | omega | (simp only [List.length_nil]; omega)) (by unfold maxLen; first | omega | (simp only [List.length_nil]; omega)) (hP61.ownR (hP57.ownR hO54)) (hO61.rows fB_len) ?_
  intro q62 s62 hO62 hPr62 hN62
  refine Cm gg s62 [Ml 1 0,(2,Sn),(3,vS q62 ((b ++ numsL g.tree.l ++ putN g.tree.root ++ numsL g.vec.l ++ numsL g.leaves.l) ++ (putN ((stB g.part.x).length : Int))).length),(6,vS q57 (stB g.part.x).length)] [(1,0,cMV g)] fun _ _ => ?_
  have hl62 : (b ++ numsL g.tree.l ++ putN g.tree.root ++ numsL g.vec.l ++ numsL g.leaves.l ++ putN ((stB g.part.x).length : Int)).length ≤ (b ++ numsL g.tree.l ++ putN g.tree.root ++ numsL g.vec.l ++ numsL g.leaves.l).length + (putN ((stB g.part.x).length : Int)).length := by rw [List.length_append]; omega
  have hN62' := cat_new (hP57'.trans hP61) hN54' hN62
  have hP62' := hPr62.pres (hP57'.trans hP61) hN54'
  have hO62p := hPr62.ownR hd57 (hP61.ownR hO57)
  skip
  refine op_cat' (z := 1) (st := s62) (f := fB) (b := 1) (l := (b ++ numsL g.tree.l ++ putN g.tree.root ++ numsL g.vec.l ++ numsL g.leaves.l ++ putN ((stB g.part.x).length : Int))) (l2 := stB g.part.x) rfl rfl rfl rfl rfl rfl rfl (by decide) fB_len rfl rfl rfl rfl (by first | omega | (simp only [List.length_nil]; omega)) (by unfold maxLen; first | omega | (simp only [List.length_nil]; omega)) (hO62) (hO62p.rows fB_len) ?_
  intro q65 s65 hO65 hPr65 hN65
  refine Cm gg s65 [Ml 1 0,(2,Sn),(3,vS q65 ((b ++ numsL g.tree.l ++ putN g.tree.root ++ numsL g.vec.l ++ numsL g.leaves.l ++ putN ((stB g.part.x).length : Int)) ++ (stB g.part.x)).length)] [(1,0,cMV g)] fun _ _ => ?_
  have hl65 : (b ++ numsL g.tree.l ++ putN g.tree.root ++ numsL g.vec.l ++ numsL g.leaves.l ++ putN ((stB g.part.x).length : Int) ++ stB g.part.x).length ≤ (b ++ numsL g.tree.l ++ putN g.tree.root ++ numsL g.vec.l ++ numsL g.leaves.l ++ putN ((stB g.part.x).length : Int)).length + (stB g.part.x).length := by rw [List.length_append]; omega
  have hN65' := cat_new hP62' hN62' hN65
  have hP65' := hPr65.pres hP62' hN62'
  refine ⟨_,rfl,?_⟩
  refine ⟨_,Od rfl,?_⟩
  refine ⟨_,rfl,?_⟩
  refine ⟨_,rfl,(ac_spec_PutNum (g.marks.l.length : Int) s65).mono ?_⟩
  rintro _ s70 ⟨q70,rfl,hO70,hN70,hP70⟩
  have hn71 := putN_len (g.marks.l.length : Int)
  refine op_cat' (z := 1) (st := s70) (f := fB) (b := 1) (l := (b ++ numsL g.tree.l ++ putN g.tree.root ++ numsL g.vec.l ++ numsL g.leaves.l ++ putN ((stB g.part.x).length : Int) ++ stB g.part.x)) (l2 := putN (g.marks.l.length : Int)) rfl rfl rfl rfl rfl rfl rfl (by decide) fB_len rfl rfl rfl rfl (by first | omega | (simp only [List.length_nil]; omega)) (by unfold maxLen; first | omega | (simp only [List.length_nil]; omega)) (hP70.ownR hO65) (hO70.rows fB_len) ?_
  intro q71 s71 hO71 hPr71 hN71
  refine cxs ?_
  have hl71 : (b ++ numsL g.tree.l ++ putN g.tree.root ++ numsL g.vec.l ++ numsL g.leaves.l ++ putN ((stB g.part.x).length : Int) ++ stB g.part.x ++ putN (g.marks.l.length : Int)).length ≤ (b ++ numsL g.tree.l ++ putN g.tree.root ++ numsL g.vec.l ++ numsL g.leaves.l ++ putN ((stB g.part.x).length : Int) ++ stB g.part.x).length + (putN (g.marks.l.length : Int)).length := by rw [List.length_append]; omega
  have hN71' := cat_new (hP65'.trans hP70) hN65' hN71
  have hP71' := hPr71.pres (hP65'.trans hP70) hN65'
  have e71 : b ++ numsL g.tree.l ++ putN g.tree.root ++ numsL g.vec.l ++ numsL g.leaves.l ++ putN ((stB g.part.x).length : Int) ++ stB g.part.x ++ putN (g.marks.l.length : Int) = mgH g.x := by rw [hv1]; rfl
  have hO71m : OwnR s71 1 fB q71 (mgH g.x) := e71 ▸ hO71
  refine AW.cutM (gg) s71 [Ml 1 0,(2,Sn),(3,vS q71 (mgH g.x).length),(7,vI 0)] [(1,0,cMV g)] ⟨rfl,rfl,(show vS q71 ((b ++ numsL g.tree.l ++ putN g.tree.root ++ numsL g.vec.l ++ numsL g.leaves.l ++ putN ((stB g.part.x).length : Int) ++ stB g.part.x) ++ (putN (g.marks.l.length : Int))).length = vS q71 (mgH g.x).length by rw [e71]),rfl,trivial⟩ ⟨rfl,trivial⟩ rfl fun _ _ => ?_
  refine AW.loopM (fun z : Nat × Option Addr × List Int => [(1,vL 1 0 (0)),(2,.slice none 0 0),(3,vS z.2.1 z.2.2.length),(7,vI (z.1 : Int))]) (fun z : Nat × Option Addr × List Int => [(1,0,cMV g)]) (fun m (z : Nat × Option Addr × List Int) st' => m = g.marks.l.length - z.1 ∧ z.1 ≤ g.marks.l.length ∧ z.2.2 = mgH g.x ++ flsB (g.marks.l.take z.1) ∧ OwnR st' 1 fB z.2.1 z.2.2 ∧ New st.next z.2.1 ∧ Pres st st') (0,q71,mgH g.x) _ ⟨rfl,rfl,rfl,rfl,trivial⟩ ⟨rfl,trivial⟩ ⟨rfl,Nat.zero_le _,(List.append_nil _).symm,hO71m,hN71',hP71'⟩ ?_
  rintro m ⟨j,r,f⟩ ρ0 ff gg st' ⟨rfl,hj,hw,hOf,hNf,hPf⟩
  simp only at hj hw hOf hNf
  have hfl : f.length ≤ 100000000 + 10 * g.marks.l.length := by rw [hw,List.length_append]; have := fls_len g.marks.l j; have h9 : (mgH g.x).length ≤ 100000000 := hbH; omega
  refine ⟨_,rfl,?_⟩
  refine ⟨_,Od rfl,?_⟩
  iterate 2 refine ⟨_,rfl,?_⟩
  rintro (_|_) h76
  ·replace h76 : ¬ ((j : Int) < (g.marks.l.length : Int)) := of_decide_eq_false h76
   refine Cm gg st' [Ml 1 0,(2,Sn),(3,vS r f.length),(7,vI (j : Int)),(76,vB false)] [(1,0,cMV g)] fun _ _ => ?_
   have hw1 : f = mgB0 g.x := by rw [hw,show j = g.marks.l.length by omega,List.take_length]; rfl
   refine cxs ?_
   refine cxs ?_
   refine ⟨.inl rfl,_,rfl,r,?_⟩
   rw [← hw1]
   exact ⟨rfl,hOf,hNf,hPf⟩
  ·replace h76 : (j : Int) < (g.marks.l.length : Int) := of_decide_eq_true h76
   refine Cm gg st' [Ml 1 0,(2,Sn),(3,vS r f.length),(7,vI (j : Int)),(76,vB true)] [(1,0,cMV g)] fun _ _ => ?_
   refine cxs ?_
   refine ⟨_,rfl,?_⟩
   refine ⟨_,Od rfl,?_⟩
   refine op_at j (hPf.rows hR.marks) (by omega) rfl rfl rfl rfl rfl rfl rfl ?_
   intro x83 b83 d83 k83 hy83 hb83 hm83 hc83 ho83
   refine ⟨_,rfl,?_⟩
   refine ⟨_,op_ldc (i := 0) rfl rfl rfl rfl hm83 hc83 rfl rfl,?_⟩
   have hpa := putN_len x83.id
   refine ⟨_,rfl,(ac_spec_PutNum x83.id st').mono ?_⟩
   rintro _ s86 ⟨q86,rfl,hO86,hN86,hP86⟩
   refine op_cat' (z := 1) (st := s86) (f := fB) (b := 1) (l := f) (l2 := putN x83.id) rfl rfl rfl rfl rfl rfl rfl (by decide) fB_len rfl rfl rfl rfl (by first | omega | (simp only [List.length_nil]; omega)) (by unfold maxLen; first | omega | (simp only [List.length_nil]; omega)) (hP86.ownR hOf) (hO86.rows fB_len) ?_
   intro q87 s87 hO87 hPr87 hN87
   refine Cm gg s87 [Ml 1 0,(2,Sn),(3,vS q87 (f ++ (putN x83.id)).length),(7,vI (j : Int)),(76,vB true)] [(1,0,cMV g)] fun _ _ => ?_
   have hfa : (f ++ putN x83.id).length = f.length + (putN x83.id).length := List.length_append
   have hN87' := cat_new (hPf.trans hP86) hNf hN87
   have hP87' := hPr87.pres (hPf.trans hP86) hNf
   refine ⟨_,rfl,?_⟩
   refine ⟨_,Od rfl,?_⟩
   refine op_el j (hP87'.rows hR.marks) hy83 rfl rfl rfl rfl rfl rfl rfl ?_
   intro b92 d92 k92 hb92 hm92 hc92 ho92
   refine ⟨_,rfl,?_⟩
   refine ⟨_,op_ldc (i := 1) rfl rfl rfl rfl hm92 hc92 rfl rfl,?_⟩
   have hpb := putN_len x83.inc
   refine ⟨_,rfl,(ac_spec_PutNum x83.inc s87).mono ?_⟩
   rintro _ s95 ⟨q95,rfl,hO95,hN95,hP95⟩
   refine op_cat' (z := 1) (st := s95) (f := fB) (b := 1) (l := (f ++ putN x83.id)) (l2 := putN x83.inc) rfl rfl rfl rfl rfl rfl rfl (by decide) fB_len rfl rfl rfl rfl (by first | omega | (simp only [List.length_nil]; omega)) (by unfold maxLen; first | omega | (simp only [List.length_nil]; omega)) (hP95.ownR hO87) (hO95.rows fB_len) ?_
   intro q96 s96 hO96 hPr96 hN96
   refine Cm gg s96 [Ml 1 0,(2,Sn),(3,vS q96 ((f ++ putN x83.id) ++ (putN x83.inc)).length),(7,vI (j : Int)),(76,vB true)] [(1,0,cMV g)] fun _ _ => ?_
   have ew78 : IntKind.wrap .i64 ((j : Int) + (1)) = ((j + 1 : Nat) : Int) := (wrap_i64 (by omega) (by omega)).trans (by omega)
   refine ⟨_,rfl,?_⟩
   exact ⟨(j + 1,q96,f ++ putN x83.id ++ putN x83.inc),g.marks.l.length - (j + 1),by omega,⟨rfl,rfl,rfl,congrArg (Value.int .i64) ew78,trivial⟩,⟨rfl,trivial⟩,rfl,by first | omega | (simp only; omega),by rw [show flsB (g.marks.l.take (j + 1)) = flsB (g.marks.l.take j) ++ flB x83 from fm_succ hy83,← List.append_assoc,← hw,List.append_assoc]; rfl,hO96,cat_new (hP87'.trans hP95) hN87' hN96,hPr96.pres (hP87'.trans hP95) hN87'⟩
 ·replace h23 : (i : Int) < ((mgN g.x).length : Int) := of_decide_eq_true h23
  refine Cm gg st' [Ml 1 0,(2,Sn),(3,vS q b.length),(4,vS q19 (mgN g.x).length),(5,vI (i : Int)),(23,vB true)] [(1,0,cMV g)] fun _ _ => ?_
  refine cxs ?_
  refine op_at i (hO5.rows fI_len) (by omega) rfl rfl rfl rfl rfl rfl rfl ?_
  intro x29 b29 d29 k29 hy29 hb29 hm29 hc29 ho29
  refine ⟨_,op_ldc (i := 0) rfl rfl rfl rfl hm29 hc29 rfl rfl,?_⟩
  have hpn := putN_len x29
  refine ⟨_,rfl,(ac_spec_PutNum x29 st').mono ?_⟩
  rintro _ s31 ⟨q31,rfl,hO31,hN31,hP31⟩
  refine op_cat' (z := 1) (st := s31) (f := fB) (b := 1) (l := b) (l2 := putN x29) rfl rfl rfl rfl rfl rfl rfl (by decide) fB_len rfl rfl rfl rfl (by first | omega | (simp only [List.length_nil]; omega)) (by unfold maxLen; first | omega | (simp only [List.length_nil]; omega)) (hP31.ownR hO) (hO31.rows fB_len) ?_
  intro q32 s32 hO32 hPr32 hN32
  refine Cm gg s32 [Ml 1 0,(2,Sn),(3,vS q32 (b ++ (putN x29)).length),(4,vS q19 (mgN g.x).length),(5,vI (i : Int)),(23,vB true)] [(1,0,cMV g)] fun _ _ => ?_
  have ew25 : IntKind.wrap .i64 ((i : Int) + (1)) = ((i + 1 : Nat) : Int) := (wrap_i64 (by omega) (by omega)).trans (by omega)
  refine ⟨_,rfl,?_⟩
  exact ⟨(i + 1,q32,b ++ putN x29),5 - (i + 1),by omega,⟨rfl,rfl,rfl,rfl,congrArg (Value.int .i64) ew25,trivial⟩,⟨rfl,trivial⟩,rfl,by first | omega | (simp only; omega),by rw [numsB_succ hy29,← List.append_assoc,← hv],hO32,cat_new (hP.trans hP31) hN hN32,hPr32.ownR hd5 (hP31.ownR hO5),cat_dis hd5 (hP31.ownR hO5).old hN32,hPr32.pres (hP.trans hP31) hN⟩
theorem ac_spec_MsgBytes (g : MV) (st : St) (hR : RdM st g) (hb : bigM g.x) : C 58 [.agg #[vI g.kind,vI g.frm,vI g.to,vI g.num,vI g.hi,vS g.tree.p g.tree.l.length,vI g.tree.root,vS g.vec.p g.vec.l.length,vS g.leaves.p g.leaves.l.length,vS g.part.p g.part.x.items.length,vS g.part.q g.part.x.floors.length,vS g.marks.p g.marks.l.length]] st (fun v s => ∃ q,v = vS q (mgBz g.x).length ∧ OwnR s 1 fB q (mgBz g.x) ∧ New st.next q ∧ Pres st s) := by
 refine AC.enterX (i := ⟨[1],[1],[0,1,2,3,6],[]⟩) [] Try.func58 rfl rfl (by kernel_rfl) (by kernel_rfl) Try.ntmps58 (Lb rfl) rfl ?_
 refine ⟨_,rfl,?_⟩
 refine Cm 1 st [Ml 1 0,(2,Sn)] [(1,0,cMV g)] fun _ _ => ?_
 refine ⟨_,op_ldo (v := (vMV g)) rfl rfl rfl rfl,?_⟩
 refine ⟨_,rfl,(ac_spec_MsgOk g st hR hb).mono ?_⟩
 rintro _ st ⟨x5,rfl,h5,rfl⟩
 rcases x5 with _|_
 ·replace h5 := fun k => Bool.false_ne_true (h5.2 k)
  refine ⟨_,rfl,?_⟩
  refine Cm 1 st [Ml 1 0,(2,Sn),(6,vB true)] [(1,0,cMV g)] fun _ _ => ?_
  refine op_nilK (z := 1) (f := fB) rfl rfl rfl rfl (by decide) rfl ?_
  intro q7 s7 hO7 hP7 hN7
  refine cxs ?_
  refine ⟨.inl rfl,_,rfl,q7,?_⟩
  rw [show mgBz g.x = [] from if_neg h5]
  exact ⟨rfl,hO7,hN7,hP7⟩
 ·replace h5 := h5.1 rfl
  refine ⟨_,rfl,?_⟩
  refine Cm 1 st [Ml 1 0,(2,Sn),(6,vB false)] [(1,0,cMV g)] fun _ _ => ?_
  refine cxs ?_
  refine ⟨_,op_ldo (v := (vMV g)) rfl rfl rfl rfl,?_⟩
  refine ⟨_,rfl,(ac_spec_l10Body g st hR hb (show stateOk g.part.x from h5.2.2.2.2.2.1)).mono ?_⟩
  rintro _ s9 ⟨q9,rfl,hO9,hN9,hP9⟩
  refine Cm 1 s9 [(2,Sn),(3,vS q9 (mgB0 g.x).length)] [] fun _ _ => ?_
  have hbl := mgB0_len hb (show stateOk g.x.part from h5.2.2.2.2.2.1)
  refine ⟨_,rfl,(ac_spec_l10Sum q9 (mgB0 g.x) s9 (hO9.rows fB_len) (mgB0_ok _) (by omega)).mono ?_⟩
  rintro _ s12 ⟨q12,rfl,hO12,hN12,hP12⟩
  have h4 : (crcB (mgB0 g.x)).length = 4 := rfl
  refine op_cat' (z := 1) (st := s12) (f := fB) (b := 1) (l := (mgB0 g.x)) (l2 := crcB (mgB0 g.x)) rfl rfl rfl rfl rfl rfl rfl (by decide) fB_len rfl rfl rfl rfl (by first | omega | (simp only [List.length_nil]; omega)) (by unfold maxLen; first | omega | (simp only [List.length_nil]; omega)) (hP12.ownR hO9) (hO12.rows fB_len) ?_
  intro q13 s13 hO13 hPr13 hN13
  refine cxs ?_
  refine ⟨.inl rfl,_,rfl,q13,?_⟩
  rw [show mgBz g.x = mgB g.x from if_pos h5]
  exact ⟨rfl,hO13,cat_new (hP9.trans hP12) hN9 hN13,hPr13.pres (hP9.trans hP12) hN9⟩
theorem ac_impl_MsgBytes (g : MV) (st : St) (hR : RdM st g) (hb : bigM g.x) : C 53 [.agg #[vI g.kind,vI g.frm,vI g.to,vI g.num,vI g.hi,vS g.tree.p g.tree.l.length,vI g.tree.root,vS g.vec.p g.vec.l.length,vS g.leaves.p g.leaves.l.length,vS g.part.p g.part.x.items.length,vS g.part.q g.part.x.floors.length,vS g.marks.p g.marks.l.length]] st (fun v s => ∃ q,v = vS q (mgBz g.x).length ∧ OwnR s 1 fB q (mgBz g.x) ∧ New st.next q ∧ Pres st s) := by
 refine AC.enterX (i := ⟨[1,6],[1,6,10,15,18,21,24,27,30,31,34,35,38,41,48,54,62,65],[0,1,2,3,4,6,9,55,56,57,58],[(4,[2,3,4,5,6,7,8,9,10,11,12,13,14,15,16,17,18,19,20,21,22,23,24,25,26,27,28,29,30,31,32,33,34,35,36,37,38,0,1,39,40,41])]⟩) [(2004,[],[1]),(4,[2,5,8,11,14,18,22,25,28,31,37],[1,4,7,10,13,17,21,24,27,34]),(8,[3],[5])] Try.func53 rfl rfl (by kernel_rfl) (by kernel_rfl) Try.ntmps53 (Lb rfl) rfl ?_
 refine ⟨_,rfl,?_⟩
 refine Cm 1 st [Ml 1 0,(2,Sn)] [(1,0,cMV g)] fun _ _ => ?_
 refine ⟨_,op_ldo (v := (vMV g)) rfl rfl rfl rfl,?_⟩
 refine ⟨_,rfl,(ac_impl_MsgOk g st hR hb).mono ?_⟩
 rintro _ st ⟨x8,rfl,h8,rfl⟩
 rcases x8 with _|_
 ·replace h8 := fun k => Bool.false_ne_true (h8.2 k)
  refine ⟨_,rfl,?_⟩
  refine Cm 1 st [Ml 1 0,(2,Sn),(9,vB true)] [(1,0,cMV g)] fun _ _ => ?_
  refine cxs ?_
  refine ⟨.inl rfl,_,rfl,none,?_⟩
  rw [show mgBz g.x = [] from if_neg h8]
  exact ⟨rfl,OwnR.nil,New.none,Pres.refl _⟩
 ·replace h8 := h8.1 rfl
  refine ⟨_,rfl,?_⟩
  refine Cm 1 st [Ml 1 0,(2,Sn),(9,vB false)] [(1,0,cMV g)] fun _ _ => ?_
  refine cxs ?_
  refine ⟨_,rfl,?_⟩
  refine ⟨_,Od rfl,?_⟩
  refine ⟨_,rfl,(ac_impl_StateBytes g.part st hR.part hb.part (show stateOk g.part.x from h8.2.2.2.2.2.1)).mono ?_⟩
  rintro _ s12 ⟨q12,rfl,hO12,hN12,hP12⟩
  refine Cm 1 s12 [Ml 1 0,(2,Sn),(3,vS q12 (stB g.part.x).length)] [(1,0,cMV g)] fun _ _ => ?_
  have hbH := mgH_len hb (show stateOk g.x.part from h8.2.2.2.2.2.1)
  refine ⟨fun _ => False,?_⟩
  refine ⟨_,rfl,?_⟩
  refine ⟨_,Od rfl,?_⟩
  refine ⟨ld_own rfl rfl rfl,?_⟩
  refine ⟨_,rfl,(ac_impl_PutNum g.kind s12).mono ?_⟩
  rintro _ s17 ⟨q17,rfl,hO17,hN17,hP17⟩
  refine ⟨fun _ h => h.elim,?_⟩
  refine ⟨_,rfl,?_⟩
  refine ⟨_,Od rfl,?_⟩
  refine ⟨ld_own rfl rfl rfl,?_⟩
  refine ⟨_,rfl,(ac_impl_PutNum g.frm s17).mono ?_⟩
  rintro _ s20 ⟨q20,rfl,hO20,hN20,hP20⟩
  refine ⟨fun _ h => h.elim,?_⟩
  refine ⟨_,rfl,?_⟩
  refine ⟨_,Od rfl,?_⟩
  refine ⟨ld_own rfl rfl rfl,?_⟩
  refine ⟨_,rfl,(ac_impl_PutNum g.to s20).mono ?_⟩
  rintro _ s23 ⟨q23,rfl,hO23,hN23,hP23⟩
  refine ⟨fun _ h => h.elim,?_⟩
  refine ⟨_,rfl,?_⟩
  refine ⟨_,Od rfl,?_⟩
  refine ⟨ld_own rfl rfl rfl,?_⟩
  refine ⟨_,rfl,(ac_impl_PutNum g.num s23).mono ?_⟩
  rintro _ s26 ⟨q26,rfl,hO26,hN26,hP26⟩
  refine ⟨fun _ h => h.elim,?_⟩
  refine ⟨_,rfl,?_⟩
  refine ⟨_,Od rfl,?_⟩
  refine ⟨ld_own rfl rfl rfl,?_⟩
  refine ⟨_,rfl,(ac_impl_PutNum g.hi s26).mono ?_⟩
  rintro _ s29 ⟨q29,rfl,hO29,hN29,hP29⟩
  refine ⟨fun _ h => h.elim,?_⟩
  iterate 2 refine ⟨_,rfl,?_⟩
  refine ⟨_,Od rfl,?_⟩
  refine ⟨ld_own rfl rfl rfl,?_⟩
  refine owE_cut [(1,vL 1 0 (0)),(2,.slice none 0 0),(3,vS q12 (stB g.part.x).length),(17,vS q17 (putN g.kind).length),(20,vS q20 (putN g.frm).length),(23,vS q23 (putN g.to).length),(26,vS q26 (putN g.num).length),(29,vS q29 (putN g.hi).length),(32,vS g.tree.p g.tree.l.length)] ⟨rfl,rfl,rfl,rfl,rfl,rfl,rfl,rfl,rfl,trivial⟩ fun _ => ?_
  refine ⟨_,rfl,(ac_impl_putNums g.tree.p g.tree.l s29 ((((((hP12.trans hP17).trans hP20).trans hP23).trans hP26).trans hP29).rows hR.tree) (hb.tree)).mono ?_⟩
  rintro _ s33 ⟨q33,rfl,hO33,hN33,hP33⟩
  refine ⟨fun _ h => h.elim,?_⟩
  iterate 2 refine ⟨_,rfl,?_⟩
  refine ⟨_,Od rfl,?_⟩
  refine ⟨ld_own rfl rfl rfl,?_⟩
  refine ⟨_,rfl,(ac_impl_PutNum g.tree.root s33).mono ?_⟩
  rintro _ s37 ⟨q37,rfl,hO37,hN37,hP37⟩
  refine ⟨fun _ h => h.elim,?_⟩
  refine ⟨_,rfl,?_⟩
  refine ⟨_,Od rfl,?_⟩
  refine ⟨ld_own rfl rfl rfl,?_⟩
  refine ⟨_,rfl,(ac_impl_putNums g.vec.p g.vec.l s37 ((((((((hP12.trans hP17).trans hP20).trans hP23).trans hP26).trans hP29).trans hP33).trans hP37).rows hR.vec) (hb.vec)).mono ?_⟩
  rintro _ s40 ⟨q40,rfl,hO40,hN40,hP40⟩
  refine ⟨fun _ h => h.elim,?_⟩
  refine ⟨_,rfl,?_⟩
  refine ⟨_,Od rfl,?_⟩
  refine ⟨ld_own rfl rfl rfl,?_⟩
  refine ⟨_,rfl,(ac_impl_putNums g.leaves.p g.leaves.l s40 (((((((((hP12.trans hP17).trans hP20).trans hP23).trans hP26).trans hP29).trans hP33).trans hP37).trans hP40).rows hR.leaves) (hb.leaves)).mono ?_⟩
  rintro _ s43 ⟨q43,rfl,hO43,hN43,hP43⟩
  refine ⟨fun _ h => h.elim,?_⟩
  refine ⟨_,rfl,?_⟩
  refine ⟨_,rfl,(ac_impl_PutNum ((stB g.part.x).length : Int) s43).mono ?_⟩
  rintro _ s46 ⟨q46,rfl,hO46,hN46,hP46⟩
  refine ⟨fun _ h => h.elim,?_⟩
  refine ⟨_,rfl,?_⟩
  refine ⟨_,Od rfl,?_⟩
  refine ⟨ld_own rfl rfl rfl,?_⟩
  refine ⟨_,rfl,?_⟩
  refine ⟨_,rfl,(ac_impl_PutNum (g.marks.l.length : Int) s46).mono ?_⟩
  rintro _ s51 ⟨q51,rfl,hO51,hN51,hP51⟩
  refine op_litI (k := .u8) (l := [82,75]) rfl rfl rfl rfl rfl rfl (by decide) ?_
  intro q13 s13 hO13 hP13 hN13
  refine ⟨fun _ h => h.elim,?_⟩
  refine ⟨_,op_fz (l := [82,75]) rfl rfl hO13 (by decide) rfl rfl,?_⟩
  have g51 := hP13
  have g46 := hP51.trans g51
  have g43 := hP46.trans g46
  have g40 := hP43.trans g43
  have g37 := hP40.trans g40
  have g33 := hP37.trans g37
  have g29 := hP33.trans g33
  have g26 := hP29.trans g29
  have g23 := hP26.trans g26
  have g20 := hP23.trans g23
  have g17 := hP20.trans g20
  have g12 := hP17.trans g17
  have hfl : fl [⟨q13,[82,75]⟩,⟨q17,putN g.kind⟩,⟨q20,putN g.frm⟩,⟨q23,putN g.to⟩,⟨q26,putN g.num⟩,⟨q29,putN g.hi⟩,⟨q33,numsL g.tree.l⟩,⟨q37,putN g.tree.root⟩,⟨q40,numsL g.vec.l⟩,⟨q43,numsL g.leaves.l⟩,⟨q46,putN ((stB g.part.x).length : Int)⟩,⟨q12,stB g.part.x⟩,⟨q51,putN (g.marks.l.length : Int)⟩] = mgH g.x := by simp [fl,mgH,numsB,mgN]
  refine op_litR [⟨q13,[82,75]⟩,⟨q17,putN g.kind⟩,⟨q20,putN g.frm⟩,⟨q23,putN g.to⟩,⟨q26,putN g.num⟩,⟨q29,putN g.hi⟩,⟨q33,numsL g.tree.l⟩,⟨q37,putN g.tree.root⟩,⟨q40,numsL g.vec.l⟩,⟨q43,numsL g.leaves.l⟩,⟨q46,putN ((stB g.part.x).length : Int)⟩,⟨q12,stB g.part.x⟩,⟨q51,putN (g.marks.l.length : Int)⟩] rfl rfl rfl (by decide) rfl rfl rfl (by decide) ?_
  intro q52 s52 hO52 hP52 hN52
  refine ⟨_,rfl,(ac_impl_joined q52 [⟨q13,[82,75]⟩,⟨q17,putN g.kind⟩,⟨q20,putN g.frm⟩,⟨q23,putN g.to⟩,⟨q26,putN g.num⟩,⟨q29,putN g.hi⟩,⟨q33,numsL g.tree.l⟩,⟨q37,putN g.tree.root⟩,⟨q40,numsL g.vec.l⟩,⟨q43,numsL g.leaves.l⟩,⟨q46,putN ((stB g.part.x).length : Int)⟩,⟨q12,stB g.part.x⟩,⟨q51,putN (g.marks.l.length : Int)⟩] s52 (hO52.rows cRV_len) (fun r hr => by
  simp only [List.mem_cons,List.not_mem_nil,or_false] at hr
  rcases hr with rfl | rfl | rfl | rfl | rfl | rfl | rfl | rfl | rfl | rfl | rfl | rfl | rfl
  ·exact hP52.rows (hO13.rows fB_len)
  ·exact (g17.trans hP52).rows (hO17.rows fB_len)
  ·exact (g20.trans hP52).rows (hO20.rows fB_len)
  ·exact (g23.trans hP52).rows (hO23.rows fB_len)
  ·exact (g26.trans hP52).rows (hO26.rows fB_len)
  ·exact (g29.trans hP52).rows (hO29.rows fB_len)
  ·exact (g33.trans hP52).rows (hO33.rows fB_len)
  ·exact (g37.trans hP52).rows (hO37.rows fB_len)
  ·exact (g40.trans hP52).rows (hO40.rows fB_len)
  ·exact (g43.trans hP52).rows (hO43.rows fB_len)
  ·exact (g46.trans hP52).rows (hO46.rows fB_len)
  ·exact (g12.trans hP52).rows (hO12.rows fB_len)
  ·exact (g51.trans hP52).rows (hO51.rows fB_len)
  ) (by show (13 : Nat) ≤ 1048576; omega) (by rw [hfl]; omega)).mono ?_⟩
  rintro _ s53 ⟨q53,rfl,hO53,hN53,hP53⟩
  refine AW.cutM (1) s53 [Ml 1 0,(2,Sn),(4,vS q53 (mgH g.x).length)] [(1,0,cMV g)] ⟨rfl,rfl,congrArg (fun l : List Int => vS q53 l.length) hfl,trivial⟩ ⟨rfl,trivial⟩ rfl fun _ _ => ?_
  have hO53 : OwnR s53 1 fB q53 (mgH g.x) := hfl ▸ hO53
  have hP53a := ((hP12.trans g12).trans hP52)
  have hN53' := hN53.le hP53a.1
  have hP53' := hP53a.trans hP53
  refine ⟨_,rfl,?_⟩
  refine ⟨_,Od rfl,?_⟩
  refine ⟨_,rfl,?_⟩
  refine Cm 1 s53 [(2,Sn),(4,vS q53 (mgH g.x).length),(55,vS g.marks.p g.marks.l.length),(56,vI (g.marks.l.length : Int)),(57,vI 0)] [] fun _ _ => ?_
  refine AW.loopM (fun z : Nat × Option Addr × List Int => [(2,.slice none 0 0),(4,vS z.2.1 z.2.2.length),(55,vS g.marks.p g.marks.l.length),(56,vI (g.marks.l.length : Int)),(57,vI (z.1 : Int))]) (fun z : Nat × Option Addr × List Int => []) (fun m (z : Nat × Option Addr × List Int) st' => m = g.marks.l.length - z.1 ∧ z.1 ≤ g.marks.l.length ∧ z.2.2 = mgH g.x ++ flsB (g.marks.l.take z.1) ∧ OwnR st' 1 fB z.2.1 z.2.2 ∧ New st.next z.2.1 ∧ Pres st st') (0,q53,mgH g.x) _ ⟨rfl,rfl,rfl,rfl,rfl,trivial⟩ trivial ⟨rfl,Nat.zero_le _,(List.append_nil _).symm,hO53,hN53',hP53'⟩ ?_
  rintro m ⟨j,r,f⟩ ρ0 ff gg st' ⟨rfl,hj,hw,hOf,hNf,hPf⟩
  simp only at hj hw hOf hNf
  have hb6 : g.marks.l.length ≤ 1048576 := hb.marks
  have hfl2 : f.length ≤ 100000000 + 10 * g.marks.l.length := by rw [hw,List.length_append]; have := fls_len g.marks.l j; omega
  refine ⟨_,rfl,?_⟩
  rintro (_|_) h58
  ·replace h58 : ¬ ((j : Int) < (g.marks.l.length : Int)) := of_decide_eq_false h58
   refine Cm gg st' [(2,Sn),(4,vS r f.length),(55,vS g.marks.p g.marks.l.length),(56,vI (g.marks.l.length : Int)),(57,vI (j : Int)),(58,vB false)] [] fun _ _ => ?_
   have hw1 : f = mgB0 g.x := by rw [hw,show j = g.marks.l.length by omega,List.take_length]; rfl
   have hO1 : OwnR st' 1 fB r (mgB0 g.x) := hw1 ▸ hOf
   have hbl := mgB0_len hb (show stateOk g.x.part from h8.2.2.2.2.2.1)
   have h4 : (crcB (mgB0 g.x)).length = 4 := rfl
   subst hw1
   refine cxs ?_
   refine ⟨_,rfl,(ac_impl_crcBytes r (mgB0 g.x) st' (hO1.rows fB_len) (mgB0_ok _) (by omega)).mono ?_⟩
   rintro _ s73 ⟨q73,rfl,hO73,hN73,hP73⟩
   have hfz : fl [⟨r,mgB0 g.x⟩,⟨q73,crcB (mgB0 g.x)⟩] = mgB g.x := by simp [fl,mgB]
   have hbz := mgB_len hb (show stateOk g.x.part from h8.2.2.2.2.2.1)
   refine op_litR [⟨r,mgB0 g.x⟩,⟨q73,crcB (mgB0 g.x)⟩] rfl rfl rfl (by decide) rfl rfl rfl (by decide) ?_
   intro q74 s74 hO74 hP74 hN74
   refine ⟨_,rfl,(ac_impl_joined q74 [⟨r,mgB0 g.x⟩,⟨q73,crcB (mgB0 g.x)⟩] s74 (hO74.rows cRV_len) (fun r hr => by
  simp only [List.mem_cons,List.not_mem_nil,or_false] at hr
  rcases hr with rfl | rfl
  ·exact (hP73.trans hP74).rows (hO1.rows fB_len)
  ·exact hP74.rows (hO73.rows fB_len)) (by show (2 : Nat) ≤ 1048576; omega) (by rw [hfz]; omega)).mono ?_⟩
   rintro _ s75 ⟨q75,rfl,hO75,hN75,hP75⟩
   refine cxs ?_
   refine ⟨.inl rfl,_,rfl,q75,?_⟩
   rw [show mgBz g.x = mgB g.x from if_pos h8,← hfz]
   exact ⟨rfl,hO75,hN75.le ((hPf.trans hP73).trans hP74).1,((hPf.trans hP73).trans hP74).trans hP75⟩
  ·replace h58 : (j : Int) < (g.marks.l.length : Int) := of_decide_eq_true h58
   refine Cm gg st' [(2,Sn),(4,vS r f.length),(55,vS g.marks.p g.marks.l.length),(56,vI (g.marks.l.length : Int)),(57,vI (j : Int)),(58,vB true)] [] fun _ _ => ?_
   refine cxs ?_
   refine op_at j (hPf.rows hR.marks) (by omega) rfl rfl rfl rfl rfl rfl rfl ?_
   intro x59 b59 d59 k59 hy59 hb59 hm59 hc59 ho59
   refine ⟨_,op_lda rfl rfl rfl rfl rfl hm59 hc59 rfl,?_⟩
   refine ⟨_,rfl,?_⟩
   refine ⟨_,Os rfl,?_⟩
   refine Cm (gg + 1) st' [(2,Sn),(4,vS r f.length),Ml 6 gg,(55,vS g.marks.p g.marks.l.length),(56,vI (g.marks.l.length : Int)),(57,vI (j : Int)),(58,vB true)] [(6,gg,[vI x59.id,vI x59.inc])] fun _ _ => ?_
   refine ⟨_,rfl,?_⟩
   refine ⟨_,Od rfl,?_⟩
   refine ⟨_,rfl,(ac_impl_PutNum x59.id st').mono ?_⟩
   rintro _ s64 ⟨q64,rfl,hO64,hN64,hP64⟩
   refine ⟨hP64.2,?_⟩
   refine ⟨_,rfl,?_⟩
   refine ⟨_,Od rfl,?_⟩
   refine ⟨ld_own rfl rfl rfl,?_⟩
   refine ⟨_,rfl,(ac_impl_PutNum x59.inc s64).mono ?_⟩
   rintro _ s67 ⟨q67,rfl,hO67,hN67,hP67⟩
   have hpa := putN_len x59.id
   have hpb := putN_len x59.inc
   have g64 := hP64.trans hP67
   have hfn : fl [⟨r,f⟩,⟨q64,putN x59.id⟩,⟨q67,putN x59.inc⟩] = f ++ flB x59 := by simp [fl,flB]
   have hil := flB_len x59
   refine op_litR [⟨r,f⟩,⟨q64,putN x59.id⟩,⟨q67,putN x59.inc⟩] rfl rfl rfl (by decide) rfl rfl rfl (by decide) ?_
   intro q68 s68 hO68 hP68 hN68
   refine ⟨_,rfl,(ac_impl_joined q68 [⟨r,f⟩,⟨q64,putN x59.id⟩,⟨q67,putN x59.inc⟩] s68 (hO68.rows cRV_len) (fun r hr => by
  simp only [List.mem_cons,List.not_mem_nil,or_false] at hr
  rcases hr with rfl | rfl | rfl
  ·exact (g64.trans hP68).rows (hOf.rows fB_len)
  ·exact (hP67.trans hP68).rows (hO64.rows fB_len)
  ·exact hP68.rows (hO67.rows fB_len)) (by show (3 : Nat) ≤ 1048576; omega) (by rw [hfn,List.length_append]; omega)).mono ?_⟩
   rintro _ s69 ⟨q69,rfl,hO69,hN69,hP69⟩
   refine Cm (gg + 1) s69 [(2,Sn),(4,vS q69 (fl [⟨r,f⟩,⟨q64,putN x59.id⟩,⟨q67,putN x59.inc⟩]).length),Ml 6 gg,(55,vS g.marks.p g.marks.l.length),(56,vI (g.marks.l.length : Int)),(57,vI (j : Int)),(58,vB true)] [(6,gg,[vI x59.id,vI x59.inc])] fun _ _ => ?_
   have ew70 : IntKind.wrap .i64 ((j : Int) + (1)) = ((j + 1 : Nat) : Int) := (wrap_i64 (by omega) (by omega)).trans (by omega)
   refine ⟨_,rfl,?_⟩
   exact ⟨(j + 1,q69,fl [⟨r,f⟩,⟨q64,putN x59.id⟩,⟨q67,putN x59.inc⟩]),g.marks.l.length - (j + 1),by omega,⟨rfl,rfl,rfl,rfl,congrArg (Value.int .i64) ew70,trivial⟩,trivial,rfl,by first | omega | (simp only; omega),by rw [show flsB (g.marks.l.take (j + 1)) = flsB (g.marks.l.take j) ++ flB x59 from fm_succ hy59,← List.append_assoc,← hw]; exact hfn,hO69,hN69.le ((hPf.trans g64).trans hP68).1,((hPf.trans g64).trans hP68).trans hP69⟩
theorem and255 (x : Int) : 0 ≤ bits .and .i64 x 255 ∧ bits .and .i64 x 255 < 256 := by
 simp only [bits,BitVec.toNat_and]
 have h : (BitVec.ofInt IntKind.i64.bits 255).toNat = 255 := by decide
 rw [h]
 have h2 : (BitVec.ofInt IntKind.i64.bits x).toNat &&& 255 ≤ 255 := Nat.and_le_right
 rw [wrap_i64 (by omega) (by omega)]
 omega
theorem op_and255 {P : Program} {ls : List Tmp} {call : ACallT} {o : Oper} {e : Operand → Value} {lo : Lo} {st : St} {K : Value × Lo × St → Prop} {t ty : TypeId} {x y : Operand} {a : Int} (ho : o.op = .binOp .and t x y ty) (hx : e x = .int .i64 a) (hy : e y = .int .i64 255)
  (hK : ∀ r,0 ≤ r → r < 256 → K (.int .i64 r,lo,st)) : ∃ r,aoper P ls call o e lo st = some r ∧ K r := by
 refine ⟨_,?_,hK (bits .and .i64 a 255) (and255 a).1 (and255 a).2⟩
 obtain ⟨d,op,ty,pos,after,gd⟩ := o
 simp only at ho
 subst ho
 simp [aoper,rop,hx,hy,abin,aint]
def Cur (st : St) (c : Nat) (p : Option Addr) (bs : List Int) : Prop := c < st.next ∧ ∃ (z : Nat) (i : Nat) (h : Int),st.mem c = some ⟨true,z,[.slice p bs.length bs.length,.int .i64 i,.int .i64 h]⟩ ∧ Ints st .u8 p bs ∧ (bs.length = 0 ∨ ∀ q,p = some q → q.block ≠ c) ∧ i ≤ bs.length
def PresC (c : Nat) (st st' : St) : Prop := st.next ≤ st'.next ∧ ∀ a,a < st.next → a ≠ c → st'.mem a = st.mem a
theorem PresC.refl (c : Nat) (st : St) : PresC c st st := ⟨Nat.le_refl _,fun _ _ _ => rfl⟩
theorem PresC.trans {c : Nat} {x y z : St} (h : PresC c x y) (k : PresC c y z) : PresC c x z := ⟨Nat.le_trans h.1 k.1,fun a ha hc => (k.2 a (Nat.lt_of_lt_of_le ha h.1) hc).trans (h.2 a ha hc)⟩
theorem PresC.ints {c : Nat} {st st' : St} {k : IntKind} {p : Option Addr} {l : List Int} (h : PresC c st st') (hi : Ints st k p l) (hp : l.length = 0 ∨ ∀ q,p = some q → q.block ≠ c) : Ints st' k p l := by
 rcases hi with hi | ⟨b,off,blk,rfl,hm,hb,hc⟩
 ·exact .inl hi
 rcases hp with h0 | hp
 ·exact .inl h0
 ·exact .inr ⟨b,off,blk,rfl,(h.2 b hb (hp _ rfl)).trans hm,Nat.lt_of_lt_of_le hb h.1,hc⟩
theorem PresC.own {c : Nat} {st st' : St} {k : IntKind} {p : Option Addr} {l : List Int} (h : PresC c st st') (hi : Own st k p l) (hp : ∀ q,p = some q → q.block ≠ c) : Own st' k p l := by
 rcases hi with ⟨rfl,rfl⟩ | ⟨a,rfl,ha,hm⟩
 ·exact .inl ⟨rfl,rfl⟩
 ·exact .inr ⟨a,rfl,Nat.lt_of_lt_of_le ha h.1,(h.2 a ha (hp _ rfl)).trans hm⟩
theorem Pres.c {c : Nat} {st st' : St} (h : Pres st st') : PresC c st st' := ⟨h.1,fun a ha _ => h.2 a ha⟩
theorem Cur.pres {c : Nat} {st st' : St} {bs : List Int} {p : Option Addr} (h : Pres st st') (hc : Cur st c p bs) : Cur st' c p bs := by
 obtain ⟨h1,z,i,x,hm,hI,hp,hi⟩ := hc
 exact ⟨Nat.lt_of_lt_of_le h1 h.1,z,i,x,(h.2 c h1).trans hm,h.ints hI,hp,hi⟩
theorem Cur.grow {c : Nat} {p q : Option Addr} {st0 st1 st2 : St} {bs : List Int} (h0 : Cur st0 c p bs) (h1 : PresC c st0 st1) (hc : Cur st1 c p bs) (h2 : ∀ a,a < st1.next → (∀ r,q = some r → a ≠ r.block) → st2.mem a = st1.mem a) (hn : st1.next ≤ st2.next) (hq : ∀ r,q = some r → st0.next ≤ r.block) : Cur st2 c p bs := by
 obtain ⟨hlt,_,_,_,_,hI,hp,_⟩ := h0
 obtain ⟨hl,z,i,h,hm,_,_,hi⟩ := hc
 have hP : PresC c st0 st2 := ⟨Nat.le_trans h1.1 hn,fun a ha hne => (h2 a (Nat.lt_of_lt_of_le ha h1.1) fun r hr he => by have := hq r hr; omega).trans (h1.2 a ha hne)⟩
 exact ⟨Nat.lt_of_lt_of_le hl hn,z,i,h,(h2 c hl fun r hr he => by have := hq r hr; omega).trans hm,hP.ints hI hp,hp,hi⟩
theorem ac_l1Byte (c : Nat) (p : Option Addr) (bs : List Int) (st : St) (hc : Cur st c p bs) (hs : bs.length < 1099511627776) : C 115 [.pointer (some ⟨c,0,none⟩)] st (fun v s => ∃ r,v = .int .i64 r ∧ 0 ≤ r ∧ r < 256 ∧ Cur s c p bs ∧ PresC c st s) := by
 obtain ⟨hlt,z,i,h,hm,hI,hp,hi⟩ := hc
 refine AC.enterX (i := ⟨[],[],[0,2,3,34],[]⟩) [(2,[],[]),(3,[],[]),(4,[],[])] Try.func115 rfl rfl (by kernel_rfl) (by kernel_rfl) Try.ntmps115 (Lb rfl) rfl ?_
 refine Cu lo0 st [(0,vP c 0)] fun _ => ?_
 refine ⟨_,rfl,?_⟩
 refine ⟨_,rfl,?_⟩
 refine ⟨_,op_ld rfl rfl rfl rfl hm rfl,?_⟩
 refine ⟨_,rfl,?_⟩
 refine ⟨_,rfl,?_⟩
 refine ⟨_,rfl,?_⟩
 refine ⟨_,rfl,?_⟩
 refine op_stc rfl rfl rfl rfl rfl rfl rfl hm rfl (Lb rfl) ?_
 intro st1 hm1 hn1 hk1
 obtain ⟨h1,hm1⟩ : ∃ h1,st1.mem c = some ⟨true,z,[.slice p bs.length bs.length,.int .i64 i,.int .i64 h1]⟩ := ⟨_,hm1⟩
 have hP1 : PresC c st st1 := ⟨Nat.le_of_eq hn1.symm,fun a _ hne => hk1 a hne⟩
 have hI1 := hP1.ints hI hp
 have hlt1 : c < st1.next := by rw [hn1]; exact hlt
 have hC1 : Cur st1 c p bs := ⟨hlt1,z,i,h1,hm1,hI1,hp,hi⟩
 refine Cu lo0 st1 [(0,vP c 0)] fun _ => ?_
 refine ⟨_,rfl,?_⟩
 refine ⟨_,rfl,?_⟩
 refine ⟨_,op_ld rfl rfl rfl rfl hm1 rfl,?_⟩
 refine ⟨_,rfl,?_⟩
 refine ⟨_,rfl,?_⟩
 refine ⟨_,rfl,?_⟩
 refine ⟨_,op_ld rfl rfl rfl rfl hm1 rfl,?_⟩
 refine ⟨_,rfl,?_⟩
 refine ⟨_,rfl,?_⟩
 refine op_and255 rfl rfl rfl ?_
 intro r1 hr1 hr1'
 refine Cu lo0 st1 [(0,vP c 0),(3,vI r1)] fun _ => ?_
 refine ⟨_,rfl,?_⟩
 refine ⟨_,rfl,?_⟩
 refine ⟨_,op_ld rfl rfl rfl rfl hm1 rfl,?_⟩
 refine ⟨_,rfl,?_⟩
 refine ⟨_,rfl,?_⟩
 refine ⟨_,op_ld rfl rfl rfl rfl hm1 rfl,?_⟩
 refine ⟨_,rfl,?_⟩
 refine ⟨_,rfl,?_⟩
 rintro (_|_) hd
 ·refine Cu lo0 st1 [(0,vP c 0),(3,vI r1),(34,vB false)] fun _ => ?_
  refine Cu lo0 st1 [(0,vP c 0),(3,vI r1)] fun _ => ?_
  repeat refine cxs ?_
  exact Rt ⟨r1,rfl,hr1,hr1',hC1,hP1⟩
 ·refine Cu lo0 st1 [(0,vP c 0),(3,vI r1),(34,vB true)] fun _ => ?_
  have hd : i < bs.length := Int.ofNat_lt.1 (of_decide_eq_true (show decide ((i : Int) < (bs.length : Int)) = true from hd))
  obtain ⟨b1,o1,k1,hpe,hb1,hc1⟩ := hI1.at hd
  refine ⟨_,rfl,?_⟩
  refine ⟨_,rfl,?_⟩
  refine ⟨_,op_ld rfl rfl rfl rfl hm1 rfl,?_⟩
  refine ⟨_,rfl,?_⟩
  refine ⟨_,rfl,?_⟩
  refine ⟨_,op_ld rfl rfl rfl rfl hm1 rfl,?_⟩
  refine ⟨_,op_idx (j := (i : Int)) (n := bs.length) (q := ⟨b1,o1,none⟩) rfl (congrArg (fun u => Value.slice u bs.length bs.length) hpe) rfl rfl rfl (Int.natCast_nonneg i) (Int.ofNat_lt.2 hd),?_⟩
  refine ⟨_,op_ld rfl rfl rfl rfl hb1 hc1,?_⟩
  refine ⟨_,rfl,?_⟩
  refine ⟨_,rfl,?_⟩
  refine op_and255 rfl rfl rfl ?_
  intro r2 hr2 hr2'
  refine Cu lo0 st1 [(0,vP c 0),(3,vI r2)] fun _ => ?_
  refine ⟨_,rfl,?_⟩
  refine ⟨_,rfl,?_⟩
  refine ⟨_,op_ld rfl rfl rfl rfl hm1 rfl,?_⟩
  refine ⟨_,rfl,?_⟩
  refine ⟨_,rfl,?_⟩
  refine ⟨_,rfl,?_⟩
  refine op_stc rfl rfl rfl rfl rfl rfl rfl hm1 rfl (Lb rfl) ?_
  intro st2 hm2 hn2 hk2
  have hm2 : st2.mem c = some ⟨true,z,[.slice p bs.length bs.length,.int .i64 (IntKind.wrap .i64 ((i : Int) + 1)),.int .i64 h1]⟩ := hm2
  rw [wrap_i64 (by omega) (by omega)] at hm2
  have hP2 : PresC c st1 st2 := ⟨Nat.le_of_eq hn2.symm,fun a _ hne => hk2 a hne⟩
  have hlt2 : c < st2.next := by rw [hn2]; exact hlt1
  have hC : Cur st2 c p bs := ⟨hlt2,z,i + 1,h1,hm2,hP2.ints hI1 hp,hp,hd⟩
  refine Cu lo0 st2 [(0,vP c 0),(3,vI r2)] fun _ => ?_
  repeat refine cxs ?_
  exact Rt ⟨r2,rfl,hr2,hr2',hC,hP1.trans hP2⟩
theorem tmod_lt {x n : Int} (hx : 0 ≤ x) (hn : 0 < n) : 0 ≤ x.tmod n ∧ x.tmod n < n := ⟨Int.tmod_nonneg _ hx,Int.tmod_lt_of_pos _ hn⟩
theorem ac_l1Below (c : Nat) (p : Option Addr) (bs : List Int) (n : Int) (st : St) (hc : Cur st c p bs) (hs : bs.length < 1099511627776) : C 70 [.pointer (some ⟨c,0,none⟩),.int .i64 n] st (fun v s => ∃ r,v = .int .i64 r ∧ 0 ≤ r ∧ (0 < n → r < n) ∧ (n ≤ 0 → r = 0) ∧ Cur s c p bs ∧ PresC c st s) := by
 refine AC.enter' (i := ⟨[],[],[0,1,4,5,6,7,8,10,12],[]⟩) Try.func70 rfl rfl (by kernel_rfl) Try.ntmps70 (Lb rfl) rfl (cw_sound _ _ _ _ _ ?_)
 refine ⟨_,rfl,?_⟩
 rintro (_|_) h0
 ·have h0 : 0 < n := by simpa using h0
  refine ⟨_,rfl,?_⟩
  rintro (_|_) h1
  ·refine ⟨_,rfl,(ac_l1Byte c p bs st hc hs).mono ?_⟩
   rintro _ s1 ⟨r1,rfl,hr1,hr1',hc1,hp1⟩
   refine ⟨_,rfl,(ac_l1Byte c p bs s1 hc1 hs).mono ?_⟩
   rintro _ s2 ⟨r2,rfl,hr2,hr2',hc2,hp2⟩
   refine ⟨_,rfl,(ac_l1Byte c p bs s2 hc2 hs).mono ?_⟩
   rintro _ s3 ⟨r3,rfl,hr3,hr3',hc3,hp3⟩
   refine ⟨_,rfl,(ac_l1Byte c p bs s3 hc3 hs).mono ?_⟩
   rintro _ s4 ⟨r4,rfl,hr4,hr4',hc4,hp4⟩
   refine ⟨_,rfl,?_⟩
   refine ⟨_,rfl,?_⟩
   refine ⟨_,rfl,?_⟩
   refine ⟨_,rfl,?_⟩
   refine ⟨_,rfl,?_⟩
   refine ⟨_,rfl,?_⟩
   refine ⟨_,op_rem rfl rfl rfl (by omega),?_⟩
   have e1 : IntKind.wrap .i64 (r1 * 16777216) = r1 * 16777216 := wrap_i64 (by omega) (by omega)
   have e2 : IntKind.wrap .i64 (r2 * 65536) = r2 * 65536 := wrap_i64 (by omega) (by omega)
   have e3 : IntKind.wrap .i64 (r3 * 256) = r3 * 256 := wrap_i64 (by omega) (by omega)
   have e4 : IntKind.wrap .i64 (r1 * 16777216 + r2 * 65536) = r1 * 16777216 + r2 * 65536 := wrap_i64 (by omega) (by omega)
   have e5 : IntKind.wrap .i64 (r1 * 16777216 + r2 * 65536 + r3 * 256) = r1 * 16777216 + r2 * 65536 + r3 * 256 := wrap_i64 (by omega) (by omega)
   have e6 : IntKind.wrap .i64 (r1 * 16777216 + r2 * 65536 + r3 * 256 + r4) = r1 * 16777216 + r2 * 65536 + r3 * 256 + r4 := wrap_i64 (by omega) (by omega)
   have hX : 0 ≤ IntKind.wrap .i64 (IntKind.wrap .i64 (IntKind.wrap .i64 (IntKind.wrap .i64 (r1 * 16777216) + IntKind.wrap .i64 (r2 * 65536)) + IntKind.wrap .i64 (r3 * 256)) + r4) := by
    rw [e1,e2,e4,e3,e5,e6]; omega
   refine ⟨.inl rfl,_,rfl,_,rfl,(tmod_lt hX h0).1,fun _ => (tmod_lt hX h0).2,fun h => by omega,hc4,((hp1.trans hp2).trans hp3).trans hp4⟩
  ·refine ⟨_,rfl,(ac_l1Byte c p bs st hc hs).mono ?_⟩
   rintro _ s1 ⟨r1,rfl,hr1,hr1',hc1,hp1⟩
   refine ⟨_,op_rem rfl rfl rfl (by omega),?_⟩
   refine ⟨.inl rfl,_,rfl,_,rfl,(tmod_lt hr1 h0).1,fun _ => (tmod_lt hr1 h0).2,fun h => by omega,hc1,hp1⟩
 ·have h0 : n ≤ 0 := by simpa using h0
  exact Rt ⟨0,rfl,Int.le_refl _,fun h => by omega,fun _ => rfl,hc,PresC.refl _ _⟩
theorem ac_l1Once (c : Nat) (p : Option Addr) (bs : List Int) (n : Int) (st : St) (hc : Cur st c p bs) (hs : bs.length < 1099511627776) : C 145 [.pointer (some ⟨c,0,none⟩),.int .i64 n] st (fun v s => ∃ b,v = .bool b ∧ Cur s c p bs ∧ PresC c st s) := by
 refine AC.enter' (i := ⟨[],[],[0,1,4],[]⟩) Try.func145 rfl rfl (by kernel_rfl) Try.ntmps145 (Lb rfl) rfl (cw_sound _ _ _ _ _ ?_)
 refine ⟨_,rfl,(ac_l1Below c p bs n st hc hs).mono ?_⟩
 rintro _ s1 ⟨r1,rfl,_,_,_,hc1,hp1⟩
 refine ⟨_,rfl,?_⟩
 intro b hb
 exact Rt ⟨b,rfl,hc1,hp1⟩
theorem Ints.ap {st : St} {k : IntKind} {p : Option Addr} {l : List Int} (h : Ints st k p l) : l.length = 0 ∨ ∀ q,p = some q → q.block ≠ st.next := by
 rcases h with h | ⟨b,off,blk,rfl,_,hb,_⟩
 ·exact .inl h
 ·exact .inr fun q hq => by injection hq with hq; subst hq; exact Nat.ne_of_lt hb
theorem PresC.of {c : Nat} {st st' : St} : PresC c st st' ↔ Pr (some ⟨c,0,none⟩) st st' :=
 ⟨fun h => ⟨h.1,fun a ha hn => h.2 a ha (hn _ rfl)⟩,fun h => ⟨h.1,fun a ha hn => h.2 a ha fun q hq => by injection hq with hq; subst hq; exact hn⟩⟩
theorem ac_spec_l1New (p : Option Addr) (l : List Int) (st : St) (hI : Ints st .u8 p l) (hs : l.length < 1099511627776) : C 68 [vS p l.length] st (fun v s => v = vP st.next 0 ∧ Cur s st.next p l ∧ Pres st s ∧ s.next = st.next + 1) := by
 refine AC.enterX (i := ⟨[],[],[0,2,3,4,15],[]⟩) [] Try.func68 rfl rfl (by kernel_rfl) (by kernel_rfl) Try.ntmps68 (Lb rfl) rfl ?_
 refine Cu lo0 st [(0,vS p l.length),(2,_)] fun _ => ?_
 iterate 2 refine ⟨_,rfl,?_⟩
 refine cxs ?_
 refine Cu lo0 st [(0,vS p l.length),(2,_),(3,_),(4,vI 0)] fun _ => ?_
 refine AW.loop0 (fun x : Int × Nat => [(0,vS p l.length),(2,.pointer none),(3,vI x.1),(4,vI x.2)]) (fun m (x : Int × Nat) st' => m = l.length - x.2 ∧ x.2 ≤ l.length ∧ st' = st) (_,0) _ ⟨rfl,rfl,rfl,rfl,trivial⟩ rfl ⟨rfl,Nat.zero_le _,rfl⟩ ?_
 rintro m x ρ0 st' ⟨rfl,hi,rfl⟩
 iterate 2 refine ⟨_,rfl,?_⟩
 rintro (_|_) h1
 ·replace h1 : ¬ ((x.2 : Int) < (l.length : Int)) := of_decide_eq_false h1
  refine ⟨_,rfl,?_⟩
  refine Cu lo0 st' [(0,vS p l.length),(2,.pointer none),(3,vI x.1),(4,vI x.2),(15,vB false)] fun _ => ?_
  refine cxs ?_
  iterate 2 refine ⟨_,rfl,?_⟩
  refine cxs ?_
  refine ⟨.inl rfl,_,rfl,rfl,⟨Nat.lt_succ_self _,0,0,_,if_pos rfl,Pres.push.ints hI,hI.ap,Nat.zero_le _⟩,Pres.push,rfl⟩
 ·replace h1 : (x.2 : Int) < (l.length : Int) := of_decide_eq_true h1
  refine ⟨_,rfl,?_⟩
  rintro (_|_) h2
  ·refine ⟨_,rfl,?_⟩
   refine Cu lo0 st' [(0,vS p l.length),(2,.pointer none),(3,vI x.1),(4,vI x.2),(15,vB false)] fun _ => ?_
   refine cxs ?_
   iterate 2 refine ⟨_,rfl,?_⟩
   refine cxs ?_
   refine ⟨.inl rfl,_,rfl,rfl,⟨Nat.lt_succ_self _,0,0,_,if_pos rfl,Pres.push.ints hI,hI.ap,Nat.zero_le _⟩,Pres.push,rfl⟩
  ·refine ⟨_,rfl,?_⟩
   refine Cu lo0 st' [(0,vS p l.length),(2,.pointer none),(3,vI x.1),(4,vI x.2),(15,vB true)] fun _ => ?_
   obtain ⟨b1,o1,k1,hpe,hb1,hc1⟩ := hI.at (Int.ofNat_lt.1 h1)
   refine cxs ?_
   refine ⟨_,rfl,?_⟩
   refine ⟨_,op_idx (j := (x.2 : Int)) (n := l.length) rfl (congrArg (fun u => vS u l.length) hpe) rfl rfl rfl (Int.natCast_nonneg _) h1,?_⟩
   refine ⟨_,op_ld rfl rfl rfl rfl hb1 hc1,?_⟩
   iterate 4 refine ⟨_,rfl,?_⟩
   refine Cu lo0 st' [(0,vS p l.length),(2,.pointer none),(3,_),(4,vI x.2),(15,vB true)] fun _ => ?_
   have e1 : IntKind.wrap .i64 ((x.2 : Int) + 1) = ((x.2 + 1 : Nat) : Int) := wrap_i64 (by omega) (by omega)
   refine ⟨_,rfl,?_⟩
   refine ⟨(_,x.2 + 1),l.length - (x.2 + 1),?_,⟨rfl,rfl,rfl,congrArg (Value.int .i64) e1,trivial⟩,rfl,rfl,?_,rfl⟩
   ·omega
   ·omega
theorem PresC.pres {c : Nat} {st st1 st2 : St} (h : Pres st st1) (k : PresC c st1 st2) (hc : st.next ≤ c) : Pres st st2 := ⟨Nat.le_trans h.1 k.1,fun a ha => (k.2 a (Nat.lt_of_lt_of_le ha h.1) (by omega)).trans (h.2 a ha)⟩
def cmpI (a b : Int) : Int := if a < b then -1 else if a > b then 1 else 0
def firstNZ : List Int → Int
 | [] => 0
 | x :: l => if x = 0 then firstNZ l else x
def cmpB (a b : ByteArray) : Int := Lib.compareBytes a.data.toList b.data.toList
def entCmp (a b : Ent) : Int := firstNZ [cmpI a.inc b.inc,cmpI a.rank b.rank,cmpI a.beat b.beat,cmpI a.ver b.ver,cmpB a.data b.data]
def entMax (a b : Ent) : Ent := if entCmp a b < 0 then b else a
theorem compareBytes_less : ∀ (a b : List UInt8),Lib.compareBytes a b = if Op.bytesLess a b = true then -1 else if (a == b) = true then 0 else 1
 | [],[] => by simp [Lib.compareBytes,Op.bytesLess]
 | [],b :: bs => by simp [Lib.compareBytes,Op.bytesLess]
 | a :: l,[] => by simp [Lib.compareBytes,Op.bytesLess]
 | a :: l,b :: bs => by
  have ih := compareBytes_less l bs
  unfold Lib.compareBytes
  by_cases h1 : a < b
  ·simp [Op.bytesLess,h1]
  ·by_cases h2 : b < a
   ·have hne : ¬ a = b := fun h => by rw [h] at h2; exact UInt8.lt_irrefl _ h2
    simp [Op.bytesLess,h1,h2,hne]
   ·have he : a = b := UInt8.le_antisymm (UInt8.not_lt.1 h2) (UInt8.not_lt.1 h1)
    subst he
    simp only [h1,if_false,ih,Op.bytesLess,beq_self_eq_true,Bool.true_and,Bool.false_or,decide_false]
    simp
theorem ac_spec_l1BitT (st : St) : C 183 [vB true] st (fun v s => v = vI 1 ∧ s = st) := by
 refine AC.enterX (i := ⟨[],[],[0,2,3],[]⟩) [] Try.func183 rfl rfl (by kernel_rfl) (by kernel_rfl) Try.ntmps183 (Lb rfl) rfl ?_
 refine cxs ?_
 refine Cu lo0 st [(2,vI 0),(3,vB true)] fun _ => ?_
 exact cxs (Rt ⟨rfl,rfl⟩)
theorem ac_spec_l1BitF (st : St) : C 183 [vB false] st (fun v s => v = vI 0 ∧ s = st) := by
 refine AC.enterX (i := ⟨[],[],[0,2,3],[]⟩) [] Try.func183 rfl rfl (by kernel_rfl) (by kernel_rfl) Try.ntmps183 (Lb rfl) rfl ?_
 refine cxs ?_
 refine Cu lo0 st [(2,vI 0),(3,vB false)] fun _ => ?_
 refine cxs ?_
 exact cxs (Rt ⟨rfl,rfl⟩)
theorem ac_spec_l2Cmp (a b : Int) (st : St) : C 182 [vI a,vI b] st (fun v s => v = vI (cmpI a b) ∧ s = st) := by
 refine AC.enterX (i := ⟨[],[],[0,1,4,7],[]⟩) [] Try.func182 rfl rfl (by kernel_rfl) (by kernel_rfl) Try.ntmps182 (Lb rfl) rfl ?_
 refine Cu lo0 st [(0,vI a),(1,vI b),(4,vI 0)] fun _ => ?_
 refine ⟨_,rfl,?_⟩
 rintro (_|_) h1
 ·replace h1 : ¬ (a < b) := of_decide_eq_false h1
  refine Cu lo0 st [(0,vI a),(1,vI b),(4,vI 0),(7,vB false)] fun _ => ?_
  refine cxs ?_
  refine ⟨_,rfl,?_⟩
  rintro (_|_) h2
  ·replace h2 : ¬ (a > b) := of_decide_eq_false h2
   refine ⟨_,rfl,(ac_spec_l1BitF st).mono ?_⟩
   rintro _ st ⟨rfl,rfl⟩
   exact cxs (Rt ⟨congrArg vI (by rw [cmpI,if_neg h1,if_neg h2]),rfl⟩)
  ·replace h2 : a > b := of_decide_eq_true h2
   refine ⟨_,rfl,(ac_spec_l1BitT st).mono ?_⟩
   rintro _ st ⟨rfl,rfl⟩
   exact cxs (Rt ⟨congrArg vI (by rw [cmpI,if_neg h1,if_pos h2]),rfl⟩)
 ·replace h1 : a < b := of_decide_eq_true h1
  refine Cu lo0 st [(0,vI a),(1,vI b),(4,vI 0),(7,vB true)] fun _ => ?_
  exact cxs (Rt ⟨congrArg vI (by rw [cmpI,if_pos h1]),rfl⟩)
abbrev four (a b : Ent) : List Int := [cmpI a.inc b.inc,cmpI a.rank b.rank,cmpI a.beat b.beat,cmpI a.ver b.ver]
theorem ac_spec_EntryCmp (a b : Ent) (st : St) : C 155 [.agg #[vI a.inc,vI a.rank,vI a.beat,vI a.ver,.string a.data],.agg #[vI b.inc,vI b.rank,vI b.beat,vI b.ver,.string b.data]] st (fun v s => v = vI (entCmp a b) ∧ Pres st s) := by
 refine AC.enterX (i := ⟨[2,3],[2,3,7,9,12,14,17,19,22,24,43,45,48,50],[0,1,2,3,4,5,6,31,38,47],[]⟩) [(1,[4,9,14],[6,8,11,13,16,18])] Try.func155 rfl rfl (by kernel_rfl) (by kernel_rfl) Try.ntmps155 (Lb rfl) rfl ?_
 iterate 2 refine ⟨_,rfl,?_⟩
 refine Cm 2 st [Ml 2 0,Ml 3 1,(4,vI 0)] [(2,0,[vI a.inc,vI a.rank,vI a.beat,vI a.ver,.string a.data]),(3,1,[vI b.inc,vI b.rank,vI b.beat,vI b.ver,.string b.data])] fun _ _ => ?_
 iterate 4 refine ⟨_,rfl,?_⟩
 refine ⟨_,rfl,(ac_spec_l2Cmp a.inc b.inc st).mono ?_⟩
 rintro _ st ⟨rfl,rfl⟩
 refine ⟨fun _ _ => rfl,?_⟩
 iterate 2 refine ⟨_,rfl,?_⟩
 refine ⟨ld_own rfl rfl rfl,?_⟩
 iterate 2 refine ⟨_,rfl,?_⟩
 refine ⟨ld_own rfl rfl rfl,?_⟩
 refine ⟨_,rfl,(ac_spec_l2Cmp a.rank b.rank st).mono ?_⟩
 rintro _ st ⟨rfl,rfl⟩
 refine ⟨fun _ _ => rfl,?_⟩
 iterate 2 refine ⟨_,rfl,?_⟩
 refine ⟨ld_own rfl rfl rfl,?_⟩
 iterate 2 refine ⟨_,rfl,?_⟩
 refine ⟨ld_own rfl rfl rfl,?_⟩
 refine ⟨_,rfl,(ac_spec_l2Cmp a.beat b.beat st).mono ?_⟩
 rintro _ st ⟨rfl,rfl⟩
 refine ⟨fun _ _ => rfl,?_⟩
 iterate 2 refine ⟨_,rfl,?_⟩
 refine ⟨ld_own rfl rfl rfl,?_⟩
 iterate 2 refine ⟨_,rfl,?_⟩
 refine ⟨ld_own rfl rfl rfl,?_⟩
 refine ⟨_,rfl,(ac_spec_l2Cmp a.ver b.ver st).mono ?_⟩
 rintro _ st ⟨rfl,rfl⟩
 refine op_litI (k := .i64) (l := four a b) rfl rfl rfl rfl rfl rfl (Lb rfl) ?_
 intro q s1 hO1 hP1 hN1
 refine cxs ?_
 refine Cm 2 s1 [Ml 2 0,Ml 3 1,(4,vI 0),(5,vS q 4),(6,vI 0)] [(2,0,[vI a.inc,vI a.rank,vI a.beat,vI a.ver,.string a.data]),(3,1,[vI b.inc,vI b.rank,vI b.beat,vI b.ver,.string b.data])] fun _ _ => ?_
 refine AW.loopM (fun i : Nat => [(2,vL 2 0 (0)),(3,vL 3 0 (1)),(5,vS q 4),(6,vI (i : Int))]) (fun i : Nat => [(2,0,[vI a.inc,vI a.rank,vI a.beat,vI a.ver,.string a.data]),(3,1,[vI b.inc,vI b.rank,vI b.beat,vI b.ver,.string b.data])]) (fun m (i : Nat) st' => m = 4 - i ∧ i ≤ 4 ∧ entCmp a b = firstNZ ((four a b).drop i ++ [cmpB a.data b.data]) ∧ s1 = st') 0 _ ⟨rfl,rfl,rfl,rfl,trivial⟩ ⟨rfl,rfl,trivial⟩ ⟨rfl,Nat.zero_le _,rfl,rfl⟩ ?_
 rintro m i ρ0 ff gg st' ⟨rfl,hi,hf,rfl⟩
 iterate 2 refine ⟨_,rfl,?_⟩
 rintro (_|_) h1
 ·replace h1 : ¬ ((i : Int) < 4) := of_decide_eq_false h1
  refine Cm gg s1 [Ml 2 0,Ml 3 1,(5,vS q 4),(6,vI (i : Int)),(31,vB false)] [(2,0,[vI a.inc,vI a.rank,vI a.beat,vI a.ver,.string a.data]),(3,1,[vI b.inc,vI b.rank,vI b.beat,vI b.ver,.string b.data])] fun _ _ => ?_
  have hil : i = 4 := by omega
  have hf : entCmp a b = firstNZ [cmpB a.data b.data] := by rw [hf,hil]; rfl
  have hf : entCmp a b = cmpB a.data b.data := by rw [hf,firstNZ,firstNZ]; split <;> simp [*]
  have hcb := compareBytes_less a.data.data.toList b.data.data.toList
  have hcb : cmpB a.data b.data = if Op.bytesLess a.data.toList b.data.toList = true then -1 else if (a.data.toList == b.data.toList) = true then 0 else 1 := by rw [ByteArray.toList_eq,ByteArray.toList_eq]; exact hcb
  refine cxs ?_
  refine ⟨_,rfl,?_⟩
  refine ⟨_,Od rfl,?_⟩
  refine ⟨_,rfl,?_⟩
  refine ⟨_,Od rfl,?_⟩
  refine ⟨_,rfl,?_⟩
  rintro (_|_) h3
  ·refine Cm gg s1 [Ml 2 0,Ml 3 1,(47,vB false)] [(2,0,[vI a.inc,vI a.rank,vI a.beat,vI a.ver,.string a.data]),(3,1,[vI b.inc,vI b.rank,vI b.beat,vI b.ver,.string b.data])] fun _ _ => ?_
   refine cxs ?_
   refine ⟨_,rfl,?_⟩
   refine ⟨_,Od rfl,?_⟩
   refine ⟨_,rfl,?_⟩
   refine ⟨_,Od rfl,?_⟩
   refine ⟨_,rfl,?_⟩
   rintro (_|_) h4
   ·refine ⟨_,rfl,(ac_spec_l1BitF s1).mono ?_⟩
    rintro _ s1 ⟨rfl,rfl⟩
    refine cxs ?_
    have h3 : Op.bytesLess a.data.toList b.data.toList = false := h3
    have h4 : (!(Op.bytesLess a.data.toList b.data.toList || a.data.toList == b.data.toList)) = false := h4
    have h5 : (a.data.toList == b.data.toList) = true := by rw [h3,Bool.false_or] at h4; simpa using h4
    exact Rt ⟨congrArg vI (by rw [hf,hcb,h3,h5]; rfl),hP1⟩
   ·refine ⟨_,rfl,(ac_spec_l1BitT s1).mono ?_⟩
    rintro _ s1 ⟨rfl,rfl⟩
    refine cxs ?_
    have h3 : Op.bytesLess a.data.toList b.data.toList = false := h3
    have h4 : (!(Op.bytesLess a.data.toList b.data.toList || a.data.toList == b.data.toList)) = true := h4
    have h5 : (a.data.toList == b.data.toList) = false := by rw [h3,Bool.false_or] at h4; simpa using h4
    exact Rt ⟨congrArg vI (by rw [hf,hcb,h3,h5]; rfl),hP1⟩
  ·refine Cm gg s1 [Ml 2 0,Ml 3 1,(47,vB true)] [(2,0,[vI a.inc,vI a.rank,vI a.beat,vI a.ver,.string a.data]),(3,1,[vI b.inc,vI b.rank,vI b.beat,vI b.ver,.string b.data])] fun _ _ => ?_
   refine cxs ?_
   have h3 : Op.bytesLess a.data.toList b.data.toList = true := h3
   exact Rt ⟨congrArg vI (by rw [hf,hcb,if_pos h3]),hP1⟩
 ·replace h1 : (i : Int) < 4 := of_decide_eq_true h1
  refine Cm gg s1 [Ml 2 0,Ml 3 1,(5,vS q 4),(6,vI (i : Int)),(31,vB true)] [(2,0,[vI a.inc,vI a.rank,vI a.beat,vI a.ver,.string a.data]),(3,1,[vI b.inc,vI b.rank,vI b.beat,vI b.ver,.string b.data])] fun _ _ => ?_
  have h1' : i < (four a b).length := by simp only [List.length_cons,List.length_nil]; omega
  have ⟨b1,o1,k1,x,hpe,hx,hm1,hc1,hb1⟩ := (hO1.rows fI_len).atB h1'
  rw [(split_at' hx).2.2,List.cons_append,firstNZ] at hf
  refine cxs ?_
  refine ⟨_,op_idx (j := (i : Int)) (n := 4) (q := ⟨b1,o1,none⟩) rfl (congrArg (fun u => vS u 4) hpe) rfl rfl rfl (Int.natCast_nonneg _) h1,?_⟩
  refine ⟨_,op_ldc (i := 0) rfl rfl rfl rfl hm1 hc1 rfl rfl,?_⟩
  refine ⟨_,rfl,?_⟩
  rintro (_|_) h2
  ·replace h2 : x = 0 := bne_eq_false_iff_eq.1 h2
   refine Cm gg s1 [Ml 2 0,Ml 3 1,(5,vS q 4),(6,vI (i : Int)),(31,vB true),(38,vB false)] [(2,0,[vI a.inc,vI a.rank,vI a.beat,vI a.ver,.string a.data]),(3,1,[vI b.inc,vI b.rank,vI b.beat,vI b.ver,.string b.data])] fun _ _ => ?_
   refine cxs ?_
   have e33 : IntKind.wrap .i64 ((i : Int) + 1) = ((i + 1 : Nat) : Int) := (wrap_i64 (by omega) (by omega)).trans (by omega)
   refine ⟨_,rfl,?_⟩
   exact ⟨i + 1,4 - (i + 1),by omega,⟨rfl,rfl,rfl,congrArg (Value.int .i64) e33,trivial⟩,⟨rfl,rfl,trivial⟩,rfl,by omega,by rw [hf,if_pos h2],rfl⟩
  ·replace h2 : ¬ (x = 0) := bne_iff_ne.1 h2
   refine Cm gg s1 [Ml 2 0,Ml 3 1,(5,vS q 4),(6,vI (i : Int)),(31,vB true),(38,vB true)] [(2,0,[vI a.inc,vI a.rank,vI a.beat,vI a.ver,.string a.data]),(3,1,[vI b.inc,vI b.rank,vI b.beat,vI b.ver,.string b.data])] fun _ _ => ?_
   refine ⟨_,op_idx (j := (i : Int)) (n := 4) (q := ⟨b1,o1,none⟩) rfl (congrArg (fun u => vS u 4) hpe) rfl rfl rfl (Int.natCast_nonneg _) h1,?_⟩
   refine ⟨_,op_ldc (i := 0) rfl rfl rfl rfl hm1 hc1 rfl rfl,?_⟩
   exact cxs (Rt ⟨congrArg vI (by rw [hf,if_neg h2]),hP1⟩)
abbrev topF (a b : Sta) (id : Int) : Int := max (floorOf a.floors id) (floorOf b.floors id)
abbrev topE (a b : Sta) (id : Int) : Ent := entMax (entP a.items id).1 (entP b.items id).1
def joinF (a b : Sta) (n : Nat) : Sta := ⟨(List.range n).filterMap fun (j : Nat) => if (topE a b (j : Int)).inc > topF a b (j : Int) then some ⟨(j : Int),topE a b (j : Int)⟩ else none,
 (List.range n).filterMap fun (j : Nat) => if topF a b (j : Int) > 0 then some ⟨(j : Int),topF a b (j : Int)⟩ else none⟩
theorem joinF_items (a b : Sta) (n : Nat) : (joinF a b (n + 1)).items = if (topE a b (n : Int)).inc > topF a b (n : Int) then (joinF a b n).items ++ [⟨(n : Int),topE a b (n : Int)⟩] else (joinF a b n).items := by
 unfold joinF
 simp only [List.range_succ,List.filterMap_append]
 split <;> simp [*]
theorem joinF_floors (a b : Sta) (n : Nat) : (joinF a b (n + 1)).floors = if topF a b (n : Int) > 0 then (joinF a b n).floors ++ [⟨(n : Int),topF a b (n : Int)⟩] else (joinF a b n).floors := by
 unfold joinF
 simp only [List.range_succ,List.filterMap_append]
 split <;> simp [*]
theorem joinF_len (a b : Sta) : ∀ n,(joinF a b n).items.length ≤ n ∧ (joinF a b n).floors.length ≤ n
 | 0 => by simp [joinF]
 | n + 1 => by
  have := joinF_len a b n
  rw [joinF_items,joinF_floors]
  refine ⟨?_,?_⟩ <;> split <;> (try rw [List.length_append,List.length_singleton]) <;> omega
theorem pcS_items {st st' : St} {q1 q2 q : Option Addr} {l1 l1' : List Itm} {l2 : List Flr} (h : OwnP st [pcR 6 cItm q1 l1,pcR 2 cFlr q2 l2]) (hp : Pr q1 st st') (ho : OwnR st' 6 cItm q l1') (hn : New st.next q) : OwnP st' [pcR 6 cItm q l1',pcR 2 cFlr q2 l2] :=
 OwnP.renew (l := []) (m := [pcR 2 cFlr q2 l2]) h hp (own_pc ho) hn
theorem pcS_floors {st st' : St} {q1 q2 q : Option Addr} {l1 : List Itm} {l2 l2' : List Flr} (h : OwnP st [pcR 6 cItm q1 l1,pcR 2 cFlr q2 l2]) (hp : Pr q2 st st') (ho : OwnR st' 2 cFlr q l2') (hn : New st.next q) : OwnP st' [pcR 6 cItm q1 l1,pcR 2 cFlr q l2'] :=
 OwnP.renew (l := [pcR 6 cItm q1 l1]) (m := []) h hp (own_pc ho) hn
theorem pcS_i {st : St} {q1 q2 : Option Addr} {l1 : List Itm} {l2 : List Flr} (h : OwnP st [pcR 6 cItm q1 l1,pcR 2 cFlr q2 l2]) : OwnR st 6 cItm q1 l1 := pc_own (by decide) len_cItm (h.1 _ (List.mem_cons_self ..))
theorem pcS_f {st : St} {q1 q2 : Option Addr} {l1 : List Itm} {l2 : List Flr} (h : OwnP st [pcR 6 cItm q1 l1,pcR 2 cFlr q2 l2]) : OwnR st 2 cFlr q2 l2 := pc_own (by decide) len_cFlr (h.1 _ (List.mem_cons_of_mem _ (List.mem_cons_self ..)))
theorem firstNZ_neg : ∀ l : List Int,firstNZ (l.map fun x => -x) = - firstNZ l
 | [] => rfl
 | x :: l => by
  have ih := firstNZ_neg l
  rw [List.map_cons,firstNZ,firstNZ]
  by_cases h : x = 0
  ·rw [if_pos h,if_pos (by omega),ih]
  ·rw [if_neg h,if_neg (by omega)]
theorem cmpI_neg (a b : Int) : cmpI b a = - cmpI a b := by
 unfold cmpI
 split <;> split <;> (try split) <;> omega
theorem compareBytes_neg : ∀ a b : List UInt8,Lib.compareBytes b a = - Lib.compareBytes a b
 | [],[] => by simp [Lib.compareBytes]
 | [],b :: bs => by simp [Lib.compareBytes]
 | a :: l,[] => by simp [Lib.compareBytes]
 | a :: l,b :: bs => by
  have ih := compareBytes_neg l bs
  unfold Lib.compareBytes
  by_cases h1 : a < b
  ·have h2 : ¬ b < a := fun h => UInt8.lt_irrefl _ (UInt8.lt_trans h h1)
   simp [h1,h2]
  ·by_cases h2 : b < a
   ·simp [h1,h2]
   ·simp [h1,h2,ih]
theorem entCmp_neg (a b : Ent) : entCmp b a = - entCmp a b := by
 unfold entCmp
 rw [← firstNZ_neg]
 simp only [List.map_cons,List.map_nil,cmpB,cmpI_neg a.inc b.inc,cmpI_neg a.rank b.rank,cmpI_neg a.beat b.beat,cmpI_neg a.ver b.ver,compareBytes_neg a.data.data.toList b.data.data.toList]
theorem entMax_zero {a : Ent} (h : 1 ≤ a.inc) : entMax a zEnt = a ∧ entMax zEnt a = a := by
 have h1 : entCmp a zEnt = 1 := by
  unfold entCmp firstNZ
  have : cmpI a.inc zEnt.inc = 1 := by unfold cmpI zEnt; simp only; rw [if_neg (by omega),if_pos (by omega)]
  rw [this]; rfl
 have h2 : entCmp zEnt a = -1 := by rw [entCmp_neg,h1]
 exact ⟨by rw [entMax,h1]; rfl,by rw [entMax,h2]; rfl⟩
theorem entMax_zz : entMax zEnt zEnt = zEnt := by unfold entMax; split <;> rfl
theorem floorOf_pos {l : List Flr} (h : marksOk l) (id : Int) : 0 ≤ floorOf l id ∧ floorOf l id ≤ 1000 := by
 have key : ∀ m : List Flr,(∀ x ∈ m,1 ≤ x.inc ∧ x.inc ≤ 1000) → 0 ≤ floorOf m id ∧ floorOf m id ≤ 1000 := by
  intro m
  induction m with
  | nil => intro _; simp [floorOf]
  | cons x m ih =>
   intro h
   have hx := h x (List.mem_cons_self ..)
   rw [floorOf]
   split
   ·omega
   ·exact ih fun y hy => h y (List.mem_cons_of_mem _ hy)
 refine key l fun x hx => ?_
 obtain ⟨i,hi⟩ := List.getElem?_of_mem hx
 exact (h i x hi).2.1
theorem entP_none {l : List Itm} {id : Int} {e : Ent} (h : (e,false) = entP l id) : e = zEnt := by
 induction l with
 | nil => rw [entP] at h; injection h
 | cons x l ih =>
  rw [entP] at h
  split at h
  ·injection h with _ h; cases h
  ·exact ih h
theorem ac_spec_l3Join (A B : SV) (st : St) (hA : RdS st A) (hB : RdS st B) (ha : bigS A.x) (hb : bigS B.x) (oa : stateOk A.x) (ob : stateOk B.x) : C 81 [.agg #[vS A.p A.x.items.length,vS A.q A.x.floors.length],.agg #[vS B.p B.x.items.length,vS B.q B.x.floors.length]] st (fun v s => ∃ u : SV,v = .agg #[vS u.p u.x.items.length,vS u.q u.x.floors.length] ∧ u.x = joinF A.x B.x 5 ∧ OwnP s (pcS u) ∧ NewP st.next (pcS u) ∧ Pres st s) := by
 refine AC.enterX (i := ⟨[2,3,4,5,8,10,12],[2,3,4,5,8,10,12,27,34,66,70,77],[0,1,2,3,4,5,6,7,8,9,10,11,12,15,26,52,64,69],[]⟩) [(5,[2],[3])] Try.func81 rfl rfl (by kernel_rfl) (by kernel_rfl) Try.ntmps81 (Lb rfl) rfl ?_
 iterate 3 refine ⟨_,rfl,?_⟩
 refine Cm 3 st [Ml 2 0,Ml 3 1,Ml 4 2] [(2,0,cSV A),(3,1,cSV B),(4,2,[Sn,Sn])] fun _ _ => ?_
 iterate 3 refine ⟨_,rfl,?_⟩
 refine cxs ?_
 refine Cm 4 st [Ml 2 0,Ml 3 1,Ml 4 2,Ml 5 3,(6,vI 0)] [(2,0,cSV A),(3,1,cSV B),(4,2,[Sn,Sn]),(5,3,[Sn,Sn])] fun _ _ => ?_
 refine AW.loopM (fun x : Nat × Option Addr × Option Addr => [(2,vL 2 0 (0)),(3,vL 3 0 (1)),(4,vL 4 0 (2)),(5,vL 5 0 (3)),(6,vI (x.1 : Int))]) (fun x : Nat × Option Addr × Option Addr => [(2,0,[vS A.p A.x.items.length,vS A.q A.x.floors.length]),(3,1,[vS B.p B.x.items.length,vS B.q B.x.floors.length]),(4,2,[.slice none 0 0,.slice none 0 0]),(5,3,[vS x.2.1 (joinF A.x B.x x.1).items.length,vS x.2.2 (joinF A.x B.x x.1).floors.length])]) (fun m (x : Nat × Option Addr × Option Addr) st' => m = 5 - x.1 ∧ x.1 ≤ 5 ∧ OwnP st' [pcR 6 cItm x.2.1 (joinF A.x B.x x.1).items,pcR 2 cFlr x.2.2 (joinF A.x B.x x.1).floors] ∧ New st.next x.2.1 ∧ New st.next x.2.2 ∧ Pres st st') (0,none,none) _ ⟨rfl,rfl,rfl,rfl,rfl,trivial⟩ ⟨rfl,rfl,rfl,rfl,trivial⟩ ⟨rfl,Nat.zero_le _,pcS_nil,New.none,New.none,Pres.refl _⟩ ?_
 rintro m ⟨i,q1,q2⟩ ρ0 ff gg st' ⟨rfl,hi,hO,hN1,hN2,hP⟩
 simp only at hi hO hN1 hN2
 have hJ := joinF_len A.x B.x i
 have hJi := joinF_items A.x B.x i
 have hJf := joinF_floors A.x B.x i
 refine ⟨_,rfl,?_⟩
 rintro (_|_) h1
 ·replace h1 : ¬ ((i : Int) < 5) := of_decide_eq_false h1
  refine Cm gg st' [Ml 2 0,Ml 3 1,Ml 4 2,Ml 5 3,(6,vI (i : Int)),(15,vB false)] [(2,0,cSV A),(3,1,cSV B),(4,2,[Sn,Sn]),(5,3,[vS q1 (joinF A.x B.x i).items.length,vS q2 (joinF A.x B.x i).floors.length])] fun _ _ => ?_
  refine cxs ?_
  refine ⟨_,Od rfl,?_⟩
  refine ⟨_,Os rfl,?_⟩
  refine cxs ?_
  have hil : i = 5 := by omega
  subst hil
  exact Rt ⟨⟨q1,q2,joinF A.x B.x 5⟩,rfl,rfl,hO,NewP.cons hN1 (NewP.cons hN2 NewP.nil),hP⟩
 ·replace h1 : (i : Int) < 5 := of_decide_eq_true h1
  refine Cm gg st' [Ml 2 0,Ml 3 1,Ml 4 2,Ml 5 3,(6,vI (i : Int)),(15,vB true)] [(2,0,cSV A),(3,1,cSV B),(4,2,[Sn,Sn]),(5,3,[vS q1 (joinF A.x B.x i).items.length,vS q2 (joinF A.x B.x i).floors.length])] fun _ _ => ?_
  refine cxs ?_
  refine ⟨_,Od rfl,?_⟩
  refine ⟨_,rfl,(ac_spec_FloorOf A i st' (hA.pres hP) ha).mono ?_⟩
  rintro _ st' ⟨rfl,rfl⟩
  refine ⟨fun _ _ => rfl,?_⟩
  refine ⟨_,Od rfl,?_⟩
  refine ⟨ld_own rfl rfl rfl,?_⟩
  refine ⟨_,rfl,(ac_spec_FloorOf B i st' (hB.pres hP) hb).mono ?_⟩
  rintro _ st' ⟨rfl,rfl⟩
  refine ⟨_,rfl,(ac_spec_l1Max (floorOf A.x.floors (i : Int)) (floorOf B.x.floors (i : Int)) st').mono ?_⟩
  rintro _ st' ⟨rfl,rfl⟩
  refine AX.meet 5 (fun x : Option Addr × Ent × Nat => [(2,vL 2 0 (0)),(3,vL 3 0 (1)),(4,vL 4 0 (2)),(5,vL 5 0 (3)),(6,vI (i : Int)),(7,vI (topF A.x B.x (i : Int))),(12,vL 12 0 (x.2.2)),(15,vB true)]) (fun x : Option Addr × Ent × Nat => [(2,0,[vS A.p A.x.items.length,vS A.q A.x.floors.length]),(3,1,[vS B.p B.x.items.length,vS B.q B.x.floors.length]),(4,2,[.slice none 0 0,.slice none 0 0]),(5,3,[vS q1 (joinF A.x B.x i).items.length,vS x.1 (joinF A.x B.x (i + 1)).floors.length]),(12,x.2.2,[vI x.2.1.inc,vI x.2.1.rank,vI x.2.1.beat,vI x.2.1.ver,.string x.2.1.data])]) (fun (x : Option Addr × Ent × Nat) st' => (joinF A.x B.x (i + 1)).items = (if x.2.1.inc > topF A.x B.x (i : Int) then (joinF A.x B.x i).items ++ [⟨(i : Int),x.2.1⟩] else (joinF A.x B.x i).items) ∧ OwnP st' [pcR 6 cItm q1 (joinF A.x B.x i).items,pcR 2 cFlr x.1 (joinF A.x B.x (i + 1)).floors] ∧ New st.next x.1 ∧ Pres st st') ?_ ?_
  ·refine AX.meet 0 (fun q6 : Option Addr => [(2,vL 2 0 (0)),(3,vL 3 0 (1)),(4,vL 4 0 (2)),(5,vL 5 0 (3)),(6,vI (i : Int)),(7,vI (topF A.x B.x (i : Int))),(15,vB true)]) (fun q6 : Option Addr => [(2,0,[vS A.p A.x.items.length,vS A.q A.x.floors.length]),(3,1,[vS B.p B.x.items.length,vS B.q B.x.floors.length]),(4,2,[.slice none 0 0,.slice none 0 0]),(5,3,[vS q1 (joinF A.x B.x i).items.length,vS q6 (joinF A.x B.x (i + 1)).floors.length])]) (fun (q6 : Option Addr) st' => OwnP st' [pcR 6 cItm q1 (joinF A.x B.x i).items,pcR 2 cFlr q6 (joinF A.x B.x (i + 1)).floors] ∧ New st.next q6 ∧ Pres st st') ?_ ?_
   ·refine Cm gg st' [Ml 2 0,Ml 3 1,Ml 4 2,Ml 5 3,(6,vI (i : Int)),(7,vI (topF A.x B.x (i : Int))),(15,vB true)] [(2,0,cSV A),(3,1,cSV B),(4,2,[Sn,Sn]),(5,3,[vS q1 (joinF A.x B.x i).items.length,vS q2 (joinF A.x B.x i).floors.length])] fun _ _ => ?_
    refine ⟨_,rfl,?_⟩
    rintro (_|_) h2
    ·replace h2 : ¬ (topF A.x B.x (i : Int) > 0) := of_decide_eq_false h2
     refine Cm gg st' [Ml 2 0,Ml 3 1,Ml 4 2,Ml 5 3,(6,vI (i : Int)),(7,vI (topF A.x B.x (i : Int))),(15,vB true),(26,vB false)] [(2,0,cSV A),(3,1,cSV B),(4,2,[Sn,Sn]),(5,3,[vS q1 (joinF A.x B.x i).items.length,vS q2 (joinF A.x B.x i).floors.length])] fun _ _ => ?_
     have hfe : (joinF A.x B.x (i + 1)).floors = (joinF A.x B.x i).floors := by rw [hJf,if_neg h2]
     exact ⟨q2,⟨rfl,rfl,rfl,rfl,rfl,rfl,rfl,trivial⟩,⟨rfl,rfl,rfl,(show some (3,[vS q1 (joinF A.x B.x i).items.length,vS q2 (joinF A.x B.x i).floors.length]) = _ by rw [hfe]),trivial⟩,by rw [hfe]; exact hO,hN2,hP⟩
    ·replace h2 : topF A.x B.x (i : Int) > 0 := of_decide_eq_true h2
     refine Cm gg st' [Ml 2 0,Ml 3 1,Ml 4 2,Ml 5 3,(6,vI (i : Int)),(7,vI (topF A.x B.x (i : Int))),(15,vB true),(26,vB true)] [(2,0,cSV A),(3,1,cSV B),(4,2,[Sn,Sn]),(5,3,[vS q1 (joinF A.x B.x i).items.length,vS q2 (joinF A.x B.x i).floors.length])] fun _ _ => ?_
     refine ⟨_,rfl,?_⟩
     refine ⟨_,Od rfl,?_⟩
     refine ⟨_,rfl,?_⟩
     refine op_one (z := 2) (a := (⟨(i : Int),topF A.x B.x (i : Int)⟩ : Flr)) (f := cFlr) rfl rfl rfl rfl rfl (by decide) rfl (Lb rfl) rfl rfl rfl ?_
     refine op_add (z := 2) (st := st') (f := cFlr) (b := 16) (l := (joinF A.x B.x i).floors) rfl rfl rfl rfl rfl rfl rfl (by decide) len_cFlr rfl rfl rfl (by omega) (by unfold maxLen; omega) (pcS_f hO) ?_
     intro q6 s6 hO6 hP6 hN6
     refine ⟨_,rfl,?_⟩
     refine ⟨_,Os rfl,?_⟩
     have hfe : (joinF A.x B.x (i + 1)).floors = (joinF A.x B.x i).floors ++ [⟨(i : Int),topF A.x B.x (i : Int)⟩] := by rw [hJf,if_pos h2]
     exact ⟨q6,⟨rfl,rfl,rfl,rfl,rfl,rfl,rfl,trivial⟩,⟨rfl,rfl,rfl,(show some (3,[vS q1 (joinF A.x B.x i).items.length,vS q6 ((joinF A.x B.x i).floors.length + 1)]) = _ by rw [hfe,List.length_append]; rfl),trivial⟩,by rw [hfe]; exact pcS_floors hO hP6 hO6 hN6,hN6.le hP.1,hP6.pres hP hN2⟩
   ·rintro q6 ρ0 ff gg st' ⟨hO6,hN6,hP6⟩
    refine ⟨_,Od rfl,?_⟩
    refine ⟨_,rfl,(ac_spec_EntryOf A i st' (hA.pres hP6) ha).mono ?_⟩
    rintro _ st' ⟨e1,b1,rfl,he1,rfl⟩
    rcases b1 with _|_
    ·iterate 3 refine ⟨_,rfl,?_⟩
     refine ⟨_,Os rfl,?_⟩
     refine Cm (gg + 1) st' [Ml 2 0,Ml 3 1,Ml 4 2,Ml 5 3,(6,vI (i : Int)),(7,vI (topF A.x B.x (i : Int))),Ml 8 gg,(9,vB false),(15,vB true)] [(2,0,cSV A),(3,1,cSV B),(4,2,[Sn,Sn]),(5,3,[vS q1 (joinF A.x B.x i).items.length,vS q6 (joinF A.x B.x (i + 1)).floors.length]),(8,gg,[vI e1.inc,vI e1.rank,vI e1.beat,vI e1.ver,.string e1.data])] fun _ _ => ?_
     refine ⟨_,Od rfl,?_⟩
     refine ⟨_,rfl,(ac_spec_EntryOf B i st' (hB.pres hP6) hb).mono ?_⟩
     rintro _ st' ⟨e2,b2,rfl,he2,rfl⟩
     rcases b2 with _|_
     ·iterate 3 refine ⟨_,rfl,?_⟩
      refine ⟨_,Os rfl,?_⟩
      refine Cm (gg + 2) st' [Ml 2 0,Ml 3 1,Ml 4 2,Ml 5 3,(6,vI (i : Int)),(7,vI (topF A.x B.x (i : Int))),Ml 8 gg,(9,vB false),(10,vL 10 0 (gg + 1)),(11,vB false),(15,vB true)] [(2,0,cSV A),(3,1,cSV B),(4,2,[Sn,Sn]),(5,3,[vS q1 (joinF A.x B.x i).items.length,vS q6 (joinF A.x B.x (i + 1)).floors.length]),(8,gg,[vI e1.inc,vI e1.rank,vI e1.beat,vI e1.ver,.string e1.data]),(10,gg + 1,[vI e2.inc,vI e2.rank,vI e2.beat,vI e2.ver,.string e2.data])] fun _ _ => ?_
      have hE : topE A.x B.x (i : Int) = zEnt := by rw [topE,← he1,← he2,entP_none he1,entP_none he2]; exact entMax_zz
      have hfa := (floorOf_pos oa.2 (i : Int)).1
      have hle : ¬ (topE A.x B.x (i : Int)).inc > topF A.x B.x (i : Int) := by rw [hE]; unfold topF zEnt; simp only; omega
      rw [if_neg hle] at hJi
      iterate 3 refine ⟨_,rfl,?_⟩
      refine Cm (gg + 2) st' [Ml 2 0,Ml 3 1,Ml 4 2,Ml 5 3,(6,vI (i : Int)),(7,vI (topF A.x B.x (i : Int))),Ml 8 gg,(9,vB false),(10,vL 10 0 (gg + 1)),(11,vB false),(15,vB true),(52,vB true)] [(2,0,cSV A),(3,1,cSV B),(4,2,[Sn,Sn]),(5,3,[vS q1 (joinF A.x B.x i).items.length,vS q6 (joinF A.x B.x (i + 1)).floors.length]),(8,gg,[vI e1.inc,vI e1.rank,vI e1.beat,vI e1.ver,.string e1.data]),(10,gg + 1,[vI e2.inc,vI e2.rank,vI e2.beat,vI e2.ver,.string e2.data])] fun _ _ => ?_
      refine cxs ?_
      have e17 : IntKind.wrap .i64 ((i : Int) + 1) = ((i + 1 : Nat) : Int) := (wrap_i64 (by omega) (by omega)).trans (by omega)
      refine ⟨_,rfl,?_⟩
      rw [← hJi] at hO6
      exact ⟨(i + 1,q1,q6),5 - (i + 1),by omega,⟨rfl,rfl,rfl,rfl,congrArg (Value.int .i64) e17,trivial⟩,⟨rfl,rfl,rfl,(show some (3,[vS q1 (joinF A.x B.x i).items.length,vS q6 (joinF A.x B.x (i + 1)).floors.length]) = _ by rw [hJi]),trivial⟩,rfl,by omega,hO6,hN1,hN6,hP6⟩
     ·iterate 3 refine ⟨_,rfl,?_⟩
      refine ⟨_,Os rfl,?_⟩
      refine Cm (gg + 2) st' [Ml 2 0,Ml 3 1,Ml 4 2,Ml 5 3,(6,vI (i : Int)),(7,vI (topF A.x B.x (i : Int))),Ml 8 gg,(9,vB false),(10,vL 10 0 (gg + 1)),(11,vB true),(15,vB true)] [(2,0,cSV A),(3,1,cSV B),(4,2,[Sn,Sn]),(5,3,[vS q1 (joinF A.x B.x i).items.length,vS q6 (joinF A.x B.x (i + 1)).floors.length]),(8,gg,[vI e1.inc,vI e1.rank,vI e1.beat,vI e1.ver,.string e1.data]),(10,gg + 1,[vI e2.inc,vI e2.rank,vI e2.beat,vI e2.ver,.string e2.data])] fun _ _ => ?_
      have hE : topE A.x B.x (i : Int) = entMax e1 e2 := by rw [topE,← he1,← he2]
      have hfa := (floorOf_pos oa.2 (i : Int)).1
      rw [hE] at hJi
      iterate 3 refine ⟨_,rfl,?_⟩
      refine Cm (gg + 2) st' [Ml 2 0,Ml 3 1,Ml 4 2,Ml 5 3,(6,vI (i : Int)),(7,vI (topF A.x B.x (i : Int))),Ml 8 gg,(9,vB false),(10,vL 10 0 (gg + 1)),(11,vB true),(15,vB true),(52,vB false)] [(2,0,cSV A),(3,1,cSV B),(4,2,[Sn,Sn]),(5,3,[vS q1 (joinF A.x B.x i).items.length,vS q6 (joinF A.x B.x (i + 1)).floors.length]),(8,gg,[vI e1.inc,vI e1.rank,vI e1.beat,vI e1.ver,.string e1.data]),(10,gg + 1,[vI e2.inc,vI e2.rank,vI e2.beat,vI e2.ver,.string e2.data])] fun _ _ => ?_
      refine cxs ?_
      refine ⟨_,Od rfl,?_⟩
      refine ⟨_,rfl,?_⟩
      refine ⟨_,Os rfl,?_⟩
      refine Cm (gg + 3) st' [Ml 2 0,Ml 3 1,Ml 4 2,Ml 5 3,(6,vI (i : Int)),(7,vI (topF A.x B.x (i : Int))),Ml 8 gg,(9,vB false),(10,vL 10 0 (gg + 1)),(11,vB true),(12,vL 12 0 (gg + 2)),(15,vB true),(52,vB false)] [(2,0,cSV A),(3,1,cSV B),(4,2,[Sn,Sn]),(5,3,[vS q1 (joinF A.x B.x i).items.length,vS q6 (joinF A.x B.x (i + 1)).floors.length]),(8,gg,[vI e1.inc,vI e1.rank,vI e1.beat,vI e1.ver,.string e1.data]),(10,gg + 1,[vI e2.inc,vI e2.rank,vI e2.beat,vI e2.ver,.string e2.data]),(12,gg + 2,[vI e1.inc,vI e1.rank,vI e1.beat,vI e1.ver,.string e1.data])] fun _ _ => ?_
      iterate 2 refine ⟨_,rfl,?_⟩
      refine Cm (gg + 3) st' [Ml 2 0,Ml 3 1,Ml 4 2,Ml 5 3,(6,vI (i : Int)),(7,vI (topF A.x B.x (i : Int))),Ml 8 gg,(9,vB false),(10,vL 10 0 (gg + 1)),(11,vB true),(12,vL 12 0 (gg + 2)),(15,vB true),(52,vB false),(64,vB true)] [(2,0,cSV A),(3,1,cSV B),(4,2,[Sn,Sn]),(5,3,[vS q1 (joinF A.x B.x i).items.length,vS q6 (joinF A.x B.x (i + 1)).floors.length]),(8,gg,[vI e1.inc,vI e1.rank,vI e1.beat,vI e1.ver,.string e1.data]),(10,gg + 1,[vI e2.inc,vI e2.rank,vI e2.beat,vI e2.ver,.string e2.data]),(12,gg + 2,[vI e1.inc,vI e1.rank,vI e1.beat,vI e1.ver,.string e1.data])] fun _ _ => ?_
      have hm : entMax e1 e2 = e2 := by rw [entP_none he1]; exact (entMax_zero (ent_ok ob he2).1.1).2
      rw [hm] at hJi
      have hO7 := hO6
      have hP8 := hP6
      refine ⟨_,Od rfl,?_⟩
      refine ⟨_,Os rfl,?_⟩
      exact ⟨(q6,e2,_),⟨rfl,rfl,rfl,rfl,rfl,rfl,rfl,rfl,trivial⟩,⟨rfl,rfl,rfl,rfl,rfl,trivial⟩,hJi,hO7,hN6,hP8⟩
    ·iterate 3 refine ⟨_,rfl,?_⟩
     refine ⟨_,Os rfl,?_⟩
     refine Cm (gg + 1) st' [Ml 2 0,Ml 3 1,Ml 4 2,Ml 5 3,(6,vI (i : Int)),(7,vI (topF A.x B.x (i : Int))),Ml 8 gg,(9,vB true),(15,vB true)] [(2,0,cSV A),(3,1,cSV B),(4,2,[Sn,Sn]),(5,3,[vS q1 (joinF A.x B.x i).items.length,vS q6 (joinF A.x B.x (i + 1)).floors.length]),(8,gg,[vI e1.inc,vI e1.rank,vI e1.beat,vI e1.ver,.string e1.data])] fun _ _ => ?_
     refine ⟨_,Od rfl,?_⟩
     refine ⟨_,rfl,(ac_spec_EntryOf B i st' (hB.pres hP6) hb).mono ?_⟩
     rintro _ st' ⟨e2,b2,rfl,he2,rfl⟩
     rcases b2 with _|_
     ·iterate 3 refine ⟨_,rfl,?_⟩
      refine ⟨_,Os rfl,?_⟩
      refine Cm (gg + 2) st' [Ml 2 0,Ml 3 1,Ml 4 2,Ml 5 3,(6,vI (i : Int)),(7,vI (topF A.x B.x (i : Int))),Ml 8 gg,(9,vB true),(10,vL 10 0 (gg + 1)),(11,vB false),(15,vB true)] [(2,0,cSV A),(3,1,cSV B),(4,2,[Sn,Sn]),(5,3,[vS q1 (joinF A.x B.x i).items.length,vS q6 (joinF A.x B.x (i + 1)).floors.length]),(8,gg,[vI e1.inc,vI e1.rank,vI e1.beat,vI e1.ver,.string e1.data]),(10,gg + 1,[vI e2.inc,vI e2.rank,vI e2.beat,vI e2.ver,.string e2.data])] fun _ _ => ?_
      have hE : topE A.x B.x (i : Int) = entMax e1 e2 := by rw [topE,← he1,← he2]
      have hfa := (floorOf_pos oa.2 (i : Int)).1
      rw [hE] at hJi
      iterate 2 refine ⟨_,rfl,?_⟩
      refine Cm (gg + 2) st' [Ml 2 0,Ml 3 1,Ml 4 2,Ml 5 3,(6,vI (i : Int)),(7,vI (topF A.x B.x (i : Int))),Ml 8 gg,(9,vB true),(10,vL 10 0 (gg + 1)),(11,vB false),(15,vB true),(52,vB false)] [(2,0,cSV A),(3,1,cSV B),(4,2,[Sn,Sn]),(5,3,[vS q1 (joinF A.x B.x i).items.length,vS q6 (joinF A.x B.x (i + 1)).floors.length]),(8,gg,[vI e1.inc,vI e1.rank,vI e1.beat,vI e1.ver,.string e1.data]),(10,gg + 1,[vI e2.inc,vI e2.rank,vI e2.beat,vI e2.ver,.string e2.data])] fun _ _ => ?_
      refine cxs ?_
      refine ⟨_,Od rfl,?_⟩
      refine ⟨_,rfl,?_⟩
      refine ⟨_,Os rfl,?_⟩
      refine Cm (gg + 3) st' [Ml 2 0,Ml 3 1,Ml 4 2,Ml 5 3,(6,vI (i : Int)),(7,vI (topF A.x B.x (i : Int))),Ml 8 gg,(9,vB true),(10,vL 10 0 (gg + 1)),(11,vB false),(12,vL 12 0 (gg + 2)),(15,vB true),(52,vB false)] [(2,0,cSV A),(3,1,cSV B),(4,2,[Sn,Sn]),(5,3,[vS q1 (joinF A.x B.x i).items.length,vS q6 (joinF A.x B.x (i + 1)).floors.length]),(8,gg,[vI e1.inc,vI e1.rank,vI e1.beat,vI e1.ver,.string e1.data]),(10,gg + 1,[vI e2.inc,vI e2.rank,vI e2.beat,vI e2.ver,.string e2.data]),(12,gg + 2,[vI e1.inc,vI e1.rank,vI e1.beat,vI e1.ver,.string e1.data])] fun _ _ => ?_
      iterate 3 refine ⟨_,rfl,?_⟩
      refine Cm (gg + 3) st' [Ml 2 0,Ml 3 1,Ml 4 2,Ml 5 3,(6,vI (i : Int)),(7,vI (topF A.x B.x (i : Int))),Ml 8 gg,(9,vB true),(10,vL 10 0 (gg + 1)),(11,vB false),(12,vL 12 0 (gg + 2)),(15,vB true),(52,vB false),(64,vB false)] [(2,0,cSV A),(3,1,cSV B),(4,2,[Sn,Sn]),(5,3,[vS q1 (joinF A.x B.x i).items.length,vS q6 (joinF A.x B.x (i + 1)).floors.length]),(8,gg,[vI e1.inc,vI e1.rank,vI e1.beat,vI e1.ver,.string e1.data]),(10,gg + 1,[vI e2.inc,vI e2.rank,vI e2.beat,vI e2.ver,.string e2.data]),(12,gg + 2,[vI e1.inc,vI e1.rank,vI e1.beat,vI e1.ver,.string e1.data])] fun _ _ => ?_
      have hm : entMax e1 e2 = e1 := by rw [entP_none he2]; exact (entMax_zero (ent_ok oa he1).1.1).1
      rw [hm] at hJi
      have hO7 := hO6
      have hP8 := hP6
      exact ⟨(q6,e1,_),⟨rfl,rfl,rfl,rfl,rfl,rfl,rfl,rfl,trivial⟩,⟨rfl,rfl,rfl,rfl,rfl,trivial⟩,hJi,hO7,hN6,hP8⟩
     ·iterate 3 refine ⟨_,rfl,?_⟩
      refine ⟨_,Os rfl,?_⟩
      refine Cm (gg + 2) st' [Ml 2 0,Ml 3 1,Ml 4 2,Ml 5 3,(6,vI (i : Int)),(7,vI (topF A.x B.x (i : Int))),Ml 8 gg,(9,vB true),(10,vL 10 0 (gg + 1)),(11,vB true),(15,vB true)] [(2,0,cSV A),(3,1,cSV B),(4,2,[Sn,Sn]),(5,3,[vS q1 (joinF A.x B.x i).items.length,vS q6 (joinF A.x B.x (i + 1)).floors.length]),(8,gg,[vI e1.inc,vI e1.rank,vI e1.beat,vI e1.ver,.string e1.data]),(10,gg + 1,[vI e2.inc,vI e2.rank,vI e2.beat,vI e2.ver,.string e2.data])] fun _ _ => ?_
      have hE : topE A.x B.x (i : Int) = entMax e1 e2 := by rw [topE,← he1,← he2]
      have hfa := (floorOf_pos oa.2 (i : Int)).1
      rw [hE] at hJi
      iterate 2 refine ⟨_,rfl,?_⟩
      refine Cm (gg + 2) st' [Ml 2 0,Ml 3 1,Ml 4 2,Ml 5 3,(6,vI (i : Int)),(7,vI (topF A.x B.x (i : Int))),Ml 8 gg,(9,vB true),(10,vL 10 0 (gg + 1)),(11,vB true),(15,vB true),(52,vB false)] [(2,0,cSV A),(3,1,cSV B),(4,2,[Sn,Sn]),(5,3,[vS q1 (joinF A.x B.x i).items.length,vS q6 (joinF A.x B.x (i + 1)).floors.length]),(8,gg,[vI e1.inc,vI e1.rank,vI e1.beat,vI e1.ver,.string e1.data]),(10,gg + 1,[vI e2.inc,vI e2.rank,vI e2.beat,vI e2.ver,.string e2.data])] fun _ _ => ?_
      refine cxs ?_
      refine ⟨_,Od rfl,?_⟩
      refine ⟨_,rfl,?_⟩
      refine ⟨_,Os rfl,?_⟩
      refine Cm (gg + 3) st' [Ml 2 0,Ml 3 1,Ml 4 2,Ml 5 3,(6,vI (i : Int)),(7,vI (topF A.x B.x (i : Int))),Ml 8 gg,(9,vB true),(10,vL 10 0 (gg + 1)),(11,vB true),(12,vL 12 0 (gg + 2)),(15,vB true),(52,vB false)] [(2,0,cSV A),(3,1,cSV B),(4,2,[Sn,Sn]),(5,3,[vS q1 (joinF A.x B.x i).items.length,vS q6 (joinF A.x B.x (i + 1)).floors.length]),(8,gg,[vI e1.inc,vI e1.rank,vI e1.beat,vI e1.ver,.string e1.data]),(10,gg + 1,[vI e2.inc,vI e2.rank,vI e2.beat,vI e2.ver,.string e2.data]),(12,gg + 2,[vI e1.inc,vI e1.rank,vI e1.beat,vI e1.ver,.string e1.data])] fun _ _ => ?_
      refine ⟨_,rfl,?_⟩
      refine ⟨_,Od rfl,?_⟩
      refine ⟨_,Od rfl,?_⟩
      refine ⟨_,rfl,(ac_spec_EntryCmp e2 e1 st').mono ?_⟩
      rintro _ s7 ⟨rfl,hP7⟩
      refine ⟨_,rfl,?_⟩
      rintro (_|_) h3
      ·replace h3 : ¬ (entCmp e2 e1 > 0) := of_decide_eq_false h3
       iterate 2 refine ⟨_,rfl,?_⟩
       refine Cm (gg + 3) s7 [Ml 2 0,Ml 3 1,Ml 4 2,Ml 5 3,(6,vI (i : Int)),(7,vI (topF A.x B.x (i : Int))),Ml 8 gg,(9,vB true),(10,vL 10 0 (gg + 1)),(11,vB true),(12,vL 12 0 (gg + 2)),(15,vB true),(52,vB false),(64,vB false)] [(2,0,cSV A),(3,1,cSV B),(4,2,[Sn,Sn]),(5,3,[vS q1 (joinF A.x B.x i).items.length,vS q6 (joinF A.x B.x (i + 1)).floors.length]),(8,gg,[vI e1.inc,vI e1.rank,vI e1.beat,vI e1.ver,.string e1.data]),(10,gg + 1,[vI e2.inc,vI e2.rank,vI e2.beat,vI e2.ver,.string e2.data]),(12,gg + 2,[vI e1.inc,vI e1.rank,vI e1.beat,vI e1.ver,.string e1.data])] fun _ _ => ?_
       have hm : entMax e1 e2 = e1 := by rw [entMax,if_neg (by have := entCmp_neg e1 e2; omega)]
       rw [hm] at hJi
       have hO7 := hO6.pres hP7
       have hP8 := hP6.trans hP7
       exact ⟨(q6,e1,_),⟨rfl,rfl,rfl,rfl,rfl,rfl,rfl,rfl,trivial⟩,⟨rfl,rfl,rfl,rfl,rfl,trivial⟩,hJi,hO7,hN6,hP8⟩
      ·replace h3 : entCmp e2 e1 > 0 := of_decide_eq_true h3
       iterate 2 refine ⟨_,rfl,?_⟩
       refine Cm (gg + 3) s7 [Ml 2 0,Ml 3 1,Ml 4 2,Ml 5 3,(6,vI (i : Int)),(7,vI (topF A.x B.x (i : Int))),Ml 8 gg,(9,vB true),(10,vL 10 0 (gg + 1)),(11,vB true),(12,vL 12 0 (gg + 2)),(15,vB true),(52,vB false),(64,vB true)] [(2,0,cSV A),(3,1,cSV B),(4,2,[Sn,Sn]),(5,3,[vS q1 (joinF A.x B.x i).items.length,vS q6 (joinF A.x B.x (i + 1)).floors.length]),(8,gg,[vI e1.inc,vI e1.rank,vI e1.beat,vI e1.ver,.string e1.data]),(10,gg + 1,[vI e2.inc,vI e2.rank,vI e2.beat,vI e2.ver,.string e2.data]),(12,gg + 2,[vI e1.inc,vI e1.rank,vI e1.beat,vI e1.ver,.string e1.data])] fun _ _ => ?_
       have hm : entMax e1 e2 = e2 := by rw [entMax,if_pos (by have := entCmp_neg e1 e2; omega)]
       rw [hm] at hJi
       have hO7 := hO6.pres hP7
       have hP8 := hP6.trans hP7
       refine ⟨_,Od rfl,?_⟩
       refine ⟨_,Os rfl,?_⟩
       exact ⟨(q6,e2,_),⟨rfl,rfl,rfl,rfl,rfl,rfl,rfl,rfl,trivial⟩,⟨rfl,rfl,rfl,rfl,rfl,trivial⟩,hJi,hO7,hN6,hP8⟩
  ·rintro ⟨q6,e,g12⟩ ρ0 ff gg st' ⟨hJi2,hO7,hN6,hP8⟩
   simp only at hJi2 hO7 hN6
   refine ⟨_,rfl,?_⟩
   refine ⟨_,Od rfl,?_⟩
   refine ⟨_,rfl,?_⟩
   rintro (_|_) h4
   ·replace h4 : ¬ (e.inc > topF A.x B.x (i : Int)) := of_decide_eq_false h4
    refine Cm gg st' [Ml 2 0,Ml 3 1,Ml 4 2,Ml 5 3,(6,vI (i : Int)),(7,vI (topF A.x B.x (i : Int))),Ml 12 g12,(15,vB true),(69,vB false)] [(2,0,cSV A),(3,1,cSV B),(4,2,[Sn,Sn]),(5,3,[vS q1 (joinF A.x B.x i).items.length,vS q6 (joinF A.x B.x (i + 1)).floors.length]),(12,g12,[vI e.inc,vI e.rank,vI e.beat,vI e.ver,.string e.data])] fun _ _ => ?_
    refine cxs ?_
    have e17 : IntKind.wrap .i64 ((i : Int) + 1) = ((i + 1 : Nat) : Int) := (wrap_i64 (by omega) (by omega)).trans (by omega)
    refine ⟨_,rfl,?_⟩
    rw [if_neg h4] at hJi2
    exact ⟨(i + 1,q1,q6),5 - (i + 1),by omega,⟨rfl,rfl,rfl,rfl,congrArg (Value.int .i64) e17,trivial⟩,⟨rfl,rfl,rfl,(show some (3,[vS q1 (joinF A.x B.x i).items.length,vS q6 (joinF A.x B.x (i + 1)).floors.length]) = _ by rw [hJi2]),trivial⟩,rfl,by omega,by rw [hJi2]; exact hO7,hN1,hN6,hP8⟩
   ·replace h4 : e.inc > topF A.x B.x (i : Int) := of_decide_eq_true h4
    refine Cm gg st' [Ml 2 0,Ml 3 1,Ml 4 2,Ml 5 3,(6,vI (i : Int)),(7,vI (topF A.x B.x (i : Int))),Ml 12 g12,(15,vB true),(69,vB true)] [(2,0,cSV A),(3,1,cSV B),(4,2,[Sn,Sn]),(5,3,[vS q1 (joinF A.x B.x i).items.length,vS q6 (joinF A.x B.x (i + 1)).floors.length]),(12,g12,[vI e.inc,vI e.rank,vI e.beat,vI e.ver,.string e.data])] fun _ _ => ?_
    refine ⟨_,rfl,?_⟩
    refine ⟨_,Od rfl,?_⟩
    refine ⟨_,Od rfl,?_⟩
    refine ⟨_,rfl,?_⟩
    refine op_one (z := 6) (a := (⟨(i : Int),e⟩ : Itm)) (f := cItm) rfl rfl rfl rfl rfl (by decide) rfl (Lb rfl) rfl rfl rfl ?_
    refine op_add (z := 6) (st := st') (f := cItm) (b := 56) (l := (joinF A.x B.x i).items) rfl rfl rfl rfl rfl rfl rfl (by decide) len_cItm rfl rfl rfl (by omega) (by unfold maxLen; omega) (pcS_i hO7) ?_
    intro q8 s8 hO8 hP9 hN8
    refine ⟨_,rfl,?_⟩
    refine ⟨_,Os rfl,?_⟩
    refine Cm gg s8 [Ml 2 0,Ml 3 1,Ml 4 2,Ml 5 3,(6,vI (i : Int)),(7,vI (topF A.x B.x (i : Int))),Ml 12 g12,(15,vB true),(69,vB true)] [(2,0,cSV A),(3,1,cSV B),(4,2,[Sn,Sn]),(5,3,[vS q8 ((joinF A.x B.x i).items.length + 1),vS q6 (joinF A.x B.x (i + 1)).floors.length]),(12,g12,[vI e.inc,vI e.rank,vI e.beat,vI e.ver,.string e.data])] fun _ _ => ?_
    have e17 : IntKind.wrap .i64 ((i : Int) + 1) = ((i + 1 : Nat) : Int) := (wrap_i64 (by omega) (by omega)).trans (by omega)
    refine ⟨_,rfl,?_⟩
    rw [if_pos h4] at hJi2
    exact ⟨(i + 1,q8,q6),5 - (i + 1),by omega,⟨rfl,rfl,rfl,rfl,congrArg (Value.int .i64) e17,trivial⟩,⟨rfl,rfl,rfl,(show some (3,[vS q8 ((joinF A.x B.x i).items.length + 1),vS q6 (joinF A.x B.x (i + 1)).floors.length]) = _ by rw [hJi2,List.length_append]; rfl),trivial⟩,rfl,by omega,by rw [hJi2]; exact pcS_items hO7 hP9 hO8 hN8,hN8.le hP8.1,hN6,hP9.pres hP8 hN1⟩
theorem pick_get {β : Type} {f : Nat → Option β} {n i : Nat} {x : β} (h : ((List.range n).filterMap f)[i]? = some x) : ∃ j,j < n ∧ f j = some x := by
 obtain ⟨j,hj,hf⟩ := List.mem_filterMap.1 (List.mem_of_getElem? h)
 exact ⟨j,List.mem_range.1 hj,hf⟩
theorem pick_lt {β : Type} {f : Nat → Option β} {id : β → Int} (hid : ∀ j x,f j = some x → id x = (j : Int)) {n i : Nat} {x y : β} (h : ((List.range n).filterMap f)[i]? = some x) (h0 : 0 < i) (hy : ((List.range n).filterMap f)[i - 1]? = some y) : id y < id x := by
 have hp : ((List.range n).filterMap f).Pairwise fun a b => id a < id b := by
  rw [List.pairwise_filterMap]
  refine List.Pairwise.imp ?_ List.pairwise_lt_range
  intro a b hab u hu v hv
  rw [hid a u hu,hid b v hv]
  omega
 rw [List.pairwise_iff_getElem] at hp
 obtain ⟨h1,h2⟩ := List.getElem?_eq_some_iff.1 h
 obtain ⟨h3,h4⟩ := List.getElem?_eq_some_iff.1 hy
 rw [← h2,← h4]
 exact hp _ _ h3 h1 (by omega)
theorem floorOf_snoc (l : List Flr) (x : Flr) (id : Int) : floorOf (l ++ [x]) id = if (∃ y ∈ l,y.id = id) then floorOf l id else if x.id = id then x.inc else 0 := by
 induction l with
 | nil => simp [floorOf]
 | cons y l ih =>
  rw [List.cons_append,floorOf,floorOf,ih]
  by_cases h : y.id = id
  ·simp [h]
  ·simp [h]
theorem floorOf_pick (t : Int → Int) (id : Nat) : ∀ n,floorOf ((List.range n).filterMap fun (j : Nat) => if t (j : Int) > 0 then some (⟨(j : Int),t (j : Int)⟩ : Flr) else none) (id : Int) = if id < n ∧ t (id : Int) > 0 then t (id : Int) else 0
 | 0 => by simp [floorOf]
 | n + 1 => by
  have ih := floorOf_pick t id n
  rw [List.range_succ,List.filterMap_append]
  have hex : (∃ y ∈ (List.range n).filterMap (fun (j : Nat) => if t (j : Int) > 0 then some (⟨(j : Int),t (j : Int)⟩ : Flr) else none),y.id = (id : Int)) ↔ id < n ∧ t (id : Int) > 0 := by
   constructor
   ·rintro ⟨y,hy,hid⟩
    obtain ⟨j,hj,hf⟩ := List.mem_filterMap.1 hy
    split at hf
    ·rename_i ht
     injection hf with hf
     rw [← hf] at hid
     have hid : (j : Int) = (id : Int) := hid
     have : j = id := by omega
     exact ⟨by rw [← this]; exact List.mem_range.1 hj,by rw [← this]; exact ht⟩
    ·cases hf
   ·rintro ⟨h1,h2⟩
    exact ⟨⟨(id : Int),t (id : Int)⟩,List.mem_filterMap.2 ⟨id,List.mem_range.2 h1,by rw [if_pos h2]⟩,rfl⟩
  by_cases hn : t (n : Int) > 0
  ·simp only [List.filterMap_cons,List.filterMap_nil,hn,if_true]
   rw [floorOf_snoc]
   by_cases h1 : id < n ∧ t (id : Int) > 0
   ·rw [if_pos (hex.2 h1),ih,if_pos h1,if_pos ⟨by omega,h1.2⟩]
   ·rw [if_neg (fun h => h1 (hex.1 h))]
    by_cases h2 : n = id
    ·subst h2; rw [if_pos rfl,if_pos ⟨Nat.lt_succ_self _,hn⟩]
    ·rw [if_neg (by simp only; omega),if_neg (fun h => h1 ⟨by omega,h.2⟩)]
  ·simp only [List.filterMap_cons,List.filterMap_nil,hn,if_false,List.append_nil]
   rw [ih]
   by_cases h1 : id < n ∧ t (id : Int) > 0
   ·rw [if_pos h1,if_pos ⟨by omega,h1.2⟩]
   ·rw [if_neg h1,if_neg (fun h => h1 ⟨by
     rcases Nat.lt_or_ge id n with h3 | h3
     ·exact h3
     ·have : id = n := by omega
      subst this; exact absurd h.2 hn,h.2⟩)]
theorem topF_pos {a b : Sta} (ha : marksOk a.floors) (hb : marksOk b.floors) (id : Int) : 0 ≤ topF a b id ∧ topF a b id ≤ 1000 := by
 have h1 := floorOf_pos ha id
 have h2 := floorOf_pos hb id
 unfold topF
 omega
theorem floorOf_join {a b : Sta} (ha : marksOk a.floors) (hb : marksOk b.floors) {n id : Nat} (h : id < n) : floorOf (joinF a b n).floors (id : Int) = topF a b (id : Int) := by
 have h1 := (topF_pos ha hb (id : Int)).1
 show floorOf ((List.range n).filterMap fun (j : Nat) => if topF a b (j : Int) > 0 then some (⟨(j : Int),topF a b (j : Int)⟩ : Flr) else none) (id : Int) = _
 rw [floorOf_pick (fun i => topF a b i) id n]
 by_cases h2 : topF a b (id : Int) > 0
 ·rw [if_pos ⟨h,h2⟩]
 ·rw [if_neg (fun h => h2 h.2)]; omega
theorem entP_cases {s : Sta} (h : ∀ (j : Nat) x,s.items[j]? = some x → itemOk s j x) (id : Int) : (entP s.items id).1 = zEnt ∨ entOk (entP s.items id).1 := by
 rcases hb : (entP s.items id) with ⟨e,b⟩
 cases b with
 | false => exact .inl (entP_none (e := e) (id := id) hb.symm)
 | true =>
  obtain ⟨j,x,h1,h2,_⟩ := entP_mem (e := e) (id := id) hb.symm
  exact .inr (h2 ▸ (h j x h1).2.1)
theorem stateOk_join {a b : Sta} (ha : stateOk a) (hb : stateOk b) : stateOk (joinF a b 5) := by
 refine ⟨fun i x hx => ?_,fun i x hx => ?_⟩
 ·have hx' : ((List.range 5).filterMap fun (j : Nat) => if (topE a b (j : Int)).inc > topF a b (j : Int) then some (⟨(j : Int),topE a b (j : Int)⟩ : Itm) else none)[i]? = some x := hx
  obtain ⟨j,hj,hf⟩ := pick_get hx'
  split at hf
  ·rename_i ht
   injection hf with hf
   have hfl := floorOf_join ha.2 hb.2 hj
   have htp := (topF_pos ha.2 hb.2 (j : Int)).1
   have he : entOk (topE a b (j : Int)) := by
    have key : topE a b (j : Int) = (entP a.items (j : Int)).1 ∨ topE a b (j : Int) = (entP b.items (j : Int)).1 := by unfold topE entMax; split; exact .inr rfl; exact .inl rfl
    rcases key with h | h
    ·rcases entP_cases ha.1 (j : Int) with h2 | h2
     ·rw [h,h2] at ht; simp only [zEnt] at ht; omega
     ·rw [h]; exact h2
    ·rcases entP_cases hb.1 (j : Int) with h2 | h2
     ·rw [h,h2] at ht; simp only [zEnt] at ht; omega
     ·rw [h]; exact h2
   rw [← hf]
   refine ⟨⟨by simp only; omega,by simp only; omega⟩,he,by simp only; rw [hfl]; exact ht,fun y h0 hy => ?_⟩
   have := pick_lt (id := Itm.id) (fun j x hx => by
    split at hx
    ·injection hx with hx; rw [← hx]
    ·cases hx) hx' h0 hy
   rw [← hf] at this
   exact this
  ·cases hf
 ·have hx' : ((List.range 5).filterMap fun (j : Nat) => if topF a b (j : Int) > 0 then some (⟨(j : Int),topF a b (j : Int)⟩ : Flr) else none)[i]? = some x := hx
  obtain ⟨j,hj,hf⟩ := pick_get hx'
  split at hf
  ·rename_i ht
   injection hf with hf
   have htp := (topF_pos ha.2 hb.2 (j : Int))
   rw [← hf]
   refine ⟨⟨by simp only; omega,by simp only; omega⟩,⟨by simp only; omega,htp.2⟩,fun y h0 hy => ?_⟩
   have := pick_lt (id := Flr.id) (fun j x hx => by
    split at hx
    ·injection hx with hx; rw [← hx]
    ·cases hx) hx' h0 hy
   rw [← hf] at this
   exact this
  ·cases hf
theorem stateOk_nil : stateOk ⟨[],[]⟩ := ⟨fun j x h => (by cases h),fun j x h => (by cases h)⟩
theorem stateOk_floors {l : List Flr} (h : marksOk l) : stateOk ⟨[],l⟩ := ⟨fun j x hx => (nomatch hx),h⟩
def NC (c : Nat) (q : Option Addr) : Prop := ∀ a,q = some a → a.block ≠ c
theorem NC.new {c n : Nat} {q : Option Addr} (hN : New n q) (h : c < n) : NC c q := fun a ha => Nat.ne_of_gt (Nat.lt_of_lt_of_le h (hN a ha))
theorem Cur.lt {st : St} {c : Nat} {p : Option Addr} {bs : List Int} (h : Cur st c p bs) : c < st.next := h.1
def FrC (c : Nat) (a b : St) (l : List Pc) : Prop := OwnP b l ∧ NewP a.next l ∧ PresC c a b ∧ c < a.next
theorem FrC.nil {c : Nat} {a : St} (h : c < a.next) : FrC c a a [] := ⟨OwnP.nil,NewP.nil,PresC.refl _ _,h⟩
theorem Frs.toC {c : Nat} {a b : St} {l : List Pc} (h : Frs a b l) (hc : c < a.next) : FrC c a b l := ⟨h.1,h.2.1,h.2.2.c,hc⟩
theorem OwnP.presC {c n : Nat} {st st' : St} {l : List Pc} (h : OwnP st l) (hP : PresC c st st') (hN : NewP n l) (hn : c < n) : OwnP st' l :=
 h.keep hP.1 fun x hx q hq => hP.2 _ ((h.1 x hx).old q hq) (Nat.ne_of_gt (Nat.lt_of_lt_of_le hn (hN x hx q hq)))
theorem FrC.later {c : Nat} {a b d : St} {l : List Pc} (h : FrC c a b l) (k : PresC c b d) : FrC c a d l := ⟨h.1.presC k h.2.1 h.2.2.2,h.2.1,h.2.2.1.trans k,h.2.2.2⟩
theorem FrC.step {c : Nat} {a b d : St} {l : List Pc} (h : FrC c a b l) (k : Pres b d) : FrC c a d l := h.later k.c
theorem FrC.sooner {c : Nat} {a b d : St} {l : List Pc} (h : FrC c b d l) (k : PresC c a b) (hc : c < a.next) : FrC c a d l := ⟨h.1,h.2.1.le k.1,k.trans h.2.2.1,hc⟩
theorem FrC.join {c : Nat} {a b d : St} {l m : List Pc} (h : FrC c a b l) (k : FrC c b d m) : FrC c a d (l ++ m) :=
 ⟨(h.later k.2.2.1).1.app k.1 fun x hx y hy => Dis.of (h.1.1 x hx).old (k.2.1 y hy),h.2.1.app (k.2.1.le h.2.2.1.1),h.2.2.1.trans k.2.2.1,h.2.2.2⟩
theorem FrC.lt {c : Nat} {a b : St} {l : List Pc} (h : FrC c a b l) : c < b.next := Nat.lt_of_lt_of_le h.2.2.2 h.2.2.1.1
theorem FrC.add {c : Nat} {a b d : St} {l m : List Pc} (h : FrC c a b l) (k : Frs b d m) : FrC c a d (l ++ m) := h.join (k.toC h.lt)
theorem FrC.left {c : Nat} {a b : St} {l m : List Pc} (h : FrC c a b (l ++ m)) : FrC c a b l := ⟨h.1.left,fun x hx => h.2.1 x (List.mem_append_left _ hx),h.2.2⟩
theorem FrC.right {c : Nat} {a b : St} {l m : List Pc} (h : FrC c a b (l ++ m)) : FrC c a b m := ⟨h.1.right,fun x hx => h.2.1 x (List.mem_append_right _ hx),h.2.2⟩
theorem FrC.out {st s1 s2 : St} {l : List Pc} (hF : FrC st.next s1 s2 l) (hP : Pres st s1) : Frs st s2 l := ⟨hF.1,hF.2.1.le hP.1,PresC.pres hP hF.2.2.1 (Nat.le_refl _)⟩
theorem PresC.thenNew {c : Nat} {q : Option Addr} {a b d : St} (h : PresC c a b) (k : Pr q b d) (hn : New a.next q) : PresC c a d :=
 ⟨Nat.le_trans h.1 k.1,fun x hx hc => (k.2 x (Nat.lt_of_lt_of_le hx h.1) fun r hr he => by have := hn r hr; omega).trans (h.2 x hx hc)⟩
theorem Cur.thenNew {c : Nat} {p q : Option Addr} {bs : List Int} {s0 s1 s2 : St} (h1 : Cur s1 c p bs) (h0 : Cur s0 c p bs) (h : PresC c s0 s1) (k : Pr q s1 s2) (hn : New s0.next q) : Cur s2 c p bs := Cur.grow h0 h h1 k.2 k.1 hn
theorem FrC.items {c : Nat} {a b d : St} {u : SV} {q : Option Addr} {l : List Itm} (h : FrC c a b (pcS u)) (hp : Pr u.p b d) (ho : OwnR d 6 cItm q l) (hn : New b.next q) : FrC c a d (pcS ⟨q,u.q,⟨l,u.x.floors⟩⟩) ∧ PresC c a d :=
 have hP := PresC.thenNew h.2.2.1 hp (h.2.1 _ (List.mem_cons_self ..))
 ⟨⟨pcS_items h.1 hp ho hn,NewP.cons (hn.le h.2.2.1.1) (NewP.cons (h.2.1 _ (List.mem_cons_of_mem _ (List.mem_cons_self ..))) NewP.nil),hP,h.2.2.2⟩,hP⟩
theorem FrC.floors {c : Nat} {a b d : St} {u : SV} {q : Option Addr} {l : List Flr} (h : FrC c a b (pcS u)) (hp : Pr u.q b d) (ho : OwnR d 2 cFlr q l) (hn : New b.next q) : FrC c a d (pcS ⟨u.p,q,⟨u.x.items,l⟩⟩) ∧ PresC c a d :=
 have hP := PresC.thenNew h.2.2.1 hp (h.2.1 _ (List.mem_cons_of_mem _ (List.mem_cons_self ..)))
 ⟨⟨pcS_floors h.1 hp ho hn,NewP.cons (h.2.1 _ (List.mem_cons_self ..)) (NewP.cons (hn.le h.2.2.1.1) NewP.nil),hP,h.2.2.2⟩,hP⟩
theorem FrC.setItems {c : Nat} {a b d : St} {u : SV} {l : List Itm} (h : FrC c a b (pcS u)) (hp : Pr u.p b d) (ho : OwnR d 6 cItm u.p l) : FrC c a d (pcS ⟨u.p,u.q,⟨l,u.x.floors⟩⟩) ∧ PresC c a d :=
 have hP := PresC.thenNew h.2.2.1 hp (h.2.1 _ (List.mem_cons_self ..))
 ⟨⟨OwnP.update (l := []) (m := [pcR 2 cFlr u.q u.x.floors]) (d := pcR 6 cItm u.p l) h.1 hp (own_pc ho) rfl,NewP.cons (h.2.1 (pcR 6 cItm u.p u.x.items) (List.mem_cons_self ..)) (NewP.cons (h.2.1 _ (List.mem_cons_of_mem _ (List.mem_cons_self ..))) NewP.nil),hP,h.2.2.2⟩,hP⟩
theorem Frs.nlS {a : St} : Frs a a (pcS ⟨none,none,nilS⟩) := ⟨pcS_nil,newS_nil,Pres.refl _⟩
structure smS (n : Nat) (x : Sta) : Prop where
 i : x.items.length ≤ n
 f : x.floors.length ≤ n
 d : ∀ y ∈ x.items,y.e.data.size ≤ 9
theorem smS.big {n : Nat} {x : Sta} (h : smS n x) (hn : n ≤ 1048576) : bigS x := ⟨Nat.le_trans h.i hn,Nat.le_trans h.f hn,fun y hy => Nat.le_trans (h.d y hy) (by decide)⟩
theorem smS.le {n m : Nat} {x : Sta} (h : smS n x) (k : n ≤ m) : smS m x := ⟨Nat.le_trans h.i k,Nat.le_trans h.f k,h.d⟩
theorem ids_len {α : Type} {id : α → Int} {l : List α} (h : ∀ (j : Nat) x,l[j]? = some x → (0 ≤ id x ∧ id x ≤ 4) ∧ ∀ y,0 < j → l[j - 1]? = some y → id y < id x) : l.length ≤ 5 := by
 have key : ∀ (j : Nat) x,l[j]? = some x → (j : Int) ≤ id x := by
  intro j
  induction j with
  | zero => intro x hx; exact (h 0 x hx).1.1
  | succ j ih =>
   intro x hx
   obtain ⟨hj,_⟩ := List.getElem?_eq_some_iff.1 hx
   have hy : l[j]? = some l[j] := List.getElem?_eq_getElem (by omega)
   have := ih _ hy
   have := (h _ _ hx).2 l[j] (Nat.succ_pos j) hy
   omega
 rcases Nat.lt_or_ge 5 l.length with h5 | h5
 ·have hx : l[5]? = some l[5] := List.getElem?_eq_getElem h5
  have := key 5 _ hx
  have := (h 5 _ hx).1.2
  omega
 ·exact h5
theorem marks_len {l : List Flr} (h : marksOk l) : l.length ≤ 5 := ids_len (id := fun x => x.id) fun j x hx => ⟨(h j x hx).1,(h j x hx).2.2⟩
theorem items_len {s : Sta} (h : stateOk s) : s.items.length ≤ 5 := ids_len (id := fun x => x.id) fun j x hx => ⟨(h.1 j x hx).1,(h.1 j x hx).2.2.2⟩
theorem sm_ok {s : Sta} (h : stateOk s) : smS 5 s := ⟨items_len h,marks_len h.2,fun y hy => by
 obtain ⟨j,hj⟩ := List.getElem?_of_mem hy
 have := (h.1 j y hj).2.1.2.2.2.2
 omega⟩
theorem big_ok {s : Sta} (h : stateOk s) : bigS s := (sm_ok h).big (by decide)
abbrev cStr : ByteArray → List Value := fun s => [.string s]
theorem cStr_len (x : ByteArray) : (cStr x).length = 1 := rfl
theorem ent_mk {i r b v : Int} {d : ByteArray} (h1 : 1 ≤ i ∧ i ≤ 1000) (h2 : 0 ≤ r ∧ r ≤ 1) (h3 : 0 ≤ b ∧ b ≤ 100000) (h4 : 0 ≤ v ∧ v ≤ 1000) (h5 : d.size ≤ 8) : entOk ⟨i,r,b,v,d⟩ := ⟨h1,h2,h3,h4,h5⟩
section
variable {P : Program} {ls : List Tmp} {call : ACallT} {o : Oper} {e : Operand → Value} {lo : Lo} {st : St} {K : Value × Lo × St → Prop}
theorem op_litS {t el : TypeId} {n : Nat} {ps : Array (Nat × Operand)} {u : Value} {l : List ByteArray} (ho : o.op = .buildSlice t n ps) (hp : parts e ps = mkp 0 (l.map Value.string)) (hn : n = l.length) (h0 : 0 < n) (he : telem P t = some el) (hz : tsize P el = some 1) (hz0 : tzero P el = some [u]) (hsz : n ≤ 16777216)
  (hK : ∀ q st',OwnR st' 1 cStr q l → Pres st st' → New st.next q → K (.slice q n n,lo,st')) : ∃ r,aoper P ls call o e lo st = some r ∧ K r := by
 refine op_lit ho hp (by rw [hn,List.length_map]) h0 he hz hz0 Nat.one_pos rfl (by omega) (fun v hv => ?_) ?_
 ·obtain ⟨r,_,rfl⟩ := List.mem_map.1 hv
  exact ⟨rfl,rfl⟩
 ·rw [show (l.map Value.string).flatMap (fun v => v.cells.toList) = l.flatMap cStr by rw [List.flatMap_map]; rfl]
  exact hK _ _ OwnR.push Pres.push New.self
theorem op_putw {α : Type} {f : α → List Value} {z : Nat} {t : TypeId} {x u : Operand} {p : Option Addr} {a d i : Nat} {l : List α} {j : Nat} {w y : α} {ws : List Value} {v : Value} (ho : o.op = .store t x u) (hx : e x = .pointer (some ⟨a,d,none⟩)) (hd : d = j * z + i) (hu : e u = v) (ht : tsize P t = some ws.length) (hz : ∀ x,(f x).length = z) (hv : v.cells.toList = ws) (hi : ws.all isCell = true) (hw : l[j]? = some w) (hf : ∃ A M B,f w = A ++ (M ++ B) ∧ f y = A ++ (ws ++ B) ∧ A.length = i ∧ M.length = ws.length)
  (hown : OwnR st z f p l) (hp : p = some ⟨a,0,none⟩)
  (hK : ∀ st',OwnR st' z f p (l.set j y) → Pr p st st' → st'.next = st.next → K (undef,lo,st')) : ∃ r,aoper P ls call o e lo st = some r ∧ K r := by
 subst hp hd
 rcases hown with ⟨h,_⟩ | ⟨a',h,ha,hm⟩
 ·cases h
 injection h with h
 injection h with h _ _
 subst h
 obtain ⟨hj,_⟩ := List.getElem?_eq_some_iff.1 hw
 obtain ⟨pre,cs,suf,h1,h2,h3,h4⟩ := flat_set hz (l := l) (j := j) (x := y) hj
 rw [hw] at h3
 injection h3 with h3
 obtain ⟨A,M,B,e1,e2,e3,e4⟩ := hf
 have hlen : j * z + i + ws.length ≤ (l.flatMap f).length := by
  rw [h1,← h3,e1]
  simp only [List.length_append]
  omega
 refine op_sta (z := ws.length) ho hx hu rfl ht (by rw [hv]) (by rw [hv]; exact hi) hm rfl hlen fun st' k1 k2 k3 => hK st' (.inr ⟨a,rfl,by omega,?_⟩) ⟨Nat.le_of_eq k2.symm,fun b _ hne => k3 b (fun hb => hne _ rfl hb)⟩ k2
 rw [k1]
 show some (Blk.mk true z (splice (l.flatMap f) (j * z + i) v.cells.toList)) = _
 rw [hv,h4,h1,← h3,e1,e2,← h2,← e3]
 have := splice_mid ws (pre ++ A) M (B ++ suf) e4
 simp only [List.append_assoc,List.length_append] at this ⊢
 rw [this]
end
theorem ac_d_l1Below {p : Option Addr} {bs : List Int} (c : Nat) (n : Int) (st : St) (hc : Cur st c p bs) (hs : bs.length < 1099511627776) : C 70 [vP c 0,vI n] st (fun v s => ∃ r,v = vI r ∧ 0 ≤ r ∧ (0 < n → r < n) ∧ (n ≤ 0 → r = 0) ∧ Cur s c p bs ∧ PresC c st s) := ac_l1Below c p bs n st hc hs
theorem ac_d_l1Once {p : Option Addr} {bs : List Int} (c : Nat) (n : Int) (st : St) (hc : Cur st c p bs) (hs : bs.length < 1099511627776) : C 145 [vP c 0,vI n] st (fun v s => ∃ b,v = .bool b ∧ Cur s c p bs ∧ PresC c st s) := ac_l1Once c p bs n st hc hs
theorem ac_d_l1PickInt {p : Option Addr} {bs : List Int} (c : Nat) (q : Option Addr) (l : List Int) (st : St) (hc : Cur st c p bs) (hs : bs.length < 1099511627776) (hl : 0 < l.length) (hO : OwnR st 1 fI q l) (hp : NC c q) : C 149 [vP c 0,vS q l.length] st (fun v s => ∃ r,v = vI r ∧ r ∈ l ∧ Cur s c p bs ∧ PresC c st s) := by
 refine AC.enter' (i := ⟨[],[],[0,1,4],[]⟩) Try.func149 rfl rfl (by kernel_rfl) Try.ntmps149 (Lb rfl) rfl (cw_sound _ _ _ _ _ ?_)
 refine ⟨_,rfl,?_⟩
 refine ⟨_,rfl,(ac_l1Below c p bs l.length st hc hs).mono ?_⟩
 rintro _ s1 ⟨r1,rfl,h0,h1,_,hc1,hp1⟩
 have h1 := h1 (by omega)
 obtain ⟨j,rfl⟩ : ∃ j : Nat,r1 = j := ⟨r1.toNat,by omega⟩
 have hO1 : OwnR s1 1 fI q l := by
  rcases hO with h | ⟨a,rfl,ha,hm⟩
  ·exact .inl h
  ·exact .inr ⟨a,rfl,Nat.lt_of_lt_of_le ha hp1.1,(hp1.2 a ha (hp _ rfl)).trans hm⟩
 obtain ⟨b1,o1,k1,x,rfl,hx,hb1,hcc,_⟩ := (hO1.rows fI_len).atB (j := j) (by omega)
 refine ⟨_,op_idx rfl rfl rfl rfl rfl (by omega) (by omega),?_⟩
 refine ⟨_,op_ldc (i := 0) rfl rfl rfl rfl hb1 hcc rfl rfl,?_⟩
 exact Rt ⟨x,rfl,List.mem_of_getElem? hx,hc1,hp1⟩
theorem ac_d_l1Pick {p : Option Addr} {bs : List Int} (c : Nat) (q : Option Addr) (l : List ByteArray) (st : St) (hc : Cur st c p bs) (hs : bs.length < 1099511627776) (hl : 0 < l.length) (hO : OwnR st 1 cStr q l) (hp : NC c q) : C 191 [vP c 0,vS q l.length] st (fun v s => ∃ r : ByteArray,v = .string r ∧ r ∈ l ∧ Cur s c p bs ∧ PresC c st s) := by
 refine AC.enter' (i := ⟨[],[],[0,1,4],[]⟩) Try.func191 rfl rfl (by kernel_rfl) Try.ntmps191 (Lb rfl) rfl (cw_sound _ _ _ _ _ ?_)
 refine ⟨_,rfl,?_⟩
 refine ⟨_,rfl,(ac_l1Below c p bs l.length st hc hs).mono ?_⟩
 rintro _ s1 ⟨r1,rfl,h0,h1,_,hc1,hp1⟩
 have h1 := h1 (by omega)
 obtain ⟨j,rfl⟩ : ∃ j : Nat,r1 = j := ⟨r1.toNat,by omega⟩
 have hO1 : OwnR s1 1 cStr q l := by
  rcases hO with h | ⟨a,rfl,ha,hm⟩
  ·exact .inl h
  ·exact .inr ⟨a,rfl,Nat.lt_of_lt_of_le ha hp1.1,(hp1.2 a ha (hp _ rfl)).trans hm⟩
 obtain ⟨b1,o1,k1,x,rfl,hx,hb1,hcc,_⟩ := (hO1.rows cStr_len).atB (j := j) (by omega)
 refine ⟨_,op_idx rfl rfl rfl rfl rfl (by omega) (by omega),?_⟩
 refine ⟨_,op_ldc (i := 0) rfl rfl rfl rfl hb1 hcc rfl rfl,?_⟩
 exact Rt ⟨x,rfl,List.mem_of_getElem? hx,hc1,hp1⟩
theorem texts_8 {x : ByteArray} (h : x ∈ [⟨#[]⟩,⟨#[97]⟩,⟨#[98]⟩,⟨#[97,98]⟩,⟨#[49,50,51,52,53,54,55,56]⟩]) : x.size ≤ 8 := by
 simp only [List.mem_cons,List.not_mem_nil,or_false] at h
 rcases h with rfl | rfl | rfl | rfl | rfl <;> decide
theorem ac_d_l2Right {p : Option Addr} {bs : List Int} (c : Nat) (st : St) (hc : Cur st c p bs) (hs : bs.length < 1099511627776) : C 180 [vP c 0] st (fun v s => ∃ e : Ent,v = .agg #[vI e.inc,vI e.rank,vI e.beat,vI e.ver,.string e.data] ∧ entOk e ∧ Cur s c p bs ∧ PresC c st s) := by
 refine AC.enterX (i := ⟨[2],[2],[0,2],[]⟩) [] Try.func180 rfl rfl (by kernel_rfl) (by kernel_rfl) Try.ntmps180 (Lb rfl) rfl ?_
 refine ⟨_,rfl,?_⟩
 refine Cm 1 st [(0,vP c 0),Ml 2 0] [(2,0,[vI 0,vI 0,vI 0,vI 0,.string ⟨#[]⟩])] fun _ _ => ?_
 refine ⟨_,rfl,(ac_d_l1Below c 3 st hc (by first | assumption | omega)).mono ?_⟩
 rintro _ s4 ⟨r4,rfl,h4,h4',h4'',hC4,hL4⟩
 have ew5 : IntKind.wrap .i64 ((1) + r4) = (1) + r4 := wrap_i64 (by omega) (by omega)
 refine ⟨_,rfl,?_⟩
 refine ⟨_,rfl,(ac_d_l1Below c 2 s4 hC4 (by first | assumption | omega)).mono ?_⟩
 rintro _ s7 ⟨r7,rfl,h7,h7',h7'',hC7,hL7⟩
 refine ⟨_,rfl,(ac_d_l1Below c 3 s7 hC7 (by first | assumption | omega)).mono ?_⟩
 rintro _ s9 ⟨r9,rfl,h9,h9',h9'',hC9,hL9⟩
 refine ⟨_,rfl,(ac_d_l1Below c 3 s9 hC9 (by first | assumption | omega)).mono ?_⟩
 rintro _ s11 ⟨r11,rfl,h11,h11',h11'',hC11,hL11⟩
 refine op_litS (l := [⟨#[]⟩,⟨#[97]⟩,⟨#[98]⟩,⟨#[97,98]⟩,⟨#[49,50,51,52,53,54,55,56]⟩]) rfl rfl rfl (Lb rfl) rfl rfl rfl (Lb rfl) ?_
 intro q13 s13 hO13 hP13 hN13
 refine ⟨_,rfl,(ac_d_l1Pick c q13 ([⟨#[]⟩,⟨#[97]⟩,⟨#[98]⟩,⟨#[97,98]⟩,⟨#[49,50,51,52,53,54,55,56]⟩]) s13 (hC11.pres hP13) (by first | assumption | omega) (by first | assumption | omega | decide) (by first | assumption | omega) (by first | assumption | exact NC.new (by assumption) (Cur.lt (by assumption)))).mono ?_⟩
 rintro _ s14 ⟨r14,rfl,h14,hC14,hL14⟩
 refine ⟨_,rfl,?_⟩
 refine ⟨_,Os rfl,?_⟩
 exact cxs (Rt ⟨⟨IntKind.wrap .i64 (1 + r4),r7,r9,r11,r14⟩,rfl,ent_mk (by omega) (by omega) (by omega) (by omega) (texts_8 h14),hC14,((((hL4.trans hL7).trans hL9).trans hL11).trans hP13.c).trans hL14⟩)
structure smM (g : Mg) : Prop where
 tree : g.tree.leaves.length ≤ 4
 vec : g.vec.length ≤ 5
 leaves : g.leaves.length ≤ 4
 items : g.part.items.length ≤ 5
 floors : g.part.floors.length ≤ 5
 part : stateOk g.part
 marks : g.marks.length ≤ 5
theorem msg_sm {g : Mg} (h : msgOk g) : smM g := by
 obtain ⟨_,_,h1,h2,h3,h4,h5⟩ := h
 refine ⟨?_,?_,?_,items_len h4,marks_len h4.2,h4,marks_len h5⟩
 ·unfold trOk at h1
  split at h1
  ·omega
  ·omega
 ·have := h2.1
  omega
 ·rcases Nat.lt_or_ge g.leaves.length 5 with h6 | h6
  ·omega
  ·have h7 := inc_ge h3 4 _ (List.getElem?_eq_getElem (by omega))
   have h8 := (h3 4 _ (List.getElem?_eq_getElem (by omega))).1.2
   omega
theorem sm_len {g : Mg} (h : smM g) : (mgB g).length ≤ 600 := by
 have h1 := numsL_len g.tree.leaves
 have h2 := numsL_len g.vec
 have h3 := numsL_len g.leaves
 have h4 := stB_len h.part
 have h5 := putN_len g.tree.root
 have h6 := putN_len ((stB g.part).length : Int)
 have h7 := putN_len (g.marks.length : Int)
 have h8 := numsB_len (mgN g)
 have e8 : (mgN g).length = 5 := rfl
 have h9 := fls_len g.marks g.marks.length
 rw [List.take_length] at h9
 have b1 := h.tree
 have b2 := h.vec
 have b3 := h.leaves
 have b4 := h.items
 have b5 := h.floors
 have b6 := h.marks
 have e9 : (crcB (mgB0 g)).length = 4 := rfl
 rw [mgB,List.length_append,e9,mgB0,List.length_append]
 simp only [mgH,List.length_append,List.length_cons,List.length_nil]
 omega
theorem mgBz_len (g : Mg) : (mgBz g).length ≤ 600 := by
 unfold mgBz
 split
 ·rename_i h; exact sm_len (msg_sm h)
 ·exact Nat.zero_le _
theorem mgBz_ok (g : Mg) : bytesOk (mgBz g) := by
 unfold mgBz
 split
 ·exact mgB_ok g
 ·intro x hx; cases hx
def gnF : List Int → Nat → Int → Option (Int × Nat)
 | [],_,_ => none
 | b :: t,i,n => if 5 ≤ i then none else if b < 128 then (if (0 < i ∧ b = 0) ∨ 2147483647 < n + b * 2 ^ (7 * i) then none else some (n + b * 2 ^ (7 * i),i + 1)) else gnF t (i + 1) (n + b % 128 * 2 ^ (7 * i))
theorem gnF_vlq : ∀ (k i n : Nat) (r : List Int),n + k * 2 ^ (7 * i) ≤ 2147483647 → (0 < k ∨ i = 0) → gnF (vlq k ++ r) i n = some (((n + k * 2 ^ (7 * i) : Nat) : Int),i + (vlq k).length) := by
 intro k
 induction k using Nat.strongRecOn with
 | _ k ih =>
  intro i n r h hk
  have h5 : ¬ 5 ≤ i := by
   intro h5
   rcases hk with hk | hk
   ·have h1 : 2 ^ 35 ≤ 2 ^ (7 * i) := Nat.pow_le_pow_right (by decide) (by omega)
    have h2 : 2 ^ (7 * i) ≤ k * 2 ^ (7 * i) := Nat.le_mul_of_pos_left _ hk
    have h3 : (2 : Nat) ^ 35 = 34359738368 := by decide
    omega
   ·omega
  by_cases hlt : k < 128
  ·rw [vlq_lt hlt]
   simp only [List.cons_append,List.nil_append,gnF]
   rw [if_neg h5,if_pos (by omega)]
   have hc : ((n : Int) + (k : Int) * 2 ^ (7 * i)) = ((n + k * 2 ^ (7 * i) : Nat) : Int) := by push_cast; rfl
   rw [if_neg (by rw [hc]; omega),hc]
   rfl
  ·rw [vlq_ge hlt]
   simp only [List.cons_append,gnF]
   rw [if_neg h5,if_neg (by omega)]
   have hm : (((k % 128 + 128 : Nat) : Int) % 128) = ((k % 128 : Nat) : Int) := by omega
   have hc : ((n : Int) + ((k % 128 : Nat) : Int) * 2 ^ (7 * i)) = ((n + k % 128 * 2 ^ (7 * i) : Nat) : Int) := by push_cast; rfl
   have hp : n + k % 128 * 2 ^ (7 * i) + k / 128 * 2 ^ (7 * (i + 1)) = n + k * 2 ^ (7 * i) := by
    have e1 : 2 ^ (7 * (i + 1)) = 128 * 2 ^ (7 * i) := by rw [Nat.mul_add,Nat.pow_add,Nat.mul_comm]
    rw [e1,← Nat.mul_assoc,Nat.add_assoc,← Nat.add_mul]
    congr 2
    omega
   rw [hm,hc,ih (k / 128) (by omega) (i + 1) (n + k % 128 * 2 ^ (7 * i)) r (by rw [hp]; exact h) (.inl (by omega)),hp]
   simp only [List.length_cons]
   rw [show i + 1 + (vlq (k / 128)).length = i + ((vlq (k / 128)).length + 1) by omega]
def gnAt (l : List Int) (at_ : Int) : Option (Int × Int) := if at_ < 0 then none else (gnF (l.drop at_.toNat) 0 0).map fun r => (r.1,at_ + r.2)
theorem gnAt_put {a r : List Int} {n : Int} (h : 0 ≤ n ∧ n ≤ 2147483647) : gnAt (a ++ (putN n ++ r)) a.length = some (n,(a.length : Int) + (putN n).length) := by
 unfold gnAt
 rw [if_neg (by omega),Int.toNat_natCast,List.drop_left]
 have : putN n = vlq n.toNat := if_pos h
 rw [this,show (0 : Int) = ((0 : Nat) : Int) from rfl,gnF_vlq n.toNat 0 0 r (by omega) (.inr rfl)]
 simp only [Option.map_some,Nat.mul_zero,Nat.pow_zero,Nat.mul_one,Nat.zero_add]
 congr 2
 omega
section
variable {P : Program} {ls : List Tmp} {call : ACallT} {o : Oper} {e : Operand → Value} {lo : Lo} {st : St}
theorem op_sl {t ty : TypeId} {x y : Operand} {a r : Int} {b : Nat} (ho : o.op = .binOp .shl t x y ty) (hx : e x = vI a) (hy : e y = vI (b : Int)) (hb : b ≤ 63) (hr : a * 2 ^ b = r) (h1 : -9223372036854775808 ≤ r) (h2 : r < 9223372036854775808) : aoper P ls call o e lo st = some (vI r,lo,st) := by
 obtain ⟨d,op,tt,pos,after,gd⟩ := o
 simp only at ho
 subst ho hr
 have h3 : (0 : Int) ≤ (b : Int) ∧ (b : Int) ≤ IntKind.bits .i64 := ⟨by omega,by show (b : Int) ≤ 64; omega⟩
 simp only [aoper,rop,hx,hy,abin,if_pos h3,Int.toNat_natCast,Option.map_some]
 rw [wrap_i64 h1 h2]
theorem op_ad {t ty : TypeId} {x y : Operand} {a b r : Int} (ho : o.op = .binOp .add t x y ty) (hx : e x = vI a) (hy : e y = vI b) (hr : a + b = r) (h1 : -9223372036854775808 ≤ r) (h2 : r < 9223372036854775808) : aoper P ls call o e lo st = some (vI r,lo,st) := by
 obtain ⟨d,op,tt,pos,after,gd⟩ := o
 simp only at ho
 subst ho hr
 simp only [aoper,rop,hx,hy,abin,aint,if_true,Option.map_some]
 rw [wrap_i64 h1 h2]
theorem bits_or {a b : Nat} (ha : a < 4294967296) (hb : b < 1099511627776) : bits .or .i64 (a : Int) (b : Int) = ((a ||| b : Nat) : Int) := by
 have h : a ||| b < 2 ^ 40 := Nat.or_lt_two_pow (n := 40) (by omega) (by omega)
 have h1 : (BitVec.ofInt 64 (a : Int) ||| BitVec.ofInt 64 (b : Int)).toNat = a ||| b := by
  rw [BitVec.toNat_or,BitVec.ofInt_natCast,BitVec.ofInt_natCast,BitVec.toNat_ofNat,BitVec.toNat_ofNat,Nat.mod_eq_of_lt (by omega),Nat.mod_eq_of_lt (by omega)]
 show IntKind.wrap .i64 (((BitVec.ofInt 64 (a : Int) ||| BitVec.ofInt 64 (b : Int)).toNat : Nat) : Int) = _
 rw [h1]
 exact wrap_nat _ (by omega)
theorem op_or {t ty : TypeId} {x y : Operand} {a b r : Int} (ho : o.op = .binOp .or t x y ty) (hx : e x = vI a) (hy : e y = vI b) (hr : bits .or .i64 a b = r) : aoper P ls call o e lo st = some (vI r,lo,st) := by
 obtain ⟨d,op,tt,pos,after,gd⟩ := o
 simp only at ho
 subst ho hr
 simp [aoper,rop,hx,hy,abin,aint]
end
theorem or_add {n c i : Nat} (hn : n < 2 ^ (7 * i)) (hc : c < 128) (hi : i ≤ 4) : bits .or .i64 (n : Int) ((c * 2 ^ (7 * i) : Nat) : Int) = ((n + c * 2 ^ (7 * i) : Nat) : Int) := by
 have h1 : 2 ^ (7 * i) ≤ 2 ^ 28 := Nat.pow_le_pow_right (by decide) (by omega)
 have h2 : c * 2 ^ (7 * i) ≤ 127 * 2 ^ 28 := Nat.mul_le_mul (by omega) h1
 have h3 : (2 : Nat) ^ 28 = 268435456 := by decide
 rw [bits_or (by omega) (by omega)]
 congr 1
 rw [Nat.or_comm,Nat.mul_comm,← Nat.two_pow_add_eq_or_of_lt hn,Nat.add_comm]
def gnR (l : List Int) (a : Int) : Int × Int × Bool := match gnAt l a with
 | some r => (r.1,r.2,true)
 | none => (0,0,false)
theorem gnR_neg {l : List Int} {a : Int} (h : a < 0) : gnR l a = (0,0,false) := by unfold gnR gnAt; rw [if_pos h]
theorem gnR_of {l : List Int} {a : Nat} : gnR l a = match gnF (l.drop a) 0 0 with
  | some r => (r.1,(a : Int) + r.2,true)
  | none => (0,0,false) := by
 unfold gnR gnAt
 rw [if_neg (by omega),Int.toNat_natCast]
 cases gnF (l.drop a) 0 0 <;> rfl
theorem dropCons {α : Type} {l : List α} {j : Nat} {x : α} (h : l[j]? = some x) : l.drop j = x :: l.drop (j + 1) := by
 obtain ⟨h1,rfl⟩ := List.getElem?_eq_some_iff.1 h
 exact List.drop_eq_getElem_cons h1
theorem gnF_five {l : List Int} {n : Int} : gnF l 5 n = none := by cases l <;> rfl
theorem gnF_go {l : List Int} {j i n c : Nat} {b : Int} (hb : l[j]? = some b) (hi : i ≤ 4) (h1 : ¬ b < 128) (hc : b % 128 = (c : Int)) : gnF (l.drop j) i n = gnF (l.drop (j + 1)) (i + 1) ((n + c * 2 ^ (7 * i) : Nat) : Int) := by
 rw [dropCons hb]
 simp only [gnF]
 rw [if_neg (by omega),if_neg h1,hc]
 congr 1
theorem gnF_no {l : List Int} {j i n : Nat} {b : Int} (hb : l[j]? = some b) (h1 : b < 128) (h2 : (0 < i ∧ b = 0) ∨ 2147483647 < n + b * 2 ^ (7 * i)) : gnF (l.drop j) i n = none := by
 rw [dropCons hb]
 simp only [gnF]
 by_cases h5 : 5 ≤ i
 ·rw [if_pos h5]
 ·rw [if_neg h5,if_pos h1,if_pos h2]
theorem gnF_yes {l : List Int} {j i n : Nat} {b : Int} (hb : l[j]? = some b) (hi : i ≤ 4) (h1 : b < 128) (h2 : ¬ ((0 < i ∧ b = 0) ∨ 2147483647 < n + b * 2 ^ (7 * i))) : gnF (l.drop j) i n = some (n + b * 2 ^ (7 * i),i + 1) := by
 rw [dropCons hb]
 simp only [gnF]
 rw [if_neg (by omega),if_pos h1,if_neg h2]
theorem pow7 {i : Nat} (h : i ≤ 4) (c : Nat) : c % 128 * 2 ^ (7 * i) ≤ 34091302912 := by
 have h1 : 2 ^ (7 * i) ≤ 2 ^ 28 := Nat.pow_le_pow_right (by decide) (by omega)
 have h2 : c % 128 * 2 ^ (7 * i) ≤ 127 * 2 ^ 28 := Nat.mul_le_mul (by omega) h1
 omega
theorem pow7n {i n : Nat} (h : i ≤ 4) (hn : n < 2 ^ (7 * i)) : n < 268435456 := by
 have h1 : 2 ^ (7 * i) ≤ 2 ^ 28 := Nat.pow_le_pow_right (by decide) (by omega)
 omega
theorem pow7s {i n c : Nat} (hn : n < 2 ^ (7 * i)) : n + c % 128 * 2 ^ (7 * i) < 2 ^ (7 * (i + 1)) := by
 have e1 : 2 ^ (7 * (i + 1)) = 128 * 2 ^ (7 * i) := by rw [Nat.mul_add,Nat.pow_add,Nat.mul_comm]
 have h2 : c % 128 * 2 ^ (7 * i) ≤ 127 * 2 ^ (7 * i) := Nat.mul_le_mul_right _ (by omega)
 omega
theorem gnR_yes {l : List Int} {a i n c : Nat} (hg : gnF (l.drop a) 0 0 = gnF (l.drop (a + i)) i n) (hb : l[a + i]? = some (c : Int)) (hi : i ≤ 4) (h1 : c < 128) (h2 : ¬ ((0 < i ∧ c = 0) ∨ 2147483647 < n + c % 128 * 2 ^ (7 * i))) : (((n + c % 128 * 2 ^ (7 * i) : Nat) : Int),(a : Int) + i + 1,true) = gnR l a := by
 have hm : c % 128 = c := Nat.mod_eq_of_lt h1
 have hc : ((n : Int) + (c : Int) * 2 ^ (7 * i)) = ((n + c * 2 ^ (7 * i) : Nat) : Int) := by push_cast; rfl
 rw [hm] at h2 ⊢
 rw [gnR_of,hg,gnF_yes hb hi (by omega) (by rw [hc]; omega),hc]
 simp only [Int.natCast_add,Int.natCast_one,Int.add_assoc]
theorem gnR_no {l : List Int} {a i n c : Nat} (hg : gnF (l.drop a) 0 0 = gnF (l.drop (a + i)) i n) (hb : l[a + i]? = some (c : Int)) (h1 : c < 128) (h2 : (0 < i ∧ c = 0) ∨ 2147483647 < n + c % 128 * 2 ^ (7 * i)) : (0,0,false) = gnR l a := by
 have hm : c % 128 = c := Nat.mod_eq_of_lt h1
 have hc : ((n : Int) + (c : Int) * 2 ^ (7 * i)) = ((n + c * 2 ^ (7 * i) : Nat) : Int) := by push_cast; rfl
 rw [hm] at h2
 rw [gnR_of,hg,gnF_no hb (by omega) (by rw [hc]; omega)]
theorem gnR_end {l : List Int} {a i n : Nat} (hg : gnF (l.drop a) 0 0 = gnF (l.drop (a + i)) i n) (h : i = 5 ∨ l.length ≤ a + i) : (0,0,false) = gnR l a := by
 rw [gnR_of,hg]
 rcases h with rfl | h
 ·rw [gnF_five]
 ·rw [List.drop_eq_nil_of_le h]; rfl
theorem ac_impl_GetNum (p : Option Addr) (l : List Int) (a : Int) (st : St) (hR : Rows st 1 fB p l) (hl : bytesOk l) (hs : l.length ≤ 1099511627776) (ha : a ≤ 1099511627776) : C 162 [vS p l.length,vI a] st (fun v s => ∃ n k b,v = .tuple #[vI n,vI k,vB b] ∧ (n,k,b) = gnR l a ∧ s = st) := by
 refine AC.enterX (i := ⟨[],[],[0,1,4,5,6,7,8,9,17,27,45,55],[]⟩) [] Try.func162 rfl rfl (by kernel_rfl) (by kernel_rfl) Try.ntmps162 (Lb rfl) rfl ?_
 refine Cu lo0 st [(0,vS p l.length),(1,vI a),(4,vI 0),(5,vI 0),(6,vB false)] fun _ => ?_
 refine ⟨_,rfl,?_⟩
 rintro (_|_) h11
 ·replace h11 : ¬ (a < (0)) := of_decide_eq_false h11
  iterate 2 refine ⟨_,rfl,?_⟩
  rintro (_|_) h16
  ·replace h16 : ¬ (a ≥ (l.length : Int)) := of_decide_eq_false h16
   refine ⟨_,rfl,?_⟩
   refine Cu lo0 st [(0,vS p l.length),(1,vI a),(4,vI 0),(5,vI 0),(6,vB false),(17,vB false)] fun _ => ?_
   obtain ⟨a,rfl⟩ := Int.eq_ofNat_of_zero_le (show 0 ≤ a by omega)
   refine cxs ?_
   refine cxs ?_
   refine Cu lo0 st [(0,vS p l.length),(1,vI a),(4,vI 0),(5,vI 0),(6,vB false),(7,vI 0),(8,vI 0)] fun _ => ?_
   refine AW.loop0 (fun x : Nat × Nat => [(0,vS p l.length),(1,vI a),(7,vI (x.2 : Int)),(8,vI (x.1 : Int))]) (fun m (x : Nat × Nat) st' => m = 5 - x.1 ∧ x.1 ≤ 5 ∧ x.2 < 2 ^ (7 * x.1) ∧ gnF (l.drop a) 0 0 = gnF (l.drop (a + x.1)) x.1 x.2 ∧ st = st') (0,0) _ ⟨rfl,rfl,rfl,rfl,trivial⟩ rfl ⟨rfl,Nat.zero_le _,Nat.one_pos,rfl,rfl⟩ ?_
   rintro m ⟨i,n⟩ ρ0 st' ⟨rfl,hi,hn,hg,rfl⟩
   simp only at hi hn hg
   refine ⟨_,rfl,?_⟩
   rintro (_|_) h19
   ·replace h19 : ¬ ((i : Int) < (5)) := of_decide_eq_false h19
    refine ⟨_,rfl,?_⟩
    refine Cu lo0 st [(0,vS p l.length),(1,vI a),(7,vI (n : Int)),(8,vI (i : Int)),(27,vB false)] fun _ => ?_
    refine cxs ?_
    exact cxs (Rt ⟨0,0,false,rfl,gnR_end hg (.inl (by omega)),rfl⟩)
   ·replace h19 : (i : Int) < (5) := of_decide_eq_true h19
    have ew23 : IntKind.wrap .i64 (a + (i : Int)) = a + (i : Int) := wrap_i64 (by omega) (by omega)
    iterate 3 refine ⟨_,rfl,?_⟩
    rintro (_|_) h26
    ·replace h26 : ¬ ((IntKind.wrap .i64 (a + (i : Int))) < (l.length : Int)) := of_decide_eq_false h26
     rw [ew23] at h26
     refine ⟨_,rfl,?_⟩
     refine Cu lo0 st [(0,vS p l.length),(1,vI a),(7,vI (n : Int)),(8,vI (i : Int)),(27,vB false)] fun _ => ?_
     refine cxs ?_
     exact cxs (Rt ⟨0,0,false,rfl,gnR_end hg (.inr (by omega)),rfl⟩)
    ·replace h26 : (IntKind.wrap .i64 (a + (i : Int))) < (l.length : Int) := of_decide_eq_true h26
     rw [ew23] at h26
     refine ⟨_,rfl,?_⟩
     refine Cu lo0 st [(0,vS p l.length),(1,vI a),(7,vI (n : Int)),(8,vI (i : Int)),(27,vB true)] fun _ => ?_
     refine cxs ?_
     have ew33 : IntKind.wrap .i64 (a + (i : Int)) = a + (i : Int) := wrap_i64 (by omega) (by omega)
     refine ⟨_,rfl,?_⟩
     refine op_at ((a + (i : Int)).toNat) hR (by omega) rfl rfl rfl rfl (by rw [ew33]; omega) rfl rfl ?_
     intro x34 b34 d34 k34 hy34 hb34 hm34 hc34 ho34
     refine ⟨_,op_ldc (i := 0) rfl rfl rfl rfl hm34 hc34 rfl rfl,?_⟩
     refine ⟨_,op_ofB rfl rfl rfl rfl rfl (hl.at hy34),?_⟩
     refine Cu lo0 st [(0,vS p l.length),(1,vI a),(7,vI (n : Int)),(8,vI (i : Int)),(9,vI (x34 : Int)),(27,vB true)] fun _ => ?_
     obtain ⟨x34,rfl⟩ := Int.eq_ofNat_of_zero_le (show 0 ≤ x34 from (hl _ (List.mem_of_getElem? hy34)).1)
     rw [show ((a : Int) + (i : Int)).toNat = a + i by omega] at hy34
     have hi4 : i ≤ 4 := by omega
     have hq := pow7 hi4 x34
     have hn4 := pow7n hi4 hn
     have hx := (hl _ (List.mem_of_getElem? hy34)).2
     refine ⟨_,op_rm (r := ((x34 % 128 : Nat) : Int)) rfl rfl rfl (by decide) ((tm_emod 128 (by omega)).trans (by omega)),?_⟩
     have ew41 : IntKind.wrap .i64 ((7) * (i : Int)) = (7) * (i : Int) := wrap_i64 (by omega) (by omega)
     refine ⟨_,rfl,?_⟩
     refine ⟨_,op_sl (b := 7 * i) (r := ((x34 % 128 * 2 ^ (7 * i) : Nat) : Int)) rfl rfl (congrArg vI (ew41.trans (by omega))) (by omega) (by push_cast; rfl) (by omega) (by omega),?_⟩
     refine ⟨_,op_ad (r := ((n + x34 % 128 * 2 ^ (7 * i) : Nat) : Int)) rfl rfl rfl (by omega) (by omega) (by omega),?_⟩
     refine Cu lo0 st [(0,vS p l.length),(1,vI a),(7,vI ((n + x34 % 128 * 2 ^ (7 * i) : Nat) : Int)),(8,vI (i : Int)),(9,vI (x34 : Int)),(27,vB true)] fun _ => ?_
     refine ⟨_,rfl,?_⟩
     rintro (_|_) h45
     ·replace h45 : ¬ ((x34 : Int) ≥ (128)) := of_decide_eq_false h45
      refine Cu lo0 st [(0,vS p l.length),(1,vI a),(7,vI ((n + x34 % 128 * 2 ^ (7 * i) : Nat) : Int)),(8,vI (i : Int)),(9,vI (x34 : Int)),(27,vB true),(45,vB false)] fun _ => ?_
      refine cxs ?_
      refine ⟨_,rfl,?_⟩
      rintro (_|_) h47
      ·replace h47 : ¬ ((i : Int) > (0)) := of_decide_eq_false h47
       iterate 2 refine ⟨_,rfl,?_⟩
       rintro (_|_) h54
       ·replace h54 : ¬ (((n + x34 % 128 * 2 ^ (7 * i) : Nat) : Int) > (2147483647)) := of_decide_eq_false h54
        refine ⟨_,rfl,?_⟩
        refine Cu lo0 st [(0,vS p l.length),(1,vI a),(7,vI ((n + x34 % 128 * 2 ^ (7 * i) : Nat) : Int)),(8,vI (i : Int)),(9,vI (x34 : Int)),(27,vB true),(45,vB false),(55,vB false)] fun _ => ?_
        refine cxs ?_
        have ew59 : IntKind.wrap .i64 (a + (i : Int)) = a + (i : Int) := wrap_i64 (by omega) (by omega)
        refine ⟨_,rfl,?_⟩
        have ew60 : IntKind.wrap .i64 ((IntKind.wrap .i64 (a + (i : Int))) + (1)) = (a + (i : Int)) + (1) := by rw [ew59]; exact wrap_i64 (by omega) (by omega)
        refine ⟨_,rfl,?_⟩
        exact cxs (Rt ⟨_,_,true,rfl,(by rw [ew60]; exact gnR_yes hg hy34 hi4 (by omega) (by omega)),rfl⟩)
       ·replace h54 : ((n + x34 % 128 * 2 ^ (7 * i) : Nat) : Int) > (2147483647) := of_decide_eq_true h54
        refine ⟨_,rfl,?_⟩
        refine Cu lo0 st [(0,vS p l.length),(1,vI a),(7,vI ((n + x34 % 128 * 2 ^ (7 * i) : Nat) : Int)),(8,vI (i : Int)),(9,vI (x34 : Int)),(27,vB true),(45,vB false),(55,vB true)] fun _ => ?_
        exact cxs (Rt ⟨0,0,false,rfl,gnR_no hg hy34 (by omega) (by omega),rfl⟩)
      ·replace h47 : (i : Int) > (0) := of_decide_eq_true h47
       refine ⟨_,rfl,?_⟩
       rintro (_|_) h50
       ·replace h50 : ¬ ((x34 : Int) = (0)) := beq_eq_false_iff_ne.1 h50
        iterate 2 refine ⟨_,rfl,?_⟩
        rintro (_|_) h54
        ·replace h54 : ¬ (((n + x34 % 128 * 2 ^ (7 * i) : Nat) : Int) > (2147483647)) := of_decide_eq_false h54
         refine ⟨_,rfl,?_⟩
         refine Cu lo0 st [(0,vS p l.length),(1,vI a),(7,vI ((n + x34 % 128 * 2 ^ (7 * i) : Nat) : Int)),(8,vI (i : Int)),(9,vI (x34 : Int)),(27,vB true),(45,vB false),(55,vB false)] fun _ => ?_
         refine cxs ?_
         have ew59 : IntKind.wrap .i64 (a + (i : Int)) = a + (i : Int) := wrap_i64 (by omega) (by omega)
         refine ⟨_,rfl,?_⟩
         have ew60 : IntKind.wrap .i64 ((IntKind.wrap .i64 (a + (i : Int))) + (1)) = (a + (i : Int)) + (1) := by rw [ew59]; exact wrap_i64 (by omega) (by omega)
         refine ⟨_,rfl,?_⟩
         exact cxs (Rt ⟨_,_,true,rfl,(by rw [ew60]; exact gnR_yes hg hy34 hi4 (by omega) (by omega)),rfl⟩)
        ·replace h54 : ((n + x34 % 128 * 2 ^ (7 * i) : Nat) : Int) > (2147483647) := of_decide_eq_true h54
         refine ⟨_,rfl,?_⟩
         refine Cu lo0 st [(0,vS p l.length),(1,vI a),(7,vI ((n + x34 % 128 * 2 ^ (7 * i) : Nat) : Int)),(8,vI (i : Int)),(9,vI (x34 : Int)),(27,vB true),(45,vB false),(55,vB true)] fun _ => ?_
         exact cxs (Rt ⟨0,0,false,rfl,gnR_no hg hy34 (by omega) (by omega),rfl⟩)
       ·replace h50 : (x34 : Int) = (0) := beq_iff_eq.1 h50
        iterate 2 refine ⟨_,rfl,?_⟩
        refine Cu lo0 st [(0,vS p l.length),(1,vI a),(7,vI ((n + x34 % 128 * 2 ^ (7 * i) : Nat) : Int)),(8,vI (i : Int)),(9,vI (x34 : Int)),(27,vB true),(45,vB false),(55,vB true)] fun _ => ?_
        exact cxs (Rt ⟨0,0,false,rfl,gnR_no hg hy34 (by omega) (by omega),rfl⟩)
     ·replace h45 : (x34 : Int) ≥ (128) := of_decide_eq_true h45
      refine Cu lo0 st [(0,vS p l.length),(1,vI a),(7,vI ((n + x34 % 128 * 2 ^ (7 * i) : Nat) : Int)),(8,vI (i : Int)),(9,vI (x34 : Int)),(27,vB true),(45,vB true)] fun _ => ?_
      refine cxs ?_
      have ew29 : IntKind.wrap .i64 ((i : Int) + (1)) = ((i + 1 : Nat) : Int) := (wrap_i64 (by omega) (by omega)).trans (by omega)
      refine ⟨_,rfl,?_⟩
      exact ⟨(i + 1,n + x34 % 128 * 2 ^ (7 * i)),5 - (i + 1),by omega,⟨rfl,rfl,rfl,congrArg (Value.int .i64) ew29,trivial⟩,rfl,rfl,by simp only; omega,pow7s hn,hg.trans (gnF_go (c := x34 % 128) hy34 hi4 (by omega) (by omega)),rfl⟩
  ·replace h16 : a ≥ (l.length : Int) := of_decide_eq_true h16
   refine ⟨_,rfl,?_⟩
   refine Cu lo0 st [(0,vS p l.length),(1,vI a),(4,vI 0),(5,vI 0),(6,vB false),(17,vB true)] fun _ => ?_
   obtain ⟨a,rfl⟩ := Int.eq_ofNat_of_zero_le (show 0 ≤ a by omega)
   exact cxs (Rt ⟨0,0,false,rfl,by rw [gnR_of,List.drop_eq_nil_of_le (by omega)]; rfl,rfl⟩)
 ·replace h11 : a < (0) := of_decide_eq_true h11
  refine ⟨_,rfl,?_⟩
  refine Cu lo0 st [(0,vS p l.length),(1,vI a),(4,vI 0),(5,vI 0),(6,vB false),(17,vB true)] fun _ => ?_
  exact cxs (Rt ⟨0,0,false,rfl,(gnR_neg h11).symm,rfl⟩)
theorem ac_spec_GetNum (p : Option Addr) (l : List Int) (a : Int) (st : St) (hR : Rows st 1 fB p l) (hl : bytesOk l) (hs : l.length ≤ 1099511627776) (ha : a ≤ 1099511627776) : C 159 [vS p l.length,vI a] st (fun v s => ∃ n k b,v = .tuple #[vI n,vI k,vB b] ∧ (n,k,b) = gnR l a ∧ s = st) := by
 refine AC.enterX (i := ⟨[],[],[0,1,4,5,6,7,8,9,11,23,39,49],[]⟩) [] Try.func159 rfl rfl (by kernel_rfl) (by kernel_rfl) Try.ntmps159 (Lb rfl) rfl ?_
 refine cxs ?_
 refine cxs ?_
 refine Cu lo0 st [(0,vS p l.length),(1,vI a),(4,vI 0),(5,vI 0),(6,vB false),(7,vI 0),(8,vI 0)] fun _ => ?_
 refine AW.loop0 (fun x : Nat × Nat => [(0,vS p l.length),(1,vI a),(7,vI (x.2 : Int)),(8,vI (x.1 : Int))]) (fun m (x : Nat × Nat) st' => m = 5 - x.1 ∧ x.1 ≤ 5 ∧ x.2 < 2 ^ (7 * x.1) ∧ gnF (l.drop a.toNat) 0 0 = gnF (l.drop (a.toNat + x.1)) x.1 x.2 ∧ (x.1 = 0 ∨ 0 ≤ a) ∧ st = st') (0,0) _ ⟨rfl,rfl,rfl,rfl,trivial⟩ rfl ⟨rfl,Nat.zero_le _,Nat.one_pos,rfl,.inl rfl,rfl⟩ ?_
 rintro m ⟨i,n⟩ ρ0 st' ⟨rfl,hi,hn,hg,h0a,rfl⟩
 simp only at hi hn hg h0a
 refine ⟨_,rfl,?_⟩
 rintro (_|_) h11
 ·replace h11 : ¬ ((i : Int) < (5)) := of_decide_eq_false h11
  refine Cu lo0 st [(0,vS p l.length),(1,vI a),(7,vI (n : Int)),(8,vI (i : Int)),(11,vB false)] fun _ => ?_
  refine cxs ?_
  exact cxs (Rt ⟨0,0,false,rfl,(by rw [← Int.toNat_of_nonneg (show 0 ≤ a by omega)]; exact gnR_end hg (.inl (by omega))),rfl⟩)
 ·replace h11 : (i : Int) < (5) := of_decide_eq_true h11
  refine Cu lo0 st [(0,vS p l.length),(1,vI a),(7,vI (n : Int)),(8,vI (i : Int)),(11,vB true)] fun _ => ?_
  refine cxs ?_
  refine ⟨_,rfl,?_⟩
  rintro (_|_) h15
  ·replace h15 : ¬ (a < (0)) := of_decide_eq_false h15
   refine ⟨_,rfl,?_⟩
   have ew21 : IntKind.wrap .i64 ((l.length : Int) - (i : Int)) = (l.length : Int) - (i : Int) := wrap_i64 (by omega) (by omega)
   iterate 2 refine ⟨_,rfl,?_⟩
   rintro (_|_) h22
   ·replace h22 : ¬ (a ≥ (IntKind.wrap .i64 ((l.length : Int) - (i : Int)))) := of_decide_eq_false h22
    rw [ew21] at h22
    refine ⟨_,rfl,?_⟩
    refine Cu lo0 st [(0,vS p l.length),(1,vI a),(7,vI (n : Int)),(8,vI (i : Int)),(11,vB true),(23,vB false)] fun _ => ?_
    obtain ⟨a,rfl⟩ := Int.eq_ofNat_of_zero_le (show 0 ≤ a by omega)
    rw [Int.toNat_natCast] at hg
    refine cxs ?_
    have ew27 : IntKind.wrap .i64 (a + (i : Int)) = a + (i : Int) := wrap_i64 (by omega) (by omega)
    refine ⟨_,rfl,?_⟩
    refine op_at ((a + (i : Int)).toNat) hR (by omega) rfl rfl rfl rfl (by rw [ew27]; omega) rfl rfl ?_
    intro x28 b28 d28 k28 hy28 hb28 hm28 hc28 ho28
    refine ⟨_,op_ldc (i := 0) rfl rfl rfl rfl hm28 hc28 rfl rfl,?_⟩
    refine ⟨_,op_ofB rfl rfl rfl rfl rfl (hl.at hy28),?_⟩
    refine Cu lo0 st [(0,vS p l.length),(1,vI a),(7,vI (n : Int)),(8,vI (i : Int)),(9,vI (x28 : Int)),(11,vB true),(23,vB false)] fun _ => ?_
    obtain ⟨x28,rfl⟩ := Int.eq_ofNat_of_zero_le (show 0 ≤ x28 from (hl _ (List.mem_of_getElem? hy28)).1)
    rw [show ((a : Int) + (i : Int)).toNat = a + i by omega] at hy28
    have hi4 : i ≤ 4 := by omega
    have hq := pow7 hi4 x28
    have hn4 := pow7n hi4 hn
    have hx := (hl _ (List.mem_of_getElem? hy28)).2
    refine ⟨_,op_rm (r := ((x28 % 128 : Nat) : Int)) rfl rfl rfl (by decide) ((tm_emod 128 (by omega)).trans (by omega)),?_⟩
    have ew35 : IntKind.wrap .i64 ((7) * (i : Int)) = (7) * (i : Int) := wrap_i64 (by omega) (by omega)
    refine ⟨_,rfl,?_⟩
    refine ⟨_,op_sl (b := 7 * i) (r := ((x28 % 128 * 2 ^ (7 * i) : Nat) : Int)) rfl rfl (congrArg vI (ew35.trans (by omega))) (by omega) (by push_cast; rfl) (by omega) (by omega),?_⟩
    refine ⟨_,op_or (r := ((n + x28 % 128 * 2 ^ (7 * i) : Nat) : Int)) rfl rfl rfl (or_add hn (by omega) hi4),?_⟩
    refine Cu lo0 st [(0,vS p l.length),(1,vI a),(7,vI ((n + x28 % 128 * 2 ^ (7 * i) : Nat) : Int)),(8,vI (i : Int)),(9,vI (x28 : Int)),(11,vB true),(23,vB false)] fun _ => ?_
    refine ⟨_,rfl,?_⟩
    rintro (_|_) h39
    ·replace h39 : ¬ ((x28 : Int) < (128)) := of_decide_eq_false h39
     refine Cu lo0 st [(0,vS p l.length),(1,vI a),(7,vI ((n + x28 % 128 * 2 ^ (7 * i) : Nat) : Int)),(8,vI (i : Int)),(9,vI (x28 : Int)),(11,vB true),(23,vB false),(39,vB false)] fun _ => ?_
     refine cxs ?_
     have ew13 : IntKind.wrap .i64 ((i : Int) + (1)) = ((i + 1 : Nat) : Int) := (wrap_i64 (by omega) (by omega)).trans (by omega)
     refine ⟨_,rfl,?_⟩
     exact ⟨(i + 1,n + x28 % 128 * 2 ^ (7 * i)),5 - (i + 1),by omega,⟨rfl,rfl,rfl,congrArg (Value.int .i64) ew13,trivial⟩,rfl,rfl,by simp only; omega,pow7s hn,hg.trans (gnF_go (c := x28 % 128) hy28 hi4 (by omega) (by omega)),.inr (by omega),rfl⟩
    ·replace h39 : (x28 : Int) < (128) := of_decide_eq_true h39
     refine Cu lo0 st [(0,vS p l.length),(1,vI a),(7,vI ((n + x28 % 128 * 2 ^ (7 * i) : Nat) : Int)),(8,vI (i : Int)),(9,vI (x28 : Int)),(11,vB true),(23,vB false),(39,vB true)] fun _ => ?_
     refine ⟨_,rfl,?_⟩
     rintro (_|_) h41
     ·replace h41 : ¬ ((i : Int) > (0)) := of_decide_eq_false h41
      iterate 2 refine ⟨_,rfl,?_⟩
      rintro (_|_) h48
      ·replace h48 : ¬ (((n + x28 % 128 * 2 ^ (7 * i) : Nat) : Int) > (2147483647)) := of_decide_eq_false h48
       refine ⟨_,rfl,?_⟩
       refine Cu lo0 st [(0,vS p l.length),(1,vI a),(7,vI ((n + x28 % 128 * 2 ^ (7 * i) : Nat) : Int)),(8,vI (i : Int)),(9,vI (x28 : Int)),(11,vB true),(23,vB false),(39,vB true),(49,vB false)] fun _ => ?_
       refine cxs ?_
       have ew53 : IntKind.wrap .i64 (a + (i : Int)) = a + (i : Int) := wrap_i64 (by omega) (by omega)
       refine ⟨_,rfl,?_⟩
       have ew54 : IntKind.wrap .i64 ((IntKind.wrap .i64 (a + (i : Int))) + (1)) = (a + (i : Int)) + (1) := by rw [ew53]; exact wrap_i64 (by omega) (by omega)
       refine ⟨_,rfl,?_⟩
       exact cxs (Rt ⟨_,_,true,rfl,(by rw [ew54]; exact gnR_yes hg hy28 hi4 (by omega) (by omega)),rfl⟩)
      ·replace h48 : ((n + x28 % 128 * 2 ^ (7 * i) : Nat) : Int) > (2147483647) := of_decide_eq_true h48
       refine ⟨_,rfl,?_⟩
       refine Cu lo0 st [(0,vS p l.length),(1,vI a),(7,vI ((n + x28 % 128 * 2 ^ (7 * i) : Nat) : Int)),(8,vI (i : Int)),(9,vI (x28 : Int)),(11,vB true),(23,vB false),(39,vB true),(49,vB true)] fun _ => ?_
       exact cxs (Rt ⟨0,0,false,rfl,gnR_no hg hy28 (by omega) (by omega),rfl⟩)
     ·replace h41 : (i : Int) > (0) := of_decide_eq_true h41
      refine ⟨_,rfl,?_⟩
      rintro (_|_) h44
      ·replace h44 : ¬ ((x28 : Int) = (0)) := beq_eq_false_iff_ne.1 h44
       iterate 2 refine ⟨_,rfl,?_⟩
       rintro (_|_) h48
       ·replace h48 : ¬ (((n + x28 % 128 * 2 ^ (7 * i) : Nat) : Int) > (2147483647)) := of_decide_eq_false h48
        refine ⟨_,rfl,?_⟩
        refine Cu lo0 st [(0,vS p l.length),(1,vI a),(7,vI ((n + x28 % 128 * 2 ^ (7 * i) : Nat) : Int)),(8,vI (i : Int)),(9,vI (x28 : Int)),(11,vB true),(23,vB false),(39,vB true),(49,vB false)] fun _ => ?_
        refine cxs ?_
        have ew53 : IntKind.wrap .i64 (a + (i : Int)) = a + (i : Int) := wrap_i64 (by omega) (by omega)
        refine ⟨_,rfl,?_⟩
        have ew54 : IntKind.wrap .i64 ((IntKind.wrap .i64 (a + (i : Int))) + (1)) = (a + (i : Int)) + (1) := by rw [ew53]; exact wrap_i64 (by omega) (by omega)
        refine ⟨_,rfl,?_⟩
        exact cxs (Rt ⟨_,_,true,rfl,(by rw [ew54]; exact gnR_yes hg hy28 hi4 (by omega) (by omega)),rfl⟩)
       ·replace h48 : ((n + x28 % 128 * 2 ^ (7 * i) : Nat) : Int) > (2147483647) := of_decide_eq_true h48
        refine ⟨_,rfl,?_⟩
        refine Cu lo0 st [(0,vS p l.length),(1,vI a),(7,vI ((n + x28 % 128 * 2 ^ (7 * i) : Nat) : Int)),(8,vI (i : Int)),(9,vI (x28 : Int)),(11,vB true),(23,vB false),(39,vB true),(49,vB true)] fun _ => ?_
        exact cxs (Rt ⟨0,0,false,rfl,gnR_no hg hy28 (by omega) (by omega),rfl⟩)
      ·replace h44 : (x28 : Int) = (0) := beq_iff_eq.1 h44
       iterate 2 refine ⟨_,rfl,?_⟩
       refine Cu lo0 st [(0,vS p l.length),(1,vI a),(7,vI ((n + x28 % 128 * 2 ^ (7 * i) : Nat) : Int)),(8,vI (i : Int)),(9,vI (x28 : Int)),(11,vB true),(23,vB false),(39,vB true),(49,vB true)] fun _ => ?_
       exact cxs (Rt ⟨0,0,false,rfl,gnR_no hg hy28 (by omega) (by omega),rfl⟩)
   ·replace h22 : a ≥ (IntKind.wrap .i64 ((l.length : Int) - (i : Int))) := of_decide_eq_true h22
    rw [ew21] at h22
    refine ⟨_,rfl,?_⟩
    refine Cu lo0 st [(0,vS p l.length),(1,vI a),(7,vI (n : Int)),(8,vI (i : Int)),(11,vB true),(23,vB true)] fun _ => ?_
    exact cxs (Rt ⟨0,0,false,rfl,(by rw [← Int.toNat_of_nonneg (show 0 ≤ a by omega)]; exact gnR_end hg (.inr (by omega))),rfl⟩)
  ·replace h15 : a < (0) := of_decide_eq_true h15
   refine ⟨_,rfl,?_⟩
   refine Cu lo0 st [(0,vS p l.length),(1,vI a),(7,vI (n : Int)),(8,vI (i : Int)),(11,vB true),(23,vB true)] fun _ => ?_
   exact cxs (Rt ⟨0,0,false,rfl,(gnR_neg h15).symm,rfl⟩)
theorem flat_map (l : List Int) : l.flatMap fB = l.map (Value.int .u8) := by
 induction l with
 | nil => rfl
 | cons x l ih => rw [List.flatMap_cons,ih]; rfl
section
variable {P : Program} {ls : List Tmp} {call : ACallT} {o : Oper} {e : Operand → Value} {lo : Lo} {st : St}
theorem op_sl3 {t el : TypeId} {x y w : Operand} {p : Option Addr} {n i j z : Nat} {a b : Int} (ho : o.op = .slice t x (some y) (some w) none) (hx : e x = .slice p n n) (hy : e y = vI a) (hw : e w = vI b) (ha : a = (i : Int)) (hb : b = (j : Int)) (he : telem P t = some el) (hz : tsize P el = some z) (h1 : i ≤ j) (h2 : j ≤ n) : aoper P ls call o e lo st = some (.slice (shO p z i) (j - i) (j - i),lo,st) := by
 obtain ⟨d,op,tt,pos,after,gd⟩ := o
 simp only at ho
 subst ho ha hb
 simp [aoper,rop,aslice,abound,hx,hy,hw,he,hz,h1,h2,shO]
theorem op_strS {src dst el : TypeId} {x : Operand} {p : Option Addr} {l : List Int} {k n : Nat} (ho : o.op = .convert src dst x) (hx : e x = .slice (shO p 1 k) n n) (hd : telem P dst = none) (hs : tstr P dst = true) (hse : telem P src = some el) (hi : tint P el = some .u8) (hR : Rows st 1 fB p l) (hl : 0 < l.length) (hk : k + n ≤ l.length) :
  aoper P ls call o e lo st = some (.string (toB ((l.drop k).take n)),lo,st) := by
 obtain ⟨d,op,ty,pos,after,gd⟩ := o
 simp only at ho
 subst ho
 rcases hR with rfl | ⟨b,off,blk,rfl,hm,_,hc⟩
 ·cases hl
 ·have h1 := take_rows (f := fB) (z := 1) (l := l) (cs := blk.cells) (off := off) fB_len hc
  rw [Nat.mul_one] at h1
  have h2 : (blk.cells.drop (off + k)).take n = ((l.drop k).take n).flatMap fB := by
   rw [flat_map,List.map_take,List.map_drop,← flat_map,← h1,← List.drop_drop,List.drop_take,List.take_take,Nat.min_eq_left (by omega)]
  have h3 : ((l.drop k).take n).length = n := by rw [List.length_take,List.length_drop]; omega
  simp only [shO,Option.map_some,aoper,hd,hx,aconv,hs,hse,hi,astring,rdB,hm,Option.bind_some,h2,flat_len fB_len,Nat.mul_one,h3,if_true,abytes_ints]
  rfl
end
theorem gnF_rng : ∀ (t : List Int) (i : Nat) (n v : Int) (j : Nat),bytesOk t → 0 ≤ n → gnF t i n = some (v,j) → 0 ≤ v ∧ v ≤ 2147483647 ∧ i < j ∧ j ≤ i + t.length
 | [],_,_,_,_,_,_,h => by cases h
 | b :: t,i,n,v,j,hb,hn,h => by
  have h0 := hb b (List.mem_cons_self ..)
  have hp : (0 : Int) < 2 ^ (7 * i) := Int.pow_pos (by decide)
  simp only [gnF] at h
  split at h
  ·cases h
  ·split at h
   ·split at h
    ·cases h
    ·rename_i hc
     injection h with h
     injection h with h1 h2
     have : 0 ≤ b * 2 ^ (7 * i) := Int.mul_nonneg h0.1 (Int.le_of_lt hp)
     rw [List.length_cons]
     omega
   ·have hm : 0 ≤ b % 128 * 2 ^ (7 * i) := Int.mul_nonneg (by omega) (Int.le_of_lt hp)
    have := gnF_rng t (i + 1) _ v j (fun x hx => hb x (List.mem_cons_of_mem _ hx)) (by omega) h
    rw [List.length_cons]
    omega
theorem gnR_ok {l : List Int} {a n k : Int} (hl : bytesOk l) (h : (n,k,true) = gnR l a) : 0 ≤ n ∧ n ≤ 2147483647 ∧ 0 ≤ a ∧ a < k ∧ k ≤ l.length := by
 unfold gnR gnAt at h
 by_cases h0 : a < 0
 ·rw [if_pos h0] at h; cases h
 ·rw [if_neg h0] at h
  cases hg : gnF (l.drop a.toNat) 0 0 with
  | none => rw [hg] at h; cases h
  | some r =>
   rw [hg] at h
   simp only [Option.map_some,Prod.mk.injEq] at h
   have := gnF_rng _ 0 0 r.1 r.2 (fun x hx => hl x (List.mem_of_mem_drop hx)) (Int.le_refl _) hg
   rw [List.length_drop] at this
   omega
def gtR (l : List Int) (a : Int) : ByteArray × Int × Bool := match gnR l a with
 | (n,k,b) => if b = true ∧ n ≤ l.length - k then (toB ((l.drop k.toNat).take n.toNat),k + n,true) else (⟨#[]⟩,0,false)
theorem gtR_no {l : List Int} {a n k : Int} {b : Bool} (h : (n,k,b) = gnR l a) (hk : ¬ (b = true ∧ n ≤ l.length - k)) : (⟨#[]⟩,0,false) = gtR l a := by
 unfold gtR
 rw [← h]
 simp only
 rw [if_neg hk]
theorem gtR_yes {l : List Int} {a : Int} {n k : Nat} (h : ((n : Int),(k : Int),true) = gnR l a) (hk : (n : Int) ≤ l.length - k) : (toB ((l.drop k).take n),(k : Int) + n,true) = gtR l a := by
 unfold gtR
 rw [← h]
 simp only [Int.toNat_natCast]
 rw [if_pos ⟨trivial,hk⟩]
theorem ac_impl_GetText (p : Option Addr) (l : List Int) (a : Int) (st : St) (hR : Rows st 1 fB p l) (hl : bytesOk l) (hs : l.length ≤ 1099511627776) (ha : a ≤ 1099511627776) : C 163 [vS p l.length,vI a] st (fun v s => ∃ t k b,v = .tuple #[.string t,vI k,vB b] ∧ (t,k,b) = gtR l a ∧ s = st) := by
 refine AC.enterX (i := ⟨[],[],[0,1,4,5,6,7,8,9,26],[]⟩) [] Try.func163 rfl rfl (by kernel_rfl) (by kernel_rfl) Try.ntmps163 (Lb rfl) rfl ?_
 refine Cu lo0 st [(0,vS p l.length),(1,vI a),(4,.string ⟨#[]⟩),(5,vI 0),(6,vB false)] fun _ => ?_
 refine ⟨_,rfl,(ac_impl_GetNum p l a st hR (by first | assumption | omega) (by first | assumption | omega) (by first | assumption | omega)).mono ?_⟩
 rintro _ st ⟨n13,k13,b13,rfl,h13,rfl⟩
 rcases b13 with _|_
 ·iterate 3 refine ⟨_,rfl,?_⟩
  refine Cu lo0 st [(0,vS p l.length),(4,.string ⟨#[]⟩),(5,vI 0),(6,vB false),(7,vI n13),(8,vI k13),(9,vB false)] fun _ => ?_
  iterate 2 refine ⟨_,rfl,?_⟩
  refine Cu lo0 st [(0,vS p l.length),(4,.string ⟨#[]⟩),(5,vI 0),(6,vB false),(7,vI n13),(8,vI k13),(26,vB true)] fun _ => ?_
  exact cxs (Rt ⟨_,0,false,rfl,gtR_no h13 (fun k => by cases k.1),rfl⟩)
 ·iterate 3 refine ⟨_,rfl,?_⟩
  refine Cu lo0 st [(0,vS p l.length),(4,.string ⟨#[]⟩),(5,vI 0),(6,vB false),(7,vI n13),(8,vI k13),(9,vB true)] fun _ => ?_
  obtain ⟨q1,q2,q3,q4,q5⟩ := gnR_ok hl h13
  obtain ⟨n13,rfl⟩ := Int.eq_ofNat_of_zero_le q1
  obtain ⟨k13,rfl⟩ := Int.eq_ofNat_of_zero_le (show 0 ≤ k13 by omega)
  iterate 2 refine ⟨_,rfl,?_⟩
  have ew24 : IntKind.wrap .i64 ((l.length : Int) - k13) = (l.length : Int) - k13 := wrap_i64 (by omega) (by omega)
  iterate 2 refine ⟨_,rfl,?_⟩
  rintro (_|_) h25
  ·replace h25 : ¬ (n13 > (IntKind.wrap .i64 ((l.length : Int) - k13))) := of_decide_eq_false h25
   rw [ew24] at h25
   refine ⟨_,rfl,?_⟩
   refine Cu lo0 st [(0,vS p l.length),(4,.string ⟨#[]⟩),(5,vI 0),(6,vB false),(7,vI n13),(8,vI k13),(26,vB false)] fun _ => ?_
   refine cxs ?_
   have ew31 : IntKind.wrap .i64 (k13 + n13) = k13 + n13 := wrap_i64 (by omega) (by omega)
   refine ⟨_,rfl,?_⟩
   refine ⟨_,op_sl3 (i := k13) (j := k13 + n13) rfl rfl rfl rfl rfl (ew31.trans (by omega)) rfl rfl (by omega) (by omega),?_⟩
   refine ⟨_,op_strS (l := l) (k := k13) (n := n13) rfl (by rw [show k13 + n13 - k13 = n13 by omega]; rfl) rfl rfl rfl rfl hR (by omega) (by omega),?_⟩
   have ew36 : IntKind.wrap .i64 (k13 + n13) = k13 + n13 := wrap_i64 (by omega) (by omega)
   refine ⟨_,rfl,?_⟩
   exact cxs (Rt ⟨_,_,true,rfl,(by rw [ew36]; exact gtR_yes h13 (by omega)),rfl⟩)
  ·replace h25 : n13 > (IntKind.wrap .i64 ((l.length : Int) - k13)) := of_decide_eq_true h25
   rw [ew24] at h25
   refine ⟨_,rfl,?_⟩
   refine Cu lo0 st [(0,vS p l.length),(4,.string ⟨#[]⟩),(5,vI 0),(6,vB false),(7,vI n13),(8,vI k13),(26,vB true)] fun _ => ?_
   exact cxs (Rt ⟨_,0,false,rfl,gtR_no h13 (fun k => by omega),rfl⟩)
theorem ac_spec_GetText (p : Option Addr) (l : List Int) (a : Int) (st : St) (hR : Rows st 1 fB p l) (hl : bytesOk l) (hs : l.length ≤ 1099511627776) (ha : a ≤ 1099511627776) : C 95 [vS p l.length,vI a] st (fun v s => ∃ t k b,v = .tuple #[.string t,vI k,vB b] ∧ (t,k,b) = gtR l a ∧ s = st) := by
 refine AC.enterX (i := ⟨[],[],[0,1,4,5,6,7,8,9,26],[]⟩) [] Try.func95 rfl rfl (by kernel_rfl) (by kernel_rfl) Try.ntmps95 (Lb rfl) rfl ?_
 refine Cu lo0 st [(0,vS p l.length),(1,vI a),(4,.string ⟨#[]⟩),(5,vI 0),(6,vB false)] fun _ => ?_
 refine ⟨_,rfl,(ac_spec_GetNum p l a st hR (by first | assumption | omega) (by first | assumption | omega) (by first | assumption | omega)).mono ?_⟩
 rintro _ st ⟨n13,k13,b13,rfl,h13,rfl⟩
 rcases b13 with _|_
 ·iterate 3 refine ⟨_,rfl,?_⟩
  refine Cu lo0 st [(0,vS p l.length),(4,.string ⟨#[]⟩),(5,vI 0),(6,vB false),(7,vI n13),(8,vI k13),(9,vB false)] fun _ => ?_
  iterate 2 refine ⟨_,rfl,?_⟩
  refine Cu lo0 st [(0,vS p l.length),(4,.string ⟨#[]⟩),(5,vI 0),(6,vB false),(7,vI n13),(8,vI k13),(26,vB true)] fun _ => ?_
  exact cxs (Rt ⟨_,0,false,rfl,gtR_no h13 (fun k => by cases k.1),rfl⟩)
 ·iterate 3 refine ⟨_,rfl,?_⟩
  refine Cu lo0 st [(0,vS p l.length),(4,.string ⟨#[]⟩),(5,vI 0),(6,vB false),(7,vI n13),(8,vI k13),(9,vB true)] fun _ => ?_
  obtain ⟨q1,q2,q3,q4,q5⟩ := gnR_ok hl h13
  obtain ⟨n13,rfl⟩ := Int.eq_ofNat_of_zero_le q1
  obtain ⟨k13,rfl⟩ := Int.eq_ofNat_of_zero_le (show 0 ≤ k13 by omega)
  iterate 2 refine ⟨_,rfl,?_⟩
  have ew24 : IntKind.wrap .i64 ((l.length : Int) - k13) = (l.length : Int) - k13 := wrap_i64 (by omega) (by omega)
  iterate 2 refine ⟨_,rfl,?_⟩
  rintro (_|_) h25
  ·replace h25 : ¬ (n13 > (IntKind.wrap .i64 ((l.length : Int) - k13))) := of_decide_eq_false h25
   rw [ew24] at h25
   refine ⟨_,rfl,?_⟩
   refine Cu lo0 st [(0,vS p l.length),(4,.string ⟨#[]⟩),(5,vI 0),(6,vB false),(7,vI n13),(8,vI k13),(26,vB false)] fun _ => ?_
   refine cxs ?_
   have ew31 : IntKind.wrap .i64 (k13 + n13) = k13 + n13 := wrap_i64 (by omega) (by omega)
   refine ⟨_,rfl,?_⟩
   refine ⟨_,op_sl3 (i := k13) (j := k13 + n13) rfl rfl rfl rfl rfl (ew31.trans (by omega)) rfl rfl (by omega) (by omega),?_⟩
   refine ⟨_,op_strS (l := l) (k := k13) (n := n13) rfl (by rw [show k13 + n13 - k13 = n13 by omega]; rfl) rfl rfl rfl rfl hR (by omega) (by omega),?_⟩
   have ew36 : IntKind.wrap .i64 (k13 + n13) = k13 + n13 := wrap_i64 (by omega) (by omega)
   refine ⟨_,rfl,?_⟩
   exact cxs (Rt ⟨_,_,true,rfl,(by rw [ew36]; exact gtR_yes h13 (by omega)),rfl⟩)
  ·replace h25 : n13 > (IntKind.wrap .i64 ((l.length : Int) - k13)) := of_decide_eq_true h25
   rw [ew24] at h25
   refine ⟨_,rfl,?_⟩
   refine Cu lo0 st [(0,vS p l.length),(4,.string ⟨#[]⟩),(5,vI 0),(6,vB false),(7,vI n13),(8,vI k13),(26,vB true)] fun _ => ?_
   exact cxs (Rt ⟨_,0,false,rfl,gtR_no h13 (fun k => by omega),rfl⟩)
end Go.Proofs.Yteabadoaeadcgaa.AM
