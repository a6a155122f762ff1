/- Part 3 of the texts on which the law's proof rests. -/
import Derived.Test.YtpnolkhfeliehaaGreatXkb
namespace Go.Proofs.YtpnolkhfeliehaaGreat.AM
open Go Go.Proofs
set_option linter.unusedVariables false
set_option linter.unusedSimpArgs false
set_option maxRecDepth 100000
set_option maxHeartbeats 4000000
theorem pw_of {α : Type} {id : α → Int} {l : List α} (h : ∀ (j : Nat) x,l[j]? = some x → ∀ y,0 < j → l[j - 1]? = some y → id y < id x) : l.Pairwise (fun a b => id a < id b) := by
 have key : ∀ (d i : Nat) (hd : i + d + 1 < l.length),id (l[i]'(by omega)) < id (l[i + d + 1]'hd) := by
  intro d
  induction d with
  | zero =>
   intro i hd
   exact h (i + 1) _ (List.getElem?_eq_getElem hd) _ (by omega) (List.getElem?_eq_getElem (by omega))
  | succ d ih =>
   intro i hd
   have h1 := ih i (by omega)
   have h2 := h (i + (d + 1) + 1) _ (List.getElem?_eq_getElem hd) (l[i + d + 1]'(by omega)) (by omega) (List.getElem?_eq_getElem (by omega))
   omega
 refine List.pairwise_iff_getElem.2 fun i j hi hj hij => ?_
 have := key (j - i - 1) i (by omega)
 simpa only [show i + (j - i - 1) + 1 = j by omega] using this
theorem of_pw {α : Type} {id : α → Int} {l : List α} (h : l.Pairwise (fun a b => id a < id b)) (j : Nat) (x : α) (hx : l[j]? = some x) (y : α) (h0 : 0 < j) (hy : l[j - 1]? = some y) : id y < id x := by
 obtain ⟨hj,rfl⟩ := List.getElem?_eq_some_iff.1 hx
 obtain ⟨hj',rfl⟩ := List.getElem?_eq_some_iff.1 hy
 exact List.pairwise_iff_getElem.1 h (j - 1) j hj' hj (by omega)
theorem floorOf_fl (L : List Int) (id : Int) : ∀ l : List Flr,floorOf (flS L l) id = if leafOf id ∈ L then floorOf l id else 0
 | [] => by simp [flS,floorOf]
 | f :: l => by
  have ih := floorOf_fl L id l
  by_cases hf : leafOf f.id ∈ L
  ·rw [show flS L (f :: l) = f :: flS L l from List.filter_cons_of_pos (decide_eq_true hf),floorOf,floorOf]
   by_cases he : f.id = id
   ·rw [if_pos he,if_pos he,if_pos (he ▸ hf)]
   ·rw [if_neg he,if_neg he,ih]
  ·rw [show flS L (f :: l) = flS L l from List.filter_cons_of_neg (by simpa [inL] using hf),floorOf,ih]
   by_cases he : f.id = id
   ·rw [if_neg (he ▸ hf),if_neg (he ▸ hf)]
   ·rw [if_neg he]
theorem slice_ok {s : Sta} (h : stateOk s) (L : List Int) : stateOk (sliceF s L) := by
 obtain ⟨h1,h2⟩ := h
 have p1 : (itS L s.items).Pairwise (fun a b => Itm.id a < Itm.id b) := (pw_of (id := Itm.id) fun j x hx => (h1 j x hx).2.2.2).filter _
 have p2 : (flS L s.floors).Pairwise (fun a b => Flr.id a < Flr.id b) := (pw_of (id := Flr.id) fun j x hx => (h2 j x hx).2.2).filter _
 refine ⟨fun j x hx => ?_,fun j x hx => ?_⟩
 ·obtain ⟨k,hk⟩ := List.getElem?_of_mem ((List.mem_filter.1 (List.mem_of_getElem? hx)).1)
  have hx' := h1 k x hk
  refine ⟨hx'.1,hx'.2.1,?_,of_pw p1 j x hx⟩
  show floorOf (flS L s.floors) x.id < x.e.inc
  rw [floorOf_fl]
  split
  ·exact hx'.2.2.1
  ·have := hx'.2.1.1.1; omega
 ·obtain ⟨k,hk⟩ := List.getElem?_of_mem ((List.mem_filter.1 (List.mem_of_getElem? hx)).1)
  have hx' := h2 k x hk
  exact ⟨hx'.1,hx'.2.1,of_pw p2 j x hx⟩
theorem slice_big {s : Sta} (h : bigS s) (L : List Int) : bigS (sliceF s L) :=
 ⟨Nat.le_trans (List.length_filter_le _ _) h.1,Nat.le_trans (List.length_filter_le _ _) h.2.1,fun x hx => h.2.2 x ((List.mem_filter.1 hx).1)⟩
open Classical in
noncomputable def leafSum (s : Sta) (k : Int) : Int := if stateOk s ∧ 0 ≤ k ∧ k ≤ 3 then crc (stB (sliceF s [k])) % 1024 else 0
theorem ac_spec_LeafSum (s : SV) (k : Int) (st : St) (hR : RdS st s) (hb : bigS s.x) : C 167 [.agg #[vS s.p s.x.items.length,vS s.q s.x.floors.length],vI k] st (fun v s' => v = vI (leafSum s.x k) ∧ Pres st s') := by
 refine AC.enterX (i := ⟨[2],[2],[0,1,2,4,12],[]⟩) [] Tryz.func167 rfl rfl (by kernel_rfl) (by kernel_rfl) Tryz.ntmps167 (Lb rfl) rfl ?_
 refine ⟨_,rfl,?_⟩
 refine Cm 1 st [(1,vI k),Ml 2 0,(4,vI 0)] [(2,0,cSV s)] fun _ _ => ?_
 refine ⟨_,Od rfl,?_⟩
 refine ⟨_,rfl,(ac_spec_StateOk s st hR (by first | assumption | omega)).mono ?_⟩
 rintro _ st ⟨x6,rfl,h6,rfl⟩
 rcases x6 with _|_
 ·replace h6 := fun k => Bool.false_ne_true (h6.2 k)
  iterate 2 refine ⟨_,rfl,?_⟩
  refine Cm 1 st [(1,vI k),Ml 2 0,(4,vI 0),(12,vB true)] [(2,0,cSV s)] fun _ _ => ?_
  exact cxs (Rt ⟨congrArg vI (by rw [leafSum,if_neg (fun h => h6 h.1)]),Pres.refl _⟩)
 ·replace h6 := h6.1 rfl
  refine ⟨_,rfl,?_⟩
  refine ⟨_,rfl,(ac_spec_l1In k 0 3 st).mono ?_⟩
  rintro _ st ⟨x10,rfl,h10,rfl⟩
  rcases x10 with _|_
  ·replace h10 := of_decide_eq_false h10.symm
   iterate 2 refine ⟨_,rfl,?_⟩
   refine Cm 1 st [(1,vI k),Ml 2 0,(4,vI 0),(12,vB true)] [(2,0,cSV s)] fun _ _ => ?_
   exact cxs (Rt ⟨congrArg vI (by rw [leafSum,if_neg (fun h => h10 h.2)]),Pres.refl _⟩)
  ·replace h10 := of_decide_eq_true h10.symm
   iterate 2 refine ⟨_,rfl,?_⟩
   refine Cm 1 st [(1,vI k),Ml 2 0,(4,vI 0),(12,vB false)] [(2,0,cSV s)] fun _ _ => ?_
   refine cxs ?_
   refine ⟨_,Od rfl,?_⟩
   refine op_litI (k := .i64) (l := [k]) rfl rfl rfl rfl rfl rfl (by decide) ?_
   intro q15 s15 hO15 hP15 hN15
   refine ⟨_,rfl,(ac_spec_l6Slice s q15 [k] s15 (hR.pres hP15) hb (OwnR.rows (f := fI) fI_len hO15) (by show (1 : Nat) ≤ 1048576; omega)).mono ?_⟩
   rintro _ s16 ⟨u16,rfl,hu16,hO16,hN16,hP16⟩
   refine ⟨_,rfl,(ac_spec_l6Bytes u16 s16 hO16.rdS (by rw [hu16]; exact slice_big hb _) (by rw [hu16]; exact slice_ok h6 _)).mono ?_⟩
   rintro _ s17 ⟨q17,rfl,hO17,hN17,hP17⟩
   have hbl := stB_len (s := u16.x) (by rw [hu16]; exact slice_ok h6 _)
   have hbg : bigS u16.x := by rw [hu16]; exact slice_big hb _
   have hb1 : u16.x.items.length ≤ 1048576 := hbg.1
   have hb2 : u16.x.floors.length ≤ 1048576 := hbg.2.1
   have hc0 : 0 ≤ crc (stB u16.x) := (crc_rng (stB_ok _)).1
   refine ⟨_,rfl,(ac_spec_Crc q17 (stB u16.x) s17 (hO17.rows fB_len) (stB_ok _) (by omega)).mono ?_⟩
   rintro _ s17 ⟨rfl,rfl⟩
   refine ⟨_,op_rm (r := crc (stB u16.x) % 1024) rfl rfl rfl (by decide) (tm_emod 1024 hc0),?_⟩
   exact cxs (Rt ⟨congrArg vI (by rw [leafSum,if_pos ⟨h6,h10⟩,hu16]),(hP15.trans hP16).trans hP17⟩)
theorem ac_impl_LeafSum (s : SV) (k : Int) (st : St) (hR : RdS st s) (hb : bigS s.x) : C 155 [.agg #[vS s.p s.x.items.length,vS s.q s.x.floors.length],vI k] st (fun v s' => v = vI (leafSum s.x k) ∧ Pres st s') := by
 refine AC.enterX (i := ⟨[2],[2],[0,1,2,4,12],[]⟩) [] Tryz.func155 rfl rfl (by kernel_rfl) (by kernel_rfl) Tryz.ntmps155 (Lb rfl) rfl ?_
 refine ⟨_,rfl,?_⟩
 refine Cm 1 st [(1,vI k),Ml 2 0,(4,vI 0)] [(2,0,cSV s)] fun _ _ => ?_
 refine ⟨_,Od rfl,?_⟩
 refine ⟨_,rfl,(ac_impl_StateOk s st hR (by first | assumption | omega)).mono ?_⟩
 rintro _ st ⟨x6,rfl,h6,rfl⟩
 rcases x6 with _|_
 ·replace h6 := fun k => Bool.false_ne_true (h6.2 k)
  iterate 2 refine ⟨_,rfl,?_⟩
  refine Cm 1 st [(1,vI k),Ml 2 0,(4,vI 0),(12,vB true)] [(2,0,cSV s)] fun _ _ => ?_
  exact cxs (Rt ⟨congrArg vI (by rw [leafSum,if_neg (fun h => h6 h.1)]),Pres.refl _⟩)
 ·replace h6 := h6.1 rfl
  refine ⟨_,rfl,?_⟩
  refine ⟨_,rfl,(ac_impl_within k 0 3 st).mono ?_⟩
  rintro _ st ⟨x10,rfl,h10,rfl⟩
  rcases x10 with _|_
  ·replace h10 := of_decide_eq_false h10.symm
   iterate 2 refine ⟨_,rfl,?_⟩
   refine Cm 1 st [(1,vI k),Ml 2 0,(4,vI 0),(12,vB true)] [(2,0,cSV s)] fun _ _ => ?_
   exact cxs (Rt ⟨congrArg vI (by rw [leafSum,if_neg (fun h => h10 h.2)]),Pres.refl _⟩)
  ·replace h10 := of_decide_eq_true h10.symm
   iterate 2 refine ⟨_,rfl,?_⟩
   refine Cm 1 st [(1,vI k),Ml 2 0,(4,vI 0),(12,vB false)] [(2,0,cSV s)] fun _ _ => ?_
   refine cxs ?_
   refine ⟨_,Od rfl,?_⟩
   refine op_litI (k := .i64) (l := [k]) rfl rfl rfl rfl rfl rfl (by decide) ?_
   intro q15 s15 hO15 hP15 hN15
   refine ⟨_,rfl,(ac_impl_Slice s q15 [k] s15 (hR.pres hP15) hb (OwnR.rows (f := fI) fI_len hO15) (by show (1 : Nat) ≤ 1048576; omega) h6).mono ?_⟩
   rintro _ s16 ⟨u16,rfl,hu16,hO16,hN16,hP16⟩
   refine ⟨_,rfl,(ac_impl_StateBytes u16 s16 hO16.rdS (by rw [hu16]; exact slice_big hb _) (by rw [hu16]; exact slice_ok h6 _)).mono ?_⟩
   rintro _ s17 ⟨q17,rfl,hO17,hN17,hP17⟩
   have hbl := stB_len (s := u16.x) (by rw [hu16]; exact slice_ok h6 _)
   have hbg : bigS u16.x := by rw [hu16]; exact slice_big hb _
   have hb1 : u16.x.items.length ≤ 1048576 := hbg.1
   have hb2 : u16.x.floors.length ≤ 1048576 := hbg.2.1
   have hc0 : 0 ≤ crc (stB u16.x) := (crc_rng (stB_ok _)).1
   refine ⟨_,rfl,(ac_impl_Crc q17 (stB u16.x) s17 (hO17.rows fB_len) (stB_ok _) (by omega)).mono ?_⟩
   rintro _ s17 ⟨rfl,rfl⟩
   refine ⟨_,op_rm (r := crc (stB u16.x) % 1024) rfl rfl rfl (by decide) (tm_emod 1024 hc0),?_⟩
   exact cxs (Rt ⟨congrArg vI (by rw [leafSum,if_pos ⟨h6,h10⟩,hu16]),(hP15.trans hP16).trans hP17⟩)
noncomputable def sums (s : Sta) (i : Nat) : List Int := (List.range i).map fun (j : Nat) => leafSum s (j : Int)
theorem sums_succ (s : Sta) (i : Nat) : sums s (i + 1) = sums s i ++ [leafSum s (i : Int)] := by simp [sums,List.range_succ]
theorem sums_len (s : Sta) (i : Nat) : (sums s i).length = i := by simp [sums]
open Classical in
noncomputable def treeF (s : Sta) : Tr := if stateOk s then ⟨sums s 4,rootF (sums s 4)⟩ else ⟨[],0⟩
theorem ac_impl_TreeOf (s : SV) (st : St) (hR : RdS st s) (hb : bigS s.x) : C 54 [.agg #[vS s.p s.x.items.length,vS s.q s.x.floors.length]] st (fun v s' => ∃ u : TV,v = .agg #[vS u.p u.l.length,vI u.root] ∧ u.x = treeF s.x ∧ OwnR s' 1 fI u.p u.l ∧ New st.next u.p ∧ Pres st s') := by
 refine AC.enterX (i := ⟨[1,2,3],[1,2,3,14,21,22,25],[0,1,2,3,4,8,11],[]⟩) [(7,[4,5],[1])] Tryz.func54 rfl rfl (by kernel_rfl) (by kernel_rfl) Tryz.ntmps54 (Lb rfl) rfl ?_
 iterate 2 refine ⟨_,rfl,?_⟩
 refine Cm 2 st [Ml 1 0,Ml 2 1] [(1,0,cSV s),(2,1,[Sn,vI 0])] fun _ _ => ?_
 iterate 2 refine ⟨_,rfl,?_⟩
 refine ⟨_,Os rfl,?_⟩
 refine Cm 3 st [Ml 1 0,Ml 2 1,Ml 3 2] [(1,0,cSV s),(2,1,[Sn,vI 0]),(3,2,[Sn,vI 0])] fun _ _ => ?_
 refine ⟨_,Od rfl,?_⟩
 refine ⟨_,rfl,(ac_impl_StateOk s st hR (by first | assumption | omega)).mono ?_⟩
 rintro _ st ⟨x7,rfl,h7,rfl⟩
 rcases x7 with _|_
 ·replace h7 := fun k => Bool.false_ne_true (h7.2 k)
  refine ⟨_,rfl,?_⟩
  refine Cm 3 st [Ml 1 0,Ml 2 1,Ml 3 2,(8,vB true)] [(1,0,cSV s),(2,1,[Sn,vI 0]),(3,2,[Sn,vI 0])] fun _ _ => ?_
  refine ⟨_,Od rfl,?_⟩
  refine ⟨_,Os rfl,?_⟩
  exact cxs (Rt ⟨⟨⟨none,[]⟩,0⟩,rfl,by rw [treeF,if_neg h7],OwnR.nil,New.none,Pres.refl _⟩)
 ·replace h7 := h7.1 rfl
  refine ⟨_,rfl,?_⟩
  refine Cm 3 st [Ml 1 0,Ml 2 1,Ml 3 2,(8,vB false)] [(1,0,cSV s),(2,1,[Sn,vI 0]),(3,2,[Sn,vI 0])] fun _ _ => ?_
  refine cxs ?_
  refine Cm 3 st [Ml 1 0,Ml 2 1,Ml 3 2,(4,vI 0)] [(1,0,cSV s),(2,1,[Sn,vI 0]),(3,2,[Sn,vI 0])] fun _ _ => ?_
  refine AW.loopM (fun x : Nat × Option Addr × List Int => [(1,vL 1 0 (0)),(2,vL 2 0 (1)),(3,vL 3 0 (2)),(4,vI (x.1 : Int))]) (fun x : Nat × Option Addr × List Int => [(1,0,[vS s.p s.x.items.length,vS s.q s.x.floors.length]),(2,1,[.slice none 0 0,vI 0]),(3,2,[vS x.2.1 x.2.2.length,vI 0])]) (fun m (x : Nat × Option Addr × List Int) st' => m = 4 - x.1 ∧ x.1 ≤ 4 ∧ x.2.2 = sums s.x x.1 ∧ OwnR st' 1 fI x.2.1 x.2.2 ∧ New st.next x.2.1 ∧ Pres st st') (0,none,[]) _ ⟨rfl,rfl,rfl,rfl,trivial⟩ ⟨rfl,rfl,rfl,trivial⟩ ⟨rfl,Nat.zero_le _,rfl,OwnR.nil,New.none,Pres.refl _⟩ ?_
  rintro m ⟨i,q,l⟩ ρ0 ff gg st' ⟨rfl,hi,hv,hO,hN,hP⟩
  simp only at hi hv hO hN
  have hl : l.length = i := by rw [hv,sums_len]
  refine ⟨_,rfl,?_⟩
  rintro (_|_) h11
  ·replace h11 : ¬ ((i : Int) < (4)) := of_decide_eq_false h11
   refine Cm gg st' [Ml 1 0,Ml 2 1,Ml 3 2,(4,vI (i : Int)),(11,vB false)] [(1,0,cSV s),(2,1,[Sn,vI 0]),(3,2,[vS q l.length,vI 0])] fun _ _ => ?_
   refine cxs ?_
   refine ⟨_,rfl,?_⟩
   refine ⟨_,Od rfl,?_⟩
   have hv4 : l = sums s.x 4 := by rw [hv,show i = 4 by omega]
   have hsl : szOk l.length := by unfold szOk; omega
   refine ⟨_,rfl,(ac_impl_rootOf q l st' (hO.rows fI_len) (by first | assumption | omega)).mono ?_⟩
   rintro _ s24 ⟨rfl,hP24⟩
   refine ⟨_,rfl,?_⟩
   refine ⟨_,Os rfl,?_⟩
   refine Cm gg s24 [Ml 2 1,Ml 3 2] [(2,1,[Sn,vI 0]),(3,2,[vS q l.length,vI (rootF l)])] fun _ _ => ?_
   refine ⟨_,Od rfl,?_⟩
   refine ⟨_,Os rfl,?_⟩
   exact cxs (Rt ⟨⟨⟨q,l⟩,rootF l⟩,rfl,by rw [treeF,if_pos h7,← hv4],hP24.ownR hO,hN,hP.trans hP24⟩)
  ·replace h11 : (i : Int) < (4) := of_decide_eq_true h11
   refine Cm gg st' [Ml 1 0,Ml 2 1,Ml 3 2,(4,vI (i : Int)),(11,vB true)] [(1,0,cSV s),(2,1,[Sn,vI 0]),(3,2,[vS q l.length,vI 0])] fun _ _ => ?_
   refine cxs ?_
   refine ⟨_,rfl,?_⟩
   refine ⟨_,Od rfl,?_⟩
   refine ⟨ld_own rfl rfl rfl,?_⟩
   refine ⟨_,Od rfl,?_⟩
   refine ⟨_,rfl,(ac_impl_LeafSum s (i : Int) st' (hR.pres hP) (by first | assumption | omega)).mono ?_⟩
   rintro _ s18 ⟨rfl,hP18⟩
   refine ⟨hP18.2,?_⟩
   refine op_one (z := 1) (a := ((leafSum s.x (i : Int)) : Int)) (f := fI) rfl rfl rfl rfl rfl (by decide) rfl (Lb rfl) rfl rfl rfl ?_
   refine ⟨Pres.push.low hP18,?_⟩
   refine op_snoc (z := 1) (st := s18) (f := fI) (b := 8) (l := l) (x := leafSum s.x (i : Int)) rfl rfl rfl rfl rfl rfl rfl (by decide) fI_len rfl rfl rfl (by omega) (by unfold maxLen; omega) (hP18.ownR hO) ?_
   intro q20 s20 hO20 hP20 hN20
   refine ⟨_,rfl,?_⟩
   refine ⟨_,Os rfl,?_⟩
   refine Cm gg s20 [Ml 1 0,Ml 2 1,Ml 3 2,(4,vI (i : Int)),(11,vB true)] [(1,0,cSV s),(2,1,[Sn,vI 0]),(3,2,[vS q20 (l ++ [leafSum s.x (i : Int)]).length,vI 0])] fun _ _ => ?_
   have ew13 : IntKind.wrap .i64 ((i : Int) + (1)) = ((i + 1 : Nat) : Int) := (wrap_i64 (by omega) (by omega)).trans (by omega)
   refine ⟨_,rfl,?_⟩
   exact ⟨(i + 1,q20,l ++ [leafSum s.x (i : Int)]),4 - (i + 1),by omega,⟨rfl,rfl,rfl,congrArg (Value.int .i64) ew13,trivial⟩,⟨rfl,rfl,rfl,trivial⟩,rfl,by simp only; omega,by simp only; rw [sums_succ,← hv],hO20,hN20.le (hP.trans hP18).1,hP20.pres (hP.trans hP18) hN⟩
theorem ac_spec_TreeOf (s : SV) (st : St) (hR : RdS st s) (hb : bigS s.x) : C 74 [.agg #[vS s.p s.x.items.length,vS s.q s.x.floors.length]] st (fun v s' => ∃ u : TV,v = .agg #[vS u.p u.l.length,vI u.root] ∧ u.x = treeF s.x ∧ OwnR s' 1 fI u.p u.l ∧ New st.next u.p ∧ Pres st s') := by
 refine AC.enterX (i := ⟨[1,2,3],[1,2,3,14,21,22,25],[0,1,2,3,4,7,11],[]⟩) [(7,[4,5],[1])] Tryz.func74 rfl rfl (by kernel_rfl) (by kernel_rfl) Tryz.ntmps74 (Lb rfl) rfl ?_
 iterate 2 refine ⟨_,rfl,?_⟩
 refine Cm 2 st [Ml 1 0,Ml 2 1] [(1,0,cSV s),(2,1,[Sn,vI 0])] fun _ _ => ?_
 refine ⟨_,Od rfl,?_⟩
 refine ⟨_,rfl,(ac_spec_StateOk s st hR (by first | assumption | omega)).mono ?_⟩
 rintro _ st ⟨x6,rfl,h6,rfl⟩
 rcases x6 with _|_
 ·replace h6 := fun k => Bool.false_ne_true (h6.2 k)
  refine ⟨_,rfl,?_⟩
  refine Cm 2 st [Ml 1 0,Ml 2 1,(7,vB true)] [(1,0,cSV s),(2,1,[Sn,vI 0])] fun _ _ => ?_
  refine ⟨_,rfl,?_⟩
  refine ⟨_,Os rfl,?_⟩
  exact cxs (Rt ⟨⟨⟨none,[]⟩,0⟩,rfl,by rw [treeF,if_neg h6],OwnR.nil,New.none,Pres.refl _⟩)
 ·replace h6 := h6.1 rfl
  refine ⟨_,rfl,?_⟩
  refine Cm 2 st [Ml 1 0,Ml 2 1,(7,vB false)] [(1,0,cSV s),(2,1,[Sn,vI 0])] fun _ _ => ?_
  refine cxs ?_
  iterate 2 refine ⟨_,rfl,?_⟩
  refine ⟨_,Os rfl,?_⟩
  refine cxs ?_
  refine Cm 3 st [Ml 1 0,Ml 2 1,Ml 3 2,(4,vI 0)] [(1,0,cSV s),(2,1,[Sn,vI 0]),(3,2,[Sn,vI 0])] fun _ _ => ?_
  refine AW.loopM (fun x : Nat × Option Addr × List Int => [(1,vL 1 0 (0)),(2,vL 2 0 (1)),(3,vL 3 0 (2)),(4,vI (x.1 : Int))]) (fun x : Nat × Option Addr × List Int => [(1,0,[vS s.p s.x.items.length,vS s.q s.x.floors.length]),(2,1,[.slice none 0 0,vI 0]),(3,2,[vS x.2.1 x.2.2.length,vI 0])]) (fun m (x : Nat × Option Addr × List Int) st' => m = 4 - x.1 ∧ x.1 ≤ 4 ∧ x.2.2 = sums s.x x.1 ∧ OwnR st' 1 fI x.2.1 x.2.2 ∧ New st.next x.2.1 ∧ Pres st st') (0,none,[]) _ ⟨rfl,rfl,rfl,rfl,trivial⟩ ⟨rfl,rfl,rfl,trivial⟩ ⟨rfl,Nat.zero_le _,rfl,OwnR.nil,New.none,Pres.refl _⟩ ?_
  rintro m ⟨i,q,l⟩ ρ0 ff gg st' ⟨rfl,hi,hv,hO,hN,hP⟩
  simp only at hi hv hO hN
  have hl : l.length = i := by rw [hv,sums_len]
  refine ⟨_,rfl,?_⟩
  rintro (_|_) h11
  ·replace h11 : ¬ ((i : Int) < (4)) := of_decide_eq_false h11
   refine Cm gg st' [Ml 1 0,Ml 2 1,Ml 3 2,(4,vI (i : Int)),(11,vB false)] [(1,0,cSV s),(2,1,[Sn,vI 0]),(3,2,[vS q l.length,vI 0])] fun _ _ => ?_
   refine cxs ?_
   refine ⟨_,rfl,?_⟩
   refine ⟨_,Od rfl,?_⟩
   have hv4 : l = sums s.x 4 := by rw [hv,show i = 4 by omega]
   have hsl : szOk l.length := by unfold szOk; omega
   refine ⟨_,rfl,(ac_spec_l6Root q l st' (hO.rows fI_len) (by first | assumption | omega)).mono ?_⟩
   rintro _ s24 ⟨rfl,hP24⟩
   refine ⟨_,rfl,?_⟩
   refine ⟨_,Os rfl,?_⟩
   refine Cm gg s24 [Ml 2 1,Ml 3 2] [(2,1,[Sn,vI 0]),(3,2,[vS q l.length,vI (rootF l)])] fun _ _ => ?_
   refine ⟨_,Od rfl,?_⟩
   refine ⟨_,Os rfl,?_⟩
   exact cxs (Rt ⟨⟨⟨q,l⟩,rootF l⟩,rfl,by rw [treeF,if_pos h6,← hv4],hP24.ownR hO,hN,hP.trans hP24⟩)
  ·replace h11 : (i : Int) < (4) := of_decide_eq_true h11
   refine Cm gg st' [Ml 1 0,Ml 2 1,Ml 3 2,(4,vI (i : Int)),(11,vB true)] [(1,0,cSV s),(2,1,[Sn,vI 0]),(3,2,[vS q l.length,vI 0])] fun _ _ => ?_
   refine cxs ?_
   refine ⟨_,rfl,?_⟩
   refine ⟨_,Od rfl,?_⟩
   refine ⟨ld_own rfl rfl rfl,?_⟩
   refine ⟨_,Od rfl,?_⟩
   refine ⟨_,rfl,(ac_spec_LeafSum s (i : Int) st' (hR.pres hP) (by first | assumption | omega)).mono ?_⟩
   rintro _ s18 ⟨rfl,hP18⟩
   refine ⟨hP18.2,?_⟩
   refine op_one (z := 1) (a := ((leafSum s.x (i : Int)) : Int)) (f := fI) rfl rfl rfl rfl rfl (by decide) rfl (Lb rfl) rfl rfl rfl ?_
   refine ⟨Pres.push.low hP18,?_⟩
   refine op_snoc (z := 1) (st := s18) (f := fI) (b := 8) (l := l) (x := leafSum s.x (i : Int)) rfl rfl rfl rfl rfl rfl rfl (by decide) fI_len rfl rfl rfl (by omega) (by unfold maxLen; omega) (hP18.ownR hO) ?_
   intro q20 s20 hO20 hP20 hN20
   refine ⟨_,rfl,?_⟩
   refine ⟨_,Os rfl,?_⟩
   refine Cm gg s20 [Ml 1 0,Ml 2 1,Ml 3 2,(4,vI (i : Int)),(11,vB true)] [(1,0,cSV s),(2,1,[Sn,vI 0]),(3,2,[vS q20 (l ++ [leafSum s.x (i : Int)]).length,vI 0])] fun _ _ => ?_
   have ew13 : IntKind.wrap .i64 ((i : Int) + (1)) = ((i + 1 : Nat) : Int) := (wrap_i64 (by omega) (by omega)).trans (by omega)
   refine ⟨_,rfl,?_⟩
   exact ⟨(i + 1,q20,l ++ [leafSum s.x (i : Int)]),4 - (i + 1),by omega,⟨rfl,rfl,rfl,congrArg (Value.int .i64) ew13,trivial⟩,⟨rfl,rfl,rfl,trivial⟩,rfl,by simp only; omega,by simp only; rw [sums_succ,← hv],hO20,hN20.le (hP.trans hP18).1,hP20.pres (hP.trans hP18) hN⟩
open Classical in
noncomputable def logSeq (g : Lg) : Int := if logOk g then g.frm + (g.list.length : Int) else 0
theorem ac_spec_LogSeq (g : LV) (st : St) (hR : RdL st g.p g.l) (hb : bigL g.l) : C 77 [.agg #[vI g.cap,vI g.frm,vS g.p g.l.length]] st (fun v s => v = vI (logSeq g.x) ∧ s = st) := by
 refine AC.enterX (i := ⟨[1],[1,6,8],[0,1,2,5],[]⟩) [] Tryz.func77 rfl rfl (by kernel_rfl) (by kernel_rfl) Tryz.ntmps77 (Lb rfl) rfl ?_
 refine ⟨_,rfl,?_⟩
 refine Cm 1 st [Ml 1 0,(2,vI 0)] [(1,0,[vI g.cap,vI g.frm,vS g.p g.l.length])] fun _ _ => ?_
 refine ⟨_,rfl,?_⟩
 refine ⟨_,rfl,(ac_spec_LogOk g st hR hb).mono ?_⟩
 rintro _ st ⟨a,rfl,hk,rfl⟩
 rcases a with _|_
 ·replace hk := fun k => Bool.false_ne_true (hk.2 k)
  refine ⟨_,rfl,?_⟩
  refine Cm 1 st [Ml 1 0,(2,vI 0),(5,vB true)] [(1,0,[vI g.cap,vI g.frm,vS g.p g.l.length])] fun _ _ => ?_
  exact cxs (Rt ⟨congrArg vI (by rw [logSeq,if_neg hk]),rfl⟩)
 ·replace hk := hk.1 rfl
  refine ⟨_,rfl,?_⟩
  refine Cm 1 st [Ml 1 0,(2,vI 0),(5,vB false)] [(1,0,[vI g.cap,vI g.frm,vS g.p g.l.length])] fun _ _ => ?_
  refine cxs ?_
  iterate 5 refine ⟨_,rfl,?_⟩
  have hgl : g.x.list.length = g.l.length := List.length_map _
  have hk2 : (g.l.length : Int) ≤ g.cap := by have h := hk.2.1; rw [hgl] at h; exact h
  have hk3 : 0 ≤ g.frm ∧ g.frm ≤ 100000 := hk.2.2.1
  have hk4 : 1 ≤ g.cap ∧ g.cap ≤ 8 := hk.1
  have e11 : IntKind.wrap .i64 (g.frm + (g.l.length : Int)) = g.frm + (g.l.length : Int) := wrap_i64 (by omega) (by omega)
  refine ⟨_,rfl,?_⟩
  exact cxs (Rt ⟨(show vI (IntKind.wrap .i64 (g.frm + (g.l.length : Int))) = _ by rw [e11,logSeq,if_pos hk,hgl]),rfl⟩)
theorem ac_impl_LogSeq (g : LV) (st : St) (hR : RdL st g.p g.l) (hb : bigL g.l) : C 32 [.agg #[vI g.cap,vI g.frm,vS g.p g.l.length]] st (fun v s => v = vI (logSeq g.x) ∧ s = st) := by
 refine AC.enterX (i := ⟨[1],[1,6,8],[0,1,2,5],[]⟩) [] Tryz.func32 rfl rfl (by kernel_rfl) (by kernel_rfl) Tryz.ntmps32 (Lb rfl) rfl ?_
 refine ⟨_,rfl,?_⟩
 refine Cm 1 st [Ml 1 0,(2,vI 0)] [(1,0,[vI g.cap,vI g.frm,vS g.p g.l.length])] fun _ _ => ?_
 refine ⟨_,rfl,?_⟩
 refine ⟨_,rfl,(ac_impl_LogOk g st hR hb).mono ?_⟩
 rintro _ st ⟨a,rfl,hk,rfl⟩
 rcases a with _|_
 ·replace hk := fun k => Bool.false_ne_true (hk.2 k)
  refine ⟨_,rfl,?_⟩
  refine Cm 1 st [Ml 1 0,(2,vI 0),(5,vB true)] [(1,0,[vI g.cap,vI g.frm,vS g.p g.l.length])] fun _ _ => ?_
  exact cxs (Rt ⟨congrArg vI (by rw [logSeq,if_neg hk]),rfl⟩)
 ·replace hk := hk.1 rfl
  refine ⟨_,rfl,?_⟩
  refine Cm 1 st [Ml 1 0,(2,vI 0),(5,vB false)] [(1,0,[vI g.cap,vI g.frm,vS g.p g.l.length])] fun _ _ => ?_
  refine cxs ?_
  iterate 5 refine ⟨_,rfl,?_⟩
  have hgl : g.x.list.length = g.l.length := List.length_map _
  have hk2 : (g.l.length : Int) ≤ g.cap := by have h := hk.2.1; rw [hgl] at h; exact h
  have hk3 : 0 ≤ g.frm ∧ g.frm ≤ 100000 := hk.2.2.1
  have hk4 : 1 ≤ g.cap ∧ g.cap ≤ 8 := hk.1
  have e11 : IntKind.wrap .i64 (g.frm + (g.l.length : Int)) = g.frm + (g.l.length : Int) := wrap_i64 (by omega) (by omega)
  refine ⟨_,rfl,?_⟩
  exact cxs (Rt ⟨(show vI (IntKind.wrap .i64 (g.frm + (g.l.length : Int))) = _ by rw [e11,logSeq,if_pos hk,hgl]),rfl⟩)
theorem pcL_nil {st : St} : OwnP st (pcL none []) := OwnP.one (.inl ⟨rfl,rfl⟩)
theorem newL_nil {n : Nat} : NewP n (pcL none []) := NewP.cons New.none NewP.nil
theorem pcL_snoc {st s1 s2 : St} {q q2 : Option Addr} {l : List SV} {u : SV} (h : OwnP st (pcL q l)) (hp : Pres st s1) (hu : OwnP s1 (pcS u)) (hn : NewP st.next (pcS u)) (hP : Pr q s1 s2) (ho : OwnR s2 2 cSV q2 (l ++ [u])) (hn2 : New s1.next q2) : OwnP s2 (pcL q2 (l ++ [u])) := by
 have h1 : OwnP s1 (pcR 2 cSV q l :: (l.flatMap pcS ++ pcS u)) := h.join hp hu hn
 have h2 : OwnP s2 (pcR 2 cSV q2 (l ++ [u]) :: (l.flatMap pcS ++ pcS u)) := OwnP.renew (l := []) h1 hP (own_pc ho) hn2
 show OwnP s2 (pcR 2 cSV q2 (l ++ [u]) :: (l ++ [u]).flatMap pcS)
 rw [List.flatMap_append,List.flatMap_singleton]
 exact h2
theorem newL_snoc {n : Nat} {q q2 : Option Addr} {l : List SV} {u : SV} (h : NewP n (pcL q l)) (hn : NewP n (pcS u)) (hn2 : New n q2) : NewP n (pcL q2 (l ++ [u])) := by
 show NewP n (pcR 2 cSV q2 (l ++ [u]) :: (l ++ [u]).flatMap pcS)
 rw [List.flatMap_append,List.flatMap_singleton]
 exact NewP.cons hn2 (NewP.app (fun c hc => h c (List.mem_cons_of_mem _ hc)) hn)
theorem newL_p {n : Nat} {q : Option Addr} {l : List SV} (h : NewP n (pcL q l)) : New n q := h _ (List.mem_cons_self ..)
theorem ac_impl_copyLog (g : LV) (st : St) (hR : RdL st g.p g.l) (hb : bigL g.l) : C 148 [.agg #[vI g.cap,vI g.frm,vS g.p g.l.length]] st (fun v s => ∃ u : LV,v = .agg #[vI u.cap,vI u.frm,vS u.p u.l.length] ∧ u.x = g.x ∧ OwnP s (pcL u.p u.l) ∧ NewP st.next (pcL u.p u.l) ∧ Pres st s) := by
 have hs : g.l.length ≤ 1048576 := hb.1
 refine AC.enterX (i := ⟨[1,2,3,5],[1,2,3,5,6,8,11,18,24],[0,1,2,3,5,12,13,14,15],[]⟩) [(5,[3,4],[1])] Tryz.func148 rfl rfl (by kernel_rfl) (by kernel_rfl) Tryz.ntmps148 (Lb rfl) rfl ?_
 iterate 2 refine ⟨_,rfl,?_⟩
 refine Cm 2 st [Ml 1 0,Ml 2 1] [(1,0,[vI g.cap,vI g.frm,vS g.p g.l.length]),(2,1,[vI 0,vI 0,Sn])] fun _ _ => ?_
 refine ⟨_,rfl,?_⟩
 refine ⟨_,Od rfl,?_⟩
 refine ⟨_,rfl,?_⟩
 refine ⟨_,Od rfl,?_⟩
 iterate 2 refine ⟨_,rfl,?_⟩
 refine ⟨_,Os rfl,?_⟩
 refine Cm 3 st [Ml 1 0,Ml 2 1,Ml 3 2] [(1,0,[vI g.cap,vI g.frm,vS g.p g.l.length]),(2,1,[vI 0,vI 0,Sn]),(3,2,[vI g.cap,vI g.frm,Sn])] fun _ _ => ?_
 refine ⟨_,rfl,?_⟩
 refine ⟨_,Od rfl,?_⟩
 refine ⟨_,rfl,?_⟩
 refine Cm 3 st [Ml 2 1,Ml 3 2,(12,vS g.p g.l.length),(13,vI (g.l.length : Int)),(14,vI 0)] [(2,1,[vI 0,vI 0,Sn]),(3,2,[vI g.cap,vI g.frm,Sn])] fun _ _ => ?_
 refine AW.loopM (fun x : Nat × Option Addr × List SV => [(2,vL 2 0 (1)),(3,vL 3 0 (2)),(12,vS g.p g.l.length),(13,vI (g.l.length : Int)),(14,vI (x.1 : Int))]) (fun x : Nat × Option Addr × List SV => [(2,1,[vI 0,vI 0,.slice none 0 0]),(3,2,[vI g.cap,vI g.frm,vS x.2.1 x.2.2.length])]) (fun m (x : Nat × Option Addr × List SV) st' => m = g.l.length - x.1 ∧ x.1 ≤ g.l.length ∧ x.2.2.map (·.x) = (g.l.take x.1).map (·.x) ∧ OwnP st' (pcL x.2.1 x.2.2) ∧ NewP st.next (pcL x.2.1 x.2.2) ∧ Pres st st') (0,none,[]) _ ⟨rfl,rfl,rfl,rfl,rfl,trivial⟩ ⟨rfl,rfl,trivial⟩ ⟨rfl,Nat.zero_le _,rfl,pcL_nil,newL_nil,Pres.refl _⟩ ?_
 rintro m ⟨i,q,l⟩ ρ0 ff gg st' ⟨rfl,hi,hl,hO,hN,hP⟩
 simp only at hi hl hO hN
 have hll : l.length = i := by have := congrArg List.length hl; simp at this; omega
 refine ⟨_,rfl,?_⟩
 rintro (_|_) h15
 ·replace h15 : ¬ ((i : Int) < (g.l.length : Int)) := of_decide_eq_false h15
  refine Cm gg st' [Ml 2 1,Ml 3 2,(12,vS g.p g.l.length),(13,vI (g.l.length : Int)),(14,vI (i : Int)),(15,vB false)] [(2,1,[vI 0,vI 0,Sn]),(3,2,[vI g.cap,vI g.frm,vS q l.length])] fun _ _ => ?_
  refine cxs ?_
  refine ⟨_,Od rfl,?_⟩
  refine ⟨_,Os rfl,?_⟩
  refine cxs ?_
  have hil : i = g.l.length := by omega
  exact Rt ⟨⟨g.cap,g.frm,q,l⟩,rfl,by simp only [LV.x,hl,hil,List.take_length],hO,hN,hP⟩
 ·replace h15 : (i : Int) < (g.l.length : Int) := of_decide_eq_true h15
  refine Cm gg st' [Ml 2 1,Ml 3 2,(12,vS g.p g.l.length),(13,vI (g.l.length : Int)),(14,vI (i : Int)),(15,vB true)] [(2,1,[vI 0,vI 0,Sn]),(3,2,[vI g.cap,vI g.frm,vS q l.length])] fun _ _ => ?_
  refine cxs ?_
  refine op_at i (hP.rows hR.1) (by omega) rfl rfl rfl rfl rfl rfl rfl ?_
  intro x16 b16 d16 k16 hy16 hb16 hm16 hc16 ho16
  refine ⟨_,op_lda rfl rfl rfl rfl rfl hm16 hc16 rfl,?_⟩
  refine ⟨_,rfl,?_⟩
  refine ⟨_,Os rfl,?_⟩
  refine Cm (gg + 1) st' [Ml 2 1,Ml 3 2,Ml 5 gg,(12,vS g.p g.l.length),(13,vI (g.l.length : Int)),(14,vI (i : Int)),(15,vB true)] [(2,1,[vI 0,vI 0,Sn]),(3,2,[vI g.cap,vI g.frm,vS q l.length]),(5,gg,cSV x16)] fun _ _ => ?_
  refine ⟨_,rfl,?_⟩
  refine ⟨_,Od rfl,?_⟩
  refine ⟨ld_own rfl rfl rfl,?_⟩
  refine ⟨_,Od rfl,?_⟩
  refine ⟨_,rfl,(ac_impl_copyState x16 st' ((hR.2 x16 (List.mem_of_getElem? hy16)).pres hP) (hb.2 x16 (List.mem_of_getElem? hy16))).mono ?_⟩
  rintro _ s21 ⟨u21,rfl,h21,hO21,hN21,hP21⟩
  refine ⟨hP21.2,?_⟩
  refine op_one (z := 2) (a := (u21 : SV)) (f := cSV) rfl rfl rfl rfl rfl (by decide) rfl (Lb rfl) rfl rfl rfl ?_
  refine ⟨Pres.push.low hP21,?_⟩
  refine op_add (z := 2) (st := s21) (f := cSV) (b := 48) (l := l) rfl rfl rfl rfl rfl rfl rfl (by decide) len_cSV rfl rfl rfl (by omega) (by unfold maxLen; omega) ((hO.pres hP21).louter) ?_
  intro q23 s23 hO23 hP23 hN23
  refine ⟨_,rfl,?_⟩
  refine ⟨_,Os rfl,?_⟩
  refine Cm (gg + 1) s23 [Ml 2 1,Ml 3 2,Ml 5 gg,(12,vS g.p g.l.length),(13,vI (g.l.length : Int)),(14,vI (i : Int)),(15,vB true)] [(2,1,[vI 0,vI 0,Sn]),(3,2,[vI g.cap,vI g.frm,vS q23 (l.length + 1)]),(5,gg,cSV x16)] fun _ _ => ?_
  have hO5 := pcL_snoc hO hP21 hO21 hN21 hP23 hO23 hN23
  have hN5 := newL_snoc hN (hN21.le hP.1) (hN23.le (hP.trans hP21).1)
  have hP5 := hP23.pres (hP.trans hP21) (newL_p hN)
  have hl5 : (l ++ [u21]).map (·.x) = (g.l.take (i + 1)).map (·.x) := by rw [(split_at' hy16).2.1,List.map_append,List.map_append,hl]; simp [h21]
  have ew25 : IntKind.wrap .i64 ((i : Int) + (1)) = ((i + 1 : Nat) : Int) := (wrap_i64 (by omega) (by omega)).trans (by omega)
  refine ⟨_,rfl,?_⟩
  exact ⟨(i + 1,q23,l ++ [u21]),g.l.length - (i + 1),by omega,⟨rfl,rfl,rfl,rfl,congrArg (Value.int .i64) ew25,trivial⟩,⟨rfl,(show some (2,[vI g.cap,vI g.frm,vS q23 (l.length + 1)]) = _ by rw [List.length_append]; rfl),trivial⟩,rfl,by omega,hl5,hO5,hN5,hP5⟩
theorem ac_spec_l7Copy (g : LV) (st : St) (hR : RdL st g.p g.l) (hb : bigL g.l) : C 158 [.agg #[vI g.cap,vI g.frm,vS g.p g.l.length]] st (fun v s => ∃ u : LV,v = .agg #[vI u.cap,vI u.frm,vS u.p u.l.length] ∧ u.x = g.x ∧ OwnP s (pcL u.p u.l) ∧ NewP st.next (pcL u.p u.l) ∧ Pres st s) := by
 have hs : g.l.length ≤ 1048576 := hb.1
 refine AC.enterX (i := ⟨[1,2,3],[1,2,3,5,7,11,17,19,27],[0,1,2,3,4,14],[]⟩) [(5,[7,8],[1])] Tryz.func158 rfl rfl (by kernel_rfl) (by kernel_rfl) Tryz.ntmps158 (Lb rfl) rfl ?_
 iterate 2 refine ⟨_,rfl,?_⟩
 refine Cm 2 st [Ml 1 0,Ml 2 1] [(1,0,[vI g.cap,vI g.frm,vS g.p g.l.length]),(2,1,[vI 0,vI 0,Sn])] fun _ _ => ?_
 refine ⟨_,rfl,?_⟩
 refine ⟨_,Od rfl,?_⟩
 refine ⟨_,rfl,?_⟩
 refine ⟨_,Od rfl,?_⟩
 iterate 2 refine ⟨_,rfl,?_⟩
 refine ⟨_,Os rfl,?_⟩
 refine cxs ?_
 refine Cm 3 st [Ml 1 0,Ml 2 1,Ml 3 2,(4,vI 0)] [(1,0,[vI g.cap,vI g.frm,vS g.p g.l.length]),(2,1,[vI 0,vI 0,Sn]),(3,2,[vI g.cap,vI g.frm,Sn])] fun _ _ => ?_
 refine AW.loopM (fun x : Nat × Option Addr × List SV => [(1,vL 1 0 (0)),(2,vL 2 0 (1)),(3,vL 3 0 (2)),(4,vI (x.1 : Int))]) (fun x : Nat × Option Addr × List SV => [(1,0,[vI g.cap,vI g.frm,vS g.p g.l.length]),(2,1,[vI 0,vI 0,.slice none 0 0]),(3,2,[vI g.cap,vI g.frm,vS x.2.1 x.2.2.length])]) (fun m (x : Nat × Option Addr × List SV) st' => m = g.l.length - x.1 ∧ x.1 ≤ g.l.length ∧ x.2.2.map (·.x) = (g.l.take x.1).map (·.x) ∧ OwnP st' (pcL x.2.1 x.2.2) ∧ NewP st.next (pcL x.2.1 x.2.2) ∧ Pres st st') (0,none,[]) _ ⟨rfl,rfl,rfl,rfl,trivial⟩ ⟨rfl,rfl,rfl,trivial⟩ ⟨rfl,Nat.zero_le _,rfl,pcL_nil,newL_nil,Pres.refl _⟩ ?_
 rintro m ⟨i,q,l⟩ ρ0 ff gg st' ⟨rfl,hi,hl,hO,hN,hP⟩
 simp only at hi hl hO hN
 have hll : l.length = i := by have := congrArg List.length hl; simp at this; omega
 refine ⟨_,rfl,?_⟩
 refine ⟨_,Od rfl,?_⟩
 iterate 2 refine ⟨_,rfl,?_⟩
 rintro (_|_) h14
 ·replace h14 : ¬ ((i : Int) < (g.l.length : Int)) := of_decide_eq_false h14
  refine Cm gg st' [Ml 1 0,Ml 2 1,Ml 3 2,(4,vI (i : Int)),(14,vB false)] [(1,0,[vI g.cap,vI g.frm,vS g.p g.l.length]),(2,1,[vI 0,vI 0,Sn]),(3,2,[vI g.cap,vI g.frm,vS q l.length])] fun _ _ => ?_
  refine cxs ?_
  refine ⟨_,Od rfl,?_⟩
  refine ⟨_,Os rfl,?_⟩
  refine cxs ?_
  have hil : i = g.l.length := by omega
  exact Rt ⟨⟨g.cap,g.frm,q,l⟩,rfl,by simp only [LV.x,hl,hil,List.take_length],hO,hN,hP⟩
 ·replace h14 : (i : Int) < (g.l.length : Int) := of_decide_eq_true h14
  refine Cm gg st' [Ml 1 0,Ml 2 1,Ml 3 2,(4,vI (i : Int)),(14,vB true)] [(1,0,[vI g.cap,vI g.frm,vS g.p g.l.length]),(2,1,[vI 0,vI 0,Sn]),(3,2,[vI g.cap,vI g.frm,vS q l.length])] fun _ _ => ?_
  refine cxs ?_
  refine ⟨_,rfl,?_⟩
  refine ⟨_,Od rfl,?_⟩
  refine ⟨ld_own rfl rfl rfl,?_⟩
  refine ⟨_,rfl,?_⟩
  refine ⟨_,Od rfl,?_⟩
  refine op_at i (hP.rows hR.1) (by omega) rfl rfl rfl rfl rfl rfl rfl ?_
  intro x22 b22 d22 k22 hy22 hb22 hm22 hc22 ho22
  refine ⟨_,op_lda rfl rfl rfl rfl rfl hm22 hc22 rfl,?_⟩
  refine ⟨_,rfl,(ac_spec_l3Copy x22 st' ((hR.2 x22 (List.mem_of_getElem? hy22)).pres hP) (hb.2 x22 (List.mem_of_getElem? hy22))).mono ?_⟩
  rintro _ s24 ⟨u24,rfl,h24,hO24,hN24,hP24⟩
  refine ⟨hP24.2,?_⟩
  refine op_one (z := 2) (a := (u24 : SV)) (f := cSV) rfl rfl rfl rfl rfl (by decide) rfl (Lb rfl) rfl rfl rfl ?_
  refine ⟨Pres.push.low hP24,?_⟩
  refine op_add (z := 2) (st := s24) (f := cSV) (b := 48) (l := l) rfl rfl rfl rfl rfl rfl rfl (by decide) len_cSV rfl rfl rfl (by omega) (by unfold maxLen; omega) ((hO.pres hP24).louter) ?_
  intro q26 s26 hO26 hP26 hN26
  refine ⟨_,rfl,?_⟩
  refine ⟨_,Os rfl,?_⟩
  refine Cm gg s26 [Ml 1 0,Ml 2 1,Ml 3 2,(4,vI (i : Int)),(14,vB true)] [(1,0,[vI g.cap,vI g.frm,vS g.p g.l.length]),(2,1,[vI 0,vI 0,Sn]),(3,2,[vI g.cap,vI g.frm,vS q26 (l.length + 1)])] fun _ _ => ?_
  have hO5 := pcL_snoc hO hP24 hO24 hN24 hP26 hO26 hN26
  have hN5 := newL_snoc hN (hN24.le hP.1) (hN26.le (hP.trans hP24).1)
  have hP5 := hP26.pres (hP.trans hP24) (newL_p hN)
  have hl5 : (l ++ [u24]).map (·.x) = (g.l.take (i + 1)).map (·.x) := by rw [(split_at' hy22).2.1,List.map_append,List.map_append,hl]; simp [h24]
  have ew16 : IntKind.wrap .i64 ((i : Int) + (1)) = ((i + 1 : Nat) : Int) := (wrap_i64 (by omega) (by omega)).trans (by omega)
  refine ⟨_,rfl,?_⟩
  exact ⟨(i + 1,q26,l ++ [u24]),g.l.length - (i + 1),by omega,⟨rfl,rfl,rfl,congrArg (Value.int .i64) ew16,trivial⟩,⟨rfl,rfl,(show some (2,[vI g.cap,vI g.frm,vS q26 (l.length + 1)]) = _ by rw [List.length_append]; rfl),trivial⟩,rfl,by omega,hl5,hO5,hN5,hP5⟩
theorem lw_drop {st : St} {q : Option Addr} {l : List SV} (h : OwnP st (pcL q l)) (cap frm : Int) (j : Nat) : ∃ w : LW,w.v = ⟨cap,frm,shO q 2 j,l.drop j⟩ ∧ OwnP st (pcLog w) ∧ ∀ n,NewP n (pcL q l) → NewP n (pcLog w) := by
 have hsub : ((pcR 2 cSV q l) :: (l.drop j).flatMap pcS).Sublist (pcL q l) := by
  refine List.Sublist.cons_cons _ ?_
  have : l.flatMap pcS = (l.take j).flatMap pcS ++ (l.drop j).flatMap pcS := by rw [← List.flatMap_append,List.take_append_drop]
  rw [this]; exact List.sublist_append_right _ _
 refine ⟨⟨cap,frm,shO q 2 j,l.drop j,pcR 2 cSV q l,?_⟩,rfl,h.sub hsub,fun n hn c hc => hn c (hsub.subset hc)⟩
 rcases h.louter with ⟨_,h2⟩ | ⟨a,h1,_⟩
 ·exact .inl (by rw [h2]; exact List.drop_nil)
 ·refine .inr ⟨a,0 + j * 2,h1,by rw [h1]; rfl,fun i x hx => ?_⟩
  rw [List.getElem?_drop] at hx
  have := flat_at (l := l) len_cSV hx
  rw [Nat.zero_add,← Nat.add_mul]
  exact this
theorem lw_all {st : St} {q : Option Addr} {l : List SV} (h : OwnP st (pcL q l)) (cap frm : Int) : ∃ w : LW,w.v = ⟨cap,frm,q,l⟩ ∧ OwnP st (pcLog w) ∧ ∀ n,NewP n (pcL q l) → NewP n (pcLog w) := by
 obtain ⟨w,h1,h2,h3⟩ := OwnP.lw (u := ⟨cap,frm,q,l⟩) h
 refine ⟨w,h1,h2,fun n hn => ?_⟩
 have hw : w.l = l := congrArg LV.l h1
 show NewP n (w.C :: w.l.flatMap pcS)
 rw [h3,hw]; exact hn
theorem lw_val {w : LW} {u : LV} (h : w.v = u) : (.agg #[vI u.cap,vI u.frm,vS u.p u.l.length] : Value) = .agg #[vI w.cap,vI w.frm,vS w.p w.l.length] := by subst h; rfl
theorem sub_flat {m l : List SV} (h : m.Sublist l) : (m.flatMap pcS).Sublist (l.flatMap pcS) := by
 induction h with
 | slnil => exact List.Sublist.refl _
 | cons a _ ih => rw [List.flatMap_cons]; exact ih.trans (List.sublist_append_right _ _)
 | cons_cons a _ ih => rw [List.flatMap_cons,List.flatMap_cons]; exact (List.Sublist.refl _).append ih
theorem pcL_move {s s' : St} {q q' : Option Addr} {l m : List SV} (h : OwnP s (pcL q l)) (hm : m.Sublist l) (hp : Pres s s') (ho : OwnR s' 2 cSV q' m) (hn : New s.next q') : OwnP s' (pcL q' m) :=
 OwnP.joinF (l := m.flatMap pcS) (m := [pcR 2 cSV q' m]) (h.tail.sub (sub_flat hm)) hp (OwnP.one (own_pc ho)) (NewP.cons hn NewP.nil)
theorem newL_move {n : Nat} {q q' : Option Addr} {l m : List SV} (h : NewP n (pcL q l)) (hm : m.Sublist l) (hn : New n q') : NewP n (pcL q' m) :=
 NewP.cons hn fun c hc => h c (List.mem_cons_of_mem _ ((sub_flat hm).subset hc))
open Classical in
noncomputable def addL (g : Lg) (d : Sta) : Lg × Bool := if logOk g ∧ stateOk d ∧ g.frm + (g.list.length : Int) < 100000 then (if (g.list.length : Int) + 1 > g.cap then (⟨g.cap,g.frm + 1,(g.list ++ [d]).drop 1⟩,true) else (⟨g.cap,g.frm,g.list ++ [d]⟩,true)) else (g,false)
theorem logOk_add {g : Lg} {d : Sta} (hg : logOk g) (hd : stateOk d) : (logOk ⟨g.cap,g.frm + 1,(g.list ++ [d]).drop 1⟩ ↔ g.frm + (g.list.length : Int) < 100000) ∧ (¬ (g.list.length : Int) + 1 > g.cap → (logOk ⟨g.cap,g.frm,g.list ++ [d]⟩ ↔ g.frm + (g.list.length : Int) < 100000)) := by
 obtain ⟨h1,h2,h3,h4,h5⟩ := hg
 have hall : ∀ s ∈ g.list ++ [d],stateOk s := fun s hs => by
  rcases List.mem_append.1 hs with h | h
  ·exact h5 s h
  ·rw [List.mem_singleton.1 h]; exact hd
 have hl1 : (((g.list ++ [d]).drop 1).length : Int) = (g.list.length : Int) := by rw [List.length_drop,List.length_append,List.length_singleton]; omega
 have hl2 : ((g.list ++ [d]).length : Int) = (g.list.length : Int) + 1 := by rw [List.length_append,List.length_singleton]; omega
 refine ⟨⟨fun h => ?_,fun h => ⟨h1,?_,?_,?_,fun s hs => hall s (List.mem_of_mem_drop hs)⟩⟩,fun hc => ⟨fun h => ?_,fun h => ⟨h1,?_,h3,?_,hall⟩⟩⟩
 ·have := h.2.2.2.1; simp only at this; rw [hl1] at this; omega
 ·simp only; rw [hl1]; exact h2
 ·simp only; omega
 ·simp only; rw [hl1]; omega
 ·have := h.2.2.2.1; simp only at this; rw [hl2] at this; omega
 ·simp only; rw [hl2]; omega
 ·simp only; rw [hl2]; omega
theorem bigL_few {l : List SV} (h : l.length ≤ 1000) (hs : ∀ s ∈ l,bigS s.x) : bigL l := ⟨by unfold szOk; omega,hs⟩
theorem ac_impl_LogAdd (g : LV) (d : SV) (st : St) (hR : RdL st g.p g.l) (hD : RdS st d) (hb : bigL g.l) (hbd : bigS d.x) : C 101 [.agg #[vI g.cap,vI g.frm,vS g.p g.l.length],.agg #[vS d.p d.x.items.length,vS d.q d.x.floors.length]] st (fun v s => ∃ (u : LW) (b : Bool),v = .tuple #[.agg #[vI u.cap,vI u.frm,vS u.p u.l.length],vB b] ∧ (u.v.x,b) = addL g.x d.x ∧ OwnP s (pcLog u) ∧ NewP st.next (pcLog u) ∧ Pres st s) := by
 have hs : g.l.length ≤ 1048576 := hb.1
 have hgl : g.x.list.length = g.l.length := List.length_map _
 refine AC.enterX (i := ⟨[2,3,4,6],[2,3,4,6,18,24,25,28,31,34,35,38],[0,1,2,3,4,5,6,16,30,41],[]⟩) [(4,[3,4],[1])] Tryz.func101 rfl rfl (by kernel_rfl) (by kernel_rfl) Tryz.ntmps101 (Lb rfl) rfl ?_
 iterate 3 refine ⟨_,rfl,?_⟩
 refine Cm 3 st [Ml 2 0,Ml 3 1,Ml 4 2,(5,vB false)] [(2,0,[vI g.cap,vI g.frm,vS g.p g.l.length]),(3,1,cSV d),(4,2,[vI 0,vI 0,Sn])] fun _ _ => ?_
 refine ⟨_,Od rfl,?_⟩
 refine ⟨_,rfl,(ac_impl_copyLog g st hR (by first | assumption | omega)).mono ?_⟩
 rintro _ s8 ⟨u8,rfl,h8,hO8,hN8,hP8⟩
 refine ⟨_,rfl,?_⟩
 refine ⟨_,Os rfl,?_⟩
 refine Cm 4 s8 [Ml 2 0,Ml 3 1,Ml 4 2,(5,vB false),Ml 6 3] [(2,0,[vI g.cap,vI g.frm,vS g.p g.l.length]),(3,1,cSV d),(4,2,[vI 0,vI 0,Sn]),(6,3,[vI u8.cap,vI u8.frm,vS u8.p u8.l.length])] fun _ _ => ?_
 have ⟨w0,hw0,hO0,hN0⟩ := lw_all hO8 u8.cap u8.frm
 have hx8 : u8.cap = g.cap ∧ u8.frm = g.frm ∧ u8.l.map (·.x) = g.l.map (·.x) := ⟨congrArg Lg.cap h8,congrArg Lg.frm h8,congrArg Lg.list h8⟩
 have hl8 : u8.l.length = g.l.length := by have := congrArg List.length hx8.2.2; simpa using this
 refine ⟨_,Od rfl,?_⟩
 refine ⟨_,rfl,(ac_impl_LogOk g s8 (hR.pres hP8) (by first | assumption | omega)).mono ?_⟩
 rintro _ s8 ⟨x10,rfl,h10,rfl⟩
 rcases x10 with _|_
 ·replace h10 := fun k => Bool.false_ne_true (h10.2 k)
  iterate 2 refine ⟨_,rfl,?_⟩
  refine Cm 4 s8 [Ml 2 0,Ml 3 1,Ml 4 2,(5,vB false),Ml 6 3,(16,vB true)] [(2,0,[vI g.cap,vI g.frm,vS g.p g.l.length]),(3,1,cSV d),(4,2,[vI 0,vI 0,Sn]),(6,3,[vI u8.cap,vI u8.frm,vS u8.p u8.l.length])] fun _ _ => ?_
  refine ⟨_,Od rfl,?_⟩
  refine ⟨_,Os rfl,?_⟩
  exact cxs (Rt ⟨w0,false,congrArg (fun u => Value.tuple #[u,vB false]) (lw_val hw0),by rw [hw0,addL,if_neg (fun h => h10 h.1)]; exact congrArg (·,false) h8,hO0,hN0 _ hN8,hP8⟩)
 ·replace h10 := h10.1 rfl
  refine ⟨_,rfl,?_⟩
  refine ⟨_,Od rfl,?_⟩
  refine ⟨_,rfl,(ac_impl_StateOk d s8 (hD.pres hP8) (by first | assumption | omega)).mono ?_⟩
  rintro _ s8 ⟨x14,rfl,h14,rfl⟩
  rcases x14 with _|_
  ·replace h14 := fun k => Bool.false_ne_true (h14.2 k)
   iterate 2 refine ⟨_,rfl,?_⟩
   refine Cm 4 s8 [Ml 2 0,Ml 3 1,Ml 4 2,(5,vB false),Ml 6 3,(16,vB true)] [(2,0,[vI g.cap,vI g.frm,vS g.p g.l.length]),(3,1,cSV d),(4,2,[vI 0,vI 0,Sn]),(6,3,[vI u8.cap,vI u8.frm,vS u8.p u8.l.length])] fun _ _ => ?_
   refine ⟨_,Od rfl,?_⟩
   refine ⟨_,Os rfl,?_⟩
   exact cxs (Rt ⟨w0,false,congrArg (fun u => Value.tuple #[u,vB false]) (lw_val hw0),by rw [hw0,addL,if_neg (fun h => h14 h.2.1)]; exact congrArg (·,false) h8,hO0,hN0 _ hN8,hP8⟩)
  ·replace h14 := h14.1 rfl
   iterate 2 refine ⟨_,rfl,?_⟩
   refine Cm 4 s8 [Ml 2 0,Ml 3 1,Ml 4 2,(5,vB false),Ml 6 3,(16,vB false)] [(2,0,[vI g.cap,vI g.frm,vS g.p g.l.length]),(3,1,cSV d),(4,2,[vI 0,vI 0,Sn]),(6,3,[vI u8.cap,vI u8.frm,vS u8.p u8.l.length])] fun _ _ => ?_
   have hk3 : 0 ≤ g.frm ∧ g.frm ≤ 100000 := h10.2.2.1
   have hk4 : g.frm + (g.l.length : Int) ≤ 100000 := by have := h10.2.2.2.1; rw [hgl] at this; exact this
   have hk5 : (g.l.length : Int) ≤ g.cap ∧ g.cap ≤ 8 := ⟨by have := h10.2.1; rw [hgl] at this; exact this,h10.1.2⟩
   refine cxs ?_
   refine ⟨_,rfl,?_⟩
   refine ⟨_,Od rfl,?_⟩
   refine ⟨ld_own rfl rfl rfl,?_⟩
   refine ⟨_,Od rfl,?_⟩
   refine ⟨_,rfl,(ac_impl_copyState d s8 (hD.pres hP8) (by first | assumption | omega)).mono ?_⟩
   rintro _ s21 ⟨u21,rfl,h21,hO21,hN21,hP21⟩
   refine ⟨hP21.2,?_⟩
   refine op_one (z := 2) (a := (u21 : SV)) (f := cSV) rfl rfl rfl rfl rfl (by decide) rfl (Lb rfl) rfl rfl rfl ?_
   refine ⟨Pres.push.low hP21,?_⟩
   refine op_snoc (z := 2) (st := s21) (f := cSV) (b := 48) (l := u8.l) (x := u21) rfl rfl rfl rfl rfl rfl rfl (by decide) len_cSV rfl rfl rfl (by omega) (by unfold maxLen; omega) ((hO8.pres hP21).louter) ?_
   intro q23 s23 hO23 hP23 hN23
   refine ⟨_,rfl,?_⟩
   refine ⟨_,Os rfl,?_⟩
   refine Cm 4 s23 [Ml 2 0,Ml 4 2,(5,vB false),Ml 6 3] [(2,0,[vI g.cap,vI g.frm,vS g.p g.l.length]),(4,2,[vI 0,vI 0,Sn]),(6,3,[vI u8.cap,vI u8.frm,vS q23 (u8.l ++ [u21]).length])] fun _ _ => ?_
   have hO4 := pcL_snoc hO8 hP21 hO21 hN21 hP23 hO23 hN23
   have hN4 := newL_snoc hN8 (hN21.le hP8.1) (hN23.le (hP8.trans hP21).1)
   have hP4 := hP23.pres (hP8.trans hP21) (newL_p hN8)
   have hln : ((u8.l ++ [u21]).length : Int) = (g.l.length : Int) + 1 := by rw [List.length_append,List.length_singleton,hl8]; omega
   have hmx : (u8.l ++ [u21]).map (·.x) = g.l.map (·.x) ++ [d.x] := by rw [List.map_append,hx8.2.2,List.map_singleton,h21]
   have hb4 : bigL (u8.l ++ [u21]) := bigL_few (by omega) fun s hs => by
    rcases List.mem_append.1 hs with h | h
    ·exact (bigL_of hx8.2.2 hb).2 s h
    ·rw [List.mem_singleton.1 h,h21]; exact hbd
   have hbd4 : bigL (List.drop 1 (u8.l ++ [u21])) := bigL_few (by rw [List.length_drop]; omega) fun s hs => hb4.2 s (List.mem_of_mem_drop hs)
   have hadd := logOk_add h10 h14
   refine ⟨_,rfl,?_⟩
   refine ⟨_,Od rfl,?_⟩
   iterate 2 refine ⟨_,rfl,?_⟩
   refine ⟨_,Od rfl,?_⟩
   refine ⟨_,rfl,?_⟩
   rintro (_|_) h30
   ·replace h30 : ¬ (((u8.l ++ [u21]).length : Int) > g.cap) := of_decide_eq_false h30
    refine Cm 4 s23 [Ml 2 0,Ml 4 2,(5,vB false),Ml 6 3,(30,vB false)] [(2,0,[vI g.cap,vI g.frm,vS g.p g.l.length]),(4,2,[vI 0,vI 0,Sn]),(6,3,[vI u8.cap,vI u8.frm,vS q23 (u8.l ++ [u21]).length])] fun _ _ => ?_
    have ⟨w,hw,hO,hN⟩ := lw_all hO4 u8.cap u8.frm
    have hwx : w.v.x = ⟨g.x.cap,g.x.frm,g.x.list ++ [d.x]⟩ := by rw [hw]; simp only [LV.x,hmx,hx8.1,hx8.2.1]
    refine cxs ?_
    refine ⟨_,Od rfl,?_⟩
    refine ⟨_,rfl,(ac_impl_LogOk (⟨u8.cap,u8.frm,q23,u8.l ++ [u21]⟩ : LV) s23 (hO4.rdL) (by first | assumption | omega)).mono ?_⟩
    rintro _ s23 ⟨x40,rfl,h40,rfl⟩
    rcases x40 with _|_
    ·replace h40 := fun k => Bool.false_ne_true (h40.2 k)
     refine ⟨_,rfl,?_⟩
     refine Cm 4 s23 [Ml 2 0,Ml 4 2,(5,vB false),Ml 6 3,(41,vB true)] [(2,0,[vI g.cap,vI g.frm,vS g.p g.l.length]),(4,2,[vI 0,vI 0,Sn]),(6,3,[vI u8.cap,vI u8.frm,vS q23 (u8.l ++ [u21]).length])] fun _ _ => ?_
     refine ⟨_,Od rfl,?_⟩
     refine ⟨_,rfl,(ac_impl_copyLog g s23 (hR.pres hP4) (by first | assumption | omega)).mono ?_⟩
     rintro _ s43 ⟨u43,rfl,h43,hO43,hN43,hP43⟩
     refine ⟨_,Os rfl,?_⟩
     refine cxs ?_
     have ⟨w9,hw9,hO9,hN9⟩ := lw_all hO43 u43.cap u43.frm
     have hP9 := hP4.trans hP43
     have hc : ¬ (g.x.list.length : Int) + 1 > g.x.cap := by rw [hgl]; clear hadd; show ¬ (g.l.length : Int) + 1 > g.cap; omega
     exact Rt ⟨w9,false,congrArg (fun u => Value.tuple #[u,vB false]) (lw_val hw9),by rw [hw9,addL,if_neg (fun h => h40 (by have h2 := (hadd.2 hc).2 h.2.2; rw [← hwx,hw] at h2; exact h2))]; exact congrArg (·,false) h43,hO9,hN9 _ (hN43.le hP4.1),hP9⟩
    ·replace h40 := h40.1 rfl
     refine ⟨_,rfl,?_⟩
     refine Cm 4 s23 [Ml 2 0,Ml 4 2,(5,vB false),Ml 6 3,(41,vB false)] [(2,0,[vI g.cap,vI g.frm,vS g.p g.l.length]),(4,2,[vI 0,vI 0,Sn]),(6,3,[vI u8.cap,vI u8.frm,vS q23 (u8.l ++ [u21]).length])] fun _ _ => ?_
     refine cxs ?_
     refine ⟨_,Od rfl,?_⟩
     refine ⟨_,Os rfl,?_⟩
     refine cxs ?_
     have hc : ¬ (g.x.list.length : Int) + 1 > g.x.cap := by rw [hgl]; clear hadd; show ¬ (g.l.length : Int) + 1 > g.cap; omega
     exact Rt ⟨w,true,congrArg (fun u => Value.tuple #[u,vB true]) (lw_val hw),by rw [hwx,addL,if_pos ⟨h10,h14,(hadd.2 hc).1 (hwx ▸ (show logOk w.v.x by rw [hw]; exact h40))⟩,if_neg hc],hO,hN _ hN4,hP4⟩
   ·replace h30 : ((u8.l ++ [u21]).length : Int) > g.cap := of_decide_eq_true h30
    refine Cm 4 s23 [Ml 2 0,Ml 4 2,(5,vB false),Ml 6 3,(30,vB true)] [(2,0,[vI g.cap,vI g.frm,vS g.p g.l.length]),(4,2,[vI 0,vI 0,Sn]),(6,3,[vI u8.cap,vI u8.frm,vS q23 (u8.l ++ [u21]).length])] fun _ _ => ?_
    refine ⟨_,rfl,?_⟩
    refine ⟨_,Od rfl,?_⟩
    refine ⟨_,op_drop (u8.l ++ [u21]) 1 rfl rfl rfl rfl rfl rfl (by omega) (by omega),?_⟩
    refine ⟨_,rfl,?_⟩
    refine ⟨_,Os rfl,?_⟩
    refine Cm 4 s23 [Ml 2 0,Ml 4 2,(5,vB false),Ml 6 3] [(2,0,[vI g.cap,vI g.frm,vS g.p g.l.length]),(4,2,[vI 0,vI 0,Sn]),(6,3,[vI u8.cap,vI u8.frm,vS (shO q23 2 1) ((u8.l ++ [u21]).drop 1).length])] fun _ _ => ?_
    have ⟨w,hw,hO,hN⟩ := lw_drop hO4 u8.cap (u8.frm + 1) 1
    have hwx : w.v.x = ⟨g.x.cap,g.x.frm + 1,(g.x.list ++ [d.x]).drop 1⟩ := by rw [hw]; simp only [LV.x,List.map_drop,hmx,hx8.1,hx8.2.1]
    have hwr : RdL s23 (shO q23 2 1) (List.drop 1 (u8.l ++ [u21])) := ⟨(hO4.rdL.1).sh 1,fun s hs => hO4.rdL.2 s (List.mem_of_mem_drop hs)⟩
    refine ⟨_,rfl,?_⟩
    refine ⟨_,Od rfl,?_⟩
    have ew37 : IntKind.wrap .i64 (u8.frm + (1)) = u8.frm + (1) := wrap_i64 (by omega) (by omega)
    iterate 2 refine ⟨_,rfl,?_⟩
    refine ⟨_,Os rfl,?_⟩
    refine AW.cutM (4) s23 [Ml 2 0,Ml 4 2,(5,vB false),Ml 6 3] [(2,0,[vI g.cap,vI g.frm,vS g.p g.l.length]),(4,2,[vI 0,vI 0,Sn]),(6,3,[vI u8.cap,vI (u8.frm + (1)),vS (shO q23 2 1) ((u8.l ++ [u21]).drop 1).length])] ⟨rfl,rfl,rfl,rfl,trivial⟩ ⟨rfl,rfl,(show some (3,[vI u8.cap,vI (IntKind.wrap .i64 (u8.frm + (1))),vS (shO q23 2 1) ((u8.l ++ [u21]).drop 1).length]) = some (3,[vI u8.cap,vI (u8.frm + (1)),vS (shO q23 2 1) ((u8.l ++ [u21]).drop 1).length]) by rw [ew37]),trivial⟩ rfl fun _ _ => ?_
    refine ⟨_,Od rfl,?_⟩
    refine ⟨_,rfl,(ac_impl_LogOk (⟨u8.cap,u8.frm + (1),shO q23 2 1,(u8.l ++ [u21]).drop 1⟩ : LV) s23 (by first | assumption | omega) (by first | assumption | omega)).mono ?_⟩
    rintro _ s23 ⟨x40,rfl,h40,rfl⟩
    rcases x40 with _|_
    ·replace h40 := fun k => Bool.false_ne_true (h40.2 k)
     refine ⟨_,rfl,?_⟩
     refine Cm 4 s23 [Ml 2 0,Ml 4 2,(5,vB false),Ml 6 3,(41,vB true)] [(2,0,[vI g.cap,vI g.frm,vS g.p g.l.length]),(4,2,[vI 0,vI 0,Sn]),(6,3,[vI u8.cap,vI (u8.frm + (1)),vS (shO q23 2 1) ((u8.l ++ [u21]).drop 1).length])] fun _ _ => ?_
     refine ⟨_,Od rfl,?_⟩
     refine ⟨_,rfl,(ac_impl_copyLog g s23 (hR.pres hP4) (by first | assumption | omega)).mono ?_⟩
     rintro _ s43 ⟨u43,rfl,h43,hO43,hN43,hP43⟩
     refine ⟨_,Os rfl,?_⟩
     refine cxs ?_
     have ⟨w9,hw9,hO9,hN9⟩ := lw_all hO43 u43.cap u43.frm
     have hP9 := hP4.trans hP43
     exact Rt ⟨w9,false,congrArg (fun u => Value.tuple #[u,vB false]) (lw_val hw9),by rw [hw9,addL,if_neg (fun h => h40 (by have h2 := hadd.1.2 h.2.2; rw [← hwx,hw] at h2; exact h2))]; exact congrArg (·,false) h43,hO9,hN9 _ (hN43.le hP4.1),hP9⟩
    ·replace h40 := h40.1 rfl
     refine ⟨_,rfl,?_⟩
     refine Cm 4 s23 [Ml 2 0,Ml 4 2,(5,vB false),Ml 6 3,(41,vB false)] [(2,0,[vI g.cap,vI g.frm,vS g.p g.l.length]),(4,2,[vI 0,vI 0,Sn]),(6,3,[vI u8.cap,vI (u8.frm + (1)),vS (shO q23 2 1) ((u8.l ++ [u21]).drop 1).length])] fun _ _ => ?_
     refine cxs ?_
     refine ⟨_,Od rfl,?_⟩
     refine ⟨_,Os rfl,?_⟩
     refine cxs ?_
     have hc : (g.x.list.length : Int) + 1 > g.x.cap := by rw [hgl]; clear hadd; show (g.l.length : Int) + 1 > g.cap; omega
     exact Rt ⟨w,true,congrArg (fun u => Value.tuple #[u,vB true]) (lw_val hw),by rw [hwx,addL,if_pos ⟨h10,h14,hadd.1.1 (hwx ▸ (show logOk w.v.x by rw [hw]; exact h40))⟩,if_pos hc],hO,hN _ hN4,hP4⟩
theorem ac_spec_LogAdd (g : LV) (d : SV) (st : St) (hR : RdL st g.p g.l) (hD : RdS st d) (hb : bigL g.l) (hbd : bigS d.x) : C 103 [.agg #[vI g.cap,vI g.frm,vS g.p g.l.length],.agg #[vS d.p d.x.items.length,vS d.q d.x.floors.length]] st (fun v s => ∃ (u : LW) (b : Bool),v = .tuple #[.agg #[vI u.cap,vI u.frm,vS u.p u.l.length],vB b] ∧ (u.v.x,b) = addL g.x d.x ∧ OwnP s (pcLog u) ∧ NewP st.next (pcLog u) ∧ Pres st s) := by
 have hs : g.l.length ≤ 1048576 := hb.1
 have hgl : g.x.list.length = g.l.length := List.length_map _
 refine AC.enterX (i := ⟨[2,3,4,6],[2,3,4,6,18,20,27,33,34,37,41,45,46,49],[0,1,2,3,4,5,6,25,39],[]⟩) [(4,[3,4],[1])] Tryz.func103 rfl rfl (by kernel_rfl) (by kernel_rfl) Tryz.ntmps103 (Lb rfl) rfl ?_
 iterate 3 refine ⟨_,rfl,?_⟩
 refine Cm 3 st [Ml 2 0,Ml 3 1,Ml 4 2,(5,vB false)] [(2,0,[vI g.cap,vI g.frm,vS g.p g.l.length]),(3,1,cSV d),(4,2,[vI 0,vI 0,Sn])] fun _ _ => ?_
 refine ⟨_,Od rfl,?_⟩
 refine ⟨_,rfl,(ac_spec_l7Copy g st hR (by first | assumption | omega)).mono ?_⟩
 rintro _ s8 ⟨u8,rfl,h8,hO8,hN8,hP8⟩
 refine ⟨_,rfl,?_⟩
 refine ⟨_,Os rfl,?_⟩
 refine Cm 4 s8 [Ml 2 0,Ml 3 1,Ml 4 2,(5,vB false),Ml 6 3] [(2,0,[vI g.cap,vI g.frm,vS g.p g.l.length]),(3,1,cSV d),(4,2,[vI 0,vI 0,Sn]),(6,3,[vI u8.cap,vI u8.frm,vS u8.p u8.l.length])] fun _ _ => ?_
 have ⟨w0,hw0,hO0,hN0⟩ := lw_all hO8 u8.cap u8.frm
 have hx8 : u8.cap = g.cap ∧ u8.frm = g.frm ∧ u8.l.map (·.x) = g.l.map (·.x) := ⟨congrArg Lg.cap h8,congrArg Lg.frm h8,congrArg Lg.list h8⟩
 have hl8 : u8.l.length = g.l.length := by have := congrArg List.length hx8.2.2; simpa using this
 refine ⟨_,Od rfl,?_⟩
 refine ⟨_,rfl,(ac_spec_LogOk g s8 (hR.pres hP8) (by first | assumption | omega)).mono ?_⟩
 rintro _ s8 ⟨x10,rfl,h10,rfl⟩
 rcases x10 with _|_
 ·replace h10 := fun k => Bool.false_ne_true (h10.2 k)
  iterate 3 refine ⟨_,rfl,?_⟩
  refine Cm 4 s8 [Ml 3 1,Ml 4 2,(5,vB false),Ml 6 3,(25,vB true)] [(3,1,cSV d),(4,2,[vI 0,vI 0,Sn]),(6,3,[vI u8.cap,vI u8.frm,vS u8.p u8.l.length])] fun _ _ => ?_
  refine ⟨_,Od rfl,?_⟩
  refine ⟨_,Os rfl,?_⟩
  exact cxs (Rt ⟨w0,false,congrArg (fun u => Value.tuple #[u,vB false]) (lw_val hw0),by rw [hw0,addL,if_neg (fun h => h10 h.1)]; exact congrArg (·,false) h8,hO0,hN0 _ hN8,hP8⟩)
 ·replace h10 := h10.1 rfl
  refine ⟨_,rfl,?_⟩
  refine ⟨_,Od rfl,?_⟩
  refine ⟨_,rfl,(ac_spec_StateOk d s8 (hD.pres hP8) (by first | assumption | omega)).mono ?_⟩
  rintro _ s8 ⟨x14,rfl,h14,rfl⟩
  rcases x14 with _|_
  ·replace h14 := fun k => Bool.false_ne_true (h14.2 k)
   iterate 3 refine ⟨_,rfl,?_⟩
   refine Cm 4 s8 [Ml 3 1,Ml 4 2,(5,vB false),Ml 6 3,(25,vB true)] [(3,1,cSV d),(4,2,[vI 0,vI 0,Sn]),(6,3,[vI u8.cap,vI u8.frm,vS u8.p u8.l.length])] fun _ _ => ?_
   refine ⟨_,Od rfl,?_⟩
   refine ⟨_,Os rfl,?_⟩
   exact cxs (Rt ⟨w0,false,congrArg (fun u => Value.tuple #[u,vB false]) (lw_val hw0),by rw [hw0,addL,if_neg (fun h => h14 h.2.1)]; exact congrArg (·,false) h8,hO0,hN0 _ hN8,hP8⟩)
  ·replace h14 := h14.1 rfl
   iterate 2 refine ⟨_,rfl,?_⟩
   have hk3 : 0 ≤ g.frm ∧ g.frm ≤ 100000 := h10.2.2.1
   have hk4 : g.frm + (g.l.length : Int) ≤ 100000 := by have := h10.2.2.2.1; rw [hgl] at this; exact this
   have hk5 : (g.l.length : Int) ≤ g.cap ∧ g.cap ≤ 8 := ⟨by have := h10.2.1; rw [hgl] at this; exact this,h10.1.2⟩
   refine ⟨_,rfl,?_⟩
   refine ⟨_,Od rfl,?_⟩
   refine ⟨_,rfl,?_⟩
   refine ⟨_,Od rfl,?_⟩
   refine ⟨_,rfl,?_⟩
   have ew23 : IntKind.wrap .i64 (g.frm + (g.l.length : Int)) = g.frm + (g.l.length : Int) := wrap_i64 (by omega) (by omega)
   iterate 2 refine ⟨_,rfl,?_⟩
   rintro (_|_) h24
   ·replace h24 : ¬ ((IntKind.wrap .i64 (g.frm + (g.l.length : Int))) = (100000)) := beq_eq_false_iff_ne.1 h24
    rw [ew23] at h24
    refine ⟨_,rfl,?_⟩
    refine Cm 4 s8 [Ml 3 1,Ml 4 2,(5,vB false),Ml 6 3,(25,vB false)] [(3,1,cSV d),(4,2,[vI 0,vI 0,Sn]),(6,3,[vI u8.cap,vI u8.frm,vS u8.p u8.l.length])] fun _ _ => ?_
    refine cxs ?_
    refine ⟨_,rfl,?_⟩
    refine ⟨_,Od rfl,?_⟩
    refine ⟨ld_own rfl rfl rfl,?_⟩
    refine ⟨_,Od rfl,?_⟩
    refine ⟨_,rfl,(ac_spec_l3Copy d s8 (hD.pres hP8) (by first | assumption | omega)).mono ?_⟩
    rintro _ s30 ⟨u30,rfl,h30,hO30,hN30,hP30⟩
    refine ⟨hP30.2,?_⟩
    refine op_one (z := 2) (a := (u30 : SV)) (f := cSV) rfl rfl rfl rfl rfl (by decide) rfl (Lb rfl) rfl rfl rfl ?_
    refine ⟨Pres.push.low hP30,?_⟩
    refine op_snoc (z := 2) (st := s30) (f := cSV) (b := 48) (l := u8.l) (x := u30) rfl rfl rfl rfl rfl rfl rfl (by decide) len_cSV rfl rfl rfl (by omega) (by unfold maxLen; omega) ((hO8.pres hP30).louter) ?_
    intro q32 s32 hO32 hP32 hN32
    refine ⟨_,rfl,?_⟩
    refine ⟨_,Os rfl,?_⟩
    refine Cm 4 s32 [Ml 4 2,(5,vB false),Ml 6 3] [(4,2,[vI 0,vI 0,Sn]),(6,3,[vI u8.cap,vI u8.frm,vS q32 (u8.l ++ [u30]).length])] fun _ _ => ?_
    have hO4 := pcL_snoc hO8 hP30 hO30 hN30 hP32 hO32 hN32
    have hN4 := newL_snoc hN8 (hN30.le hP8.1) (hN32.le (hP8.trans hP30).1)
    have hP4 := hP32.pres (hP8.trans hP30) (newL_p hN8)
    have hln : ((u8.l ++ [u30]).length : Int) = (g.l.length : Int) + 1 := by rw [List.length_append,List.length_singleton,hl8]; omega
    have hmx : (u8.l ++ [u30]).map (·.x) = g.l.map (·.x) ++ [d.x] := by rw [List.map_append,hx8.2.2,List.map_singleton,h30]
    have hdl : (List.drop 1 (u8.l ++ [u30])).length ≤ (u8.l ++ [u30]).length := by rw [List.length_drop]; omega
    have hlt : g.x.frm + (g.x.list.length : Int) < 100000 := by rw [hgl]; show g.frm + (g.l.length : Int) < 100000; omega
    refine ⟨_,rfl,?_⟩
    refine ⟨_,Od rfl,?_⟩
    iterate 2 refine ⟨_,rfl,?_⟩
    refine ⟨_,Od rfl,?_⟩
    refine ⟨_,rfl,?_⟩
    rintro (_|_) h39
    ·replace h39 : ¬ (((u8.l ++ [u30]).length : Int) > u8.cap) := of_decide_eq_false h39
     refine Cm 4 s32 [Ml 4 2,(5,vB false),Ml 6 3,(39,vB false)] [(4,2,[vI 0,vI 0,Sn]),(6,3,[vI u8.cap,vI u8.frm,vS q32 (u8.l ++ [u30]).length])] fun _ _ => ?_
     have ⟨w,hw,hO,hN⟩ := lw_all hO4 u8.cap u8.frm
     have hwx : w.v.x = ⟨g.x.cap,g.x.frm,g.x.list ++ [d.x]⟩ := by rw [hw]; simp only [LV.x,hmx,hx8.1,hx8.2.1]
     refine cxs ?_
     refine ⟨_,Od rfl,?_⟩
     refine ⟨_,Os rfl,?_⟩
     refine cxs ?_
     have hc : ¬ (g.x.list.length : Int) + 1 > g.x.cap := by rw [hgl]; show ¬ (g.l.length : Int) + 1 > g.cap; omega
     exact Rt ⟨w,true,congrArg (fun u => Value.tuple #[u,vB true]) (lw_val hw),by rw [hwx,addL,if_pos ⟨h10,h14,hlt⟩,if_neg hc],hO,hN _ hN4,hP4⟩
    ·replace h39 : ((u8.l ++ [u30]).length : Int) > u8.cap := of_decide_eq_true h39
     refine Cm 4 s32 [Ml 4 2,(5,vB false),Ml 6 3,(39,vB true)] [(4,2,[vI 0,vI 0,Sn]),(6,3,[vI u8.cap,vI u8.frm,vS q32 (u8.l ++ [u30]).length])] fun _ _ => ?_
     refine op_nilK (z := 2) (f := cSV) rfl rfl rfl rfl (by decide) rfl ?_
     intro q40 s40 hO40 hP40 hN40
     refine ⟨_,rfl,?_⟩
     refine ⟨_,Od rfl,?_⟩
     refine ⟨_,op_drop (u8.l ++ [u30]) 1 rfl rfl rfl rfl rfl rfl (by omega) (by omega),?_⟩
     refine op_cat' (z := 2) (st := s40) (f := cSV) (b := 48) (l := []) (l2 := List.drop 1 (u8.l ++ [u30])) rfl rfl rfl rfl rfl rfl rfl (by decide) len_cSV rfl rfl rfl rfl (by first | omega | (simp only [List.length_nil]; omega)) (by unfold maxLen; first | omega | (simp only [List.length_nil]; omega)) hO40 ((hP40.rows (hO4.rdL.1)).sh _) ?_
     intro q44 s44 hO44 hPr44 hN44
     refine ⟨_,rfl,?_⟩
     refine ⟨_,Os rfl,?_⟩
     refine Cm 4 s44 [Ml 4 2,(5,vB false),Ml 6 3] [(4,2,[vI 0,vI 0,Sn]),(6,3,[vI u8.cap,vI u8.frm,vS q44 (List.drop 1 (u8.l ++ [u30])).length])] fun _ _ => ?_
     have ⟨hP9,hN9⟩ := copy_facts hP40 hN40 hPr44 hN44
     have hO9 := pcL_move hO4 (List.drop_sublist _ _) hP9 hO44 hN9
     have hN8 := newL_move hN4 (List.drop_sublist 1 _) (hN9.le hP4.1)
     have hP5 := hP4.trans hP9
     have ⟨w,hw,hO,hN⟩ := lw_all hO9 u8.cap (u8.frm + 1)
     have hwx : w.v.x = ⟨g.x.cap,g.x.frm + 1,(g.x.list ++ [d.x]).drop 1⟩ := by rw [hw]; simp only [LV.x,List.map_drop,hmx,hx8.1,hx8.2.1]
     refine ⟨_,rfl,?_⟩
     refine ⟨_,Od rfl,?_⟩
     have ew48 : IntKind.wrap .i64 (u8.frm + (1)) = u8.frm + (1) := wrap_i64 (by omega) (by omega)
     iterate 2 refine ⟨_,rfl,?_⟩
     refine ⟨_,Os rfl,?_⟩
     refine AW.cutM (4) s44 [Ml 4 2,(5,vB false),Ml 6 3] [(4,2,[vI 0,vI 0,Sn]),(6,3,[vI u8.cap,vI (u8.frm + (1)),vS q44 (List.drop 1 (u8.l ++ [u30])).length])] ⟨rfl,rfl,rfl,trivial⟩ ⟨rfl,(show some (3,[vI u8.cap,vI (IntKind.wrap .i64 (u8.frm + (1))),vS q44 (List.drop 1 (u8.l ++ [u30])).length]) = some (3,[vI u8.cap,vI (u8.frm + (1)),vS q44 (List.drop 1 (u8.l ++ [u30])).length]) by rw [ew48]),trivial⟩ rfl fun _ _ => ?_
     refine ⟨_,Od rfl,?_⟩
     refine ⟨_,Os rfl,?_⟩
     refine cxs ?_
     have hc : (g.x.list.length : Int) + 1 > g.x.cap := by rw [hgl]; show (g.l.length : Int) + 1 > g.cap; omega
     exact Rt ⟨w,true,congrArg (fun u => Value.tuple #[u,vB true]) (lw_val hw),by rw [hwx,addL,if_pos ⟨h10,h14,hlt⟩,if_pos hc],hO,hN _ hN8,hP5⟩
   ·replace h24 : (IntKind.wrap .i64 (g.frm + (g.l.length : Int))) = (100000) := beq_iff_eq.1 h24
    rw [ew23] at h24
    refine ⟨_,rfl,?_⟩
    refine Cm 4 s8 [Ml 3 1,Ml 4 2,(5,vB false),Ml 6 3,(25,vB true)] [(3,1,cSV d),(4,2,[vI 0,vI 0,Sn]),(6,3,[vI u8.cap,vI u8.frm,vS u8.p u8.l.length])] fun _ _ => ?_
    refine ⟨_,Od rfl,?_⟩
    refine ⟨_,Os rfl,?_⟩
    exact cxs (Rt ⟨w0,false,congrArg (fun u => Value.tuple #[u,vB false]) (lw_val hw0),by rw [hw0,addL,if_neg (fun h => by have h2 := h.2.2; rw [hgl] at h2; have h3 : g.frm + (g.l.length : Int) < 100000 := h2; omega)]; exact congrArg (·,false) h8,hO0,hN0 _ hN8,hP8⟩)
theorem cmpS {A : Option Value} {Q : Prop} {K : Bool → Prop} (h : ∃ b,A = some (.bool b) ∧ (b = true ↔ Q)) (hk : ∀ c,(c = true ↔ Q) → K c) : ∃ b,A = some (.bool b) ∧ ∀ c,b = c → K c := by
 obtain ⟨b,h1,h2⟩ := h
 exact ⟨b,h1,fun c hc => hc ▸ hk b h2⟩
theorem map_same {α β : Type} {f : α → β} {a b : List α} (hl : a.length = b.length) (h : ∀ (j : Nat) x y,j < a.length → a[j]? = some x → b[j]? = some y → f x = f y) : a.map f = b.map f := by
 refine iff_lists (by simpa using hl) fun j x y hj hx hy => ?_
 rw [List.getElem?_map] at hx hy
 obtain ⟨u,hu,rfl⟩ := Option.map_eq_some_iff.1 hx
 obtain ⟨v,hv,rfl⟩ := Option.map_eq_some_iff.1 hy
 exact h j u v (by simpa using hj) hu hv
theorem map_at {α β : Type} {f : α → β} {a b : List α} {i : Nat} {x y : α} (hx : a[i]? = some x) (hy : b[i]? = some y) (h : a.map f = b.map f) : f x = f y := by
 have h4 : (a.map f)[i]? = some (f x) := by rw [List.getElem?_map,hx]; rfl
 rw [h,List.getElem?_map,hy] at h4
 injection h4 with h4
 exact h4.symm
theorem same_next {α β : Type} {f : α → β} {a b : List α} {i : Nat} {x y : α} (hx : a[i]? = some x) (hy : b[i]? = some y) (h : f x = f y) (heq : ∀ (j : Nat) x y,j < i → a[j]? = some x → b[j]? = some y → f x = f y) : ∀ (j : Nat) x y,j < i + 1 → a[j]? = some x → b[j]? = some y → f x = f y := by
 intro j u v hj hu hv
 rcases Nat.lt_or_ge j i with h2 | h2
 ·exact heq j u v h2 hu hv
 ·obtain rfl : j = i := by omega
  rw [hx] at hu; rw [hy] at hv
  injection hu with hu; injection hv with hv
  rw [← hu,← hv]; exact h
theorem same_at {α : Type} {a b : List α} {i : Nat} {x y : α} (hx : a[i]? = some x) (hy : b[i]? = some y) (h : a = b) : x = y := by
 subst h; rw [hx] at hy; injection hy
theorem sta_ext {a b : Sta} (h1 : a.items = b.items) (h2 : a.floors = b.floors) : a = b := by cases a; cases b; simp only at h1 h2; rw [h1,h2]
theorem neq_Floor (x y : Flr) : ∃ b,abin Tryz.prog .neq 106 (.agg #[vI x.id,vI x.inc]) (.agg #[vI y.id,vI y.inc]) = some (.bool b) ∧ (b = true ↔ ¬ x = y) := by
 refine ⟨!((if (x.id == y.id) = true then (if (x.inc == y.inc) = true then true else false) else false)),?_,?_⟩
 ·have h : abin Tryz.prog .neq 106 (.agg #[vI x.id,vI x.inc]) (.agg #[vI y.id,vI y.inc]) = (((some (x.id == y.id)).bind fun r => if r = true then ((some (x.inc == y.inc)).bind fun r => if r = true then some true else some false) else some false)).map fun b => Value.bool !b := by kernel_rfl
  rw [h]; cases x.id == y.id <;> cases x.inc == y.inc <;> rfl
 ·cases x; cases y; simp [Classical.or_iff_not_imp_left]
theorem neq_Sess (x y : Ses) : ∃ b,abin Tryz.prog .neq 121 (.agg #[vI x.peer,vI x.num,vB x.inn,vI x.age]) (.agg #[vI y.peer,vI y.num,vB y.inn,vI y.age]) = some (.bool b) ∧ (b = true ↔ ¬ x = y) := by
 refine ⟨!((if (x.peer == y.peer) = true then (if (x.num == y.num) = true then (if (x.inn == y.inn) = true then (if (x.age == y.age) = true then true else false) else false) else false) else false)),?_,?_⟩
 ·have h : abin Tryz.prog .neq 121 (.agg #[vI x.peer,vI x.num,vB x.inn,vI x.age]) (.agg #[vI y.peer,vI y.num,vB y.inn,vI y.age]) = (((some (x.peer == y.peer)).bind fun r => if r = true then ((some (x.num == y.num)).bind fun r => if r = true then ((some (x.inn == y.inn)).bind fun r => if r = true then ((some (x.age == y.age)).bind fun r => if r = true then some true else some false) else some false) else some false) else some false)).map fun b => Value.bool !b := by kernel_rfl
  rw [h]; cases x.peer == y.peer <;> cases x.num == y.num <;> cases x.inn == y.inn <;> cases x.age == y.age <;> rfl
 ·cases x; cases y; simp [Classical.or_iff_not_imp_left]
theorem neq_Rise (x y : Ris) : ∃ b,abin Tryz.prog .neq 101 (.agg #[vI x.inc,vI x.beat,vI x.tick]) (.agg #[vI y.inc,vI y.beat,vI y.tick]) = some (.bool b) ∧ (b = true ↔ ¬ x = y) := by
 refine ⟨!((if (x.inc == y.inc) = true then (if (x.beat == y.beat) = true then (if (x.tick == y.tick) = true then true else false) else false) else false)),?_,?_⟩
 ·have h : abin Tryz.prog .neq 101 (.agg #[vI x.inc,vI x.beat,vI x.tick]) (.agg #[vI y.inc,vI y.beat,vI y.tick]) = (((some (x.inc == y.inc)).bind fun r => if r = true then ((some (x.beat == y.beat)).bind fun r => if r = true then ((some (x.tick == y.tick)).bind fun r => if r = true then some true else some false) else some false) else some false)).map fun b => Value.bool !b := by kernel_rfl
  rw [h]; cases x.inc == y.inc <;> cases x.beat == y.beat <;> cases x.tick == y.tick <;> rfl
 ·cases x; cases y; simp [Classical.or_iff_not_imp_left]
theorem neq_Item (x y : Itm) : ∃ b,abin Tryz.prog .neq 98 (.agg #[vI x.id,vI x.e.inc,vI x.e.rank,vI x.e.beat,vI x.e.ver,.string x.e.data]) (.agg #[vI y.id,vI y.e.inc,vI y.e.rank,vI y.e.beat,vI y.e.ver,.string y.e.data]) = some (.bool b) ∧ (b = true ↔ ¬ x = y) := by
 refine ⟨!(x.id == y.id && (x.e.inc == y.e.inc && (x.e.rank == y.e.rank && (x.e.beat == y.e.beat && (x.e.ver == y.e.ver && x.e.data.toList == y.e.data.toList))))),?_,?_⟩
 ·have h : abin Tryz.prog .neq 98 (.agg #[vI x.id,vI x.e.inc,vI x.e.rank,vI x.e.beat,vI x.e.ver,.string x.e.data]) (.agg #[vI y.id,vI y.e.inc,vI y.e.rank,vI y.e.beat,vI y.e.ver,.string y.e.data]) = ((some (x.id == y.id)).bind fun r => if r = true then (((some (x.e.inc == y.e.inc)).bind fun r => if r = true then ((some (x.e.rank == y.e.rank)).bind fun r => if r = true then ((some (x.e.beat == y.e.beat)).bind fun r => if r = true then ((some (x.e.ver == y.e.ver)).bind fun r => if r = true then ((some (x.e.data.toList == y.e.data.toList)).bind fun r => if r = true then some true else some false) else some false) else some false) else some false) else some false).bind fun r => if r = true then some true else some false) else some false).map fun b => Value.bool !b := by kernel_rfl
  rw [h]; cases x.id == y.id <;> cases x.e.inc == y.e.inc <;> cases x.e.rank == y.e.rank <;> cases x.e.beat == y.e.beat <;> cases x.e.ver == y.e.ver <;> cases x.e.data.toList == y.e.data.toList <;> rfl
 ·rcases x with ⟨i,a,b,c,d,s⟩
  rcases y with ⟨j,a',b',c',d',s'⟩
  have hb : (s.toList == s'.toList) = true ↔ s = s' := beq_bytes
  cases hs : (s.toList == s'.toList) with
  | true => simp [hs,hb.1 hs,Classical.or_iff_not_imp_left]
  | false =>
   have : ¬ s = s' := fun h => by rw [hb.2 h] at hs; cases hs
   simp [hs,this]
theorem ac_slices_Equal_Int (p q : Option Addr) (a b : List Int) (st : St) (hA : Rows st 1 fI p a) (hB : Rows st 1 fI q b) (hs : szOk a.length) : C 164 [vS p a.length,vS q b.length] st (fun v s => ∃ x,v = .bool x ∧ (x = true ↔ a = b) ∧ s = st) := by
 have hs : a.length ≤ 1048576 := hs
 refine AC.enterX (i := ⟨[],[],[0,1,4,5,10,12,13,14,24],[]⟩) [(6,[],[])] Tryz.func164 rfl rfl (by kernel_rfl) (by kernel_rfl) Tryz.ntmps164 (Lb rfl) rfl ?_
 refine Cu lo0 st [(0,vS p a.length),(1,vS q b.length),(4,vB false)] fun _ => ?_
 iterate 3 refine ⟨_,rfl,?_⟩
 rintro (_|_) h10
 ·replace h10 : (a.length : Int) = (b.length : Int) := bne_eq_false_iff_eq.1 h10
  refine Cu lo0 st [(0,vS p a.length),(1,vS q b.length),(4,vB false),(10,vB false)] fun _ => ?_
  refine cxs ?_
  refine ⟨_,rfl,?_⟩
  refine Cu lo0 st [(0,vS p a.length),(1,vS q b.length),(4,vB false),(12,vI (a.length : Int)),(13,vI 0)] fun _ => ?_
  refine AW.loop0 (fun i : Nat => [(0,vS p a.length),(1,vS q b.length),(12,vI (a.length : Int)),(13,vI (i : Int))]) (fun m (i : Nat) st' => m = a.length - i ∧ i ≤ a.length ∧ (∀ (j : Nat) x y,j < i → a[j]? = some x → b[j]? = some y → x = y) ∧ st = st') 0 _ ⟨rfl,rfl,rfl,rfl,trivial⟩ rfl ⟨rfl,Nat.zero_le _,fun j x y h => absurd h (Nat.not_lt_zero _),rfl⟩ ?_
  rintro m i ρ0 st' ⟨rfl,hi,heq,rfl⟩
  refine ⟨_,rfl,?_⟩
  rintro (_|_) h14
  ·replace h14 : ¬ ((i : Int) < (a.length : Int)) := of_decide_eq_false h14
   refine Cu lo0 st [(0,vS p a.length),(1,vS q b.length),(12,vI (a.length : Int)),(13,vI (i : Int)),(14,vB false)] fun _ => ?_
   refine cxs ?_
   exact cxs (Rt ⟨true,rfl,⟨fun _ => iff_lists (by omega) fun j x y hj hx hy => heq j x y (by omega) hx hy,fun _ => rfl⟩,rfl⟩)
  ·replace h14 : (i : Int) < (a.length : Int) := of_decide_eq_true h14
   refine Cu lo0 st [(0,vS p a.length),(1,vS q b.length),(12,vI (a.length : Int)),(13,vI (i : Int)),(14,vB true)] fun _ => ?_
   refine cxs ?_
   refine Cu lo0 st [(0,vS p a.length),(1,vS q b.length),(5,vI (i : Int)),(12,vI (a.length : Int)),(13,vI (i : Int)),(14,vB true)] fun _ => ?_
   refine op_at i hA (by omega) rfl rfl rfl rfl rfl rfl rfl ?_
   intro x18 b18 d18 k18 hy18 hb18 hm18 hc18 ho18
   refine ⟨_,op_ldc (i := 0) rfl rfl rfl rfl hm18 hc18 rfl rfl,?_⟩
   refine op_at i hB (by omega) rfl rfl rfl rfl rfl rfl rfl ?_
   intro x22 b22 d22 k22 hy22 hb22 hm22 hc22 ho22
   refine ⟨_,op_ldc (i := 0) rfl rfl rfl rfl hm22 hc22 rfl rfl,?_⟩
   refine ⟨_,rfl,?_⟩
   rintro (_|_) h24
   ·replace h24 : x18 = x22 := bne_eq_false_iff_eq.1 h24
    refine Cu lo0 st [(0,vS p a.length),(1,vS q b.length),(5,vI (i : Int)),(12,vI (a.length : Int)),(13,vI (i : Int)),(14,vB true),(24,vB false)] fun _ => ?_
    refine cxs ?_
    have ew25 : IntKind.wrap .i64 ((i : Int) + (1)) = ((i + 1 : Nat) : Int) := (wrap_i64 (by omega) (by omega)).trans (by omega)
    refine ⟨_,rfl,?_⟩
    exact ⟨i + 1,a.length - (i + 1),by omega,⟨rfl,rfl,rfl,congrArg (Value.int .i64) ew25,trivial⟩,rfl,rfl,by omega,same_next (f := fun x => x) hy18 hy22 h24 heq,rfl⟩
   ·replace h24 : ¬ (x18 = x22) := bne_iff_ne.1 h24
    refine Cu lo0 st [(0,vS p a.length),(1,vS q b.length),(5,vI (i : Int)),(12,vI (a.length : Int)),(13,vI (i : Int)),(14,vB true),(24,vB true)] fun _ => ?_
    exact cxs (Rt ⟨false,rfl,⟨fun h => absurd h Bool.false_ne_true,fun h => (show False from (absurd (same_at hy18 hy22 h) h24)).elim⟩,rfl⟩)
 ·replace h10 : ¬ ((a.length : Int) = (b.length : Int)) := bne_iff_ne.1 h10
  refine Cu lo0 st [(0,vS p a.length),(1,vS q b.length),(4,vB false),(10,vB true)] fun _ => ?_
  exact cxs (Rt ⟨false,rfl,⟨fun h => absurd h Bool.false_ne_true,fun h => (show False from (absurd (congrArg (fun l : List Int => (l.length : Int)) h) h10)).elim⟩,rfl⟩)
theorem ac_slices_Equal_Floor (p q : Option Addr) (a b : List Flr) (st : St) (hA : Rows st 2 cFlr p a) (hB : Rows st 2 cFlr q b) (hs : szOk a.length) : C 81 [vS p a.length,vS q b.length] st (fun v s => ∃ x,v = .bool x ∧ (x = true ↔ a = b) ∧ s = st) := by
 have hs : a.length ≤ 1048576 := hs
 refine AC.enterX (i := ⟨[],[],[0,1,4,5,10,12,13,14,24],[]⟩) [(6,[],[])] Tryz.func81 rfl rfl (by kernel_rfl) (by kernel_rfl) Tryz.ntmps81 (Lb rfl) rfl ?_
 refine Cu lo0 st [(0,vS p a.length),(1,vS q b.length),(4,vB false)] fun _ => ?_
 iterate 3 refine ⟨_,rfl,?_⟩
 rintro (_|_) h10
 ·replace h10 : (a.length : Int) = (b.length : Int) := bne_eq_false_iff_eq.1 h10
  refine Cu lo0 st [(0,vS p a.length),(1,vS q b.length),(4,vB false),(10,vB false)] fun _ => ?_
  refine cxs ?_
  refine ⟨_,rfl,?_⟩
  refine Cu lo0 st [(0,vS p a.length),(1,vS q b.length),(4,vB false),(12,vI (a.length : Int)),(13,vI 0)] fun _ => ?_
  refine AW.loop0 (fun i : Nat => [(0,vS p a.length),(1,vS q b.length),(12,vI (a.length : Int)),(13,vI (i : Int))]) (fun m (i : Nat) st' => m = a.length - i ∧ i ≤ a.length ∧ (∀ (j : Nat) x y,j < i → a[j]? = some x → b[j]? = some y → x = y) ∧ st = st') 0 _ ⟨rfl,rfl,rfl,rfl,trivial⟩ rfl ⟨rfl,Nat.zero_le _,fun j x y h => absurd h (Nat.not_lt_zero _),rfl⟩ ?_
  rintro m i ρ0 st' ⟨rfl,hi,heq,rfl⟩
  refine ⟨_,rfl,?_⟩
  rintro (_|_) h14
  ·replace h14 : ¬ ((i : Int) < (a.length : Int)) := of_decide_eq_false h14
   refine Cu lo0 st [(0,vS p a.length),(1,vS q b.length),(12,vI (a.length : Int)),(13,vI (i : Int)),(14,vB false)] fun _ => ?_
   refine cxs ?_
   exact cxs (Rt ⟨true,rfl,⟨fun _ => iff_lists (by omega) fun j x y hj hx hy => heq j x y (by omega) hx hy,fun _ => rfl⟩,rfl⟩)
  ·replace h14 : (i : Int) < (a.length : Int) := of_decide_eq_true h14
   refine Cu lo0 st [(0,vS p a.length),(1,vS q b.length),(12,vI (a.length : Int)),(13,vI (i : Int)),(14,vB true)] fun _ => ?_
   refine cxs ?_
   refine Cu lo0 st [(0,vS p a.length),(1,vS q b.length),(5,vI (i : Int)),(12,vI (a.length : Int)),(13,vI (i : Int)),(14,vB true)] fun _ => ?_
   refine op_at i hA (by omega) rfl rfl rfl rfl rfl rfl rfl ?_
   intro x18 b18 d18 k18 hy18 hb18 hm18 hc18 ho18
   refine ⟨_,op_lda rfl rfl rfl rfl rfl hm18 hc18 rfl,?_⟩
   refine op_at i hB (by omega) rfl rfl rfl rfl rfl rfl rfl ?_
   intro x22 b22 d22 k22 hy22 hb22 hm22 hc22 ho22
   refine ⟨_,op_lda rfl rfl rfl rfl rfl hm22 hc22 rfl,?_⟩
   refine cmpS (neq_Floor x18 x22) ?_
   rintro (_|_) h24
   ·replace h24 : x18 = x22 := Classical.byContradiction fun k => Bool.false_ne_true (h24.2 k)
    refine Cu lo0 st [(0,vS p a.length),(1,vS q b.length),(5,vI (i : Int)),(12,vI (a.length : Int)),(13,vI (i : Int)),(14,vB true),(24,vB false)] fun _ => ?_
    refine cxs ?_
    have ew25 : IntKind.wrap .i64 ((i : Int) + (1)) = ((i + 1 : Nat) : Int) := (wrap_i64 (by omega) (by omega)).trans (by omega)
    refine ⟨_,rfl,?_⟩
    exact ⟨i + 1,a.length - (i + 1),by omega,⟨rfl,rfl,rfl,congrArg (Value.int .i64) ew25,trivial⟩,rfl,rfl,by omega,same_next (f := fun x => x) hy18 hy22 h24 heq,rfl⟩
   ·replace h24 : ¬ x18 = x22 := h24.1 rfl
    refine Cu lo0 st [(0,vS p a.length),(1,vS q b.length),(5,vI (i : Int)),(12,vI (a.length : Int)),(13,vI (i : Int)),(14,vB true),(24,vB true)] fun _ => ?_
    exact cxs (Rt ⟨false,rfl,⟨fun h => absurd h Bool.false_ne_true,fun h => (show False from (absurd (same_at hy18 hy22 h) h24)).elim⟩,rfl⟩)
 ·replace h10 : ¬ ((a.length : Int) = (b.length : Int)) := bne_iff_ne.1 h10
  refine Cu lo0 st [(0,vS p a.length),(1,vS q b.length),(4,vB false),(10,vB true)] fun _ => ?_
  exact cxs (Rt ⟨false,rfl,⟨fun h => absurd h Bool.false_ne_true,fun h => (show False from (absurd (congrArg (fun l : List Flr => (l.length : Int)) h) h10)).elim⟩,rfl⟩)
theorem ac_slices_Equal_Item (p q : Option Addr) (a b : List Itm) (st : St) (hA : Rows st 6 cItm p a) (hB : Rows st 6 cItm q b) (hs : szOk a.length) : C 80 [vS p a.length,vS q b.length] st (fun v s => ∃ x,v = .bool x ∧ (x = true ↔ a = b) ∧ s = st) := by
 have hs : a.length ≤ 1048576 := hs
 refine AC.enterX (i := ⟨[],[],[0,1,4,5,10,12,13,14,24],[]⟩) [(6,[],[])] Tryz.func80 rfl rfl (by kernel_rfl) (by kernel_rfl) Tryz.ntmps80 (Lb rfl) rfl ?_
 refine Cu lo0 st [(0,vS p a.length),(1,vS q b.length),(4,vB false)] fun _ => ?_
 iterate 3 refine ⟨_,rfl,?_⟩
 rintro (_|_) h10
 ·replace h10 : (a.length : Int) = (b.length : Int) := bne_eq_false_iff_eq.1 h10
  refine Cu lo0 st [(0,vS p a.length),(1,vS q b.length),(4,vB false),(10,vB false)] fun _ => ?_
  refine cxs ?_
  refine ⟨_,rfl,?_⟩
  refine Cu lo0 st [(0,vS p a.length),(1,vS q b.length),(4,vB false),(12,vI (a.length : Int)),(13,vI 0)] fun _ => ?_
  refine AW.loop0 (fun i : Nat => [(0,vS p a.length),(1,vS q b.length),(12,vI (a.length : Int)),(13,vI (i : Int))]) (fun m (i : Nat) st' => m = a.length - i ∧ i ≤ a.length ∧ (∀ (j : Nat) x y,j < i → a[j]? = some x → b[j]? = some y → x = y) ∧ st = st') 0 _ ⟨rfl,rfl,rfl,rfl,trivial⟩ rfl ⟨rfl,Nat.zero_le _,fun j x y h => absurd h (Nat.not_lt_zero _),rfl⟩ ?_
  rintro m i ρ0 st' ⟨rfl,hi,heq,rfl⟩
  refine ⟨_,rfl,?_⟩
  rintro (_|_) h14
  ·replace h14 : ¬ ((i : Int) < (a.length : Int)) := of_decide_eq_false h14
   refine Cu lo0 st [(0,vS p a.length),(1,vS q b.length),(12,vI (a.length : Int)),(13,vI (i : Int)),(14,vB false)] fun _ => ?_
   refine cxs ?_
   exact cxs (Rt ⟨true,rfl,⟨fun _ => iff_lists (by omega) fun j x y hj hx hy => heq j x y (by omega) hx hy,fun _ => rfl⟩,rfl⟩)
  ·replace h14 : (i : Int) < (a.length : Int) := of_decide_eq_true h14
   refine Cu lo0 st [(0,vS p a.length),(1,vS q b.length),(12,vI (a.length : Int)),(13,vI (i : Int)),(14,vB true)] fun _ => ?_
   refine cxs ?_
   refine Cu lo0 st [(0,vS p a.length),(1,vS q b.length),(5,vI (i : Int)),(12,vI (a.length : Int)),(13,vI (i : Int)),(14,vB true)] fun _ => ?_
   refine op_at i hA (by omega) rfl rfl rfl rfl rfl rfl rfl ?_
   intro x18 b18 d18 k18 hy18 hb18 hm18 hc18 ho18
   refine ⟨_,op_lda rfl rfl rfl rfl rfl hm18 hc18 rfl,?_⟩
   refine op_at i hB (by omega) rfl rfl rfl rfl rfl rfl rfl ?_
   intro x22 b22 d22 k22 hy22 hb22 hm22 hc22 ho22
   refine ⟨_,op_lda rfl rfl rfl rfl rfl hm22 hc22 rfl,?_⟩
   refine cmpS (neq_Item x18 x22) ?_
   rintro (_|_) h24
   ·replace h24 : x18 = x22 := Classical.byContradiction fun k => Bool.false_ne_true (h24.2 k)
    refine Cu lo0 st [(0,vS p a.length),(1,vS q b.length),(5,vI (i : Int)),(12,vI (a.length : Int)),(13,vI (i : Int)),(14,vB true),(24,vB false)] fun _ => ?_
    refine cxs ?_
    have ew25 : IntKind.wrap .i64 ((i : Int) + (1)) = ((i + 1 : Nat) : Int) := (wrap_i64 (by omega) (by omega)).trans (by omega)
    refine ⟨_,rfl,?_⟩
    exact ⟨i + 1,a.length - (i + 1),by omega,⟨rfl,rfl,rfl,congrArg (Value.int .i64) ew25,trivial⟩,rfl,rfl,by omega,same_next (f := fun x => x) hy18 hy22 h24 heq,rfl⟩
   ·replace h24 : ¬ x18 = x22 := h24.1 rfl
    refine Cu lo0 st [(0,vS p a.length),(1,vS q b.length),(5,vI (i : Int)),(12,vI (a.length : Int)),(13,vI (i : Int)),(14,vB true),(24,vB true)] fun _ => ?_
    exact cxs (Rt ⟨false,rfl,⟨fun h => absurd h Bool.false_ne_true,fun h => (show False from (absurd (same_at hy18 hy22 h) h24)).elim⟩,rfl⟩)
 ·replace h10 : ¬ ((a.length : Int) = (b.length : Int)) := bne_iff_ne.1 h10
  refine Cu lo0 st [(0,vS p a.length),(1,vS q b.length),(4,vB false),(10,vB true)] fun _ => ?_
  exact cxs (Rt ⟨false,rfl,⟨fun h => absurd h Bool.false_ne_true,fun h => (show False from (absurd (congrArg (fun l : List Itm => (l.length : Int)) h) h10)).elim⟩,rfl⟩)
theorem ac_spec_l1Same (p q : Option Addr) (a b : List Int) (st : St) (hA : Rows st 1 fI p a) (hB : Rows st 1 fI q b) (hs : szOk a.length) : C 87 [vS p a.length,vS q b.length] st (fun v s => ∃ x,v = .bool x ∧ (x = true ↔ a = b) ∧ s = st) := by
 have hs : a.length ≤ 1048576 := hs
 refine AC.enterX (i := ⟨[],[],[0,1,4,5,10,14,25],[]⟩) [(6,[],[])] Tryz.func87 rfl rfl (by kernel_rfl) (by kernel_rfl) Tryz.ntmps87 (Lb rfl) rfl ?_
 refine Cu lo0 st [(0,vS p a.length),(1,vS q b.length),(4,vB false)] fun _ => ?_
 iterate 3 refine ⟨_,rfl,?_⟩
 rintro (_|_) h10
 ·replace h10 : (a.length : Int) = (b.length : Int) := bne_eq_false_iff_eq.1 h10
  refine Cu lo0 st [(0,vS p a.length),(1,vS q b.length),(4,vB false),(10,vB false)] fun _ => ?_
  refine cxs ?_
  refine Cu lo0 st [(0,vS p a.length),(1,vS q b.length),(4,vB false),(5,vI 0)] fun _ => ?_
  refine AW.loop0 (fun i : Nat => [(0,vS p a.length),(1,vS q b.length),(5,vI (i : Int))]) (fun m (i : Nat) st' => m = a.length - i ∧ i ≤ a.length ∧ (∀ (j : Nat) x y,j < i → a[j]? = some x → b[j]? = some y → x = y) ∧ st = st') 0 _ ⟨rfl,rfl,rfl,trivial⟩ rfl ⟨rfl,Nat.zero_le _,fun j x y h => absurd h (Nat.not_lt_zero _),rfl⟩ ?_
  rintro m i ρ0 st' ⟨rfl,hi,heq,rfl⟩
  iterate 2 refine ⟨_,rfl,?_⟩
  rintro (_|_) h14
  ·replace h14 : ¬ ((i : Int) < (a.length : Int)) := of_decide_eq_false h14
   refine Cu lo0 st [(0,vS p a.length),(1,vS q b.length),(5,vI (i : Int)),(14,vB false)] fun _ => ?_
   refine cxs ?_
   exact cxs (Rt ⟨true,rfl,⟨fun _ => iff_lists (by omega) fun j x y hj hx hy => heq j x y (by omega) hx hy,fun _ => rfl⟩,rfl⟩)
  ·replace h14 : (i : Int) < (a.length : Int) := of_decide_eq_true h14
   refine Cu lo0 st [(0,vS p a.length),(1,vS q b.length),(5,vI (i : Int)),(14,vB true)] fun _ => ?_
   refine cxs ?_
   refine op_at i hA (by omega) rfl rfl rfl rfl rfl rfl rfl ?_
   intro x19 b19 d19 k19 hy19 hb19 hm19 hc19 ho19
   refine ⟨_,op_ldc (i := 0) rfl rfl rfl rfl hm19 hc19 rfl rfl,?_⟩
   refine op_at i hB (by omega) rfl rfl rfl rfl rfl rfl rfl ?_
   intro x23 b23 d23 k23 hy23 hb23 hm23 hc23 ho23
   refine ⟨_,op_ldc (i := 0) rfl rfl rfl rfl hm23 hc23 rfl rfl,?_⟩
   refine ⟨_,rfl,?_⟩
   rintro (_|_) h25
   ·replace h25 : x19 = x23 := bne_eq_false_iff_eq.1 h25
    refine Cu lo0 st [(0,vS p a.length),(1,vS q b.length),(5,vI (i : Int)),(14,vB true),(25,vB false)] fun _ => ?_
    refine cxs ?_
    have ew16 : IntKind.wrap .i64 ((i : Int) + (1)) = ((i + 1 : Nat) : Int) := (wrap_i64 (by omega) (by omega)).trans (by omega)
    refine ⟨_,rfl,?_⟩
    exact ⟨i + 1,a.length - (i + 1),by omega,⟨rfl,rfl,congrArg (Value.int .i64) ew16,trivial⟩,rfl,rfl,by omega,same_next (f := fun x => x) hy19 hy23 h25 heq,rfl⟩
   ·replace h25 : ¬ (x19 = x23) := bne_iff_ne.1 h25
    refine Cu lo0 st [(0,vS p a.length),(1,vS q b.length),(5,vI (i : Int)),(14,vB true),(25,vB true)] fun _ => ?_
    exact cxs (Rt ⟨false,rfl,⟨fun h => absurd h Bool.false_ne_true,fun h => (show False from (absurd (same_at hy19 hy23 h) h25)).elim⟩,rfl⟩)
 ·replace h10 : ¬ ((a.length : Int) = (b.length : Int)) := bne_iff_ne.1 h10
  refine Cu lo0 st [(0,vS p a.length),(1,vS q b.length),(4,vB false),(10,vB true)] fun _ => ?_
  exact cxs (Rt ⟨false,rfl,⟨fun h => absurd h Bool.false_ne_true,fun h => (show False from (absurd (congrArg (fun l : List Int => (l.length : Int)) h) h10)).elim⟩,rfl⟩)
theorem ac_impl_StateSame (a b : SV) (st : St) (hA : RdS st a) (hB : RdS st b) (hb : bigS a.x) : C 22 [.agg #[vS a.p a.x.items.length,vS a.q a.x.floors.length],.agg #[vS b.p b.x.items.length,vS b.q b.x.floors.length]] st (fun v s => ∃ x,v = .bool x ∧ (x = true ↔ a.x = b.x) ∧ s = st) := by
 have hs1 := hb.1
 have hs2 := hb.2.1
 refine AC.enterX (i := ⟨[2,3],[2,3,5,7,11,13],[0,1,2,3,4],[]⟩) [] Tryz.func22 rfl rfl (by kernel_rfl) (by kernel_rfl) Tryz.ntmps22 (Lb rfl) rfl ?_
 iterate 2 refine ⟨_,rfl,?_⟩
 refine Cm 2 st [Ml 2 0,Ml 3 1,(4,vB false)] [(2,0,cSV a),(3,1,cSV b)] fun _ _ => ?_
 refine ⟨_,rfl,?_⟩
 refine ⟨_,Od rfl,?_⟩
 refine ⟨_,rfl,?_⟩
 refine ⟨_,Od rfl,?_⟩
 refine ⟨_,rfl,(ac_slices_Equal_Item a.p b.p a.x.items b.x.items st hA.1 hB.1 (by first | assumption | omega)).mono ?_⟩
 rintro _ st ⟨x9,rfl,h9,rfl⟩
 rcases x9 with _|_
 ·replace h9 := fun k => Bool.false_ne_true (h9.2 k)
  refine ⟨_,rfl,?_⟩
  exact cxs (Rt ⟨false,rfl,⟨fun h => absurd h Bool.false_ne_true,fun h => (show False from (absurd (congrArg Sta.items h) h9)).elim⟩,rfl⟩)
 ·replace h9 := h9.1 rfl
  refine ⟨_,rfl,?_⟩
  refine ⟨_,Od rfl,?_⟩
  refine ⟨_,rfl,?_⟩
  refine ⟨_,Od rfl,?_⟩
  refine ⟨_,rfl,(ac_slices_Equal_Floor a.q b.q a.x.floors b.x.floors st hA.2 hB.2 (by first | assumption | omega)).mono ?_⟩
  rintro _ st ⟨x15,rfl,h15,rfl⟩
  rcases x15 with _|_
  ·replace h15 := fun k => Bool.false_ne_true (h15.2 k)
   refine ⟨_,rfl,?_⟩
   exact cxs (Rt ⟨false,rfl,⟨fun h => absurd h Bool.false_ne_true,fun h => (show False from (absurd (congrArg Sta.floors h) h15)).elim⟩,rfl⟩)
  ·replace h15 := h15.1 rfl
   refine ⟨_,rfl,?_⟩
   exact cxs (Rt ⟨true,rfl,⟨fun _ => sta_ext h9 h15,fun _ => rfl⟩,rfl⟩)
theorem ac_spec_StateSame (a b : SV) (st : St) (hA : RdS st a) (hB : RdS st b) (hb : bigS a.x) : C 15 [.agg #[vS a.p a.x.items.length,vS a.q a.x.floors.length],.agg #[vS b.p b.x.items.length,vS b.q b.x.floors.length]] st (fun v s => ∃ x,v = .bool x ∧ (x = true ↔ a.x = b.x) ∧ s = st) := by
 have hs1 : a.x.items.length ≤ 1048576 := hb.1
 have hs2 : a.x.floors.length ≤ 1048576 := hb.2.1
 refine AC.enterX (i := ⟨[2,3],[2,3,7,10,15,18,24,30,35,42,48,53],[0,1,2,3,4,5,6,22,27,40,45,58],[]⟩) [(6,[],[]),(11,[],[])] Tryz.func15 rfl rfl (by kernel_rfl) (by kernel_rfl) Tryz.ntmps15 (Lb rfl) rfl ?_
 iterate 2 refine ⟨_,rfl,?_⟩
 refine Cm 2 st [Ml 2 0,Ml 3 1,(4,vB false)] [(2,0,cSV a),(3,1,cSV b)] fun _ _ => ?_
 refine ⟨_,rfl,?_⟩
 refine ⟨_,Od rfl,?_⟩
 iterate 2 refine ⟨_,rfl,?_⟩
 refine ⟨_,Od rfl,?_⟩
 iterate 2 refine ⟨_,rfl,?_⟩
 rintro (_|_) h13
 ·replace h13 : (a.x.items.length : Int) = (b.x.items.length : Int) := bne_eq_false_iff_eq.1 h13
  refine ⟨_,rfl,?_⟩
  refine ⟨_,Od rfl,?_⟩
  iterate 2 refine ⟨_,rfl,?_⟩
  refine ⟨_,Od rfl,?_⟩
  iterate 2 refine ⟨_,rfl,?_⟩
  rintro (_|_) h21
  ·replace h21 : (a.x.floors.length : Int) = (b.x.floors.length : Int) := bne_eq_false_iff_eq.1 h21
   refine ⟨_,rfl,?_⟩
   refine Cm 2 st [Ml 2 0,Ml 3 1,(4,vB false),(22,vB false)] [(2,0,cSV a),(3,1,cSV b)] fun _ _ => ?_
   refine cxs ?_
   refine Cm 2 st [Ml 2 0,Ml 3 1,(4,vB false),(5,vI 0)] [(2,0,cSV a),(3,1,cSV b)] fun _ _ => ?_
   refine AW.loopM (fun i : Nat => [(2,vL 2 0 (0)),(3,vL 3 0 (1)),(5,vI (i : Int))]) (fun i : Nat => [(2,0,[vS a.p a.x.items.length,vS a.q a.x.floors.length]),(3,1,[vS b.p b.x.items.length,vS b.q b.x.floors.length])]) (fun m (i : Nat) st' => m = a.x.items.length - i ∧ i ≤ a.x.items.length ∧ (∀ (j : Nat) x y,j < i → a.x.items[j]? = some x → b.x.items[j]? = some y → x = y) ∧ st = st') 0 _ ⟨rfl,rfl,rfl,trivial⟩ ⟨rfl,rfl,trivial⟩ ⟨rfl,Nat.zero_le _,fun j x y h => absurd h (Nat.not_lt_zero _),rfl⟩ ?_
   rintro m i ρ0 ff gg st' ⟨rfl,hi,heq,rfl⟩
   refine ⟨_,rfl,?_⟩
   refine ⟨_,Od rfl,?_⟩
   iterate 2 refine ⟨_,rfl,?_⟩
   rintro (_|_) h27
   ·replace h27 : ¬ ((i : Int) < (a.x.items.length : Int)) := of_decide_eq_false h27
    refine Cm gg st [Ml 2 0,Ml 3 1,(5,vI (i : Int)),(27,vB false)] [(2,0,cSV a),(3,1,cSV b)] fun _ _ => ?_
    have hI : a.x.items = b.x.items := iff_lists (by omega) fun j x y hj hx hy => heq j x y (by omega) hx hy
    clear heq
    refine cxs ?_
    refine Cm gg st [Ml 2 0,Ml 3 1,(6,vI 0)] [(2,0,cSV a),(3,1,cSV b)] fun _ _ => ?_
    refine AW.loopM (fun i : Nat => [(2,vL 2 0 (0)),(3,vL 3 0 (1)),(6,vI (i : Int))]) (fun i : Nat => [(2,0,[vS a.p a.x.items.length,vS a.q a.x.floors.length]),(3,1,[vS b.p b.x.items.length,vS b.q b.x.floors.length])]) (fun m (i : Nat) st' => m = a.x.floors.length - i ∧ i ≤ a.x.floors.length ∧ (∀ (j : Nat) x y,j < i → a.x.floors[j]? = some x → b.x.floors[j]? = some y → x = y) ∧ st = st') 0 _ ⟨rfl,rfl,rfl,trivial⟩ ⟨rfl,rfl,trivial⟩ ⟨rfl,Nat.zero_le _,fun j x y h => absurd h (Nat.not_lt_zero _),rfl⟩ ?_
    rintro m i ρ0 ff gg st' ⟨rfl,hi,heq,rfl⟩
    refine ⟨_,rfl,?_⟩
    refine ⟨_,Od rfl,?_⟩
    iterate 2 refine ⟨_,rfl,?_⟩
    rintro (_|_) h45
    ·replace h45 : ¬ ((i : Int) < (a.x.floors.length : Int)) := of_decide_eq_false h45
     refine Cm gg st [Ml 2 0,Ml 3 1,(6,vI (i : Int)),(45,vB false)] [(2,0,cSV a),(3,1,cSV b)] fun _ _ => ?_
     refine cxs ?_
     exact cxs (Rt ⟨true,rfl,⟨fun _ => sta_ext hI (iff_lists (by omega) fun j x y hj hx hy => heq j x y (by omega) hx hy),fun _ => rfl⟩,rfl⟩)
    ·replace h45 : (i : Int) < (a.x.floors.length : Int) := of_decide_eq_true h45
     refine Cm gg st [Ml 2 0,Ml 3 1,(6,vI (i : Int)),(45,vB true)] [(2,0,cSV a),(3,1,cSV b)] fun _ _ => ?_
     refine cxs ?_
     refine ⟨_,rfl,?_⟩
     refine ⟨_,Od rfl,?_⟩
     refine op_at i hA.2 (by omega) rfl rfl rfl rfl rfl rfl rfl ?_
     intro x51 b51 d51 k51 hy51 hb51 hm51 hc51 ho51
     refine ⟨_,op_lda rfl rfl rfl rfl rfl hm51 hc51 rfl,?_⟩
     refine ⟨_,rfl,?_⟩
     refine ⟨_,Od rfl,?_⟩
     refine op_at i hB.2 (by omega) rfl rfl rfl rfl rfl rfl rfl ?_
     intro x56 b56 d56 k56 hy56 hb56 hm56 hc56 ho56
     refine ⟨_,op_lda rfl rfl rfl rfl rfl hm56 hc56 rfl,?_⟩
     refine cmpS (neq_Floor x51 x56) ?_
     rintro (_|_) h58
     ·replace h58 : x51 = x56 := Classical.byContradiction fun k => Bool.false_ne_true (h58.2 k)
      refine Cm gg st [Ml 2 0,Ml 3 1,(6,vI (i : Int)),(45,vB true),(58,vB false)] [(2,0,cSV a),(3,1,cSV b)] fun _ _ => ?_
      refine cxs ?_
      have ew47 : IntKind.wrap .i64 ((i : Int) + (1)) = ((i + 1 : Nat) : Int) := (wrap_i64 (by omega) (by omega)).trans (by omega)
      refine ⟨_,rfl,?_⟩
      exact ⟨i + 1,a.x.floors.length - (i + 1),by omega,⟨rfl,rfl,congrArg (Value.int .i64) ew47,trivial⟩,⟨rfl,rfl,trivial⟩,rfl,by omega,same_next (f := fun x => x) hy51 hy56 h58 heq,rfl⟩
     ·replace h58 : ¬ x51 = x56 := h58.1 rfl
      refine Cm gg st [Ml 2 0,Ml 3 1,(6,vI (i : Int)),(45,vB true),(58,vB true)] [(2,0,cSV a),(3,1,cSV b)] fun _ _ => ?_
      exact cxs (Rt ⟨false,rfl,⟨fun h => absurd h Bool.false_ne_true,fun h => (show False from (absurd (same_at hy51 hy56 (congrArg Sta.floors h)) h58)).elim⟩,rfl⟩)
   ·replace h27 : (i : Int) < (a.x.items.length : Int) := of_decide_eq_true h27
    refine Cm gg st [Ml 2 0,Ml 3 1,(5,vI (i : Int)),(27,vB true)] [(2,0,cSV a),(3,1,cSV b)] fun _ _ => ?_
    refine cxs ?_
    refine ⟨_,rfl,?_⟩
    refine ⟨_,Od rfl,?_⟩
    refine op_at i hA.1 (by omega) rfl rfl rfl rfl rfl rfl rfl ?_
    intro x33 b33 d33 k33 hy33 hb33 hm33 hc33 ho33
    refine ⟨_,op_lda rfl rfl rfl rfl rfl hm33 hc33 rfl,?_⟩
    refine ⟨_,rfl,?_⟩
    refine ⟨_,Od rfl,?_⟩
    refine op_at i hB.1 (by omega) rfl rfl rfl rfl rfl rfl rfl ?_
    intro x38 b38 d38 k38 hy38 hb38 hm38 hc38 ho38
    refine ⟨_,op_lda rfl rfl rfl rfl rfl hm38 hc38 rfl,?_⟩
    refine cmpS (neq_Item x33 x38) ?_
    rintro (_|_) h40
    ·replace h40 : x33 = x38 := Classical.byContradiction fun k => Bool.false_ne_true (h40.2 k)
     refine Cm gg st [Ml 2 0,Ml 3 1,(5,vI (i : Int)),(27,vB true),(40,vB false)] [(2,0,cSV a),(3,1,cSV b)] fun _ _ => ?_
     refine cxs ?_
     have ew29 : IntKind.wrap .i64 ((i : Int) + (1)) = ((i + 1 : Nat) : Int) := (wrap_i64 (by omega) (by omega)).trans (by omega)
     refine ⟨_,rfl,?_⟩
     exact ⟨i + 1,a.x.items.length - (i + 1),by omega,⟨rfl,rfl,congrArg (Value.int .i64) ew29,trivial⟩,⟨rfl,rfl,trivial⟩,rfl,by omega,same_next (f := fun x => x) hy33 hy38 h40 heq,rfl⟩
    ·replace h40 : ¬ x33 = x38 := h40.1 rfl
     refine Cm gg st [Ml 2 0,Ml 3 1,(5,vI (i : Int)),(27,vB true),(40,vB true)] [(2,0,cSV a),(3,1,cSV b)] fun _ _ => ?_
     exact cxs (Rt ⟨false,rfl,⟨fun h => absurd h Bool.false_ne_true,fun h => (show False from (absurd (same_at hy33 hy38 (congrArg Sta.items h)) h40)).elim⟩,rfl⟩)
  ·replace h21 : ¬ ((a.x.floors.length : Int) = (b.x.floors.length : Int)) := bne_iff_ne.1 h21
   refine ⟨_,rfl,?_⟩
   refine Cm 2 st [Ml 2 0,Ml 3 1,(4,vB false),(22,vB true)] [(2,0,cSV a),(3,1,cSV b)] fun _ _ => ?_
   exact cxs (Rt ⟨false,rfl,⟨fun h => absurd h Bool.false_ne_true,fun h => (show False from (absurd (congrArg (fun l : Sta => (l.floors.length : Int)) h) h21)).elim⟩,rfl⟩)
 ·replace h13 : ¬ ((a.x.items.length : Int) = (b.x.items.length : Int)) := bne_iff_ne.1 h13
  refine ⟨_,rfl,?_⟩
  refine Cm 2 st [Ml 2 0,Ml 3 1,(4,vB false),(22,vB true)] [(2,0,cSV a),(3,1,cSV b)] fun _ _ => ?_
  exact cxs (Rt ⟨false,rfl,⟨fun h => absurd h Bool.false_ne_true,fun h => (show False from (absurd (congrArg (fun l : Sta => (l.items.length : Int)) h) h13)).elim⟩,rfl⟩)
theorem ac_impl_treeSame (a b : TV) (st : St) (hA : Rows st 1 fI a.p a.l) (hB : Rows st 1 fI b.p b.l) (hb : szOk a.l.length) : C 63 [.agg #[vS a.p a.l.length,vI a.root],.agg #[vS b.p b.l.length,vI b.root]] st (fun v s => ∃ x,v = .bool x ∧ (x = true ↔ a.x = b.x) ∧ s = st) := by
 refine AC.enterX (i := ⟨[2,3],[2,3,5,7,11,13],[0,1,2,3,4],[]⟩) [] Tryz.func63 rfl rfl (by kernel_rfl) (by kernel_rfl) Tryz.ntmps63 (Lb rfl) rfl ?_
 iterate 2 refine ⟨_,rfl,?_⟩
 refine Cm 2 st [Ml 2 0,Ml 3 1,(4,vB false)] [(2,0,[vS a.p a.l.length,vI a.root]),(3,1,[vS b.p b.l.length,vI b.root])] fun _ _ => ?_
 refine ⟨_,rfl,?_⟩
 refine ⟨_,Od rfl,?_⟩
 refine ⟨_,rfl,?_⟩
 refine ⟨_,Od rfl,?_⟩
 refine ⟨_,rfl,(ac_slices_Equal_Int a.p b.p a.l b.l st hA hB (by first | assumption | omega)).mono ?_⟩
 rintro _ st ⟨x9,rfl,h9,rfl⟩
 rcases x9 with _|_
 ·replace h9 := fun k => Bool.false_ne_true (h9.2 k)
  refine ⟨_,rfl,?_⟩
  exact cxs (Rt ⟨false,rfl,⟨fun h => absurd h Bool.false_ne_true,fun h => (show False from (absurd (congrArg Tr.leaves h) h9)).elim⟩,rfl⟩)
 ·replace h9 := h9.1 rfl
  refine ⟨_,rfl,?_⟩
  refine ⟨_,Od rfl,?_⟩
  refine ⟨_,rfl,?_⟩
  refine ⟨_,Od rfl,?_⟩
  refine ⟨_,rfl,?_⟩
  rintro (_|_) h15
  ·replace h15 : ¬ (a.root = b.root) := beq_eq_false_iff_ne.1 h15
   refine ⟨_,rfl,?_⟩
   exact cxs (Rt ⟨false,rfl,⟨fun h => absurd h Bool.false_ne_true,fun h => (show False from (absurd (congrArg Tr.root h) h15)).elim⟩,rfl⟩)
  ·replace h15 : a.root = b.root := beq_iff_eq.1 h15
   refine ⟨_,rfl,?_⟩
   exact cxs (Rt ⟨true,rfl,⟨fun _ => (by simp only [TV.x,h9,h15]),fun _ => rfl⟩,rfl⟩)
theorem ac_spec_l11Tree (a b : TV) (st : St) (hA : Rows st 1 fI a.p a.l) (hB : Rows st 1 fI b.p b.l) (hb : szOk a.l.length) : C 73 [.agg #[vS a.p a.l.length,vI a.root],.agg #[vS b.p b.l.length,vI b.root]] st (fun v s => ∃ x,v = .bool x ∧ (x = true ↔ a.x = b.x) ∧ s = st) := by
 refine AC.enterX (i := ⟨[2,3],[2,3,5,7,11,13],[0,1,2,3,4],[]⟩) [] Tryz.func73 rfl rfl (by kernel_rfl) (by kernel_rfl) Tryz.ntmps73 (Lb rfl) rfl ?_
 iterate 2 refine ⟨_,rfl,?_⟩
 refine Cm 2 st [Ml 2 0,Ml 3 1,(4,vB false)] [(2,0,[vS a.p a.l.length,vI a.root]),(3,1,[vS b.p b.l.length,vI b.root])] fun _ _ => ?_
 refine ⟨_,rfl,?_⟩
 refine ⟨_,Od rfl,?_⟩
 refine ⟨_,rfl,?_⟩
 refine ⟨_,Od rfl,?_⟩
 refine ⟨_,rfl,(ac_spec_l1Same a.p b.p a.l b.l st hA hB (by first | assumption | omega)).mono ?_⟩
 rintro _ st ⟨x9,rfl,h9,rfl⟩
 rcases x9 with _|_
 ·replace h9 := fun k => Bool.false_ne_true (h9.2 k)
  refine ⟨_,rfl,?_⟩
  exact cxs (Rt ⟨false,rfl,⟨fun h => absurd h Bool.false_ne_true,fun h => (show False from (absurd (congrArg Tr.leaves h) h9)).elim⟩,rfl⟩)
 ·replace h9 := h9.1 rfl
  refine ⟨_,rfl,?_⟩
  refine ⟨_,Od rfl,?_⟩
  refine ⟨_,rfl,?_⟩
  refine ⟨_,Od rfl,?_⟩
  refine ⟨_,rfl,?_⟩
  rintro (_|_) h15
  ·replace h15 : ¬ (a.root = b.root) := beq_eq_false_iff_ne.1 h15
   refine ⟨_,rfl,?_⟩
   exact cxs (Rt ⟨false,rfl,⟨fun h => absurd h Bool.false_ne_true,fun h => (show False from (absurd (congrArg Tr.root h) h15)).elim⟩,rfl⟩)
  ·replace h15 : a.root = b.root := beq_iff_eq.1 h15
   refine ⟨_,rfl,?_⟩
   exact cxs (Rt ⟨true,rfl,⟨fun _ => (by simp only [TV.x,h9,h15]),fun _ => rfl⟩,rfl⟩)
theorem ac_spec_l11Logs (a b : LV) (st : St) (hA : RdL st a.p a.l) (hB : RdL st b.p b.l) (hb : bigL a.l) : C 86 [.agg #[vI a.cap,vI a.frm,vS a.p a.l.length],.agg #[vI b.cap,vI b.frm,vS b.p b.l.length]] st (fun v s => ∃ x,v = .bool x ∧ (x = true ↔ a.x = b.x) ∧ s = st) := by
 have hs : a.l.length ≤ 1048576 := hb.1
 refine AC.enterX (i := ⟨[2,3],[2,3,6,8,12,14,19,22,28,34,39],[0,1,2,3,4,5,26,31,45],[]⟩) [(6,[],[])] Tryz.func86 rfl rfl (by kernel_rfl) (by kernel_rfl) Tryz.ntmps86 (Lb rfl) rfl ?_
 iterate 2 refine ⟨_,rfl,?_⟩
 refine Cm 2 st [Ml 2 0,Ml 3 1,(4,vB false)] [(2,0,[vI a.cap,vI a.frm,vS a.p a.l.length]),(3,1,[vI b.cap,vI b.frm,vS b.p b.l.length])] fun _ _ => ?_
 refine ⟨_,rfl,?_⟩
 refine ⟨_,Od rfl,?_⟩
 refine ⟨_,rfl,?_⟩
 refine ⟨_,Od rfl,?_⟩
 refine ⟨_,rfl,?_⟩
 rintro (_|_) h10
 ·replace h10 : a.cap = b.cap := bne_eq_false_iff_eq.1 h10
  refine ⟨_,rfl,?_⟩
  refine ⟨_,Od rfl,?_⟩
  refine ⟨_,rfl,?_⟩
  refine ⟨_,Od rfl,?_⟩
  refine ⟨_,rfl,?_⟩
  rintro (_|_) h16
  ·replace h16 : a.frm = b.frm := bne_eq_false_iff_eq.1 h16
   iterate 2 refine ⟨_,rfl,?_⟩
   refine ⟨_,Od rfl,?_⟩
   iterate 2 refine ⟨_,rfl,?_⟩
   refine ⟨_,Od rfl,?_⟩
   iterate 2 refine ⟨_,rfl,?_⟩
   rintro (_|_) h25
   ·replace h25 : (a.l.length : Int) = (b.l.length : Int) := bne_eq_false_iff_eq.1 h25
    refine ⟨_,rfl,?_⟩
    refine Cm 2 st [Ml 2 0,Ml 3 1,(4,vB false),(26,vB false)] [(2,0,[vI a.cap,vI a.frm,vS a.p a.l.length]),(3,1,[vI b.cap,vI b.frm,vS b.p b.l.length])] fun _ _ => ?_
    refine cxs ?_
    refine Cm 2 st [Ml 2 0,Ml 3 1,(4,vB false),(5,vI 0)] [(2,0,[vI a.cap,vI a.frm,vS a.p a.l.length]),(3,1,[vI b.cap,vI b.frm,vS b.p b.l.length])] fun _ _ => ?_
    refine AW.loopM (fun i : Nat => [(2,vL 2 0 (0)),(3,vL 3 0 (1)),(5,vI (i : Int))]) (fun i : Nat => [(2,0,[vI a.cap,vI a.frm,vS a.p a.l.length]),(3,1,[vI b.cap,vI b.frm,vS b.p b.l.length])]) (fun m (i : Nat) st' => m = a.l.length - i ∧ i ≤ a.l.length ∧ (∀ (j : Nat) x y,j < i → a.l[j]? = some x → b.l[j]? = some y → x.x = y.x) ∧ st = st') 0 _ ⟨rfl,rfl,rfl,trivial⟩ ⟨rfl,rfl,trivial⟩ ⟨rfl,Nat.zero_le _,fun j x y h => absurd h (Nat.not_lt_zero _),rfl⟩ ?_
    rintro m i ρ0 ff gg st' ⟨rfl,hi,heq,rfl⟩
    refine ⟨_,rfl,?_⟩
    refine ⟨_,Od rfl,?_⟩
    iterate 2 refine ⟨_,rfl,?_⟩
    rintro (_|_) h31
    ·replace h31 : ¬ ((i : Int) < (a.l.length : Int)) := of_decide_eq_false h31
     refine Cm gg st [Ml 2 0,Ml 3 1,(5,vI (i : Int)),(31,vB false)] [(2,0,[vI a.cap,vI a.frm,vS a.p a.l.length]),(3,1,[vI b.cap,vI b.frm,vS b.p b.l.length])] fun _ _ => ?_
     refine cxs ?_
     exact cxs (Rt ⟨true,rfl,⟨fun _ => (by simp only [LV.x]; rw [h10,h16]; exact congrArg _ (map_same (by omega) fun j x y hj hx hy => heq j x y (by omega) hx hy)),fun _ => rfl⟩,rfl⟩)
    ·replace h31 : (i : Int) < (a.l.length : Int) := of_decide_eq_true h31
     refine Cm gg st [Ml 2 0,Ml 3 1,(5,vI (i : Int)),(31,vB true)] [(2,0,[vI a.cap,vI a.frm,vS a.p a.l.length]),(3,1,[vI b.cap,vI b.frm,vS b.p b.l.length])] fun _ _ => ?_
     refine cxs ?_
     refine ⟨_,rfl,?_⟩
     refine ⟨_,Od rfl,?_⟩
     refine op_at i hA.1 (by omega) rfl rfl rfl rfl rfl rfl rfl ?_
     intro x37 b37 d37 k37 hy37 hb37 hm37 hc37 ho37
     refine ⟨_,op_lda rfl rfl rfl rfl rfl hm37 hc37 rfl,?_⟩
     refine ⟨_,rfl,?_⟩
     refine ⟨_,Od rfl,?_⟩
     refine op_at i hB.1 (by omega) rfl rfl rfl rfl rfl rfl rfl ?_
     intro x42 b42 d42 k42 hy42 hb42 hm42 hc42 ho42
     refine ⟨_,op_lda rfl rfl rfl rfl rfl hm42 hc42 rfl,?_⟩
     refine ⟨_,rfl,(ac_spec_StateSame x37 x42 st (hA.2 x37 (List.mem_of_getElem? hy37)) (hB.2 x42 (List.mem_of_getElem? hy42)) (hb.2 x37 (List.mem_of_getElem? hy37))).mono ?_⟩
     rintro _ st ⟨x44,rfl,h44,rfl⟩
     rcases x44 with _|_
     ·replace h44 := fun k => Bool.false_ne_true (h44.2 k)
      refine ⟨_,rfl,?_⟩
      refine Cm gg st [Ml 2 0,Ml 3 1,(5,vI (i : Int)),(31,vB true),(45,vB true)] [(2,0,[vI a.cap,vI a.frm,vS a.p a.l.length]),(3,1,[vI b.cap,vI b.frm,vS b.p b.l.length])] fun _ _ => ?_
      exact cxs (Rt ⟨false,rfl,⟨fun h => absurd h Bool.false_ne_true,fun h => (show False from (absurd (map_at hy37 hy42 (congrArg Lg.list h)) h44)).elim⟩,rfl⟩)
     ·replace h44 := h44.1 rfl
      refine ⟨_,rfl,?_⟩
      refine Cm gg st [Ml 2 0,Ml 3 1,(5,vI (i : Int)),(31,vB true),(45,vB false)] [(2,0,[vI a.cap,vI a.frm,vS a.p a.l.length]),(3,1,[vI b.cap,vI b.frm,vS b.p b.l.length])] fun _ _ => ?_
      refine cxs ?_
      have ew33 : IntKind.wrap .i64 ((i : Int) + (1)) = ((i + 1 : Nat) : Int) := (wrap_i64 (by omega) (by omega)).trans (by omega)
      refine ⟨_,rfl,?_⟩
      exact ⟨i + 1,a.l.length - (i + 1),by omega,⟨rfl,rfl,congrArg (Value.int .i64) ew33,trivial⟩,⟨rfl,rfl,trivial⟩,rfl,by omega,same_next (f := fun x : SV => x.x) hy37 hy42 h44 heq,rfl⟩
   ·replace h25 : ¬ ((a.l.length : Int) = (b.l.length : Int)) := bne_iff_ne.1 h25
    refine ⟨_,rfl,?_⟩
    refine Cm 2 st [Ml 2 0,Ml 3 1,(4,vB false),(26,vB true)] [(2,0,[vI a.cap,vI a.frm,vS a.p a.l.length]),(3,1,[vI b.cap,vI b.frm,vS b.p b.l.length])] fun _ _ => ?_
    exact cxs (Rt ⟨false,rfl,⟨fun h => absurd h Bool.false_ne_true,fun h => (show False from (absurd (congrArg (fun g : Lg => (g.list.length : Int)) h) (by simpa using h25))).elim⟩,rfl⟩)
  ·replace h16 : ¬ (a.frm = b.frm) := bne_iff_ne.1 h16
   iterate 2 refine ⟨_,rfl,?_⟩
   refine Cm 2 st [Ml 2 0,Ml 3 1,(4,vB false),(26,vB true)] [(2,0,[vI a.cap,vI a.frm,vS a.p a.l.length]),(3,1,[vI b.cap,vI b.frm,vS b.p b.l.length])] fun _ _ => ?_
   exact cxs (Rt ⟨false,rfl,⟨fun h => absurd h Bool.false_ne_true,fun h => (show False from (absurd (congrArg Lg.frm h) h16)).elim⟩,rfl⟩)
 ·replace h10 : ¬ (a.cap = b.cap) := bne_iff_ne.1 h10
  iterate 2 refine ⟨_,rfl,?_⟩
  refine Cm 2 st [Ml 2 0,Ml 3 1,(4,vB false),(26,vB true)] [(2,0,[vI a.cap,vI a.frm,vS a.p a.l.length]),(3,1,[vI b.cap,vI b.frm,vS b.p b.l.length])] fun _ _ => ?_
  exact cxs (Rt ⟨false,rfl,⟨fun h => absurd h Bool.false_ne_true,fun h => (show False from (absurd (congrArg Lg.cap h) h10)).elim⟩,rfl⟩)
theorem nd_ext {a b : Nd} (h1 : a.id = b.id) (h2 : a.n = b.n) (h3 : a.s = b.s) (h4 : a.t = b.t) (h5 : a.g = b.g) (h6 : a.got = b.got) (h7 : a.acked = b.acked) (h8 : a.seen = b.seen) (h9 : a.num = b.num) (h10 : a.slots = b.slots) (h11 : a.sess = b.sess) (h12 : a.wait = b.wait) (h13 : a.limit = b.limit) (h14 : a.clock = b.clock) (h15 : a.rises = b.rises) : a = b := by
 cases a; cases b; simp only at h1 h2 h3 h4 h5 h6 h7 h8 h9 h10 h11 h12 h13 h14 h15; rw [h1,h2,h3,h4,h5,h6,h7,h8,h9,h10,h11,h12,h13,h14,h15]
theorem ac_spec_NodeSame (a b : NV) (st : St) (hA : RdN st a) (hB : RdN st b) (hb : bigN a.x) : C 25 [(vNV a),(vNV b)] st (fun v s => ∃ x,v = .bool x ∧ (x = true ↔ a.x = b.x) ∧ s = st) := by
 have hs1 : a.seen.t.length ≤ 1048576 := (bigT_iff.1 hb.seen).1
 have hs2 : a.sess.l.length ≤ 1048576 := hb.sess
 have hs3 : a.rises.l.length ≤ 1048576 := hb.rises
 have hs4 := (bigT_iff.1 hb.seen).2
 refine AC.enterX (i := ⟨[2,3],[2,3,8,10,14,16,21,23,29,31,37,39,45,47,53,55,61,64,69,71,75,77,82,84,89,91,96,98,103,106,112,115,121,127,132,140,146,151,158,164,169],[0,1,2,3,4,5,6,7,68,119,124,138,143,156,161,174],[]⟩) [(8,[],[]),(13,[],[]),(18,[],[])] Tryz.func25 rfl rfl (by kernel_rfl) (by kernel_rfl) Tryz.ntmps25 (Lb rfl) rfl ?_
 iterate 2 refine ⟨_,rfl,?_⟩
 refine Cm 2 st [Ml 2 0,Ml 3 1,(4,vB false)] [(2,0,cNV a),(3,1,cNV b)] fun _ _ => ?_
 refine ⟨_,rfl,?_⟩
 refine ⟨_,Od rfl,?_⟩
 refine ⟨_,rfl,?_⟩
 refine ⟨_,Od rfl,?_⟩
 refine ⟨_,rfl,?_⟩
 rintro (_|_) h12
 ·replace h12 : a.id = b.id := bne_eq_false_iff_eq.1 h12
  refine ⟨_,rfl,?_⟩
  refine ⟨_,Od rfl,?_⟩
  refine ⟨_,rfl,?_⟩
  refine ⟨_,Od rfl,?_⟩
  refine ⟨_,rfl,?_⟩
  rintro (_|_) h18
  ·replace h18 : a.n = b.n := bne_eq_false_iff_eq.1 h18
   iterate 2 refine ⟨_,rfl,?_⟩
   refine ⟨_,Od rfl,?_⟩
   refine ⟨_,rfl,?_⟩
   refine ⟨_,Od rfl,?_⟩
   refine ⟨_,rfl,(ac_spec_StateSame a.s b.s st hA.s hB.s (hb.s)).mono ?_⟩
   rintro _ st ⟨x25,rfl,h25,rfl⟩
   rcases x25 with _|_
   ·replace h25 := fun k => Bool.false_ne_true (h25.2 k)
    refine ow_cut [(2,vL 2 0 (0)),(3,vL 3 0 (1)),(4,vB false),(20,vB false),(25,vB false)] ⟨rfl,rfl,rfl,rfl,rfl,trivial⟩ fun _ => ?_
    iterate 4 refine ⟨_,rfl,?_⟩
    refine ow_cut [(2,vL 2 0 (0)),(3,vL 3 0 (1)),(4,vB false),(43,vB true)] ⟨rfl,rfl,rfl,rfl,trivial⟩ fun _ => ?_
    iterate 3 refine ⟨_,rfl,?_⟩
    refine Cm 2 st [Ml 2 0,Ml 3 1,(4,vB false),(68,vB true)] [(2,0,cNV a),(3,1,cNV b)] fun _ _ => ?_
    exact cxs (Rt ⟨false,rfl,⟨fun h => absurd h Bool.false_ne_true,fun h => (show False from (absurd (congrArg Nd.s h) h25)).elim⟩,rfl⟩)
   ·replace h25 := h25.1 rfl
    refine ow_cut [(2,vL 2 0 (0)),(3,vL 3 0 (1)),(4,vB false),(20,vB false),(25,vB true)] ⟨rfl,rfl,rfl,rfl,rfl,trivial⟩ fun _ => ?_
    iterate 3 refine ⟨_,rfl,?_⟩
    refine ⟨_,Od rfl,?_⟩
    refine ⟨_,rfl,?_⟩
    refine ⟨_,Od rfl,?_⟩
    refine ⟨_,rfl,(ac_spec_l11Tree a.t b.t st hA.t hB.t (hb.t)).mono ?_⟩
    rintro _ st ⟨x33,rfl,h33,rfl⟩
    rcases x33 with _|_
    ·replace h33 := fun k => Bool.false_ne_true (h33.2 k)
     iterate 3 refine ⟨_,rfl,?_⟩
     refine ow_cut [(2,vL 2 0 (0)),(3,vL 3 0 (1)),(4,vB false),(43,vB true)] ⟨rfl,rfl,rfl,rfl,trivial⟩ fun _ => ?_
     iterate 3 refine ⟨_,rfl,?_⟩
     refine Cm 2 st [Ml 2 0,Ml 3 1,(4,vB false),(68,vB true)] [(2,0,cNV a),(3,1,cNV b)] fun _ _ => ?_
     exact cxs (Rt ⟨false,rfl,⟨fun h => absurd h Bool.false_ne_true,fun h => (show False from (absurd (congrArg Nd.t h) h33)).elim⟩,rfl⟩)
    ·replace h33 := h33.1 rfl
     iterate 3 refine ⟨_,rfl,?_⟩
     refine ⟨_,Od rfl,?_⟩
     refine ⟨_,rfl,?_⟩
     refine ⟨_,Od rfl,?_⟩
     refine ⟨_,rfl,(ac_spec_l11Logs a.g b.g st hA.g hB.g (bigLog_iff.1 hb.g)).mono ?_⟩
     rintro _ st ⟨x41,rfl,h41,rfl⟩
     rcases x41 with _|_
     ·replace h41 := fun k => Bool.false_ne_true (h41.2 k)
      iterate 2 refine ⟨_,rfl,?_⟩
      refine ow_cut [(2,vL 2 0 (0)),(3,vL 3 0 (1)),(4,vB false),(43,vB true)] ⟨rfl,rfl,rfl,rfl,trivial⟩ fun _ => ?_
      iterate 3 refine ⟨_,rfl,?_⟩
      refine Cm 2 st [Ml 2 0,Ml 3 1,(4,vB false),(68,vB true)] [(2,0,cNV a),(3,1,cNV b)] fun _ _ => ?_
      exact cxs (Rt ⟨false,rfl,⟨fun h => absurd h Bool.false_ne_true,fun h => (show False from (absurd (congrArg Nd.g h) h41)).elim⟩,rfl⟩)
     ·replace h41 := h41.1 rfl
      iterate 2 refine ⟨_,rfl,?_⟩
      refine ow_cut [(2,vL 2 0 (0)),(3,vL 3 0 (1)),(4,vB false),(43,vB false)] ⟨rfl,rfl,rfl,rfl,trivial⟩ fun _ => ?_
      refine ⟨_,rfl,?_⟩
      refine ⟨_,Od rfl,?_⟩
      refine ⟨_,rfl,?_⟩
      refine ⟨_,Od rfl,?_⟩
      refine ⟨_,rfl,(ac_spec_l1Same a.got.p b.got.p a.got.l b.got.l st hA.got hB.got (hb.got)).mono ?_⟩
      rintro _ st ⟨x49,rfl,h49,rfl⟩
      rcases x49 with _|_
      ·replace h49 := fun k => Bool.false_ne_true (h49.2 k)
       iterate 4 refine ⟨_,rfl,?_⟩
       refine Cm 2 st [Ml 2 0,Ml 3 1,(4,vB false),(68,vB true)] [(2,0,cNV a),(3,1,cNV b)] fun _ _ => ?_
       exact cxs (Rt ⟨false,rfl,⟨fun h => absurd h Bool.false_ne_true,fun h => (show False from (absurd (congrArg Nd.got h) h49)).elim⟩,rfl⟩)
      ·replace h49 := h49.1 rfl
       iterate 3 refine ⟨_,rfl,?_⟩
       refine ⟨_,Od rfl,?_⟩
       refine ⟨_,rfl,?_⟩
       refine ⟨_,Od rfl,?_⟩
       refine ⟨_,rfl,(ac_spec_l1Same a.acked.p b.acked.p a.acked.l b.acked.l st hA.acked hB.acked (hb.acked)).mono ?_⟩
       rintro _ st ⟨x57,rfl,h57,rfl⟩
       rcases x57 with _|_
       ·replace h57 := fun k => Bool.false_ne_true (h57.2 k)
        iterate 3 refine ⟨_,rfl,?_⟩
        refine Cm 2 st [Ml 2 0,Ml 3 1,(4,vB false),(68,vB true)] [(2,0,cNV a),(3,1,cNV b)] fun _ _ => ?_
        exact cxs (Rt ⟨false,rfl,⟨fun h => absurd h Bool.false_ne_true,fun h => (show False from (absurd (congrArg Nd.acked h) h57)).elim⟩,rfl⟩)
       ·replace h57 := h57.1 rfl
        iterate 3 refine ⟨_,rfl,?_⟩
        refine ⟨_,Od rfl,?_⟩
        iterate 2 refine ⟨_,rfl,?_⟩
        refine ⟨_,Od rfl,?_⟩
        iterate 2 refine ⟨_,rfl,?_⟩
        rintro (_|_) h67
        ·replace h67 : (a.seen.t.length : Int) = (b.seen.t.length : Int) := bne_eq_false_iff_eq.1 h67
         refine ⟨_,rfl,?_⟩
         refine Cm 2 st [Ml 2 0,Ml 3 1,(4,vB false),(68,vB false)] [(2,0,cNV a),(3,1,cNV b)] fun _ _ => ?_
         refine cxs ?_
         refine ⟨_,rfl,?_⟩
         refine ⟨_,Od rfl,?_⟩
         refine ⟨_,rfl,?_⟩
         refine ⟨_,Od rfl,?_⟩
         refine ⟨_,rfl,?_⟩
         rintro (_|_) h73
         ·replace h73 : a.num = b.num := bne_eq_false_iff_eq.1 h73
          refine ⟨_,rfl,?_⟩
          refine ⟨_,Od rfl,?_⟩
          refine ⟨_,rfl,?_⟩
          refine ⟨_,Od rfl,?_⟩
          refine ⟨_,rfl,?_⟩
          rintro (_|_) h79
          ·replace h79 : a.slots = b.slots := bne_eq_false_iff_eq.1 h79
           iterate 2 refine ⟨_,rfl,?_⟩
           refine ⟨_,Od rfl,?_⟩
           refine ⟨_,rfl,?_⟩
           refine ⟨_,Od rfl,?_⟩
           refine ⟨_,rfl,?_⟩
           rintro (_|_) h86
           ·replace h86 : a.wait = b.wait := bne_eq_false_iff_eq.1 h86
            refine ow_cut [(2,vL 2 0 (0)),(3,vL 3 0 (1)),(4,vB false),(81,vB false),(86,vB false)] ⟨rfl,rfl,rfl,rfl,rfl,trivial⟩ fun _ => ?_
            iterate 2 refine ⟨_,rfl,?_⟩
            refine ⟨_,Od rfl,?_⟩
            refine ⟨_,rfl,?_⟩
            refine ⟨_,Od rfl,?_⟩
            refine ⟨_,rfl,?_⟩
            rintro (_|_) h93
            ·replace h93 : a.limit = b.limit := bne_eq_false_iff_eq.1 h93
             iterate 2 refine ⟨_,rfl,?_⟩
             refine ⟨_,Od rfl,?_⟩
             refine ⟨_,rfl,?_⟩
             refine ⟨_,Od rfl,?_⟩
             refine ⟨_,rfl,?_⟩
             rintro (_|_) h100
             ·replace h100 : a.clock = b.clock := bne_eq_false_iff_eq.1 h100
              iterate 2 refine ⟨_,rfl,?_⟩
              refine ⟨_,Od rfl,?_⟩
              refine ow_cut [(2,vL 2 0 (0)),(3,vL 3 0 (1)),(4,vB false),(102,vB false),(104,vS a.sess.p a.sess.l.length)] ⟨rfl,rfl,rfl,rfl,rfl,trivial⟩ fun _ => ?_
              iterate 2 refine ⟨_,rfl,?_⟩
              refine ⟨_,Od rfl,?_⟩
              iterate 2 refine ⟨_,rfl,?_⟩
              rintro (_|_) h109
              ·replace h109 : (a.sess.l.length : Int) = (b.sess.l.length : Int) := bne_eq_false_iff_eq.1 h109
               iterate 2 refine ⟨_,rfl,?_⟩
               refine ⟨_,Od rfl,?_⟩
               iterate 2 refine ⟨_,rfl,?_⟩
               refine ⟨_,Od rfl,?_⟩
               iterate 2 refine ⟨_,rfl,?_⟩
               rintro (_|_) h118
               ·replace h118 : (a.rises.l.length : Int) = (b.rises.l.length : Int) := bne_eq_false_iff_eq.1 h118
                refine ⟨_,rfl,?_⟩
                refine Cm 2 st [Ml 2 0,Ml 3 1,(4,vB false),(119,vB false)] [(2,0,cNV a),(3,1,cNV b)] fun _ _ => ?_
                refine cxs ?_
                refine Cm 2 st [Ml 2 0,Ml 3 1,(4,vB false),(5,vI 0)] [(2,0,cNV a),(3,1,cNV b)] fun _ _ => ?_
                refine AW.loopM (fun i : Nat => [(2,vL 2 0 (0)),(3,vL 3 0 (1)),(5,vI (i : Int))]) (fun i : Nat => [(2,0,cNV a),(3,1,cNV b)]) (fun m (i : Nat) st' => m = a.seen.t.length - i ∧ i ≤ a.seen.t.length ∧ (∀ (j : Nat) x y,j < i → a.seen.t[j]? = some x → b.seen.t[j]? = some y → x.l = y.l) ∧ st = st') 0 _ ⟨rfl,rfl,rfl,trivial⟩ ⟨rfl,rfl,trivial⟩ ⟨rfl,Nat.zero_le _,fun j x y h => absurd h (Nat.not_lt_zero _),rfl⟩ ?_
                rintro m i ρ0 ff gg st' ⟨rfl,hi,heq,rfl⟩
                refine ⟨_,rfl,?_⟩
                refine ⟨_,Od rfl,?_⟩
                iterate 2 refine ⟨_,rfl,?_⟩
                rintro (_|_) h124
                ·replace h124 : ¬ ((i : Int) < (a.seen.t.length : Int)) := of_decide_eq_false h124
                 refine Cm gg st [Ml 2 0,Ml 3 1,(5,vI (i : Int)),(124,vB false)] [(2,0,cNV a),(3,1,cNV b)] fun _ _ => ?_
                 have hI : rls a.seen.t = rls b.seen.t := map_same (by omega) fun j x y hj hx hy => heq j x y (by omega) hx hy
                 clear heq
                 refine cxs ?_
                 refine Cm gg st [Ml 2 0,Ml 3 1,(6,vI 0)] [(2,0,cNV a),(3,1,cNV b)] fun _ _ => ?_
                 refine AW.loopM (fun i : Nat => [(2,vL 2 0 (0)),(3,vL 3 0 (1)),(6,vI (i : Int))]) (fun i : Nat => [(2,0,cNV a),(3,1,cNV b)]) (fun m (i : Nat) st' => m = a.sess.l.length - i ∧ i ≤ a.sess.l.length ∧ (∀ (j : Nat) x y,j < i → a.sess.l[j]? = some x → b.sess.l[j]? = some y → x = y) ∧ st = st') 0 _ ⟨rfl,rfl,rfl,trivial⟩ ⟨rfl,rfl,trivial⟩ ⟨rfl,Nat.zero_le _,fun j x y h => absurd h (Nat.not_lt_zero _),rfl⟩ ?_
                 rintro m i ρ0 ff gg st' ⟨rfl,hi,heq,rfl⟩
                 refine ⟨_,rfl,?_⟩
                 refine ⟨_,Od rfl,?_⟩
                 iterate 2 refine ⟨_,rfl,?_⟩
                 rintro (_|_) h143
                 ·replace h143 : ¬ ((i : Int) < (a.sess.l.length : Int)) := of_decide_eq_false h143
                  refine Cm gg st [Ml 2 0,Ml 3 1,(6,vI (i : Int)),(143,vB false)] [(2,0,cNV a),(3,1,cNV b)] fun _ _ => ?_
                  have hI2 : a.sess.l = b.sess.l := iff_lists (by omega) fun j x y hj hx hy => heq j x y (by omega) hx hy
                  clear heq
                  refine cxs ?_
                  refine Cm gg st [Ml 2 0,Ml 3 1,(7,vI 0)] [(2,0,cNV a),(3,1,cNV b)] fun _ _ => ?_
                  refine AW.loopM (fun i : Nat => [(2,vL 2 0 (0)),(3,vL 3 0 (1)),(7,vI (i : Int))]) (fun i : Nat => [(2,0,cNV a),(3,1,cNV b)]) (fun m (i : Nat) st' => m = a.rises.l.length - i ∧ i ≤ a.rises.l.length ∧ (∀ (j : Nat) x y,j < i → a.rises.l[j]? = some x → b.rises.l[j]? = some y → x = y) ∧ st = st') 0 _ ⟨rfl,rfl,rfl,trivial⟩ ⟨rfl,rfl,trivial⟩ ⟨rfl,Nat.zero_le _,fun j x y h => absurd h (Nat.not_lt_zero _),rfl⟩ ?_
                  rintro m i ρ0 ff gg st' ⟨rfl,hi,heq,rfl⟩
                  refine ⟨_,rfl,?_⟩
                  refine ⟨_,Od rfl,?_⟩
                  iterate 2 refine ⟨_,rfl,?_⟩
                  rintro (_|_) h161
                  ·replace h161 : ¬ ((i : Int) < (a.rises.l.length : Int)) := of_decide_eq_false h161
                   refine Cm gg st [Ml 2 0,Ml 3 1,(7,vI (i : Int)),(161,vB false)] [(2,0,cNV a),(3,1,cNV b)] fun _ _ => ?_
                   have hI3 : a.rises.l = b.rises.l := iff_lists (by omega) fun j x y hj hx hy => heq j x y (by omega) hx hy
                   refine cxs ?_
                   exact cxs (Rt ⟨true,rfl,⟨fun _ => nd_ext h12 h18 h25 h33 h41 h49 h57 hI h73 h79 hI2 h86 h93 h100 hI3,fun _ => rfl⟩,rfl⟩)
                  ·replace h161 : (i : Int) < (a.rises.l.length : Int) := of_decide_eq_true h161
                   refine Cm gg st [Ml 2 0,Ml 3 1,(7,vI (i : Int)),(161,vB true)] [(2,0,cNV a),(3,1,cNV b)] fun _ _ => ?_
                   refine cxs ?_
                   refine ⟨_,rfl,?_⟩
                   refine ⟨_,Od rfl,?_⟩
                   refine op_at i hA.rises (by omega) rfl rfl rfl rfl rfl rfl rfl ?_
                   intro x167 b167 d167 k167 hy167 hb167 hm167 hc167 ho167
                   refine ⟨_,op_lda rfl rfl rfl rfl rfl hm167 hc167 rfl,?_⟩
                   refine ⟨_,rfl,?_⟩
                   refine ⟨_,Od rfl,?_⟩
                   refine op_at i hB.rises (by omega) rfl rfl rfl rfl rfl rfl rfl ?_
                   intro x172 b172 d172 k172 hy172 hb172 hm172 hc172 ho172
                   refine ⟨_,op_lda rfl rfl rfl rfl rfl hm172 hc172 rfl,?_⟩
                   refine cmpS (neq_Rise x167 x172) ?_
                   rintro (_|_) h174
                   ·replace h174 : x167 = x172 := Classical.byContradiction fun k => Bool.false_ne_true (h174.2 k)
                    refine Cm gg st [Ml 2 0,Ml 3 1,(7,vI (i : Int)),(161,vB true),(174,vB false)] [(2,0,cNV a),(3,1,cNV b)] fun _ _ => ?_
                    refine cxs ?_
                    have ew163 : IntKind.wrap .i64 ((i : Int) + (1)) = ((i + 1 : Nat) : Int) := (wrap_i64 (by omega) (by omega)).trans (by omega)
                    refine ⟨_,rfl,?_⟩
                    exact ⟨i + 1,a.rises.l.length - (i + 1),by omega,⟨rfl,rfl,congrArg (Value.int .i64) ew163,trivial⟩,⟨rfl,rfl,trivial⟩,rfl,by omega,same_next (f := fun x => x) hy167 hy172 h174 heq,rfl⟩
                   ·replace h174 : ¬ x167 = x172 := h174.1 rfl
                    refine Cm gg st [Ml 2 0,Ml 3 1,(7,vI (i : Int)),(161,vB true),(174,vB true)] [(2,0,cNV a),(3,1,cNV b)] fun _ _ => ?_
                    exact cxs (Rt ⟨false,rfl,⟨fun h => absurd h Bool.false_ne_true,fun h => (show False from (absurd (same_at hy167 hy172 (congrArg Nd.rises h)) h174)).elim⟩,rfl⟩)
                 ·replace h143 : (i : Int) < (a.sess.l.length : Int) := of_decide_eq_true h143
                  refine Cm gg st [Ml 2 0,Ml 3 1,(6,vI (i : Int)),(143,vB true)] [(2,0,cNV a),(3,1,cNV b)] fun _ _ => ?_
                  refine cxs ?_
                  refine ⟨_,rfl,?_⟩
                  refine ⟨_,Od rfl,?_⟩
                  refine op_at i hA.sess (by omega) rfl rfl rfl rfl rfl rfl rfl ?_
                  intro x149 b149 d149 k149 hy149 hb149 hm149 hc149 ho149
                  refine ⟨_,op_lda rfl rfl rfl rfl rfl hm149 hc149 rfl,?_⟩
                  refine ⟨_,rfl,?_⟩
                  refine ⟨_,Od rfl,?_⟩
                  refine op_at i hB.sess (by omega) rfl rfl rfl rfl rfl rfl rfl ?_
                  intro x154 b154 d154 k154 hy154 hb154 hm154 hc154 ho154
                  refine ⟨_,op_lda rfl rfl rfl rfl rfl hm154 hc154 rfl,?_⟩
                  refine cmpS (neq_Sess x149 x154) ?_
                  rintro (_|_) h156
                  ·replace h156 : x149 = x154 := Classical.byContradiction fun k => Bool.false_ne_true (h156.2 k)
                   refine Cm gg st [Ml 2 0,Ml 3 1,(6,vI (i : Int)),(143,vB true),(156,vB false)] [(2,0,cNV a),(3,1,cNV b)] fun _ _ => ?_
                   refine cxs ?_
                   have ew145 : IntKind.wrap .i64 ((i : Int) + (1)) = ((i + 1 : Nat) : Int) := (wrap_i64 (by omega) (by omega)).trans (by omega)
                   refine ⟨_,rfl,?_⟩
                   exact ⟨i + 1,a.sess.l.length - (i + 1),by omega,⟨rfl,rfl,congrArg (Value.int .i64) ew145,trivial⟩,⟨rfl,rfl,trivial⟩,rfl,by omega,same_next (f := fun x => x) hy149 hy154 h156 heq,rfl⟩
                  ·replace h156 : ¬ x149 = x154 := h156.1 rfl
                   refine Cm gg st [Ml 2 0,Ml 3 1,(6,vI (i : Int)),(143,vB true),(156,vB true)] [(2,0,cNV a),(3,1,cNV b)] fun _ _ => ?_
                   exact cxs (Rt ⟨false,rfl,⟨fun h => absurd h Bool.false_ne_true,fun h => (show False from (absurd (same_at hy149 hy154 (congrArg Nd.sess h)) h156)).elim⟩,rfl⟩)
                ·replace h124 : (i : Int) < (a.seen.t.length : Int) := of_decide_eq_true h124
                 refine Cm gg st [Ml 2 0,Ml 3 1,(5,vI (i : Int)),(124,vB true)] [(2,0,cNV a),(3,1,cNV b)] fun _ _ => ?_
                 refine cxs ?_
                 refine ⟨_,rfl,?_⟩
                 refine ⟨_,Od rfl,?_⟩
                 refine op_at i hA.seen.1 (by omega) rfl rfl rfl rfl rfl rfl rfl ?_
                 intro x130 b130 d130 k130 hy130 hb130 hm130 hc130 ho130
                 refine ⟨_,op_ldc (i := 0) rfl rfl rfl rfl hm130 hc130 rfl rfl,?_⟩
                 refine ⟨_,rfl,?_⟩
                 refine ⟨_,Od rfl,?_⟩
                 refine op_at i hB.seen.1 (by omega) rfl rfl rfl rfl rfl rfl rfl ?_
                 intro x135 b135 d135 k135 hy135 hb135 hm135 hc135 ho135
                 refine ⟨_,op_ldc (i := 0) rfl rfl rfl rfl hm135 hc135 rfl rfl,?_⟩
                 refine ⟨_,rfl,(ac_spec_l1Same x130.p x135.p x130.l x135.l st (hA.seen.2 x130 (List.mem_of_getElem? hy130)) (hB.seen.2 x135 (List.mem_of_getElem? hy135)) (hs4 x130 (List.mem_of_getElem? hy130))).mono ?_⟩
                 rintro _ st ⟨x137,rfl,h137,rfl⟩
                 rcases x137 with _|_
                 ·replace h137 := fun k => Bool.false_ne_true (h137.2 k)
                  refine ⟨_,rfl,?_⟩
                  refine Cm gg st [Ml 2 0,Ml 3 1,(5,vI (i : Int)),(124,vB true),(138,vB true)] [(2,0,cNV a),(3,1,cNV b)] fun _ _ => ?_
                  exact cxs (Rt ⟨false,rfl,⟨fun h => absurd h Bool.false_ne_true,fun h => (show False from (absurd (map_at (f := fun r : RV => r.l) hy130 hy135 (congrArg Nd.seen h)) h137)).elim⟩,rfl⟩)
                 ·replace h137 := h137.1 rfl
                  refine ⟨_,rfl,?_⟩
                  refine Cm gg st [Ml 2 0,Ml 3 1,(5,vI (i : Int)),(124,vB true),(138,vB false)] [(2,0,cNV a),(3,1,cNV b)] fun _ _ => ?_
                  refine cxs ?_
                  have ew126 : IntKind.wrap .i64 ((i : Int) + (1)) = ((i + 1 : Nat) : Int) := (wrap_i64 (by omega) (by omega)).trans (by omega)
                  refine ⟨_,rfl,?_⟩
                  exact ⟨i + 1,a.seen.t.length - (i + 1),by omega,⟨rfl,rfl,congrArg (Value.int .i64) ew126,trivial⟩,⟨rfl,rfl,trivial⟩,rfl,by omega,same_next (f := fun r : RV => r.l) hy130 hy135 h137 heq,rfl⟩
               ·replace h118 : ¬ ((a.rises.l.length : Int) = (b.rises.l.length : Int)) := bne_iff_ne.1 h118
                refine ⟨_,rfl,?_⟩
                refine Cm 2 st [Ml 2 0,Ml 3 1,(4,vB false),(119,vB true)] [(2,0,cNV a),(3,1,cNV b)] fun _ _ => ?_
                exact cxs (Rt ⟨false,rfl,⟨fun h => absurd h Bool.false_ne_true,fun h => (show False from (absurd (congrArg (fun n : Nd => (n.rises.length : Int)) h) h118)).elim⟩,rfl⟩)
              ·replace h109 : ¬ ((a.sess.l.length : Int) = (b.sess.l.length : Int)) := bne_iff_ne.1 h109
               iterate 2 refine ⟨_,rfl,?_⟩
               refine Cm 2 st [Ml 2 0,Ml 3 1,(4,vB false),(119,vB true)] [(2,0,cNV a),(3,1,cNV b)] fun _ _ => ?_
               exact cxs (Rt ⟨false,rfl,⟨fun h => absurd h Bool.false_ne_true,fun h => (show False from (absurd (congrArg (fun n : Nd => (n.sess.length : Int)) h) h109)).elim⟩,rfl⟩)
             ·replace h100 : ¬ (a.clock = b.clock) := bne_iff_ne.1 h100
              iterate 2 refine ⟨_,rfl,?_⟩
              refine ow_cut [(2,vL 2 0 (0)),(3,vL 3 0 (1)),(4,vB false),(110,vB true)] ⟨rfl,rfl,rfl,rfl,trivial⟩ fun _ => ?_
              refine ⟨_,rfl,?_⟩
              refine Cm 2 st [Ml 2 0,Ml 3 1,(4,vB false),(119,vB true)] [(2,0,cNV a),(3,1,cNV b)] fun _ _ => ?_
              exact cxs (Rt ⟨false,rfl,⟨fun h => absurd h Bool.false_ne_true,fun h => (show False from (absurd (congrArg Nd.clock h) h100)).elim⟩,rfl⟩)
            ·replace h93 : ¬ (a.limit = b.limit) := bne_iff_ne.1 h93
             iterate 3 refine ⟨_,rfl,?_⟩
             refine ow_cut [(2,vL 2 0 (0)),(3,vL 3 0 (1)),(4,vB false),(110,vB true)] ⟨rfl,rfl,rfl,rfl,trivial⟩ fun _ => ?_
             refine ⟨_,rfl,?_⟩
             refine Cm 2 st [Ml 2 0,Ml 3 1,(4,vB false),(119,vB true)] [(2,0,cNV a),(3,1,cNV b)] fun _ _ => ?_
             exact cxs (Rt ⟨false,rfl,⟨fun h => absurd h Bool.false_ne_true,fun h => (show False from (absurd (congrArg Nd.limit h) h93)).elim⟩,rfl⟩)
           ·replace h86 : ¬ (a.wait = b.wait) := bne_iff_ne.1 h86
            refine ow_cut [(2,vL 2 0 (0)),(3,vL 3 0 (1)),(4,vB false),(81,vB false),(86,vB true)] ⟨rfl,rfl,rfl,rfl,rfl,trivial⟩ fun _ => ?_
            iterate 4 refine ⟨_,rfl,?_⟩
            refine ow_cut [(2,vL 2 0 (0)),(3,vL 3 0 (1)),(4,vB false),(110,vB true)] ⟨rfl,rfl,rfl,rfl,trivial⟩ fun _ => ?_
            refine ⟨_,rfl,?_⟩
            refine Cm 2 st [Ml 2 0,Ml 3 1,(4,vB false),(119,vB true)] [(2,0,cNV a),(3,1,cNV b)] fun _ _ => ?_
            exact cxs (Rt ⟨false,rfl,⟨fun h => absurd h Bool.false_ne_true,fun h => (show False from (absurd (congrArg Nd.wait h) h86)).elim⟩,rfl⟩)
          ·replace h79 : ¬ (a.slots = b.slots) := bne_iff_ne.1 h79
           iterate 2 refine ⟨_,rfl,?_⟩
           refine ow_cut [(2,vL 2 0 (0)),(3,vL 3 0 (1)),(4,vB false),(87,vB true)] ⟨rfl,rfl,rfl,rfl,trivial⟩ fun _ => ?_
           iterate 3 refine ⟨_,rfl,?_⟩
           refine ow_cut [(2,vL 2 0 (0)),(3,vL 3 0 (1)),(4,vB false),(110,vB true)] ⟨rfl,rfl,rfl,rfl,trivial⟩ fun _ => ?_
           refine ⟨_,rfl,?_⟩
           refine Cm 2 st [Ml 2 0,Ml 3 1,(4,vB false),(119,vB true)] [(2,0,cNV a),(3,1,cNV b)] fun _ _ => ?_
           exact cxs (Rt ⟨false,rfl,⟨fun h => absurd h Bool.false_ne_true,fun h => (show False from (absurd (congrArg Nd.slots h) h79)).elim⟩,rfl⟩)
         ·replace h73 : ¬ (a.num = b.num) := bne_iff_ne.1 h73
          iterate 2 refine ⟨_,rfl,?_⟩
          refine ow_cut [(2,vL 2 0 (0)),(3,vL 3 0 (1)),(4,vB false),(87,vB true)] ⟨rfl,rfl,rfl,rfl,trivial⟩ fun _ => ?_
          iterate 3 refine ⟨_,rfl,?_⟩
          refine ow_cut [(2,vL 2 0 (0)),(3,vL 3 0 (1)),(4,vB false),(110,vB true)] ⟨rfl,rfl,rfl,rfl,trivial⟩ fun _ => ?_
          refine ⟨_,rfl,?_⟩
          refine Cm 2 st [Ml 2 0,Ml 3 1,(4,vB false),(119,vB true)] [(2,0,cNV a),(3,1,cNV b)] fun _ _ => ?_
          exact cxs (Rt ⟨false,rfl,⟨fun h => absurd h Bool.false_ne_true,fun h => (show False from (absurd (congrArg Nd.num h) h73)).elim⟩,rfl⟩)
        ·replace h67 : ¬ ((a.seen.t.length : Int) = (b.seen.t.length : Int)) := bne_iff_ne.1 h67
         refine ⟨_,rfl,?_⟩
         refine Cm 2 st [Ml 2 0,Ml 3 1,(4,vB false),(68,vB true)] [(2,0,cNV a),(3,1,cNV b)] fun _ _ => ?_
         exact cxs (Rt ⟨false,rfl,⟨fun h => absurd h Bool.false_ne_true,fun h => (show False from (absurd (congrArg (fun n : Nd => (n.seen.length : Int)) h) (by simpa using h67))).elim⟩,rfl⟩)
  ·replace h18 : ¬ (a.n = b.n) := bne_iff_ne.1 h18
   iterate 2 refine ⟨_,rfl,?_⟩
   refine ow_cut [(2,vL 2 0 (0)),(3,vL 3 0 (1)),(4,vB false),(27,vB true)] ⟨rfl,rfl,rfl,rfl,trivial⟩ fun _ => ?_
   iterate 3 refine ⟨_,rfl,?_⟩
   refine ow_cut [(2,vL 2 0 (0)),(3,vL 3 0 (1)),(4,vB false),(51,vB true)] ⟨rfl,rfl,rfl,rfl,trivial⟩ fun _ => ?_
   iterate 2 refine ⟨_,rfl,?_⟩
   refine Cm 2 st [Ml 2 0,Ml 3 1,(4,vB false),(68,vB true)] [(2,0,cNV a),(3,1,cNV b)] fun _ _ => ?_
   exact cxs (Rt ⟨false,rfl,⟨fun h => absurd h Bool.false_ne_true,fun h => (show False from (absurd (congrArg Nd.n h) h18)).elim⟩,rfl⟩)
 ·replace h12 : ¬ (a.id = b.id) := bne_iff_ne.1 h12
  iterate 2 refine ⟨_,rfl,?_⟩
  refine ow_cut [(2,vL 2 0 (0)),(3,vL 3 0 (1)),(4,vB false),(27,vB true)] ⟨rfl,rfl,rfl,rfl,trivial⟩ fun _ => ?_
  iterate 3 refine ⟨_,rfl,?_⟩
  refine ow_cut [(2,vL 2 0 (0)),(3,vL 3 0 (1)),(4,vB false),(51,vB true)] ⟨rfl,rfl,rfl,rfl,trivial⟩ fun _ => ?_
  iterate 2 refine ⟨_,rfl,?_⟩
  refine Cm 2 st [Ml 2 0,Ml 3 1,(4,vB false),(68,vB true)] [(2,0,cNV a),(3,1,cNV b)] fun _ _ => ?_
  exact cxs (Rt ⟨false,rfl,⟨fun h => absurd h Bool.false_ne_true,fun h => (show False from (absurd (congrArg Nd.id h) h12)).elim⟩,rfl⟩)
def slotF : List Ses → Int → Bool → Nat → Int
 | [],_,_,_ => -1
 | x :: l,p,b,k => if x.peer = p ∧ x.inn = b then (k : Int) else slotF l p b (k + 1)
theorem ac_impl_Slot (g : NV) (p : Int) (b : Bool) (st : St) (hR : RdN st g) (hb : bigN g.x) : C 33 [(vNV g),vI p,vB b] st (fun v s => v = vI (slotF g.sess.l p b 0) ∧ s = st) := by
 have hs : g.sess.l.length ≤ 1048576 := hb.sess
 refine AC.enterX (i := ⟨[3,8],[3,8,9,17,22],[0,1,2,3,6,7,8,10,11,12,13,26],[]⟩) [] Tryz.func33 rfl rfl (by kernel_rfl) (by kernel_rfl) Tryz.ntmps33 (Lb rfl) rfl ?_
 refine ⟨_,rfl,?_⟩
 refine Cm 1 st [(1,vI p),(2,vB b),Ml 3 0,(6,vI 0)] [(3,0,cNV g)] fun _ _ => ?_
 refine ⟨_,rfl,?_⟩
 refine ⟨_,Od rfl,?_⟩
 refine ⟨_,rfl,?_⟩
 refine Cm 1 st [(1,vI p),(2,vB b),(6,vI 0),(10,vS g.sess.p g.sess.l.length),(11,vI (g.sess.l.length : Int)),(12,vI 0)] [] fun _ _ => ?_
 refine AW.loopM (fun i : Nat => [(1,vI p),(2,vB b),(10,vS g.sess.p g.sess.l.length),(11,vI (g.sess.l.length : Int)),(12,vI (i : Int))]) (fun i : Nat => []) (fun m (i : Nat) st' => m = g.sess.l.length - i ∧ i ≤ g.sess.l.length ∧ slotF g.sess.l p b 0 = slotF (g.sess.l.drop i) p b i ∧ st = st') 0 _ ⟨rfl,rfl,rfl,rfl,rfl,trivial⟩ trivial ⟨rfl,Nat.zero_le _,rfl,rfl⟩ ?_
 rintro m i ρ0 ff gg st' ⟨rfl,hi,hf,rfl⟩
 refine ⟨_,rfl,?_⟩
 rintro (_|_) h13
 ·replace h13 : ¬ ((i : Int) < (g.sess.l.length : Int)) := of_decide_eq_false h13
  refine Cm gg st [(1,vI p),(2,vB b),(10,vS g.sess.p g.sess.l.length),(11,vI (g.sess.l.length : Int)),(12,vI (i : Int)),(13,vB false)] [] fun _ _ => ?_
  refine cxs ?_
  refine cxs ?_
  have hil : i = g.sess.l.length := by omega
  exact Rt ⟨congrArg vI (by rw [hf,hil,List.drop_length]; rfl),rfl⟩
 ·replace h13 : (i : Int) < (g.sess.l.length : Int) := of_decide_eq_true h13
  refine Cm gg st [(1,vI p),(2,vB b),(10,vS g.sess.p g.sess.l.length),(11,vI (g.sess.l.length : Int)),(12,vI (i : Int)),(13,vB true)] [] fun _ _ => ?_
  refine cxs ?_
  refine op_at i hR.sess (by omega) rfl rfl rfl rfl rfl rfl rfl ?_
  intro x15 b15 d15 k15 hy15 hb15 hm15 hc15 ho15
  refine ⟨_,op_lda rfl rfl rfl rfl rfl hm15 hc15 rfl,?_⟩
  refine ⟨_,rfl,?_⟩
  refine ⟨_,Os rfl,?_⟩
  refine Cm (gg + 1) st [(1,vI p),(2,vB b),(7,vI (i : Int)),Ml 8 gg,(10,vS g.sess.p g.sess.l.length),(11,vI (g.sess.l.length : Int)),(12,vI (i : Int)),(13,vB true)] [(8,gg,[vI x15.peer,vI x15.num,vB x15.inn,vI x15.age])] fun _ _ => ?_
  rw [(split_at' hy15).2.2,slotF] at hf
  refine ⟨_,rfl,?_⟩
  refine ⟨_,Od rfl,?_⟩
  refine ⟨_,rfl,?_⟩
  rintro (_|_) h20
  ·replace h20 : ¬ (x15.peer = p) := beq_eq_false_iff_ne.1 h20
   refine ⟨_,rfl,?_⟩
   refine Cm (gg + 1) st [(1,vI p),(2,vB b),(7,vI (i : Int)),Ml 8 gg,(10,vS g.sess.p g.sess.l.length),(11,vI (g.sess.l.length : Int)),(12,vI (i : Int)),(13,vB true),(26,vB false)] [(8,gg,[vI x15.peer,vI x15.num,vB x15.inn,vI x15.age])] fun _ _ => ?_
   have hno : ¬ (x15.peer = p ∧ x15.inn = b) := fun h => h20 h.1
   refine cxs ?_
   have ew28 : IntKind.wrap .i64 ((i : Int) + (1)) = ((i + 1 : Nat) : Int) := (wrap_i64 (by omega) (by omega)).trans (by omega)
   refine ⟨_,rfl,?_⟩
   exact ⟨i + 1,g.sess.l.length - (i + 1),by omega,⟨rfl,rfl,rfl,rfl,congrArg (Value.int .i64) ew28,trivial⟩,trivial,rfl,by omega,by rw [hf,if_neg hno],rfl⟩
  ·replace h20 : x15.peer = p := beq_iff_eq.1 h20
   refine ⟨_,rfl,?_⟩
   refine ⟨_,Od rfl,?_⟩
   refine ⟨_,rfl,?_⟩
   rintro (_|_) h25
   ·replace h25 : ¬ (x15.inn = b) := beq_eq_false_iff_ne.1 h25
    refine ⟨_,rfl,?_⟩
    refine Cm (gg + 1) st [(1,vI p),(2,vB b),(7,vI (i : Int)),Ml 8 gg,(10,vS g.sess.p g.sess.l.length),(11,vI (g.sess.l.length : Int)),(12,vI (i : Int)),(13,vB true),(26,vB false)] [(8,gg,[vI x15.peer,vI x15.num,vB x15.inn,vI x15.age])] fun _ _ => ?_
    have hno : ¬ (x15.peer = p ∧ x15.inn = b) := fun h => h25 h.2
    refine cxs ?_
    have ew28 : IntKind.wrap .i64 ((i : Int) + (1)) = ((i + 1 : Nat) : Int) := (wrap_i64 (by omega) (by omega)).trans (by omega)
    refine ⟨_,rfl,?_⟩
    exact ⟨i + 1,g.sess.l.length - (i + 1),by omega,⟨rfl,rfl,rfl,rfl,congrArg (Value.int .i64) ew28,trivial⟩,trivial,rfl,by omega,by rw [hf,if_neg hno],rfl⟩
   ·replace h25 : x15.inn = b := beq_iff_eq.1 h25
    refine ⟨_,rfl,?_⟩
    refine Cm (gg + 1) st [(1,vI p),(2,vB b),(7,vI (i : Int)),Ml 8 gg,(10,vS g.sess.p g.sess.l.length),(11,vI (g.sess.l.length : Int)),(12,vI (i : Int)),(13,vB true),(26,vB true)] [(8,gg,[vI x15.peer,vI x15.num,vB x15.inn,vI x15.age])] fun _ _ => ?_
    exact cxs (Rt ⟨congrArg vI (by rw [hf,if_pos ⟨h20,h25⟩]),rfl⟩)
theorem ac_spec_Slot (g : NV) (p : Int) (b : Bool) (st : St) (hR : RdN st g) (hb : bigN g.x) : C 93 [(vNV g),vI p,vB b] st (fun v s => v = vI (slotF g.sess.l p b 0) ∧ s = st) := by
 have hs : g.sess.l.length ≤ 1048576 := hb.sess
 refine AC.enterX (i := ⟨[3],[3,9,15,24],[0,1,2,3,6,7,12,32],[]⟩) [] Tryz.func93 rfl rfl (by kernel_rfl) (by kernel_rfl) Tryz.ntmps93 (Lb rfl) rfl ?_
 refine ⟨_,rfl,?_⟩
 refine cxs ?_
 refine Cm 1 st [(1,vI p),(2,vB b),Ml 3 0,(6,vI 0),(7,vI 0)] [(3,0,cNV g)] fun _ _ => ?_
 refine AW.loopM (fun i : Nat => [(1,vI p),(2,vB b),(3,vL 3 0 (0)),(7,vI (i : Int))]) (fun i : Nat => [(3,0,cNV g)]) (fun m (i : Nat) st' => m = g.sess.l.length - i ∧ i ≤ g.sess.l.length ∧ slotF g.sess.l p b 0 = slotF (g.sess.l.drop i) p b i ∧ st = st') 0 _ ⟨rfl,rfl,rfl,rfl,trivial⟩ ⟨rfl,trivial⟩ ⟨rfl,Nat.zero_le _,rfl,rfl⟩ ?_
 rintro m i ρ0 ff gg st' ⟨rfl,hi,hf,rfl⟩
 refine ⟨_,rfl,?_⟩
 refine ⟨_,Od rfl,?_⟩
 iterate 2 refine ⟨_,rfl,?_⟩
 rintro (_|_) h12
 ·replace h12 : ¬ ((i : Int) < (g.sess.l.length : Int)) := of_decide_eq_false h12
  refine Cm gg st [(1,vI p),(2,vB b),Ml 3 0,(7,vI (i : Int)),(12,vB false)] [(3,0,cNV g)] fun _ _ => ?_
  refine cxs ?_
  refine cxs ?_
  have hil : i = g.sess.l.length := by omega
  exact Rt ⟨congrArg vI (by rw [hf,hil,List.drop_length]; rfl),rfl⟩
 ·replace h12 : (i : Int) < (g.sess.l.length : Int) := of_decide_eq_true h12
  refine Cm gg st [(1,vI p),(2,vB b),Ml 3 0,(7,vI (i : Int)),(12,vB true)] [(3,0,cNV g)] fun _ _ => ?_
  refine cxs ?_
  refine ⟨_,rfl,?_⟩
  refine ⟨_,Od rfl,?_⟩
  refine op_at i hR.sess (by omega) rfl rfl rfl rfl rfl rfl rfl ?_
  intro x18 b18 d18 k18 hy18 hb18 hm18 hc18 ho18
  refine ⟨_,rfl,?_⟩
  refine ⟨_,op_ldc (i := 0) rfl rfl rfl rfl hm18 hc18 rfl rfl,?_⟩
  refine ⟨_,rfl,?_⟩
  rintro (_|_) h22
  ·replace h22 : ¬ (x18.peer = p) := beq_eq_false_iff_ne.1 h22
   refine ⟨_,rfl,?_⟩
   refine Cm gg st [(1,vI p),(2,vB b),Ml 3 0,(7,vI (i : Int)),(12,vB true),(32,vB false)] [(3,0,cNV g)] fun _ _ => ?_
   rw [(split_at' hy18).2.2,slotF] at hf
   have hno : ¬ (x18.peer = p ∧ x18.inn = b) := fun h => h22 h.1
   refine cxs ?_
   have ew14 : IntKind.wrap .i64 ((i : Int) + (1)) = ((i + 1 : Nat) : Int) := (wrap_i64 (by omega) (by omega)).trans (by omega)
   refine ⟨_,rfl,?_⟩
   exact ⟨i + 1,g.sess.l.length - (i + 1),by omega,⟨rfl,rfl,rfl,congrArg (Value.int .i64) ew14,trivial⟩,⟨rfl,trivial⟩,rfl,by omega,by rw [hf,if_neg hno],rfl⟩
  ·replace h22 : x18.peer = p := beq_iff_eq.1 h22
   refine ⟨_,rfl,?_⟩
   refine ⟨_,Od rfl,?_⟩
   refine op_el i hR.sess hy18 rfl rfl rfl rfl rfl rfl rfl ?_
   intro b27 d27 k27 hb27 hm27 hc27 ho27
   refine ⟨_,rfl,?_⟩
   refine ⟨_,op_ldc (i := 2) rfl rfl rfl rfl hm27 hc27 rfl rfl,?_⟩
   refine ⟨_,rfl,?_⟩
   rintro (_|_) h31
   ·replace h31 : ¬ (x18.inn = b) := beq_eq_false_iff_ne.1 h31
    refine ⟨_,rfl,?_⟩
    refine Cm gg st [(1,vI p),(2,vB b),Ml 3 0,(7,vI (i : Int)),(12,vB true),(32,vB false)] [(3,0,cNV g)] fun _ _ => ?_
    rw [(split_at' hy18).2.2,slotF] at hf
    have hno : ¬ (x18.peer = p ∧ x18.inn = b) := fun h => h31 h.2
    refine cxs ?_
    have ew14 : IntKind.wrap .i64 ((i : Int) + (1)) = ((i + 1 : Nat) : Int) := (wrap_i64 (by omega) (by omega)).trans (by omega)
    refine ⟨_,rfl,?_⟩
    exact ⟨i + 1,g.sess.l.length - (i + 1),by omega,⟨rfl,rfl,rfl,congrArg (Value.int .i64) ew14,trivial⟩,⟨rfl,trivial⟩,rfl,by omega,by rw [hf,if_neg hno],rfl⟩
   ·replace h31 : x18.inn = b := beq_iff_eq.1 h31
    refine ⟨_,rfl,?_⟩
    refine Cm gg st [(1,vI p),(2,vB b),Ml 3 0,(7,vI (i : Int)),(12,vB true),(32,vB true)] [(3,0,cNV g)] fun _ _ => ?_
    rw [(split_at' hy18).2.2,slotF] at hf
    exact cxs (Rt ⟨congrArg vI (by rw [hf,if_pos ⟨h22,h31⟩]),rfl⟩)
def rowOk (l : List Int) : Prop := l.length = 5 ∧ ∀ (j : Nat) x,l[j]? = some x → 0 ≤ x ∧ x ≤ 1000
def tableOk (t : List (List Int)) (n : Int) : Prop := (1 ≤ n ∧ n ≤ 5) ∧ (t.length : Int) = n ∧ ∀ l ∈ t,rowOk l
theorem rows_of {t : List RV} {n : Int} (h : tableOk (t.map (·.l)) n) {i : Nat} {r : RV} (hr : t[i]? = some r) : rowOk r.l := h.2.2 _ (List.mem_map_of_mem (List.mem_of_getElem? hr))
theorem rows_to {t : List RV} (h : ∀ (j : Nat) r,t[j]? = some r → rowOk r.l) : ∀ l ∈ t.map (·.l),rowOk l := fun l hl => by
 obtain ⟨r,hr,rfl⟩ := List.mem_map.1 hl
 obtain ⟨i,hi⟩ := List.getElem?_of_mem hr
 exact h i r hi
theorem ac_spec_TableOk (p : Option Addr) (t : List RV) (n : Int) (st : St) (hR : RdT st p t) (hs : szOk t.length) (hr : ∀ r ∈ t,szOk r.l.length) : C 78 [vS p t.length,vI n] st (fun v s => ∃ x,v = .bool x ∧ (x = true ↔ tableOk (t.map (·.l)) n) ∧ s = st) := by
 have hs : t.length ≤ 1048576 := hs
 refine AC.enterX (i := ⟨[],[],[0,1,4,5,6,15,18,26,33,44],[]⟩) [] Tryz.func78 rfl rfl (by kernel_rfl) (by kernel_rfl) Tryz.ntmps78 (Lb rfl) rfl ?_
 refine Cu lo0 st [(0,vS p t.length),(1,vI n),(4,vB false)] fun _ => ?_
 refine ⟨_,rfl,(ac_spec_l1In n 1 5 st).mono ?_⟩
 rintro _ st ⟨y,rfl,hy,rfl⟩
 rcases y with _|_
 ·replace hy := of_decide_eq_false hy.symm
  iterate 2 refine ⟨_,rfl,?_⟩
  refine Cu lo0 st [(0,vS p t.length),(1,vI n),(4,vB false),(15,vB true)] fun _ => ?_
  exact cxs (Rt ⟨false,rfl,⟨fun h => absurd h Bool.false_ne_true,fun h => absurd h.1 hy⟩,rfl⟩)
 ·replace hy := of_decide_eq_true hy.symm
  iterate 3 refine ⟨_,rfl,?_⟩
  rintro (_|_) h0
  ·replace h0 : (t.length : Int) = n := bne_eq_false_iff_eq.1 h0
   refine ⟨_,rfl,?_⟩
   refine Cu lo0 st [(0,vS p t.length),(1,vI n),(4,vB false),(15,vB false)] fun _ => ?_
   refine cxs ?_
   refine Cu lo0 st [(0,vS p t.length),(1,vI n),(4,vB false),(5,vI 0)] fun _ => ?_
   refine AW.loop0 (fun i : Nat => [(0,vS p t.length),(1,vI n),(5,vI (i : Int))]) (fun m (i : Nat) st' => m = t.length - i ∧ i ≤ t.length ∧ (∀ (j : Nat) r,j < i → t[j]? = some r → rowOk r.l) ∧ st = st') 0 _ ⟨rfl,rfl,rfl,trivial⟩ rfl ⟨rfl,Nat.zero_le _,fun j r h => absurd h (Nat.not_lt_zero _),rfl⟩ ?_
   rintro m i ρ0 st' ⟨rfl,hi,hok,rfl⟩
   refine ⟨_,rfl,?_⟩
   rintro (_|_) h1
   ·replace h1 : ¬ ((i : Int) < n) := of_decide_eq_false h1
    refine Cu lo0 st [(0,vS p t.length),(1,vI n),(5,vI (i : Int)),(18,vB false)] fun _ => ?_
    refine cxs ?_
    exact cxs (Rt ⟨true,rfl,⟨fun _ => ⟨hy,by rw [List.length_map]; exact h0,rows_to fun j r hr => hok j r (by have := (List.getElem?_eq_some_iff.1 hr).1; omega) hr⟩,fun _ => rfl⟩,rfl⟩)
   ·replace h1 : (i : Int) < n := of_decide_eq_true h1
    refine Cu lo0 st [(0,vS p t.length),(1,vI n),(5,vI (i : Int)),(18,vB true)] fun _ => ?_
    have h1' : i < t.length := by omega
    have ⟨b1,o1,k1,r,hpe,hr1,hm1,hc1⟩ := hR.1.at h1'
    have hmem := List.mem_of_getElem? hr1
    have hrs : r.l.length ≤ 1048576 := hr r hmem
    refine cxs ?_
    refine ⟨_,op_idx (j := (i : Int)) (n := t.length) (q := ⟨b1,o1,none⟩) rfl (congrArg (fun u => vS u t.length) hpe) rfl rfl rfl (Int.natCast_nonneg _) (Int.ofNat_lt.2 h1'),?_⟩
    refine ⟨_,op_ldc (i := 0) (v := vS r.p r.l.length) rfl rfl rfl rfl hm1 hc1 rfl rfl,?_⟩
    iterate 2 refine ⟨_,rfl,?_⟩
    rintro (_|_) h2
    ·replace h2 : (r.l.length : Int) = 5 := bne_eq_false_iff_eq.1 h2
     refine Cu lo0 st [(0,vS p t.length),(1,vI n),(5,vI (i : Int)),(18,vB true),(26,vB false)] fun _ => ?_
     refine cxs ?_
     refine Cu lo0 st [(0,vS p t.length),(1,vI n),(5,vI (i : Int)),(6,vI 0),(18,vB true),(26,vB false)] fun _ => ?_
     refine AW.loop0 (fun j : Nat => [(0,vS p t.length),(1,vI n),(5,vI (i : Int)),(6,vI (j : Int))]) (fun m (j : Nat) st' => m = r.l.length - j ∧ j ≤ r.l.length ∧ (∀ (u : Nat) x,u < j → r.l[u]? = some x → 0 ≤ x ∧ x ≤ 1000) ∧ st = st') 0 _ ⟨rfl,rfl,rfl,rfl,trivial⟩ rfl ⟨rfl,Nat.zero_le _,fun u x h => absurd h (Nat.not_lt_zero _),rfl⟩ ?_
     rintro m j ρ0 st' ⟨rfl,hj,hel,rfl⟩
     refine ⟨_,op_idx (j := (i : Int)) (n := t.length) (q := ⟨b1,o1,none⟩) rfl (congrArg (fun u => vS u t.length) hpe) rfl rfl rfl (Int.natCast_nonneg _) (Int.ofNat_lt.2 h1'),?_⟩
     refine ⟨_,op_ldc (i := 0) (v := vS r.p r.l.length) rfl rfl rfl rfl hm1 hc1 rfl rfl,?_⟩
     iterate 2 refine ⟨_,rfl,?_⟩
     rintro (_|_) h3
     ·replace h3 : ¬ ((j : Int) < (r.l.length : Int)) := of_decide_eq_false h3
      refine Cu lo0 st [(0,vS p t.length),(1,vI n),(5,vI (i : Int)),(6,vI (j : Int)),(33,vB false)] fun _ => ?_
      refine cxs ?_
      have e20 : IntKind.wrap .i64 ((i : Int) + 1) = ((i + 1 : Nat) : Int) := (wrap_i64 (by omega) (by omega)).trans (by omega)
      refine ⟨_,rfl,?_⟩
      refine ⟨i + 1,t.length - (i + 1),by omega,⟨rfl,rfl,congrArg (Value.int .i64) e20,trivial⟩,rfl,rfl,h1',fun u x hu hx => ?_,rfl⟩
      rcases Nat.lt_or_ge u i with h | h
      ·exact hok u x h hx
      ·obtain rfl : u = i := by omega
       rw [hr1] at hx
       injection hx with hx
       rw [← hx]
       exact ⟨by omega,fun v y hy => hel v y (by have := (List.getElem?_eq_some_iff.1 hy).1; omega) hy⟩
     ·replace h3 : (j : Int) < (r.l.length : Int) := of_decide_eq_true h3
      refine Cu lo0 st [(0,vS p t.length),(1,vI n),(5,vI (i : Int)),(6,vI (j : Int)),(33,vB true)] fun _ => ?_
      have h3' := Int.ofNat_lt.1 h3
      have ⟨b2,o2,k2,z,hqe,hz,hm2,hc2⟩ := (hR.2 r hmem).at h3'
      refine cxs ?_
      refine ⟨_,op_idx (j := (i : Int)) (n := t.length) (q := ⟨b1,o1,none⟩) rfl (congrArg (fun u => vS u t.length) hpe) rfl rfl rfl (Int.natCast_nonneg _) (Int.ofNat_lt.2 h1'),?_⟩
      refine ⟨_,op_ldc (i := 0) (v := vS r.p r.l.length) rfl rfl rfl rfl hm1 hc1 rfl rfl,?_⟩
      refine ⟨_,op_idx (j := (j : Int)) (n := r.l.length) (q := ⟨b2,o2,none⟩) rfl (congrArg (fun u => vS u r.l.length) hqe) rfl rfl rfl (Int.natCast_nonneg _) h3,?_⟩
      refine ⟨_,op_ldc (i := 0) (v := vI z) rfl rfl rfl rfl hm2 hc2 rfl rfl,?_⟩
      refine ⟨_,rfl,(ac_spec_l1In z 0 1000 st).mono ?_⟩
      rintro _ st ⟨c,rfl,h4,rfl⟩
      rcases c with _|_
      ·replace h4 := of_decide_eq_false h4.symm
       refine ⟨_,rfl,?_⟩
       refine Cu lo0 st [(0,vS p t.length),(1,vI n),(5,vI (i : Int)),(6,vI (j : Int)),(33,vB true),(44,vB true)] fun _ => ?_
       exact cxs (Rt ⟨false,rfl,⟨fun h => absurd h Bool.false_ne_true,fun h => absurd ((rows_of h hr1).2 j z hz) h4⟩,rfl⟩)
      ·replace h4 := of_decide_eq_true h4.symm
       refine ⟨_,rfl,?_⟩
       refine Cu lo0 st [(0,vS p t.length),(1,vI n),(5,vI (i : Int)),(6,vI (j : Int)),(33,vB true),(44,vB false)] fun _ => ?_
       refine cxs ?_
       have e35 : IntKind.wrap .i64 ((j : Int) + 1) = ((j + 1 : Nat) : Int) := (wrap_i64 (by omega) (by omega)).trans (by omega)
       refine ⟨_,rfl,?_⟩
       refine ⟨j + 1,r.l.length - (j + 1),by omega,⟨rfl,rfl,rfl,congrArg (Value.int .i64) e35,trivial⟩,rfl,rfl,h3',fun u x hu hx => ?_,rfl⟩
       rcases Nat.lt_or_ge u j with h | h
       ·exact hel u x h hx
       ·obtain rfl : u = j := by omega
        rw [hz] at hx
        injection hx with hx
        rw [← hx]; exact h4
    ·replace h2 : ¬ ((r.l.length : Int) = 5) := bne_iff_ne.1 h2
     refine Cu lo0 st [(0,vS p t.length),(1,vI n),(5,vI (i : Int)),(18,vB true),(26,vB true)] fun _ => ?_
     exact cxs (Rt ⟨false,rfl,⟨fun h => absurd h Bool.false_ne_true,fun h => absurd (by have := (rows_of h hr1).1; omega) h2⟩,rfl⟩)
  ·replace h0 : ¬ ((t.length : Int) = n) := bne_iff_ne.1 h0
   refine ⟨_,rfl,?_⟩
   refine Cu lo0 st [(0,vS p t.length),(1,vI n),(4,vB false),(15,vB true)] fun _ => ?_
   exact cxs (Rt ⟨false,rfl,⟨fun h => absurd h Bool.false_ne_true,fun h => absurd (by have := h.2.1; rwa [List.length_map] at this) h0⟩,rfl⟩)
theorem ac_impl_TableOk (p : Option Addr) (t : List RV) (n : Int) (st : St) (hR : RdT st p t) (hs : szOk t.length) (hr : ∀ r ∈ t,szOk r.l.length) : C 67 [vS p t.length,vI n] st (fun v s => ∃ x,v = .bool x ∧ (x = true ↔ tableOk (t.map (·.l)) n) ∧ s = st) := by
 have hs : t.length ≤ 1048576 := hs
 refine AC.enterX (i := ⟨[],[],[0,1,4,6,8,9,10,11,12,15,16,17,18,23,27],[]⟩) [] Tryz.func67 rfl rfl (by kernel_rfl) (by kernel_rfl) Tryz.ntmps67 (Lb rfl) rfl ?_
 refine Cu lo0 st [(0,vS p t.length),(1,vI n),(4,vB false)] fun _ => ?_
 refine ⟨_,rfl,?_⟩
 refine Cu lo0 st [(0,vS p t.length),(1,vI n),(4,vB false),(9,vS p t.length),(10,vI (t.length)),(11,vI 0)] fun _ => ?_
 refine AW.loop0 (fun i : Nat => [(0,vS p t.length),(1,vI n),(9,vS p t.length),(10,vI (t.length : Int)),(11,vI (i : Int))]) (fun m (i : Nat) st' => m = t.length - i ∧ i ≤ t.length ∧ (∀ (j : Nat) r,j < i → t[j]? = some r → rowOk r.l) ∧ st = st') 0 _ ⟨rfl,rfl,rfl,rfl,rfl,trivial⟩ rfl ⟨rfl,Nat.zero_le _,fun j r h => absurd h (Nat.not_lt_zero _),rfl⟩ ?_
 rintro m i ρ0 st' ⟨rfl,hi,hok,rfl⟩
 refine ⟨_,rfl,?_⟩
 rintro (_|_) h1
 ·replace h1 : ¬ ((i : Int) < (t.length : Int)) := of_decide_eq_false h1
  refine Cu lo0 st [(0,vS p t.length),(1,vI n),(9,vS p t.length),(10,vI (t.length : Int)),(11,vI (i : Int)),(12,vB false)] fun _ => ?_
  refine cxs ?_
  refine ⟨_,rfl,(ac_impl_within n 1 5 st).mono ?_⟩
  rintro _ st ⟨y,rfl,hy,rfl⟩
  rcases y with _|_
  ·replace hy := of_decide_eq_false hy.symm
   refine ⟨_,rfl,?_⟩
   exact cxs (Rt ⟨false,rfl,⟨fun h => absurd h Bool.false_ne_true,fun h => absurd h.1 hy⟩,rfl⟩)
  ·replace hy := of_decide_eq_true hy.symm
   iterate 2 refine ⟨_,rfl,?_⟩
   rintro (_|_) h0
   ·replace h0 : ¬ ((t.length : Int) = n) := beq_eq_false_iff_ne.1 h0
    refine ⟨_,rfl,?_⟩
    exact cxs (Rt ⟨false,rfl,⟨fun h => absurd h Bool.false_ne_true,fun h => absurd (by have := h.2.1; rwa [List.length_map] at this) h0⟩,rfl⟩)
   ·replace h0 : (t.length : Int) = n := beq_iff_eq.1 h0
    refine ⟨_,rfl,?_⟩
    exact cxs (Rt ⟨true,rfl,⟨fun _ => ⟨hy,by rw [List.length_map]; exact h0,rows_to fun j r hr => hok j r (by have := (List.getElem?_eq_some_iff.1 hr).1; omega) hr⟩,fun _ => rfl⟩,rfl⟩)
 ·replace h1 : (i : Int) < (t.length : Int) := of_decide_eq_true h1
  refine Cu lo0 st [(0,vS p t.length),(1,vI n),(9,vS p t.length),(10,vI (t.length : Int)),(11,vI (i : Int)),(12,vB true)] fun _ => ?_
  have h1' : i < t.length := by omega
  have ⟨b1,o1,k1,r,hpe,hr1,hm1,hc1⟩ := hR.1.at h1'
  have hmem := List.mem_of_getElem? hr1
  have hrs : r.l.length ≤ 1048576 := hr r hmem
  refine cxs ?_
  refine ⟨_,op_idx (j := (i : Int)) (n := t.length) (q := ⟨b1,o1,none⟩) rfl (congrArg (fun u => vS u t.length) hpe) rfl rfl rfl (Int.natCast_nonneg _) (Int.ofNat_lt.2 h1'),?_⟩
  refine ⟨_,op_ldc (i := 0) (v := vS r.p r.l.length) rfl rfl rfl rfl hm1 hc1 rfl rfl,?_⟩
  refine Cu lo0 st [(0,vS p t.length),(1,vI n),(6,vS r.p r.l.length),(9,vS p t.length),(10,vI (t.length : Int)),(11,vI (i : Int)),(12,vB true)] fun _ => ?_
  refine ⟨_,rfl,?_⟩
  refine Cu lo0 st [(0,vS p t.length),(1,vI n),(6,vS r.p r.l.length),(9,vS p t.length),(10,vI (t.length : Int)),(11,vI (i : Int)),(12,vB true),(15,vS r.p r.l.length),(16,vI (r.l.length)),(17,vI 0)] fun _ => ?_
  refine AW.loop0 (fun j : Nat => [(0,vS p t.length),(1,vI n),(6,vS r.p r.l.length),(9,vS p t.length),(10,vI (t.length : Int)),(11,vI (i : Int)),(15,vS r.p r.l.length),(16,vI (r.l.length : Int)),(17,vI (j : Int))]) (fun m (j : Nat) st' => m = r.l.length - j ∧ j ≤ r.l.length ∧ (∀ (u : Nat) x,u < j → r.l[u]? = some x → 0 ≤ x ∧ x ≤ 1000) ∧ st = st') 0 _ ⟨rfl,rfl,rfl,rfl,rfl,rfl,rfl,rfl,rfl,trivial⟩ rfl ⟨rfl,Nat.zero_le _,fun u x h => absurd h (Nat.not_lt_zero _),rfl⟩ ?_
  rintro m j ρ0 st' ⟨rfl,hj,hel,rfl⟩
  refine ⟨_,rfl,?_⟩
  rintro (_|_) h3
  ·replace h3 : ¬ ((j : Int) < (r.l.length : Int)) := of_decide_eq_false h3
   refine Cu lo0 st [(0,vS p t.length),(1,vI n),(6,vS r.p r.l.length),(9,vS p t.length),(10,vI (t.length : Int)),(11,vI (i : Int)),(15,vS r.p r.l.length),(16,vI (r.l.length : Int)),(17,vI (j : Int)),(18,vB false)] fun _ => ?_
   refine cxs ?_
   iterate 2 refine ⟨_,rfl,?_⟩
   rintro (_|_) h2
   ·replace h2 : (r.l.length : Int) = 5 := bne_eq_false_iff_eq.1 h2
    refine Cu lo0 st [(0,vS p t.length),(1,vI n),(6,vS r.p r.l.length),(9,vS p t.length),(10,vI (t.length : Int)),(11,vI (i : Int)),(15,vS r.p r.l.length),(16,vI (r.l.length : Int)),(17,vI (j : Int)),(18,vB false),(27,vB false)] fun _ => ?_
    refine cxs ?_
    have e28 : IntKind.wrap .i64 ((i : Int) + 1) = ((i + 1 : Nat) : Int) := (wrap_i64 (by omega) (by omega)).trans (by omega)
    refine ⟨_,rfl,?_⟩
    refine ⟨i + 1,t.length - (i + 1),by omega,⟨rfl,rfl,rfl,rfl,congrArg (Value.int .i64) e28,trivial⟩,rfl,rfl,h1',fun u x hu hx => ?_,rfl⟩
    rcases Nat.lt_or_ge u i with h | h
    ·exact hok u x h hx
    ·obtain rfl : u = i := by omega
     rw [hr1] at hx
     injection hx with hx
     rw [← hx]
     exact ⟨by omega,fun v y hy => hel v y (by have := (List.getElem?_eq_some_iff.1 hy).1; omega) hy⟩
   ·replace h2 : ¬ ((r.l.length : Int) = 5) := bne_iff_ne.1 h2
    refine Cu lo0 st [(0,vS p t.length),(1,vI n),(6,vS r.p r.l.length),(9,vS p t.length),(10,vI (t.length : Int)),(11,vI (i : Int)),(15,vS r.p r.l.length),(16,vI (r.l.length : Int)),(17,vI (j : Int)),(18,vB false),(27,vB true)] fun _ => ?_
    exact cxs (Rt ⟨false,rfl,⟨fun h => absurd h Bool.false_ne_true,fun h => absurd (by have := (rows_of h hr1).1; omega) h2⟩,rfl⟩)
  ·replace h3 : (j : Int) < (r.l.length : Int) := of_decide_eq_true h3
   refine Cu lo0 st [(0,vS p t.length),(1,vI n),(6,vS r.p r.l.length),(9,vS p t.length),(10,vI (t.length : Int)),(11,vI (i : Int)),(15,vS r.p r.l.length),(16,vI (r.l.length : Int)),(17,vI (j : Int)),(18,vB true)] fun _ => ?_
   have h3' := Int.ofNat_lt.1 h3
   have ⟨b2,o2,k2,z,hqe,hz,hm2,hc2⟩ := (hR.2 r hmem).at h3'
   refine cxs ?_
   refine ⟨_,op_idx (j := (j : Int)) (n := r.l.length) (q := ⟨b2,o2,none⟩) rfl (congrArg (fun u => vS u r.l.length) hqe) rfl rfl rfl (Int.natCast_nonneg _) h3,?_⟩
   refine ⟨_,op_ldc (i := 0) (v := vI z) rfl rfl rfl rfl hm2 hc2 rfl rfl,?_⟩
   refine Cu lo0 st [(0,vS p t.length),(1,vI n),(6,vS r.p r.l.length),(8,vI z),(9,vS p t.length),(10,vI (t.length : Int)),(11,vI (i : Int)),(15,vS r.p r.l.length),(16,vI (r.l.length : Int)),(17,vI (j : Int)),(18,vB true)] fun _ => ?_
   refine ⟨_,rfl,(ac_impl_within z 0 1000 st).mono ?_⟩
   rintro _ st ⟨c,rfl,h4,rfl⟩
   rcases c with _|_
   ·replace h4 := of_decide_eq_false h4.symm
    refine ⟨_,rfl,?_⟩
    refine Cu lo0 st [(0,vS p t.length),(1,vI n),(6,vS r.p r.l.length),(8,vI z),(9,vS p t.length),(10,vI (t.length : Int)),(11,vI (i : Int)),(15,vS r.p r.l.length),(16,vI (r.l.length : Int)),(17,vI (j : Int)),(18,vB true),(23,vB true)] fun _ => ?_
    exact cxs (Rt ⟨false,rfl,⟨fun h => absurd h Bool.false_ne_true,fun h => absurd ((rows_of h hr1).2 j z hz) h4⟩,rfl⟩)
   ·replace h4 := of_decide_eq_true h4.symm
    refine ⟨_,rfl,?_⟩
    refine Cu lo0 st [(0,vS p t.length),(1,vI n),(6,vS r.p r.l.length),(8,vI z),(9,vS p t.length),(10,vI (t.length : Int)),(11,vI (i : Int)),(15,vS r.p r.l.length),(16,vI (r.l.length : Int)),(17,vI (j : Int)),(18,vB true),(23,vB false)] fun _ => ?_
    refine cxs ?_
    have e24 : IntKind.wrap .i64 ((j : Int) + 1) = ((j + 1 : Nat) : Int) := (wrap_i64 (by omega) (by omega)).trans (by omega)
    refine ⟨_,rfl,?_⟩
    refine ⟨j + 1,r.l.length - (j + 1),by omega,⟨rfl,rfl,rfl,rfl,rfl,rfl,rfl,rfl,congrArg (Value.int .i64) e24,trivial⟩,rfl,rfl,h3',fun u x hu hx => ?_,rfl⟩
    rcases Nat.lt_or_ge u j with h | h
    ·exact hel u x h hx
    ·obtain rfl : u = j := by omega
     rw [hz] at hx
     injection hx with hx
     rw [← hx]; exact h4
theorem map_len {t u : List RV} (h : u.map (·.l) = t.map (·.l)) (hr : ∀ r ∈ t,szOk r.l.length) : u.length = t.length ∧ ∀ r ∈ u,szOk r.l.length := by
 have hl := congrArg List.length h
 simp only [List.length_map] at hl
 refine ⟨hl,fun r hm => ?_⟩
 have h2 : r.l ∈ t.map (·.l) := by rw [← h]; exact List.mem_map_of_mem hm
 obtain ⟨x,hx,he⟩ := List.mem_map.1 h2
 rw [← he]; exact hr x hx
end Go.Proofs.YtpnolkhfeliehaaGreat.AM
