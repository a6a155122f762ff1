/- Part 5 of the texts on which the law's proof rests. -/
import Derived.Test.YtpnolkhfeliehaaGreatXpd
namespace Go.Proofs.YtpnolkhfeliehaaGreat.AM
open Go Go.Proofs
set_option linter.unusedVariables false
set_option linter.unusedSimpArgs false
set_option maxRecDepth 100000
set_option maxHeartbeats 4000000
theorem entP_sz {l : List Itm} (h : ∀ x ∈ l,szOk x.e.data.size) (id : Int) : szOk (entP l id).1.data.size := by
 induction l with
 | nil => exact Nat.zero_le _
 | cons x l ih =>
  rw [entP]
  split
  ·exact h x (List.mem_cons_self ..)
  ·exact ih fun y hy => h y (List.mem_cons_of_mem _ hy)
theorem bigS_join {a b : Sta} (ha : bigS a) (hb : bigS b) : bigS (joinF a b 5) := by
 have hl := joinF_len a b 5
 refine ⟨by unfold szOk; omega,by unfold szOk; omega,fun x hx => ?_⟩
 have hx : x ∈ (List.range 5).filterMap fun (j : Nat) => if (topE a b (j : Int)).inc > topF a b (j : Int) then some (⟨(j : Int),topE a b (j : Int)⟩ : Itm) else none := hx
 obtain ⟨j,_,hj⟩ := List.mem_filterMap.1 hx
 split at hj
 ·injection hj with hj
  rw [← hj]
  show szOk (entMax (entP a.items j).1 (entP b.items j).1).data.size
  unfold entMax
  split
  ·exact entP_sz hb.2.2 _
  ·exact entP_sz ha.2.2 _
 ·cases hj
def joinL (l : List Sta) : Sta := l.foldl (fun a s => joinF a s 5) nilS
theorem joinL_snoc (l : List Sta) (s : Sta) : joinL (l ++ [s]) = joinF (joinL l) s 5 := by simp [joinL]
open Classical in
noncomputable def sinceF (g : Lg) (n : Int) : Sta × Bool := if logOk g ∧ g.frm ≤ n ∧ n ≤ g.frm + (g.list.length : Int) then (joinL (g.list.drop (n - g.frm).toNat),true) else (nilS,false)
theorem ac_impl_LogSince (g : LV) (n : Int) (st : St) (hR : RdL st g.p g.l) (hb : bigL g.l) : C 37 [.agg #[vI g.cap,vI g.frm,vS g.p g.l.length],vI n] st (fun v s => ∃ (u : SV) (b : Bool),v = .tuple #[.agg #[vS u.p u.x.items.length,vS u.q u.x.floors.length],vB b] ∧ (u.x,b) = sinceF g.x n ∧ OwnP s (pcS u) ∧ NewP st.next (pcS u) ∧ Pres st s) := by
 have hs : g.l.length ≤ 1048576 := hb.1
 have hgl : g.x.list.length = g.l.length := List.length_map _
 refine AC.enterX (i := ⟨[2,4,6,8],[2,4,6,8,14,23,26],[0,1,2,4,5,6,8,20,29,30,31,32],[]⟩) [(1,[8],[6])] Tryz.func37 rfl rfl (by kernel_rfl) (by kernel_rfl) Tryz.ntmps37 (Lb rfl) rfl ?_
 iterate 2 refine ⟨_,rfl,?_⟩
 refine Cm 2 st [(1,vI n),Ml 2 0,Ml 4 1,(5,vB false)] [(2,0,[vI g.cap,vI g.frm,vS g.p g.l.length]),(4,1,[Sn,Sn])] fun _ _ => ?_
 refine ⟨_,rfl,?_⟩
 refine ⟨_,rfl,(ac_impl_LogOk g st hR hb).mono ?_⟩
 rintro _ st ⟨a,rfl,hk,rfl⟩
 rcases a with _|_
 ·replace hk := fun k => Bool.false_ne_true (hk.2 k)
  iterate 2 refine ⟨_,rfl,?_⟩
  refine Cm 2 st [(1,vI n),Ml 2 0,Ml 4 1,(5,vB false),(20,vB true)] [(2,0,[vI g.cap,vI g.frm,vS g.p g.l.length]),(4,1,[Sn,Sn])] fun _ _ => ?_
  iterate 2 refine ⟨_,rfl,?_⟩
  exact cxs (Rt ⟨⟨none,none,nilS⟩,false,rfl,by rw [sinceF,if_neg (fun h => hk h.1)],pcS_nil,newS_nil,Pres.refl _⟩)
 ·replace hk := hk.1 rfl
  iterate 3 refine ⟨_,rfl,?_⟩
  refine ⟨ld_own rfl rfl rfl,?_⟩
  refine ⟨_,rfl,?_⟩
  refine ⟨_,rfl,(ac_impl_LogSeq g st hR hb).mono ?_⟩
  rintro _ st ⟨rfl,rfl⟩
  refine ⟨fun _ _ => rfl,?_⟩
  refine ⟨_,rfl,(ac_impl_within n g.frm (logSeq g.x) st).mono ?_⟩
  rintro _ st ⟨b,rfl,hw,rfl⟩
  rcases b with _|_
  ·replace hw := of_decide_eq_false hw.symm
   iterate 2 refine ⟨_,rfl,?_⟩
   refine Cm 2 st [(1,vI n),Ml 2 0,Ml 4 1,(5,vB false),(20,vB true)] [(2,0,[vI g.cap,vI g.frm,vS g.p g.l.length]),(4,1,[Sn,Sn])] fun _ _ => ?_
   iterate 2 refine ⟨_,rfl,?_⟩
   refine cxs ?_
   rw [logSeq,if_pos hk] at hw
   exact Rt ⟨⟨none,none,nilS⟩,false,rfl,by rw [sinceF,if_neg (fun h => hw h.2)],pcS_nil,newS_nil,Pres.refl _⟩
  ·replace hw := of_decide_eq_true hw.symm
   iterate 2 refine ⟨_,rfl,?_⟩
   refine Cm 2 st [(1,vI n),Ml 2 0,Ml 4 1,(5,vB false),(20,vB false)] [(2,0,[vI g.cap,vI g.frm,vS g.p g.l.length]),(4,1,[Sn,Sn])] fun _ _ => ?_
   rw [logSeq,if_pos hk] at hw
   have hok : logOk g.x ∧ g.x.frm ≤ n ∧ n ≤ g.x.frm + (g.x.list.length : Int) := ⟨hk,hw⟩
   have hw1 : g.frm ≤ n := hw.1
   have hw2 : n ≤ g.frm + (g.l.length : Int) := by have h := hw.2; rw [hgl] at h; exact h
   have hk3 : 0 ≤ g.frm ∧ g.frm ≤ 100000 := hk.2.2.1
   have hdl : (g.l.drop (n - g.frm).toNat).length = g.l.length - (n - g.frm).toNat := List.length_drop
   have hfin : sinceF g.x n = (joinL ((g.l.drop (n - g.frm).toNat).map (·.x)),true) := by rw [sinceF,if_pos hok,List.map_drop]
   refine cxs ?_
   iterate 3 refine ⟨_,rfl,?_⟩
   refine Cm 3 st [(1,vI n),Ml 2 0,Ml 4 1,(5,vB false),Ml 6 2] [(2,0,[vI g.cap,vI g.frm,vS g.p g.l.length]),(4,1,[Sn,Sn]),(6,2,[Sn,Sn])] fun _ _ => ?_
   iterate 4 refine ⟨_,rfl,?_⟩
   have e28 : IntKind.wrap .i64 (n - g.frm) = n - g.frm := wrap_i64 (by omega) (by omega)
   refine ⟨_,rfl,?_⟩
   refine ⟨_,op_slc (j := (n - g.frm).toNat) (n := g.l.length) rfl rfl (congrArg (Value.int .i64) e28) rfl rfl (by omega) (by omega),?_⟩
   refine ⟨_,rfl,?_⟩
   refine Cm 3 st [Ml 4 1,(5,vB false),Ml 6 2,(29,.slice (shO g.p 2 (n - g.frm).toNat) (g.l.length - (n - g.frm).toNat) (g.l.length - (n - g.frm).toNat)),(30,vI ((g.l.length - (n - g.frm).toNat : Nat) : Int)),(31,vI 0)] [(4,1,[Sn,Sn]),(6,2,[Sn,Sn])] fun _ _ => ?_
   refine AW.loopM (fun x : Nat × SV => [(4,vL 4 0 (1)),(6,vL 6 0 (2)),(29,.slice (shO g.p 2 (n - g.frm).toNat) (g.l.length - (n - g.frm).toNat) (g.l.length - (n - g.frm).toNat)),(30,vI ((g.l.length - (n - g.frm).toNat : Nat) : Int)),(31,vI (x.1 : Int))]) (fun x : Nat × SV => [(4,1,[.slice none 0 0,.slice none 0 0]),(6,2,[vS x.2.p x.2.x.items.length,vS x.2.q x.2.x.floors.length])]) (fun m (x : Nat × SV) st' => m = (g.l.length - (n - g.frm).toNat) - x.1 ∧ x.1 ≤ g.l.length - (n - g.frm).toNat ∧ x.2.x = joinL (((g.l.drop (n - g.frm).toNat).take x.1).map (·.x)) ∧ OwnP st' (pcS x.2) ∧ NewP st.next (pcS x.2) ∧ bigS x.2.x ∧ Pres st st') (0,⟨none,none,nilS⟩) _ ⟨rfl,rfl,rfl,rfl,rfl,trivial⟩ ⟨rfl,rfl,trivial⟩ ⟨rfl,Nat.zero_le _,rfl,pcS_nil,newS_nil,bigS_nil,Pres.refl _⟩ ?_
   rintro m ⟨i,c⟩ ρ0 ff gg st' ⟨rfl,hi,hx,hO,hN,hB,hP⟩
   simp only at hi hx hO hN hB
   refine ⟨_,rfl,?_⟩
   rintro (_|_) h1
   ·replace h1 : ¬ ((i : Int) < ((g.l.length - (n - g.frm).toNat : Nat) : Int)) := of_decide_eq_false h1
    refine Cm gg st' [Ml 4 1,Ml 6 2,(29,.slice (shO g.p 2 (n - g.frm).toNat) (g.l.length - (n - g.frm).toNat) (g.l.length - (n - g.frm).toNat)),(30,vI ((g.l.length - (n - g.frm).toNat : Nat) : Int)),(31,vI (i : Int)),(32,vB false)] [(4,1,[Sn,Sn]),(6,2,cSV c)] fun _ _ => ?_
    refine cxs ?_
    refine ⟨_,Od rfl,?_⟩
    refine ⟨_,Os rfl,?_⟩
    refine cxs ?_
    have hil : i = g.l.length - (n - g.frm).toNat := by omega
    have hx' : c.x = joinL ((g.l.drop (n - g.frm).toNat).map (·.x)) := by rw [hx,hil,← hdl,List.take_length]
    exact Rt ⟨c,true,rfl,by rw [hfin,hx'],hO,hN,hP⟩
   ·replace h1 : (i : Int) < ((g.l.length - (n - g.frm).toNat : Nat) : Int) := of_decide_eq_true h1
    refine Cm gg st' [Ml 4 1,Ml 6 2,(29,.slice (shO g.p 2 (n - g.frm).toNat) (g.l.length - (n - g.frm).toNat) (g.l.length - (n - g.frm).toNat)),(30,vI ((g.l.length - (n - g.frm).toNat : Nat) : Int)),(31,vI (i : Int)),(32,vB true)] [(4,1,[Sn,Sn]),(6,2,cSV c)] fun _ _ => ?_
    have h1' := Int.ofNat_lt.1 h1
    have ⟨b1,o1,k1,r,hpe,hr1,hm1,hc1,hb1⟩ := ((hP.rows hR.1).sh (n - g.frm).toNat).atB (j := i) (by rw [hdl]; exact h1')
    have hmem : r ∈ g.l := List.mem_of_mem_drop (List.mem_of_getElem? hr1)
    have hsn : ((g.l.drop (n - g.frm).toNat).take (i + 1)).map (·.x) = ((g.l.drop (n - g.frm).toNat).take i).map (·.x) ++ [r.x] := by rw [(split_at' hr1).2.1,List.map_append]; rfl
    refine cxs ?_
    refine ⟨_,op_idx (j := (i : Int)) (n := g.l.length - (n - g.frm).toNat) (q := ⟨b1,o1,none⟩) rfl (congrArg (fun u => vS u (g.l.length - (n - g.frm).toNat)) hpe) rfl rfl rfl (Int.natCast_nonneg _) h1,?_⟩
    refine ⟨_,op_lda rfl rfl rfl rfl rfl hm1 hc1 rfl,?_⟩
    refine ⟨_,rfl,?_⟩
    refine ⟨_,Os rfl,?_⟩
    refine Cm (gg + 1) st' [Ml 4 1,Ml 6 2,Ml 8 gg,(29,.slice (shO g.p 2 (n - g.frm).toNat) (g.l.length - (n - g.frm).toNat) (g.l.length - (n - g.frm).toNat)),(30,vI ((g.l.length - (n - g.frm).toNat : Nat) : Int)),(31,vI (i : Int)),(32,vB true)] [(4,1,[Sn,Sn]),(6,2,cSV c),(8,gg,cSV r)] fun _ _ => ?_
    refine ⟨_,Od rfl,?_⟩
    refine ⟨_,Od rfl,?_⟩
    refine ⟨_,rfl,(ac_impl_stateJoin c r st' hO.rdS ((hR.2 r hmem).pres hP) hB (hb.2 r hmem)).mono ?_⟩
    rintro _ s2 ⟨u,rfl,hu,hO2,hN2,hP2⟩
    refine ⟨_,Os rfl,?_⟩
    refine Cm (gg + 1) s2 [Ml 4 1,Ml 6 2,Ml 8 gg,(29,.slice (shO g.p 2 (n - g.frm).toNat) (g.l.length - (n - g.frm).toNat) (g.l.length - (n - g.frm).toNat)),(30,vI ((g.l.length - (n - g.frm).toNat : Nat) : Int)),(31,vI (i : Int)),(32,vB true)] [(4,1,[Sn,Sn]),(6,2,cSV u),(8,gg,cSV r)] fun _ _ => ?_
    have e38 : IntKind.wrap .i64 ((i : Int) + 1) = ((i + 1 : Nat) : Int) := (wrap_i64 (by omega) (by omega)).trans (by omega)
    refine ⟨_,rfl,?_⟩
    exact ⟨(i + 1,u),(g.l.length - (n - g.frm).toNat) - (i + 1),by omega,⟨rfl,rfl,rfl,rfl,congrArg (Value.int .i64) e38,trivial⟩,⟨rfl,rfl,trivial⟩,rfl,h1',by rw [hsn,joinL_snoc,← hx]; exact hu,hO2,hN2.le hP.1,by rw [hu]; exact bigS_join hB (hb.2 r hmem),hP.trans hP2⟩
theorem ac_spec_LogSince (g : LV) (n : Int) (st : St) (hR : RdL st g.p g.l) (hb : bigL g.l) : C 166 [.agg #[vI g.cap,vI g.frm,vS g.p g.l.length],vI n] st (fun v s => ∃ (u : SV) (b : Bool),v = .tuple #[.agg #[vS u.p u.x.items.length,vS u.q u.x.floors.length],vB b] ∧ (u.x,b) = sinceF g.x n ∧ OwnP s (pcS u) ∧ NewP st.next (pcS u) ∧ Pres st s) := by
 have hs : g.l.length ≤ 1048576 := hb.1
 have hgl : g.x.list.length = g.l.length := List.length_map _
 refine AC.enterX (i := ⟨[2,4,6],[2,4,6,14,16,18,27,31,38],[0,1,2,4,5,6,7,24,34],[]⟩) [(7,[],[])] Tryz.func166 rfl rfl (by kernel_rfl) (by kernel_rfl) Tryz.ntmps166 (Lb rfl) rfl ?_
 iterate 2 refine ⟨_,rfl,?_⟩
 refine Cm 2 st [(1,vI n),Ml 2 0,Ml 4 1,(5,vB false)] [(2,0,[vI g.cap,vI g.frm,vS g.p g.l.length]),(4,1,[Sn,Sn])] fun _ _ => ?_
 iterate 3 refine ⟨_,rfl,?_⟩
 refine Cm 3 st [(1,vI n),Ml 2 0,Ml 4 1,(5,vB false),Ml 6 2] [(2,0,[vI g.cap,vI g.frm,vS g.p g.l.length]),(4,1,[Sn,Sn]),(6,2,[Sn,Sn])] fun _ _ => ?_
 refine ⟨_,rfl,?_⟩
 refine ⟨_,rfl,(ac_spec_LogOk g st hR hb).mono ?_⟩
 rintro _ st ⟨a,rfl,hk,rfl⟩
 rcases a with _|_
 ·replace hk := fun k => Bool.false_ne_true (hk.2 k)
  iterate 2 refine ⟨_,rfl,?_⟩
  refine Cm 3 st [(1,vI n),Ml 2 0,Ml 4 1,(5,vB false),Ml 6 2,(24,vB true)] [(2,0,[vI g.cap,vI g.frm,vS g.p g.l.length]),(4,1,[Sn,Sn]),(6,2,[Sn,Sn])] fun _ _ => ?_
  iterate 2 refine ⟨_,rfl,?_⟩
  exact cxs (Rt ⟨⟨none,none,nilS⟩,false,rfl,by rw [sinceF,if_neg (fun h => hk h.1)],pcS_nil,newS_nil,Pres.refl _⟩)
 ·replace hk := hk.1 rfl
  iterate 8 refine ⟨_,rfl,?_⟩
  have hk3' : 0 ≤ g.frm ∧ g.frm ≤ 100000 := hk.2.2.1
  have e21 : IntKind.wrap .i64 (g.frm + (g.l.length : Int)) = g.frm + (g.l.length : Int) := wrap_i64 (by omega) (by omega)
  refine ⟨_,rfl,?_⟩
  refine ⟨_,rfl,(ac_spec_l1In n g.frm (IntKind.wrap .i64 (g.frm + (g.l.length : Int))) st).mono ?_⟩
  rintro _ st ⟨b,rfl,hw,rfl⟩
  rcases b with _|_
  ·replace hw := of_decide_eq_false hw.symm
   iterate 2 refine ⟨_,rfl,?_⟩
   refine Cm 3 st [(1,vI n),Ml 2 0,Ml 4 1,(5,vB false),Ml 6 2,(24,vB true)] [(2,0,[vI g.cap,vI g.frm,vS g.p g.l.length]),(4,1,[Sn,Sn]),(6,2,[Sn,Sn])] fun _ _ => ?_
   iterate 2 refine ⟨_,rfl,?_⟩
   refine cxs ?_
   rw [e21] at hw
   exact Rt ⟨⟨none,none,nilS⟩,false,rfl,by rw [sinceF,if_neg (fun h => hw (by have h2 := h.2; rw [hgl] at h2; exact h2))],pcS_nil,newS_nil,Pres.refl _⟩
  ·replace hw := of_decide_eq_true hw.symm
   iterate 2 refine ⟨_,rfl,?_⟩
   refine Cm 3 st [(1,vI n),Ml 2 0,Ml 4 1,(5,vB false),Ml 6 2,(24,vB false)] [(2,0,[vI g.cap,vI g.frm,vS g.p g.l.length]),(4,1,[Sn,Sn]),(6,2,[Sn,Sn])] fun _ _ => ?_
   rw [e21] at hw
   have hw1 : g.frm ≤ n := hw.1
   have hw2 : n ≤ g.frm + (g.l.length : Int) := hw.2
   have hok : logOk g.x ∧ g.x.frm ≤ n ∧ n ≤ g.x.frm + (g.x.list.length : Int) := ⟨hk,hw1,by rw [hgl]; exact hw2⟩
   have hk3 : 0 ≤ g.frm ∧ g.frm ≤ 100000 := hk.2.2.1
   obtain ⟨d,hd⟩ : ∃ d : Nat,n - g.frm = (d : Int) := ⟨(n - g.frm).toNat,by omega⟩
   have hdl : (g.l.drop d).length = g.l.length - d := List.length_drop
   have hfin : sinceF g.x n = (joinL ((g.l.drop d).map (·.x)),true) := by rw [sinceF,if_pos hok,List.map_drop,show (n - g.x.frm).toNat = d by show (n - g.frm).toNat = d; omega]
   refine cxs ?_
   iterate 2 refine ⟨_,rfl,?_⟩
   have e29 : IntKind.wrap .i64 (n - g.frm) = ((d + 0 : Nat) : Int) := (wrap_i64 (by omega) (by omega)).trans (by omega)
   refine ⟨_,rfl,?_⟩
   refine AW.cutM (3) st [Ml 2 0,Ml 4 1,(5,vB false),Ml 6 2,(7,vI (((d + 0 : Nat) : Int)))] [(2,0,[vI g.cap,vI g.frm,vS g.p g.l.length]),(4,1,[Sn,Sn]),(6,2,[Sn,Sn])] ⟨rfl,rfl,rfl,rfl,congrArg (Value.int .i64) e29,trivial⟩ ⟨rfl,rfl,rfl,trivial⟩ rfl fun _ _ => ?_
   refine AW.loopM (fun x : Nat × SV => [(2,vL 2 0 (0)),(4,vL 4 0 (1)),(6,vL 6 0 (2)),(7,vI ((d + x.1 : Nat) : Int))]) (fun x : Nat × SV => [(2,0,[vI g.cap,vI g.frm,vS g.p g.l.length]),(4,1,[.slice none 0 0,.slice none 0 0]),(6,2,[vS x.2.p x.2.x.items.length,vS x.2.q x.2.x.floors.length])]) (fun m (x : Nat × SV) st' => m = (g.l.length - d) - x.1 ∧ x.1 ≤ g.l.length - d ∧ x.2.x = joinL (((g.l.drop d).take x.1).map (·.x)) ∧ OwnP st' (pcS x.2) ∧ NewP st.next (pcS x.2) ∧ (bigS x.2.x ∧ stateOk x.2.x) ∧ Pres st st') (0,⟨none,none,nilS⟩) _ ⟨rfl,rfl,rfl,rfl,trivial⟩ ⟨rfl,rfl,rfl,trivial⟩ ⟨rfl,Nat.zero_le _,rfl,pcS_nil,newS_nil,⟨bigS_nil,stateOk_nil⟩,Pres.refl _⟩ ?_
   rintro m ⟨i,c⟩ ρ0 ff gg st' ⟨rfl,hi,hx,hO,hN,⟨hB,hS⟩,hP⟩
   simp only at hi hx hO hN hB
   refine ⟨_,rfl,?_⟩
   refine ⟨_,Od rfl,?_⟩
   iterate 2 refine ⟨_,rfl,?_⟩
   rintro (_|_) h1
   ·replace h1 : ¬ (((d + i : Nat) : Int) < (g.l.length : Int)) := of_decide_eq_false h1
    refine Cm gg st' [Ml 2 0,Ml 4 1,Ml 6 2,(7,vI ((d + i : Nat) : Int)),(34,vB false)] [(2,0,[vI g.cap,vI g.frm,vS g.p g.l.length]),(4,1,[Sn,Sn]),(6,2,cSV c)] fun _ _ => ?_
    refine cxs ?_
    refine ⟨_,Od rfl,?_⟩
    refine ⟨_,Os rfl,?_⟩
    refine cxs ?_
    have hil : i = g.l.length - d := by omega
    have hx' : c.x = joinL ((g.l.drop d).map (·.x)) := by rw [hx,hil,← hdl,List.take_length]
    exact Rt ⟨c,true,rfl,by rw [hfin,hx'],hO,hN,hP⟩
   ·replace h1 : ((d + i : Nat) : Int) < (g.l.length : Int) := of_decide_eq_true h1
    refine Cm gg st' [Ml 2 0,Ml 4 1,Ml 6 2,(7,vI ((d + i : Nat) : Int)),(34,vB true)] [(2,0,[vI g.cap,vI g.frm,vS g.p g.l.length]),(4,1,[Sn,Sn]),(6,2,cSV c)] fun _ _ => ?_
    have h1' : d + i < g.l.length := Int.ofNat_lt.1 h1
    have ⟨b1,o1,k1,r,hpe,hr1,hm1,hc1,hb1⟩ := (hP.rows hR.1).atB h1'
    have hmem : r ∈ g.l := List.mem_of_getElem? hr1
    have hrok : stateOk r.x := hk.2.2.2.2 _ (List.mem_map_of_mem hmem)
    have hr2 : (g.l.drop d)[i]? = some r := by rw [List.getElem?_drop]; exact hr1
    have hsn : ((g.l.drop d).take (i + 1)).map (·.x) = ((g.l.drop d).take i).map (·.x) ++ [r.x] := by rw [(split_at' hr2).2.1,List.map_append]; rfl
    refine cxs ?_
    refine ⟨_,Od rfl,?_⟩
    refine ⟨_,rfl,?_⟩
    refine ⟨_,Od rfl,?_⟩
    refine ⟨_,op_idx (j := ((d + i : Nat) : Int)) (n := g.l.length) (q := ⟨b1,o1,none⟩) rfl (congrArg (fun u => vS u g.l.length) hpe) rfl rfl rfl (Int.natCast_nonneg _) h1,?_⟩
    refine ⟨_,op_lda rfl rfl rfl rfl rfl hm1 hc1 rfl,?_⟩
    refine ⟨_,rfl,(ac_spec_l3Join c r st' hO.rdS ((hR.2 r hmem).pres hP) hB (hb.2 r hmem) hS hrok).mono ?_⟩
    rintro _ s2 ⟨u,rfl,hu,hO2,hN2,hP2⟩
    refine ⟨_,Os rfl,?_⟩
    refine Cm gg s2 [Ml 2 0,Ml 4 1,Ml 6 2,(7,vI ((d + i : Nat) : Int)),(34,vB true)] [(2,0,[vI g.cap,vI g.frm,vS g.p g.l.length]),(4,1,[Sn,Sn]),(6,2,cSV u)] fun _ _ => ?_
    have e36 : IntKind.wrap .i64 (((d + i : Nat) : Int) + 1) = ((d + (i + 1) : Nat) : Int) := (wrap_i64 (by omega) (by omega)).trans (by omega)
    refine ⟨_,rfl,?_⟩
    exact ⟨(i + 1,u),(g.l.length - d) - (i + 1),by omega,⟨rfl,rfl,rfl,congrArg (Value.int .i64) e36,trivial⟩,⟨rfl,rfl,rfl,trivial⟩,rfl,by omega,by rw [hsn,joinL_snoc,← hx]; exact hu,hO2,hN2.le hP.1,by rw [hu]; exact ⟨bigS_join hB (hb.2 r hmem),stateOk_join hS hrok⟩,hP.trans hP2⟩
theorem tableAdd_pos {t : List RV} {k : Int} {ms : List Flr} {r : RV} (h : t[k.toNat]? = some r) (hk : 0 ≤ k ∧ k ≤ (t.length : Int) - 1) (hm : marksOk ms) (h5 : 5 ≤ r.l.length) : tableAdd (t.map (·.l)) k ms = putT (t.map (·.l)) k.toNat (addMarks r.l ms) := by
 have hg : (t.map (·.l)).getD k.toNat [] = r.l := by rw [List.getD_eq_getElem?_getD,List.getElem?_map,h]; rfl
 rw [tableAdd,hg,if_pos ⟨by rw [List.length_map]; exact hk,hm,h5⟩]
theorem tableAdd_neg {t : List RV} {k : Int} {ms : List Flr} (h : ¬ (0 ≤ k ∧ k ≤ (t.length : Int) - 1) ∨ ¬ marksOk ms ∨ ∃ r,t[k.toNat]? = some r ∧ r.l.length < 5) : tableAdd (t.map (·.l)) k ms = t.map (·.l) := by
 rw [tableAdd,if_neg]
 rintro ⟨h1,h2,h3⟩
 rw [List.length_map] at h1
 rcases h with h | h | ⟨r,hr,h⟩
 ·exact h h1
 ·exact h h2
 ·rw [List.getD_eq_getElem?_getD,List.getElem?_map,hr] at h3
  exact absurd h3 (Nat.not_le.2 h)
theorem row_l {t u : List RV} {i : Nat} {r : RV} (h : u.map (·.l) = t.map (·.l)) (hr : t[i]? = some r) : ∃ a,u[i]? = some ⟨a,r.l⟩ := by
 have h1 : (u.map (·.l))[i]? = some r.l := by rw [h,List.getElem?_map,hr]; rfl
 rw [List.getElem?_map] at h1
 obtain ⟨y,hy,he⟩ := Option.map_eq_some_iff.1 h1
 exact ⟨y.p,by rw [hy,← he]⟩
theorem ac_spec_TableAdd (p pm : Option Addr) (t : List RV) (k : Int) (ms : List Flr) (st : St) (hR : RdT st p t) (hM : Rows st 2 cFlr pm ms) (hs : szOk t.length) (hr : ∀ r ∈ t,szOk r.l.length) (hms : szOk ms.length) : C 161 [vS p t.length,vI k,vS pm ms.length] st (fun v s => ∃ q u,v = vS q t.length ∧ u.length = t.length ∧ u.map (·.l) = tableAdd (t.map (·.l)) k ms ∧ OwnP s (pcT q u) ∧ NewP st.next (pcT q u) ∧ Pres st s) := by
 have hs : t.length ≤ 1048576 := hs
 have hms' : ms.length ≤ 1048576 := hms
 refine AC.enterX (i := ⟨[],[],[0,1,2,6,7,8,29,34],[]⟩) [(7,[25],[3,8])] Tryz.func161 rfl rfl (by kernel_rfl) (by kernel_rfl) Tryz.ntmps161 (Lb rfl) rfl ?_
 refine Cu lo0 st [(0,vS p t.length),(1,vI k),(2,vS pm ms.length),(6,Sn)] fun _ => ?_
 refine ⟨_,rfl,(ac_spec_l9Copy p t st hR hs hr).mono ?_⟩
 rintro _ s1 ⟨q,u0,rfl,hu,hO,hN,hP⟩
 refine Cu lo0 s1 [(0,vS p t.length),(1,vI k),(2,vS pm ms.length),(6,Sn),(7,vS q t.length)] fun _ => ?_
 have e14 : IntKind.wrap .i64 ((t.length : Int) - 1) = (t.length : Int) - 1 := wrap_i64 (by omega) (by omega)
 have hul : u0.length = t.length := (map_len hu hr).1
 iterate 2 refine ⟨_,rfl,?_⟩
 refine ⟨_,rfl,(ac_spec_l1In k 0 _ s1).mono ?_⟩
 rintro _ s1 ⟨y,rfl,hk,rfl⟩
 rcases y with _|_
 ·replace hk := of_decide_eq_false hk.symm
  iterate 3 refine ⟨_,rfl,?_⟩
  refine Cu lo0 s1 [(1,vI k),(2,vS pm ms.length),(6,Sn),(7,vS q t.length),(29,vB true)] fun _ => ?_
  exact cxs (Rt ⟨q,u0,rfl,hul,by rw [tableAdd_neg (.inl fun h => hk (by rw [e14]; exact h))]; exact hu,hO,hN,hP⟩)
 ·replace hk := of_decide_eq_true hk.symm
  refine ⟨_,rfl,?_⟩
  replace hk : 0 ≤ k ∧ k ≤ IntKind.wrap .i64 ((t.length : Int) - 1) := hk
  rw [e14] at hk
  refine ⟨_,rfl,(ac_spec_MarksOk pm ms s1 (hP.rows hM) hms).mono ?_⟩
  rintro _ s1 ⟨y2,rfl,hmk,rfl⟩
  rcases y2 with _|_
  ·replace hmk := fun k => Bool.false_ne_true (hmk.2 k)
   iterate 3 refine ⟨_,rfl,?_⟩
   refine Cu lo0 s1 [(1,vI k),(2,vS pm ms.length),(6,Sn),(7,vS q t.length),(29,vB true)] fun _ => ?_
   exact cxs (Rt ⟨q,u0,rfl,hul,by rw [tableAdd_neg (.inr (.inl hmk))]; exact hu,hO,hN,hP⟩)
  ·replace hmk := hmk.1 rfl
   iterate 2 refine ⟨_,rfl,?_⟩
   have ⟨b1,o1,k1,r,hpe,hr1,hm1,hc1,hb1⟩ := (hR.pres hP).1.atB (j := k.toNat) (by omega)
   refine ⟨_,op_idx (j := k) (n := t.length) (q := ⟨b1,o1,none⟩) rfl (congrArg (fun u => vS u t.length) hpe) rfl rfl rfl hk.1 (by omega),?_⟩
   refine ⟨_,op_ldc (i := 0) (v := vS r.p r.l.length) rfl rfl rfl rfl hm1 hc1 rfl rfl,?_⟩
   iterate 2 refine ⟨_,rfl,?_⟩
   rintro (_|_) h5
   ·replace h5 : ¬ ((r.l.length : Int) < 5) := of_decide_eq_false h5
    refine ⟨_,rfl,?_⟩
    refine Cu lo0 s1 [(1,vI k),(2,vS pm ms.length),(6,Sn),(7,vS q t.length),(29,vB false)] fun _ => ?_
    have ⟨qK,hqK⟩ := row_l hu hr1
    have hKu : k.toNat < u0.length := (List.getElem?_eq_some_iff.1 hqK).1
    have hself := putT_self hqK
    have hrs : r.l.length ≤ 1048576 := hr r (List.mem_of_getElem? hr1)
    refine cxs ?_
    refine Cu lo0 s1 [(1,vI k),(2,vS pm ms.length),(6,Sn),(7,vS q t.length),(8,vI 0)] fun _ => ?_
    refine AW.loop0 (fun i : Nat => [(1,vI k),(2,vS pm ms.length),(7,vS q t.length),(8,vI (i : Int))]) (fun m (i : Nat) st' => m = ms.length - i ∧ i ≤ ms.length ∧ OwnP st' (pcT q (putT u0 k.toNat ⟨qK,addMarks r.l (ms.take i)⟩)) ∧ NewP st.next (pcT q (putT u0 k.toNat ⟨qK,addMarks r.l (ms.take i)⟩)) ∧ Pres st st') 0 _ ⟨rfl,rfl,rfl,rfl,trivial⟩ rfl ⟨rfl,Nat.zero_le _,(show OwnP s1 (pcT q (putT u0 k.toNat ⟨qK,r.l⟩)) by rw [hself]; exact hO),(show NewP st.next (pcT q (putT u0 k.toNat ⟨qK,r.l⟩)) by rw [hself]; exact hN),hP⟩ ?_
    rintro m i ρ0 st' ⟨rfl,hi,hO',hN',hP'⟩
    iterate 2 refine ⟨_,rfl,?_⟩
    rintro (_|_) h6
    ·replace h6 : ¬ ((i : Int) < (ms.length : Int)) := of_decide_eq_false h6
     refine Cu lo0 st' [(1,vI k),(2,vS pm ms.length),(7,vS q t.length),(8,vI (i : Int)),(34,vB false)] fun _ => ?_
     refine cxs ?_
     refine cxs ?_
     have hil : i = ms.length := by omega
     rw [hil,List.take_length] at hO' hN'
     exact Rt ⟨q,_,rfl,by rw [putT_len hKu]; exact hul,by rw [putT_map,hu,tableAdd_pos hr1 hk hmk (by omega)],hO',hN',hP'⟩
    ·replace h6 : (i : Int) < (ms.length : Int) := of_decide_eq_true h6
     refine Cu lo0 st' [(1,vI k),(2,vS pm ms.length),(7,vS q t.length),(8,vI (i : Int)),(34,vB true)] fun _ => ?_
     have h6' := Int.ofNat_lt.1 h6
     have hcl := addMarks_len (ms.take i) r.l
     have hKt : k.toNat < (putT u0 k.toNat (⟨qK,addMarks r.l (ms.take i)⟩ : RV)).length := by rw [putT_len hKu]; exact hKu
     have hgt := putT_get (x := (⟨qK,addMarks r.l (ms.take i)⟩ : RV)) hKu
     have ⟨b2,o2,k2,x,hpe2,hx,hm2,hc2,hb2⟩ := (hO'.outer.rows cRV_len).atB hKt
     have hxe : x = ⟨qK,addMarks r.l (ms.take i)⟩ := by rw [hgt] at hx; injection hx with hx; exact hx.symm
     have hc2 : (k2.cells.drop (o2 + k.toNat * 1)).take 1 = cRV ⟨qK,addMarks r.l (ms.take i)⟩ := by rw [hc2,hxe]
     have hrow := hO'.row (List.mem_of_getElem? hgt)
     have ⟨b3,o3,k3,mk,hpe3,hmk3,hm3,hc3,hb3⟩ := (hP'.rows hM).atB h6'
     have hid := (hmk i mk hmk3).1
     have ⟨b4,o4,k4,z,hpe4,hz,hm4,hc4,hb4⟩ := (hrow.rows fI_len).atB (j := mk.id.toNat) (by simp only; omega)
     have ⟨a,ha⟩ := hrow.some (by simp only; omega)
     simp only at hpe4 ha
     refine cxs ?_
     refine ⟨_,op_idx (j := k) (n := t.length) (q := ⟨b2,o2,none⟩) rfl (congrArg (fun u => vS u t.length) hpe2) rfl rfl rfl hk.1 (by omega),?_⟩
     refine ⟨_,op_ldc (i := 0) rfl rfl rfl rfl hm2 hc2 rfl rfl,?_⟩
     refine ⟨ld_lt rfl rfl hb2,?_⟩
     refine ⟨_,op_idx (j := (i : Int)) (n := ms.length) (q := ⟨b3,o3,none⟩) rfl (congrArg (fun u => vS u ms.length) hpe3) rfl rfl rfl (Int.natCast_nonneg _) h6,?_⟩
     refine ⟨_,rfl,?_⟩
     refine ⟨_,op_ldc (i := 0) rfl rfl rfl rfl hm3 hc3 rfl rfl,?_⟩
     refine ⟨ld_lt rfl rfl hb3,?_⟩
     refine ⟨_,op_idx (j := k) (n := t.length) (q := ⟨b2,o2,none⟩) rfl (congrArg (fun u => vS u t.length) hpe2) rfl rfl rfl hk.1 (by omega),?_⟩
     refine ⟨_,op_ldc (i := 0) rfl rfl rfl rfl hm2 hc2 rfl rfl,?_⟩
     refine ⟨_,op_idx (j := (i : Int)) (n := ms.length) (q := ⟨b3,o3,none⟩) rfl (congrArg (fun u => vS u ms.length) hpe3) rfl rfl rfl (Int.natCast_nonneg _) h6,?_⟩
     refine ⟨_,rfl,?_⟩
     refine ⟨_,op_ldc (i := 0) rfl rfl rfl rfl hm3 hc3 rfl rfl,?_⟩
     refine ⟨_,op_idx (j := mk.id) (n := (addMarks r.l (ms.take i)).length) (q := ⟨b4,o4,none⟩) rfl (congrArg (fun u => vS u (addMarks r.l (ms.take i)).length) hpe4) rfl rfl rfl hid.1 (by omega),?_⟩
     refine ⟨_,op_ldc (i := 0) rfl rfl rfl rfl hm4 hc4 rfl rfl,?_⟩
     refine ⟨_,op_idx (j := (i : Int)) (n := ms.length) (q := ⟨b3,o3,none⟩) rfl (congrArg (fun u => vS u ms.length) hpe3) rfl rfl rfl (Int.natCast_nonneg _) h6,?_⟩
     refine ⟨_,rfl,?_⟩
     refine ⟨_,op_ldc (i := 1) rfl rfl rfl rfl hm3 hc3 rfl rfl,?_⟩
     refine ⟨_,rfl,(ac_spec_l1Max z mk.inc st').mono ?_⟩
     rintro _ st' ⟨rfl,rfl⟩
     refine ⟨fun _ _ => rfl,?_⟩
     refine ⟨_,op_idx (j := mk.id) (n := (addMarks r.l (ms.take i)).length) (q := ⟨a,0,none⟩) rfl (congrArg (fun u => vS u (addMarks r.l (ms.take i)).length) ha) rfl rfl rfl hid.1 (by omega),?_⟩
     refine op_put (z := 1) (st := st') (f := fI) (j := mk.id.toNat) (l := addMarks r.l (ms.take i)) (y := max z mk.inc) (p := qK) (d := 0 + mk.id.toNat * 1) rfl rfl (Nat.zero_add _) rfl rfl fI_len rfl rfl (by omega) hrow ha ?_
     intro s5 hO5 hP5 hn5
     refine Cu lo0 s5 [(1,vI k),(2,vS pm ms.length),(7,vS q t.length),(8,vI (i : Int)),(34,vB true)] fun _ => ?_
     have hstep : (addMarks r.l (ms.take i)).set mk.id.toNat (max z mk.inc) = addMarks r.l (ms.take (i + 1)) := by rw [(split_at hmk3).2.1,addMarks_snoc,getD_of hz]
     rw [hstep] at hO5
     have hN5 : New st.next qK := hN' (pcRV ⟨qK,addMarks r.l (ms.take i)⟩) (List.mem_cons_of_mem _ (List.mem_map_of_mem (List.mem_of_getElem? hgt)))
     have hOP := hO'.put hP5 hO5 (by rw [addMarks_len,addMarks_len])
     have e36 : IntKind.wrap .i64 ((i : Int) + 1) = ((i + 1 : Nat) : Int) := (wrap_i64 (by omega) (by omega)).trans (by omega)
     refine ⟨_,rfl,?_⟩
     refine ⟨i + 1,ms.length - (i + 1),by omega,⟨rfl,rfl,rfl,congrArg (Value.int .i64) e36,trivial⟩,rfl,rfl,h6',hOP,fun c hc => ?_,hP5.pres hP' hN5⟩
     rcases List.mem_cons.1 hc with rfl | hc
     ·exact (hN' (pcR 1 cRV q (putT u0 k.toNat ⟨qK,addMarks r.l (ms.take i)⟩)) (List.mem_cons_self ..) : New st.next q)
     ·obtain ⟨y,hy,rfl⟩ := List.mem_map.1 hc
      rcases List.mem_append.1 hy with hy | hy
      ·exact hN' (pcRV y) (List.mem_cons_of_mem _ (List.mem_map_of_mem (List.mem_append_left _ hy)))
      ·rcases List.mem_cons.1 hy with rfl | hy
       ·exact hN5
       ·exact hN' (pcRV y) (List.mem_cons_of_mem _ (List.mem_map_of_mem (List.mem_append_right _ (List.mem_cons_of_mem _ hy))))
   ·replace h5 : (r.l.length : Int) < 5 := of_decide_eq_true h5
    refine ⟨_,rfl,?_⟩
    refine Cu lo0 s1 [(1,vI k),(2,vS pm ms.length),(6,Sn),(7,vS q t.length),(29,vB true)] fun _ => ?_
    exact cxs (Rt ⟨q,u0,rfl,hul,by rw [tableAdd_neg (.inr (.inr ⟨r,hr1,by omega⟩))]; exact hu,hO,hN,hP⟩)
theorem big_prune {s x : Sta} {t : List (List Int)} (h : x = pruneF s t) (hb : bigS s) : bigS x := by
 rw [h,pruneF]
 split
 ·exact bigS_join hb (big_floors (marksF_len _ 5))
 ·exact hb
theorem ok_prune {s x : Sta} {t : List (List Int)} (h : x = pruneF s t) (hk : stateOk s) : stateOk x := by
 rw [h,pruneF,if_pos hk]
 exact stateOk_join hk (stateOk_floors (marksOk_F fun i => Int.le_trans (Int.min_le_right _ _) (goneAt_le hk i).2))
theorem uc_spec_Prune (s : SV) (g : TT) (st : St) (hR : RdS st s) (hT : RdT st g.p g.t) (hb : bigS s.x) (hbt : bigT g.x) : C 163 [.agg #[vS s.p s.x.items.length,vS s.q s.x.floors.length],vS g.p g.t.length] st (fun v s' => ∃ u : SV,v = .agg #[vS u.p u.x.items.length,vS u.q u.x.floors.length] ∧ u.x = pruneF s.x g.x ∧ OwnP s' (pcS u) ∧ NewP st.next (pcS u) ∧ Pres st s') :=
 ac_spec_Prune s g.p g.t st hR hT hb (bigT_iff.1 hbt).1 (bigT_iff.1 hbt).2
theorem uc_spec_TableAdd (g : TT) (k : Int) (pm : Option Addr) (ms : List Flr) (st : St) (hT : RdT st g.p g.t) (hM : Rows st 2 cFlr pm ms) (hbt : bigT g.x) (hms : szOk ms.length) : C 161 [vS g.p g.t.length,vI k,vS pm ms.length] st (fun v s => ∃ u : TT,v = vS u.p u.t.length ∧ u.x = tableAdd g.x k ms ∧ u.t.length = g.t.length ∧ OwnP s (pcTT u) ∧ NewP st.next (pcTT u) ∧ Pres st s) :=
 (ac_spec_TableAdd g.p pm g.t k ms st hT hM (bigT_iff.1 hbt).1 (bigT_iff.1 hbt).2 hms).mono fun v s ⟨q,u,h1,h2,h3,h4,h5,h6⟩ => ⟨⟨q,u⟩,h1.trans (congrArg (vS q) h2.symm),h3,h2,h4,h5,h6⟩
theorem Frs.ndS {s0 st st' : St} {v : NW} {u : SV} (h : Frs s0 st (pcNW v)) (hF : Frs st st' (pcS u)) : Frs s0 st' (pcNW { v with s := u }) :=
 Frs.swap (a := []) (c := pcS v.s) h hF
theorem Frs.ndT {s0 st st' : St} {v : NW} {u : TV} (h : Frs s0 st (pcNW v)) (hF : Frs st st' (pcIs u.toRV)) : Frs s0 st' (pcNW { v with t := u }) :=
 Frs.swap (a := pcS v.s) (c := pcIs v.t.toRV) h hF
theorem Frs.ndE {s0 st st' : St} {v : NW} {u : TT} (h : Frs s0 st (pcNW v)) (hF : Frs st st' (pcTT u)) : Frs s0 st' (pcNW { v with seen := u }) := by
 have e : ∀ x : TT,pcNW { v with seen := x } = (pcS v.s ++ (pcIs v.t.toRV ++ (pcLog v.g ++ (pcIs v.got ++ pcIs v.acked)))) ++ (pcTT x ++ (pcSes v.sess ++ pcRis v.rises)) := fun x => by simp only [List.append_assoc]
 rw [e]
 exact Frs.swap (c := pcTT v.seen) (by rw [← e]; exact h) hF
theorem NW.risAt (v : NW) (x : RisV) : pcNW { v with rises := x } = (pcS v.s ++ (pcIs v.t.toRV ++ (pcLog v.g ++ (pcIs v.got ++ (pcIs v.acked ++ (pcTT v.seen ++ pcSes v.sess)))))) ++ pcR 3 cRise x.p x.l :: [] := by simp [List.append_assoc]
theorem NewP.lef {n : Nat} {a b : List Pc} (h : NewP n (a ++ b)) : NewP n a := fun c hc => h c (List.mem_append_left _ hc)
theorem NewP.rig {n : Nat} {a b : List Pc} (h : NewP n (a ++ b)) : NewP n b := fun c hc => h c (List.mem_append_right _ hc)
theorem Frs.upd {s0 st st' : St} {a b : List Pc} {c d : Pc} (h : Frs s0 st (a ++ c :: b)) (hp : Pr c.p st st') (hd : d.own st') (he : d.p = c.p) : Frs s0 st' (a ++ d :: b) :=
 ⟨h.1.update hp hd he,h.2.1.lef.app (NewP.cons (he ▸ h.2.1.rig c (List.mem_cons_self ..)) (NewP.rig (a := [c]) h.2.1.rig)),hp.pres h.2.2 (h.2.1.rig c (List.mem_cons_self ..))⟩
theorem Frs.ris {s0 st st' : St} {v : NW} {l' : List Ris} (h : Frs s0 st (pcNW v)) (hp : Pr v.rises.p st st') (hO : OwnR st' 3 cRise v.rises.p l') : Frs s0 st' (pcNW { v with rises := ⟨v.rises.p,l'⟩ }) := by
 have h : Frs s0 st (pcNW { v with rises := v.rises }) := h
 rw [NW.risAt] at h ⊢
 exact Frs.upd (c := pcR 3 cRise v.rises.p v.rises.l) h hp (own_pc hO) rfl
theorem Frs.ownRis {s0 st : St} {v : NW} (h : Frs s0 st (pcNW v)) : OwnR st 3 cRise v.rises.p v.rises.l := own_one (by decide) len_cRise h.1.right.right.right.right.right.right.right
def riseF (c : Int) (l : List Ris) (y : Itm) : List Ris := match l[y.id.toNat]? with
 | some r => if y.e.inc > r.inc ∨ (y.e.inc = r.inc ∧ y.e.beat > r.beat) then l.set y.id.toNat ⟨y.e.inc,y.e.beat,c⟩ else l
 | none => l
def risesF (c : Int) (l : List Ris) (its : List Itm) : List Ris := its.foldl (riseF c) l
theorem riseF_len (c : Int) (l : List Ris) (y : Itm) : (riseF c l y).length = l.length := by
 unfold riseF
 split
 ·split
  ·exact List.length_set
  ·rfl
 ·rfl
theorem risesF_len (c : Int) : ∀ (its : List Itm) (l : List Ris),(risesF c l its).length = l.length
 | [],_ => rfl
 | y :: its,l => by
  show (risesF c (riseF c l y) its).length = _
  rw [risesF_len c its,riseF_len]
theorem risesF_succ {c : Int} {l : List Ris} {its : List Itm} {i : Nat} {y : Itm} (h : its[i]? = some y) : risesF c l (its.take (i + 1)) = riseF c (risesF c l (its.take i)) y := by
 rw [List.take_add_one,h]
 simp [risesF]
theorem riseF_yes {c : Int} {l : List Ris} {y : Itm} {r : Ris} (h : l[y.id.toNat]? = some r) (hk : y.e.inc > r.inc ∨ (y.e.inc = r.inc ∧ y.e.beat > r.beat)) : riseF c l y = l.set y.id.toNat ⟨y.e.inc,y.e.beat,c⟩ := by unfold riseF; rw [h]; exact if_pos hk
theorem riseF_no {c : Int} {l : List Ris} {y : Itm} {r : Ris} (h : l[y.id.toNat]? = some r) (hk : ¬ (y.e.inc > r.inc ∨ (y.e.inc = r.inc ∧ y.e.beat > r.beat))) : riseF c l y = l := by unfold riseF; rw [h]; exact if_neg hk
noncomputable def takeF (x : Nd) (p : Sta) : Nd :=
 let seen := tableAdd x.seen x.id (marksF (goneAt (joinF x.s p 5)) 5)
 let s := pruneF (joinF x.s p 5) seen
 { x with s := s,t := treeF s,seen := seen,rises := risesF x.clock x.rises s.items }
theorem take_eq {g y : Nd} {p s1 s2 : Sta} {sn : List (List Int)} {t2 : Tr} {l : List Ris} (hy : y = g) (h1 : s1 = joinF g.s p 5) (h2 : sn = tableAdd g.seen g.id (marksF (goneAt s1) 5)) (h3 : s2 = pruneF s1 sn) (h4 : t2 = treeF s2) (hl : l = risesF g.clock g.rises s2.items) : ({ y with s := s2,t := t2,seen := sn,rises := l } : Nd) = takeF g p := by
 subst hy h1 h2 h3 h4 hl
 rfl
theorem tAdd_big {t : List (List Int)} {k : Int} {ms : List Flr} (hb : bigT t) : bigT (tableAdd t k ms) := by
 unfold tableAdd
 split
 ·rename_i h
  have hk : k.toNat < t.length := by omega
  have hx : t[k.toNat]? = some (t.getD k.toNat []) := by
   rw [List.getD_eq_getElem?_getD,List.getElem?_eq_getElem hk]; rfl
  refine ⟨by rw [putT_len hk]; exact hb.1,fun l hl => ?_⟩
  rcases List.mem_append.1 hl with h1 | h1
  ·exact hb.2 l (List.mem_of_mem_take h1)
  ·rcases List.mem_cons.1 h1 with rfl | h1
   ·rw [addMarks_len]; exact hb.2 _ (List.mem_of_getElem? hx)
   ·exact hb.2 l (List.mem_of_mem_drop h1)
 ·exact hb
theorem tableAdd_big {t r : List (List Int)} {k : Int} {ms : List Flr} (h : r = tableAdd t k ms) (hb : bigT t) : bigT r := by
 rw [h]; exact tAdd_big hb
theorem Frs.is0 {a : St} : Frs a a (pcIs ⟨none,[]⟩) := ⟨OwnP.one (.inl ⟨rfl,rfl⟩),NewP.cons New.none NewP.nil,Pres.refl _⟩
theorem Frs.st0 {a : St} : Frs a a (pcS ⟨none,none,nilS⟩) := ⟨pcS_nil,newS_nil,Pres.refl _⟩
theorem Frs.fv0 {a : St} : Frs a a (pcFV ⟨none,[]⟩) := ⟨OwnP.one (.inl ⟨rfl,rfl⟩),NewP.cons New.none NewP.nil,Pres.refl _⟩
theorem Frs.renew {s0 st st' : St} {a b : List Pc} {c d : Pc} (h : Frs s0 st (a ++ c :: b)) (hp : Pr c.p st st') (hd : d.own st') (hn : New st.next d.p) : Frs s0 st' (a ++ d :: b) :=
 ⟨h.1.renew hp hd hn,h.2.1.left.app (NewP.cons (hn.le h.2.2.1) (NewP.right (a := [c]) h.2.1.right)),hp.pres h.2.2 (h.2.1.right c (List.mem_cons_self ..))⟩
theorem Frs.update {s0 st st' : St} {a b : List Pc} {c d : Pc} (h : Frs s0 st (a ++ c :: b)) (hp : Pr c.p st st') (hd : d.own st') (he : d.p = c.p) : Frs s0 st' (a ++ d :: b) :=
 ⟨h.1.update hp hd he,h.2.1.left.app (NewP.cons (he ▸ h.2.1.right c (List.mem_cons_self ..)) (NewP.right (a := [c]) h.2.1.right)),hp.pres h.2.2 (h.2.1.right c (List.mem_cons_self ..))⟩
theorem NW.sessAt (v : NW) (x : SesV) : pcNW { v with sess := x } = (pcS v.s ++ (pcIs v.t.toRV ++ (pcLog v.g ++ (pcIs v.got ++ (pcIs v.acked ++ pcTT v.seen))))) ++ pcR 4 cSess x.p x.l :: pcRis v.rises := by simp [List.append_assoc]
theorem Frs.sessPush {s0 st st' : St} {v : NW} {q : Option Addr} {l : List Ses} (h : Frs s0 st (pcNW v)) (hp : Pr v.sess.p st st') (hO : OwnR st' 4 cSess q l) (hn : New st.next q) : Frs s0 st' (pcNW { v with sess := ⟨q,l⟩ }) := by
 rw [NW.sessAt v ⟨q,l⟩]
 exact Frs.renew (c := pcR 4 cSess v.sess.p v.sess.l) (by rw [← NW.sessAt v v.sess]; exact h) hp (own_pc hO) hn
theorem OwnP.ses {st : St} {v : NW} (h : OwnP st (pcNW v)) : OwnR st 4 cSess v.sess.p v.sess.l := own_one (by decide) len_cSess h.right.right.right.right.right.right.left
theorem Frs.part {s0 st st' : St} {v : MV} {u : SV} (h : Frs s0 st (pcMV v)) (hF : Frs st st' (pcS u)) : Frs s0 st' (pcMV { v with part := u }) := by
 have e : ∀ x : SV,pcMV { v with part := x } = (pcIs v.tree.toRV ++ (pcIs v.vec ++ pcIs v.leaves)) ++ (pcS x ++ pcFV v.marks) := fun x => by simp only [List.append_assoc]
 rw [e]
 exact Frs.swap (c := pcS v.part) (by rw [← e]; exact h) hF
theorem Frs.tree {s0 st st' : St} {v : MV} {u : TV} (h : Frs s0 st (pcMV v)) (hF : Frs st st' (pcIs u.toRV)) : Frs s0 st' (pcMV { v with tree := u }) :=
 Frs.swap (a := []) (c := pcIs v.tree.toRV) h hF
noncomputable def ship1 (x : Nd) (n : Int) : Sta × Bool := if (sinceF x.g n).2 = true then ((sinceF x.g n).1,true) else (x.s,false)
open Classical in
noncomputable def shipF (x : Nd) (n : Int) : Sta × Bool := if nodeOk x then ship1 x n else (nilS,false)
theorem ship1_t {x : Nd} {n : Int} {u : Sta} (h : (u,true) = sinceF x.g n) : ship1 x n = (u,true) := by rw [ship1,← h]; rfl
theorem ship1_f {x : Nd} {n : Int} {u : Sta} (h : (u,false) = sinceF x.g n) : ship1 x n = (x.s,false) := by rw [ship1,← h]; rfl
theorem ship_ok {x : Nd} {n : Int} (h : nodeOk x) : shipF x n = ship1 x n := if_pos h
theorem ac_impl_Ship (g : NV) (n : Int) (st : St) (hR : RdN st g) (hb : bigN g.x) : C 19 [(vNV g),vI n] st (fun v s => ∃ (u : SV) (b : Bool),v = .tuple #[.agg #[vS u.p u.x.items.length,vS u.q u.x.floors.length],vB b] ∧ (u.x,b) = shipF g.x n ∧ OwnP s (pcS u) ∧ NewP st.next (pcS u) ∧ Pres st s) := by
 refine AC.enterX (i := ⟨[2,4,6],[2,4,6,13,21],[0,1,2,4,5,6,7,10,20],[]⟩) [] Tryz.func19 rfl rfl (by kernel_rfl) (by kernel_rfl) Tryz.ntmps19 (Lb rfl) rfl ?_
 iterate 2 refine ⟨_,rfl,?_⟩
 refine Cm 2 st [(1,vI n),Ml 2 0,Ml 4 1,(5,vB false)] [(2,0,cNV g),(4,1,[Sn,Sn])] fun _ _ => ?_
 refine ⟨_,op_ldo (v := (vNV g)) rfl rfl rfl rfl,?_⟩
 refine ⟨_,rfl,(ac_impl_NodeOk g st hR (by first | assumption | omega)).mono ?_⟩
 rintro _ s9 ⟨x9,rfl,h9,hP9⟩
 rcases x9 with _|_
 ·replace h9 := fun k => Bool.false_ne_true (h9.2 k)
  refine ⟨_,rfl,?_⟩
  refine Cm 2 s9 [(1,vI n),Ml 2 0,Ml 4 1,(5,vB false),(10,vB true)] [(2,0,cNV g),(4,1,[Sn,Sn])] fun _ _ => ?_
  refine ⟨_,rfl,?_⟩
  refine ⟨_,Os rfl,?_⟩
  exact cxs (Rt ⟨⟨none,none,nilS⟩,false,rfl,by rw [shipF,if_neg h9],pcS_nil,newS_nil,hP9⟩)
 ·replace h9 := h9.1 rfl
  refine ⟨_,rfl,?_⟩
  refine Cm 2 s9 [(1,vI n),Ml 2 0,Ml 4 1,(5,vB false),(10,vB false)] [(2,0,cNV g),(4,1,[Sn,Sn])] fun _ _ => ?_
  refine cxs ?_
  refine ⟨_,rfl,?_⟩
  refine ⟨_,Od rfl,?_⟩
  refine ⟨_,rfl,(ac_impl_LogSince g.g n s9 (hR.g.pres hP9) (bigLog_iff.1 hb.g)).mono ?_⟩
  rintro _ s16 ⟨u16,b16,rfl,h16,hO16,hN16,hP16⟩
  rcases b16 with _|_
  ·iterate 3 refine ⟨_,rfl,?_⟩
   refine ⟨_,Os rfl,?_⟩
   refine Cm 3 s16 [Ml 2 0,Ml 4 1,(5,vB false),Ml 6 2,(7,vB false)] [(2,0,cNV g),(4,1,[Sn,Sn]),(6,2,cSV u16)] fun _ _ => ?_
   refine ⟨_,rfl,?_⟩
   refine Cm 3 s16 [Ml 2 0,Ml 4 1,(5,vB false),Ml 6 2,(20,vB true)] [(2,0,cNV g),(4,1,[Sn,Sn]),(6,2,cSV u16)] fun _ _ => ?_
   refine ⟨_,rfl,?_⟩
   refine ⟨_,Od rfl,?_⟩
   refine ⟨_,rfl,(ac_impl_copyState g.s s16 (hR.s.pres (hP9.trans hP16)) (hb.s)).mono ?_⟩
   rintro _ s23 ⟨u23,rfl,h23,hO23,hN23,hP23⟩
   refine ⟨_,Os rfl,?_⟩
   exact cxs (Rt ⟨u23,false,rfl,by rw [ship_ok h9,ship1_f h16,h23],hO23,hN23.le (hP9.trans hP16).1,(hP9.trans hP16).trans hP23⟩)
  ·iterate 3 refine ⟨_,rfl,?_⟩
   refine ⟨_,Os rfl,?_⟩
   refine Cm 3 s16 [Ml 2 0,Ml 4 1,(5,vB false),Ml 6 2,(7,vB true)] [(2,0,cNV g),(4,1,[Sn,Sn]),(6,2,cSV u16)] fun _ _ => ?_
   refine ⟨_,rfl,?_⟩
   refine Cm 3 s16 [Ml 2 0,Ml 4 1,(5,vB false),Ml 6 2,(20,vB false)] [(2,0,cNV g),(4,1,[Sn,Sn]),(6,2,cSV u16)] fun _ _ => ?_
   refine cxs ?_
   refine ⟨_,Od rfl,?_⟩
   refine ⟨_,Os rfl,?_⟩
   exact cxs (Rt ⟨u16,true,rfl,by rw [ship_ok h9,ship1_t h16],hO16,hN16.le hP9.1,hP9.trans hP16⟩)
theorem ac_spec_l13Ship (g : NV) (n : Int) (st : St) (hR : RdN st g) (hb : bigN g.x) : C 72 [(vNV g),vI n] st (fun v s => ∃ (u : SV) (b : Bool),v = .tuple #[.agg #[vS u.p u.x.items.length,vS u.q u.x.floors.length],vB b] ∧ (u.x,b) = ship1 g.x n ∧ OwnP s (pcS u) ∧ NewP st.next (pcS u) ∧ Pres st s) := by
 refine AC.enterX (i := ⟨[2,4,6],[2,4,6,9,17],[0,1,2,4,5,6,7,15],[]⟩) [] Tryz.func72 rfl rfl (by kernel_rfl) (by kernel_rfl) Tryz.ntmps72 (Lb rfl) rfl ?_
 iterate 2 refine ⟨_,rfl,?_⟩
 refine Cm 2 st [(1,vI n),Ml 2 0,Ml 4 1,(5,vB false)] [(2,0,cNV g),(4,1,[Sn,Sn])] fun _ _ => ?_
 refine ⟨_,rfl,?_⟩
 refine ⟨_,Od rfl,?_⟩
 refine ⟨_,rfl,(ac_spec_LogSince g.g n st hR.g (bigLog_iff.1 hb.g)).mono ?_⟩
 rintro _ s12 ⟨u12,b12,rfl,h12,hO12,hN12,hP12⟩
 rcases b12 with _|_
 ·iterate 3 refine ⟨_,rfl,?_⟩
  refine ⟨_,Os rfl,?_⟩
  refine cxs ?_
  refine Cm 3 s12 [Ml 2 0,Ml 4 1,(5,vB false),Ml 6 2,(15,vB false)] [(2,0,cNV g),(4,1,[Sn,Sn]),(6,2,cSV u12)] fun _ _ => ?_
  refine cxs ?_
  refine ⟨_,rfl,?_⟩
  refine ⟨_,Od rfl,?_⟩
  refine ⟨_,rfl,(ac_spec_l3Copy g.s s12 (hR.s.pres hP12) (hb.s)).mono ?_⟩
  rintro _ s19 ⟨u19,rfl,h19,hO19,hN19,hP19⟩
  refine ⟨_,Os rfl,?_⟩
  exact cxs (Rt ⟨u19,false,rfl,by rw [ship1_f h12,h19],hO19,hN19.le hP12.1,hP12.trans hP19⟩)
 ·iterate 3 refine ⟨_,rfl,?_⟩
  refine ⟨_,Os rfl,?_⟩
  refine cxs ?_
  refine Cm 3 s12 [Ml 2 0,Ml 4 1,(5,vB false),Ml 6 2,(15,vB true)] [(2,0,cNV g),(4,1,[Sn,Sn]),(6,2,cSV u12)] fun _ _ => ?_
  refine ⟨_,Od rfl,?_⟩
  refine ⟨_,Os rfl,?_⟩
  exact cxs (Rt ⟨u12,true,rfl,(ship1_t h12).symm,hO12,hN12,hP12⟩)
theorem ac_spec_Ship (g : NV) (n : Int) (st : St) (hR : RdN st g) (hb : bigN g.x) : C 20 [(vNV g),vI n] st (fun v s => ∃ (u : SV) (b : Bool),v = .tuple #[.agg #[vS u.p u.x.items.length,vS u.q u.x.floors.length],vB b] ∧ (u.x,b) = shipF g.x n ∧ OwnP s (pcS u) ∧ NewP st.next (pcS u) ∧ Pres st s) := by
 refine AC.enterX (i := ⟨[2,4],[2,4],[0,1,2,4,5,8],[]⟩) [] Tryz.func20 rfl rfl (by kernel_rfl) (by kernel_rfl) Tryz.ntmps20 (Lb rfl) rfl ?_
 iterate 2 refine ⟨_,rfl,?_⟩
 refine Cm 2 st [(1,vI n),Ml 2 0,Ml 4 1,(5,vB false)] [(2,0,cNV g),(4,1,[Sn,Sn])] fun _ _ => ?_
 refine ⟨_,op_ldo (v := (vNV g)) rfl rfl rfl rfl,?_⟩
 refine ⟨_,rfl,(ac_spec_NodeOk g st hR (by first | assumption | omega)).mono ?_⟩
 rintro _ s7 ⟨x7,rfl,h7,hP7⟩
 rcases x7 with _|_
 ·replace h7 := fun k => Bool.false_ne_true (h7.2 k)
  refine ⟨_,rfl,?_⟩
  refine Cm 2 s7 [(1,vI n),Ml 2 0,Ml 4 1,(5,vB false),(8,vB true)] [(2,0,cNV g),(4,1,[Sn,Sn])] fun _ _ => ?_
  refine ⟨_,rfl,?_⟩
  refine ⟨_,Os rfl,?_⟩
  exact cxs (Rt ⟨⟨none,none,nilS⟩,false,rfl,by rw [shipF,if_neg h7],pcS_nil,newS_nil,hP7⟩)
 ·replace h7 := h7.1 rfl
  refine ⟨_,rfl,?_⟩
  refine Cm 2 s7 [(1,vI n),Ml 2 0,Ml 4 1,(5,vB false),(8,vB false)] [(2,0,cNV g),(4,1,[Sn,Sn])] fun _ _ => ?_
  refine cxs ?_
  refine ⟨_,op_ldo (v := (vNV g)) rfl rfl rfl rfl,?_⟩
  refine ⟨_,rfl,(ac_spec_l13Ship g n s7 (hR.pres hP7) (by first | assumption | omega)).mono ?_⟩
  rintro _ s12 ⟨u12,b12,rfl,h12,hO12,hN12,hP12⟩
  iterate 2 refine ⟨_,rfl,?_⟩
  refine ⟨_,Os rfl,?_⟩
  exact cxs (Rt ⟨u12,b12,rfl,by rw [ship_ok h7]; exact h12,hO12,hN12.le hP7.1,hP7.trans hP12⟩)
noncomputable def msgF (x : Nd) (k to n : Int) : Mg := ⟨k,x.id,to,n,logSeq x.g,⟨[],0⟩,x.got,[],nilS,marksF (goneAt x.s) 5⟩
theorem ac_spec_l13Msg (g : NV) (k to n : Int) (st : St) (hR : RdN st g) (hb : bigN g.x) : C 94 [(vNV g),vI k,vI to,vI n] st (fun v s => ∃ u : MV,v = .agg #[vI u.kind,vI u.frm,vI u.to,vI u.num,vI u.hi,vS u.tree.p u.tree.l.length,vI u.tree.root,vS u.vec.p u.vec.l.length,vS u.leaves.p u.leaves.l.length,vS u.part.p u.part.x.items.length,vS u.part.q u.part.x.floors.length,vS u.marks.p u.marks.l.length] ∧ u.x = msgF g.x k to n ∧ OwnP s (pcMV u) ∧ NewP st.next (pcMV u) ∧ Pres st s) := by
 have hs1 : g.got.l.length ≤ 1048576 := hb.got
 refine AC.enterX (i := ⟨[4,8],[4,8,10,14,18,21],[0,1,2,3,4,8],[]⟩) [(1,[7,11,14],[2,10,13])] Tryz.func94 rfl rfl (by kernel_rfl) (by kernel_rfl) Tryz.ntmps94 (Lb rfl) rfl ?_
 iterate 2 refine ⟨_,rfl,?_⟩
 refine Cm 2 st [(1,vI k),(2,vI to),(3,vI n),Ml 4 0,Ml 8 1] [(4,0,cNV g),(8,1,[vI 0,vI 0,vI 0,vI 0,vI 0,Sn,vI 0,Sn,Sn,Sn,Sn,Sn])] fun _ _ => ?_
 refine ⟨_,rfl,?_⟩
 refine ⟨_,Od rfl,?_⟩
 refine ⟨ld_own rfl rfl rfl,?_⟩
 refine ⟨_,rfl,?_⟩
 refine ⟨_,Od rfl,?_⟩
 refine ⟨_,rfl,(ac_spec_LogSeq g.g st hR.g (bigLog_iff.1 hb.g)).mono ?_⟩
 rintro _ st ⟨rfl,rfl⟩
 refine ⟨fun _ _ => rfl,?_⟩
 refine op_nilK (z := 1) (f := fI) rfl rfl rfl rfl (by decide) rfl ?_
 intro q17 s17 hO17 hP17 hN17
 refine ⟨_,rfl,?_⟩
 refine ⟨_,Od rfl,?_⟩
 refine ⟨ld_own rfl rfl rfl,?_⟩
 refine op_cat' (z := 1) (st := s17) (f := fI) (b := 8) (l := []) (l2 := g.got.l) rfl rfl rfl rfl rfl rfl rfl (by decide) fI_len rfl rfl rfl rfl (by first | omega | (simp only [List.length_nil]; omega)) (by unfold maxLen; first | omega | (simp only [List.length_nil]; omega)) hO17 (hP17.rows hR.got) ?_
 intro q20 s20 hO20 hPr20 hN20
 refine ⟨hPr20.low hP17 hN17,?_⟩
 refine ⟨_,rfl,?_⟩
 refine ⟨_,Od rfl,?_⟩
 refine ⟨ld_own rfl rfl rfl,?_⟩
 have hP20 : Pres st s20 := hPr20.pres hP17 hN17
 refine ⟨_,rfl,(ac_spec_MarksOf g.s s20 (hR.s.pres hP20) hb.s).mono ?_⟩
 rintro _ s23 ⟨q23,rfl,hO23,hP23,hN23⟩
 refine ⟨hP23.low hP20,?_⟩
 refine ⟨_,rfl,?_⟩
 refine ⟨_,op_stw (vs := [vI k,vI g.id,vI to,vI n,vI (logSeq g.g.x),.slice none 0 0,vI 0,vS q20 g.got.l.length,.slice none 0 0,.slice none 0 0,.slice none 0 0,vS q23 (marksF (goneAt g.s.x) 5).length]) rfl rfl rfl rfl rfl rfl rfl rfl,?_⟩
 refine cxs ?_
 have hF : Frs st s23 (pcMV ⟨k,g.id,to,n,logSeq g.g.x,⟨⟨none,[]⟩,0⟩,⟨q20,g.got.l⟩,⟨none,[]⟩,⟨none,none,nilS⟩,⟨q23,marksF (goneAt g.s.x) 5⟩⟩) := Frs.is0.join ((Frs.one hO20 (cat_new hP17 hN17 hN20) hP20).join (Frs.is0.join (Frs.st0.join (Frs.one hO23 hN23 hP23))))
 exact Rt ⟨_,rfl,rfl,hF.1,hF.2.1,hF.2.2⟩
def zMg : Mg := ⟨0,0,0,0,0,⟨[],0⟩,[],[],nilS,[]⟩
def zMV : MV := ⟨0,0,0,0,0,⟨⟨none,[]⟩,0⟩,⟨none,[]⟩,⟨none,[]⟩,⟨none,none,nilS⟩,⟨none,[]⟩⟩
theorem Frs.mg0 {a : St} : Frs a a (pcMV zMV) := Frs.is0.join (Frs.is0.join (Frs.is0.join (Frs.st0.join Frs.fv0)))
def peerOf (x : Nd) (to : Int) : Prop := (0 ≤ to ∧ to ≤ x.n - 1) ∧ ¬ to = x.id
structure synOk (x : Nd) (to : Int) : Prop where
 ok : nodeOk x
 peer : peerOf x to
 slot : ¬ slotF x.sess to false 0 ≥ 0
 room : (x.sess.length : Int) < x.slots
 num : ¬ x.num = 100000
def begun (x : Nd) (to : Int) : Nd := { x with num := x.num + 1,sess := x.sess ++ [⟨to,x.num + 1,false,0⟩] }
open Classical in
noncomputable def synF (x : Nd) (to : Int) : Nd × Mg × Bool := if synOk x to then (begun x to,{ msgF (begun x to) 2 to (x.num + 1) with tree := x.t },true) else (x,zMg,false)
theorem syn_no {g x : Nd} {to : Int} (h : ¬ synOk g to) (hx : x = g) : (x,zMg,false) = synF g to := by rw [hx]; exact (if_neg h).symm
theorem syn_yes {g x : Nd} {to : Int} {m : Mg} {t : Tr} (h : synOk g to) (hx : x = g) (hm : m = msgF (begun x to) 2 to (x.num + 1)) (ht : t = g.t) : (begun x to,({ m with tree := t } : Mg),true) = synF g to := by
 unfold synF
 rw [if_pos h,hm,ht,hx]
theorem ac_spec_Syn (g : NV) (to : Int) (st : St) (hR : RdN st g) (hb : bigN g.x) : C 28 [(vNV g),vI to] st (fun v s => ∃ (u : NW) (m : MV) (b : Bool),v = .tuple #[(vNV u),.agg #[vI m.kind,vI m.frm,vI m.to,vI m.num,vI m.hi,vS m.tree.p m.tree.l.length,vI m.tree.root,vS m.vec.p m.vec.l.length,vS m.leaves.p m.leaves.l.length,vS m.part.p m.part.x.items.length,vS m.part.q m.part.x.floors.length,vS m.marks.p m.marks.l.length],vB b] ∧ (u.x,m.x,b) = synF g.x to ∧ OwnP s (pcNW u ++ pcMV m) ∧ NewP st.next (pcNW u ++ pcMV m) ∧ Pres st s) := by
 refine AC.enterX (i := ⟨[2,4,5,7,8],[2,4,5,7,8,27,30,35,41,44,45,48,53,56,59,62],[0,1,2,4,5,6,7,8,38],[]⟩) [(8,[2],[1]),(1008,[],[8])] Tryz.func28 rfl rfl (by kernel_rfl) (by kernel_rfl) Tryz.ntmps28 (Lb rfl) rfl ?_
 iterate 3 refine ⟨_,rfl,?_⟩
 refine Cm 3 st [(1,vI to),Ml 2 0,Ml 4 1,Ml 5 2,(6,vB false)] [(2,0,cNV g),(4,1,Zn),(5,2,[vI 0,vI 0,vI 0,vI 0,vI 0,Sn,vI 0,Sn,Sn,Sn,Sn,Sn])] fun _ _ => ?_
 refine ⟨_,op_ldo (v := (vNV g)) rfl rfl rfl rfl,?_⟩
 refine ⟨_,rfl,(ac_spec_l11Copy g st hR (by first | assumption | omega)).mono ?_⟩
 rintro _ s10 ⟨u10,rfl,h10,hO10,hN10,hP10⟩
 refine ⟨_,rfl,?_⟩
 refine ⟨_,op_stw (vs := cNV u10.v) rfl rfl rfl rfl rfl rfl rfl rfl,?_⟩
 refine Cm 4 s10 [(1,vI to),Ml 2 0,Ml 4 1,Ml 5 2,(6,vB false),Ml 7 3] [(2,0,cNV g),(4,1,Zn),(5,2,[vI 0,vI 0,vI 0,vI 0,vI 0,Sn,vI 0,Sn,Sn,Sn,Sn,Sn]),(7,3,cNV u10.v)] fun _ _ => ?_
 refine ⟨_,op_ldo (v := (vNV g)) rfl rfl rfl rfl,?_⟩
 refine ⟨_,rfl,(ac_spec_NodeOk g s10 (hR.pres hP10) (by first | assumption | omega)).mono ?_⟩
 rintro _ s12 ⟨x12,rfl,h12,hP12⟩
 rcases x12 with _|_
 ·replace h12 := fun k => Bool.false_ne_true (h12.2 k)
  iterate 5 refine ⟨_,rfl,?_⟩
  refine Cm 4 s12 [(1,vI to),Ml 4 1,Ml 5 2,(6,vB false),Ml 7 3,(38,vB true)] [(4,1,Zn),(5,2,[vI 0,vI 0,vI 0,vI 0,vI 0,Sn,vI 0,Sn,Sn,Sn,Sn,Sn]),(7,3,cNV u10.v)] fun _ _ => ?_
  have hF12 : Frs st s12 (pcNW u10) := ⟨hO10.pres hP12,hN10,hP10.trans hP12⟩
  refine ⟨_,op_ldo (v := (vNV u10.v)) rfl rfl rfl rfl,?_⟩
  refine ⟨_,rfl,?_⟩
  refine ⟨_,op_stw (vs := cNV u10.v) rfl rfl rfl rfl rfl rfl rfl rfl,?_⟩
  refine ⟨_,op_stw (vs := [vI 0,vI 0,vI 0,vI 0,vI 0,.slice none 0 0,vI 0,.slice none 0 0,.slice none 0 0,.slice none 0 0,.slice none 0 0,.slice none 0 0]) rfl rfl rfl rfl rfl rfl rfl rfl,?_⟩
  refine cxs ?_
  have hF := hF12.join Frs.mg0
  exact Rt ⟨u10,zMV,false,rfl,syn_no (fun k => h12 k.ok) h10,hF.1,hF.2.1,hF.2.2⟩
 ·replace h12 := h12.1 rfl
  refine ⟨_,rfl,?_⟩
  refine ⟨_,op_ldo (v := (vNV g)) rfl rfl rfl rfl,?_⟩
  have hn : 1 ≤ g.n ∧ g.n ≤ 5 := h12.n
  refine ⟨_,rfl,(ac_spec_l13Peer g to s12 (by first | assumption | omega)).mono ?_⟩
  rintro _ s12 ⟨x17,rfl,h17,rfl⟩
  rcases x17 with _|_
  ·replace h17 := fun k => Bool.false_ne_true (h17.2 k)
   iterate 5 refine ⟨_,rfl,?_⟩
   refine Cm 4 s12 [(1,vI to),Ml 4 1,Ml 5 2,(6,vB false),Ml 7 3,(38,vB true)] [(4,1,Zn),(5,2,[vI 0,vI 0,vI 0,vI 0,vI 0,Sn,vI 0,Sn,Sn,Sn,Sn,Sn]),(7,3,cNV u10.v)] fun _ _ => ?_
   have hF12 : Frs st s12 (pcNW u10) := ⟨hO10.pres hP12,hN10,hP10.trans hP12⟩
   refine ⟨_,op_ldo (v := (vNV u10.v)) rfl rfl rfl rfl,?_⟩
   refine ⟨_,rfl,?_⟩
   refine ⟨_,op_stw (vs := cNV u10.v) rfl rfl rfl rfl rfl rfl rfl rfl,?_⟩
   refine ⟨_,op_stw (vs := [vI 0,vI 0,vI 0,vI 0,vI 0,.slice none 0 0,vI 0,.slice none 0 0,.slice none 0 0,.slice none 0 0,.slice none 0 0,.slice none 0 0]) rfl rfl rfl rfl rfl rfl rfl rfl,?_⟩
   refine cxs ?_
   have hF := hF12.join Frs.mg0
   exact Rt ⟨u10,zMV,false,rfl,syn_no (fun k => h17 k.peer) h10,hF.1,hF.2.1,hF.2.2⟩
  ·replace h17 := h17.1 rfl
   iterate 2 refine ⟨_,rfl,?_⟩
   refine ⟨_,op_ldo (v := (vNV g)) rfl rfl rfl rfl,?_⟩
   refine ⟨_,rfl,(ac_spec_Slot g to false s12 (hR.pres (hP10.trans hP12)) (by first | assumption | omega)).mono ?_⟩
   rintro _ s12 ⟨rfl,rfl⟩
   refine ⟨_,rfl,?_⟩
   rintro (_|_) h24
   ·replace h24 : ¬ ((slotF g.sess.l to false 0) ≥ (0)) := of_decide_eq_false h24
    iterate 2 refine ⟨_,rfl,?_⟩
    refine ⟨_,Od rfl,?_⟩
    refine ow_cut [(1,vI to),(2,vL 2 0 (0)),(4,vL 4 0 (1)),(5,vL 5 0 (2)),(6,vB false),(7,vL 7 0 (3)),(26,vB false),(28,vS g.sess.p g.sess.l.length)] ⟨rfl,rfl,rfl,rfl,rfl,rfl,rfl,rfl,trivial⟩ fun _ => ?_
    iterate 2 refine ⟨_,rfl,?_⟩
    refine ⟨_,Od rfl,?_⟩
    have hle0 : (g.sess.l.length : Int) ≤ g.slots := h12.sess.1
    refine ⟨_,rfl,?_⟩
    rintro (_|_) h32
    ·replace h32 : ¬ ((g.sess.l.length : Int) = g.slots) := beq_eq_false_iff_ne.1 h32
     iterate 2 refine ⟨_,rfl,?_⟩
     refine ⟨_,Od rfl,?_⟩
     refine ⟨_,rfl,?_⟩
     rintro (_|_) h37
     ·replace h37 : ¬ (g.num = (100000)) := beq_eq_false_iff_ne.1 h37
      refine ⟨_,rfl,?_⟩
      refine Cm 4 s12 [(1,vI to),Ml 4 1,Ml 5 2,(6,vB false),Ml 7 3,(38,vB false)] [(4,1,Zn),(5,2,[vI 0,vI 0,vI 0,vI 0,vI 0,Sn,vI 0,Sn,Sn,Sn,Sn,Sn]),(7,3,cNV u10.v)] fun _ _ => ?_
      have hF12 : Frs st s12 (pcNW u10) := ⟨hO10.pres hP12,hN10,hP10.trans hP12⟩
      refine cxs ?_
      refine ⟨_,rfl,?_⟩
      refine ⟨_,Od rfl,?_⟩
      have hn10 : u10.num = g.num := congrArg Nd.num h10
      have hnr : 0 ≤ g.num ∧ g.num ≤ 100000 := h12.num
      have hsl : g.slots ≤ 4 := h12.slots.2
      have hle : (g.sess.l.length : Int) ≤ g.slots := h12.sess.1
      have hs10 : u10.sess.l = g.sess.l := congrArg Nd.sess h10
      have hs11 : u10.sess.l.length = g.sess.l.length := by rw [hs10]
      have ew43 : IntKind.wrap .i64 (u10.num + (1)) = u10.num + (1) := wrap_i64 (by omega) (by omega)
      iterate 2 refine ⟨_,rfl,?_⟩
      refine ⟨_,Os rfl,?_⟩
      refine AW.cutM (4) s12 [(1,vI to),Ml 4 1,Ml 5 2,(6,vB false),Ml 7 3] [(4,1,Zn),(5,2,[vI 0,vI 0,vI 0,vI 0,vI 0,Sn,vI 0,Sn,Sn,Sn,Sn,Sn]),(7,3,Nv u10 [(12,vI (u10.num + (1)))])] ⟨rfl,rfl,rfl,rfl,rfl,trivial⟩ ⟨rfl,rfl,(show some (3,[vI u10.id,vI u10.n,vS u10.s.p u10.s.x.items.length,vS u10.s.q u10.s.x.floors.length,vS u10.t.p u10.t.l.length,vI u10.t.root,vI u10.g.cap,vI u10.g.frm,vS u10.g.p u10.g.l.length,vS u10.got.p u10.got.l.length,vS u10.acked.p u10.acked.l.length,vS u10.seen.p u10.seen.t.length,vI (IntKind.wrap .i64 (u10.num + (1))),vI u10.slots,vS u10.sess.p u10.sess.l.length,vI u10.wait,vI u10.limit,vI u10.clock,vS u10.rises.p u10.rises.l.length]) = some (3,[vI u10.id,vI u10.n,vS u10.s.p u10.s.x.items.length,vS u10.s.q u10.s.x.floors.length,vS u10.t.p u10.t.l.length,vI u10.t.root,vI u10.g.cap,vI u10.g.frm,vS u10.g.p u10.g.l.length,vS u10.got.p u10.got.l.length,vS u10.acked.p u10.acked.l.length,vS u10.seen.p u10.seen.t.length,vI (u10.num + (1)),vI u10.slots,vS u10.sess.p u10.sess.l.length,vI u10.wait,vI u10.limit,vI u10.clock,vS u10.rises.p u10.rises.l.length]) by rw [ew43]),trivial⟩ rfl fun _ _ => ?_
      refine ⟨_,rfl,?_⟩
      refine ⟨_,Od rfl,?_⟩
      refine ⟨_,rfl,?_⟩
      refine ⟨_,Od rfl,?_⟩
      refine ⟨_,rfl,?_⟩
      refine op_one (z := 4) (a := ((⟨to,u10.num + 1,false,0⟩ : Ses) : Ses)) (f := cSess) rfl rfl rfl rfl rfl (by decide) rfl (Lb rfl) rfl rfl rfl ?_
      refine op_snoc (z := 4) (st := s12) (f := cSess) (b := 32) (l := u10.sess.l) (x := (⟨to,u10.num + 1,false,0⟩ : Ses)) rfl rfl rfl rfl rfl rfl rfl (by decide) len_cSess rfl rfl rfl (by omega) (by unfold maxLen; omega) hF12.1.ses ?_
      intro q52 s52 hO52 hP52 hN52
      refine ⟨_,rfl,?_⟩
      refine ⟨_,Os rfl,?_⟩
      refine Cm 4 s52 [(1,vI to),Ml 4 1,Ml 5 2,(6,vB false),Ml 7 3] [(4,1,Zn),(5,2,[vI 0,vI 0,vI 0,vI 0,vI 0,Sn,vI 0,Sn,Sn,Sn,Sn,Sn]),(7,3,[vI u10.id,vI u10.n,vS u10.s.p u10.s.x.items.length,vS u10.s.q u10.s.x.floors.length,vS u10.t.p u10.t.l.length,vI u10.t.root,vI u10.g.cap,vI u10.g.frm,vS u10.g.p u10.g.l.length,vS u10.got.p u10.got.l.length,vS u10.acked.p u10.acked.l.length,vS u10.seen.p u10.seen.t.length,vI (u10.num + (1)),vI u10.slots,vS q52 (u10.sess.l ++ [(⟨to,u10.num + 1,false,0⟩ : Ses)]).length,vI u10.wait,vI u10.limit,vI u10.clock,vS u10.rises.p u10.rises.l.length])] fun _ _ => ?_
      have hF52 : Frs st s52 (pcNW { u10 with sess := ⟨q52,u10.sess.l ++ [⟨to,u10.num + 1,false,0⟩]⟩ }) := hF12.sessPush hP52 hO52 hN52
      have hR52 : RdN s52 { u10.v with num := u10.num + 1,sess := ⟨q52,u10.sess.l ++ [⟨to,u10.num + 1,false,0⟩]⟩ } := OwnP.rdN (v := { u10 with num := u10.num + 1,sess := ⟨q52,u10.sess.l ++ [⟨to,u10.num + 1,false,0⟩]⟩ }) hF52.1
      have hb10 : bigN u10.x := h10.symm ▸ hb
      have hb52 : bigN ({ u10.v with num := u10.num + 1,sess := ⟨q52,u10.sess.l ++ [⟨to,u10.num + 1,false,0⟩]⟩ } : NV).x := ⟨hb10.s,hb10.t,hb10.g,hb10.got,hb10.acked,hb10.seen,by show (u10.sess.l ++ [_]).length ≤ 1048576; rw [List.length_append,hs11,List.length_singleton]; omega,hb10.rises⟩
      refine ⟨_,op_ldo (v := .agg #[vI u10.id,vI u10.n,vS u10.s.p u10.s.x.items.length,vS u10.s.q u10.s.x.floors.length,vS u10.t.p u10.t.l.length,vI u10.t.root,vI u10.g.cap,vI u10.g.frm,vS u10.g.p u10.g.l.length,vS u10.got.p u10.got.l.length,vS u10.acked.p u10.acked.l.length,vS u10.seen.p u10.seen.t.length,vI (u10.num + (1)),vI u10.slots,vS q52 (u10.sess.l ++ [(⟨to,u10.num + 1,false,0⟩ : Ses)]).length,vI u10.wait,vI u10.limit,vI u10.clock,vS u10.rises.p u10.rises.l.length]) rfl rfl rfl rfl,?_⟩
      refine ⟨_,rfl,?_⟩
      refine ⟨_,Od rfl,?_⟩
      refine ⟨_,rfl,(ac_spec_l13Msg { u10.v with num := u10.num + 1,sess := ⟨q52,u10.sess.l ++ [⟨to,u10.num + 1,false,0⟩]⟩ } 2 to (u10.num + 1) s52 hR52 hb52).mono ?_⟩
      rintro _ s58 ⟨u58,rfl,h58,hO58,hN58,hP58⟩
      refine ⟨_,rfl,?_⟩
      refine ⟨_,op_stw (vs := cMV u58) rfl rfl rfl rfl rfl rfl rfl rfl,?_⟩
      refine Cm 5 s58 [Ml 4 1,Ml 5 2,(6,vB false),Ml 7 3,Ml 8 4] [(4,1,Zn),(5,2,[vI 0,vI 0,vI 0,vI 0,vI 0,Sn,vI 0,Sn,Sn,Sn,Sn,Sn]),(7,3,[vI u10.id,vI u10.n,vS u10.s.p u10.s.x.items.length,vS u10.s.q u10.s.x.floors.length,vS u10.t.p u10.t.l.length,vI u10.t.root,vI u10.g.cap,vI u10.g.frm,vS u10.g.p u10.g.l.length,vS u10.got.p u10.got.l.length,vS u10.acked.p u10.acked.l.length,vS u10.seen.p u10.seen.t.length,vI (u10.num + (1)),vI u10.slots,vS q52 (u10.sess.l ++ [(⟨to,u10.num + 1,false,0⟩ : Ses)]).length,vI u10.wait,vI u10.limit,vI u10.clock,vS u10.rises.p u10.rises.l.length]),(8,4,cMV u58)] fun _ _ => ?_
      refine ⟨_,rfl,?_⟩
      refine ⟨_,Od rfl,?_⟩
      refine ⟨_,rfl,(ac_spec_l6Copy u10.t s58 (hP58.rows hR52.t) hb10.t).mono ?_⟩
      rintro _ s61 ⟨u61,rfl,h61,h61',hO61,hN61,hP61⟩
      refine ⟨_,rfl,?_⟩
      refine ⟨_,Os rfl,?_⟩
      refine Cm 5 s61 [Ml 4 1,Ml 5 2,(6,vB false),Ml 7 3,Ml 8 4] [(4,1,Zn),(5,2,[vI 0,vI 0,vI 0,vI 0,vI 0,Sn,vI 0,Sn,Sn,Sn,Sn,Sn]),(7,3,[vI u10.id,vI u10.n,vS u10.s.p u10.s.x.items.length,vS u10.s.q u10.s.x.floors.length,vS u10.t.p u10.t.l.length,vI u10.t.root,vI u10.g.cap,vI u10.g.frm,vS u10.g.p u10.g.l.length,vS u10.got.p u10.got.l.length,vS u10.acked.p u10.acked.l.length,vS u10.seen.p u10.seen.t.length,vI (u10.num + (1)),vI u10.slots,vS q52 (u10.sess.l ++ [(⟨to,u10.num + 1,false,0⟩ : Ses)]).length,vI u10.wait,vI u10.limit,vI u10.clock,vS u10.rises.p u10.rises.l.length]),(8,4,[vI u58.kind,vI u58.frm,vI u58.to,vI u58.num,vI u58.hi,vS u61.p u61.l.length,vI u61.root,vS u58.vec.p u58.vec.l.length,vS u58.leaves.p u58.leaves.l.length,vS u58.part.p u58.part.x.items.length,vS u58.part.q u58.part.x.floors.length,vS u58.marks.p u58.marks.l.length])] fun _ _ => ?_
      refine ⟨_,op_ldo (v := .agg #[vI u10.id,vI u10.n,vS u10.s.p u10.s.x.items.length,vS u10.s.q u10.s.x.floors.length,vS u10.t.p u10.t.l.length,vI u10.t.root,vI u10.g.cap,vI u10.g.frm,vS u10.g.p u10.g.l.length,vS u10.got.p u10.got.l.length,vS u10.acked.p u10.acked.l.length,vS u10.seen.p u10.seen.t.length,vI (u10.num + (1)),vI u10.slots,vS q52 (u10.sess.l ++ [(⟨to,u10.num + 1,false,0⟩ : Ses)]).length,vI u10.wait,vI u10.limit,vI u10.clock,vS u10.rises.p u10.rises.l.length]) rfl rfl rfl rfl,?_⟩
      refine ⟨_,op_ldo (v := .agg #[vI u58.kind,vI u58.frm,vI u58.to,vI u58.num,vI u58.hi,vS u61.p u61.l.length,vI u61.root,vS u58.vec.p u58.vec.l.length,vS u58.leaves.p u58.leaves.l.length,vS u58.part.p u58.part.x.items.length,vS u58.part.q u58.part.x.floors.length,vS u58.marks.p u58.marks.l.length]) rfl rfl rfl rfl,?_⟩
      refine ⟨ld_own rfl rfl rfl,?_⟩
      refine ⟨_,op_stw (vs := [vI u10.id,vI u10.n,vS u10.s.p u10.s.x.items.length,vS u10.s.q u10.s.x.floors.length,vS u10.t.p u10.t.l.length,vI u10.t.root,vI u10.g.cap,vI u10.g.frm,vS u10.g.p u10.g.l.length,vS u10.got.p u10.got.l.length,vS u10.acked.p u10.acked.l.length,vS u10.seen.p u10.seen.t.length,vI (u10.num + (1)),vI u10.slots,vS q52 (u10.sess.l ++ [(⟨to,u10.num + 1,false,0⟩ : Ses)]).length,vI u10.wait,vI u10.limit,vI u10.clock,vS u10.rises.p u10.rises.l.length]) rfl rfl rfl rfl rfl rfl rfl rfl,?_⟩
      refine ⟨sx_cons ⟨_,_,_,rfl,rfl,rfl,by decide⟩ (sx_nil),?_⟩
      refine ⟨_,op_stw (vs := [vI u58.kind,vI u58.frm,vI u58.to,vI u58.num,vI u58.hi,vS u61.p u61.l.length,vI u61.root,vS u58.vec.p u58.vec.l.length,vS u58.leaves.p u58.leaves.l.length,vS u58.part.p u58.part.x.items.length,vS u58.part.q u58.part.x.floors.length,vS u58.marks.p u58.marks.l.length]) rfl rfl rfl rfl rfl rfl rfl rfl,?_⟩
      refine cxs ?_
      have hF := (hF52.join (Frs.tree (u := u61) ⟨hO58,hN58,hP58⟩ (Frs.one hO61 hN61 hP61)))
      have hsy : synOk g.x to := ⟨h12,h17,h24,by show (g.sess.l.length : Int) < g.slots; omega,h37⟩
      exact Rt ⟨{ u10 with num := u10.num + 1,sess := ⟨q52,u10.sess.l ++ [⟨to,u10.num + 1,false,0⟩]⟩ },{ u58 with tree := u61 },true,rfl,syn_yes (x := u10.x) hsy h10 h58 (by first | exact tv_xx h61 h61' | exact (tv_xx h61 h61').trans (congrArg Nd.t h10)),hF.1,hF.2.1,hF.2.2⟩
     ·replace h37 : g.num = (100000) := beq_iff_eq.1 h37
      refine ⟨_,rfl,?_⟩
      refine Cm 4 s12 [(1,vI to),Ml 4 1,Ml 5 2,(6,vB false),Ml 7 3,(38,vB true)] [(4,1,Zn),(5,2,[vI 0,vI 0,vI 0,vI 0,vI 0,Sn,vI 0,Sn,Sn,Sn,Sn,Sn]),(7,3,cNV u10.v)] fun _ _ => ?_
      have hF12 : Frs st s12 (pcNW u10) := ⟨hO10.pres hP12,hN10,hP10.trans hP12⟩
      refine ⟨_,op_ldo (v := (vNV u10.v)) rfl rfl rfl rfl,?_⟩
      refine ⟨_,rfl,?_⟩
      refine ⟨_,op_stw (vs := cNV u10.v) rfl rfl rfl rfl rfl rfl rfl rfl,?_⟩
      refine ⟨_,op_stw (vs := [vI 0,vI 0,vI 0,vI 0,vI 0,.slice none 0 0,vI 0,.slice none 0 0,.slice none 0 0,.slice none 0 0,.slice none 0 0,.slice none 0 0]) rfl rfl rfl rfl rfl rfl rfl rfl,?_⟩
      refine cxs ?_
      have hF := hF12.join Frs.mg0
      exact Rt ⟨u10,zMV,false,rfl,syn_no (fun k => k.num h37) h10,hF.1,hF.2.1,hF.2.2⟩
    ·replace h32 : (g.sess.l.length : Int) = g.slots := beq_iff_eq.1 h32
     iterate 2 refine ⟨_,rfl,?_⟩
     refine Cm 4 s12 [(1,vI to),Ml 4 1,Ml 5 2,(6,vB false),Ml 7 3,(38,vB true)] [(4,1,Zn),(5,2,[vI 0,vI 0,vI 0,vI 0,vI 0,Sn,vI 0,Sn,Sn,Sn,Sn,Sn]),(7,3,cNV u10.v)] fun _ _ => ?_
     have hF12 : Frs st s12 (pcNW u10) := ⟨hO10.pres hP12,hN10,hP10.trans hP12⟩
     refine ⟨_,op_ldo (v := (vNV u10.v)) rfl rfl rfl rfl,?_⟩
     refine ⟨_,rfl,?_⟩
     refine ⟨_,op_stw (vs := cNV u10.v) rfl rfl rfl rfl rfl rfl rfl rfl,?_⟩
     refine ⟨_,op_stw (vs := [vI 0,vI 0,vI 0,vI 0,vI 0,.slice none 0 0,vI 0,.slice none 0 0,.slice none 0 0,.slice none 0 0,.slice none 0 0,.slice none 0 0]) rfl rfl rfl rfl rfl rfl rfl rfl,?_⟩
     refine cxs ?_
     have hF := hF12.join Frs.mg0
     exact Rt ⟨u10,zMV,false,rfl,syn_no (fun k => absurd k.room (by show ¬ (g.sess.l.length : Int) < g.slots; omega)) h10,hF.1,hF.2.1,hF.2.2⟩
   ·replace h24 : (slotF g.sess.l to false 0) ≥ (0) := of_decide_eq_true h24
    iterate 3 refine ⟨_,rfl,?_⟩
    refine Cm 4 s12 [(1,vI to),Ml 4 1,Ml 5 2,(6,vB false),Ml 7 3,(38,vB true)] [(4,1,Zn),(5,2,[vI 0,vI 0,vI 0,vI 0,vI 0,Sn,vI 0,Sn,Sn,Sn,Sn,Sn]),(7,3,cNV u10.v)] fun _ _ => ?_
    have hF12 : Frs st s12 (pcNW u10) := ⟨hO10.pres hP12,hN10,hP10.trans hP12⟩
    refine ⟨_,op_ldo (v := (vNV u10.v)) rfl rfl rfl rfl,?_⟩
    refine ⟨_,rfl,?_⟩
    refine ⟨_,op_stw (vs := cNV u10.v) rfl rfl rfl rfl rfl rfl rfl rfl,?_⟩
    refine ⟨_,op_stw (vs := [vI 0,vI 0,vI 0,vI 0,vI 0,.slice none 0 0,vI 0,.slice none 0 0,.slice none 0 0,.slice none 0 0,.slice none 0 0,.slice none 0 0]) rfl rfl rfl rfl rfl rfl rfl rfl,?_⟩
    refine cxs ?_
    have hF := hF12.join Frs.mg0
    exact Rt ⟨u10,zMV,false,rfl,syn_no (fun k => k.slot h24) h10,hF.1,hF.2.1,hF.2.2⟩
end Go.Proofs.YtpnolkhfeliehaaGreat.AM
namespace Go.Proofs.YtpnolkhfeliehaaGreat.AM
open Go Go.Proofs
set_option linter.unusedVariables false
set_option linter.unusedSimpArgs false
theorem cb_eq : ∀ {a b : List UInt8},Lib.compareBytes a b = 0 → a = b
 | [],[],_ => rfl
 | [],b :: bs,h => by simp [Lib.compareBytes] at h
 | a :: l,[],h => by simp [Lib.compareBytes] at h
 | a :: l,b :: bs,h => by
  unfold Lib.compareBytes at h
  by_cases h1 : a < b
  ·simp [h1] at h
  ·by_cases h2 : b < a
   ·simp [h1,h2] at h
   ·simp [h1,h2] at h
    rw [UInt8.le_antisymm (UInt8.not_lt.1 h2) (UInt8.not_lt.1 h1),cb_eq h]
theorem cb_trans : ∀ {a b c : List UInt8},Lib.compareBytes a b ≤ 0 → Lib.compareBytes b c ≤ 0 → Lib.compareBytes a c ≤ 0
 | [],b,[],_,_ => by simp [Lib.compareBytes]
 | [],b,c :: cs,_,_ => by simp [Lib.compareBytes]
 | a :: l,[],c,h,_ => by simp [Lib.compareBytes] at h
 | a :: l,b :: bs,[],_,h => by simp [Lib.compareBytes] at h
 | a :: l,b :: bs,c :: cs,h,k => by
  have ih := @cb_trans l bs cs
  unfold Lib.compareBytes at h k ⊢
  by_cases h1 : a < b
  ·by_cases k1 : b < c
   ·simp [UInt8.lt_trans h1 k1]
   ·by_cases k2 : c < b
    ·simp [k1,k2] at k
    ·have he : b = c := UInt8.le_antisymm (UInt8.not_lt.1 k2) (UInt8.not_lt.1 k1)
     subst he
     simp [h1]
  ·by_cases h2 : b < a
   ·simp [h1,h2] at h
   ·have he : a = b := UInt8.le_antisymm (UInt8.not_lt.1 h2) (UInt8.not_lt.1 h1)
    subst he
    by_cases k1 : a < c
    ·simp [k1]
    ·by_cases k2 : c < a
     ·simp [k1,k2] at k
     ·simp [h1] at h
      simp [k1,k2] at k ⊢
      exact ih h k
theorem entCmp_le (a b : Ent) : entCmp a b ≤ 0 ↔ (a.inc < b.inc ∨ (a.inc = b.inc ∧ (a.rank < b.rank ∨ (a.rank = b.rank ∧ (a.beat < b.beat ∨ (a.beat = b.beat ∧ (a.ver < b.ver ∨ (a.ver = b.ver ∧ cmpB a.data b.data ≤ 0)))))))) := by
 unfold entCmp firstNZ firstNZ firstNZ firstNZ firstNZ firstNZ cmpI
 repeat' split
 all_goals omega
theorem entCmp_eq {a b : Ent} (h : entCmp a b = 0) : a = b := by
 have h1 := (entCmp_le a b).1 (by omega)
 have h2 := (entCmp_le b a).1 (by rw [entCmp_neg]; omega)
 have hn : cmpB b.data a.data = - cmpB a.data b.data := compareBytes_neg _ _
 have hd : a.data = b.data := by
  have : cmpB a.data b.data = 0 := by omega
  have := cb_eq this
  obtain ⟨_,_,_,_,⟨⟨x⟩⟩⟩ := a
  obtain ⟨_,_,_,_,⟨⟨y⟩⟩⟩ := b
  simp only at this
  rw [this]
 obtain ⟨i,r,be,v,d⟩ := a
 obtain ⟨i2,r2,be2,v2,d2⟩ := b
 simp only at h1 h2 hn hd
 subst hd
 obtain ⟨rfl,rfl,rfl,rfl⟩ : i = i2 ∧ r = r2 ∧ be = be2 ∧ v = v2 := by omega
 rfl
theorem entLe_trans {a b c : Ent} (h : entCmp a b ≤ 0) (k : entCmp b c ≤ 0) : entCmp a c ≤ 0 := by
 rw [entCmp_le] at h k ⊢
 have ht : cmpB a.data b.data ≤ 0 → cmpB b.data c.data ≤ 0 → cmpB a.data c.data ≤ 0 := cb_trans
 omega
theorem entMax_le {a b : Ent} (h : entCmp a b ≤ 0) : entMax a b = b := by
 unfold entMax
 split
 ·rfl
 ·exact entCmp_eq (by omega)
theorem entMax_ge {a b : Ent} (h : 0 ≤ entCmp a b) : entMax a b = a := by
 unfold entMax
 rw [if_neg (by omega)]
theorem entMax_comm (a b : Ent) : entMax a b = entMax b a := by
 rcases Int.le_total (entCmp a b) 0 with h | h
 ·rw [entMax_le h,entMax_ge (by rw [entCmp_neg]; omega)]
 ·rw [entMax_ge h,entMax_le (by rw [entCmp_neg]; omega)]
theorem entMax_self (a : Ent) : entMax a a = a := by unfold entMax; split <;> rfl
theorem entLe_max (a b : Ent) : entCmp a (entMax a b) ≤ 0 ∧ entCmp b (entMax a b) ≤ 0 := by
 have hs : ∀ x : Ent,entCmp x x ≤ 0 := fun x => by have := entCmp_neg x x; omega
 rcases Int.le_total (entCmp a b) 0 with h | h
 ·rw [entMax_le h]; exact ⟨h,hs b⟩
 ·rw [entMax_ge h]; exact ⟨hs a,by rw [entCmp_neg]; omega⟩
theorem entMax_lub {a b c : Ent} (h : entCmp a c ≤ 0) (k : entCmp b c ≤ 0) : entCmp (entMax a b) c ≤ 0 := by
 rcases Int.le_total (entCmp a b) 0 with h1 | h1
 ·rw [entMax_le h1]; exact k
 ·rw [entMax_ge h1]; exact h
theorem ent_antisymm {a b : Ent} (h : entCmp a b ≤ 0) (k : entCmp b a ≤ 0) : a = b := entCmp_eq (by have := entCmp_neg a b; omega)
theorem entMax_assoc (a b c : Ent) : entMax (entMax a b) c = entMax a (entMax b c) :=
 ent_antisymm (entMax_lub (entMax_lub (entLe_max _ _).1 (entLe_trans (entLe_max b c).1 (entLe_max _ _).2)) (entLe_trans (entLe_max b c).2 (entLe_max _ _).2))
  (entMax_lub (entLe_trans (entLe_max a b).1 (entLe_max _ _).1) (entMax_lub (entLe_trans (entLe_max a b).2 (entLe_max _ _).1) (entLe_max _ _).2))
theorem entMax_or (a b : Ent) : entMax a b = a ∨ entMax a b = b := by unfold entMax; split; exact .inr rfl; exact .inl rfl
theorem entMax_inc (a b : Ent) : (entMax a b).inc = max a.inc b.inc := by
 rcases Int.le_total (entCmp a b) 0 with h | h
 ·have := (entCmp_le a b).1 h
  rw [entMax_le h]; omega
 ·have := (entCmp_le b a).1 (by rw [entCmp_neg]; omega)
  rw [entMax_ge h]; omega
def vE (e : Ent) : Prop := e = zEnt ∨ entOk e
theorem vE.max {a b : Ent} (h : vE a) (k : vE b) : vE (entMax a b) := by
 rcases entMax_or a b with e | e <;> rw [e] <;> assumption
theorem vE.inc {a : Ent} (h : vE a) : 0 ≤ a.inc := by
 rcases h with rfl | h
 ·exact Int.le_refl _
 ·have := h.1.1; omega
theorem vE.zero {a : Ent} (h : vE a) (h0 : a.inc ≤ 0) : a = zEnt := by
 rcases h with h | h
 ·exact h
 ·have := h.1.1; omega
theorem entMax_zl {a : Ent} (h : vE a) : entMax zEnt a = a := by
 rcases h with rfl | h
 ·exact entMax_zz
 ·exact (entMax_zero h.1.1).2
def cut (f : Int) (e : Ent) : Ent := if e.inc > f then e else zEnt
theorem cut_z {f : Int} : cut f zEnt = zEnt := by unfold cut; split <;> rfl
theorem cut_max {f g : Int} {m e : Ent} (hm : vE m) (he : vE e) (hf : f ≤ g) : cut g (entMax (cut f m) e) = cut g (entMax m e) := by
 by_cases h : m.inc > f
 ·rw [show cut f m = m by unfold cut; rw [if_pos h]]
 ·rw [show cut f m = zEnt by unfold cut; rw [if_neg h],entMax_zl he]
  have hi := entMax_inc m e
  unfold cut
  rcases entMax_or m e with k | k
  ·rw [k] at hi ⊢
   rw [if_neg (by omega),if_neg (by omega)]
  ·rw [k]
theorem fmap_congr {α β : Type} {f g : α → Option β} {l : List α} (h : ∀ x ∈ l,f x = g x) : l.filterMap f = l.filterMap g := by
 induction l with
 | nil => rfl
 | cons a l ih => rw [List.filterMap_cons,List.filterMap_cons,h a (List.mem_cons_self ..),ih fun x hx => h x (List.mem_cons_of_mem _ hx)]
theorem sorted_of {α : Type} {id : α → Int} {l : List α} (h : ∀ (j : Nat) x,l[j]? = some x → ∀ y,0 < j → l[j - 1]? = some y → id y < id x) : l.Pairwise fun a b => id a < id b := by
 rw [List.pairwise_iff_getElem]
 intro i j hi hj hij
 induction j with
 | zero => omega
 | succ j ih =>
  have h1 := h (j + 1) l[j + 1] (List.getElem?_eq_getElem hj) l[j] (Nat.succ_pos j) (List.getElem?_eq_getElem (by omega))
  rcases Nat.lt_or_ge i j with h2 | h2
  ·have := ih (by omega) h2; omega
  ·have : i = j := by omega
   subst this; exact h1
theorem canon {α : Type} (id : α → Int) : ∀ (m k : Nat) (l : List α),(l.Pairwise fun a b => id a < id b) → (∀ x ∈ l,(k : Int) ≤ id x ∧ id x < ((k + m : Nat) : Int)) → l = (List.range' k m).filterMap fun (j : Nat) => l.find? fun x => decide (id x = (j : Int))
 | 0,k,l,_,h => by
  cases l with
  | nil => rfl
  | cons x l => have := h x (List.mem_cons_self ..); omega
 | m + 1,k,[],_,_ => by simp
 | m + 1,k,x :: l,hp,h => by
  have hx := h x (List.mem_cons_self ..)
  obtain ⟨h1,h2⟩ := List.pairwise_cons.1 hp
  rw [List.range'_succ,List.filterMap_cons]
  by_cases hk : id x = (k : Int)
  ·have hf : (x :: l).find? (fun x => decide (id x = (k : Int))) = some x := by rw [List.find?_cons,decide_eq_true hk]
   rw [hf]
   simp only
   have ih := canon id m (k + 1) l h2 fun y hy => by have := h1 y hy; have := h y (List.mem_cons_of_mem _ hy); omega
   congr 1
   rw [ih]
   refine fmap_congr fun j hj => ?_
   have hj := List.mem_range'_1.1 hj
   rw [← ih,List.find?_cons,decide_eq_false (by omega)]
  ·have ih := canon id m (k + 1) (x :: l) hp fun y hy => by
    have h3 := h y hy
    rcases List.mem_cons.1 hy with rfl | hy
    ·omega
    ·have := h1 y hy; omega
   have hf : (x :: l).find? (fun x => decide (id x = (k : Int))) = none := by
    rw [List.find?_eq_none]
    intro y hy
    simp only [decide_eq_true_eq]
    rcases List.mem_cons.1 hy with rfl | hy
    ·exact hk
    ·have := h1 y hy; omega
   rw [hf]
   exact ih
theorem find_item (l : List Itm) (j : Int) : (l.find? fun x => decide (x.id = j)) = if (entP l j).2 = true then some ⟨j,(entP l j).1⟩ else none := by
 induction l with
 | nil => rfl
 | cons x l ih =>
  rw [List.find?_cons,entP]
  by_cases h : x.id = j
  ·rw [decide_eq_true h,if_pos h]
   obtain ⟨i,e⟩ := x
   simp only at h
   subst h; rfl
  ·rw [decide_eq_false h,if_neg h]; exact ih
theorem find_floor (l : List Flr) (j : Int) (hl : ∀ x ∈ l,1 ≤ x.inc) : (l.find? fun x => decide (x.id = j)) = if floorOf l j > 0 then some ⟨j,floorOf l j⟩ else none := by
 induction l with
 | nil => rfl
 | cons x l ih =>
  rw [List.find?_cons,floorOf]
  by_cases h : x.id = j
  ·rw [decide_eq_true h,if_pos h]
   have := hl x (List.mem_cons_self ..)
   rw [if_pos (by omega)]
   obtain ⟨i,e⟩ := x
   simp only at h
   subst h; rfl
  ·rw [decide_eq_false h,if_neg h]; exact ih fun y hy => hl y (List.mem_cons_of_mem _ hy)
theorem items_canon {s : Sta} (h : stateOk s) : s.items = (List.range 5).filterMap fun (j : Nat) => if (entP s.items (j : Int)).2 = true then some (⟨(j : Int),(entP s.items (j : Int)).1⟩ : Itm) else none := by
 have := canon (fun x : Itm => x.id) 5 0 s.items (sorted_of fun j x hx => (h.1 j x hx).2.2.2) fun x hx => by
  obtain ⟨j,hj⟩ := List.getElem?_of_mem hx
  have := (h.1 j x hj).1
  omega
 rw [List.range_eq_range',this]
 refine fmap_congr fun j _ => ?_
 rw [← this]
 exact find_item _ _
theorem floors_canon {l : List Flr} (h : marksOk l) : l = (List.range 5).filterMap fun (j : Nat) => if floorOf l (j : Int) > 0 then some (⟨(j : Int),floorOf l (j : Int)⟩ : Flr) else none := by
 have := canon (fun x : Flr => x.id) 5 0 l (sorted_of fun j x hx => (h j x hx).2.2) fun x hx => by
  obtain ⟨j,hj⟩ := List.getElem?_of_mem hx
  have := (h j x hj).1
  omega
 rw [List.range_eq_range']
 conv => lhs; rw [this]
 refine fmap_congr fun j _ => ?_
 exact find_floor _ _ fun x hx => by
  obtain ⟨j,hj⟩ := List.getElem?_of_mem hx
  exact (h j x hj).2.1.1
def gE (s : Sta) (i : Int) : Ent := (entP s.items i).1
def gF (s : Sta) (i : Int) : Int := floorOf s.floors i
theorem gE_v {s : Sta} (h : stateOk s) (i : Int) : vE (gE s i) := entP_cases h.1 i
theorem gF_pos {s : Sta} (h : stateOk s) (i : Int) : 0 ≤ gF s i ∧ gF s i ≤ 1000 := floorOf_pos h.2 i
theorem gE_in {s : Sta} (h : stateOk s) (i : Int) : (entP s.items i).2 = true ↔ 1 ≤ (gE s i).inc := by
 unfold gE
 rcases hb : entP s.items i with ⟨e,b⟩
 cases b with
 | false => rw [entP_none (e := e) (id := i) hb.symm]; simp [zEnt]
 | true =>
  have := (ent_ok h (e := e) (id := i) hb.symm).1.1
  simp only [true_iff]; exact this
theorem gE_cut {s : Sta} (h : stateOk s) (i : Int) : cut (gF s i) (gE s i) = gE s i := by
 unfold gE gF
 rcases hb : entP s.items i with ⟨e,b⟩
 cases b with
 | false => rw [entP_none (e := e) (id := i) hb.symm]; exact cut_z
 | true =>
  obtain ⟨j,x,h1,h2,h3⟩ := entP_mem (e := e) (id := i) hb.symm
  have := (h.1 j x h1).2.2.1
  rw [h3,h2] at this
  unfold cut
  rw [if_pos this]
theorem sta_eq {a b : Sta} (ha : stateOk a) (hb : stateOk b) (h : ∀ j : Nat,j < 5 → gE a (j : Int) = gE b (j : Int) ∧ gF a (j : Int) = gF b (j : Int)) : a = b := by
 have h1 : a.items = b.items := by
  rw [items_canon ha,items_canon hb]
  refine fmap_congr fun j hj => ?_
  have hj := (h j (List.mem_range.1 hj)).1
  have e1 : (entP a.items (j : Int)).2 = (entP b.items (j : Int)).2 := by
   rw [Bool.eq_iff_iff,gE_in ha,gE_in hb,hj]
  rw [e1]
  unfold gE at hj
  rw [hj]
 have h2 : a.floors = b.floors := by
  rw [floors_canon ha.2,floors_canon hb.2]
  refine fmap_congr fun j hj => ?_
  have hj := (h j (List.mem_range.1 hj)).2
  unfold gF at hj
  rw [hj]
 obtain ⟨ai,af⟩ := a
 obtain ⟨bi,bf⟩ := b
 simp only at h1 h2
 rw [h1,h2]
theorem entP_app (l m : List Itm) (i : Int) : entP (l ++ m) i = if (entP l i).2 = true then entP l i else entP m i := by
 induction l with
 | nil => rfl
 | cons x l ih =>
  rw [List.cons_append,entP,entP]
  by_cases h : x.id = i
  ·rw [if_pos h,if_pos h]; rfl
  ·rw [if_neg h,if_neg h]; exact ih
theorem entP_pick (c : Int → Prop) [DecidablePred c] (g : Int → Ent) (id : Nat) : ∀ n,entP ((List.range n).filterMap fun (j : Nat) => if c (j : Int) then some (⟨(j : Int),g (j : Int)⟩ : Itm) else none) (id : Int) = if id < n ∧ c (id : Int) then (g (id : Int),true) else (zEnt,false)
 | 0 => by simp [entP]
 | n + 1 => by
  rw [List.range_succ,List.filterMap_append,entP_app,entP_pick c g id n]
  by_cases h1 : id < n ∧ c (id : Int)
  ·rw [if_pos h1,if_pos rfl,if_pos ⟨by omega,h1.2⟩]
  ·rw [if_neg h1,if_neg (by simp)]
   by_cases hn : c (n : Int)
   ·simp only [List.filterMap_cons,List.filterMap_nil,hn,if_true,entP]
    by_cases h2 : n = id
    ·subst h2; rw [if_pos rfl,if_pos ⟨Nat.lt_succ_self _,hn⟩]
    ·rw [if_neg (by omega),if_neg (fun h => h1 ⟨by omega,h.2⟩)]
   ·simp only [List.filterMap_cons,List.filterMap_nil,hn,if_false,entP]
    rw [if_neg]
    rintro ⟨h3,h4⟩
    rcases Nat.lt_or_ge id n with h5 | h5
    ·exact h1 ⟨h5,h4⟩
    ·have : id = n := by omega
     subst this; exact hn h4
theorem gF_join {a b : Sta} (ha : stateOk a) (hb : stateOk b) {j : Nat} (h : j < 5) : gF (joinF a b 5) (j : Int) = max (gF a (j : Int)) (gF b (j : Int)) := floorOf_join ha.2 hb.2 h
theorem gE_join (a b : Sta) {j : Nat} (h : j < 5) : gE (joinF a b 5) (j : Int) = cut (max (gF a (j : Int)) (gF b (j : Int))) (entMax (gE a (j : Int)) (gE b (j : Int))) := by
 show (entP ((List.range 5).filterMap fun (j : Nat) => if (topE a b (j : Int)).inc > topF a b (j : Int) then some (⟨(j : Int),topE a b (j : Int)⟩ : Itm) else none) (j : Int)).1 = _
 rw [entP_pick (fun i => (topE a b i).inc > topF a b i) (fun i => topE a b i) j 5]
 unfold cut
 by_cases h1 : (topE a b (j : Int)).inc > topF a b (j : Int)
 ·rw [if_pos ⟨h,h1⟩]; exact (if_pos h1).symm
 ·rw [if_neg (fun k => h1 k.2)]; exact (if_neg h1).symm
theorem join_comm {a b : Sta} (ha : stateOk a) (hb : stateOk b) : joinF a b 5 = joinF b a 5 :=
 sta_eq (stateOk_join ha hb) (stateOk_join hb ha) fun j hj => by
  rw [gE_join a b hj,gE_join b a hj,gF_join ha hb hj,gF_join hb ha hj,entMax_comm,Int.max_comm]
  exact ⟨rfl,rfl⟩
theorem join_assoc {a b c : Sta} (ha : stateOk a) (hb : stateOk b) (hc : stateOk c) : joinF (joinF a b 5) c 5 = joinF a (joinF b c 5) 5 :=
 sta_eq (stateOk_join (stateOk_join ha hb) hc) (stateOk_join ha (stateOk_join hb hc)) fun j hj => by
  have va := gE_v ha (j : Int)
  have vb := gE_v hb (j : Int)
  have vc := gE_v hc (j : Int)
  rw [gE_join _ _ hj,gE_join _ _ hj,gE_join _ _ hj,gE_join _ _ hj,gF_join (stateOk_join ha hb) hc hj,gF_join ha (stateOk_join hb hc) hj,gF_join ha hb hj,gF_join hb hc hj]
  refine ⟨?_,Int.max_assoc ..⟩
  rw [cut_max (va.max vb) vc (Int.le_max_left ..),entMax_comm (gE a (j : Int)) (cut _ _),cut_max (vb.max vc) va (Int.le_max_right ..),entMax_comm (entMax (gE b (j : Int)) (gE c (j : Int))) (gE a (j : Int)),entMax_assoc,Int.max_assoc]
theorem join_self {a : Sta} (ha : stateOk a) : joinF a a 5 = a :=
 sta_eq (stateOk_join ha ha) ha fun j hj => by
  rw [gE_join _ _ hj,gF_join ha ha hj,entMax_self,Int.max_self,gE_cut ha]
  exact ⟨rfl,rfl⟩
theorem gE_nil (j : Int) : gE ⟨[],[]⟩ j = zEnt := rfl
theorem gF_nil (j : Int) : gF ⟨[],[]⟩ j = 0 := rfl
theorem join_nil {a : Sta} (ha : stateOk a) : joinF a ⟨[],[]⟩ 5 = a :=
 sta_eq (stateOk_join ha stateOk_nil) ha fun j hj => by
  have h0 := gF_pos ha (j : Int)
  rw [gE_join _ _ hj,gF_join ha stateOk_nil hj,gE_nil,gF_nil,entMax_comm,entMax_zl (gE_v ha _),Int.max_eq_left h0.1,gE_cut ha]
  exact ⟨rfl,rfl⟩
theorem nil_join {a : Sta} (ha : stateOk a) : joinF ⟨[],[]⟩ a 5 = a := by rw [join_comm stateOk_nil ha,join_nil ha]
end Go.Proofs.YtpnolkhfeliehaaGreat.AM
namespace Go.Proofs.YtpnolkhfeliehaaGreat.AM
open Go Go.Proofs
set_option linter.unusedVariables false
set_option linter.unusedSimpArgs false
set_option maxRecDepth 100000
set_option maxHeartbeats 4000000
theorem mem_ps {q : Option Addr} {t : List RV} {p : Option Addr} (h : p ∈ t.map (·.p)) : ∃ c ∈ pcT q t,c.p = p := by
 obtain ⟨r,hr,rfl⟩ := List.mem_map.1 h
 exact ⟨pcRV r,List.mem_cons_of_mem _ (List.mem_map_of_mem hr),rfl⟩
theorem OwnP.after {st0 s s' : St} {l : List Pc} {q : Option Addr} {t : List RV} {n : Nat} (h : OwnP s l) (h0 : OwnP st0 l) (hn : st0.next ≤ n) (hN : NewP n (pcT q t)) (hL : PrL (t.map (·.p)) s s') : OwnP s' l :=
 h.prl hL fun c hc p hp => by
  obtain ⟨d,hd,rfl⟩ := mem_ps (q := q) hp
  exact (Dis.of (((h0.1 c hc).old).le hn) (hN d hd)).symm
theorem OwnP.before {st0 s s' : St} {l : List Pc} {q : Option Addr} {t : List RV} {n : Nat} (h : OwnP s l) (hN : NewP n l) (h0 : OwnP st0 (pcT q t)) (hn : st0.next ≤ n) (hL : PrL (t.map (·.p)) s s') : OwnP s' l :=
 h.prl hL fun c hc p hp => by
  obtain ⟨d,hd,rfl⟩ := mem_ps (q := q) hp
  exact Dis.of (((h0.1 d hd).old).le hn) (hN c hc)
theorem tableAdd_lens (T : List (List Int)) (k : Int) (ms : List Flr) : (tableAdd T k ms).map List.length = T.map List.length := by
 unfold tableAdd
 split
 ·rename_i h
  have hK : k.toNat < T.length := by omega
  have hg : T.getD k.toNat [] = T[k.toNat] := by rw [List.getD_eq_getElem?_getD,List.getElem?_eq_getElem hK]; rfl
  conv => rhs; rw [(split_at (List.getElem?_eq_getElem hK)).1]
  rw [putT,hg,List.map_append,List.map_append,List.map_cons,List.map_cons,addMarks_len]
 ·rfl
end Go.Proofs.YtpnolkhfeliehaaGreat.AM
namespace Go.Proofs.YtpnolkhfeliehaaGreat.AM
open Go Go.Proofs
set_option linter.unusedVariables false
set_option linter.unusedSimpArgs false
theorem tnew_tableOk {n : Int} : tableOk (tnew n) n ↔ 1 ≤ n ∧ n ≤ 5 := by
 unfold tnew
 constructor
 ·intro h; exact h.1
 ·intro h
  rw [if_pos h]
  refine ⟨h,by rw [List.length_replicate]; omega,fun l hl => ?_⟩
  rw [(List.mem_replicate.1 hl).2]
  refine ⟨rfl,fun j x hx => ?_⟩
  have := List.mem_of_getElem? hx
  simp only [List.mem_cons,List.not_mem_nil,or_false] at this
  omega
theorem vE.rank {e : Ent} (h : vE e) (h1 : 1 ≤ e.inc) : 0 ≤ e.rank ∧ e.rank ≤ 1 := by
 rcases h with rfl | h
 ·simp [zEnt] at h1
 ·exact h.2.1
end Go.Proofs.YtpnolkhfeliehaaGreat.AM
namespace Go.Proofs.YtpnolkhfeliehaaGreat.AM
open Go Go.Proofs
set_option linter.unusedVariables false
set_option linter.unusedSimpArgs false
set_option maxRecDepth 100000
set_option maxHeartbeats 4000000
theorem and255 (x : Int) : 0 ≤ bits .and .i64 x 255 ∧ bits .and .i64 x 255 < 256 := by
 simp only [bits,BitVec.toNat_and]
 have h : (BitVec.ofInt IntKind.i64.bits 255).toNat = 255 := by decide
 rw [h]
 have h2 : (BitVec.ofInt IntKind.i64.bits x).toNat &&& 255 ≤ 255 := Nat.and_le_right
 rw [wrap_i64 (by omega) (by omega)]
 omega
theorem op_and255 {P : Program} {ls : List Tmp} {call : ACallT} {o : Oper} {e : Operand → Value} {lo : Lo} {st : St} {K : Value × Lo × St → Prop} {t ty : TypeId} {x y : Operand} {a : Int} (ho : o.op = .binOp .and t x y ty) (hx : e x = .int .i64 a) (hy : e y = .int .i64 255)
  (hK : ∀ r,0 ≤ r → r < 256 → K (.int .i64 r,lo,st)) : ∃ r,aoper P ls call o e lo st = some r ∧ K r := by
 refine ⟨_,?_,hK (bits .and .i64 a 255) (and255 a).1 (and255 a).2⟩
 obtain ⟨d,op,ty,pos,after,gd⟩ := o
 simp only at ho
 subst ho
 simp [aoper,rop,hx,hy,abin,aint]
def Cur (st : St) (c : Nat) (p : Option Addr) (bs : List Int) : Prop := c < st.next ∧ ∃ (z : Nat) (i : Nat) (h : Int),st.mem c = some ⟨true,z,[.slice p bs.length bs.length,.int .i64 i,.int .i64 h]⟩ ∧ Ints st .u8 p bs ∧ (bs.length = 0 ∨ ∀ q,p = some q → q.block ≠ c) ∧ i ≤ bs.length
def PresC (c : Nat) (st st' : St) : Prop := st.next ≤ st'.next ∧ ∀ a,a < st.next → a ≠ c → st'.mem a = st.mem a
theorem PresC.refl (c : Nat) (st : St) : PresC c st st := ⟨Nat.le_refl _,fun _ _ _ => rfl⟩
theorem PresC.trans {c : Nat} {x y z : St} (h : PresC c x y) (k : PresC c y z) : PresC c x z := ⟨Nat.le_trans h.1 k.1,fun a ha hc => (k.2 a (Nat.lt_of_lt_of_le ha h.1) hc).trans (h.2 a ha hc)⟩
theorem PresC.ints {c : Nat} {st st' : St} {k : IntKind} {p : Option Addr} {l : List Int} (h : PresC c st st') (hi : Ints st k p l) (hp : l.length = 0 ∨ ∀ q,p = some q → q.block ≠ c) : Ints st' k p l := by
 rcases hi with hi | ⟨b,off,blk,rfl,hm,hb,hc⟩
 ·exact .inl hi
 rcases hp with h0 | hp
 ·exact .inl h0
 ·exact .inr ⟨b,off,blk,rfl,(h.2 b hb (hp _ rfl)).trans hm,Nat.lt_of_lt_of_le hb h.1,hc⟩
theorem PresC.own {c : Nat} {st st' : St} {k : IntKind} {p : Option Addr} {l : List Int} (h : PresC c st st') (hi : Own st k p l) (hp : ∀ q,p = some q → q.block ≠ c) : Own st' k p l := by
 rcases hi with ⟨rfl,rfl⟩ | ⟨a,rfl,ha,hm⟩
 ·exact .inl ⟨rfl,rfl⟩
 ·exact .inr ⟨a,rfl,Nat.lt_of_lt_of_le ha h.1,(h.2 a ha (hp _ rfl)).trans hm⟩
theorem Pres.c {c : Nat} {st st' : St} (h : Pres st st') : PresC c st st' := ⟨h.1,fun a ha _ => h.2 a ha⟩
theorem Cur.pres {c : Nat} {st st' : St} {bs : List Int} {p : Option Addr} (h : Pres st st') (hc : Cur st c p bs) : Cur st' c p bs := by
 obtain ⟨h1,z,i,x,hm,hI,hp,hi⟩ := hc
 exact ⟨Nat.lt_of_lt_of_le h1 h.1,z,i,x,(h.2 c h1).trans hm,h.ints hI,hp,hi⟩
theorem Cur.grow {c : Nat} {p q : Option Addr} {st0 st1 st2 : St} {bs : List Int} (h0 : Cur st0 c p bs) (h1 : PresC c st0 st1) (hc : Cur st1 c p bs) (h2 : ∀ a,a < st1.next → (∀ r,q = some r → a ≠ r.block) → st2.mem a = st1.mem a) (hn : st1.next ≤ st2.next) (hq : ∀ r,q = some r → st0.next ≤ r.block) : Cur st2 c p bs := by
 obtain ⟨hlt,_,_,_,_,hI,hp,_⟩ := h0
 obtain ⟨hl,z,i,h,hm,_,_,hi⟩ := hc
 have hP : PresC c st0 st2 := ⟨Nat.le_trans h1.1 hn,fun a ha hne => (h2 a (Nat.lt_of_lt_of_le ha h1.1) fun r hr he => by have := hq r hr; omega).trans (h1.2 a ha hne)⟩
 exact ⟨Nat.lt_of_lt_of_le hl hn,z,i,h,(h2 c hl fun r hr he => by have := hq r hr; omega).trans hm,hP.ints hI hp,hp,hi⟩
theorem ac_l1Byte (c : Nat) (p : Option Addr) (bs : List Int) (st : St) (hc : Cur st c p bs) (hs : bs.length < 1099511627776) : C 165 [.pointer (some ⟨c,0,none⟩)] st (fun v s => ∃ r,v = .int .i64 r ∧ 0 ≤ r ∧ r < 256 ∧ Cur s c p bs ∧ PresC c st s) := by
 obtain ⟨hlt,z,i,h,hm,hI,hp,hi⟩ := hc
 refine AC.enterX (i := ⟨[],[],[0,2,3,34],[]⟩) [(2,[],[]),(3,[],[]),(4,[],[])] Tryz.func165 rfl rfl (by kernel_rfl) (by kernel_rfl) Tryz.ntmps165 (Lb rfl) rfl ?_
 refine Cu lo0 st [(0,vP c 0)] fun _ => ?_
 refine ⟨_,rfl,?_⟩
 refine ⟨_,rfl,?_⟩
 refine ⟨_,op_ld rfl rfl rfl rfl hm rfl,?_⟩
 refine ⟨_,rfl,?_⟩
 refine ⟨_,rfl,?_⟩
 refine ⟨_,rfl,?_⟩
 refine ⟨_,rfl,?_⟩
 refine op_stc rfl rfl rfl rfl rfl rfl rfl hm rfl (Lb rfl) ?_
 intro st1 hm1 hn1 hk1
 obtain ⟨h1,hm1⟩ : ∃ h1,st1.mem c = some ⟨true,z,[.slice p bs.length bs.length,.int .i64 i,.int .i64 h1]⟩ := ⟨_,hm1⟩
 have hP1 : PresC c st st1 := ⟨Nat.le_of_eq hn1.symm,fun a _ hne => hk1 a hne⟩
 have hI1 := hP1.ints hI hp
 have hlt1 : c < st1.next := by rw [hn1]; exact hlt
 have hC1 : Cur st1 c p bs := ⟨hlt1,z,i,h1,hm1,hI1,hp,hi⟩
 refine Cu lo0 st1 [(0,vP c 0)] fun _ => ?_
 refine ⟨_,rfl,?_⟩
 refine ⟨_,rfl,?_⟩
 refine ⟨_,op_ld rfl rfl rfl rfl hm1 rfl,?_⟩
 refine ⟨_,rfl,?_⟩
 refine ⟨_,rfl,?_⟩
 refine ⟨_,rfl,?_⟩
 refine ⟨_,op_ld rfl rfl rfl rfl hm1 rfl,?_⟩
 refine ⟨_,rfl,?_⟩
 refine ⟨_,rfl,?_⟩
 refine op_and255 rfl rfl rfl ?_
 intro r1 hr1 hr1'
 refine Cu lo0 st1 [(0,vP c 0),(3,vI r1)] fun _ => ?_
 refine ⟨_,rfl,?_⟩
 refine ⟨_,rfl,?_⟩
 refine ⟨_,op_ld rfl rfl rfl rfl hm1 rfl,?_⟩
 refine ⟨_,rfl,?_⟩
 refine ⟨_,rfl,?_⟩
 refine ⟨_,op_ld rfl rfl rfl rfl hm1 rfl,?_⟩
 refine ⟨_,rfl,?_⟩
 refine ⟨_,rfl,?_⟩
 rintro (_|_) hd
 ·refine Cu lo0 st1 [(0,vP c 0),(3,vI r1),(34,vB false)] fun _ => ?_
  refine Cu lo0 st1 [(0,vP c 0),(3,vI r1)] fun _ => ?_
  repeat refine cxs ?_
  exact Rt ⟨r1,rfl,hr1,hr1',hC1,hP1⟩
 ·refine Cu lo0 st1 [(0,vP c 0),(3,vI r1),(34,vB true)] fun _ => ?_
  have hd : i < bs.length := Int.ofNat_lt.1 (of_decide_eq_true (show decide ((i : Int) < (bs.length : Int)) = true from hd))
  obtain ⟨b1,o1,k1,hpe,hb1,hc1⟩ := hI1.at hd
  refine ⟨_,rfl,?_⟩
  refine ⟨_,rfl,?_⟩
  refine ⟨_,op_ld rfl rfl rfl rfl hm1 rfl,?_⟩
  refine ⟨_,rfl,?_⟩
  refine ⟨_,rfl,?_⟩
  refine ⟨_,op_ld rfl rfl rfl rfl hm1 rfl,?_⟩
  refine ⟨_,op_idx (j := (i : Int)) (n := bs.length) (q := ⟨b1,o1,none⟩) rfl (congrArg (fun u => Value.slice u bs.length bs.length) hpe) rfl rfl rfl (Int.natCast_nonneg i) (Int.ofNat_lt.2 hd),?_⟩
  refine ⟨_,op_ld rfl rfl rfl rfl hb1 hc1,?_⟩
  refine ⟨_,rfl,?_⟩
  refine ⟨_,rfl,?_⟩
  refine op_and255 rfl rfl rfl ?_
  intro r2 hr2 hr2'
  refine Cu lo0 st1 [(0,vP c 0),(3,vI r2)] fun _ => ?_
  refine ⟨_,rfl,?_⟩
  refine ⟨_,rfl,?_⟩
  refine ⟨_,op_ld rfl rfl rfl rfl hm1 rfl,?_⟩
  refine ⟨_,rfl,?_⟩
  refine ⟨_,rfl,?_⟩
  refine ⟨_,rfl,?_⟩
  refine op_stc rfl rfl rfl rfl rfl rfl rfl hm1 rfl (Lb rfl) ?_
  intro st2 hm2 hn2 hk2
  have hm2 : st2.mem c = some ⟨true,z,[.slice p bs.length bs.length,.int .i64 (IntKind.wrap .i64 ((i : Int) + 1)),.int .i64 h1]⟩ := hm2
  rw [wrap_i64 (by omega) (by omega)] at hm2
  have hP2 : PresC c st1 st2 := ⟨Nat.le_of_eq hn2.symm,fun a _ hne => hk2 a hne⟩
  have hlt2 : c < st2.next := by rw [hn2]; exact hlt1
  have hC : Cur st2 c p bs := ⟨hlt2,z,i + 1,h1,hm2,hP2.ints hI1 hp,hp,hd⟩
  refine Cu lo0 st2 [(0,vP c 0),(3,vI r2)] fun _ => ?_
  repeat refine cxs ?_
  exact Rt ⟨r2,rfl,hr2,hr2',hC,hP1.trans hP2⟩
theorem tmod_lt {x n : Int} (hx : 0 ≤ x) (hn : 0 < n) : 0 ≤ x.tmod n ∧ x.tmod n < n := ⟨Int.tmod_nonneg _ hx,Int.tmod_lt_of_pos _ hn⟩
theorem ac_l1Below (c : Nat) (p : Option Addr) (bs : List Int) (n : Int) (st : St) (hc : Cur st c p bs) (hs : bs.length < 1099511627776) : C 70 [.pointer (some ⟨c,0,none⟩),.int .i64 n] st (fun v s => ∃ r,v = .int .i64 r ∧ 0 ≤ r ∧ (0 < n → r < n) ∧ (n ≤ 0 → r = 0) ∧ Cur s c p bs ∧ PresC c st s) := by
 refine AC.enter' (i := ⟨[],[],[0,1,4,5,6,7,8,10,12],[]⟩) Tryz.func70 rfl rfl (by kernel_rfl) Tryz.ntmps70 (Lb rfl) rfl (cw_sound _ _ _ _ _ ?_)
 refine ⟨_,rfl,?_⟩
 rintro (_|_) h0
 ·have h0 : 0 < n := by simpa using h0
  refine ⟨_,rfl,?_⟩
  rintro (_|_) h1
  ·refine ⟨_,rfl,(ac_l1Byte c p bs st hc hs).mono ?_⟩
   rintro _ s1 ⟨r1,rfl,hr1,hr1',hc1,hp1⟩
   refine ⟨_,rfl,(ac_l1Byte c p bs s1 hc1 hs).mono ?_⟩
   rintro _ s2 ⟨r2,rfl,hr2,hr2',hc2,hp2⟩
   refine ⟨_,rfl,(ac_l1Byte c p bs s2 hc2 hs).mono ?_⟩
   rintro _ s3 ⟨r3,rfl,hr3,hr3',hc3,hp3⟩
   refine ⟨_,rfl,(ac_l1Byte c p bs s3 hc3 hs).mono ?_⟩
   rintro _ s4 ⟨r4,rfl,hr4,hr4',hc4,hp4⟩
   refine ⟨_,rfl,?_⟩
   refine ⟨_,rfl,?_⟩
   refine ⟨_,rfl,?_⟩
   refine ⟨_,rfl,?_⟩
   refine ⟨_,rfl,?_⟩
   refine ⟨_,rfl,?_⟩
   refine ⟨_,op_rem rfl rfl rfl (by omega),?_⟩
   have e1 : IntKind.wrap .i64 (r1 * 16777216) = r1 * 16777216 := wrap_i64 (by omega) (by omega)
   have e2 : IntKind.wrap .i64 (r2 * 65536) = r2 * 65536 := wrap_i64 (by omega) (by omega)
   have e3 : IntKind.wrap .i64 (r3 * 256) = r3 * 256 := wrap_i64 (by omega) (by omega)
   have e4 : IntKind.wrap .i64 (r1 * 16777216 + r2 * 65536) = r1 * 16777216 + r2 * 65536 := wrap_i64 (by omega) (by omega)
   have e5 : IntKind.wrap .i64 (r1 * 16777216 + r2 * 65536 + r3 * 256) = r1 * 16777216 + r2 * 65536 + r3 * 256 := wrap_i64 (by omega) (by omega)
   have e6 : IntKind.wrap .i64 (r1 * 16777216 + r2 * 65536 + r3 * 256 + r4) = r1 * 16777216 + r2 * 65536 + r3 * 256 + r4 := wrap_i64 (by omega) (by omega)
   have hX : 0 ≤ IntKind.wrap .i64 (IntKind.wrap .i64 (IntKind.wrap .i64 (IntKind.wrap .i64 (r1 * 16777216) + IntKind.wrap .i64 (r2 * 65536)) + IntKind.wrap .i64 (r3 * 256)) + r4) := by
    rw [e1,e2,e4,e3,e5,e6]; omega
   refine ⟨.inl rfl,_,rfl,_,rfl,(tmod_lt hX h0).1,fun _ => (tmod_lt hX h0).2,fun h => by omega,hc4,((hp1.trans hp2).trans hp3).trans hp4⟩
  ·refine ⟨_,rfl,(ac_l1Byte c p bs st hc hs).mono ?_⟩
   rintro _ s1 ⟨r1,rfl,hr1,hr1',hc1,hp1⟩
   refine ⟨_,op_rem rfl rfl rfl (by omega),?_⟩
   refine ⟨.inl rfl,_,rfl,_,rfl,(tmod_lt hr1 h0).1,fun _ => (tmod_lt hr1 h0).2,fun h => by omega,hc1,hp1⟩
 ·have h0 : n ≤ 0 := by simpa using h0
  exact Rt ⟨0,rfl,Int.le_refl _,fun h => by omega,fun _ => rfl,hc,PresC.refl _ _⟩
theorem ac_l1Once (c : Nat) (p : Option Addr) (bs : List Int) (n : Int) (st : St) (hc : Cur st c p bs) (hs : bs.length < 1099511627776) : C 98 [.pointer (some ⟨c,0,none⟩),.int .i64 n] st (fun v s => ∃ b,v = .bool b ∧ Cur s c p bs ∧ PresC c st s) := by
 refine AC.enter' (i := ⟨[],[],[0,1,4],[]⟩) Tryz.func98 rfl rfl (by kernel_rfl) Tryz.ntmps98 (Lb rfl) rfl (cw_sound _ _ _ _ _ ?_)
 refine ⟨_,rfl,(ac_l1Below c p bs n st hc hs).mono ?_⟩
 rintro _ s1 ⟨r1,rfl,_,_,_,hc1,hp1⟩
 refine ⟨_,rfl,?_⟩
 intro b hb
 exact Rt ⟨b,rfl,hc1,hp1⟩
theorem Ints.ap {st : St} {k : IntKind} {p : Option Addr} {l : List Int} (h : Ints st k p l) : l.length = 0 ∨ ∀ q,p = some q → q.block ≠ st.next := by
 rcases h with h | ⟨b,off,blk,rfl,_,hb,_⟩
 ·exact .inl h
 ·exact .inr fun q hq => by injection hq with hq; subst hq; exact Nat.ne_of_lt hb
theorem PresC.of {c : Nat} {st st' : St} : PresC c st st' ↔ Pr (some ⟨c,0,none⟩) st st' :=
 ⟨fun h => ⟨h.1,fun a ha hn => h.2 a ha (hn _ rfl)⟩,fun h => ⟨h.1,fun a ha hn => h.2 a ha fun q hq => by injection hq with hq; subst hq; exact hn⟩⟩
theorem ac_spec_l1New (p : Option Addr) (l : List Int) (st : St) (hI : Ints st .u8 p l) (hs : l.length < 1099511627776) : C 46 [vS p l.length] st (fun v s => v = vP st.next 0 ∧ Cur s st.next p l ∧ Pres st s ∧ s.next = st.next + 1) := by
 refine AC.enterX (i := ⟨[],[],[0,2,3,4,15],[]⟩) [] Tryz.func46 rfl rfl (by kernel_rfl) (by kernel_rfl) Tryz.ntmps46 (Lb rfl) rfl ?_
 refine Cu lo0 st [(0,vS p l.length),(2,_)] fun _ => ?_
 iterate 2 refine ⟨_,rfl,?_⟩
 refine cxs ?_
 refine Cu lo0 st [(0,vS p l.length),(2,_),(3,_),(4,vI 0)] fun _ => ?_
 refine AW.loop0 (fun x : Int × Nat => [(0,vS p l.length),(2,.pointer none),(3,vI x.1),(4,vI x.2)]) (fun m (x : Int × Nat) st' => m = l.length - x.2 ∧ x.2 ≤ l.length ∧ st' = st) (_,0) _ ⟨rfl,rfl,rfl,rfl,trivial⟩ rfl ⟨rfl,Nat.zero_le _,rfl⟩ ?_
 rintro m x ρ0 st' ⟨rfl,hi,rfl⟩
 iterate 2 refine ⟨_,rfl,?_⟩
 rintro (_|_) h1
 ·replace h1 : ¬ ((x.2 : Int) < (l.length : Int)) := of_decide_eq_false h1
  refine ⟨_,rfl,?_⟩
  refine Cu lo0 st' [(0,vS p l.length),(2,.pointer none),(3,vI x.1),(4,vI x.2),(15,vB false)] fun _ => ?_
  refine cxs ?_
  iterate 2 refine ⟨_,rfl,?_⟩
  refine cxs ?_
  refine ⟨.inl rfl,_,rfl,rfl,⟨Nat.lt_succ_self _,0,0,_,if_pos rfl,Pres.push.ints hI,hI.ap,Nat.zero_le _⟩,Pres.push,rfl⟩
 ·replace h1 : (x.2 : Int) < (l.length : Int) := of_decide_eq_true h1
  refine ⟨_,rfl,?_⟩
  rintro (_|_) h2
  ·refine ⟨_,rfl,?_⟩
   refine Cu lo0 st' [(0,vS p l.length),(2,.pointer none),(3,vI x.1),(4,vI x.2),(15,vB false)] fun _ => ?_
   refine cxs ?_
   iterate 2 refine ⟨_,rfl,?_⟩
   refine cxs ?_
   refine ⟨.inl rfl,_,rfl,rfl,⟨Nat.lt_succ_self _,0,0,_,if_pos rfl,Pres.push.ints hI,hI.ap,Nat.zero_le _⟩,Pres.push,rfl⟩
  ·refine ⟨_,rfl,?_⟩
   refine Cu lo0 st' [(0,vS p l.length),(2,.pointer none),(3,vI x.1),(4,vI x.2),(15,vB true)] fun _ => ?_
   obtain ⟨b1,o1,k1,hpe,hb1,hc1⟩ := hI.at (Int.ofNat_lt.1 h1)
   refine cxs ?_
   refine ⟨_,rfl,?_⟩
   refine ⟨_,op_idx (j := (x.2 : Int)) (n := l.length) rfl (congrArg (fun u => vS u l.length) hpe) rfl rfl rfl (Int.natCast_nonneg _) h1,?_⟩
   refine ⟨_,op_ld rfl rfl rfl rfl hb1 hc1,?_⟩
   iterate 4 refine ⟨_,rfl,?_⟩
   refine Cu lo0 st' [(0,vS p l.length),(2,.pointer none),(3,_),(4,vI x.2),(15,vB true)] fun _ => ?_
   have e1 : IntKind.wrap .i64 ((x.2 : Int) + 1) = ((x.2 + 1 : Nat) : Int) := wrap_i64 (by omega) (by omega)
   refine ⟨_,rfl,?_⟩
   refine ⟨(_,x.2 + 1),l.length - (x.2 + 1),?_,⟨rfl,rfl,rfl,congrArg (Value.int .i64) e1,trivial⟩,rfl,rfl,?_,rfl⟩
   ·omega
   ·omega
theorem PresC.pres {c : Nat} {st st1 st2 : St} (h : Pres st st1) (k : PresC c st1 st2) (hc : st.next ≤ c) : Pres st st2 := ⟨Nat.le_trans h.1 k.1,fun a ha => (k.2 a (Nat.lt_of_lt_of_le ha h.1) (by omega)).trans (h.2 a ha)⟩
def NC (c : Nat) (q : Option Addr) : Prop := ∀ a,q = some a → a.block ≠ c
theorem NC.new {c n : Nat} {q : Option Addr} (hN : New n q) (h : c < n) : NC c q := fun a ha => Nat.ne_of_gt (Nat.lt_of_lt_of_le h (hN a ha))
theorem Cur.lt {st : St} {c : Nat} {p : Option Addr} {bs : List Int} (h : Cur st c p bs) : c < st.next := h.1
def FrC (c : Nat) (a b : St) (l : List Pc) : Prop := OwnP b l ∧ NewP a.next l ∧ PresC c a b ∧ c < a.next
theorem FrC.nil {c : Nat} {a : St} (h : c < a.next) : FrC c a a [] := ⟨OwnP.nil,NewP.nil,PresC.refl _ _,h⟩
theorem Frs.toC {c : Nat} {a b : St} {l : List Pc} (h : Frs a b l) (hc : c < a.next) : FrC c a b l := ⟨h.1,h.2.1,h.2.2.c,hc⟩
theorem OwnP.presC {c n : Nat} {st st' : St} {l : List Pc} (h : OwnP st l) (hP : PresC c st st') (hN : NewP n l) (hn : c < n) : OwnP st' l :=
 h.keep hP.1 fun x hx q hq => hP.2 _ ((h.1 x hx).old q hq) (Nat.ne_of_gt (Nat.lt_of_lt_of_le hn (hN x hx q hq)))
theorem FrC.later {c : Nat} {a b d : St} {l : List Pc} (h : FrC c a b l) (k : PresC c b d) : FrC c a d l := ⟨h.1.presC k h.2.1 h.2.2.2,h.2.1,h.2.2.1.trans k,h.2.2.2⟩
theorem FrC.step {c : Nat} {a b d : St} {l : List Pc} (h : FrC c a b l) (k : Pres b d) : FrC c a d l := h.later k.c
theorem FrC.sooner {c : Nat} {a b d : St} {l : List Pc} (h : FrC c b d l) (k : PresC c a b) (hc : c < a.next) : FrC c a d l := ⟨h.1,h.2.1.le k.1,k.trans h.2.2.1,hc⟩
theorem FrC.join {c : Nat} {a b d : St} {l m : List Pc} (h : FrC c a b l) (k : FrC c b d m) : FrC c a d (l ++ m) :=
 ⟨(h.later k.2.2.1).1.app k.1 fun x hx y hy => Dis.of (h.1.1 x hx).old (k.2.1 y hy),h.2.1.app (k.2.1.le h.2.2.1.1),h.2.2.1.trans k.2.2.1,h.2.2.2⟩
theorem FrC.lt {c : Nat} {a b : St} {l : List Pc} (h : FrC c a b l) : c < b.next := Nat.lt_of_lt_of_le h.2.2.2 h.2.2.1.1
theorem FrC.add {c : Nat} {a b d : St} {l m : List Pc} (h : FrC c a b l) (k : Frs b d m) : FrC c a d (l ++ m) := h.join (k.toC h.lt)
theorem FrC.left {c : Nat} {a b : St} {l m : List Pc} (h : FrC c a b (l ++ m)) : FrC c a b l := ⟨h.1.left,fun x hx => h.2.1 x (List.mem_append_left _ hx),h.2.2⟩
theorem FrC.right {c : Nat} {a b : St} {l m : List Pc} (h : FrC c a b (l ++ m)) : FrC c a b m := ⟨h.1.right,fun x hx => h.2.1 x (List.mem_append_right _ hx),h.2.2⟩
theorem FrC.out {st s1 s2 : St} {l : List Pc} (hF : FrC st.next s1 s2 l) (hP : Pres st s1) : Frs st s2 l := ⟨hF.1,hF.2.1.le hP.1,PresC.pres hP hF.2.2.1 (Nat.le_refl _)⟩
theorem PresC.thenNew {c : Nat} {q : Option Addr} {a b d : St} (h : PresC c a b) (k : Pr q b d) (hn : New a.next q) : PresC c a d :=
 ⟨Nat.le_trans h.1 k.1,fun x hx hc => (k.2 x (Nat.lt_of_lt_of_le hx h.1) fun r hr he => by have := hn r hr; omega).trans (h.2 x hx hc)⟩
theorem Cur.thenNew {c : Nat} {p q : Option Addr} {bs : List Int} {s0 s1 s2 : St} (h1 : Cur s1 c p bs) (h0 : Cur s0 c p bs) (h : PresC c s0 s1) (k : Pr q s1 s2) (hn : New s0.next q) : Cur s2 c p bs := Cur.grow h0 h h1 k.2 k.1 hn
theorem FrC.items {c : Nat} {a b d : St} {u : SV} {q : Option Addr} {l : List Itm} (h : FrC c a b (pcS u)) (hp : Pr u.p b d) (ho : OwnR d 6 cItm q l) (hn : New b.next q) : FrC c a d (pcS ⟨q,u.q,⟨l,u.x.floors⟩⟩) ∧ PresC c a d :=
 have hP := PresC.thenNew h.2.2.1 hp (h.2.1 _ (List.mem_cons_self ..))
 ⟨⟨pcS_items h.1 hp ho hn,NewP.cons (hn.le h.2.2.1.1) (NewP.cons (h.2.1 _ (List.mem_cons_of_mem _ (List.mem_cons_self ..))) NewP.nil),hP,h.2.2.2⟩,hP⟩
theorem FrC.floors {c : Nat} {a b d : St} {u : SV} {q : Option Addr} {l : List Flr} (h : FrC c a b (pcS u)) (hp : Pr u.q b d) (ho : OwnR d 2 cFlr q l) (hn : New b.next q) : FrC c a d (pcS ⟨u.p,q,⟨u.x.items,l⟩⟩) ∧ PresC c a d :=
 have hP := PresC.thenNew h.2.2.1 hp (h.2.1 _ (List.mem_cons_of_mem _ (List.mem_cons_self ..)))
 ⟨⟨pcS_floors h.1 hp ho hn,NewP.cons (h.2.1 _ (List.mem_cons_self ..)) (NewP.cons (hn.le h.2.2.1.1) NewP.nil),hP,h.2.2.2⟩,hP⟩
theorem FrC.setItems {c : Nat} {a b d : St} {u : SV} {l : List Itm} (h : FrC c a b (pcS u)) (hp : Pr u.p b d) (ho : OwnR d 6 cItm u.p l) : FrC c a d (pcS ⟨u.p,u.q,⟨l,u.x.floors⟩⟩) ∧ PresC c a d :=
 have hP := PresC.thenNew h.2.2.1 hp (h.2.1 _ (List.mem_cons_self ..))
 ⟨⟨OwnP.update (l := []) (m := [pcR 2 cFlr u.q u.x.floors]) (d := pcR 6 cItm u.p l) h.1 hp (own_pc ho) rfl,NewP.cons (h.2.1 (pcR 6 cItm u.p u.x.items) (List.mem_cons_self ..)) (NewP.cons (h.2.1 _ (List.mem_cons_of_mem _ (List.mem_cons_self ..))) NewP.nil),hP,h.2.2.2⟩,hP⟩
theorem Frs.nlS {a : St} : Frs a a (pcS ⟨none,none,nilS⟩) := ⟨pcS_nil,newS_nil,Pres.refl _⟩
structure smS (n : Nat) (x : Sta) : Prop where
 i : x.items.length ≤ n
 f : x.floors.length ≤ n
 d : ∀ y ∈ x.items,y.e.data.size ≤ 9
theorem smS.big {n : Nat} {x : Sta} (h : smS n x) (hn : n ≤ 1048576) : bigS x := ⟨Nat.le_trans h.i hn,Nat.le_trans h.f hn,fun y hy => Nat.le_trans (h.d y hy) (by decide)⟩
theorem smS.le {n m : Nat} {x : Sta} (h : smS n x) (k : n ≤ m) : smS m x := ⟨Nat.le_trans h.i k,Nat.le_trans h.f k,h.d⟩
theorem ids_len {α : Type} {id : α → Int} {l : List α} (h : ∀ (j : Nat) x,l[j]? = some x → (0 ≤ id x ∧ id x ≤ 4) ∧ ∀ y,0 < j → l[j - 1]? = some y → id y < id x) : l.length ≤ 5 := by
 have key : ∀ (j : Nat) x,l[j]? = some x → (j : Int) ≤ id x := by
  intro j
  induction j with
  | zero => intro x hx; exact (h 0 x hx).1.1
  | succ j ih =>
   intro x hx
   obtain ⟨hj,_⟩ := List.getElem?_eq_some_iff.1 hx
   have hy : l[j]? = some l[j] := List.getElem?_eq_getElem (by omega)
   have := ih _ hy
   have := (h _ _ hx).2 l[j] (Nat.succ_pos j) hy
   omega
 rcases Nat.lt_or_ge 5 l.length with h5 | h5
 ·have hx : l[5]? = some l[5] := List.getElem?_eq_getElem h5
  have := key 5 _ hx
  have := (h 5 _ hx).1.2
  omega
 ·exact h5
theorem marks_len {l : List Flr} (h : marksOk l) : l.length ≤ 5 := ids_len (id := fun x => x.id) fun j x hx => ⟨(h j x hx).1,(h j x hx).2.2⟩
theorem items_len {s : Sta} (h : stateOk s) : s.items.length ≤ 5 := ids_len (id := fun x => x.id) fun j x hx => ⟨(h.1 j x hx).1,(h.1 j x hx).2.2.2⟩
theorem sm_ok {s : Sta} (h : stateOk s) : smS 5 s := ⟨items_len h,marks_len h.2,fun y hy => by
 obtain ⟨j,hj⟩ := List.getElem?_of_mem hy
 have := (h.1 j y hj).2.1.2.2.2.2
 omega⟩
theorem big_ok {s : Sta} (h : stateOk s) : bigS s := (sm_ok h).big (by decide)
theorem szm (g : Int → Int) : szOk (marksF g 5).length := Nat.le_trans (marksF_len g 5) (by decide)
abbrev cStr : ByteArray → List Value := fun s => [.string s]
theorem cStr_len (x : ByteArray) : (cStr x).length = 1 := rfl
theorem ent_mk {i r b v : Int} {d : ByteArray} (h1 : 1 ≤ i ∧ i ≤ 1000) (h2 : 0 ≤ r ∧ r ≤ 1) (h3 : 0 ≤ b ∧ b ≤ 100000) (h4 : 0 ≤ v ∧ v ≤ 1000) (h5 : d.size ≤ 8) : entOk ⟨i,r,b,v,d⟩ := ⟨h1,h2,h3,h4,h5⟩
section
variable {P : Program} {ls : List Tmp} {call : ACallT} {o : Oper} {e : Operand → Value} {lo : Lo} {st : St} {K : Value × Lo × St → Prop}
theorem op_litS {t el : TypeId} {n : Nat} {ps : Array (Nat × Operand)} {u : Value} {l : List ByteArray} (ho : o.op = .buildSlice t n ps) (hp : parts e ps = mkp 0 (l.map Value.string)) (hn : n = l.length) (h0 : 0 < n) (he : telem P t = some el) (hz : tsize P el = some 1) (hz0 : tzero P el = some [u]) (hsz : n ≤ 16777216)
  (hK : ∀ q st',OwnR st' 1 cStr q l → Pres st st' → New st.next q → K (.slice q n n,lo,st')) : ∃ r,aoper P ls call o e lo st = some r ∧ K r := by
 refine op_lit ho hp (by rw [hn,List.length_map]) h0 he hz hz0 Nat.one_pos rfl (by omega) (fun v hv => ?_) ?_
 ·obtain ⟨r,_,rfl⟩ := List.mem_map.1 hv
  exact ⟨rfl,rfl⟩
 ·rw [show (l.map Value.string).flatMap (fun v => v.cells.toList) = l.flatMap cStr by rw [List.flatMap_map]; rfl]
  exact hK _ _ OwnR.push Pres.push New.self
theorem op_putw {α : Type} {f : α → List Value} {z : Nat} {t : TypeId} {x u : Operand} {p : Option Addr} {a d i : Nat} {l : List α} {j : Nat} {w y : α} {ws : List Value} {v : Value} (ho : o.op = .store t x u) (hx : e x = .pointer (some ⟨a,d,none⟩)) (hd : d = j * z + i) (hu : e u = v) (ht : tsize P t = some ws.length) (hz : ∀ x,(f x).length = z) (hv : v.cells.toList = ws) (hi : ws.all isCell = true) (hw : l[j]? = some w) (hf : ∃ A M B,f w = A ++ (M ++ B) ∧ f y = A ++ (ws ++ B) ∧ A.length = i ∧ M.length = ws.length)
  (hown : OwnR st z f p l) (hp : p = some ⟨a,0,none⟩)
  (hK : ∀ st',OwnR st' z f p (l.set j y) → Pr p st st' → st'.next = st.next → K (undef,lo,st')) : ∃ r,aoper P ls call o e lo st = some r ∧ K r := by
 subst hp hd
 rcases hown with ⟨h,_⟩ | ⟨a',h,ha,hm⟩
 ·cases h
 injection h with h
 injection h with h _ _
 subst h
 obtain ⟨hj,_⟩ := List.getElem?_eq_some_iff.1 hw
 obtain ⟨pre,cs,suf,h1,h2,h3,h4⟩ := flat_set hz (l := l) (j := j) (x := y) hj
 rw [hw] at h3
 injection h3 with h3
 obtain ⟨A,M,B,e1,e2,e3,e4⟩ := hf
 have hlen : j * z + i + ws.length ≤ (l.flatMap f).length := by
  rw [h1,← h3,e1]
  simp only [List.length_append]
  omega
 refine op_sta (z := ws.length) ho hx hu rfl ht (by rw [hv]) (by rw [hv]; exact hi) hm rfl hlen fun st' k1 k2 k3 => hK st' (.inr ⟨a,rfl,by omega,?_⟩) ⟨Nat.le_of_eq k2.symm,fun b _ hne => k3 b (fun hb => hne _ rfl hb)⟩ k2
 rw [k1]
 show some (Blk.mk true z (splice (l.flatMap f) (j * z + i) v.cells.toList)) = _
 rw [hv,h4,h1,← h3,e1,e2,← h2,← e3]
 have := splice_mid ws (pre ++ A) M (B ++ suf) e4
 simp only [List.append_assoc,List.length_append] at this ⊢
 rw [this]
end
theorem ac_d_l1Below {p : Option Addr} {bs : List Int} (c : Nat) (n : Int) (st : St) (hc : Cur st c p bs) (hs : bs.length < 1099511627776) : C 70 [vP c 0,vI n] st (fun v s => ∃ r,v = vI r ∧ 0 ≤ r ∧ (0 < n → r < n) ∧ (n ≤ 0 → r = 0) ∧ Cur s c p bs ∧ PresC c st s) := ac_l1Below c p bs n st hc hs
theorem ac_d_l1Once {p : Option Addr} {bs : List Int} (c : Nat) (n : Int) (st : St) (hc : Cur st c p bs) (hs : bs.length < 1099511627776) : C 98 [vP c 0,vI n] st (fun v s => ∃ b,v = .bool b ∧ Cur s c p bs ∧ PresC c st s) := ac_l1Once c p bs n st hc hs
theorem ac_d_l1PickInt {p : Option Addr} {bs : List Int} (c : Nat) (q : Option Addr) (l : List Int) (st : St) (hc : Cur st c p bs) (hs : bs.length < 1099511627776) (hl : 0 < l.length) (hO : OwnR st 1 fI q l) (hp : NC c q) : C 143 [vP c 0,vS q l.length] st (fun v s => ∃ r,v = vI r ∧ r ∈ l ∧ Cur s c p bs ∧ PresC c st s) := by
 refine AC.enter' (i := ⟨[],[],[0,1,4],[]⟩) Tryz.func143 rfl rfl (by kernel_rfl) Tryz.ntmps143 (Lb rfl) rfl (cw_sound _ _ _ _ _ ?_)
 refine ⟨_,rfl,?_⟩
 refine ⟨_,rfl,(ac_l1Below c p bs l.length st hc hs).mono ?_⟩
 rintro _ s1 ⟨r1,rfl,h0,h1,_,hc1,hp1⟩
 have h1 := h1 (by omega)
 obtain ⟨j,rfl⟩ : ∃ j : Nat,r1 = j := ⟨r1.toNat,by omega⟩
 have hO1 : OwnR s1 1 fI q l := by
  rcases hO with h | ⟨a,rfl,ha,hm⟩
  ·exact .inl h
  ·exact .inr ⟨a,rfl,Nat.lt_of_lt_of_le ha hp1.1,(hp1.2 a ha (hp _ rfl)).trans hm⟩
 obtain ⟨b1,o1,k1,x,rfl,hx,hb1,hcc,_⟩ := (hO1.rows fI_len).atB (j := j) (by omega)
 refine ⟨_,op_idx rfl rfl rfl rfl rfl (by omega) (by omega),?_⟩
 refine ⟨_,op_ldc (i := 0) rfl rfl rfl rfl hb1 hcc rfl rfl,?_⟩
 exact Rt ⟨x,rfl,List.mem_of_getElem? hx,hc1,hp1⟩
theorem ac_d_l1Pick {p : Option Addr} {bs : List Int} (c : Nat) (q : Option Addr) (l : List ByteArray) (st : St) (hc : Cur st c p bs) (hs : bs.length < 1099511627776) (hl : 0 < l.length) (hO : OwnR st 1 cStr q l) (hp : NC c q) : C 99 [vP c 0,vS q l.length] st (fun v s => ∃ r : ByteArray,v = .string r ∧ r ∈ l ∧ Cur s c p bs ∧ PresC c st s) := by
 refine AC.enter' (i := ⟨[],[],[0,1,4],[]⟩) Tryz.func99 rfl rfl (by kernel_rfl) Tryz.ntmps99 (Lb rfl) rfl (cw_sound _ _ _ _ _ ?_)
 refine ⟨_,rfl,?_⟩
 refine ⟨_,rfl,(ac_l1Below c p bs l.length st hc hs).mono ?_⟩
 rintro _ s1 ⟨r1,rfl,h0,h1,_,hc1,hp1⟩
 have h1 := h1 (by omega)
 obtain ⟨j,rfl⟩ : ∃ j : Nat,r1 = j := ⟨r1.toNat,by omega⟩
 have hO1 : OwnR s1 1 cStr q l := by
  rcases hO with h | ⟨a,rfl,ha,hm⟩
  ·exact .inl h
  ·exact .inr ⟨a,rfl,Nat.lt_of_lt_of_le ha hp1.1,(hp1.2 a ha (hp _ rfl)).trans hm⟩
 obtain ⟨b1,o1,k1,x,rfl,hx,hb1,hcc,_⟩ := (hO1.rows cStr_len).atB (j := j) (by omega)
 refine ⟨_,op_idx rfl rfl rfl rfl rfl (by omega) (by omega),?_⟩
 refine ⟨_,op_ldc (i := 0) rfl rfl rfl rfl hb1 hcc rfl rfl,?_⟩
 exact Rt ⟨x,rfl,List.mem_of_getElem? hx,hc1,hp1⟩
theorem texts_8 {x : ByteArray} (h : x ∈ [⟨#[]⟩,⟨#[97]⟩,⟨#[98]⟩,⟨#[97,98]⟩,⟨#[49,50,51,52,53,54,55,56]⟩]) : x.size ≤ 8 := by
 simp only [List.mem_cons,List.not_mem_nil,or_false] at h
 rcases h with rfl | rfl | rfl | rfl | rfl <;> decide
theorem ac_d_l2Right {p : Option Addr} {bs : List Int} (c : Nat) (st : St) (hc : Cur st c p bs) (hs : bs.length < 1099511627776) : C 198 [vP c 0] st (fun v s => ∃ e : Ent,v = .agg #[vI e.inc,vI e.rank,vI e.beat,vI e.ver,.string e.data] ∧ entOk e ∧ Cur s c p bs ∧ PresC c st s) := by
 refine AC.enterX (i := ⟨[2],[2],[0,2],[]⟩) [] Tryz.func198 rfl rfl (by kernel_rfl) (by kernel_rfl) Tryz.ntmps198 (Lb rfl) rfl ?_
 refine ⟨_,rfl,?_⟩
 refine Cm 1 st [(0,vP c 0),Ml 2 0] [(2,0,[vI 0,vI 0,vI 0,vI 0,.string ⟨#[]⟩])] fun _ _ => ?_
 refine ⟨_,rfl,(ac_d_l1Below c 3 st hc (by first | assumption | omega)).mono ?_⟩
 rintro _ s4 ⟨r4,rfl,h4,h4',h4'',hC4,hL4⟩
 have ew5 : IntKind.wrap .i64 ((1) + r4) = (1) + r4 := wrap_i64 (by omega) (by omega)
 refine ⟨_,rfl,?_⟩
 refine ⟨_,rfl,(ac_d_l1Below c 2 s4 hC4 (by first | assumption | omega)).mono ?_⟩
 rintro _ s7 ⟨r7,rfl,h7,h7',h7'',hC7,hL7⟩
 refine ⟨_,rfl,(ac_d_l1Below c 3 s7 hC7 (by first | assumption | omega)).mono ?_⟩
 rintro _ s9 ⟨r9,rfl,h9,h9',h9'',hC9,hL9⟩
 refine ⟨_,rfl,(ac_d_l1Below c 3 s9 hC9 (by first | assumption | omega)).mono ?_⟩
 rintro _ s11 ⟨r11,rfl,h11,h11',h11'',hC11,hL11⟩
 refine op_litS (l := [⟨#[]⟩,⟨#[97]⟩,⟨#[98]⟩,⟨#[97,98]⟩,⟨#[49,50,51,52,53,54,55,56]⟩]) rfl rfl rfl (Lb rfl) rfl rfl rfl (Lb rfl) ?_
 intro q13 s13 hO13 hP13 hN13
 refine ⟨_,rfl,(ac_d_l1Pick c q13 ([⟨#[]⟩,⟨#[97]⟩,⟨#[98]⟩,⟨#[97,98]⟩,⟨#[49,50,51,52,53,54,55,56]⟩]) s13 (hC11.pres hP13) (by first | assumption | omega) (by first | assumption | omega | decide) (by first | assumption | omega) (by first | assumption | exact NC.new (by assumption) (Cur.lt (by assumption)))).mono ?_⟩
 rintro _ s14 ⟨r14,rfl,h14,hC14,hL14⟩
 refine ⟨_,rfl,?_⟩
 refine ⟨_,Os rfl,?_⟩
 exact cxs (Rt ⟨⟨IntKind.wrap .i64 (1 + r4),r7,r9,r11,r14⟩,rfl,ent_mk (by omega) (by omega) (by omega) (by omega) (texts_8 h14),hC14,((((hL4.trans hL7).trans hL9).trans hL11).trans hP13.c).trans hL14⟩)
end Go.Proofs.YtpnolkhfeliehaaGreat.AM
namespace Go.Proofs.YtpnolkhfeliehaaGreat.AM
open Go Go.Proofs
set_option linter.unusedVariables false
set_option linter.unusedSimpArgs false
theorem prune_ok {s : Sta} (h : stateOk s) (t : List (List Int)) : stateOk (pruneF s t) := ok_prune rfl h
def leS (a b : Sta) : Prop := joinF a b 5 = b
theorem leS_trans {a b c : Sta} (ha : stateOk a) (hb : stateOk b) (hc : stateOk c) (h : leS a b) (k : leS b c) : leS a c := by
 show joinF a c 5 = c
 rw [← k,← join_assoc ha hb hc,h]
theorem leS_left {a b : Sta} (ha : stateOk a) (hb : stateOk b) : leS a (joinF a b 5) := by
 show joinF a (joinF a b 5) 5 = joinF a b 5
 rw [← join_assoc ha ha hb,join_self ha]
theorem leS_right {a b : Sta} (ha : stateOk a) (hb : stateOk b) : leS b (joinF a b 5) := by rw [join_comm ha hb]; exact leS_left hb ha
theorem row_set {l : List Int} {i : Nat} {v : Int} (h : rowOk l) (hv : 0 ≤ v ∧ v ≤ 1000) : rowOk (l.set i v) := ⟨by rw [List.length_set]; exact h.1,fun j x hx => by
 rw [List.getElem?_set] at hx
 split at hx
 ·split at hx
  ·injection hx with hx; rw [← hx]; exact hv
  ·cases hx
 ·exact h.2 j x hx⟩
theorem row_get {l : List Int} (h : rowOk l) (i : Nat) : 0 ≤ l.getD i 0 ∧ l.getD i 0 ≤ 1000 := by
 rw [List.getD_eq_getElem?_getD]
 cases hx : l[i]? with
 | none => exact ⟨Int.le_refl _,by decide⟩
 | some x => exact h.2 i x hx
theorem addMarks_row : ∀ (ms : List Flr) (l : List Int),rowOk l → (∀ m ∈ ms,m.inc ≤ 1000) → rowOk (addMarks l ms)
 | [],l,h,_ => h
 | m :: ms,l,h,hm => addMarks_row ms _ (row_set h (by have := row_get h m.id.toNat; have := hm m (List.mem_cons_self ..); omega)) fun x hx => hm x (List.mem_cons_of_mem _ hx)
theorem marks_inc {ms : List Flr} (h : marksOk ms) : ∀ m ∈ ms,m.inc ≤ 1000 := fun m hm => by
 obtain ⟨j,hj⟩ := List.getElem?_of_mem hm
 exact (h j m hj).2.1.2
theorem table_add {t : List (List Int)} {n k : Int} {ms : List Flr} (h : tableOk t n) : tableOk (tableAdd t k ms) n := by
 unfold tableAdd
 split
 ·rename_i hc
  have hK : k.toNat < t.length := by omega
  have hrow : rowOk (t.getD k.toNat []) := by
   rw [List.getD_eq_getElem?_getD,List.getElem?_eq_getElem hK]
   exact h.2.2 _ (List.getElem_mem ..)
  refine ⟨h.1,by rw [putT_len hK]; exact h.2.1,fun l hl => ?_⟩
  rcases List.mem_append.1 hl with hl | hl
  ·exact h.2.2 l (List.mem_of_mem_take hl)
  ·rcases List.mem_cons.1 hl with rfl | hl
   ·exact addMarks_row _ _ hrow (marks_inc hc.2.1)
   ·exact h.2.2 l (List.mem_of_mem_drop hl)
 ·exact h
def RO (c : Int) (r : Ris) : Prop := (0 ≤ r.inc ∧ r.inc ≤ 1000) ∧ (0 ≤ r.beat ∧ r.beat ≤ 100000) ∧ (0 ≤ r.tick ∧ r.tick ≤ c)
theorem riseF_RO {c : Int} {l : List Ris} {y : Itm} (hc : 0 ≤ c) (hy : entOk y.e) (h : ∀ (j : Nat) r,l[j]? = some r → RO c r) : ∀ (j : Nat) r,(riseF c l y)[j]? = some r → RO c r := by
 intro j r hr
 unfold riseF at hr
 split at hr
 ·split at hr
  ·rw [List.getElem?_set] at hr
   split at hr
   ·split at hr
    ·injection hr with hr
     rw [← hr]
     obtain ⟨h1,_,h3,_⟩ := hy
     exact ⟨⟨by simp only; omega,h1.2⟩,h3,hc,Int.le_refl _⟩
    ·cases hr
   ·exact h j r hr
  ·exact h j r hr
 ·exact h j r hr
theorem risesF_RO {c : Int} (hc : 0 ≤ c) : ∀ (its : List Itm) (l : List Ris),(∀ y ∈ its,entOk y.e) → (∀ (j : Nat) r,l[j]? = some r → RO c r) → ∀ (j : Nat) r,(risesF c l its)[j]? = some r → RO c r
 | [],l,_,h => h
 | y :: its,l,hy,h => risesF_RO hc its _ (fun z hz => hy z (List.mem_cons_of_mem _ hz)) (riseF_RO hc (hy y (List.mem_cons_self ..)) h)
theorem items_ent {s : Sta} (h : stateOk s) : ∀ y ∈ s.items,entOk y.e := fun y hy => by
 obtain ⟨j,hj⟩ := List.getElem?_of_mem hy
 exact (h.1 j y hj).2.1
theorem take_ok {x : Nd} {p : Sta} (h : nodeOk x) (hp : stateOk p) : nodeOk (takeF x p) := by
 have hs := prune_ok (stateOk_join h.s hp) (tableAdd x.seen x.id (marksF (goneAt (joinF x.s p 5)) 5))
 exact ⟨h.n,h.id,hs,rfl,h.g,h.got,h.acked,h.seq,h.ack,table_add h.seen,h.num,h.clock,h.wait,h.limit,h.slots,h.sess,by show (risesF x.clock x.rises _).length = 5; rw [risesF_len]; exact h.rises.1,risesF_RO h.clock.1 _ _ (items_ent hs) h.rises.2⟩
end Go.Proofs.YtpnolkhfeliehaaGreat.AM
namespace Go.Proofs.YtpnolkhfeliehaaGreat.AM
open Go Go.Proofs
set_option linter.unusedVariables false
set_option linter.unusedSimpArgs false
set_option maxRecDepth 100000
set_option maxHeartbeats 4000000
def zI (n : Int) : List Int := List.replicate n.toNat 0
theorem zI_len (n : Int) : (zI n).length = n.toNat := List.length_replicate
theorem zI_int {n : Int} (h : 1 ≤ n ∧ n ≤ 5) : n = ((zI n).length : Int) := by rw [zI_len]; omega
theorem zI_mk (n : Int) : List.replicate (zI n).length (0 : Int) = zI n := by rw [zI_len]; rfl
abbrev zLW (cap : Int) : LW := ⟨cap,0,none,[],pcR 2 cSV none [],.inl rfl⟩
theorem Frs.lg0 {a : St} {cap : Int} : Frs a a (pcLog (zLW cap)) := ⟨OwnP.one (.inl ⟨rfl,rfl⟩),NewP.cons New.none NewP.nil,Pres.refl _⟩
theorem Frs.i0 {a : St} : Frs a a (pcIs ⟨none,[]⟩) := ⟨OwnP.one (.inl ⟨rfl,rfl⟩),NewP.cons New.none NewP.nil,Pres.refl _⟩
theorem Frs.t0 {a : St} : Frs a a (pcTT ⟨none,[]⟩) := ⟨OwnP.one (.inl ⟨rfl,rfl⟩),NewP.cons New.none NewP.nil,Pres.refl _⟩
theorem Frs.r0 {a : St} : Frs a a (pcRis ⟨none,[]⟩) := ⟨OwnP.one (.inl ⟨rfl,rfl⟩),NewP.cons New.none NewP.nil,Pres.refl _⟩
theorem Frs.s0 {a : St} : Frs a a (pcS ⟨none,none,nilS⟩) := ⟨pcS_nil,newS_nil,Pres.refl _⟩
theorem Frs.got {s0 st st' : St} {v : NW} {q : RV} (h : Frs s0 st (pcNW v)) (hF : Frs st st' (pcIs q)) : Frs s0 st' (pcNW { v with got := q }) := by
 have e : ∀ x : RV,pcNW { v with got := x } = (pcS v.s ++ (pcIs v.t.toRV ++ pcLog v.g)) ++ (pcIs x ++ (pcIs v.acked ++ (pcTT v.seen ++ (pcSes v.sess ++ pcRis v.rises)))) := fun x => by simp only [List.append_assoc]
 rw [e]
 exact Frs.swap (c := pcIs v.got) (by rw [← e]; exact h) hF
theorem Frs.acked {s0 st st' : St} {v : NW} {q : RV} (h : Frs s0 st (pcNW v)) (hF : Frs st st' (pcIs q)) : Frs s0 st' (pcNW { v with acked := q }) := by
 have e : ∀ x : RV,pcNW { v with acked := x } = (pcS v.s ++ (pcIs v.t.toRV ++ (pcLog v.g ++ pcIs v.got))) ++ (pcIs x ++ (pcTT v.seen ++ (pcSes v.sess ++ pcRis v.rises))) := fun x => by simp only [List.append_assoc]
 rw [e]
 exact Frs.swap (c := pcIs v.acked) (by rw [← e]; exact h) hF
theorem Frs.rise {s0 st st' : St} {v : NW} {q : RisV} (h : Frs s0 st (pcNW v)) (hF : Frs st st' (pcRis q)) : Frs s0 st' (pcNW { v with rises := q }) := by
 have e : ∀ x : RisV,pcNW { v with rises := x } = (pcS v.s ++ (pcIs v.t.toRV ++ (pcLog v.g ++ (pcIs v.got ++ (pcIs v.acked ++ (pcTT v.seen ++ pcSes v.sess)))))) ++ (pcRis x ++ []) := fun x => by simp only [List.append_assoc,List.append_nil]
 rw [e]
 exact Frs.swap (c := pcRis v.rises) (by rw [← e]; exact h) hF
def zNd : Nd := ⟨0,0,nilS,⟨[],0⟩,⟨0,0,[]⟩,[],[],[],0,0,[],0,0,0,[]⟩
abbrev zNW : NW := ⟨0,0,⟨none,none,nilS⟩,⟨⟨none,[]⟩,0⟩,zLW 0,⟨none,[]⟩,⟨none,[]⟩,⟨none,[]⟩,0,0,⟨none,[]⟩,0,0,0,⟨none,[]⟩⟩
theorem Frs.nd0 {a : St} : Frs a a (pcNW zNW) := Frs.s0.join (Frs.i0.join (Frs.lg0.join (Frs.i0.join (Frs.i0.join (Frs.t0.join (Frs.ses0.join Frs.r0))))))
noncomputable def newN (id n cap slots wait limit : Int) : Nd := ⟨id,n,nilS,treeF nilS,⟨cap,0,[]⟩,zI n,zI n,tnew n,0,slots,[],wait,limit,0,List.replicate 5 zRis⟩
abbrev newW (id n cap slots wait limit : Int) (t : TV) (q1 q2 : Option Addr) (tt : TT) (q3 : Option Addr) : NW := ⟨id,n,⟨none,none,nilS⟩,t,zLW cap,⟨q1,zI n⟩,⟨q2,zI n⟩,tt,0,slots,⟨none,[]⟩,wait,limit,0,⟨q3,List.replicate 5 zRis⟩⟩
open Classical in
noncomputable def newF (id n cap slots wait limit : Int) : Nd × Bool := if (1 ≤ n ∧ n ≤ 5) ∧ nodeOk (newN id n cap slots wait limit) then (newN id n cap slots wait limit,true) else (zNd,false)
theorem newF_no {id n cap slots wait limit : Int} (h : ¬ ((1 ≤ n ∧ n ≤ 5) ∧ nodeOk (newN id n cap slots wait limit))) : (zNd,false) = newF id n cap slots wait limit := (if_neg h).symm
theorem newF_yes {id n cap slots wait limit : Int} {x : Nd} (h : (1 ≤ n ∧ n ≤ 5) ∧ nodeOk (newN id n cap slots wait limit)) (hx : x = newN id n cap slots wait limit) : (x,true) = newF id n cap slots wait limit := by rw [hx]; exact (if_pos h).symm
theorem tree_len (s : Sta) : (treeF s).leaves.length ≤ 4 := by
 unfold treeF
 split
 ·exact Nat.le_of_eq (sums_len s 4)
 ·exact Nat.zero_le _
theorem newN_big {id n cap slots wait limit : Int} (h : 1 ≤ n ∧ n ≤ 5) : bigN (newN id n cap slots wait limit) := by
 have h1 := zI_len n
 have h2 := tnew_len n
 have h3 := tree_len nilS
 exact ⟨bigS_nil,by show (treeF nilS).leaves.length ≤ 1048576; omega,⟨Nat.zero_le _,fun s hs => by cases hs⟩,by show (zI n).length ≤ 1048576; omega,by show (zI n).length ≤ 1048576; omega,⟨by show (tnew n).length ≤ 1048576; omega,fun l hl => by have := h2.2 l hl; show l.length ≤ 1048576; omega⟩,Nat.zero_le _,by show (List.replicate 5 zRis).length ≤ 1048576; decide⟩
theorem ac_spec_NodeNew (id n cap slots wait limit : Int) (st : St) : C 193 [vI id,vI n,vI cap,vI slots,vI wait,vI limit] st (fun v s => ∃ (u : NW) (b : Bool),v = .tuple #[(vNV u),vB b] ∧ (u.x,b) = newF id n cap slots wait limit ∧ OwnP s (pcNW u) ∧ NewP st.next (pcNW u) ∧ Pres st s) := by
 refine AC.enterX (i := ⟨[12,14],[12,14],[0,1,2,3,4,5,12,13,14,17,38],[(3,[0,1,2,3,4,5,6,8,10,11,12,13,14,7,9,15,16,17,18])]⟩) [(3,[],[])] Tryz.func193 rfl rfl (by kernel_rfl) (by kernel_rfl) Tryz.ntmps193 (Lb rfl) rfl ?_
 refine ⟨_,rfl,?_⟩
 refine Cm 1 st [(0,vI id),(1,vI n),(2,vI cap),(3,vI slots),(4,vI wait),(5,vI limit),Ml 12 0,(13,vB false)] [(12,0,Zn)] fun _ _ => ?_
 refine ⟨_,rfl,(ac_spec_l1In n 1 5 st).mono ?_⟩
 rintro _ st ⟨x16,rfl,h16,rfl⟩
 rcases x16 with _|_
 ·replace h16 := of_decide_eq_false h16.symm
  refine ⟨_,rfl,?_⟩
  refine Cm 1 st [(0,vI id),(1,vI n),(2,vI cap),(3,vI slots),(4,vI wait),(5,vI limit),Ml 12 0,(13,vB false),(17,vB true)] [(12,0,Zn)] fun _ _ => ?_
  refine ⟨_,rfl,?_⟩
  refine ⟨_,op_stw (vs := [vI 0,vI 0,.slice none 0 0,.slice none 0 0,.slice none 0 0,vI 0,vI 0,vI 0,.slice none 0 0,.slice none 0 0,.slice none 0 0,.slice none 0 0,vI 0,vI 0,.slice none 0 0,vI 0,vI 0,vI 0,.slice none 0 0]) rfl rfl rfl rfl rfl rfl rfl rfl,?_⟩
  exact cxs (Rt ⟨zNW,false,rfl,newF_no (fun k => h16 k.1),Frs.nd0.1,Frs.nd0.2.1,Pres.refl _⟩)
 ·replace h16 := of_decide_eq_true h16.symm
  refine ⟨_,rfl,?_⟩
  refine Cm 1 st [(0,vI id),(1,vI n),(2,vI cap),(3,vI slots),(4,vI wait),(5,vI limit),Ml 12 0,(13,vB false),(17,vB false)] [(12,0,Zn)] fun _ _ => ?_
  refine cxs ?_
  refine ⟨_,rfl,?_⟩
  refine ⟨_,rfl,(ac_spec_TreeOf ⟨none,none,nilS⟩ st ⟨Rows.nil,Rows.nil⟩ bigS_nil).mono ?_⟩
  rintro _ s22 ⟨u22,rfl,h22,hO22,hN22,hP22⟩
  refine ⟨_,rfl,?_⟩
  refine ⟨_,rfl,(ac_spec_TableNew n s22).mono ?_⟩
  rintro _ s30 ⟨p30,t30,rfl,hO30,hN30,hP30,h30⟩
  refine op_mkK (z := 1) (f := fI) (a := (0 : Int)) (b := 8) (i := (zI n).length) rfl rfl rfl (zI_int h16) (zI_int h16) rfl rfl rfl rfl Nat.one_pos rfl rfl (by have := zI_len n; omega) (by have := zI_len n; omega) ?_
  intro q26 s26 hO26 hP26 hN26
  rw [zI_mk] at hO26
  refine op_mkK (z := 1) (f := fI) (a := (0 : Int)) (b := 8) (i := (zI n).length) rfl rfl rfl (zI_int h16) (zI_int h16) rfl rfl rfl rfl Nat.one_pos rfl rfl (by have := zI_len n; omega) (by have := zI_len n; omega) ?_
  intro q28 s28 hO28 hP28 hN28
  rw [zI_mk] at hO28
  refine op_mkK (z := 3) (f := cRise) (a := zRis) (b := 24) (i := 5) rfl rfl rfl rfl rfl rfl rfl rfl rfl (by decide) rfl rfl (by decide) (by decide) ?_
  intro q34 s34 hO34 hP34 hN34
  iterate 2 refine ⟨_,rfl,?_⟩
  refine ⟨_,op_stw (vs := [vI id,vI n,.slice none 0 0,.slice none 0 0,vS u22.p u22.l.length,vI u22.root,vI cap,vI 0,.slice none 0 0,vS q26 (zI n).length,vS q28 (zI n).length,vS p30 t30.length,vI 0,vI slots,.slice none 0 0,vI wait,vI limit,vI 0,vS q34 5]) rfl rfl rfl rfl rfl rfl rfl rfl,?_⟩
  refine Cm 2 s34 [Ml 12 0,(13,vB false),Ml 14 1] [(12,0,Zn),(14,1,[vI id,vI n,Sn,Sn,vS u22.p u22.l.length,vI u22.root,vI cap,vI 0,Sn,vS q26 (zI n).length,vS q28 (zI n).length,vS p30 t30.length,vI 0,vI slots,Sn,vI wait,vI limit,vI 0,vS q34 5])] fun _ _ => ?_
  have hF0 : Frs st s30 (pcNW ⟨id,n,⟨none,none,nilS⟩,u22,zLW cap,⟨none,[]⟩,⟨none,[]⟩,⟨p30,t30⟩,0,slots,⟨none,[]⟩,wait,limit,0,⟨none,[]⟩⟩) := Frs.s0.join ((Frs.one hO22 hN22 hP22).join (Frs.lg0.join (Frs.i0.join (Frs.i0.join (Frs.join ⟨hO30,hN30,hP30⟩ (Frs.ses0.join Frs.r0))))))
  have hF1 := ((hF0.got (q := ⟨q26,zI n⟩) (Frs.one hO26 hN26 hP26)).acked (q := ⟨q28,zI n⟩) (Frs.one hO28 hN28 hP28))
  have hF : Frs st s34 (pcNW (newW id n cap slots wait limit u22 q26 q28 ⟨p30,t30⟩ q34)) := hF1.rise (q := ⟨q34,List.replicate 5 zRis⟩) (Frs.one hO34 hN34 hP34)
  have hx : (newW id n cap slots wait limit u22 q26 q28 ⟨p30,t30⟩ q34).x = newN id n cap slots wait limit := nd_mk rfl h22 rfl h30
  refine ⟨_,op_ldo (v := .agg #[vI id,vI n,.slice none 0 0,.slice none 0 0,vS u22.p u22.l.length,vI u22.root,vI cap,vI 0,.slice none 0 0,vS q26 (zI n).length,vS q28 (zI n).length,vS p30 t30.length,vI 0,vI slots,.slice none 0 0,vI wait,vI limit,vI 0,vS q34 5]) rfl rfl rfl rfl,?_⟩
  refine ⟨_,rfl,(ac_spec_NodeOk (newW id n cap slots wait limit u22 q26 q28 ⟨p30,t30⟩ q34).v s34 hF.1.rdN (show bigN (newW id n cap slots wait limit u22 q26 q28 ⟨p30,t30⟩ q34).x from hx.symm ▸ newN_big h16)).mono ?_⟩
  rintro _ s37 ⟨x37,rfl,h37,hP37⟩
  rcases x37 with _|_
  ·replace h37 := fun k => Bool.false_ne_true (h37.2 k)
   refine ⟨_,rfl,?_⟩
   refine Cm 2 s37 [Ml 12 0,(13,vB false),Ml 14 1,(38,vB true)] [(12,0,Zn),(14,1,[vI id,vI n,Sn,Sn,vS u22.p u22.l.length,vI u22.root,vI cap,vI 0,Sn,vS q26 (zI n).length,vS q28 (zI n).length,vS p30 t30.length,vI 0,vI slots,Sn,vI wait,vI limit,vI 0,vS q34 5])] fun _ _ => ?_
   refine ⟨_,rfl,?_⟩
   refine ⟨_,op_stw (vs := [vI 0,vI 0,.slice none 0 0,.slice none 0 0,.slice none 0 0,vI 0,vI 0,vI 0,.slice none 0 0,.slice none 0 0,.slice none 0 0,.slice none 0 0,vI 0,vI 0,.slice none 0 0,vI 0,vI 0,vI 0,.slice none 0 0]) rfl rfl rfl rfl rfl rfl rfl rfl,?_⟩
   exact cxs (Rt ⟨zNW,false,rfl,newF_no (fun k => h37 (show nodeOk (newW id n cap slots wait limit u22 q26 q28 ⟨p30,t30⟩ q34).x from hx.symm ▸ k.2)),Frs.nd0.1,Frs.nd0.2.1,hF.2.2.trans hP37⟩)
  ·replace h37 := h37.1 rfl
   refine ⟨_,rfl,?_⟩
   refine Cm 2 s37 [Ml 12 0,(13,vB false),Ml 14 1,(38,vB false)] [(12,0,Zn),(14,1,[vI id,vI n,Sn,Sn,vS u22.p u22.l.length,vI u22.root,vI cap,vI 0,Sn,vS q26 (zI n).length,vS q28 (zI n).length,vS p30 t30.length,vI 0,vI slots,Sn,vI wait,vI limit,vI 0,vS q34 5])] fun _ _ => ?_
   refine cxs ?_
   refine ⟨_,op_ldo (v := .agg #[vI id,vI n,.slice none 0 0,.slice none 0 0,vS u22.p u22.l.length,vI u22.root,vI cap,vI 0,.slice none 0 0,vS q26 (zI n).length,vS q28 (zI n).length,vS p30 t30.length,vI 0,vI slots,.slice none 0 0,vI wait,vI limit,vI 0,vS q34 5]) rfl rfl rfl rfl,?_⟩
   refine ⟨_,op_stw (vs := [vI id,vI n,.slice none 0 0,.slice none 0 0,vS u22.p u22.l.length,vI u22.root,vI cap,vI 0,.slice none 0 0,vS q26 (zI n).length,vS q28 (zI n).length,vS p30 t30.length,vI 0,vI slots,.slice none 0 0,vI wait,vI limit,vI 0,vS q34 5]) rfl rfl rfl rfl rfl rfl rfl rfl,?_⟩
   exact cxs (Rt ⟨newW id n cap slots wait limit u22 q26 q28 ⟨p30,t30⟩ q34,true,rfl,newF_yes ⟨h16,hx ▸ (show nodeOk (newW id n cap slots wait limit u22 q26 q28 ⟨p30,t30⟩ q34).x from h37)⟩ hx,hF.1.pres hP37,hF.2.1,hF.2.2.trans hP37⟩)
end Go.Proofs.YtpnolkhfeliehaaGreat.AM
