/- Part 4 of the texts on which the law's proof rests. -/
import Derived.Test.YteabadoaeadcgaaXfc
namespace Go.Proofs.Yteabadoaeadcgaa.AM
open Go Go.Proofs
set_option linter.unusedVariables false
set_option linter.unusedSimpArgs false
set_option maxRecDepth 100000
set_option maxHeartbeats 4000000
def flL (l : List Flr) : List Int := l.flatMap fun x => [x.id,x.inc]
theorem flL_len (l : List Flr) : (flL l).length = 2 * l.length := by
 induction l with
 | nil => rfl
 | cons x l ih => rw [flL,List.flatMap_cons,List.length_append,List.length_cons,← flL,ih]; simp only [List.length_cons,List.length_nil]; omega
theorem flL_get : ∀ {l : List Flr} {i : Nat} {x : Flr},l[i]? = some x → (flL l)[2 * i]? = some x.id ∧ (flL l)[2 * i + 1]? = some x.inc
 | [],i,x,h => by simp at h
 | y :: l,0,x,h => by
  simp only [List.getElem?_cons_zero,Option.some.injEq] at h
  subst h; exact ⟨rfl,rfl⟩
 | y :: l,i + 1,x,h => by
  simp only [List.getElem?_cons_succ] at h
  have ih := flL_get h
  have e : flL (y :: l) = y.id :: y.inc :: flL l := rfl
  rw [e,show 2 * (i + 1) = 2 * i + 1 + 1 by omega,show 2 * i + 1 + 1 + 1 = (2 * i + 1) + 1 + 1 by omega]
  simp only [List.getElem?_cons_succ]
  exact ih
theorem flL_B (l : List Flr) : numsB (flL l) = flsB l := by
 unfold numsB flL flsB
 rw [List.flatMap_assoc]
 congr 1
 funext x
 simp [flB]
theorem flL_rng {l : List Flr} (h : marksOk l) : ∀ x ∈ flL l,0 ≤ x ∧ x ≤ 2147483647 := fun x hx => by
 obtain ⟨y,hy,hx⟩ := List.mem_flatMap.1 hx
 obtain ⟨j,hj⟩ := List.getElem?_of_mem hy
 have := h j y hj
 obtain ⟨h1,h2,_⟩ := this
 simp only [List.mem_cons,List.not_mem_nil,or_false] at hx
 omega
theorem ac_spec_StateOf (p : Option Addr) (l : List Int) (st : St) (hR : Rows st 1 fB p l) (hl : bytesOk l) (hs : l.length ≤ 1048576) : C 38 [vS p l.length] st (fun v s => ∃ (u : SV) (b : Bool),v = .tuple #[.agg #[vS u.p u.x.items.length,vS u.q u.x.floors.length],vB b] ∧ (u.x,b) = parseS l ∧ OwnP s (pcS u) ∧ NewP st.next (pcS u) ∧ Pres st s) := by
 have hs' : l.length ≤ 1099511627776 := by omega
 refine AC.enterX (i := ⟨[2,5,8],[2,5,8,39,42,43,46,47,50,51,54,55,76,77,82,87,97,111],[0,2,3,4,5,6,7,8,9,10,11,12,13,33,73,94,132],[]⟩) [(23,[12],[1]),(24,[15],[18])] Try.func38 rfl rfl (by kernel_rfl) (by kernel_rfl) Try.ntmps38 (Nat.le_of_ble_eq_true rfl) rfl ?_
 refine ⟨_,rfl,?_⟩
 refine AW.cutM (1) st [(0,vS p l.length),(2,vL 2 0 (0)),(3,vB false)] [(2,0,[.slice none 0 0,.slice none 0 0])] ⟨rfl,rfl,rfl,trivial⟩ ⟨rfl,trivial⟩ rfl fun ρ0 ff => ?_
 refine ⟨_,rfl,?_⟩
 refine ⟨_,rfl,?_⟩
 refine AW.cutM (1) (st.push 0 [vS p l.length,vI 0,vB false]) [(0,vS p l.length),(2,vL 2 0 (0)),(3,vB false),(4,vP st.next 0)] [(2,0,[.slice none 0 0,.slice none 0 0])] ⟨rfl,rfl,rfl,rfl,trivial⟩ ⟨rfl,trivial⟩ rfl fun ρ0 ff => ?_
 have hO1 : (rdC st.next p l 0 false).own (st.push 0 [vS p l.length,vI 0,vB false]) := .inr ⟨st.next,rfl,Nat.lt_succ_self _,if_pos rfl⟩
 have hP1 : Pres st (st.push 0 [vS p l.length,vI 0,vB false]) := Pres.push
 have hc1 : st.next < (st.push 0 [vS p l.length,vI 0,vB false]).next := Nat.lt_succ_self _
 obtain ⟨s1,hs1⟩ : ∃ s,s = st.push 0 [vS p l.length,vI 0,vB false] := ⟨_,rfl⟩
 rw [← hs1] at hO1 hP1 hc1 ⊢
 have hd := DisR.new hR
 have hR1 := hP1.rows hR
 iterate 2 refine ⟨_,rfl,?_⟩
 refine ⟨_,op_sto rfl rfl rfl rfl rfl rfl rfl,?_⟩
 refine AW.cutM (2) s1 [(0,vS p l.length),(2,vL 2 0 (0)),(3,vB false),(4,vP st.next 0),(5,vL 5 0 (1))] [(2,0,[.slice none 0 0,.slice none 0 0]),(5,1,[.slice none 0 0,.slice none 0 0])] ⟨rfl,rfl,rfl,rfl,rfl,trivial⟩ ⟨rfl,rfl,trivial⟩ rfl fun ρ0 ff => ?_
 refine ⟨_,rfl,(ac_spec_num st.next p l 0 false s1 hO1 hR1 hl hs' (by decide)).mono ?_⟩
 rintro _ s19 ⟨n,k,b,rfl,h19,hO19,hP19⟩
 refine cxs ?_
 obtain ⟨hk,hn0,hn1⟩ := rnF_get hl hs' (by decide) h19
 have hF19 : FrC st.next s1 s19 (pcS ⟨none,none,nilS⟩) := (Frs.nilS.toC (Nat.lt_of_lt_of_le hc1 hP19.1)).sooner (PresC.of.2 hP19) hc1
 have hS0 : ∀ s0,stateOk s0 → stB s0 = l → n = (s0.items.length : Int) ∧ ([] : List Itm) = s0.items.take 0 ∧ b = false ∧ Sf l k (itsB (s0.items.drop 0) ++ (putN (s0.floors.length : Int) ++ flsB s0.floors)) := fun s0 h1 h2 => by
  have h3 : Sf l 0 (putN (s0.items.length : Int) ++ (itsB s0.items ++ (putN (s0.floors.length : Int) ++ flsB s0.floors))) := by rw [← stB_eq,h2]; exact Sf.start l
  have h5 := items_len h1
  obtain ⟨e1,e2,e3⟩ := h3.num (by omega) rfl h19
  exact ⟨e1,rfl,e2,e3⟩
 have hlive : b = false → 0 < l.length := fun hb => by subst hb; exact rnF_live h19
 refine AW.cutM (2) s19 [(0,vS p l.length),(2,vL 2 0 (0)),(3,vB false),(4,vP st.next 0),(5,vL 5 0 (1)),(6,vI n),(7,vI (0))] [(2,0,[.slice none 0 0,.slice none 0 0]),(5,1,[.slice none 0 0,.slice none 0 0])] ⟨rfl,rfl,rfl,rfl,rfl,rfl,rfl,trivial⟩ ⟨rfl,rfl,trivial⟩ rfl fun ρ0 ff => ?_
 refine AW.loopM (fun x : Nat × SV × Int × Bool => [(0,vS p l.length),(2,vL 2 0 (0)),(4,vP st.next 0),(5,vL 5 0 (1)),(6,vI n),(7,vI (x.1 : Int))]) (fun x : Nat × SV × Int × Bool => [(2,0,[.slice none 0 0,.slice none 0 0]),(5,1,[vS x.2.1.p x.2.1.x.items.length,vS x.2.1.q x.2.1.x.floors.length])]) (fun m (x : Nat × SV × Int × Bool) st' => m = 100 - x.1 ∧ ((x.1 : Int) ≤ n ∧ x.1 ≤ 100) ∧ (x.2.1.x.items.length = x.1 ∧ x.2.1.x.floors = [] ∧ ∀ y ∈ x.2.1.x.items,y.e.data.size ≤ 1048576) ∧ x.2.2.1 ≤ 1099511627776 ∧ (∀ s0,stateOk s0 → stB s0 = l → n = (s0.items.length : Int) ∧ x.2.1.x.items = s0.items.take x.1 ∧ x.2.2.2 = false ∧ Sf l x.2.2.1 (itsB (s0.items.drop x.1) ++ (putN (s0.floors.length : Int) ++ flsB s0.floors))) ∧ (x.2.2.2 = false → 0 < l.length) ∧ FrC st.next s1 st' (pcS x.2.1) ∧ (rdC st.next p l x.2.2.1 x.2.2.2).own st') (0,⟨none,none,nilS⟩,k,b) _ ⟨rfl,rfl,rfl,rfl,rfl,rfl,trivial⟩ ⟨rfl,rfl,trivial⟩ ⟨rfl,⟨hn0,Nat.zero_le _⟩,⟨rfl,rfl,fun y hy => (nomatch hy)⟩,hk,hS0,hlive,hF19,hO19⟩ ?_
 rintro m ⟨i,u,k',b'⟩ ρ0 ff gg st' ⟨rfl,⟨hi,hi100⟩,⟨hil,hfl,hds⟩,hk',hS,hlv,hF,hO'⟩
 simp only at hi hi100 hil hfl hds hk' hS hlv hF hO'
 have hRl : Rows st' 1 fB p l := (PresC.of.1 hF.2.2.1).rowsD hd hR1
 have hmem := (rdC_mem hO').2
 refine ⟨_,rfl,?_⟩
 rintro (_|_) h22
 ·replace h22 : ¬ ((i : Int) < n) := of_decide_eq_false h22
  iterate 2 refine ⟨_,rfl,?_⟩
  refine AW.cutM (gg) st' [(0,vS p l.length),(2,vL 2 0 (0)),(4,vP st.next 0),(5,vL 5 0 (1)),(6,vI n),(7,vI (i : Int)),(33,vB false)] [(2,0,[.slice none 0 0,.slice none 0 0]),(5,1,[vS u.p u.x.items.length,vS u.q u.x.floors.length])] ⟨rfl,rfl,rfl,rfl,rfl,rfl,rfl,trivial⟩ ⟨rfl,rfl,trivial⟩ rfl fun ρ0 ff => ?_
  refine cxs ?_
  refine ⟨_,rfl,(ac_spec_l10Many st.next p l k' b' 2 st' hO' hRl hd hl hs' hk' (.inr rfl)).mono ?_⟩
  rintro _ s89 ⟨q2,FL,k7,b7,rfl,hFL,hk89,hl89,h89,hO89,hN89,hR89,hP89⟩
  refine cxs ?_
  have hF89 := hF.later (PresC.of.2 hP89)
  have hQ89 : Rows s89 1 fI q2 FL := hO89.rows fI_len
  have hS1 : ∀ s0,stateOk s0 → stB s0 = l → (i : Int) < n → False := fun s0 g1 g2 hlt => by
   obtain ⟨e1,e2,e3,e4⟩ := hS s0 g1 g2
   have h5 := items_len g1
   first | omega | (cases e3)
  have hS2 : ∀ s0,stateOk s0 → stB s0 = l → n ≤ 100 ∧ u.x.items = s0.items ∧ FL = flL s0.floors ∧ b7 = false := fun s0 g1 g2 => by
   obtain ⟨e1,e2,e3,e4⟩ := hS s0 g1 g2
   have hge : ¬ (i : Int) < n := hS1 s0 g1 g2
   have h5 := items_len g1
   have h6 := marks_len g1.2
   rw [List.drop_eq_nil_of_le (by omega)] at e4
   have e4 : Sf l k' (putN (s0.floors.length : Int) ++ (numsB (flL s0.floors) ++ [])) := by rw [List.append_nil,flL_B]; exact e4
   obtain ⟨a1,a2,a3⟩ := h89 e3 _ _ _ (flL_rng g1.2) (by rw [flL_len]; omega) (by omega) (by omega) e4
   exact ⟨by omega,by rw [e2]; exact List.take_of_length_le (by omega),a1,a2⟩
  refine AW.cutM (gg) s89 [(0,vS p l.length),(2,vL 2 0 (0)),(4,vP st.next 0),(5,vL 5 0 (1)),(6,vI n),(12,vS q2 FL.length),(13,vI (0))] [(2,0,[.slice none 0 0,.slice none 0 0]),(5,1,[vS u.p u.x.items.length,vS u.q u.x.floors.length])] ⟨rfl,rfl,rfl,rfl,rfl,rfl,rfl,trivial⟩ ⟨rfl,rfl,trivial⟩ rfl fun ρ0 ff => ?_
  refine AW.loopM (fun x : Nat × SV => [(0,vS p l.length),(2,vL 2 0 (0)),(4,vP st.next 0),(5,vL 5 0 (1)),(6,vI n),(12,vS q2 FL.length),(13,vI ((2 * x.1 : Nat) : Int))]) (fun x : Nat × SV => [(2,0,[.slice none 0 0,.slice none 0 0]),(5,1,[vS x.2.p x.2.x.items.length,vS x.2.q x.2.x.floors.length])]) (fun m (x : Nat × SV) st' => m = 200 - x.1 ∧ 2 * x.1 ≤ FL.length ∧ (x.2.x.items = u.x.items ∧ x.2.x.floors.length = x.1) ∧ (∀ s0,stateOk s0 → stB s0 = l → x.2.x.floors = s0.floors.take x.1) ∧ FrC st.next s1 st' (pcS x.2) ∧ (OwnR st' 1 fI q2 FL ∧ Dis x.2.q q2) ∧ (rdC st.next p l k7 b7).own st') (0,u) _ ⟨rfl,rfl,rfl,rfl,rfl,rfl,rfl,trivial⟩ ⟨rfl,rfl,trivial⟩ ⟨rfl,Nat.zero_le _,⟨rfl,by rw [hfl]; rfl⟩,fun s0 _ _ => by rw [hfl]; rfl,hF89,⟨hO89,Dis.of hF.1.floors.old hN89⟩,hR89⟩ ?_
  rintro m ⟨j,w⟩ ρ0 ff gg st' ⟨rfl,hj,⟨hwi,hwf⟩,hT,hG,⟨hQo,hDq⟩,hOw⟩
  simp only at hj hwi hwf hT hG hQo hDq hOw
  have hQw : Rows st' 1 fI q2 FL := hQo.rows fI_len
  have hRw : Rows st' 1 fB p l := (PresC.of.1 hG.2.2.1).rowsD hd hR1
  have ew91 : IntKind.wrap .i64 (((2 * j : Nat) : Int) + (1)) = ((2 * j + 1 : Nat) : Int) := (wrap_i64 (by omega) (by omega)).trans (by omega)
  iterate 3 refine ⟨_,rfl,?_⟩
  rintro (_|_) h94
  ·replace h94 : ¬ ((IntKind.wrap .i64 (((2 * j : Nat) : Int) + (1))) < (FL.length : Int)) := of_decide_eq_false h94
   rw [ew91] at h94
   refine AW.cutM (gg) st' [(0,vS p l.length),(2,vL 2 0 (0)),(4,vP st.next 0),(5,vL 5 0 (1)),(6,vI n),(12,vS q2 FL.length),(13,vI ((2 * j : Nat) : Int)),(94,vB false)] [(2,0,[.slice none 0 0,.slice none 0 0]),(5,1,[vS w.p w.x.items.length,vS w.q w.x.floors.length])] ⟨rfl,rfl,rfl,rfl,rfl,rfl,rfl,rfl,trivial⟩ ⟨rfl,rfl,trivial⟩ rfl fun ρ0 ff => ?_
   refine cxs ?_
   iterate 2 refine ⟨_,rfl,?_⟩
   have hmw := rdC_mem hOw
   have hbw : bigS w.x := ⟨by unfold szOk; rw [hwi]; omega,by unfold szOk; omega,fun y hy => hds y (by rw [← hwi]; exact hy)⟩
   have hRS : RdS st' w := hG.1.rdS
   have hT' : ∀ s0,stateOk s0 → stB s0 = l → w.x = s0 := fun s0 g1 g2 => by
    obtain ⟨e1,e2,e3,e4⟩ := hS2 s0 g1 g2
    have hlen : FL.length = 2 * s0.floors.length := by rw [e3,flL_len]
    exact sta_of (hwi.trans e2) (by rw [hT s0 g1 g2]; exact List.take_of_length_le (by omega))
   refine ⟨_,op_ld rfl rfl rfl rfl hmw.2 rfl,?_⟩
   rcases b7 with _|_
   ·refine ⟨_,rfl,?_⟩
    rintro (_|_) h118
    ·replace h118 : ¬ (n > (100)) := of_decide_eq_false h118
     refine ⟨_,rfl,?_⟩
     refine ⟨_,op_ldo rfl rfl rfl rfl,?_⟩
     refine ⟨_,rfl,(ac_spec_StateOk w st' hRS hbw).mono ?_⟩
     rintro _ st' ⟨x122,rfl,h122,rfl⟩
     rcases x122 with _|_
     ·replace h122 := fun k => Bool.false_ne_true (h122.2 k)
      iterate 3 refine ⟨_,rfl,?_⟩
      refine AW.cutM (gg) st' [(2,vL 2 0 (0)),(5,vL 5 0 (1)),(132,vB true)] [(2,0,[.slice none 0 0,.slice none 0 0]),(5,1,[vS w.p w.x.items.length,vS w.q w.x.floors.length])] ⟨rfl,rfl,rfl,trivial⟩ ⟨rfl,rfl,trivial⟩ rfl fun ρ0 ff => ?_
      refine ⟨_,rfl,?_⟩
      refine ⟨_,op_sto rfl rfl rfl rfl rfl rfl rfl,?_⟩
      refine cxs ?_
      exact ⟨.inl rfl,_,rfl,⟨none,none,nilS⟩,false,rfl,parse_no (fun s0 g1 g2 => h122 (hT' s0 g1 g2 ▸ g1)),pcS_nil,newS_nil,(hG.out hP1).2.2⟩
     ·replace h122 := h122.1 rfl
      iterate 2 refine ⟨_,rfl,?_⟩
      refine ⟨_,op_ldo rfl rfl rfl rfl,?_⟩
      refine ⟨_,rfl,(ac_spec_l6Bytes w st' hRS hbw h122).mono ?_⟩
      rintro _ s127 ⟨q127,rfl,hO127,hN127,hP127⟩
      refine ⟨hP127.2,?_⟩
      refine ⟨_,op_strW (l := stB w.x) rfl rfl rfl rfl rfl rfl (hO127.rows fB_len) (stB_pos h122),?_⟩
      refine ⟨_,op_strW (l := l) rfl rfl rfl rfl rfl rfl (hP127.rows hRw) (hl89 rfl),?_⟩
      refine ⟨ld_str rfl rfl (rows_lt hRw (hl89 rfl)),?_⟩
      refine ⟨_,rfl,?_⟩
      rintro (_|_) h131
      ·replace h131 : (toB (stB w.x)) = (toB l) := str_eq h131
       refine ⟨_,rfl,?_⟩
       refine AW.cutM (gg) s127 [(2,vL 2 0 (0)),(5,vL 5 0 (1)),(132,vB false)] [(2,0,[.slice none 0 0,.slice none 0 0]),(5,1,[vS w.p w.x.items.length,vS w.q w.x.floors.length])] ⟨rfl,rfl,rfl,trivial⟩ ⟨rfl,rfl,trivial⟩ rfl fun ρ0 ff => ?_
       refine cxs ?_
       refine ⟨_,op_ldo rfl rfl rfl rfl,?_⟩
       refine ⟨_,op_sto rfl rfl rfl rfl rfl rfl rfl,?_⟩
       refine cxs ?_
       have hFin := (hG.step hP127).out hP1
       exact ⟨.inl rfl,_,rfl,w,true,rfl,parse_ok h122 (toB_inj (stB_ok _) hl h131) (fun s0 g1 g2 => hT' s0 g1 g2),hFin.1,hFin.2.1,hFin.2.2⟩
      ·replace h131 : ¬ ((toB (stB w.x)) = (toB l)) := str_ne h131
       refine ⟨_,rfl,?_⟩
       refine AW.cutM (gg) s127 [(2,vL 2 0 (0)),(5,vL 5 0 (1)),(132,vB true)] [(2,0,[.slice none 0 0,.slice none 0 0]),(5,1,[vS w.p w.x.items.length,vS w.q w.x.floors.length])] ⟨rfl,rfl,rfl,trivial⟩ ⟨rfl,rfl,trivial⟩ rfl fun ρ0 ff => ?_
       refine ⟨_,rfl,?_⟩
       refine ⟨_,op_sto rfl rfl rfl rfl rfl rfl rfl,?_⟩
       refine cxs ?_
       exact ⟨.inl rfl,_,rfl,⟨none,none,nilS⟩,false,rfl,parse_no (fun s0 g1 g2 => h131 (by rw [hT' s0 g1 g2,g2])),pcS_nil,newS_nil,((hG.step hP127).out hP1).2.2⟩
    ·replace h118 : n > (100) := of_decide_eq_true h118
     iterate 3 refine ⟨_,rfl,?_⟩
     refine AW.cutM (gg) st' [(2,vL 2 0 (0)),(5,vL 5 0 (1)),(132,vB true)] [(2,0,[.slice none 0 0,.slice none 0 0]),(5,1,[vS w.p w.x.items.length,vS w.q w.x.floors.length])] ⟨rfl,rfl,rfl,trivial⟩ ⟨rfl,rfl,trivial⟩ rfl fun ρ0 ff => ?_
     refine ⟨_,rfl,?_⟩
     refine ⟨_,op_sto rfl rfl rfl rfl rfl rfl rfl,?_⟩
     refine cxs ?_
     exact ⟨.inl rfl,_,rfl,⟨none,none,nilS⟩,false,rfl,parse_no (fun s0 g1 g2 => by have := (hS2 s0 g1 g2).1; omega),pcS_nil,newS_nil,(hG.out hP1).2.2⟩
   ·iterate 3 refine ⟨_,rfl,?_⟩
    refine AW.cutM (gg) st' [(2,vL 2 0 (0)),(5,vL 5 0 (1)),(132,vB true)] [(2,0,[.slice none 0 0,.slice none 0 0]),(5,1,[vS w.p w.x.items.length,vS w.q w.x.floors.length])] ⟨rfl,rfl,rfl,trivial⟩ ⟨rfl,rfl,trivial⟩ rfl fun ρ0 ff => ?_
    refine ⟨_,rfl,?_⟩
    refine ⟨_,op_sto rfl rfl rfl rfl rfl rfl rfl,?_⟩
    refine cxs ?_
    exact ⟨.inl rfl,_,rfl,⟨none,none,nilS⟩,false,rfl,parse_no (fun s0 g1 g2 => by cases (hS2 s0 g1 g2).2.2.2),pcS_nil,newS_nil,(hG.out hP1).2.2⟩
  ·replace h94 : (IntKind.wrap .i64 (((2 * j : Nat) : Int) + (1))) < (FL.length : Int) := of_decide_eq_true h94
   rw [ew91] at h94
   refine AW.cutM (gg) st' [(0,vS p l.length),(2,vL 2 0 (0)),(4,vP st.next 0),(5,vL 5 0 (1)),(6,vI n),(12,vS q2 FL.length),(13,vI ((2 * j : Nat) : Int)),(94,vB true)] [(2,0,[.slice none 0 0,.slice none 0 0]),(5,1,[vS w.p w.x.items.length,vS w.q w.x.floors.length])] ⟨rfl,rfl,rfl,rfl,rfl,rfl,rfl,rfl,trivial⟩ ⟨rfl,rfl,trivial⟩ rfl fun ρ0 ff => ?_
   refine cxs ?_
   refine ⟨_,rfl,?_⟩
   refine ⟨_,op_ldo rfl rfl rfl rfl,?_⟩
   refine ⟨ld_own rfl rfl rfl,?_⟩
   refine op_at (2 * j) hQw (by omega) rfl rfl rfl rfl rfl rfl rfl ?_
   intro x101 b101 d101 k101 hy101 hb101 hm101 hc101 ho101
   refine ⟨_,op_ldc (i := 0) rfl rfl rfl rfl hm101 hc101 rfl rfl,?_⟩
   have ew105 : IntKind.wrap .i64 (((2 * j : Nat) : Int) + (1)) = ((2 * j + 1 : Nat) : Int) := (wrap_i64 (by omega) (by omega)).trans (by omega)
   refine ⟨_,rfl,?_⟩
   refine op_at (2 * j + 1) hQw (by omega) rfl rfl rfl rfl (by rw [ew105]) rfl rfl ?_
   intro x106 b106 d106 k106 hy106 hb106 hm106 hc106 ho106
   refine ⟨_,op_ldc (i := 0) rfl rfl rfl rfl hm106 hc106 rfl rfl,?_⟩
   refine ⟨_,rfl,?_⟩
   refine op_one (z := 2) (a := ((⟨x101,x106⟩ : Flr) : Flr)) (f := cFlr) rfl rfl rfl rfl rfl (by decide) rfl (Nat.le_of_ble_eq_true rfl) rfl rfl rfl ?_
   refine ⟨Pres.push.2,?_⟩
   have hOf : OwnR st' 2 cFlr w.q w.x.floors := hG.1.floors
   refine op_snoc (z := 2) (st := st') (f := cFlr) (b := 16) (l := w.x.floors) (x := (⟨x101,x106⟩ : Flr)) rfl rfl rfl rfl rfl rfl rfl (by decide) len_cFlr rfl rfl rfl (by omega) (by unfold maxLen; omega) hOf ?_
   intro q110 s110 hO110 hP110 hN110
   refine ⟨_,rfl,?_⟩
   refine ⟨_,op_sto rfl rfl rfl rfl rfl rfl rfl,?_⟩
   refine AW.cutM (gg) s110 [(0,vS p l.length),(2,vL 2 0 (0)),(4,vP st.next 0),(5,vL 5 0 (1)),(6,vI n),(12,vS q2 FL.length),(13,vI ((2 * j : Nat) : Int)),(94,vB true)] [(2,0,[.slice none 0 0,.slice none 0 0]),(5,1,[vS w.p w.x.items.length,vS q110 (w.x.floors ++ [(⟨x101,x106⟩ : Flr)]).length])] ⟨rfl,rfl,rfl,rfl,rfl,rfl,rfl,rfl,trivial⟩ ⟨rfl,rfl,trivial⟩ rfl fun ρ0 ff => ?_
   have e96 : IntKind.wrap .i64 (((2 * j : Nat) : Int) + 2) = ((2 * (j + 1) : Nat) : Int) := (wrap_i64 (by omega) (by omega)).trans (by omega)
   refine ⟨_,rfl,?_⟩
   have hG110 := hG.floors hP110 hO110 hN110
   have hNf : New s1.next w.q := hG.2.1 _ (List.mem_cons_of_mem _ (List.mem_cons_self ..))
   refine ⟨(j + 1,⟨w.p,q110,⟨w.x.items,w.x.floors ++ [⟨x101,x106⟩]⟩⟩),200 - (j + 1),by omega,⟨rfl,rfl,rfl,rfl,rfl,rfl,congrArg (Value.int .i64) e96,trivial⟩,⟨rfl,rfl,trivial⟩,rfl,by simp only; omega,⟨hwi,by simp only [List.length_append,List.length_singleton,hwf]⟩,fun s0 g1 g2 => ?_,hG110.1,⟨hP110.ownR hDq hQo,(Dis.of hQo.old hN110).symm⟩,hOw.pr hP110 (Dis.of (Old.some hc1) hNf).symm⟩
   ·obtain ⟨_,_,e3,_⟩ := hS2 s0 g1 g2
    have hlen : FL.length = 2 * s0.floors.length := by rw [e3,flL_len]
    have hx : s0.floors[j]? = some s0.floors[j] := List.getElem?_eq_getElem (by omega)
    have := flL_get hx
    rw [← e3,hy101,hy106] at this
    obtain ⟨c1,c2⟩ := this
    injection c1 with c1
    injection c2 with c2
    show w.x.floors ++ [_] = _
    rw [List.take_add_one,hx,← hT s0 g1 g2,c1,c2]; rfl
 ·replace h22 : (i : Int) < n := of_decide_eq_true h22
  iterate 2 refine ⟨_,rfl,?_⟩
  refine ⟨_,op_ld rfl rfl rfl rfl hmem rfl,?_⟩
  rcases b' with _|_
  ·iterate 3 refine ⟨_,rfl,?_⟩
   rintro (_|_) h32
   ·replace h32 : ¬ (n ≤ (100)) := of_decide_eq_false h32
    refine ⟨_,rfl,?_⟩
    refine AW.cutM (gg) st' [(0,vS p l.length),(2,vL 2 0 (0)),(4,vP st.next 0),(5,vL 5 0 (1)),(6,vI n),(7,vI (i : Int)),(33,vB false)] [(2,0,[.slice none 0 0,.slice none 0 0]),(5,1,[vS u.p u.x.items.length,vS u.q u.x.floors.length])] ⟨rfl,rfl,rfl,rfl,rfl,rfl,rfl,trivial⟩ ⟨rfl,rfl,trivial⟩ rfl fun ρ0 ff => ?_
    refine cxs ?_
    refine ⟨_,rfl,(ac_spec_l10Many st.next p l k' false 2 st' hO' hRl hd hl hs' hk' (.inr rfl)).mono ?_⟩
    rintro _ s89 ⟨q2,FL,k7,b7,rfl,hFL,hk89,hl89,h89,hO89,hN89,hR89,hP89⟩
    refine cxs ?_
    have hF89 := hF.later (PresC.of.2 hP89)
    have hQ89 : Rows s89 1 fI q2 FL := hO89.rows fI_len
    have hS1 : ∀ s0,stateOk s0 → stB s0 = l → (i : Int) < n → False := fun s0 g1 g2 hlt => by
     obtain ⟨e1,e2,e3,e4⟩ := hS s0 g1 g2
     have h5 := items_len g1
     first | omega | (cases e3)
    have hS2 : ∀ s0,stateOk s0 → stB s0 = l → n ≤ 100 ∧ u.x.items = s0.items ∧ FL = flL s0.floors ∧ b7 = false := fun s0 g1 g2 => by
     obtain ⟨e1,e2,e3,e4⟩ := hS s0 g1 g2
     have hge : ¬ (i : Int) < n := hS1 s0 g1 g2
     have h5 := items_len g1
     have h6 := marks_len g1.2
     rw [List.drop_eq_nil_of_le (by omega)] at e4
     have e4 : Sf l k' (putN (s0.floors.length : Int) ++ (numsB (flL s0.floors) ++ [])) := by rw [List.append_nil,flL_B]; exact e4
     obtain ⟨a1,a2,a3⟩ := h89 e3 _ _ _ (flL_rng g1.2) (by rw [flL_len]; omega) (by omega) (by omega) e4
     exact ⟨by omega,by rw [e2]; exact List.take_of_length_le (by omega),a1,a2⟩
    refine AW.cutM (gg) s89 [(0,vS p l.length),(2,vL 2 0 (0)),(4,vP st.next 0),(5,vL 5 0 (1)),(6,vI n),(12,vS q2 FL.length),(13,vI (0))] [(2,0,[.slice none 0 0,.slice none 0 0]),(5,1,[vS u.p u.x.items.length,vS u.q u.x.floors.length])] ⟨rfl,rfl,rfl,rfl,rfl,rfl,rfl,trivial⟩ ⟨rfl,rfl,trivial⟩ rfl fun ρ0 ff => ?_
    refine AW.loopM (fun x : Nat × SV => [(0,vS p l.length),(2,vL 2 0 (0)),(4,vP st.next 0),(5,vL 5 0 (1)),(6,vI n),(12,vS q2 FL.length),(13,vI ((2 * x.1 : Nat) : Int))]) (fun x : Nat × SV => [(2,0,[.slice none 0 0,.slice none 0 0]),(5,1,[vS x.2.p x.2.x.items.length,vS x.2.q x.2.x.floors.length])]) (fun m (x : Nat × SV) st' => m = 200 - x.1 ∧ 2 * x.1 ≤ FL.length ∧ (x.2.x.items = u.x.items ∧ x.2.x.floors.length = x.1) ∧ (∀ s0,stateOk s0 → stB s0 = l → x.2.x.floors = s0.floors.take x.1) ∧ FrC st.next s1 st' (pcS x.2) ∧ (OwnR st' 1 fI q2 FL ∧ Dis x.2.q q2) ∧ (rdC st.next p l k7 b7).own st') (0,u) _ ⟨rfl,rfl,rfl,rfl,rfl,rfl,rfl,trivial⟩ ⟨rfl,rfl,trivial⟩ ⟨rfl,Nat.zero_le _,⟨rfl,by rw [hfl]; rfl⟩,fun s0 _ _ => by rw [hfl]; rfl,hF89,⟨hO89,Dis.of hF.1.floors.old hN89⟩,hR89⟩ ?_
    rintro m ⟨j,w⟩ ρ0 ff gg st' ⟨rfl,hj,⟨hwi,hwf⟩,hT,hG,⟨hQo,hDq⟩,hOw⟩
    simp only at hj hwi hwf hT hG hQo hDq hOw
    have hQw : Rows st' 1 fI q2 FL := hQo.rows fI_len
    have hRw : Rows st' 1 fB p l := (PresC.of.1 hG.2.2.1).rowsD hd hR1
    have ew91 : IntKind.wrap .i64 (((2 * j : Nat) : Int) + (1)) = ((2 * j + 1 : Nat) : Int) := (wrap_i64 (by omega) (by omega)).trans (by omega)
    iterate 3 refine ⟨_,rfl,?_⟩
    rintro (_|_) h94
    ·replace h94 : ¬ ((IntKind.wrap .i64 (((2 * j : Nat) : Int) + (1))) < (FL.length : Int)) := of_decide_eq_false h94
     rw [ew91] at h94
     refine AW.cutM (gg) st' [(0,vS p l.length),(2,vL 2 0 (0)),(4,vP st.next 0),(5,vL 5 0 (1)),(6,vI n),(12,vS q2 FL.length),(13,vI ((2 * j : Nat) : Int)),(94,vB false)] [(2,0,[.slice none 0 0,.slice none 0 0]),(5,1,[vS w.p w.x.items.length,vS w.q w.x.floors.length])] ⟨rfl,rfl,rfl,rfl,rfl,rfl,rfl,rfl,trivial⟩ ⟨rfl,rfl,trivial⟩ rfl fun ρ0 ff => ?_
     refine cxs ?_
     iterate 2 refine ⟨_,rfl,?_⟩
     have hmw := rdC_mem hOw
     have hbw : bigS w.x := ⟨by unfold szOk; rw [hwi]; omega,by unfold szOk; omega,fun y hy => hds y (by rw [← hwi]; exact hy)⟩
     have hRS : RdS st' w := hG.1.rdS
     have hT' : ∀ s0,stateOk s0 → stB s0 = l → w.x = s0 := fun s0 g1 g2 => by
      obtain ⟨e1,e2,e3,e4⟩ := hS2 s0 g1 g2
      have hlen : FL.length = 2 * s0.floors.length := by rw [e3,flL_len]
      exact sta_of (hwi.trans e2) (by rw [hT s0 g1 g2]; exact List.take_of_length_le (by omega))
     refine ⟨_,op_ld rfl rfl rfl rfl hmw.2 rfl,?_⟩
     rcases b7 with _|_
     ·refine ⟨_,rfl,?_⟩
      rintro (_|_) h118
      ·replace h118 : ¬ (n > (100)) := of_decide_eq_false h118
       refine ⟨_,rfl,?_⟩
       refine ⟨_,op_ldo rfl rfl rfl rfl,?_⟩
       refine ⟨_,rfl,(ac_spec_StateOk w st' hRS hbw).mono ?_⟩
       rintro _ st' ⟨x122,rfl,h122,rfl⟩
       rcases x122 with _|_
       ·replace h122 := fun k => Bool.false_ne_true (h122.2 k)
        iterate 3 refine ⟨_,rfl,?_⟩
        refine AW.cutM (gg) st' [(2,vL 2 0 (0)),(5,vL 5 0 (1)),(132,vB true)] [(2,0,[.slice none 0 0,.slice none 0 0]),(5,1,[vS w.p w.x.items.length,vS w.q w.x.floors.length])] ⟨rfl,rfl,rfl,trivial⟩ ⟨rfl,rfl,trivial⟩ rfl fun ρ0 ff => ?_
        refine ⟨_,rfl,?_⟩
        refine ⟨_,op_sto rfl rfl rfl rfl rfl rfl rfl,?_⟩
        refine cxs ?_
        exact ⟨.inl rfl,_,rfl,⟨none,none,nilS⟩,false,rfl,parse_no (fun s0 g1 g2 => h122 (hT' s0 g1 g2 ▸ g1)),pcS_nil,newS_nil,(hG.out hP1).2.2⟩
       ·replace h122 := h122.1 rfl
        iterate 2 refine ⟨_,rfl,?_⟩
        refine ⟨_,op_ldo rfl rfl rfl rfl,?_⟩
        refine ⟨_,rfl,(ac_spec_l6Bytes w st' hRS hbw h122).mono ?_⟩
        rintro _ s127 ⟨q127,rfl,hO127,hN127,hP127⟩
        refine ⟨hP127.2,?_⟩
        refine ⟨_,op_strW (l := stB w.x) rfl rfl rfl rfl rfl rfl (hO127.rows fB_len) (stB_pos h122),?_⟩
        refine ⟨_,op_strW (l := l) rfl rfl rfl rfl rfl rfl (hP127.rows hRw) (hl89 rfl),?_⟩
        refine ⟨ld_str rfl rfl (rows_lt hRw (hl89 rfl)),?_⟩
        refine ⟨_,rfl,?_⟩
        rintro (_|_) h131
        ·replace h131 : (toB (stB w.x)) = (toB l) := str_eq h131
         refine ⟨_,rfl,?_⟩
         refine AW.cutM (gg) s127 [(2,vL 2 0 (0)),(5,vL 5 0 (1)),(132,vB false)] [(2,0,[.slice none 0 0,.slice none 0 0]),(5,1,[vS w.p w.x.items.length,vS w.q w.x.floors.length])] ⟨rfl,rfl,rfl,trivial⟩ ⟨rfl,rfl,trivial⟩ rfl fun ρ0 ff => ?_
         refine cxs ?_
         refine ⟨_,op_ldo rfl rfl rfl rfl,?_⟩
         refine ⟨_,op_sto rfl rfl rfl rfl rfl rfl rfl,?_⟩
         refine cxs ?_
         have hFin := (hG.step hP127).out hP1
         exact ⟨.inl rfl,_,rfl,w,true,rfl,parse_ok h122 (toB_inj (stB_ok _) hl h131) (fun s0 g1 g2 => hT' s0 g1 g2),hFin.1,hFin.2.1,hFin.2.2⟩
        ·replace h131 : ¬ ((toB (stB w.x)) = (toB l)) := str_ne h131
         refine ⟨_,rfl,?_⟩
         refine AW.cutM (gg) s127 [(2,vL 2 0 (0)),(5,vL 5 0 (1)),(132,vB true)] [(2,0,[.slice none 0 0,.slice none 0 0]),(5,1,[vS w.p w.x.items.length,vS w.q w.x.floors.length])] ⟨rfl,rfl,rfl,trivial⟩ ⟨rfl,rfl,trivial⟩ rfl fun ρ0 ff => ?_
         refine ⟨_,rfl,?_⟩
         refine ⟨_,op_sto rfl rfl rfl rfl rfl rfl rfl,?_⟩
         refine cxs ?_
         exact ⟨.inl rfl,_,rfl,⟨none,none,nilS⟩,false,rfl,parse_no (fun s0 g1 g2 => h131 (by rw [hT' s0 g1 g2,g2])),pcS_nil,newS_nil,((hG.step hP127).out hP1).2.2⟩
      ·replace h118 : n > (100) := of_decide_eq_true h118
       iterate 3 refine ⟨_,rfl,?_⟩
       refine AW.cutM (gg) st' [(2,vL 2 0 (0)),(5,vL 5 0 (1)),(132,vB true)] [(2,0,[.slice none 0 0,.slice none 0 0]),(5,1,[vS w.p w.x.items.length,vS w.q w.x.floors.length])] ⟨rfl,rfl,rfl,trivial⟩ ⟨rfl,rfl,trivial⟩ rfl fun ρ0 ff => ?_
       refine ⟨_,rfl,?_⟩
       refine ⟨_,op_sto rfl rfl rfl rfl rfl rfl rfl,?_⟩
       refine cxs ?_
       exact ⟨.inl rfl,_,rfl,⟨none,none,nilS⟩,false,rfl,parse_no (fun s0 g1 g2 => by have := (hS2 s0 g1 g2).1; omega),pcS_nil,newS_nil,(hG.out hP1).2.2⟩
     ·iterate 3 refine ⟨_,rfl,?_⟩
      refine AW.cutM (gg) st' [(2,vL 2 0 (0)),(5,vL 5 0 (1)),(132,vB true)] [(2,0,[.slice none 0 0,.slice none 0 0]),(5,1,[vS w.p w.x.items.length,vS w.q w.x.floors.length])] ⟨rfl,rfl,rfl,trivial⟩ ⟨rfl,rfl,trivial⟩ rfl fun ρ0 ff => ?_
      refine ⟨_,rfl,?_⟩
      refine ⟨_,op_sto rfl rfl rfl rfl rfl rfl rfl,?_⟩
      refine cxs ?_
      exact ⟨.inl rfl,_,rfl,⟨none,none,nilS⟩,false,rfl,parse_no (fun s0 g1 g2 => by cases (hS2 s0 g1 g2).2.2.2),pcS_nil,newS_nil,(hG.out hP1).2.2⟩
    ·replace h94 : (IntKind.wrap .i64 (((2 * j : Nat) : Int) + (1))) < (FL.length : Int) := of_decide_eq_true h94
     rw [ew91] at h94
     refine AW.cutM (gg) st' [(0,vS p l.length),(2,vL 2 0 (0)),(4,vP st.next 0),(5,vL 5 0 (1)),(6,vI n),(12,vS q2 FL.length),(13,vI ((2 * j : Nat) : Int)),(94,vB true)] [(2,0,[.slice none 0 0,.slice none 0 0]),(5,1,[vS w.p w.x.items.length,vS w.q w.x.floors.length])] ⟨rfl,rfl,rfl,rfl,rfl,rfl,rfl,rfl,trivial⟩ ⟨rfl,rfl,trivial⟩ rfl fun ρ0 ff => ?_
     refine cxs ?_
     refine ⟨_,rfl,?_⟩
     refine ⟨_,op_ldo rfl rfl rfl rfl,?_⟩
     refine ⟨ld_own rfl rfl rfl,?_⟩
     refine op_at (2 * j) hQw (by omega) rfl rfl rfl rfl rfl rfl rfl ?_
     intro x101 b101 d101 k101 hy101 hb101 hm101 hc101 ho101
     refine ⟨_,op_ldc (i := 0) rfl rfl rfl rfl hm101 hc101 rfl rfl,?_⟩
     have ew105 : IntKind.wrap .i64 (((2 * j : Nat) : Int) + (1)) = ((2 * j + 1 : Nat) : Int) := (wrap_i64 (by omega) (by omega)).trans (by omega)
     refine ⟨_,rfl,?_⟩
     refine op_at (2 * j + 1) hQw (by omega) rfl rfl rfl rfl (by rw [ew105]) rfl rfl ?_
     intro x106 b106 d106 k106 hy106 hb106 hm106 hc106 ho106
     refine ⟨_,op_ldc (i := 0) rfl rfl rfl rfl hm106 hc106 rfl rfl,?_⟩
     refine ⟨_,rfl,?_⟩
     refine op_one (z := 2) (a := ((⟨x101,x106⟩ : Flr) : Flr)) (f := cFlr) rfl rfl rfl rfl rfl (by decide) rfl (Nat.le_of_ble_eq_true rfl) rfl rfl rfl ?_
     refine ⟨Pres.push.2,?_⟩
     have hOf : OwnR st' 2 cFlr w.q w.x.floors := hG.1.floors
     refine op_snoc (z := 2) (st := st') (f := cFlr) (b := 16) (l := w.x.floors) (x := (⟨x101,x106⟩ : Flr)) rfl rfl rfl rfl rfl rfl rfl (by decide) len_cFlr rfl rfl rfl (by omega) (by unfold maxLen; omega) hOf ?_
     intro q110 s110 hO110 hP110 hN110
     refine ⟨_,rfl,?_⟩
     refine ⟨_,op_sto rfl rfl rfl rfl rfl rfl rfl,?_⟩
     refine AW.cutM (gg) s110 [(0,vS p l.length),(2,vL 2 0 (0)),(4,vP st.next 0),(5,vL 5 0 (1)),(6,vI n),(12,vS q2 FL.length),(13,vI ((2 * j : Nat) : Int)),(94,vB true)] [(2,0,[.slice none 0 0,.slice none 0 0]),(5,1,[vS w.p w.x.items.length,vS q110 (w.x.floors ++ [(⟨x101,x106⟩ : Flr)]).length])] ⟨rfl,rfl,rfl,rfl,rfl,rfl,rfl,rfl,trivial⟩ ⟨rfl,rfl,trivial⟩ rfl fun ρ0 ff => ?_
     have e96 : IntKind.wrap .i64 (((2 * j : Nat) : Int) + 2) = ((2 * (j + 1) : Nat) : Int) := (wrap_i64 (by omega) (by omega)).trans (by omega)
     refine ⟨_,rfl,?_⟩
     have hG110 := hG.floors hP110 hO110 hN110
     have hNf : New s1.next w.q := hG.2.1 _ (List.mem_cons_of_mem _ (List.mem_cons_self ..))
     refine ⟨(j + 1,⟨w.p,q110,⟨w.x.items,w.x.floors ++ [⟨x101,x106⟩]⟩⟩),200 - (j + 1),by omega,⟨rfl,rfl,rfl,rfl,rfl,rfl,congrArg (Value.int .i64) e96,trivial⟩,⟨rfl,rfl,trivial⟩,rfl,by simp only; omega,⟨hwi,by simp only [List.length_append,List.length_singleton,hwf]⟩,fun s0 g1 g2 => ?_,hG110.1,⟨hP110.ownR hDq hQo,(Dis.of hQo.old hN110).symm⟩,hOw.pr hP110 (Dis.of (Old.some hc1) hNf).symm⟩
     ·obtain ⟨_,_,e3,_⟩ := hS2 s0 g1 g2
      have hlen : FL.length = 2 * s0.floors.length := by rw [e3,flL_len]
      have hx : s0.floors[j]? = some s0.floors[j] := List.getElem?_eq_getElem (by omega)
      have := flL_get hx
      rw [← e3,hy101,hy106] at this
      obtain ⟨c1,c2⟩ := this
      injection c1 with c1
      injection c2 with c2
      show w.x.floors ++ [_] = _
      rw [List.take_add_one,hx,← hT s0 g1 g2,c1,c2]; rfl
   ·replace h32 : n ≤ (100) := of_decide_eq_true h32
    refine ⟨_,rfl,?_⟩
    refine AW.cutM (gg) st' [(0,vS p l.length),(2,vL 2 0 (0)),(4,vP st.next 0),(5,vL 5 0 (1)),(6,vI n),(7,vI (i : Int)),(33,vB true)] [(2,0,[.slice none 0 0,.slice none 0 0]),(5,1,[vS u.p u.x.items.length,vS u.q u.x.floors.length])] ⟨rfl,rfl,rfl,rfl,rfl,rfl,rfl,trivial⟩ ⟨rfl,rfl,trivial⟩ rfl fun ρ0 ff => ?_
    refine cxs ?_
    iterate 2 refine ⟨_,rfl,?_⟩
    refine ⟨_,op_sto rfl rfl rfl rfl rfl rfl rfl,?_⟩
    refine AW.cutM (gg + 1) st' [(0,vS p l.length),(2,vL 2 0 (0)),(4,vP st.next 0),(5,vL 5 0 (1)),(6,vI n),(7,vI (i : Int)),(8,vL 8 0 (gg)),(33,vB true)] [(2,0,[.slice none 0 0,.slice none 0 0]),(5,1,[vS u.p u.x.items.length,vS u.q u.x.floors.length]),(8,gg,[vI 0,vI 0,vI 0,vI 0,vI 0,.string ⟨#[]⟩])] ⟨rfl,rfl,rfl,rfl,rfl,rfl,rfl,rfl,trivial⟩ ⟨rfl,rfl,rfl,trivial⟩ rfl fun ρ0 ff => ?_
    refine ⟨_,rfl,(ac_spec_num st.next p l k' false st' hO' hRl hl hs' hk').mono ?_⟩
    rintro _ s38 ⟨n1,k1,b1,rfl,h38,hO38,hP38⟩
    refine ⟨_,rfl,?_⟩
    refine ⟨_,op_sto rfl rfl rfl rfl rfl rfl rfl,?_⟩
    refine AW.cutM (gg + 1) s38 [(0,vS p l.length),(2,vL 2 0 (0)),(4,vP st.next 0),(5,vL 5 0 (1)),(6,vI n),(7,vI (i : Int)),(8,vL 8 0 (gg)),(33,vB true)] [(2,0,[.slice none 0 0,.slice none 0 0]),(5,1,[vS u.p u.x.items.length,vS u.q u.x.floors.length]),(8,gg,[vI n1,vI 0,vI 0,vI 0,vI 0,.string ⟨#[]⟩])] ⟨rfl,rfl,rfl,rfl,rfl,rfl,rfl,rfl,trivial⟩ ⟨rfl,rfl,rfl,trivial⟩ rfl fun ρ0 ff => ?_
    have hR38 := hP38.rowsD hd hRl
    have hk38 := (rnF_get hl hs' hk' h38).1
    refine ⟨_,rfl,(ac_spec_num st.next p l k1 b1 s38 hO38 hR38 hl hs' hk38).mono ?_⟩
    rintro _ s41 ⟨n2,k2,b2,rfl,h41,hO41,hP41⟩
    iterate 2 refine ⟨_,rfl,?_⟩
    refine ⟨_,op_sto rfl rfl rfl rfl rfl rfl rfl,?_⟩
    refine AW.cutM (gg + 1) s41 [(0,vS p l.length),(2,vL 2 0 (0)),(4,vP st.next 0),(5,vL 5 0 (1)),(6,vI n),(7,vI (i : Int)),(8,vL 8 0 (gg)),(33,vB true)] [(2,0,[.slice none 0 0,.slice none 0 0]),(5,1,[vS u.p u.x.items.length,vS u.q u.x.floors.length]),(8,gg,[vI n1,vI n2,vI 0,vI 0,vI 0,.string ⟨#[]⟩])] ⟨rfl,rfl,rfl,rfl,rfl,rfl,rfl,rfl,trivial⟩ ⟨rfl,rfl,rfl,trivial⟩ rfl fun ρ0 ff => ?_
    have hR41 := hP41.rowsD hd hR38
    have hk41 := (rnF_get hl hs' hk38 h41).1
    refine ⟨_,rfl,(ac_spec_num st.next p l k2 b2 s41 hO41 hR41 hl hs' hk41).mono ?_⟩
    rintro _ s45 ⟨n3,k3,b3,rfl,h45,hO45,hP45⟩
    iterate 2 refine ⟨_,rfl,?_⟩
    refine ⟨_,op_sto rfl rfl rfl rfl rfl rfl rfl,?_⟩
    refine AW.cutM (gg + 1) s45 [(0,vS p l.length),(2,vL 2 0 (0)),(4,vP st.next 0),(5,vL 5 0 (1)),(6,vI n),(7,vI (i : Int)),(8,vL 8 0 (gg)),(33,vB true)] [(2,0,[.slice none 0 0,.slice none 0 0]),(5,1,[vS u.p u.x.items.length,vS u.q u.x.floors.length]),(8,gg,[vI n1,vI n2,vI n3,vI 0,vI 0,.string ⟨#[]⟩])] ⟨rfl,rfl,rfl,rfl,rfl,rfl,rfl,rfl,trivial⟩ ⟨rfl,rfl,rfl,trivial⟩ rfl fun ρ0 ff => ?_
    have hR45 := hP45.rowsD hd hR41
    have hk45 := (rnF_get hl hs' hk41 h45).1
    refine ⟨_,rfl,(ac_spec_num st.next p l k3 b3 s45 hO45 hR45 hl hs' hk45).mono ?_⟩
    rintro _ s49 ⟨n4,k4,b4,rfl,h49,hO49,hP49⟩
    iterate 2 refine ⟨_,rfl,?_⟩
    refine ⟨_,op_sto rfl rfl rfl rfl rfl rfl rfl,?_⟩
    refine AW.cutM (gg + 1) s49 [(0,vS p l.length),(2,vL 2 0 (0)),(4,vP st.next 0),(5,vL 5 0 (1)),(6,vI n),(7,vI (i : Int)),(8,vL 8 0 (gg)),(33,vB true)] [(2,0,[.slice none 0 0,.slice none 0 0]),(5,1,[vS u.p u.x.items.length,vS u.q u.x.floors.length]),(8,gg,[vI n1,vI n2,vI n3,vI n4,vI 0,.string ⟨#[]⟩])] ⟨rfl,rfl,rfl,rfl,rfl,rfl,rfl,rfl,trivial⟩ ⟨rfl,rfl,rfl,trivial⟩ rfl fun ρ0 ff => ?_
    have hR49 := hP49.rowsD hd hR45
    have hk49 := (rnF_get hl hs' hk45 h49).1
    refine ⟨_,rfl,(ac_spec_num st.next p l k4 b4 s49 hO49 hR49 hl hs' hk49).mono ?_⟩
    rintro _ s53 ⟨n5,k5,b5,rfl,h53,hO53,hP53⟩
    iterate 2 refine ⟨_,rfl,?_⟩
    refine ⟨_,op_sto rfl rfl rfl rfl rfl rfl rfl,?_⟩
    refine AW.cutM (gg + 1) s53 [(0,vS p l.length),(2,vL 2 0 (0)),(4,vP st.next 0),(5,vL 5 0 (1)),(6,vI n),(7,vI (i : Int)),(8,vL 8 0 (gg)),(33,vB true)] [(2,0,[.slice none 0 0,.slice none 0 0]),(5,1,[vS u.p u.x.items.length,vS u.q u.x.floors.length]),(8,gg,[vI n1,vI n2,vI n3,vI n4,vI n5,.string ⟨#[]⟩])] ⟨rfl,rfl,rfl,rfl,rfl,rfl,rfl,rfl,trivial⟩ ⟨rfl,rfl,rfl,trivial⟩ rfl fun ρ0 ff => ?_
    have hR53 := hP53.rowsD hd hR49
    have hk53 := (rnF_get hl hs' hk49 h53).1
    have hm53 := (rdC_mem hO53).2
    have hF53 := hF.later (PresC.of.2 ((((hP38.trans hP41).trans hP45).trans hP49).trans hP53))
    have hSi : ∀ s0,stateOk s0 → stB s0 = l → ∃ x0,s0.items[i]? = some x0 ∧ (⟨n1,⟨n2,n3,n4,n5,x0.e.data⟩⟩ : Itm) = x0 ∧ b5 = false ∧ Sf l k5 (putS x0.e.data ++ (itsB (s0.items.drop (i + 1)) ++ (putN (s0.floors.length : Int) ++ flsB s0.floors))) := fun s0 g1 g2 => by
     obtain ⟨e1,e2,e3,e4⟩ := hS s0 g1 g2
     have hx : s0.items[i]? = some s0.items[i] := List.getElem?_eq_getElem (by omega)
     obtain ⟨r1,r2,r3,r4,r5,r6⟩ := item_rng g1 hx
     rw [itB_cons hx] at e4
     obtain ⟨a1,a2,a3⟩ := e4.num r1 e3 h38
     obtain ⟨b1',b2',b3'⟩ := a3.num r2 a2 h41
     obtain ⟨c1,c2,c3⟩ := b3'.num r3 b2' h45
     obtain ⟨d1,d2,d3⟩ := c3.num r4 c2 h49
     obtain ⟨f1,f2,f3⟩ := d3.num r5 d2 h53
     exact ⟨_,hx,by rw [a1,b1',c1,d1,f1],f2,f3⟩
    iterate 2 refine ⟨_,rfl,?_⟩
    refine ⟨_,op_ld rfl rfl rfl rfl hm53 rfl,?_⟩
    refine ⟨_,rfl,(ac_spec_GetText p l k5 s53 hR53 hl hs' hk53).mono ?_⟩
    rintro _ s53 ⟨t,k6,b6,rfl,h62,rfl⟩
    rcases b6 with _|_
    ·iterate 3 refine ⟨_,rfl,?_⟩
     refine AW.cutM (gg + 1) s53 [(0,vS p l.length),(2,vL 2 0 (0)),(4,vP st.next 0),(5,vL 5 0 (1)),(6,vI n),(7,vI (i : Int)),(8,vL 8 0 (gg)),(9,.string t),(10,vI k6),(11,vB false),(33,vB true)] [(2,0,[.slice none 0 0,.slice none 0 0]),(5,1,[vS u.p u.x.items.length,vS u.q u.x.floors.length]),(8,gg,[vI n1,vI n2,vI n3,vI n4,vI n5,.string ⟨#[]⟩])] ⟨rfl,rfl,rfl,rfl,rfl,rfl,rfl,rfl,rfl,rfl,rfl,trivial⟩ ⟨rfl,rfl,rfl,trivial⟩ rfl fun ρ0 ff => ?_
     iterate 2 refine ⟨_,rfl,?_⟩
     refine ⟨_,op_ld rfl rfl rfl rfl hm53 rfl,?_⟩
     rcases b5 with _|_
     ·iterate 2 refine ⟨_,rfl,?_⟩
      refine AW.cutM (gg + 1) s53 [(0,vS p l.length),(2,vL 2 0 (0)),(4,vP st.next 0),(5,vL 5 0 (1)),(6,vI n),(7,vI (i : Int)),(8,vL 8 0 (gg)),(9,.string t),(10,vI k6),(11,vB false),(33,vB true),(73,vB true)] [(2,0,[.slice none 0 0,.slice none 0 0]),(5,1,[vS u.p u.x.items.length,vS u.q u.x.floors.length]),(8,gg,[vI n1,vI n2,vI n3,vI n4,vI n5,.string ⟨#[]⟩])] ⟨rfl,rfl,rfl,rfl,rfl,rfl,rfl,rfl,rfl,rfl,rfl,rfl,trivial⟩ ⟨rfl,rfl,rfl,trivial⟩ rfl fun ρ0 ff => ?_
      refine ⟨_,rfl,?_⟩
      refine ⟨_,op_sto rfl rfl rfl rfl rfl rfl rfl,?_⟩
      refine cxs ?_
      exact ⟨.inl rfl,_,rfl,⟨none,none,nilS⟩,false,rfl,parse_no (fun s0 g1 g2 => by obtain ⟨x0,q1,q2,q3,q4⟩ := hSi s0 g1 g2; have := (q4.gt (item_rng g1 q1).2.2.2.2.2 h62).2.1; cases this),pcS_nil,newS_nil,(hF53.out hP1).2.2⟩
     ·refine ⟨_,rfl,?_⟩
      refine AW.cutM (gg + 1) s53 [(0,vS p l.length),(2,vL 2 0 (0)),(4,vP st.next 0),(5,vL 5 0 (1)),(6,vI n),(7,vI (i : Int)),(8,vL 8 0 (gg)),(9,.string t),(10,vI k6),(11,vB false),(33,vB true),(73,vB true)] [(2,0,[.slice none 0 0,.slice none 0 0]),(5,1,[vS u.p u.x.items.length,vS u.q u.x.floors.length]),(8,gg,[vI n1,vI n2,vI n3,vI n4,vI n5,.string ⟨#[]⟩])] ⟨rfl,rfl,rfl,rfl,rfl,rfl,rfl,rfl,rfl,rfl,rfl,rfl,trivial⟩ ⟨rfl,rfl,rfl,trivial⟩ rfl fun ρ0 ff => ?_
      refine ⟨_,rfl,?_⟩
      refine ⟨_,op_sto rfl rfl rfl rfl rfl rfl rfl,?_⟩
      refine cxs ?_
      exact ⟨.inl rfl,_,rfl,⟨none,none,nilS⟩,false,rfl,parse_no (fun s0 g1 g2 => by obtain ⟨x0,q1,q2,q3,q4⟩ := hSi s0 g1 g2; cases q3),pcS_nil,newS_nil,(hF53.out hP1).2.2⟩
    ·iterate 3 refine ⟨_,rfl,?_⟩
     refine AW.cutM (gg + 1) s53 [(0,vS p l.length),(2,vL 2 0 (0)),(4,vP st.next 0),(5,vL 5 0 (1)),(6,vI n),(7,vI (i : Int)),(8,vL 8 0 (gg)),(9,.string t),(10,vI k6),(11,vB true),(33,vB true)] [(2,0,[.slice none 0 0,.slice none 0 0]),(5,1,[vS u.p u.x.items.length,vS u.q u.x.floors.length]),(8,gg,[vI n1,vI n2,vI n3,vI n4,vI n5,.string ⟨#[]⟩])] ⟨rfl,rfl,rfl,rfl,rfl,rfl,rfl,rfl,rfl,rfl,rfl,trivial⟩ ⟨rfl,rfl,rfl,trivial⟩ rfl fun ρ0 ff => ?_
     iterate 2 refine ⟨_,rfl,?_⟩
     refine ⟨_,op_ld rfl rfl rfl rfl hm53 rfl,?_⟩
     rcases b5 with _|_
     ·iterate 2 refine ⟨_,rfl,?_⟩
      refine AW.cutM (gg + 1) s53 [(0,vS p l.length),(2,vL 2 0 (0)),(4,vP st.next 0),(5,vL 5 0 (1)),(6,vI n),(7,vI (i : Int)),(8,vL 8 0 (gg)),(9,.string t),(10,vI k6),(11,vB true),(33,vB true),(73,vB false)] [(2,0,[.slice none 0 0,.slice none 0 0]),(5,1,[vS u.p u.x.items.length,vS u.q u.x.floors.length]),(8,gg,[vI n1,vI n2,vI n3,vI n4,vI n5,.string ⟨#[]⟩])] ⟨rfl,rfl,rfl,rfl,rfl,rfl,rfl,rfl,rfl,rfl,rfl,rfl,trivial⟩ ⟨rfl,rfl,rfl,trivial⟩ rfl fun ρ0 ff => ?_
      refine cxs ?_
      iterate 2 refine ⟨_,rfl,?_⟩
      refine ⟨_,op_sto rfl rfl rfl rfl rfl rfl rfl,?_⟩
      refine AW.cutM (gg + 1) s53 [(0,vS p l.length),(2,vL 2 0 (0)),(4,vP st.next 0),(5,vL 5 0 (1)),(6,vI n),(7,vI (i : Int)),(8,vL 8 0 (gg)),(9,.string t),(10,vI k6),(11,vB true),(33,vB true),(73,vB false)] [(2,0,[.slice none 0 0,.slice none 0 0]),(5,1,[vS u.p u.x.items.length,vS u.q u.x.floors.length]),(8,gg,[vI n1,vI n2,vI n3,vI n4,vI n5,.string t])] ⟨rfl,rfl,rfl,rfl,rfl,rfl,rfl,rfl,rfl,rfl,rfl,rfl,trivial⟩ ⟨rfl,rfl,rfl,trivial⟩ rfl fun ρ0 ff => ?_
      iterate 2 refine ⟨_,rfl,?_⟩
      refine op_stO (z := 0) (c := st.next) (off := 1) rfl rfl rfl rfl rfl rfl hO53 (by simp) ?_
      intro s81 hO81 hP81 hn81
      refine AW.cutM (gg + 1) s81 [(0,vS p l.length),(2,vL 2 0 (0)),(4,vP st.next 0),(5,vL 5 0 (1)),(6,vI n),(7,vI (i : Int)),(8,vL 8 0 (gg)),(9,.string t),(10,vI k6),(11,vB true),(33,vB true),(73,vB false)] [(2,0,[.slice none 0 0,.slice none 0 0]),(5,1,[vS u.p u.x.items.length,vS u.q u.x.floors.length]),(8,gg,[vI n1,vI n2,vI n3,vI n4,vI n5,.string t])] ⟨rfl,rfl,rfl,rfl,rfl,rfl,rfl,rfl,rfl,rfl,rfl,rfl,trivial⟩ ⟨rfl,rfl,rfl,trivial⟩ rfl fun ρ0 ff => ?_
      have hO81 : (rdC st.next p l k6 false).own s81 := hO81
      have hF81 := hF53.later (PresC.of.2 hP81)
      have hOi : OwnR s81 6 cItm u.p u.x.items := hF81.1.items
      obtain ⟨hk62,ht62,hl62⟩ := gtR_rng hl hs h62
      refine ⟨_,rfl,?_⟩
      refine ⟨_,op_ldo rfl rfl rfl rfl,?_⟩
      refine ⟨_,op_ldo rfl rfl rfl rfl,?_⟩
      refine op_one (z := 6) (a := ((⟨n1,⟨n2,n3,n4,n5,t⟩⟩ : Itm) : Itm)) (f := cItm) rfl rfl rfl rfl rfl (by decide) rfl (Nat.le_of_ble_eq_true rfl) rfl rfl rfl ?_
      refine op_snoc (z := 6) (st := s81) (f := cItm) (b := 56) (l := u.x.items) (x := (⟨n1,⟨n2,n3,n4,n5,t⟩⟩ : Itm)) rfl rfl rfl rfl rfl rfl rfl (by decide) len_cItm rfl rfl rfl (by omega) (by unfold maxLen; omega) hOi ?_
      intro q86 s86 hO86 hP86 hN86
      refine ⟨_,rfl,?_⟩
      refine ⟨_,op_sto rfl rfl rfl rfl rfl rfl rfl,?_⟩
      refine AW.cutM (gg + 1) s86 [(0,vS p l.length),(2,vL 2 0 (0)),(4,vP st.next 0),(5,vL 5 0 (1)),(6,vI n),(7,vI (i : Int)),(8,vL 8 0 (gg)),(9,.string t),(10,vI k6),(11,vB true),(33,vB true),(73,vB false)] [(2,0,[.slice none 0 0,.slice none 0 0]),(5,1,[vS q86 (u.x.items ++ [(⟨n1,⟨n2,n3,n4,n5,t⟩⟩ : Itm)]).length,vS u.q u.x.floors.length]),(8,gg,[vI n1,vI n2,vI n3,vI n4,vI n5,.string t])] ⟨rfl,rfl,rfl,rfl,rfl,rfl,rfl,rfl,rfl,rfl,rfl,rfl,trivial⟩ ⟨rfl,rfl,rfl,trivial⟩ rfl fun ρ0 ff => ?_
      have ew35 : IntKind.wrap .i64 ((i : Int) + (1)) = ((i + 1 : Nat) : Int) := (wrap_i64 (by omega) (by omega)).trans (by omega)
      refine ⟨_,rfl,?_⟩
      have hF86 := hF81.items hP86 hO86 hN86
      have hNi : New s1.next u.p := hF81.2.1 _ (List.mem_cons_self ..)
      refine ⟨(i + 1,⟨q86,u.q,⟨u.x.items ++ [⟨n1,⟨n2,n3,n4,n5,t⟩⟩],u.x.floors⟩⟩,k6,false),100 - (i + 1),by omega,⟨rfl,rfl,rfl,rfl,rfl,congrArg (Value.int .i64) ew35,trivial⟩,⟨rfl,rfl,trivial⟩,rfl,⟨by simp only; omega,by simp only; omega⟩,⟨by simp only [List.length_append,List.length_singleton,hil],hfl,fun y hy => ?_⟩,hk62,fun s0 g1 g2 => ?_,fun _ => hl62 rfl,hF86.1,hO81.pr hP86 (Dis.of (Old.some hc1) hNi).symm⟩
      ·rcases List.mem_append.1 hy with hy | hy
       ·exact hds y hy
       ·rw [List.mem_singleton.1 hy]; exact ht62
      ·obtain ⟨e1,e2,e3,e4⟩ := hS s0 g1 g2
       obtain ⟨x0,q1,q2,q3,q4⟩ := hSi s0 g1 g2
       obtain ⟨m1,m2,m3⟩ := q4.gt (item_rng g1 q1).2.2.2.2.2 h62
       refine ⟨e1,?_,rfl,m3⟩
       show u.x.items ++ [_] = _
       rw [List.take_add_one,q1,← e2,m1,q2]; rfl
     ·refine ⟨_,rfl,?_⟩
      refine AW.cutM (gg + 1) s53 [(0,vS p l.length),(2,vL 2 0 (0)),(4,vP st.next 0),(5,vL 5 0 (1)),(6,vI n),(7,vI (i : Int)),(8,vL 8 0 (gg)),(9,.string t),(10,vI k6),(11,vB true),(33,vB true),(73,vB true)] [(2,0,[.slice none 0 0,.slice none 0 0]),(5,1,[vS u.p u.x.items.length,vS u.q u.x.floors.length]),(8,gg,[vI n1,vI n2,vI n3,vI n4,vI n5,.string ⟨#[]⟩])] ⟨rfl,rfl,rfl,rfl,rfl,rfl,rfl,rfl,rfl,rfl,rfl,rfl,trivial⟩ ⟨rfl,rfl,rfl,trivial⟩ rfl fun ρ0 ff => ?_
      refine ⟨_,rfl,?_⟩
      refine ⟨_,op_sto rfl rfl rfl rfl rfl rfl rfl,?_⟩
      refine cxs ?_
      exact ⟨.inl rfl,_,rfl,⟨none,none,nilS⟩,false,rfl,parse_no (fun s0 g1 g2 => by obtain ⟨x0,q1,q2,q3,q4⟩ := hSi s0 g1 g2; cases q3),pcS_nil,newS_nil,(hF53.out hP1).2.2⟩
  ·iterate 3 refine ⟨_,rfl,?_⟩
   refine AW.cutM (gg) st' [(0,vS p l.length),(2,vL 2 0 (0)),(4,vP st.next 0),(5,vL 5 0 (1)),(6,vI n),(7,vI (i : Int)),(33,vB false)] [(2,0,[.slice none 0 0,.slice none 0 0]),(5,1,[vS u.p u.x.items.length,vS u.q u.x.floors.length])] ⟨rfl,rfl,rfl,rfl,rfl,rfl,rfl,trivial⟩ ⟨rfl,rfl,trivial⟩ rfl fun ρ0 ff => ?_
   refine cxs ?_
   refine ⟨_,rfl,(ac_spec_l10Many st.next p l k' true 2 st' hO' hRl hd hl hs' hk' (.inr rfl)).mono ?_⟩
   rintro _ s89 ⟨q2,FL,k7,b7,rfl,hFL,hk89,hl89,h89,hO89,hN89,hR89,hP89⟩
   refine cxs ?_
   have hF89 := hF.later (PresC.of.2 hP89)
   have hQ89 : Rows s89 1 fI q2 FL := hO89.rows fI_len
   have hS1 : ∀ s0,stateOk s0 → stB s0 = l → (i : Int) < n → False := fun s0 g1 g2 hlt => by
    obtain ⟨e1,e2,e3,e4⟩ := hS s0 g1 g2
    have h5 := items_len g1
    first | omega | (cases e3)
   have hS2 : ∀ s0,stateOk s0 → stB s0 = l → n ≤ 100 ∧ u.x.items = s0.items ∧ FL = flL s0.floors ∧ b7 = false := fun s0 g1 g2 => by
    obtain ⟨e1,e2,e3,e4⟩ := hS s0 g1 g2
    have hge : ¬ (i : Int) < n := hS1 s0 g1 g2
    have h5 := items_len g1
    have h6 := marks_len g1.2
    rw [List.drop_eq_nil_of_le (by omega)] at e4
    have e4 : Sf l k' (putN (s0.floors.length : Int) ++ (numsB (flL s0.floors) ++ [])) := by rw [List.append_nil,flL_B]; exact e4
    obtain ⟨a1,a2,a3⟩ := h89 e3 _ _ _ (flL_rng g1.2) (by rw [flL_len]; omega) (by omega) (by omega) e4
    exact ⟨by omega,by rw [e2]; exact List.take_of_length_le (by omega),a1,a2⟩
   refine AW.cutM (gg) s89 [(0,vS p l.length),(2,vL 2 0 (0)),(4,vP st.next 0),(5,vL 5 0 (1)),(6,vI n),(12,vS q2 FL.length),(13,vI (0))] [(2,0,[.slice none 0 0,.slice none 0 0]),(5,1,[vS u.p u.x.items.length,vS u.q u.x.floors.length])] ⟨rfl,rfl,rfl,rfl,rfl,rfl,rfl,trivial⟩ ⟨rfl,rfl,trivial⟩ rfl fun ρ0 ff => ?_
   refine AW.loopM (fun x : Nat × SV => [(0,vS p l.length),(2,vL 2 0 (0)),(4,vP st.next 0),(5,vL 5 0 (1)),(6,vI n),(12,vS q2 FL.length),(13,vI ((2 * x.1 : Nat) : Int))]) (fun x : Nat × SV => [(2,0,[.slice none 0 0,.slice none 0 0]),(5,1,[vS x.2.p x.2.x.items.length,vS x.2.q x.2.x.floors.length])]) (fun m (x : Nat × SV) st' => m = 200 - x.1 ∧ 2 * x.1 ≤ FL.length ∧ (x.2.x.items = u.x.items ∧ x.2.x.floors.length = x.1) ∧ (∀ s0,stateOk s0 → stB s0 = l → x.2.x.floors = s0.floors.take x.1) ∧ FrC st.next s1 st' (pcS x.2) ∧ (OwnR st' 1 fI q2 FL ∧ Dis x.2.q q2) ∧ (rdC st.next p l k7 b7).own st') (0,u) _ ⟨rfl,rfl,rfl,rfl,rfl,rfl,rfl,trivial⟩ ⟨rfl,rfl,trivial⟩ ⟨rfl,Nat.zero_le _,⟨rfl,by rw [hfl]; rfl⟩,fun s0 _ _ => by rw [hfl]; rfl,hF89,⟨hO89,Dis.of hF.1.floors.old hN89⟩,hR89⟩ ?_
   rintro m ⟨j,w⟩ ρ0 ff gg st' ⟨rfl,hj,⟨hwi,hwf⟩,hT,hG,⟨hQo,hDq⟩,hOw⟩
   simp only at hj hwi hwf hT hG hQo hDq hOw
   have hQw : Rows st' 1 fI q2 FL := hQo.rows fI_len
   have hRw : Rows st' 1 fB p l := (PresC.of.1 hG.2.2.1).rowsD hd hR1
   have ew91 : IntKind.wrap .i64 (((2 * j : Nat) : Int) + (1)) = ((2 * j + 1 : Nat) : Int) := (wrap_i64 (by omega) (by omega)).trans (by omega)
   iterate 3 refine ⟨_,rfl,?_⟩
   rintro (_|_) h94
   ·replace h94 : ¬ ((IntKind.wrap .i64 (((2 * j : Nat) : Int) + (1))) < (FL.length : Int)) := of_decide_eq_false h94
    rw [ew91] at h94
    refine AW.cutM (gg) st' [(0,vS p l.length),(2,vL 2 0 (0)),(4,vP st.next 0),(5,vL 5 0 (1)),(6,vI n),(12,vS q2 FL.length),(13,vI ((2 * j : Nat) : Int)),(94,vB false)] [(2,0,[.slice none 0 0,.slice none 0 0]),(5,1,[vS w.p w.x.items.length,vS w.q w.x.floors.length])] ⟨rfl,rfl,rfl,rfl,rfl,rfl,rfl,rfl,trivial⟩ ⟨rfl,rfl,trivial⟩ rfl fun ρ0 ff => ?_
    refine cxs ?_
    iterate 2 refine ⟨_,rfl,?_⟩
    have hmw := rdC_mem hOw
    have hbw : bigS w.x := ⟨by unfold szOk; rw [hwi]; omega,by unfold szOk; omega,fun y hy => hds y (by rw [← hwi]; exact hy)⟩
    have hRS : RdS st' w := hG.1.rdS
    have hT' : ∀ s0,stateOk s0 → stB s0 = l → w.x = s0 := fun s0 g1 g2 => by
     obtain ⟨e1,e2,e3,e4⟩ := hS2 s0 g1 g2
     have hlen : FL.length = 2 * s0.floors.length := by rw [e3,flL_len]
     exact sta_of (hwi.trans e2) (by rw [hT s0 g1 g2]; exact List.take_of_length_le (by omega))
    refine ⟨_,op_ld rfl rfl rfl rfl hmw.2 rfl,?_⟩
    rcases b7 with _|_
    ·refine ⟨_,rfl,?_⟩
     rintro (_|_) h118
     ·replace h118 : ¬ (n > (100)) := of_decide_eq_false h118
      refine ⟨_,rfl,?_⟩
      refine ⟨_,op_ldo rfl rfl rfl rfl,?_⟩
      refine ⟨_,rfl,(ac_spec_StateOk w st' hRS hbw).mono ?_⟩
      rintro _ st' ⟨x122,rfl,h122,rfl⟩
      rcases x122 with _|_
      ·replace h122 := fun k => Bool.false_ne_true (h122.2 k)
       iterate 3 refine ⟨_,rfl,?_⟩
       refine AW.cutM (gg) st' [(2,vL 2 0 (0)),(5,vL 5 0 (1)),(132,vB true)] [(2,0,[.slice none 0 0,.slice none 0 0]),(5,1,[vS w.p w.x.items.length,vS w.q w.x.floors.length])] ⟨rfl,rfl,rfl,trivial⟩ ⟨rfl,rfl,trivial⟩ rfl fun ρ0 ff => ?_
       refine ⟨_,rfl,?_⟩
       refine ⟨_,op_sto rfl rfl rfl rfl rfl rfl rfl,?_⟩
       refine cxs ?_
       exact ⟨.inl rfl,_,rfl,⟨none,none,nilS⟩,false,rfl,parse_no (fun s0 g1 g2 => h122 (hT' s0 g1 g2 ▸ g1)),pcS_nil,newS_nil,(hG.out hP1).2.2⟩
      ·replace h122 := h122.1 rfl
       iterate 2 refine ⟨_,rfl,?_⟩
       refine ⟨_,op_ldo rfl rfl rfl rfl,?_⟩
       refine ⟨_,rfl,(ac_spec_l6Bytes w st' hRS hbw h122).mono ?_⟩
       rintro _ s127 ⟨q127,rfl,hO127,hN127,hP127⟩
       refine ⟨hP127.2,?_⟩
       refine ⟨_,op_strW (l := stB w.x) rfl rfl rfl rfl rfl rfl (hO127.rows fB_len) (stB_pos h122),?_⟩
       refine ⟨_,op_strW (l := l) rfl rfl rfl rfl rfl rfl (hP127.rows hRw) (hl89 rfl),?_⟩
       refine ⟨ld_str rfl rfl (rows_lt hRw (hl89 rfl)),?_⟩
       refine ⟨_,rfl,?_⟩
       rintro (_|_) h131
       ·replace h131 : (toB (stB w.x)) = (toB l) := str_eq h131
        refine ⟨_,rfl,?_⟩
        refine AW.cutM (gg) s127 [(2,vL 2 0 (0)),(5,vL 5 0 (1)),(132,vB false)] [(2,0,[.slice none 0 0,.slice none 0 0]),(5,1,[vS w.p w.x.items.length,vS w.q w.x.floors.length])] ⟨rfl,rfl,rfl,trivial⟩ ⟨rfl,rfl,trivial⟩ rfl fun ρ0 ff => ?_
        refine cxs ?_
        refine ⟨_,op_ldo rfl rfl rfl rfl,?_⟩
        refine ⟨_,op_sto rfl rfl rfl rfl rfl rfl rfl,?_⟩
        refine cxs ?_
        have hFin := (hG.step hP127).out hP1
        exact ⟨.inl rfl,_,rfl,w,true,rfl,parse_ok h122 (toB_inj (stB_ok _) hl h131) (fun s0 g1 g2 => hT' s0 g1 g2),hFin.1,hFin.2.1,hFin.2.2⟩
       ·replace h131 : ¬ ((toB (stB w.x)) = (toB l)) := str_ne h131
        refine ⟨_,rfl,?_⟩
        refine AW.cutM (gg) s127 [(2,vL 2 0 (0)),(5,vL 5 0 (1)),(132,vB true)] [(2,0,[.slice none 0 0,.slice none 0 0]),(5,1,[vS w.p w.x.items.length,vS w.q w.x.floors.length])] ⟨rfl,rfl,rfl,trivial⟩ ⟨rfl,rfl,trivial⟩ rfl fun ρ0 ff => ?_
        refine ⟨_,rfl,?_⟩
        refine ⟨_,op_sto rfl rfl rfl rfl rfl rfl rfl,?_⟩
        refine cxs ?_
        exact ⟨.inl rfl,_,rfl,⟨none,none,nilS⟩,false,rfl,parse_no (fun s0 g1 g2 => h131 (by rw [hT' s0 g1 g2,g2])),pcS_nil,newS_nil,((hG.step hP127).out hP1).2.2⟩
     ·replace h118 : n > (100) := of_decide_eq_true h118
      iterate 3 refine ⟨_,rfl,?_⟩
      refine AW.cutM (gg) st' [(2,vL 2 0 (0)),(5,vL 5 0 (1)),(132,vB true)] [(2,0,[.slice none 0 0,.slice none 0 0]),(5,1,[vS w.p w.x.items.length,vS w.q w.x.floors.length])] ⟨rfl,rfl,rfl,trivial⟩ ⟨rfl,rfl,trivial⟩ rfl fun ρ0 ff => ?_
      refine ⟨_,rfl,?_⟩
      refine ⟨_,op_sto rfl rfl rfl rfl rfl rfl rfl,?_⟩
      refine cxs ?_
      exact ⟨.inl rfl,_,rfl,⟨none,none,nilS⟩,false,rfl,parse_no (fun s0 g1 g2 => by have := (hS2 s0 g1 g2).1; omega),pcS_nil,newS_nil,(hG.out hP1).2.2⟩
    ·iterate 3 refine ⟨_,rfl,?_⟩
     refine AW.cutM (gg) st' [(2,vL 2 0 (0)),(5,vL 5 0 (1)),(132,vB true)] [(2,0,[.slice none 0 0,.slice none 0 0]),(5,1,[vS w.p w.x.items.length,vS w.q w.x.floors.length])] ⟨rfl,rfl,rfl,trivial⟩ ⟨rfl,rfl,trivial⟩ rfl fun ρ0 ff => ?_
     refine ⟨_,rfl,?_⟩
     refine ⟨_,op_sto rfl rfl rfl rfl rfl rfl rfl,?_⟩
     refine cxs ?_
     exact ⟨.inl rfl,_,rfl,⟨none,none,nilS⟩,false,rfl,parse_no (fun s0 g1 g2 => by cases (hS2 s0 g1 g2).2.2.2),pcS_nil,newS_nil,(hG.out hP1).2.2⟩
   ·replace h94 : (IntKind.wrap .i64 (((2 * j : Nat) : Int) + (1))) < (FL.length : Int) := of_decide_eq_true h94
    rw [ew91] at h94
    refine AW.cutM (gg) st' [(0,vS p l.length),(2,vL 2 0 (0)),(4,vP st.next 0),(5,vL 5 0 (1)),(6,vI n),(12,vS q2 FL.length),(13,vI ((2 * j : Nat) : Int)),(94,vB true)] [(2,0,[.slice none 0 0,.slice none 0 0]),(5,1,[vS w.p w.x.items.length,vS w.q w.x.floors.length])] ⟨rfl,rfl,rfl,rfl,rfl,rfl,rfl,rfl,trivial⟩ ⟨rfl,rfl,trivial⟩ rfl fun ρ0 ff => ?_
    refine cxs ?_
    refine ⟨_,rfl,?_⟩
    refine ⟨_,op_ldo rfl rfl rfl rfl,?_⟩
    refine ⟨ld_own rfl rfl rfl,?_⟩
    refine op_at (2 * j) hQw (by omega) rfl rfl rfl rfl rfl rfl rfl ?_
    intro x101 b101 d101 k101 hy101 hb101 hm101 hc101 ho101
    refine ⟨_,op_ldc (i := 0) rfl rfl rfl rfl hm101 hc101 rfl rfl,?_⟩
    have ew105 : IntKind.wrap .i64 (((2 * j : Nat) : Int) + (1)) = ((2 * j + 1 : Nat) : Int) := (wrap_i64 (by omega) (by omega)).trans (by omega)
    refine ⟨_,rfl,?_⟩
    refine op_at (2 * j + 1) hQw (by omega) rfl rfl rfl rfl (by rw [ew105]) rfl rfl ?_
    intro x106 b106 d106 k106 hy106 hb106 hm106 hc106 ho106
    refine ⟨_,op_ldc (i := 0) rfl rfl rfl rfl hm106 hc106 rfl rfl,?_⟩
    refine ⟨_,rfl,?_⟩
    refine op_one (z := 2) (a := ((⟨x101,x106⟩ : Flr) : Flr)) (f := cFlr) rfl rfl rfl rfl rfl (by decide) rfl (Nat.le_of_ble_eq_true rfl) rfl rfl rfl ?_
    refine ⟨Pres.push.2,?_⟩
    have hOf : OwnR st' 2 cFlr w.q w.x.floors := hG.1.floors
    refine op_snoc (z := 2) (st := st') (f := cFlr) (b := 16) (l := w.x.floors) (x := (⟨x101,x106⟩ : Flr)) rfl rfl rfl rfl rfl rfl rfl (by decide) len_cFlr rfl rfl rfl (by omega) (by unfold maxLen; omega) hOf ?_
    intro q110 s110 hO110 hP110 hN110
    refine ⟨_,rfl,?_⟩
    refine ⟨_,op_sto rfl rfl rfl rfl rfl rfl rfl,?_⟩
    refine AW.cutM (gg) s110 [(0,vS p l.length),(2,vL 2 0 (0)),(4,vP st.next 0),(5,vL 5 0 (1)),(6,vI n),(12,vS q2 FL.length),(13,vI ((2 * j : Nat) : Int)),(94,vB true)] [(2,0,[.slice none 0 0,.slice none 0 0]),(5,1,[vS w.p w.x.items.length,vS q110 (w.x.floors ++ [(⟨x101,x106⟩ : Flr)]).length])] ⟨rfl,rfl,rfl,rfl,rfl,rfl,rfl,rfl,trivial⟩ ⟨rfl,rfl,trivial⟩ rfl fun ρ0 ff => ?_
    have e96 : IntKind.wrap .i64 (((2 * j : Nat) : Int) + 2) = ((2 * (j + 1) : Nat) : Int) := (wrap_i64 (by omega) (by omega)).trans (by omega)
    refine ⟨_,rfl,?_⟩
    have hG110 := hG.floors hP110 hO110 hN110
    have hNf : New s1.next w.q := hG.2.1 _ (List.mem_cons_of_mem _ (List.mem_cons_self ..))
    refine ⟨(j + 1,⟨w.p,q110,⟨w.x.items,w.x.floors ++ [⟨x101,x106⟩]⟩⟩),200 - (j + 1),by omega,⟨rfl,rfl,rfl,rfl,rfl,rfl,congrArg (Value.int .i64) e96,trivial⟩,⟨rfl,rfl,trivial⟩,rfl,by simp only; omega,⟨hwi,by simp only [List.length_append,List.length_singleton,hwf]⟩,fun s0 g1 g2 => ?_,hG110.1,⟨hP110.ownR hDq hQo,(Dis.of hQo.old hN110).symm⟩,hOw.pr hP110 (Dis.of (Old.some hc1) hNf).symm⟩
    ·obtain ⟨_,_,e3,_⟩ := hS2 s0 g1 g2
     have hlen : FL.length = 2 * s0.floors.length := by rw [e3,flL_len]
     have hx : s0.floors[j]? = some s0.floors[j] := List.getElem?_eq_getElem (by omega)
     have := flL_get hx
     rw [← e3,hy101,hy106] at this
     obtain ⟨c1,c2⟩ := this
     injection c1 with c1
     injection c2 with c2
     show w.x.floors ++ [_] = _
     rw [List.take_add_one,hx,← hT s0 g1 g2,c1,c2]; rfl
end Go.Proofs.Yteabadoaeadcgaa.AM
