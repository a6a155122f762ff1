/- Part 5 of the texts on which the law's proof rests. -/
import Derived.Test.YteabadoaeadcgaaXmd
namespace Go.Proofs.Yteabadoaeadcgaa.AM
open Go Go.Proofs
set_option linter.unusedVariables false
set_option linter.unusedSimpArgs false
set_option maxRecDepth 100000
set_option maxHeartbeats 4000000
theorem FrC.nums {c : Nat} {a b : St} {q : Option Addr} {L : List Int} (hO : OwnR b 1 fI q L) (hN : New a.next q) (hP : Pr (some ⟨c,0,none⟩) a b) (hc : c < a.next) : FrC c a b (pcIs ⟨q,L⟩) := ⟨OwnP.one (own_pc hO),NewP.cons hN NewP.nil,PresC.of.2 hP,hc⟩
theorem FrC.nilI {c : Nat} {a : St} (hc : c < a.next) : FrC c a a [pcR 2 cFlr none []] := ⟨OwnP.one (.inl ⟨rfl,rfl⟩),NewP.cons New.none NewP.nil,PresC.refl _ _,hc⟩
theorem take_drop_of {l x r : List Int} {n k : Nat} (h : (l.take n).drop k = x ++ r) (hn : k + x.length ≤ n) : (l.drop k).take x.length = x := by
 have h1 : ((l.take n).drop k).take x.length = x := by rw [h,List.take_left]
 rw [List.drop_take,List.take_take] at h1
 rw [← Nat.min_eq_left (show x.length ≤ n - k by omega)]
 exact h1
theorem op_strH {P : Program} {ls : List Tmp} {call : ACallT} {o : Oper} {e : Operand → Value} {lo : Lo} {st : St} {src dst el : TypeId} {x : Operand} {p : Option Addr} {l : List Int} {n : Nat} (ho : o.op = .convert src dst x) (hx : e x = .slice p n n) (hd : telem P dst = none) (hs : tstr P dst = true) (hse : telem P src = some el) (hi : tint P el = some .u8) (hR : Rows st 1 fB p l) (hl : 0 < l.length) (hk : n ≤ l.length) :
  aoper P ls call o e lo st = some (.string (toB (l.take n)),lo,st) := by
 have hp : shO p 1 0 = p := by cases p <;> simp [shO]
 have := op_strS (ls := ls) (call := call) (lo := lo) (e := e) (k := 0) (n := n) ho (hx.trans (by rw [hp])) hd hs hse hi hR hl (by omega)
 rwa [List.drop_zero] at this
theorem op_sl3L {α : Type} {P : Program} {ls : List Tmp} {call : ACallT} {o : Oper} {e : Operand → Value} {lo : Lo} {st : St} {t el : TypeId} {x y w : Operand} {p : Option Addr} {z : Nat} {a b : Int} (l : List α) (i m : Nat) (ho : o.op = .slice t x (some y) (some w) none) (hx : e x = vS p l.length) (hy : e y = vI a) (hw : e w = vI b) (ha : a = (i : Int)) (hb : b = ((i + m : Nat) : Int)) (he : telem P t = some el) (hz : tsize P el = some z) (h2 : i + m ≤ l.length) : aoper P ls call o e lo st = some (vS (shO p z i) ((l.drop i).take m).length,lo,st) := by
 have h := op_sl3 (ls := ls) (call := call) (lo := lo) (st := st) (n := l.length) ho hx hy hw ha hb he hz (by omega) h2
 have h3 : ((l.drop i).take m).length = i + m - i := by rw [List.length_take,List.length_drop]; omega
 rw [h3]; exact h
theorem mg_of {a b : Mg} (h1 : a.kind = b.kind) (h2 : a.frm = b.frm) (h3 : a.to = b.to) (h4 : a.num = b.num) (h5 : a.hi = b.hi) (h6 : a.tree.leaves = b.tree.leaves) (h7 : a.tree.root = b.tree.root) (h8 : a.vec = b.vec) (h9 : a.leaves = b.leaves) (h10 : a.part = b.part) (h11 : a.marks = b.marks) : a = b := by
 obtain ⟨a1,a2,a3,a4,a5,⟨a6,a7⟩,a8,a9,a10,a11⟩ := a
 obtain ⟨b1,b2,b3,b4,b5,⟨b6,b7⟩,b8,b9,b10,b11⟩ := b
 simp only at h1 h2 h3 h4 h5 h6 h7 h8 h9 h10 h11
 subst h1 h2 h3 h4 h5 h6 h7 h8 h9 h10 h11
 rfl
theorem pcM_assoc {a b c d e : List Pc} : ((a ++ (b ++ c)) ++ d) ++ e = a ++ (b ++ (c ++ (d ++ e))) := by simp only [List.append_assoc]
theorem FrC.assocM {n : Nat} {s t : St} {a b c d e : List Pc} (h : FrC n s t (((a ++ (b ++ c)) ++ d) ++ e)) : FrC n s t (a ++ (b ++ (c ++ (d ++ e)))) := by rw [← pcM_assoc]; exact h
theorem ac_impl_MsgOf (p : Option Addr) (l : List Int) (st : St) (hR : Rows st 1 fB p l) (hl : bytesOk l) (hs : l.length ≤ 1048576) : C 56 [vS p l.length] st (fun v s => ∃ (u : MV) (b : Bool),v = .tuple #[.agg #[vI u.kind,vI u.frm,vI u.to,vI u.num,vI u.hi,vS u.tree.p u.tree.l.length,vI u.tree.root,vS u.vec.p u.vec.l.length,vS u.leaves.p u.leaves.l.length,vS u.part.p u.part.x.items.length,vS u.part.q u.part.x.floors.length,vS u.marks.p u.marks.l.length],vB b] ∧ (u.x,b) = parseM l ∧ OwnP s (pcMV u) ∧ NewP st.next (pcMV u) ∧ Pres st s) := by
 refine AC.enterX (i := ⟨[2,6,8,11],[2,6,8,11,32,35,38,41,44,47,48,51,52,55,58,96,113,116,117,122],[0,2,3,4,5,6,7,8,9,10,11,22,74,93,107,108,109,139],[]⟩) [(18,[],[4,8])] Try.func56 rfl rfl (by kernel_rfl) (by kernel_rfl) Try.ntmps56 (Lb rfl) rfl ?_
 refine ⟨_,rfl,?_⟩
 refine Cm 1 st [(0,vS p l.length),Ml 2 0,(3,vB false)] [(2,0,[vI 0,vI 0,vI 0,vI 0,vI 0,Sn,vI 0,Sn,Sn,Sn,Sn,Sn])] fun _ _ => ?_
 refine ⟨_,rfl,?_⟩
 have e14 : IntKind.wrap .i64 ((l.length : Int) - 4) = (l.length : Int) - 4 := wrap_i64 (by omega) (by omega)
 refine ⟨_,rfl,?_⟩
 refine AW.cutM (1) st [(0,vS p l.length),Ml 2 0,(3,vB false),(4,vI ((l.length : Int) - 4))] [(2,0,[vI 0,vI 0,vI 0,vI 0,vI 0,Sn,vI 0,Sn,Sn,Sn,Sn,Sn])] ⟨rfl,rfl,rfl,congrArg (Value.int .i64) e14,trivial⟩ ⟨rfl,trivial⟩ rfl fun _ _ => ?_
 refine ⟨_,rfl,?_⟩
 rintro (_|_) h16
 ·replace h16 : ¬ (((l.length : Int) - 4) < (2)) := of_decide_eq_false h16
  refine ⟨_,op_slH (j := 2) rfl rfl rfl rfl rfl rfl (by omega),?_⟩
  refine ⟨_,op_strH (p := p) (l := l) (n := 2) rfl rfl rfl rfl rfl rfl hR (by omega) (by omega),?_⟩
  refine ⟨_,rfl,?_⟩
  rintro (_|_) h21
  ·replace h21 : (toB (l.take 2)) = ⟨#[82,75]⟩ := str_eq h21
   refine ⟨_,rfl,?_⟩
   refine Cm 1 st [(0,vS p l.length),Ml 2 0,(3,vB false),(4,vI ((l.length : Int) - 4)),(22,vB false)] [(2,0,[vI 0,vI 0,vI 0,vI 0,vI 0,Sn,vI 0,Sn,Sn,Sn,Sn,Sn])] fun _ _ => ?_
   obtain ⟨lw,hlw⟩ : ∃ x,x = l.take (l.length - 4) := ⟨_,rfl⟩
   have h6 : 6 ≤ l.length := by omega
   have hll : lw.length = l.length - 4 := by rw [hlw,List.length_take]; omega
   have hRw : Rows st 1 fB p lw := hlw ▸ hR.take _
   have hob : bytesOk lw := fun x hx => hl x (List.mem_of_mem_take (hlw ▸ hx))
   have hsw : lw.length ≤ 1099511627776 := by omega
   refine cxs ?_
   refine ⟨_,op_slH (j := lw.length) rfl rfl rfl (by omega) rfl rfl (by omega),?_⟩
   refine ⟨_,rfl,?_⟩
   refine ⟨_,rfl,?_⟩
   refine Cm 1 (st.push 0 [vS p lw.length,vI 2,vB false]) [(0,vS p l.length),Ml 2 0,(3,vB false),(4,vI ((l.length : Int) - 4)),(5,vP st.next 0)] [(2,0,[vI 0,vI 0,vI 0,vI 0,vI 0,Sn,vI 0,Sn,Sn,Sn,Sn,Sn])] fun _ _ => ?_
   have hO1 : (rdC st.next p lw 2 false).own (st.push 0 [vS p lw.length,vI 2,vB false]) := .inr ⟨st.next,rfl,Nat.lt_succ_self _,if_pos rfl⟩
   have hP1 : Pres st (st.push 0 [vS p lw.length,vI 2,vB false]) := Pres.push
   have hc1 : st.next < (st.push 0 [vS p lw.length,vI 2,vB false]).next := Nat.lt_succ_self _
   obtain ⟨s1,hs1⟩ : ∃ s,s = st.push 0 [vS p lw.length,vI 2,vB false] := ⟨_,rfl⟩
   rw [← hs1] at hO1 hP1 hc1 ⊢
   have hd := DisR.new hRw
   have hR1 := hP1.rows hRw
   iterate 2 refine ⟨_,rfl,?_⟩
   refine ⟨_,op_stw (vs := [vI 0,vI 0,vI 0,vI 0,vI 0,.slice none 0 0,vI 0,.slice none 0 0,.slice none 0 0,.slice none 0 0,.slice none 0 0,.slice none 0 0]) rfl rfl rfl rfl rfl rfl rfl rfl,?_⟩
   refine Cm 2 s1 [(0,vS p l.length),Ml 2 0,(3,vB false),(4,vI ((l.length : Int) - 4)),(5,vP st.next 0),Ml 6 1] [(2,0,[vI 0,vI 0,vI 0,vI 0,vI 0,Sn,vI 0,Sn,Sn,Sn,Sn,Sn]),(6,1,[vI 0,vI 0,vI 0,vI 0,vI 0,Sn,vI 0,Sn,Sn,Sn,Sn,Sn])] fun _ _ => ?_
   refine ⟨_,rfl,(ac_impl_num st.next p lw 2 false s1 hO1 hR1 hob hsw (by decide)).mono ?_⟩
   rintro _ s31 ⟨n1,a1,b1,rfl,h31,hO31,hP31⟩
   refine ⟨_,rfl,?_⟩
   refine ⟨_,Os rfl,?_⟩
   refine Cm 2 s31 [(0,vS p l.length),Ml 2 0,(3,vB false),(4,vI ((l.length : Int) - 4)),(5,vP st.next 0),Ml 6 1] [(2,0,[vI 0,vI 0,vI 0,vI 0,vI 0,Sn,vI 0,Sn,Sn,Sn,Sn,Sn]),(6,1,[vI n1,vI 0,vI 0,vI 0,vI 0,Sn,vI 0,Sn,Sn,Sn,Sn,Sn])] fun _ _ => ?_
   have hR31 := hP31.rowsD hd hR1
   have hk31 := (rnF_get hob hsw (by decide) h31).1
   refine ⟨_,rfl,(ac_impl_num st.next p lw a1 b1 s31 hO31 hR31 hob hsw hk31).mono ?_⟩
   rintro _ s34 ⟨n2,a2,b2,rfl,h34,hO34,hP34⟩
   refine ⟨_,rfl,?_⟩
   refine ⟨_,Os rfl,?_⟩
   refine Cm 2 s34 [(0,vS p l.length),Ml 2 0,(3,vB false),(4,vI ((l.length : Int) - 4)),(5,vP st.next 0),Ml 6 1] [(2,0,[vI 0,vI 0,vI 0,vI 0,vI 0,Sn,vI 0,Sn,Sn,Sn,Sn,Sn]),(6,1,[vI n1,vI n2,vI 0,vI 0,vI 0,Sn,vI 0,Sn,Sn,Sn,Sn,Sn])] fun _ _ => ?_
   have hR34 := hP34.rowsD hd hR31
   have hk34 := (rnF_get hob hsw hk31 h34).1
   refine ⟨_,rfl,(ac_impl_num st.next p lw a2 b2 s34 hO34 hR34 hob hsw hk34).mono ?_⟩
   rintro _ s37 ⟨n3,a3,b3,rfl,h37,hO37,hP37⟩
   refine ⟨_,rfl,?_⟩
   refine ⟨_,Os rfl,?_⟩
   refine Cm 2 s37 [(0,vS p l.length),Ml 2 0,(3,vB false),(4,vI ((l.length : Int) - 4)),(5,vP st.next 0),Ml 6 1] [(2,0,[vI 0,vI 0,vI 0,vI 0,vI 0,Sn,vI 0,Sn,Sn,Sn,Sn,Sn]),(6,1,[vI n1,vI n2,vI n3,vI 0,vI 0,Sn,vI 0,Sn,Sn,Sn,Sn,Sn])] fun _ _ => ?_
   have hR37 := hP37.rowsD hd hR34
   have hk37 := (rnF_get hob hsw hk34 h37).1
   refine ⟨_,rfl,(ac_impl_num st.next p lw a3 b3 s37 hO37 hR37 hob hsw hk37).mono ?_⟩
   rintro _ s40 ⟨n4,a4,b4,rfl,h40,hO40,hP40⟩
   refine ⟨_,rfl,?_⟩
   refine ⟨_,Os rfl,?_⟩
   refine Cm 2 s40 [(0,vS p l.length),Ml 2 0,(3,vB false),(4,vI ((l.length : Int) - 4)),(5,vP st.next 0),Ml 6 1] [(2,0,[vI 0,vI 0,vI 0,vI 0,vI 0,Sn,vI 0,Sn,Sn,Sn,Sn,Sn]),(6,1,[vI n1,vI n2,vI n3,vI n4,vI 0,Sn,vI 0,Sn,Sn,Sn,Sn,Sn])] fun _ _ => ?_
   have hR40 := hP40.rowsD hd hR37
   have hk40 := (rnF_get hob hsw hk37 h40).1
   refine ⟨_,rfl,(ac_impl_num st.next p lw a4 b4 s40 hO40 hR40 hob hsw hk40).mono ?_⟩
   rintro _ s43 ⟨n5,a5,b5,rfl,h43,hO43,hP43⟩
   refine ⟨_,rfl,?_⟩
   refine ⟨_,Os rfl,?_⟩
   refine Cm 2 s43 [(0,vS p l.length),Ml 2 0,(3,vB false),(4,vI ((l.length : Int) - 4)),(5,vP st.next 0),Ml 6 1] [(2,0,[vI 0,vI 0,vI 0,vI 0,vI 0,Sn,vI 0,Sn,Sn,Sn,Sn,Sn]),(6,1,[vI n1,vI n2,vI n3,vI n4,vI n5,Sn,vI 0,Sn,Sn,Sn,Sn,Sn])] fun _ _ => ?_
   have hR43 := hP43.rowsD hd hR40
   have hk43 := (rnF_get hob hsw hk40 h43).1
   refine ⟨_,rfl,(ac_impl_nums st.next p lw a5 b5 4 s43 hO43 hR43 hd hob hsw hk43 (by decide) (by decide)).mono ?_⟩
   rintro _ s46 ⟨q46,m46,e46,f46,L46,a6,b6,rfl,c46,h46,hQ46,hN46,hO46,hP46⟩
   iterate 2 refine ⟨_,rfl,?_⟩
   refine ⟨_,Os rfl,?_⟩
   refine Cm 2 s46 [(0,vS p l.length),Ml 2 0,(3,vB false),(4,vI ((l.length : Int) - 4)),(5,vP st.next 0),Ml 6 1] [(2,0,[vI 0,vI 0,vI 0,vI 0,vI 0,Sn,vI 0,Sn,Sn,Sn,Sn,Sn]),(6,1,[vI n1,vI n2,vI n3,vI n4,vI n5,vS q46 L46.length,vI 0,Sn,Sn,Sn,Sn,Sn])] fun _ _ => ?_
   have hg46 := rcF_rng hob hsw hk43 (by decide) c46
   have hl46 := rsF_get hob hsw hg46.2.2 h46
   have hR46 := hP46.rowsD hd hR43
   refine ⟨_,rfl,(ac_impl_num st.next p lw a6 b6 s46 hO46 hR46 hob hsw hl46.2).mono ?_⟩
   rintro _ s50 ⟨n7,a7,b7,rfl,h50,hO50,hP50⟩
   iterate 2 refine ⟨_,rfl,?_⟩
   refine ⟨_,Os rfl,?_⟩
   refine Cm 2 s50 [(0,vS p l.length),Ml 2 0,(3,vB false),(4,vI ((l.length : Int) - 4)),(5,vP st.next 0),Ml 6 1] [(2,0,[vI 0,vI 0,vI 0,vI 0,vI 0,Sn,vI 0,Sn,Sn,Sn,Sn,Sn]),(6,1,[vI n1,vI n2,vI n3,vI n4,vI n5,vS q46 L46.length,vI n7,Sn,Sn,Sn,Sn,Sn])] fun _ _ => ?_
   have hR50 := hP50.rowsD hd hR46
   have hk50 := (rnF_get hob hsw hl46.2 h50).1
   refine ⟨_,rfl,(ac_impl_nums st.next p lw a7 b7 5 s50 hO50 hR50 hd hob hsw hk50 (by decide) (by decide)).mono ?_⟩
   rintro _ s54 ⟨q54,m54,e54,f54,L54,a8,b8,rfl,c54,h54,hQ54,hN54,hO54,hP54⟩
   refine ⟨_,rfl,?_⟩
   refine ⟨_,Os rfl,?_⟩
   refine Cm 2 s54 [(0,vS p l.length),Ml 2 0,(3,vB false),(4,vI ((l.length : Int) - 4)),(5,vP st.next 0),Ml 6 1] [(2,0,[vI 0,vI 0,vI 0,vI 0,vI 0,Sn,vI 0,Sn,Sn,Sn,Sn,Sn]),(6,1,[vI n1,vI n2,vI n3,vI n4,vI n5,vS q46 L46.length,vI n7,vS q54 L54.length,Sn,Sn,Sn,Sn])] fun _ _ => ?_
   have hg54 := rcF_rng hob hsw hk50 (by decide) c54
   have hl54 := rsF_get hob hsw hg54.2.2 h54
   have hR54 := hP54.rowsD hd hR50
   refine ⟨_,rfl,(ac_impl_nums st.next p lw a8 b8 4 s54 hO54 hR54 hd hob hsw hl54.2 (by decide) (by decide)).mono ?_⟩
   rintro _ s57 ⟨q57,m57,e57,f57,L57,a9,b9,rfl,c57,h57,hQ57,hN57,hO57,hP57⟩
   refine ⟨_,rfl,?_⟩
   refine ⟨_,Os rfl,?_⟩
   refine Cm 2 s57 [(0,vS p l.length),Ml 2 0,(3,vB false),(4,vI ((l.length : Int) - 4)),(5,vP st.next 0),Ml 6 1] [(2,0,[vI 0,vI 0,vI 0,vI 0,vI 0,Sn,vI 0,Sn,Sn,Sn,Sn,Sn]),(6,1,[vI n1,vI n2,vI n3,vI n4,vI n5,vS q46 L46.length,vI n7,vS q54 L54.length,vS q57 L57.length,Sn,Sn,Sn])] fun _ _ => ?_
   have hg57 := rcF_rng hob hsw hl54.2 (by decide) c57
   have hl57 := rsF_get hob hsw hg57.2.2 h57
   have hR57 := hP57.rowsD hd hR54
   refine ⟨_,rfl,(ac_impl_num st.next p lw a9 b9 s57 hO57 hR57 hob hsw hl57.2).mono ?_⟩
   rintro _ s60 ⟨n10,a10,b10,rfl,h60,hO60,hP60⟩
   refine Cm 2 s60 [(0,vS p l.length),Ml 2 0,(3,vB false),(4,vI ((l.length : Int) - 4)),(5,vP st.next 0),Ml 6 1,(7,vI n10)] [(2,0,[vI 0,vI 0,vI 0,vI 0,vI 0,Sn,vI 0,Sn,Sn,Sn,Sn,Sn]),(6,1,[vI n1,vI n2,vI n3,vI n4,vI n5,vS q46 L46.length,vI n7,vS q54 L54.length,vS q57 L57.length,Sn,Sn,Sn])] fun _ _ => ?_
   have hR60 := hP60.rowsD hd hR57
   have hk60 := (rnF_get hob hsw hl57.2 h60).1
   have hP43 : PresC st.next s1 s43 := PresC.of.2 ((((hP31.trans hP34).trans hP37).trans hP40).trans hP43)
   have hc43 : st.next < s43.next := Nat.lt_of_lt_of_le hc1 hP43.1
   have hc50 : st.next < s50.next := Nat.lt_of_lt_of_le hc43 (hP46.trans hP50).1
   have hF57 := (((FrC.nums hQ46 hN46 hP46 hc43).later (PresC.of.2 hP50)).join ((FrC.nums hQ54 hN54 hP54 hc50).join (FrC.nums hQ57 hN57 hP57 (Nat.lt_of_lt_of_le hc50 hP54.1)))).sooner hP43 hc1
   have hF60 := hF57.later (PresC.of.2 hP60)
   have hmem := (rdC_mem hO60).2
   have hmlt := (rdC_mem hO60).1
   have hPall : Pres st s60 := (hF60.out hP1).2.2
   have hS : ∀ g0,msgOk g0 → mgB g0 = l → (n1 = g0.kind ∧ n2 = g0.frm ∧ n3 = g0.to ∧ n4 = g0.num ∧ n5 = g0.hi) ∧ (L46 = g0.tree.leaves ∧ n7 = g0.tree.root ∧ L54 = g0.vec ∧ L57 = g0.leaves) ∧ n10 = ((stB g0.part).length : Int) ∧ b10 = false ∧ Sf lw a10 (stB g0.part ++ (putN (g0.marks.length : Int) ++ flsB g0.marks)) := fun g0 g1 g2 => by
    have hr := msg_rng g1
    have hm := msg_sm g1
    have m1 := hm.tree
    have m2 := hm.vec
    have m3 := hm.leaves
    have x0 : Sf lw 2 (mgR g0) := hlw ▸ mg_Sf g2
    unfold mgR at x0
    obtain ⟨e1,f1,x1⟩ := x0.num hr.kind rfl h31
    obtain ⟨e2,f2,x2⟩ := x1.num hr.frm f1 h34
    obtain ⟨e3,f3,x3⟩ := x2.num hr.to f2 h37
    obtain ⟨e4,f4,x4⟩ := x3.num hr.num f3 h40
    obtain ⟨e5,f5,x5⟩ := x4.num hr.hi f4 h43
    obtain ⟨e6,f6,x6⟩ := x5.list hr.tree (by omega) (by decide) f5 c46 h46
    obtain ⟨e7,f7,x7⟩ := x6.num hr.root f6 h50
    obtain ⟨e8,f8,x8⟩ := x7.list hr.vec (by omega) (by decide) f7 c54 h54
    obtain ⟨e9,f9,x9⟩ := x8.list hr.leaves (by omega) (by decide) f8 c57 h57
    obtain ⟨e10,f10,x10⟩ := x9.num hr.size f9 h60
    exact ⟨⟨e1,e2,e3,e4,e5⟩,⟨e6,e7,e8,e9⟩,e10,f10,x10⟩
   iterate 2 refine ⟨_,rfl,?_⟩
   refine ⟨_,op_ld rfl rfl rfl rfl hmem rfl,?_⟩
   rcases b10 with _|_
   ·iterate 2 refine ⟨_,rfl,?_⟩
    refine ⟨_,op_ld rfl rfl rfl rfl hmem rfl,?_⟩
    have hrk := rnF_ok hob h60
    have ew72 : IntKind.wrap .i64 (((l.length : Int) - 4) - a10) = ((l.length : Int) - 4) - a10 := wrap_i64 (by omega) (by omega)
    iterate 2 refine ⟨_,rfl,?_⟩
    rintro (_|_) h73
    ·replace h73 : ¬ (n10 > (IntKind.wrap .i64 (((l.length : Int) - 4) - a10))) := of_decide_eq_false h73
     rw [ew72] at h73
     refine ⟨_,rfl,?_⟩
     refine Cm 2 s60 [(0,vS p l.length),Ml 2 0,(3,vB false),(5,vP st.next 0),Ml 6 1,(7,vI n10),(74,vB false)] [(2,0,[vI 0,vI 0,vI 0,vI 0,vI 0,Sn,vI 0,Sn,Sn,Sn,Sn,Sn]),(6,1,[vI n1,vI n2,vI n3,vI n4,vI n5,vS q46 L46.length,vI n7,vS q54 L54.length,vS q57 L57.length,Sn,Sn,Sn])] fun _ _ => ?_
     obtain ⟨q1,q2,q3,q4,q5⟩ := rnF_ok hob h60
     obtain ⟨sn,hsn⟩ := Int.eq_ofNat_of_zero_le q1
     obtain ⟨kn,hkn⟩ := Int.eq_ofNat_of_zero_le (show 0 ≤ a10 by omega)
     have hsk : kn + sn ≤ lw.length := by omega
     have hobp : bytesOk ((l.drop kn).take sn) := fun x hx => hl x (List.mem_of_mem_drop (List.mem_of_mem_take hx))
     have hlpl : ((l.drop kn).take sn).length ≤ 1048576 := by rw [List.length_take]; omega
     have hlp : ∀ g0,msgOk g0 → mgB g0 = l → (l.drop kn).take sn = stB g0.part := fun g0 g1 g2 => by
      obtain ⟨_,_,e,_,k,e1,e2,e3⟩ := hS g0 g1 g2
      obtain rfl : k = kn := by omega
      obtain rfl : sn = (stB g0.part).length := by omega
      rw [hlw] at e3
      exact take_drop_of e3 (by omega)
     refine cxs ?_
     iterate 2 refine ⟨_,rfl,?_⟩
     refine ⟨_,op_ld rfl rfl rfl rfl hmem rfl,?_⟩
     refine ⟨ld_lt rfl rfl hmlt,?_⟩
     iterate 2 refine ⟨_,rfl,?_⟩
     refine ⟨_,op_ld rfl rfl rfl rfl hmem rfl,?_⟩
     refine ⟨ld_lt rfl rfl hmlt,?_⟩
     have ew87 : IntKind.wrap .i64 (a10 + n10) = a10 + n10 := wrap_i64 (by omega) (by omega)
     refine ⟨_,rfl,?_⟩
     refine ⟨_,op_sl3L l kn sn rfl rfl rfl rfl hkn (by rw [ew87]; omega) rfl rfl (by omega),?_⟩
     refine ⟨_,rfl,(ac_impl_StateOf (shO p 1 kn) ((l.drop kn).take sn) s60 (hPall.rows ((hR.sh kn).take sn)) hobp hlpl).mono ?_⟩
     rintro _ s89 ⟨u89,b89,rfl,h89,hO89,hN89,hP89⟩
     rcases b89 with _|_
     ·iterate 3 refine ⟨_,rfl,?_⟩
      refine ⟨_,Os rfl,?_⟩
      refine Cm 3 s89 [(0,vS p l.length),Ml 2 0,(3,vB false),(5,vP st.next 0),Ml 6 1,(7,vI n10),Ml 8 2,(9,vB false)] [(2,0,[vI 0,vI 0,vI 0,vI 0,vI 0,Sn,vI 0,Sn,Sn,Sn,Sn,Sn]),(6,1,[vI n1,vI n2,vI n3,vI n4,vI n5,vS q46 L46.length,vI n7,vS q54 L54.length,vS q57 L57.length,Sn,Sn,Sn]),(8,2,cSV u89)] fun _ _ => ?_
      refine ⟨_,rfl,?_⟩
      refine Cm 3 s89 [(0,vS p l.length),Ml 2 0,(3,vB false),(5,vP st.next 0),Ml 6 1,(7,vI n10),Ml 8 2,(93,vB true)] [(2,0,[vI 0,vI 0,vI 0,vI 0,vI 0,Sn,vI 0,Sn,Sn,Sn,Sn,Sn]),(6,1,[vI n1,vI n2,vI n3,vI n4,vI n5,vS q46 L46.length,vI n7,vS q54 L54.length,vS q57 L57.length,Sn,Sn,Sn]),(8,2,cSV u89)] fun _ _ => ?_
      refine ⟨_,rfl,?_⟩
      refine ⟨_,op_stw (vs := [vI 0,vI 0,vI 0,vI 0,vI 0,.slice none 0 0,vI 0,.slice none 0 0,.slice none 0 0,.slice none 0 0,.slice none 0 0,.slice none 0 0]) rfl rfl rfl rfl rfl rfl rfl rfl,?_⟩
      refine cxs ?_
      exact ⟨.inl rfl,_,rfl,nilMV,false,rfl,parsm_no (fun g0 g1 g2 => by
       rw [hlp g0 g1 g2] at h89
       cases (parse_of (msg_sm g1).part h89).1),pcM_nil,newM_nil,hPall.trans hP89⟩
     ·iterate 3 refine ⟨_,rfl,?_⟩
      refine ⟨_,Os rfl,?_⟩
      refine Cm 3 s89 [(0,vS p l.length),Ml 2 0,(3,vB false),(5,vP st.next 0),Ml 6 1,(7,vI n10),Ml 8 2,(9,vB true)] [(2,0,[vI 0,vI 0,vI 0,vI 0,vI 0,Sn,vI 0,Sn,Sn,Sn,Sn,Sn]),(6,1,[vI n1,vI n2,vI n3,vI n4,vI n5,vS q46 L46.length,vI n7,vS q54 L54.length,vS q57 L57.length,Sn,Sn,Sn]),(8,2,cSV u89)] fun _ _ => ?_
      refine ⟨_,rfl,?_⟩
      refine Cm 3 s89 [(0,vS p l.length),Ml 2 0,(3,vB false),(5,vP st.next 0),Ml 6 1,(7,vI n10),Ml 8 2,(93,vB false)] [(2,0,[vI 0,vI 0,vI 0,vI 0,vI 0,Sn,vI 0,Sn,Sn,Sn,Sn,Sn]),(6,1,[vI n1,vI n2,vI n3,vI n4,vI n5,vS q46 L46.length,vI n7,vS q54 L54.length,vS q57 L57.length,Sn,Sn,Sn]),(8,2,cSV u89)] fun _ _ => ?_
      have hu89 := parse_yes h89
      have hF89 := hF60.add ⟨hO89,hN89,hP89⟩
      have hO89r : (rdC st.next p lw a10 false).own s89 := hO60.pres hP89
      have hm89 := (rdC_mem hO89r).2
      have hsz : n10 ≤ 2147483647 := q2
      have ha10 : 0 ≤ a10 ∧ a10 + n10 ≤ lw.length := by omega
      refine cxs ?_
      refine ⟨_,Od rfl,?_⟩
      refine ⟨_,rfl,?_⟩
      refine ⟨_,Os rfl,?_⟩
      refine Cm 3 s89 [(0,vS p l.length),Ml 2 0,(3,vB false),(5,vP st.next 0),Ml 6 1,(7,vI n10)] [(2,0,[vI 0,vI 0,vI 0,vI 0,vI 0,Sn,vI 0,Sn,Sn,Sn,Sn,Sn]),(6,1,[vI n1,vI n2,vI n3,vI n4,vI n5,vS q46 L46.length,vI n7,vS q54 L54.length,vS q57 L57.length,vS u89.p u89.x.items.length,vS u89.q u89.x.floors.length,Sn])] fun _ _ => ?_
      iterate 2 refine ⟨_,rfl,?_⟩
      refine ⟨_,op_ld rfl rfl rfl rfl hm89 rfl,?_⟩
      have ew102 : IntKind.wrap .i64 (a10 + n10) = a10 + n10 := wrap_i64 (by omega) (by omega)
      iterate 3 refine ⟨_,rfl,?_⟩
      refine op_stO (z := 0) (c := st.next) (off := 1) rfl rfl rfl rfl rfl rfl hO89r (by simp) ?_
      intro s104 hO104 hP104 hn104
      refine Cm 3 s104 [(0,vS p l.length),Ml 2 0,(3,vB false),(5,vP st.next 0),Ml 6 1] [(2,0,[vI 0,vI 0,vI 0,vI 0,vI 0,Sn,vI 0,Sn,Sn,Sn,Sn,Sn]),(6,1,[vI n1,vI n2,vI n3,vI n4,vI n5,vS q46 L46.length,vI n7,vS q54 L54.length,vS q57 L57.length,vS u89.p u89.x.items.length,vS u89.q u89.x.floors.length,Sn])] fun _ _ => ?_
      have hO104 : (rdC st.next p lw (a10 + n10) false).own s104 := by rw [← ew102]; exact hO104
      have hk104 : a10 + n10 ≤ 1099511627776 := by omega
      have hF104 := hF89.later (PresC.of.2 hP104)
      have hR104 := hP104.rowsD hd (hP89.rows hR60)
      refine ⟨_,rfl,(ac_impl_count st.next p lw (a10 + n10) false 5 s104 hO104 hR104 hob hsw hk104).mono ?_⟩
      rintro _ s106 ⟨n11,a11,b11,rfl,h106,hO106,hP106⟩
      refine cxs ?_
      obtain ⟨hm0,hm5,hk106⟩ := rcF_rng hob hsw hk104 (by decide) h106
      have hF106 := (hF104.later (PresC.of.2 hP106)).join (FrC.nilI (hF104.later (PresC.of.2 hP106)).lt)
      have hS1 : ∀ g0,msgOk g0 → mgB g0 = l → n11 = (g0.marks.length : Int) ∧ ([] : List Flr) = g0.marks.take 0 ∧ b11 = false ∧ Sf lw a11 (flsB (g0.marks.drop 0)) := fun g0 g1 g2 => by
       obtain ⟨_,_,e,_,k,e1,e2,e3⟩ := hS g0 g1 g2
       have x1 := Sf.next e2 e3
       rw [← e1,← e] at x1
       have := (msg_sm g1).marks
       obtain ⟨c1,c2,c3⟩ := x1.count ⟨by omega,by omega⟩ (by omega) rfl h106
       exact ⟨c1,rfl,c2,c3⟩
      refine Cm 3 s106 [(0,vS p l.length),Ml 2 0,(3,vB false),(5,vP st.next 0),Ml 6 1,(107,vI n11),(108,vI 0)] [(2,0,[vI 0,vI 0,vI 0,vI 0,vI 0,Sn,vI 0,Sn,Sn,Sn,Sn,Sn]),(6,1,[vI n1,vI n2,vI n3,vI n4,vI n5,vS q46 L46.length,vI n7,vS q54 L54.length,vS q57 L57.length,vS u89.p u89.x.items.length,vS u89.q u89.x.floors.length,Sn])] fun _ _ => ?_
      refine AW.loopM (fun x : Nat × FV × Int × Bool => [(0,vS p l.length),(2,vL 2 0 (0)),(3,vB false),(5,vP st.next 0),(6,vL 6 0 (1)),(107,vI n11),(108,vI (x.1 : Int))]) (fun x : Nat × FV × Int × Bool => [(2,0,[vI 0,vI 0,vI 0,vI 0,vI 0,.slice none 0 0,vI 0,.slice none 0 0,.slice none 0 0,.slice none 0 0,.slice none 0 0,.slice none 0 0]),(6,1,[vI n1,vI n2,vI n3,vI n4,vI n5,vS q46 L46.length,vI n7,vS q54 L54.length,vS q57 L57.length,vS u89.p u89.x.items.length,vS u89.q u89.x.floors.length,vS x.2.1.p x.2.1.l.length])]) (fun m (x : Nat × FV × Int × Bool) st' => m = n11.toNat - x.1 ∧ (x.1 : Int) ≤ n11 ∧ x.2.1.l.length = x.1 ∧ x.2.2.1 ≤ 1099511627776 ∧ (∀ g0,msgOk g0 → mgB g0 = l → n11 = (g0.marks.length : Int) ∧ x.2.1.l = g0.marks.take x.1 ∧ x.2.2.2 = false ∧ Sf lw x.2.2.1 (flsB (g0.marks.drop x.1))) ∧ FrC st.next s1 st' (((pcIs ⟨q46,L46⟩ ++ (pcIs ⟨q54,L54⟩ ++ pcIs ⟨q57,L57⟩)) ++ pcS u89) ++ pcFV x.2.1) ∧ (rdC st.next p lw x.2.2.1 x.2.2.2).own st') (0,⟨none,[]⟩,a11,b11) _ ⟨rfl,rfl,rfl,rfl,rfl,rfl,rfl,trivial⟩ ⟨rfl,rfl,trivial⟩ ⟨rfl,hm0,rfl,hk106,hS1,hF106,hO106⟩ ?_
      rintro m ⟨j,w,kk,bb⟩ ρ0 ff gg st' ⟨rfl,hj,hwl,hkk,hT,hG,hOw⟩
      simp only at hj hwl hkk hT hG hOw
      have hRv : Rows st' 1 fB p lw := (PresC.of.1 hG.2.2.1).rowsD hd hR1
      refine ⟨_,rfl,?_⟩
      rintro (_|_) h109
      ·replace h109 : ¬ ((j : Int) < n11) := of_decide_eq_false h109
       refine Cm gg st' [(0,vS p l.length),Ml 2 0,(3,vB false),(5,vP st.next 0),Ml 6 1,(107,vI n11),(108,vI (j : Int)),(109,vB false)] [(2,0,[vI 0,vI 0,vI 0,vI 0,vI 0,Sn,vI 0,Sn,Sn,Sn,Sn,Sn]),(6,1,[vI n1,vI n2,vI n3,vI n4,vI n5,vS q46 L46.length,vI n7,vS q54 L54.length,vS q57 L57.length,vS u89.p u89.x.items.length,vS u89.q u89.x.floors.length,vS w.p w.l.length])] fun _ _ => ?_
       have hmw := (rdC_mem hOw).2
       have hT' : ∀ g0,msgOk g0 → mgB g0 = l → (⟨n1,n2,n3,n4,n5,⟨⟨q46,L46⟩,n7⟩,⟨q54,L54⟩,⟨q57,L57⟩,u89,w⟩ : MV).x = g0 ∧ bb = false := fun g0 g1 g2 => by
        obtain ⟨⟨z1,z2,z3,z4,z5⟩,⟨z6,z7,z8,z9⟩,_⟩ := hS g0 g1 g2
        obtain ⟨e1,e2,e3,_⟩ := hT g0 g1 g2
        have h89' := h89
        rw [hlp g0 g1 g2] at h89'
        have z10 := (parse_of (msg_sm g1).part h89').2
        have z11 : w.l = g0.marks := by rw [e2]; exact List.take_of_length_le (by omega)
        exact ⟨mg_of z1 z2 z3 z4 z5 z6 z7 z8 z9 z10 z11,e3⟩
       have hbG : bigM (⟨n1,n2,n3,n4,n5,⟨⟨q46,L46⟩,n7⟩,⟨q54,L54⟩,⟨q57,L57⟩,u89,w⟩ : MV).x := ⟨by show L46.length ≤ 1048576; omega,by show L54.length ≤ 1048576; omega,by show L57.length ≤ 1048576; omega,big_ok hu89.1,by show w.l.length ≤ 1048576; omega⟩
       have hGa : FrC st.next s1 st' (pcMV (⟨n1,n2,n3,n4,n5,⟨⟨q46,L46⟩,n7⟩,⟨q54,L54⟩,⟨q57,L57⟩,u89,w⟩ : MV)) := FrC.assocM hG
       have hRG : RdM st' (⟨n1,n2,n3,n4,n5,⟨⟨q46,L46⟩,n7⟩,⟨q54,L54⟩,⟨q57,L57⟩,u89,w⟩ : MV) := hGa.1.rdM
       have hPst : Pres st st' := (hG.out hP1).2.2
       refine cxs ?_
       iterate 2 refine ⟨_,rfl,?_⟩
       refine ⟨_,op_ld rfl rfl rfl rfl hmw rfl,?_⟩
       rcases bb with _|_
       ·refine ⟨_,op_ldo (v := .agg #[vI n1,vI n2,vI n3,vI n4,vI n5,vS q46 L46.length,vI n7,vS q54 L54.length,vS q57 L57.length,vS u89.p u89.x.items.length,vS u89.q u89.x.floors.length,vS w.p w.l.length]) rfl rfl rfl rfl,?_⟩
        refine ⟨_,rfl,(ac_impl_MsgOk (⟨n1,n2,n3,n4,n5,⟨⟨q46,L46⟩,n7⟩,⟨q54,L54⟩,⟨q57,L57⟩,u89,w⟩ : MV) st' hRG hbG).mono ?_⟩
        rintro _ st' ⟨x130,rfl,h130,rfl⟩
        rcases x130 with _|_
        ·replace h130 := fun k => Bool.false_ne_true (h130.2 k)
         iterate 3 refine ⟨_,rfl,?_⟩
         refine Cm gg st' [Ml 2 0,(3,vB false),Ml 6 1,(139,vB true)] [(2,0,[vI 0,vI 0,vI 0,vI 0,vI 0,Sn,vI 0,Sn,Sn,Sn,Sn,Sn]),(6,1,[vI n1,vI n2,vI n3,vI n4,vI n5,vS q46 L46.length,vI n7,vS q54 L54.length,vS q57 L57.length,vS u89.p u89.x.items.length,vS u89.q u89.x.floors.length,vS w.p w.l.length])] fun _ _ => ?_
         refine ⟨_,rfl,?_⟩
         refine ⟨_,op_stw (vs := [vI 0,vI 0,vI 0,vI 0,vI 0,.slice none 0 0,vI 0,.slice none 0 0,.slice none 0 0,.slice none 0 0,.slice none 0 0,.slice none 0 0]) rfl rfl rfl rfl rfl rfl rfl rfl,?_⟩
         exact cxs (Rt ⟨nilMV,false,rfl,parsm_no (fun g0 g1 g2 => h130 ((hT' g0 g1 g2).1 ▸ g1)),pcM_nil,newM_nil,hPst⟩)
        ·replace h130 := h130.1 rfl
         iterate 2 refine ⟨_,rfl,?_⟩
         refine ⟨_,op_ldo (v := .agg #[vI n1,vI n2,vI n3,vI n4,vI n5,vS q46 L46.length,vI n7,vS q54 L54.length,vS q57 L57.length,vS u89.p u89.x.items.length,vS u89.q u89.x.floors.length,vS w.p w.l.length]) rfl rfl rfl rfl,?_⟩
         refine ⟨_,rfl,(ac_impl_MsgBytes (⟨n1,n2,n3,n4,n5,⟨⟨q46,L46⟩,n7⟩,⟨q54,L54⟩,⟨q57,L57⟩,u89,w⟩ : MV) st' hRG hbG).mono ?_⟩
         rintro _ s135 ⟨q135,rfl,hO135,hN135,hP135⟩
         refine ⟨_,rfl,(ac_bytes_Equal q135 p (mgBz (⟨n1,n2,n3,n4,n5,⟨⟨q46,L46⟩,n7⟩,⟨q54,L54⟩,⟨q57,L57⟩,u89,w⟩ : MV).x) l s135 (hO135.rows fB_len) ((hPst.trans hP135).rows hR) (mgBz_pos h130) (by omega) (mgBz_ok _) hl).mono ?_⟩
         rintro _ s135 ⟨x137,rfl,h137,rfl⟩
         rcases x137 with _|_
         ·replace h137 := fun k => Bool.false_ne_true (h137.2 k)
          iterate 2 refine ⟨_,rfl,?_⟩
          refine Cm gg s135 [Ml 2 0,(3,vB false),Ml 6 1,(139,vB true)] [(2,0,[vI 0,vI 0,vI 0,vI 0,vI 0,Sn,vI 0,Sn,Sn,Sn,Sn,Sn]),(6,1,[vI n1,vI n2,vI n3,vI n4,vI n5,vS q46 L46.length,vI n7,vS q54 L54.length,vS q57 L57.length,vS u89.p u89.x.items.length,vS u89.q u89.x.floors.length,vS w.p w.l.length])] fun _ _ => ?_
          refine ⟨_,rfl,?_⟩
          refine ⟨_,op_stw (vs := [vI 0,vI 0,vI 0,vI 0,vI 0,.slice none 0 0,vI 0,.slice none 0 0,.slice none 0 0,.slice none 0 0,.slice none 0 0,.slice none 0 0]) rfl rfl rfl rfl rfl rfl rfl rfl,?_⟩
          exact cxs (Rt ⟨nilMV,false,rfl,parsm_no (fun g0 g1 g2 => h137 (by rw [(hT' g0 g1 g2).1,mgBz,if_pos g1]; exact g2)),pcM_nil,newM_nil,hPst.trans hP135⟩)
         ·replace h137 := h137.1 rfl
          iterate 2 refine ⟨_,rfl,?_⟩
          refine Cm gg s135 [Ml 2 0,(3,vB false),Ml 6 1,(139,vB false)] [(2,0,[vI 0,vI 0,vI 0,vI 0,vI 0,Sn,vI 0,Sn,Sn,Sn,Sn,Sn]),(6,1,[vI n1,vI n2,vI n3,vI n4,vI n5,vS q46 L46.length,vI n7,vS q54 L54.length,vS q57 L57.length,vS u89.p u89.x.items.length,vS u89.q u89.x.floors.length,vS w.p w.l.length])] fun _ _ => ?_
          refine cxs ?_
          refine ⟨_,op_ldo (v := .agg #[vI n1,vI n2,vI n3,vI n4,vI n5,vS q46 L46.length,vI n7,vS q54 L54.length,vS q57 L57.length,vS u89.p u89.x.items.length,vS u89.q u89.x.floors.length,vS w.p w.l.length]) rfl rfl rfl rfl,?_⟩
          refine ⟨_,op_stw (vs := [vI n1,vI n2,vI n3,vI n4,vI n5,vS q46 L46.length,vI n7,vS q54 L54.length,vS q57 L57.length,vS u89.p u89.x.items.length,vS u89.q u89.x.floors.length,vS w.p w.l.length]) rfl rfl rfl rfl rfl rfl rfl rfl,?_⟩
          refine cxs ?_
          have hFin := (hGa.step hP135).out hP1
          have hmb : mgB (⟨n1,n2,n3,n4,n5,⟨⟨q46,L46⟩,n7⟩,⟨q54,L54⟩,⟨q57,L57⟩,u89,w⟩ : MV).x = l := by rw [← h137,mgBz,if_pos h130]
          exact Rt ⟨(⟨n1,n2,n3,n4,n5,⟨⟨q46,L46⟩,n7⟩,⟨q54,L54⟩,⟨q57,L57⟩,u89,w⟩ : MV),true,rfl,parsm_ok h130 hmb (fun g0 g1 g2 => (hT' g0 g1 g2).1),hFin.1,hFin.2.1,hFin.2.2⟩
       ·iterate 2 refine ⟨_,rfl,?_⟩
        refine Cm gg st' [Ml 2 0,(3,vB false),Ml 6 1,(139,vB true)] [(2,0,[vI 0,vI 0,vI 0,vI 0,vI 0,Sn,vI 0,Sn,Sn,Sn,Sn,Sn]),(6,1,[vI n1,vI n2,vI n3,vI n4,vI n5,vS q46 L46.length,vI n7,vS q54 L54.length,vS q57 L57.length,vS u89.p u89.x.items.length,vS u89.q u89.x.floors.length,vS w.p w.l.length])] fun _ _ => ?_
        refine ⟨_,rfl,?_⟩
        refine ⟨_,op_stw (vs := [vI 0,vI 0,vI 0,vI 0,vI 0,.slice none 0 0,vI 0,.slice none 0 0,.slice none 0 0,.slice none 0 0,.slice none 0 0,.slice none 0 0]) rfl rfl rfl rfl rfl rfl rfl rfl,?_⟩
        exact cxs (Rt ⟨nilMV,false,rfl,parsm_no (fun g0 g1 g2 => by cases (hT' g0 g1 g2).2),pcM_nil,newM_nil,hPst⟩)
      ·replace h109 : (j : Int) < n11 := of_decide_eq_true h109
       refine Cm gg st' [(0,vS p l.length),Ml 2 0,(3,vB false),(5,vP st.next 0),Ml 6 1,(107,vI n11),(108,vI (j : Int)),(109,vB true)] [(2,0,[vI 0,vI 0,vI 0,vI 0,vI 0,Sn,vI 0,Sn,Sn,Sn,Sn,Sn]),(6,1,[vI n1,vI n2,vI n3,vI n4,vI n5,vS q46 L46.length,vI n7,vS q54 L54.length,vS q57 L57.length,vS u89.p u89.x.items.length,vS u89.q u89.x.floors.length,vS w.p w.l.length])] fun _ _ => ?_
       refine cxs ?_
       iterate 2 refine ⟨_,rfl,?_⟩
       refine ⟨_,Os rfl,?_⟩
       refine Cm (gg + 1) st' [(0,vS p l.length),Ml 2 0,(3,vB false),(5,vP st.next 0),Ml 6 1,Ml 11 gg,(107,vI n11),(108,vI (j : Int)),(109,vB true)] [(2,0,[vI 0,vI 0,vI 0,vI 0,vI 0,Sn,vI 0,Sn,Sn,Sn,Sn,Sn]),(6,1,[vI n1,vI n2,vI n3,vI n4,vI n5,vS q46 L46.length,vI n7,vS q54 L54.length,vS q57 L57.length,vS u89.p u89.x.items.length,vS u89.q u89.x.floors.length,vS w.p w.l.length]),(11,gg,[vI 0,vI 0])] fun _ _ => ?_
       refine ⟨_,rfl,(ac_impl_num st.next p lw kk bb st' hOw hRv hob hsw hkk).mono ?_⟩
       rintro _ s112 ⟨n12,a12,b12,rfl,h112,hO112,hP112⟩
       refine ⟨_,rfl,?_⟩
       refine ⟨_,Os rfl,?_⟩
       refine Cm (gg + 1) s112 [(0,vS p l.length),Ml 2 0,(3,vB false),(5,vP st.next 0),Ml 6 1,Ml 11 gg,(107,vI n11),(108,vI (j : Int)),(109,vB true)] [(2,0,[vI 0,vI 0,vI 0,vI 0,vI 0,Sn,vI 0,Sn,Sn,Sn,Sn,Sn]),(6,1,[vI n1,vI n2,vI n3,vI n4,vI n5,vS q46 L46.length,vI n7,vS q54 L54.length,vS q57 L57.length,vS u89.p u89.x.items.length,vS u89.q u89.x.floors.length,vS w.p w.l.length]),(11,gg,[vI n12,vI 0])] fun _ _ => ?_
       have hR112 := hP112.rowsD hd hRv
       have hk112 := (rnF_get hob hsw hkk h112).1
       refine ⟨_,rfl,(ac_impl_num st.next p lw a12 b12 s112 hO112 hR112 hob hsw hk112).mono ?_⟩
       rintro _ s115 ⟨n13,a13,b13,rfl,h115,hO115,hP115⟩
       refine ⟨_,rfl,?_⟩
       refine ⟨_,Os rfl,?_⟩
       refine Cm (gg + 1) s115 [(0,vS p l.length),Ml 2 0,(3,vB false),(5,vP st.next 0),Ml 6 1,Ml 11 gg,(107,vI n11),(108,vI (j : Int)),(109,vB true)] [(2,0,[vI 0,vI 0,vI 0,vI 0,vI 0,Sn,vI 0,Sn,Sn,Sn,Sn,Sn]),(6,1,[vI n1,vI n2,vI n3,vI n4,vI n5,vS q46 L46.length,vI n7,vS q54 L54.length,vS q57 L57.length,vS u89.p u89.x.items.length,vS u89.q u89.x.floors.length,vS w.p w.l.length]),(11,gg,[vI n12,vI n13])] fun _ _ => ?_
       have hG115 := hG.later (PresC.of.2 (hP112.trans hP115))
       have hOf : OwnR s115 2 cFlr w.p w.l := own_one (by decide) len_cFlr hG115.1.right
       refine ⟨_,rfl,?_⟩
       refine ⟨_,Od rfl,?_⟩
       refine ⟨_,Od rfl,?_⟩
       refine op_one (z := 2) (a := ((⟨n12,n13⟩ : Flr) : Flr)) (f := cFlr) rfl rfl rfl rfl rfl (by decide) rfl (Lb rfl) rfl rfl rfl ?_
       refine op_snoc (z := 2) (st := s115) (f := cFlr) (b := 16) (l := w.l) (x := (⟨n12,n13⟩ : Flr)) rfl rfl rfl rfl rfl rfl rfl (by decide) len_cFlr rfl rfl rfl (by omega) (by unfold maxLen; omega) hOf ?_
       intro q121 s121 hO121 hP121 hN121
       refine ⟨_,rfl,?_⟩
       refine ⟨_,Os rfl,?_⟩
       refine Cm (gg + 1) s121 [(0,vS p l.length),Ml 2 0,(3,vB false),(5,vP st.next 0),Ml 6 1,Ml 11 gg,(107,vI n11),(108,vI (j : Int)),(109,vB true)] [(2,0,[vI 0,vI 0,vI 0,vI 0,vI 0,Sn,vI 0,Sn,Sn,Sn,Sn,Sn]),(6,1,[vI n1,vI n2,vI n3,vI n4,vI n5,vS q46 L46.length,vI n7,vS q54 L54.length,vS q57 L57.length,vS u89.p u89.x.items.length,vS u89.q u89.x.floors.length,vS q121 (w.l ++ [(⟨n12,n13⟩ : Flr)]).length]),(11,gg,[vI n12,vI n13])] fun _ _ => ?_
       have ew123 : IntKind.wrap .i64 ((j : Int) + (1)) = ((j + 1 : Nat) : Int) := (wrap_i64 (by omega) (by omega)).trans (by omega)
       refine ⟨_,rfl,?_⟩
       have hG121 := hG115.row (A := ((pcIs ⟨q46,L46⟩ ++ (pcIs ⟨q54,L54⟩ ++ pcIs ⟨q57,L57⟩)) ++ pcS u89)) (B := []) (x := pcR 2 cFlr w.p w.l) (y := pcR 2 cFlr q121 (w.l ++ [(⟨n12,n13⟩ : Flr)])) hP121 (own_pc hO121) hN121
       have hNw : New s1.next w.p := hG115.2.1 (pcR 2 cFlr w.p w.l) (List.mem_append_right _ (List.mem_cons_self ..))
       refine ⟨(j + 1,⟨q121,w.l ++ [⟨n12,n13⟩]⟩,a13,b13),n11.toNat - (j + 1),by omega,⟨rfl,rfl,rfl,rfl,rfl,rfl,congrArg (Value.int .i64) ew123,trivial⟩,⟨rfl,rfl,trivial⟩,rfl,by simp only; omega,by simp only [List.length_append,List.length_singleton,hwl],(rnF_get hob hsw hk112 h115).1,fun g0 g1 g2 => ?_,hG121.1,hO115.pr hP121 (Dis.of (Old.some hc1) hNw).symm⟩
       obtain ⟨e1,e2,e3,e4⟩ := hT g0 g1 g2
       have hx : g0.marks[j]? = some g0.marks[j] := List.getElem?_eq_getElem (by omega)
       obtain ⟨r1,r2⟩ := floor_rng (s := ⟨[],g0.marks⟩) ⟨fun j x h => (by simp at h),(msg_rng g1).marks⟩ hx
       rw [flB_cons hx] at e4
       obtain ⟨c1,c2,c3⟩ := e4.num r1 e3 h112
       obtain ⟨d1,d2,d3⟩ := c3.num r2 c2 h115
       refine ⟨e1,?_,d2,d3⟩
       show w.l ++ [_] = _
       rw [List.take_add_one,hx,← e2,c1,d1]; rfl
    ·replace h73 : n10 > (IntKind.wrap .i64 (((l.length : Int) - 4) - a10)) := of_decide_eq_true h73
     rw [ew72] at h73
     refine ⟨_,rfl,?_⟩
     refine Cm 2 s60 [(0,vS p l.length),Ml 2 0,(3,vB false),(5,vP st.next 0),Ml 6 1,(7,vI n10),(74,vB true)] [(2,0,[vI 0,vI 0,vI 0,vI 0,vI 0,Sn,vI 0,Sn,Sn,Sn,Sn,Sn]),(6,1,[vI n1,vI n2,vI n3,vI n4,vI n5,vS q46 L46.length,vI n7,vS q54 L54.length,vS q57 L57.length,Sn,Sn,Sn])] fun _ _ => ?_
     refine ⟨_,rfl,?_⟩
     refine ⟨_,op_stw (vs := [vI 0,vI 0,vI 0,vI 0,vI 0,.slice none 0 0,vI 0,.slice none 0 0,.slice none 0 0,.slice none 0 0,.slice none 0 0,.slice none 0 0]) rfl rfl rfl rfl rfl rfl rfl rfl,?_⟩
     refine cxs ?_
     exact ⟨.inl rfl,_,rfl,nilMV,false,rfl,parsm_no (fun g0 g1 g2 => by
      obtain ⟨_,_,e,_,k,e1,e2,e3⟩ := hS g0 g1 g2
      have := congrArg List.length e3
      rw [List.length_drop,List.length_append] at this
      omega),pcM_nil,newM_nil,hPall⟩
   ·refine ⟨_,rfl,?_⟩
    refine Cm 2 s60 [(0,vS p l.length),Ml 2 0,(3,vB false),(5,vP st.next 0),Ml 6 1,(7,vI n10),(74,vB true)] [(2,0,[vI 0,vI 0,vI 0,vI 0,vI 0,Sn,vI 0,Sn,Sn,Sn,Sn,Sn]),(6,1,[vI n1,vI n2,vI n3,vI n4,vI n5,vS q46 L46.length,vI n7,vS q54 L54.length,vS q57 L57.length,Sn,Sn,Sn])] fun _ _ => ?_
    refine ⟨_,rfl,?_⟩
    refine ⟨_,op_stw (vs := [vI 0,vI 0,vI 0,vI 0,vI 0,.slice none 0 0,vI 0,.slice none 0 0,.slice none 0 0,.slice none 0 0,.slice none 0 0,.slice none 0 0]) rfl rfl rfl rfl rfl rfl rfl rfl,?_⟩
    exact cxs (Rt ⟨nilMV,false,rfl,parsm_no (fun g0 g1 g2 => by cases (hS g0 g1 g2).2.2.2.1),pcM_nil,newM_nil,hPall⟩)
  ·replace h21 : ¬ ((toB (l.take 2)) = ⟨#[82,75]⟩) := str_ne h21
   refine ⟨_,rfl,?_⟩
   refine Cm 1 st [(0,vS p l.length),Ml 2 0,(3,vB false),(4,vI ((l.length : Int) - 4)),(22,vB true)] [(2,0,[vI 0,vI 0,vI 0,vI 0,vI 0,Sn,vI 0,Sn,Sn,Sn,Sn,Sn])] fun _ _ => ?_
   refine ⟨_,rfl,?_⟩
   refine ⟨_,op_stw (vs := [vI 0,vI 0,vI 0,vI 0,vI 0,.slice none 0 0,vI 0,.slice none 0 0,.slice none 0 0,.slice none 0 0,.slice none 0 0,.slice none 0 0]) rfl rfl rfl rfl rfl rfl rfl rfl,?_⟩
   exact cxs (Rt ⟨nilMV,false,rfl,parsm_no (fun g0 g1 g2 => h21 (by rw [(mg_cut g2).2.2.2]; rfl)),pcM_nil,newM_nil,Pres.refl _⟩)
 ·replace h16 : ((l.length : Int) - 4) < (2) := of_decide_eq_true h16
  refine ⟨_,rfl,?_⟩
  refine Cm 1 st [(0,vS p l.length),Ml 2 0,(3,vB false),(4,vI ((l.length : Int) - 4)),(22,vB true)] [(2,0,[vI 0,vI 0,vI 0,vI 0,vI 0,Sn,vI 0,Sn,Sn,Sn,Sn,Sn])] fun _ _ => ?_
  refine ⟨_,rfl,?_⟩
  refine ⟨_,op_stw (vs := [vI 0,vI 0,vI 0,vI 0,vI 0,.slice none 0 0,vI 0,.slice none 0 0,.slice none 0 0,.slice none 0 0,.slice none 0 0,.slice none 0 0]) rfl rfl rfl rfl rfl rfl rfl rfl,?_⟩
  exact cxs (Rt ⟨nilMV,false,rfl,parsm_no (fun g0 g1 g2 => by have := (mg_cut g2).2.2.1; omega),pcM_nil,newM_nil,Pres.refl _⟩)
theorem parse_bg {u : Sta} {b : Bool} {l : List Int} (h : (u,b) = parseS l) : bigS u := by
 cases b with
 | true => exact big_ok (parse_yes h).1
 | false =>
  unfold parseS at h
  split at h
  ·injection h with _ h; cases h
  ·injection h with h _; rw [h]; exact bigS_nil
theorem ac_spec_MsgOf (p : Option Addr) (l : List Int) (st : St) (hR : Rows st 1 fB p l) (hl : bytesOk l) (hs : l.length ≤ 1048576) : C 63 [vS p l.length] st (fun v s => ∃ (u : MV) (b : Bool),v = .tuple #[.agg #[vI u.kind,vI u.frm,vI u.to,vI u.num,vI u.hi,vS u.tree.p u.tree.l.length,vI u.tree.root,vS u.vec.p u.vec.l.length,vS u.leaves.p u.leaves.l.length,vS u.part.p u.part.x.items.length,vS u.part.q u.part.x.floors.length,vS u.marks.p u.marks.l.length],vB b] ∧ (u.x,b) = parseM l ∧ OwnP s (pcMV u) ∧ NewP st.next (pcMV u) ∧ Pres st s) := by
 obtain ⟨lw,hlw⟩ : ∃ x,x = l.take (l.length - 4) := ⟨_,rfl⟩
 have hll : lw.length = l.length - 4 := by rw [hlw,List.length_take]; omega
 have hRw : Rows st 1 fB p lw := hlw ▸ hR.take _
 have hob : bytesOk lw := fun x hx => hl x (List.mem_of_mem_take (hlw ▸ hx))
 have hsw : lw.length ≤ 1099511627776 := by omega
 have hRe : Rows st 1 fB (shO p 1 (l.length - 4)) (l.drop (l.length - 4)) := hR.sh _
 have h4 : (crcB lw).length = 4 := rfl
 refine AC.enterX (i := ⟨[2,5,7],[2,5,7,41,44,47,50,53,56,57,60,61,64,67,109,128,142],[0,2,3,4,5,6,7,8,9,10,29,87,125,163],[]⟩) [(1,[9],[16]),(15,[],[]),(17,[],[3,7,11]),(24,[12],[1]),(25,[15],[18])] Try.func63 rfl rfl (by kernel_rfl) (by kernel_rfl) Try.ntmps63 (Lb rfl) rfl ?_
 refine ⟨_,rfl,?_⟩
 refine Cm 1 st [(0,vS p l.length),Ml 2 0,(3,vB false)] [(2,0,[vI 0,vI 0,vI 0,vI 0,vI 0,Sn,vI 0,Sn,Sn,Sn,Sn,Sn])] fun _ _ => ?_
 iterate 2 refine ⟨_,rfl,?_⟩
 rintro (_|_) h13
 ·replace h13 : ¬ ((l.length : Int) < (6)) := of_decide_eq_false h13
  refine ⟨_,rfl,?_⟩
  have ew18 : IntKind.wrap .i64 ((l.length : Int) - (4)) = (l.length : Int) - (4) := wrap_i64 (by omega) (by omega)
  refine ⟨_,rfl,?_⟩
  refine ⟨_,op_slH (j := lw.length) rfl rfl rfl (by rw [ew18]; omega) rfl rfl (by omega),?_⟩
  refine ⟨_,rfl,(ac_spec_l10Sum p lw st hRw hob hsw).mono ?_⟩
  rintro _ s20 ⟨q20,rfl,hO20,hN20,hP20⟩
  refine ⟨hP20.2,?_⟩
  refine ⟨_,op_strW (l := crcB lw) rfl rfl rfl rfl rfl rfl (hO20.rows fB_len) (by rw [h4]; decide),?_⟩
  refine ⟨_,rfl,?_⟩
  have ew25 : IntKind.wrap .i64 ((l.length : Int) - (4)) = (l.length : Int) - (4) := wrap_i64 (by omega) (by omega)
  refine ⟨_,rfl,?_⟩
  refine ⟨_,op_drop l (l.length - 4) rfl rfl rfl rfl rfl rfl (by rw [ew25]; omega) (by omega),?_⟩
  have hpos : 0 < (l.drop (l.length - 4)).length := by rw [List.length_drop]; omega
  refine ⟨_,op_strW (l := l.drop (l.length - 4)) rfl rfl rfl rfl rfl rfl (hP20.rows hRe) hpos,?_⟩
  refine ⟨ld_str rfl rfl (rows_lt hRe hpos),?_⟩
  refine ⟨_,rfl,?_⟩
  rintro (_|_) h28
  ·replace h28 : (toB (crcB lw)) = (toB (l.drop (l.length - 4))) := str_eq h28
   refine ⟨_,rfl,?_⟩
   refine Cm 1 s20 [(0,vS p l.length),Ml 2 0,(3,vB false),(29,vB false)] [(2,0,[vI 0,vI 0,vI 0,vI 0,vI 0,Sn,vI 0,Sn,Sn,Sn,Sn,Sn])] fun _ _ => ?_
   refine cxs ?_
   refine ⟨_,rfl,?_⟩
   have ew34 : IntKind.wrap .i64 ((l.length : Int) - (4)) = (l.length : Int) - (4) := wrap_i64 (by omega) (by omega)
   refine ⟨_,rfl,?_⟩
   refine ⟨_,op_slH (j := lw.length) rfl rfl rfl (by rw [ew34]; omega) rfl rfl (by omega),?_⟩
   refine ⟨_,rfl,?_⟩
   refine ⟨_,rfl,?_⟩
   refine Cm 1 (s20.push 0 [vS p lw.length,vI 2,vB false]) [(0,vS p l.length),Ml 2 0,(3,vB false),(4,vP s20.next 0)] [(2,0,[vI 0,vI 0,vI 0,vI 0,vI 0,Sn,vI 0,Sn,Sn,Sn,Sn,Sn])] fun _ _ => ?_
   have hO1 : (rdC s20.next p lw 2 false).own (s20.push 0 [vS p lw.length,vI 2,vB false]) := .inr ⟨s20.next,rfl,Nat.lt_succ_self _,if_pos rfl⟩
   have hP1 : Pres s20 (s20.push 0 [vS p lw.length,vI 2,vB false]) := Pres.push
   have hc1 : s20.next < (s20.push 0 [vS p lw.length,vI 2,vB false]).next := Nat.lt_succ_self _
   obtain ⟨s1,hs1⟩ : ∃ s,s = s20.push 0 [vS p lw.length,vI 2,vB false] := ⟨_,rfl⟩
   rw [← hs1] at hO1 hP1 hc1 ⊢
   have hRw2 := hP20.rows hRw
   have hd := DisR.new hRw2
   have hR1 := hP1.rows hRw2
   iterate 2 refine ⟨_,rfl,?_⟩
   refine ⟨_,op_stw (vs := [vI 0,vI 0,vI 0,vI 0,vI 0,.slice none 0 0,vI 0,.slice none 0 0,.slice none 0 0,.slice none 0 0,.slice none 0 0,.slice none 0 0]) rfl rfl rfl rfl rfl rfl rfl rfl,?_⟩
   refine Cm 2 s1 [(0,vS p l.length),Ml 2 0,(3,vB false),(4,vP s20.next 0),Ml 5 1] [(2,0,[vI 0,vI 0,vI 0,vI 0,vI 0,Sn,vI 0,Sn,Sn,Sn,Sn,Sn]),(5,1,[vI 0,vI 0,vI 0,vI 0,vI 0,Sn,vI 0,Sn,Sn,Sn,Sn,Sn])] fun _ _ => ?_
   refine ⟨_,rfl,(ac_spec_num s20.next p lw 2 false s1 hO1 hR1 hob hsw (by decide)).mono ?_⟩
   rintro _ s40 ⟨n1,a1,b1,rfl,h40,hO40,hP40⟩
   refine ⟨_,rfl,?_⟩
   refine ⟨_,Os rfl,?_⟩
   refine Cm 2 s40 [(0,vS p l.length),Ml 2 0,(3,vB false),(4,vP s20.next 0),Ml 5 1] [(2,0,[vI 0,vI 0,vI 0,vI 0,vI 0,Sn,vI 0,Sn,Sn,Sn,Sn,Sn]),(5,1,[vI n1,vI 0,vI 0,vI 0,vI 0,Sn,vI 0,Sn,Sn,Sn,Sn,Sn])] fun _ _ => ?_
   have hR40 := hP40.rowsD hd hR1
   have hk40 := (rnF_get hob hsw (by decide) h40).1
   refine ⟨_,rfl,(ac_spec_num s20.next p lw a1 b1 s40 hO40 hR40 hob hsw hk40).mono ?_⟩
   rintro _ s43 ⟨n2,a2,b2,rfl,h43,hO43,hP43⟩
   refine ⟨_,rfl,?_⟩
   refine ⟨_,Os rfl,?_⟩
   refine Cm 2 s43 [(0,vS p l.length),Ml 2 0,(3,vB false),(4,vP s20.next 0),Ml 5 1] [(2,0,[vI 0,vI 0,vI 0,vI 0,vI 0,Sn,vI 0,Sn,Sn,Sn,Sn,Sn]),(5,1,[vI n1,vI n2,vI 0,vI 0,vI 0,Sn,vI 0,Sn,Sn,Sn,Sn,Sn])] fun _ _ => ?_
   have hR43 := hP43.rowsD hd hR40
   have hk43 := (rnF_get hob hsw hk40 h43).1
   refine ⟨_,rfl,(ac_spec_num s20.next p lw a2 b2 s43 hO43 hR43 hob hsw hk43).mono ?_⟩
   rintro _ s46 ⟨n3,a3,b3,rfl,h46,hO46,hP46⟩
   refine ⟨_,rfl,?_⟩
   refine ⟨_,Os rfl,?_⟩
   refine Cm 2 s46 [(0,vS p l.length),Ml 2 0,(3,vB false),(4,vP s20.next 0),Ml 5 1] [(2,0,[vI 0,vI 0,vI 0,vI 0,vI 0,Sn,vI 0,Sn,Sn,Sn,Sn,Sn]),(5,1,[vI n1,vI n2,vI n3,vI 0,vI 0,Sn,vI 0,Sn,Sn,Sn,Sn,Sn])] fun _ _ => ?_
   have hR46 := hP46.rowsD hd hR43
   have hk46 := (rnF_get hob hsw hk43 h46).1
   refine ⟨_,rfl,(ac_spec_num s20.next p lw a3 b3 s46 hO46 hR46 hob hsw hk46).mono ?_⟩
   rintro _ s49 ⟨n4,a4,b4,rfl,h49,hO49,hP49⟩
   refine ⟨_,rfl,?_⟩
   refine ⟨_,Os rfl,?_⟩
   refine Cm 2 s49 [(0,vS p l.length),Ml 2 0,(3,vB false),(4,vP s20.next 0),Ml 5 1] [(2,0,[vI 0,vI 0,vI 0,vI 0,vI 0,Sn,vI 0,Sn,Sn,Sn,Sn,Sn]),(5,1,[vI n1,vI n2,vI n3,vI n4,vI 0,Sn,vI 0,Sn,Sn,Sn,Sn,Sn])] fun _ _ => ?_
   have hR49 := hP49.rowsD hd hR46
   have hk49 := (rnF_get hob hsw hk46 h49).1
   refine ⟨_,rfl,(ac_spec_num s20.next p lw a4 b4 s49 hO49 hR49 hob hsw hk49).mono ?_⟩
   rintro _ s52 ⟨n5,a5,b5,rfl,h52,hO52,hP52⟩
   refine ⟨_,rfl,?_⟩
   refine ⟨_,Os rfl,?_⟩
   refine Cm 2 s52 [(0,vS p l.length),Ml 2 0,(3,vB false),(4,vP s20.next 0),Ml 5 1] [(2,0,[vI 0,vI 0,vI 0,vI 0,vI 0,Sn,vI 0,Sn,Sn,Sn,Sn,Sn]),(5,1,[vI n1,vI n2,vI n3,vI n4,vI n5,Sn,vI 0,Sn,Sn,Sn,Sn,Sn])] fun _ _ => ?_
   have hR52 := hP52.rowsD hd hR49
   have hk52 := (rnF_get hob hsw hk49 h52).1
   refine ⟨_,rfl,(ac_spec_l10Many s20.next p lw a5 b5 1 s52 hO52 hR52 hd hob hsw hk52 (.inl rfl)).mono ?_⟩
   rintro _ s55 ⟨q55,L55,a6,b6,rfl,hl55,hk55,hv55,h55,hQ55,hN55,hO55,hP55⟩
   iterate 2 refine ⟨_,rfl,?_⟩
   refine ⟨_,Os rfl,?_⟩
   refine Cm 2 s55 [(0,vS p l.length),Ml 2 0,(3,vB false),(4,vP s20.next 0),Ml 5 1] [(2,0,[vI 0,vI 0,vI 0,vI 0,vI 0,Sn,vI 0,Sn,Sn,Sn,Sn,Sn]),(5,1,[vI n1,vI n2,vI n3,vI n4,vI n5,vS q55 L55.length,vI 0,Sn,Sn,Sn,Sn,Sn])] fun _ _ => ?_
   have hR55 := hP55.rowsD hd hR52
   refine ⟨_,rfl,(ac_spec_num s20.next p lw a6 b6 s55 hO55 hR55 hob hsw hk55).mono ?_⟩
   rintro _ s59 ⟨n7,a7,b7,rfl,h59,hO59,hP59⟩
   iterate 2 refine ⟨_,rfl,?_⟩
   refine ⟨_,Os rfl,?_⟩
   refine Cm 2 s59 [(0,vS p l.length),Ml 2 0,(3,vB false),(4,vP s20.next 0),Ml 5 1] [(2,0,[vI 0,vI 0,vI 0,vI 0,vI 0,Sn,vI 0,Sn,Sn,Sn,Sn,Sn]),(5,1,[vI n1,vI n2,vI n3,vI n4,vI n5,vS q55 L55.length,vI n7,Sn,Sn,Sn,Sn,Sn])] fun _ _ => ?_
   have hR59 := hP59.rowsD hd hR55
   have hk59 := (rnF_get hob hsw hk55 h59).1
   refine ⟨_,rfl,(ac_spec_l10Many s20.next p lw a7 b7 1 s59 hO59 hR59 hd hob hsw hk59 (.inl rfl)).mono ?_⟩
   rintro _ s63 ⟨q63,L63,a8,b8,rfl,hl63,hk63,hv63,h63,hQ63,hN63,hO63,hP63⟩
   refine ⟨_,rfl,?_⟩
   refine ⟨_,Os rfl,?_⟩
   refine Cm 2 s63 [(0,vS p l.length),Ml 2 0,(3,vB false),(4,vP s20.next 0),Ml 5 1] [(2,0,[vI 0,vI 0,vI 0,vI 0,vI 0,Sn,vI 0,Sn,Sn,Sn,Sn,Sn]),(5,1,[vI n1,vI n2,vI n3,vI n4,vI n5,vS q55 L55.length,vI n7,vS q63 L63.length,Sn,Sn,Sn,Sn])] fun _ _ => ?_
   have hR63 := hP63.rowsD hd hR59
   refine ⟨_,rfl,(ac_spec_l10Many s20.next p lw a8 b8 1 s63 hO63 hR63 hd hob hsw hk63 (.inl rfl)).mono ?_⟩
   rintro _ s66 ⟨q66,L66,a9,b9,rfl,hl66,hk66,hv66,h66,hQ66,hN66,hO66,hP66⟩
   refine ⟨_,rfl,?_⟩
   refine ⟨_,Os rfl,?_⟩
   refine Cm 2 s66 [(0,vS p l.length),Ml 2 0,(3,vB false),(4,vP s20.next 0),Ml 5 1] [(2,0,[vI 0,vI 0,vI 0,vI 0,vI 0,Sn,vI 0,Sn,Sn,Sn,Sn,Sn]),(5,1,[vI n1,vI n2,vI n3,vI n4,vI n5,vS q55 L55.length,vI n7,vS q63 L63.length,vS q66 L66.length,Sn,Sn,Sn])] fun _ _ => ?_
   have hR66 := hP66.rowsD hd hR63
   refine ⟨_,rfl,(ac_spec_num s20.next p lw a9 b9 s66 hO66 hR66 hob hsw hk66).mono ?_⟩
   rintro _ s69 ⟨n10,a10,b10,rfl,h69,hO69,hP69⟩
   refine Cm 2 s69 [(0,vS p l.length),Ml 2 0,(3,vB false),(4,vP s20.next 0),Ml 5 1,(6,vI n10)] [(2,0,[vI 0,vI 0,vI 0,vI 0,vI 0,Sn,vI 0,Sn,Sn,Sn,Sn,Sn]),(5,1,[vI n1,vI n2,vI n3,vI n4,vI n5,vS q55 L55.length,vI n7,vS q63 L63.length,vS q66 L66.length,Sn,Sn,Sn])] fun _ _ => ?_
   have hR69 := hP69.rowsD hd hR66
   have hk69 := (rnF_get hob hsw hk66 h69).1
   have hP52' : PresC s20.next s1 s52 := PresC.of.2 ((((hP40.trans hP43).trans hP46).trans hP49).trans hP52)
   have hc52 : s20.next < s52.next := Nat.lt_of_lt_of_le hc1 hP52'.1
   have hc59 : s20.next < s59.next := Nat.lt_of_lt_of_le hc52 (hP55.trans hP59).1
   have hF66 := (((FrC.nums hQ55 hN55 hP55 hc52).later (PresC.of.2 hP59)).join ((FrC.nums hQ63 hN63 hP63 hc59).join (FrC.nums hQ66 hN66 hP66 (Nat.lt_of_lt_of_le hc59 hP63.1)))).sooner hP52' hc1
   have hF69 := hF66.later (PresC.of.2 hP69)
   have hmem := (rdC_mem hO69).2
   have hmlt := (rdC_mem hO69).1
   have hPall : Pres st s69 := hP20.trans (hF69.out hP1).2.2
   have hS : ∀ g0,msgOk g0 → mgB g0 = l → (n1 = g0.kind ∧ n2 = g0.frm ∧ n3 = g0.to ∧ n4 = g0.num ∧ n5 = g0.hi) ∧ (L55 = g0.tree.leaves ∧ n7 = g0.tree.root ∧ L63 = g0.vec ∧ L66 = g0.leaves) ∧ n10 = ((stB g0.part).length : Int) ∧ b10 = false ∧ Sf lw a10 (stB g0.part ++ (putN (g0.marks.length : Int) ++ flsB g0.marks)) := fun g0 g1 g2 => by
    have hr := msg_rng g1
    have hm := msg_sm g1
    have m1 := hm.tree
    have m2 := hm.vec
    have m3 := hm.leaves
    have x0 : Sf lw 2 (mgR g0) := hlw ▸ mg_Sf g2
    unfold mgR at x0
    obtain ⟨e1,f1,x1⟩ := x0.num hr.kind rfl h40
    obtain ⟨e2,f2,x2⟩ := x1.num hr.frm f1 h43
    obtain ⟨e3,f3,x3⟩ := x2.num hr.to f2 h46
    obtain ⟨e4,f4,x4⟩ := x3.num hr.num f3 h49
    obtain ⟨e5,f5,x5⟩ := x4.num hr.hi f4 h52
    obtain ⟨e6,f6,x6⟩ := h55 f5 _ _ _ hr.tree (Int.mul_one _).symm (by omega) (by omega) x5
    obtain ⟨e7,f7,x7⟩ := x6.num hr.root f6 h59
    obtain ⟨e8,f8,x8⟩ := h63 f7 _ _ _ hr.vec (Int.mul_one _).symm (by omega) (by omega) x7
    obtain ⟨e9,f9,x9⟩ := h66 f8 _ _ _ hr.leaves (Int.mul_one _).symm (by omega) (by omega) x8
    obtain ⟨e10,f10,x10⟩ := x9.num hr.size f9 h69
    exact ⟨⟨e1,e2,e3,e4,e5⟩,⟨e6,e7,e8,e9⟩,e10,f10,x10⟩
   iterate 2 refine ⟨_,rfl,?_⟩
   refine ⟨_,op_ld rfl rfl rfl rfl hmem rfl,?_⟩
   rcases b10 with _|_
   ·iterate 2 refine ⟨_,rfl,?_⟩
    refine ⟨_,op_ld rfl rfl rfl rfl hmem rfl,?_⟩
    iterate 3 refine ⟨_,rfl,?_⟩
    refine ⟨_,op_ld rfl rfl rfl rfl hmem rfl,?_⟩
    have hrk := rnF_ok hob h69
    have ew85 : IntKind.wrap .i64 ((lw.length : Int) - a10) = (lw.length : Int) - a10 := wrap_i64 (by omega) (by omega)
    iterate 2 refine ⟨_,rfl,?_⟩
    rintro (_|_) h86
    ·replace h86 : ¬ (n10 > (IntKind.wrap .i64 ((lw.length : Int) - a10))) := of_decide_eq_false h86
     rw [ew85] at h86
     refine ⟨_,rfl,?_⟩
     refine Cm 2 s69 [(0,vS p l.length),Ml 2 0,(3,vB false),(4,vP s20.next 0),Ml 5 1,(6,vI n10),(87,vB false)] [(2,0,[vI 0,vI 0,vI 0,vI 0,vI 0,Sn,vI 0,Sn,Sn,Sn,Sn,Sn]),(5,1,[vI n1,vI n2,vI n3,vI n4,vI n5,vS q55 L55.length,vI n7,vS q63 L63.length,vS q66 L66.length,Sn,Sn,Sn])] fun _ _ => ?_
     obtain ⟨q1,q2,q3,q4,q5⟩ := rnF_ok hob h69
     obtain ⟨sn,hsn⟩ := Int.eq_ofNat_of_zero_le q1
     obtain ⟨kn,hkn⟩ := Int.eq_ofNat_of_zero_le (show 0 ≤ a10 by omega)
     have hsk : kn + sn ≤ lw.length := by omega
     have hobp : bytesOk ((lw.drop kn).take sn) := fun x hx => hob x (List.mem_of_mem_drop (List.mem_of_mem_take hx))
     have hlpl : ((lw.drop kn).take sn).length ≤ 1048576 := by rw [List.length_take,List.length_drop]; omega
     have hRlp : Rows s69 1 fB (shO p 1 kn) ((lw.drop kn).take sn) := (hR69.sh kn).take sn
     have hlp : ∀ g0,msgOk g0 → mgB g0 = l → (lw.drop kn).take sn = stB g0.part := fun g0 g1 g2 => by
      obtain ⟨_,_,e,_,k,e1,e2,e3⟩ := hS g0 g1 g2
      obtain rfl : k = kn := by omega
      obtain rfl : sn = (stB g0.part).length := by omega
      rw [e3,List.take_left]
     refine cxs ?_
     iterate 2 refine ⟨_,rfl,?_⟩
     refine ⟨_,op_ld rfl rfl rfl rfl hmem rfl,?_⟩
     refine ⟨ld_lt rfl rfl hmlt,?_⟩
     iterate 2 refine ⟨_,rfl,?_⟩
     refine ⟨_,op_ld rfl rfl rfl rfl hmem rfl,?_⟩
     refine ⟨ld_lt rfl rfl hmlt,?_⟩
     iterate 2 refine ⟨_,rfl,?_⟩
     refine ⟨_,op_ld rfl rfl rfl rfl hmem rfl,?_⟩
     refine ⟨ld_lt rfl rfl hmlt,?_⟩
     have ew103 : IntKind.wrap .i64 (a10 + n10) = a10 + n10 := wrap_i64 (by omega) (by omega)
     refine ⟨_,rfl,?_⟩
     refine ⟨_,op_sl3L lw kn sn rfl rfl rfl rfl hkn (by rw [ew103]; omega) rfl rfl (by omega),?_⟩
     refine ⟨_,rfl,(ac_spec_StateOf (shO p 1 kn) ((lw.drop kn).take sn) s69 hRlp hobp hlpl).mono ?_⟩
     rintro _ s105 ⟨u105,b105,rfl,h105,hO105,hN105,hP105⟩
     iterate 3 refine ⟨_,rfl,?_⟩
     refine ⟨_,Os rfl,?_⟩
     refine Cm 3 s105 [(0,vS p l.length),Ml 2 0,(3,vB false),(4,vP s20.next 0),Ml 5 1,(6,vI n10),Ml 7 2,(8,vB b105)] [(2,0,[vI 0,vI 0,vI 0,vI 0,vI 0,Sn,vI 0,Sn,Sn,Sn,Sn,Sn]),(5,1,[vI n1,vI n2,vI n3,vI n4,vI n5,vS q55 L55.length,vI n7,vS q63 L63.length,vS q66 L66.length,Sn,Sn,Sn]),(7,2,cSV u105)] fun _ _ => ?_
     have hF105 := hF69.add ⟨hO105,hN105,hP105⟩
     have hO105r : (rdC s20.next p lw a10 false).own s105 := hO69.pres hP105
     have hm105 := (rdC_mem hO105r).2
     have hsz : n10 ≤ 2147483647 := q2
     have ha10 : 0 ≤ a10 ∧ a10 + n10 ≤ lw.length := by omega
     refine ⟨_,Od rfl,?_⟩
     refine ⟨_,rfl,?_⟩
     refine ⟨_,Os rfl,?_⟩
     refine Cm 3 s105 [(0,vS p l.length),Ml 2 0,(3,vB false),(4,vP s20.next 0),Ml 5 1,(6,vI n10),(8,vB b105)] [(2,0,[vI 0,vI 0,vI 0,vI 0,vI 0,Sn,vI 0,Sn,Sn,Sn,Sn,Sn]),(5,1,[vI n1,vI n2,vI n3,vI n4,vI n5,vS q55 L55.length,vI n7,vS q63 L63.length,vS q66 L66.length,vS u105.p u105.x.items.length,vS u105.q u105.x.floors.length,Sn])] fun _ _ => ?_
     iterate 2 refine ⟨_,rfl,?_⟩
     refine ⟨_,op_ld rfl rfl rfl rfl hm105 rfl,?_⟩
     have ew116 : IntKind.wrap .i64 (a10 + n10) = a10 + n10 := wrap_i64 (by omega) (by omega)
     iterate 3 refine ⟨_,rfl,?_⟩
     refine op_stO (z := 0) (c := s20.next) (off := 1) rfl rfl rfl rfl rfl rfl hO105r (by simp) ?_
     intro s116 hO116 hP116 hn116
     refine Cm 3 s116 [(0,vS p l.length),Ml 2 0,(3,vB false),(4,vP s20.next 0),Ml 5 1,(8,vB b105)] [(2,0,[vI 0,vI 0,vI 0,vI 0,vI 0,Sn,vI 0,Sn,Sn,Sn,Sn,Sn]),(5,1,[vI n1,vI n2,vI n3,vI n4,vI n5,vS q55 L55.length,vI n7,vS q63 L63.length,vS q66 L66.length,vS u105.p u105.x.items.length,vS u105.q u105.x.floors.length,Sn])] fun _ _ => ?_
     have hO116 : (rdC s20.next p lw (a10 + n10) false).own s116 := by rw [← ew116]; exact hO116
     have hk116 : a10 + n10 ≤ 1099511627776 := by omega
     have hF116 := hF105.later (PresC.of.2 hP116)
     have hR116 := hP116.rowsD hd (hP105.rows hR69)
     refine ⟨_,rfl,(ac_spec_l10Many s20.next p lw (a10 + n10) false 2 s116 hO116 hR116 hd hob hsw hk116 (.inr rfl)).mono ?_⟩
     rintro _ s120 ⟨q120,L120,a11,b11,rfl,hl120,hk120,hv120,h120,hQ120,hN120,hO120,hP120⟩
     refine cxs ?_
     have hFc := hF116.later (PresC.of.2 hP120)
     have hF120 := hFc.join (FrC.nilI hFc.lt)
     have hS2 : ∀ g0,msgOk g0 → mgB g0 = l → L120 = flL g0.marks ∧ b11 = false := fun g0 g1 g2 => by
      obtain ⟨_,_,e,_,k,e1,e2,e3⟩ := hS g0 g1 g2
      have x1 := Sf.next e2 e3
      rw [← e1,← e] at x1
      have := (msg_sm g1).marks
      have x2 : Sf lw (a10 + n10) (putN (g0.marks.length : Int) ++ (numsB (flL g0.marks) ++ [])) := by rw [List.append_nil,flL_B]; exact x1
      obtain ⟨c1,c2,c3⟩ := h120 rfl _ _ _ (flL_rng (msg_rng g1).marks) (by rw [flL_len]; omega) (by omega) (by omega) x2
      exact ⟨c1,c2⟩
     refine Cm 3 s120 [(0,vS p l.length),Ml 2 0,(3,vB false),(4,vP s20.next 0),Ml 5 1,(8,vB b105),(9,vS q120 L120.length),(10,vI 0)] [(2,0,[vI 0,vI 0,vI 0,vI 0,vI 0,Sn,vI 0,Sn,Sn,Sn,Sn,Sn]),(5,1,[vI n1,vI n2,vI n3,vI n4,vI n5,vS q55 L55.length,vI n7,vS q63 L63.length,vS q66 L66.length,vS u105.p u105.x.items.length,vS u105.q u105.x.floors.length,Sn])] fun _ _ => ?_
     refine AW.loopM (fun x : Nat × FV => [(0,vS p l.length),(2,vL 2 0 (0)),(3,vB false),(4,vP s20.next 0),(5,vL 5 0 (1)),(8,vB b105),(9,vS q120 L120.length),(10,vI ((2 * x.1 : Nat) : Int))]) (fun x : Nat × FV => [(2,0,[vI 0,vI 0,vI 0,vI 0,vI 0,.slice none 0 0,vI 0,.slice none 0 0,.slice none 0 0,.slice none 0 0,.slice none 0 0,.slice none 0 0]),(5,1,[vI n1,vI n2,vI n3,vI n4,vI n5,vS q55 L55.length,vI n7,vS q63 L63.length,vS q66 L66.length,vS u105.p u105.x.items.length,vS u105.q u105.x.floors.length,vS x.2.p x.2.l.length])]) (fun m (x : Nat × FV) st' => m = 200 - x.1 ∧ 2 * x.1 ≤ L120.length ∧ x.2.l.length = x.1 ∧ (∀ g0,msgOk g0 → mgB g0 = l → x.2.l = g0.marks.take x.1) ∧ FrC s20.next s1 st' (((pcIs ⟨q55,L55⟩ ++ (pcIs ⟨q63,L63⟩ ++ pcIs ⟨q66,L66⟩)) ++ pcS u105) ++ pcFV x.2) ∧ (OwnR st' 1 fI q120 L120 ∧ Dis x.2.p q120) ∧ (rdC s20.next p lw a11 b11).own st') (0,⟨none,[]⟩) _ ⟨rfl,rfl,rfl,rfl,rfl,rfl,rfl,rfl,trivial⟩ ⟨rfl,rfl,trivial⟩ ⟨rfl,Nat.zero_le _,rfl,fun _ _ _ => rfl,hF120,⟨hQ120,fun x y hx _ => (by cases hx)⟩,hO120⟩ ?_
     rintro m ⟨j,w⟩ ρ0 ff gg st' ⟨rfl,hj,hwl,hT,hG,⟨hQo,hDq⟩,hOw⟩
     simp only at hj hwl hT hG hQo hDq hOw
     have hQw : Rows st' 1 fI q120 L120 := hQo.rows fI_len
     have hPst : Pres st st' := hP20.trans (hG.out hP1).2.2
     have ew122 : IntKind.wrap .i64 (((2 * j : Nat) : Int) + (1)) = ((2 * j + 1 : Nat) : Int) := (wrap_i64 (by omega) (by omega)).trans (by omega)
     iterate 3 refine ⟨_,rfl,?_⟩
     rintro (_|_) h125
     ·replace h125 : ¬ ((IntKind.wrap .i64 (((2 * j : Nat) : Int) + (1))) < (L120.length : Int)) := of_decide_eq_false h125
      rw [ew122] at h125
      refine Cm gg st' [(0,vS p l.length),Ml 2 0,(3,vB false),(4,vP s20.next 0),Ml 5 1,(8,vB b105),(9,vS q120 L120.length),(10,vI ((2 * j : Nat) : Int)),(125,vB false)] [(2,0,[vI 0,vI 0,vI 0,vI 0,vI 0,Sn,vI 0,Sn,Sn,Sn,Sn,Sn]),(5,1,[vI n1,vI n2,vI n3,vI n4,vI n5,vS q55 L55.length,vI n7,vS q63 L63.length,vS q66 L66.length,vS u105.p u105.x.items.length,vS u105.q u105.x.floors.length,vS w.p w.l.length])] fun _ _ => ?_
      have hmw := rdC_mem hOw
      have hT' : ∀ g0,msgOk g0 → mgB g0 = l → (⟨n1,n2,n3,n4,n5,⟨⟨q55,L55⟩,n7⟩,⟨q63,L63⟩,⟨q66,L66⟩,u105,w⟩ : MV).x = g0 := fun g0 g1 g2 => by
       obtain ⟨⟨z1,z2,z3,z4,z5⟩,⟨z6,z7,z8,z9⟩,_⟩ := hS g0 g1 g2
       have e3 := (hS2 g0 g1 g2).1
       have hlen : L120.length = 2 * g0.marks.length := by rw [e3,flL_len]
       have h105' := h105
       rw [hlp g0 g1 g2] at h105'
       have z10 := (parse_of (msg_sm g1).part h105').2
       have z11 : w.l = g0.marks := by rw [hT g0 g1 g2]; exact List.take_of_length_le (by omega)
       exact mg_of z1 z2 z3 z4 z5 z6 z7 z8 z9 z10 z11
      have hTb : ∀ g0,msgOk g0 → mgB g0 = l → b105 = true := fun g0 g1 g2 => by
       have h105' := h105
       rw [hlp g0 g1 g2] at h105'
       exact (parse_of (msg_sm g1).part h105').1
      have hbG : bigM (⟨n1,n2,n3,n4,n5,⟨⟨q55,L55⟩,n7⟩,⟨q63,L63⟩,⟨q66,L66⟩,u105,w⟩ : MV).x := ⟨by show L55.length ≤ 1048576; omega,by show L63.length ≤ 1048576; omega,by show L66.length ≤ 1048576; omega,parse_bg h105,by show w.l.length ≤ 1048576; omega⟩
      have hGa : FrC s20.next s1 st' (pcMV (⟨n1,n2,n3,n4,n5,⟨⟨q55,L55⟩,n7⟩,⟨q63,L63⟩,⟨q66,L66⟩,u105,w⟩ : MV)) := FrC.assocM hG
      have hRG : RdM st' (⟨n1,n2,n3,n4,n5,⟨⟨q55,L55⟩,n7⟩,⟨q63,L63⟩,⟨q66,L66⟩,u105,w⟩ : MV) := hGa.1.rdM
      refine cxs ?_
      rcases b105 with _|_
      ·iterate 4 refine ⟨_,rfl,?_⟩
       refine Cm gg st' [Ml 2 0,(3,vB false),Ml 5 1,(163,vB true)] [(2,0,[vI 0,vI 0,vI 0,vI 0,vI 0,Sn,vI 0,Sn,Sn,Sn,Sn,Sn]),(5,1,[vI n1,vI n2,vI n3,vI n4,vI n5,vS q55 L55.length,vI n7,vS q63 L63.length,vS q66 L66.length,vS u105.p u105.x.items.length,vS u105.q u105.x.floors.length,vS w.p w.l.length])] fun _ _ => ?_
       refine ⟨_,rfl,?_⟩
       refine ⟨_,op_stw (vs := [vI 0,vI 0,vI 0,vI 0,vI 0,.slice none 0 0,vI 0,.slice none 0 0,.slice none 0 0,.slice none 0 0,.slice none 0 0,.slice none 0 0]) rfl rfl rfl rfl rfl rfl rfl rfl,?_⟩
       exact cxs (Rt ⟨nilMV,false,rfl,parsm_no (fun g0 g1 g2 => by cases hTb g0 g1 g2),pcM_nil,newM_nil,hPst⟩)
      ·iterate 3 refine ⟨_,rfl,?_⟩
       refine ⟨_,op_ld rfl rfl rfl rfl hmw.2 rfl,?_⟩
       rcases b11 with _|_
       ·refine ⟨_,rfl,?_⟩
        refine ⟨_,op_ldo (v := .agg #[vI n1,vI n2,vI n3,vI n4,vI n5,vS q55 L55.length,vI n7,vS q63 L63.length,vS q66 L66.length,vS u105.p u105.x.items.length,vS u105.q u105.x.floors.length,vS w.p w.l.length]) rfl rfl rfl rfl,?_⟩
        refine ⟨_,rfl,(ac_spec_MsgOk (⟨n1,n2,n3,n4,n5,⟨⟨q55,L55⟩,n7⟩,⟨q63,L63⟩,⟨q66,L66⟩,u105,w⟩ : MV) st' hRG hbG).mono ?_⟩
        rintro _ st' ⟨x153,rfl,h153,rfl⟩
        rcases x153 with _|_
        ·replace h153 := fun k => Bool.false_ne_true (h153.2 k)
         iterate 3 refine ⟨_,rfl,?_⟩
         refine Cm gg st' [Ml 2 0,(3,vB false),Ml 5 1,(163,vB true)] [(2,0,[vI 0,vI 0,vI 0,vI 0,vI 0,Sn,vI 0,Sn,Sn,Sn,Sn,Sn]),(5,1,[vI n1,vI n2,vI n3,vI n4,vI n5,vS q55 L55.length,vI n7,vS q63 L63.length,vS q66 L66.length,vS u105.p u105.x.items.length,vS u105.q u105.x.floors.length,vS w.p w.l.length])] fun _ _ => ?_
         refine ⟨_,rfl,?_⟩
         refine ⟨_,op_stw (vs := [vI 0,vI 0,vI 0,vI 0,vI 0,.slice none 0 0,vI 0,.slice none 0 0,.slice none 0 0,.slice none 0 0,.slice none 0 0,.slice none 0 0]) rfl rfl rfl rfl rfl rfl rfl rfl,?_⟩
         exact cxs (Rt ⟨nilMV,false,rfl,parsm_no (fun g0 g1 g2 => h153 (hT' g0 g1 g2 ▸ g1)),pcM_nil,newM_nil,hPst⟩)
        ·replace h153 := h153.1 rfl
         iterate 2 refine ⟨_,rfl,?_⟩
         refine ⟨_,op_ldo (v := .agg #[vI n1,vI n2,vI n3,vI n4,vI n5,vS q55 L55.length,vI n7,vS q63 L63.length,vS q66 L66.length,vS u105.p u105.x.items.length,vS u105.q u105.x.floors.length,vS w.p w.l.length]) rfl rfl rfl rfl,?_⟩
         refine ⟨_,rfl,(ac_spec_MsgBytes (⟨n1,n2,n3,n4,n5,⟨⟨q55,L55⟩,n7⟩,⟨q63,L63⟩,⟨q66,L66⟩,u105,w⟩ : MV) st' hRG hbG).mono ?_⟩
         rintro _ s158 ⟨q158,rfl,hO158,hN158,hP158⟩
         refine ⟨hP158.2,?_⟩
         refine ⟨_,op_strW (l := mgBz (⟨n1,n2,n3,n4,n5,⟨⟨q55,L55⟩,n7⟩,⟨q63,L63⟩,⟨q66,L66⟩,u105,w⟩ : MV).x) rfl rfl rfl rfl rfl rfl (hO158.rows fB_len) (mgBz_pos h153),?_⟩
         have hRl := hPst.rows hR
         have hl0 : 0 < l.length := by omega
         refine ⟨_,op_strW (l := l) rfl rfl rfl rfl rfl rfl (hP158.rows hRl) hl0,?_⟩
         refine ⟨ld_str rfl rfl (rows_lt hRl hl0),?_⟩
         refine ⟨_,rfl,?_⟩
         rintro (_|_) h162
         ·replace h162 : (toB (mgBz (⟨n1,n2,n3,n4,n5,⟨⟨q55,L55⟩,n7⟩,⟨q63,L63⟩,⟨q66,L66⟩,u105,w⟩ : MV).x)) = (toB l) := str_eq h162
          refine ⟨_,rfl,?_⟩
          refine Cm gg s158 [Ml 2 0,(3,vB false),Ml 5 1,(163,vB false)] [(2,0,[vI 0,vI 0,vI 0,vI 0,vI 0,Sn,vI 0,Sn,Sn,Sn,Sn,Sn]),(5,1,[vI n1,vI n2,vI n3,vI n4,vI n5,vS q55 L55.length,vI n7,vS q63 L63.length,vS q66 L66.length,vS u105.p u105.x.items.length,vS u105.q u105.x.floors.length,vS w.p w.l.length])] fun _ _ => ?_
          refine cxs ?_
          refine ⟨_,op_ldo (v := .agg #[vI n1,vI n2,vI n3,vI n4,vI n5,vS q55 L55.length,vI n7,vS q63 L63.length,vS q66 L66.length,vS u105.p u105.x.items.length,vS u105.q u105.x.floors.length,vS w.p w.l.length]) rfl rfl rfl rfl,?_⟩
          refine ⟨_,op_stw (vs := [vI n1,vI n2,vI n3,vI n4,vI n5,vS q55 L55.length,vI n7,vS q63 L63.length,vS q66 L66.length,vS u105.p u105.x.items.length,vS u105.q u105.x.floors.length,vS w.p w.l.length]) rfl rfl rfl rfl rfl rfl rfl rfl,?_⟩
          refine cxs ?_
          have hFin := (hGa.step hP158).out hP1
          have hmb : mgB (⟨n1,n2,n3,n4,n5,⟨⟨q55,L55⟩,n7⟩,⟨q63,L63⟩,⟨q66,L66⟩,u105,w⟩ : MV).x = l := by rw [← toB_inj (mgBz_ok _) hl h162,mgBz,if_pos h153]
          exact Rt ⟨(⟨n1,n2,n3,n4,n5,⟨⟨q55,L55⟩,n7⟩,⟨q63,L63⟩,⟨q66,L66⟩,u105,w⟩ : MV),true,rfl,parsm_ok h153 hmb (fun g0 g1 g2 => hT' g0 g1 g2),hFin.1,hFin.2.1.le hP20.1,hP20.trans hFin.2.2⟩
         ·replace h162 : ¬ ((toB (mgBz (⟨n1,n2,n3,n4,n5,⟨⟨q55,L55⟩,n7⟩,⟨q63,L63⟩,⟨q66,L66⟩,u105,w⟩ : MV).x)) = (toB l)) := str_ne h162
          refine ⟨_,rfl,?_⟩
          refine Cm gg s158 [Ml 2 0,(3,vB false),Ml 5 1,(163,vB true)] [(2,0,[vI 0,vI 0,vI 0,vI 0,vI 0,Sn,vI 0,Sn,Sn,Sn,Sn,Sn]),(5,1,[vI n1,vI n2,vI n3,vI n4,vI n5,vS q55 L55.length,vI n7,vS q63 L63.length,vS q66 L66.length,vS u105.p u105.x.items.length,vS u105.q u105.x.floors.length,vS w.p w.l.length])] fun _ _ => ?_
          refine ⟨_,rfl,?_⟩
          refine ⟨_,op_stw (vs := [vI 0,vI 0,vI 0,vI 0,vI 0,.slice none 0 0,vI 0,.slice none 0 0,.slice none 0 0,.slice none 0 0,.slice none 0 0,.slice none 0 0]) rfl rfl rfl rfl rfl rfl rfl rfl,?_⟩
          exact cxs (Rt ⟨nilMV,false,rfl,parsm_no (fun g0 g1 g2 => h162 (by rw [hT' g0 g1 g2,mgBz,if_pos g1,g2])),pcM_nil,newM_nil,hPst.trans hP158⟩)
       ·iterate 3 refine ⟨_,rfl,?_⟩
        refine Cm gg st' [Ml 2 0,(3,vB false),Ml 5 1,(163,vB true)] [(2,0,[vI 0,vI 0,vI 0,vI 0,vI 0,Sn,vI 0,Sn,Sn,Sn,Sn,Sn]),(5,1,[vI n1,vI n2,vI n3,vI n4,vI n5,vS q55 L55.length,vI n7,vS q63 L63.length,vS q66 L66.length,vS u105.p u105.x.items.length,vS u105.q u105.x.floors.length,vS w.p w.l.length])] fun _ _ => ?_
        refine ⟨_,rfl,?_⟩
        refine ⟨_,op_stw (vs := [vI 0,vI 0,vI 0,vI 0,vI 0,.slice none 0 0,vI 0,.slice none 0 0,.slice none 0 0,.slice none 0 0,.slice none 0 0,.slice none 0 0]) rfl rfl rfl rfl rfl rfl rfl rfl,?_⟩
        exact cxs (Rt ⟨nilMV,false,rfl,parsm_no (fun g0 g1 g2 => by cases (hS2 g0 g1 g2).2),pcM_nil,newM_nil,hPst⟩)
     ·replace h125 : (IntKind.wrap .i64 (((2 * j : Nat) : Int) + (1))) < (L120.length : Int) := of_decide_eq_true h125
      rw [ew122] at h125
      refine Cm gg st' [(0,vS p l.length),Ml 2 0,(3,vB false),(4,vP s20.next 0),Ml 5 1,(8,vB b105),(9,vS q120 L120.length),(10,vI ((2 * j : Nat) : Int)),(125,vB true)] [(2,0,[vI 0,vI 0,vI 0,vI 0,vI 0,Sn,vI 0,Sn,Sn,Sn,Sn,Sn]),(5,1,[vI n1,vI n2,vI n3,vI n4,vI n5,vS q55 L55.length,vI n7,vS q63 L63.length,vS q66 L66.length,vS u105.p u105.x.items.length,vS u105.q u105.x.floors.length,vS w.p w.l.length])] fun _ _ => ?_
      refine cxs ?_
      refine ⟨_,rfl,?_⟩
      refine ⟨_,Od rfl,?_⟩
      refine ⟨ld_own rfl rfl rfl,?_⟩
      refine op_at (2 * j) hQw (by omega) rfl rfl rfl rfl rfl rfl rfl ?_
      intro x132 b132 d132 k132 hy132 hb132 hm132 hc132 ho132
      refine ⟨_,op_ldc (i := 0) rfl rfl rfl rfl hm132 hc132 rfl rfl,?_⟩
      have ew136 : IntKind.wrap .i64 (((2 * j : Nat) : Int) + (1)) = ((2 * j + 1 : Nat) : Int) := (wrap_i64 (by omega) (by omega)).trans (by omega)
      refine ⟨_,rfl,?_⟩
      refine op_at (2 * j + 1) hQw (by omega) rfl rfl rfl rfl (by rw [ew136]) rfl rfl ?_
      intro x137 b137 d137 k137 hy137 hb137 hm137 hc137 ho137
      refine ⟨_,op_ldc (i := 0) rfl rfl rfl rfl hm137 hc137 rfl rfl,?_⟩
      refine ⟨_,rfl,?_⟩
      refine op_one (z := 2) (a := ((⟨x132,x137⟩ : Flr) : Flr)) (f := cFlr) rfl rfl rfl rfl rfl (by decide) rfl (Lb rfl) rfl rfl rfl ?_
      refine ⟨Pres.push.2,?_⟩
      have hOf : OwnR st' 2 cFlr w.p w.l := own_one (by decide) len_cFlr hG.1.right
      refine op_snoc (z := 2) (st := st') (f := cFlr) (b := 16) (l := w.l) (x := (⟨x132,x137⟩ : Flr)) rfl rfl rfl rfl rfl rfl rfl (by decide) len_cFlr rfl rfl rfl (by omega) (by unfold maxLen; omega) hOf ?_
      intro q141 s141 hO141 hP141 hN141
      refine ⟨_,rfl,?_⟩
      refine ⟨_,Os rfl,?_⟩
      refine Cm gg s141 [(0,vS p l.length),Ml 2 0,(3,vB false),(4,vP s20.next 0),Ml 5 1,(8,vB b105),(9,vS q120 L120.length),(10,vI ((2 * j : Nat) : Int)),(125,vB true)] [(2,0,[vI 0,vI 0,vI 0,vI 0,vI 0,Sn,vI 0,Sn,Sn,Sn,Sn,Sn]),(5,1,[vI n1,vI n2,vI n3,vI n4,vI n5,vS q55 L55.length,vI n7,vS q63 L63.length,vS q66 L66.length,vS u105.p u105.x.items.length,vS u105.q u105.x.floors.length,vS q141 (w.l ++ [(⟨x132,x137⟩ : Flr)]).length])] fun _ _ => ?_
      have e127 : IntKind.wrap .i64 (((2 * j : Nat) : Int) + 2) = ((2 * (j + 1) : Nat) : Int) := (wrap_i64 (by omega) (by omega)).trans (by omega)
      refine ⟨_,rfl,?_⟩
      have hG141 := hG.row (A := ((pcIs ⟨q55,L55⟩ ++ (pcIs ⟨q63,L63⟩ ++ pcIs ⟨q66,L66⟩)) ++ pcS u105)) (B := []) (x := pcR 2 cFlr w.p w.l) (y := pcR 2 cFlr q141 (w.l ++ [(⟨x132,x137⟩ : Flr)])) hP141 (own_pc hO141) hN141
      have hNw : New s1.next w.p := hG.2.1 (pcR 2 cFlr w.p w.l) (List.mem_append_right _ (List.mem_cons_self ..))
      refine ⟨(j + 1,⟨q141,w.l ++ [⟨x132,x137⟩]⟩),200 - (j + 1),by omega,⟨rfl,rfl,rfl,rfl,rfl,rfl,rfl,congrArg (Value.int .i64) e127,trivial⟩,⟨rfl,rfl,trivial⟩,rfl,by simp only; omega,by simp only [List.length_append,List.length_singleton,hwl],fun g0 g1 g2 => ?_,hG141.1,⟨hP141.ownR hDq hQo,(Dis.of hQo.old hN141).symm⟩,hOw.pr hP141 (Dis.of (Old.some hc1) hNw).symm⟩
      have e3 := (hS2 g0 g1 g2).1
      have hlen : L120.length = 2 * g0.marks.length := by rw [e3,flL_len]
      have hx : g0.marks[j]? = some g0.marks[j] := List.getElem?_eq_getElem (by omega)
      have := flL_get hx
      rw [← e3,hy132,hy137] at this
      obtain ⟨c1,c2⟩ := this
      injection c1 with c1
      injection c2 with c2
      show w.l ++ [_] = _
      rw [List.take_add_one,hx,← hT g0 g1 g2,c1,c2]; rfl
    ·replace h86 : n10 > (IntKind.wrap .i64 ((lw.length : Int) - a10)) := of_decide_eq_true h86
     rw [ew85] at h86
     refine ⟨_,rfl,?_⟩
     refine Cm 2 s69 [(0,vS p l.length),Ml 2 0,(3,vB false),(4,vP s20.next 0),Ml 5 1,(6,vI n10),(87,vB true)] [(2,0,[vI 0,vI 0,vI 0,vI 0,vI 0,Sn,vI 0,Sn,Sn,Sn,Sn,Sn]),(5,1,[vI n1,vI n2,vI n3,vI n4,vI n5,vS q55 L55.length,vI n7,vS q63 L63.length,vS q66 L66.length,Sn,Sn,Sn])] fun _ _ => ?_
     refine ⟨_,rfl,?_⟩
     refine ⟨_,op_stw (vs := [vI 0,vI 0,vI 0,vI 0,vI 0,.slice none 0 0,vI 0,.slice none 0 0,.slice none 0 0,.slice none 0 0,.slice none 0 0,.slice none 0 0]) rfl rfl rfl rfl rfl rfl rfl rfl,?_⟩
     refine cxs ?_
     exact ⟨.inl rfl,_,rfl,nilMV,false,rfl,parsm_no (fun g0 g1 g2 => by
      obtain ⟨_,_,e,_,k,e1,e2,e3⟩ := hS g0 g1 g2
      have := congrArg List.length e3
      rw [List.length_drop,List.length_append] at this
      omega),pcM_nil,newM_nil,hPall⟩
   ·refine ⟨_,rfl,?_⟩
    refine Cm 2 s69 [(0,vS p l.length),Ml 2 0,(3,vB false),(4,vP s20.next 0),Ml 5 1,(6,vI n10),(87,vB true)] [(2,0,[vI 0,vI 0,vI 0,vI 0,vI 0,Sn,vI 0,Sn,Sn,Sn,Sn,Sn]),(5,1,[vI n1,vI n2,vI n3,vI n4,vI n5,vS q55 L55.length,vI n7,vS q63 L63.length,vS q66 L66.length,Sn,Sn,Sn])] fun _ _ => ?_
    refine ⟨_,rfl,?_⟩
    refine ⟨_,op_stw (vs := [vI 0,vI 0,vI 0,vI 0,vI 0,.slice none 0 0,vI 0,.slice none 0 0,.slice none 0 0,.slice none 0 0,.slice none 0 0,.slice none 0 0]) rfl rfl rfl rfl rfl rfl rfl rfl,?_⟩
    exact cxs (Rt ⟨nilMV,false,rfl,parsm_no (fun g0 g1 g2 => by cases (hS g0 g1 g2).2.2.2.1),pcM_nil,newM_nil,hPall⟩)
  ·replace h28 : ¬ ((toB (crcB lw)) = (toB (l.drop (l.length - 4)))) := str_ne h28
   refine ⟨_,rfl,?_⟩
   refine Cm 1 s20 [(0,vS p l.length),Ml 2 0,(3,vB false),(29,vB true)] [(2,0,[vI 0,vI 0,vI 0,vI 0,vI 0,Sn,vI 0,Sn,Sn,Sn,Sn,Sn])] fun _ _ => ?_
   refine ⟨_,rfl,?_⟩
   refine ⟨_,op_stw (vs := [vI 0,vI 0,vI 0,vI 0,vI 0,.slice none 0 0,vI 0,.slice none 0 0,.slice none 0 0,.slice none 0 0,.slice none 0 0,.slice none 0 0]) rfl rfl rfl rfl rfl rfl rfl rfl,?_⟩
   exact cxs (Rt ⟨nilMV,false,rfl,parsm_no (fun g0 g1 g2 => h28 (by rw [hlw,(mg_cut g2).1,(mg_cut g2).2.1])),pcM_nil,newM_nil,hP20⟩)
 ·replace h13 : (l.length : Int) < (6) := of_decide_eq_true h13
  refine ⟨_,rfl,?_⟩
  refine Cm 1 st [(0,vS p l.length),Ml 2 0,(3,vB false),(29,vB true)] [(2,0,[vI 0,vI 0,vI 0,vI 0,vI 0,Sn,vI 0,Sn,Sn,Sn,Sn,Sn])] fun _ _ => ?_
  refine ⟨_,rfl,?_⟩
  refine ⟨_,op_stw (vs := [vI 0,vI 0,vI 0,vI 0,vI 0,.slice none 0 0,vI 0,.slice none 0 0,.slice none 0 0,.slice none 0 0,.slice none 0 0,.slice none 0 0]) rfl rfl rfl rfl rfl rfl rfl rfl,?_⟩
  exact cxs (Rt ⟨nilMV,false,rfl,parsm_no (fun g0 g1 g2 => by have := (mg_cut g2).2.2.1; omega),pcM_nil,newM_nil,Pres.refl _⟩)
abbrev pcTV (u : TV) : List Pc := pcIs u.toRV
theorem OwnP.rdTV {st : St} {u : TV} (h : OwnP st (pcTV u)) : Rows st 1 fI u.p u.l := OwnP.rdIs h
def mkTV (u : TV) (k : Int) : TV := ⟨mkIs u.toRV k,u.root⟩
theorem mkp_TV (u : TV) (k : Int) : (pcTV (mkTV u k)).map (·.p) = (pcTV u).map (·.p) := rfl
def RdTr (st : St) (t : TV) : Prop := Rows st 1 fI t.p t.l
theorem RdTr.pres {st st' : St} {t : TV} (h : RdTr st t) (k : Pres st st') : RdTr st' t := k.rows h
abbrev cntTV (t : Tr) : Nat := t.leaves.length
def bigTr (t : Tr) : Prop := t.leaves.length ≤ 1048576
theorem uc_markTree (u : TV) (k : Int) (st : St) (hO : OwnP st (pcTV u)) (hb : bigTr u.x) (h0 : 0 ≤ k) (hk : k ≤ 137438953472) : C 137 [.agg #[vS u.p u.l.length,vI u.root],vI k] st (fun v s => v = vI (k + (cntTV u.x : Int)) ∧ OwnP s (pcTV (mkTV u k)) ∧ PrL ((pcTV u).map (·.p)) st s) := by
 refine AC.enterX (i := ⟨[2],[2,5],[0,1,2,4],[]⟩) [] Try.func137 rfl rfl (by kernel_rfl) (by kernel_rfl) Try.ntmps137 (Lb rfl) rfl ?_
 refine ⟨_,rfl,?_⟩
 refine Cm 1 st [(1,vI k),Ml 2 0,(4,vI 0)] [(2,0,[vS u.p u.l.length,vI u.root])] fun _ _ => ?_
 refine ⟨_,rfl,?_⟩
 refine ⟨_,Od rfl,?_⟩
 refine ⟨_,rfl,(uc_markIntS u.toRV k st hO hb h0 hk).mono ?_⟩
 rintro _ s8 ⟨rfl,hO8,hP8⟩
 refine cxs ?_
 exact cxs (Rt ⟨rfl,hO8,hP8⟩)
theorem uc_heldTree (u : TV) (k : Int) (st : St) (hR : Rows st 1 fI (mkTV u k).p (mkTV u k).l) (hb : bigTr u.x) (h0 : 0 ≤ k) (hk : k ≤ 137438953472) : C 140 [.agg #[vS u.p u.l.length,vI u.root],vI k] st (fun v s => v = vI (k + (cntTV u.x : Int)) ∧ Pres st s) := by
 refine AC.enterX (i := ⟨[2],[2,5],[0,1,2,4,10],[]⟩) [] Try.func140 rfl rfl (by kernel_rfl) (by kernel_rfl) Try.ntmps140 (Lb rfl) rfl ?_
 refine ⟨_,rfl,?_⟩
 refine Cm 1 st [(1,vI k),Ml 2 0,(4,vI 0)] [(2,0,[vS u.p u.l.length,vI u.root])] fun _ _ => ?_
 refine ⟨_,rfl,?_⟩
 refine ⟨_,Od rfl,?_⟩
 refine ⟨_,rfl,(uc_heldIntS u.toRV k st hR hb h0 hk).mono ?_⟩
 rintro _ s8 ⟨rfl,hP8⟩
 refine Cm 1 s8 [(1,vI (k + (cntIs u.l : Int))),(4,vI 0)] [] fun _ _ => ?_
 refine ⟨_,rfl,?_⟩
 rintro (_|_) h10
 rotate_left
 ·exact absurd (of_decide_eq_true h10) ((by unfold cntIs; omega))
 refine Cm 1 s8 [(1,vI (k + (cntIs u.l : Int))),(4,vI 0),(10,vB false)] [] fun _ _ => ?_
 refine cxs ?_
 exact cxs (Rt ⟨rfl,hP8⟩)
theorem Frs.lw {a b : St} {u : LV} (h : Frs a b (pcL u.p u.l)) : ∃ w : LW,w.v = u ∧ Frs a b (pcLog w) := by
 obtain ⟨w,hw,hO,hC⟩ := h.1.lw
 refine ⟨w,hw,hO,?_,h.2.2⟩
 subst hw
 show NewP a.next (w.C :: w.l.flatMap pcS)
 rw [hC]; exact h.2.1
theorem Frs.one {α : Type} {a b : St} {z : Nat} {f : α → List Value} {p : Option Addr} {l : List α} (hO : OwnR b z f p l) (hN : New a.next p) (hP : Pres a b) : Frs a b [pcR z f p l] := ⟨OwnP.one (own_pc hO),NewP.cons hN NewP.nil,hP⟩
theorem Frs.nil (a : St) : Frs a a [] := ⟨OwnP.nil,NewP.nil,Pres.refl _⟩
theorem Frs.later {a b c : St} {l : List Pc} (h : Frs a b l) (k : Pres b c) : Frs a c l := ⟨h.1.pres k,h.2.1,h.2.2.trans k⟩
theorem Frs.sooner {a b c : St} {l : List Pc} (h : Frs b c l) (k : Pres a b) : Frs a c l := ⟨h.1,h.2.1.le k.1,k.trans h.2.2⟩
theorem OwnP.rot {st : St} {a b : List Pc} (h : OwnP st (a ++ b)) : OwnP st (b ++ a) := h.perm List.perm_append_comm
def mkMsg (u : MV) (k : Int) : MV := { u with tree := mkTV u.tree k,vec := mkIs u.vec (k + (cntTV u.tree.x : Int)),leaves := mkIs u.leaves (k + (cntTV u.tree.x : Int) + (cntIs u.vec.l : Int)),part := mkState u.part (k + (cntTV u.tree.x : Int) + (cntIs u.vec.l : Int) + (cntIs u.leaves.l : Int)),marks := mkFV u.marks (k + (cntTV u.tree.x : Int) + (cntIs u.vec.l : Int) + (cntIs u.leaves.l : Int) + (cntState u.part.x : Int)) }
theorem mkp_Msg (u : MV) (k : Int) : (pcMV (mkMsg u k)).map (·.p) = (pcMV u).map (·.p) :=
 map_app2 (mkp_TV _ _) (map_app2 (mkp_Is _ _) (map_app2 (mkp_Is _ _) (map_app2 (mkp_State _ _) (mkp_FV _ _))))
theorem uc_markMsg (u : MV) (k : Int) (st : St) (hO : OwnP st (pcMV u)) (hb : bigM u.x) (h0 : 0 ≤ k) (hk : k + (cntMsg u.x : Int) ≤ 137438953472) : C 61 [.agg #[vI u.kind,vI u.frm,vI u.to,vI u.num,vI u.hi,vS u.tree.p u.tree.l.length,vI u.tree.root,vS u.vec.p u.vec.l.length,vS u.leaves.p u.leaves.l.length,vS u.part.p u.part.x.items.length,vS u.part.q u.part.x.floors.length,vS u.marks.p u.marks.l.length],vI k] st (fun v s => v = vI (k + (cntMsg u.x : Int)) ∧ OwnP s (pcMV (mkMsg u k)) ∧ PrL ((pcMV u).map (·.p)) st s) := by
 have hc : cntMsg u.x = cntTV u.tree.x + cntIs u.vec.l + cntIs u.leaves.l + cntState u.part.x + cntFV u.marks.l := rfl
 refine AC.enterX (i := ⟨[2],[2,5,9,13,17,21],[0,1,2,4],[]⟩) [] Try.func61 rfl rfl (by kernel_rfl) (by kernel_rfl) Try.ntmps61 (Lb rfl) rfl ?_
 refine ⟨_,rfl,?_⟩
 refine Cm 1 st [(1,vI k),Ml 2 0,(4,vI 0)] [(2,0,cMV u)] fun _ _ => ?_
 refine ⟨_,rfl,?_⟩
 refine ⟨_,Od rfl,?_⟩
 refine ⟨_,rfl,(uc_markTree u.tree k st (OwnP.left hO) hb.tree (by omega) (by omega)).mono ?_⟩
 rintro _ s8 ⟨rfl,hO8,hL8⟩
 refine Cm 1 s8 [(1,vI (k + (cntTV u.tree.x : Int))),Ml 2 0,(4,vI 0)] [(2,0,cMV u)] fun _ _ => ?_
 have hA8 : OwnP s8 (pcIs u.vec ++ (pcIs u.leaves ++ (pcS u.part ++ (pcFV u.marks ++ (pcTV (mkTV u.tree k)))))) := by
  have := (OwnP.markG hO hO8 (mkp_TV _ _) hL8).rot
  simpa only [List.append_assoc] using this
 refine ⟨_,rfl,?_⟩
 refine ⟨_,Od rfl,?_⟩
 refine ⟨_,rfl,(uc_markIntS u.vec (k + (cntTV u.tree.x : Int)) s8 (OwnP.left hA8) hb.vec (by omega) (by omega)).mono ?_⟩
 rintro _ s12 ⟨rfl,hO12,hL12⟩
 refine Cm 1 s12 [(1,vI (k + (cntTV u.tree.x : Int) + (cntIs u.vec.l : Int))),Ml 2 0,(4,vI 0)] [(2,0,cMV u)] fun _ _ => ?_
 have hA12 : OwnP s12 (pcIs u.leaves ++ (pcS u.part ++ (pcFV u.marks ++ (pcTV (mkTV u.tree k) ++ (pcIs (mkIs u.vec (k + (cntTV u.tree.x : Int)))))))) := by
  have := (OwnP.markG hA8 hO12 (mkp_Is _ _) hL12).rot
  simpa only [List.append_assoc] using this
 refine ⟨_,rfl,?_⟩
 refine ⟨_,Od rfl,?_⟩
 refine ⟨_,rfl,(uc_markIntS u.leaves (k + (cntTV u.tree.x : Int) + (cntIs u.vec.l : Int)) s12 (OwnP.left hA12) hb.leaves (by omega) (by omega)).mono ?_⟩
 rintro _ s16 ⟨rfl,hO16,hL16⟩
 refine Cm 1 s16 [(1,vI (k + (cntTV u.tree.x : Int) + (cntIs u.vec.l : Int) + (cntIs u.leaves.l : Int))),Ml 2 0,(4,vI 0)] [(2,0,cMV u)] fun _ _ => ?_
 have hA16 : OwnP s16 (pcS u.part ++ (pcFV u.marks ++ (pcTV (mkTV u.tree k) ++ (pcIs (mkIs u.vec (k + (cntTV u.tree.x : Int))) ++ (pcIs (mkIs u.leaves (k + (cntTV u.tree.x : Int) + (cntIs u.vec.l : Int)))))))) := by
  have := (OwnP.markG hA12 hO16 (mkp_Is _ _) hL16).rot
  simpa only [List.append_assoc] using this
 refine ⟨_,rfl,?_⟩
 refine ⟨_,Od rfl,?_⟩
 refine ⟨_,rfl,(uc_markState u.part (k + (cntTV u.tree.x : Int) + (cntIs u.vec.l : Int) + (cntIs u.leaves.l : Int)) s16 (OwnP.left hA16) hb.part (by omega) (by omega)).mono ?_⟩
 rintro _ s20 ⟨rfl,hO20,hL20⟩
 refine Cm 1 s20 [(1,vI (k + (cntTV u.tree.x : Int) + (cntIs u.vec.l : Int) + (cntIs u.leaves.l : Int) + (cntState u.part.x : Int))),Ml 2 0,(4,vI 0)] [(2,0,cMV u)] fun _ _ => ?_
 have hA20 : OwnP s20 (pcFV u.marks ++ (pcTV (mkTV u.tree k) ++ (pcIs (mkIs u.vec (k + (cntTV u.tree.x : Int))) ++ (pcIs (mkIs u.leaves (k + (cntTV u.tree.x : Int) + (cntIs u.vec.l : Int))) ++ (pcS (mkState u.part (k + (cntTV u.tree.x : Int) + (cntIs u.vec.l : Int) + (cntIs u.leaves.l : Int)))))))) := by
  have := (OwnP.markG hA16 hO20 (mkp_State _ _) hL20).rot
  simpa only [List.append_assoc] using this
 refine ⟨_,rfl,?_⟩
 refine ⟨_,Od rfl,?_⟩
 refine ⟨_,rfl,(uc_markMarkS u.marks (k + (cntTV u.tree.x : Int) + (cntIs u.vec.l : Int) + (cntIs u.leaves.l : Int) + (cntState u.part.x : Int)) s20 (OwnP.left hA20) hb.marks (by omega) (by omega)).mono ?_⟩
 rintro _ s24 ⟨rfl,hO24,hL24⟩
 refine cxs ?_
 have hA24 : OwnP s24 (pcTV (mkTV u.tree k) ++ (pcIs (mkIs u.vec (k + (cntTV u.tree.x : Int))) ++ (pcIs (mkIs u.leaves (k + (cntTV u.tree.x : Int) + (cntIs u.vec.l : Int))) ++ (pcS (mkState u.part (k + (cntTV u.tree.x : Int) + (cntIs u.vec.l : Int) + (cntIs u.leaves.l : Int))) ++ (pcFV (mkFV u.marks (k + (cntTV u.tree.x : Int) + (cntIs u.vec.l : Int) + (cntIs u.leaves.l : Int) + (cntState u.part.x : Int)))))))) := by
  have := (OwnP.markG hA20 hO24 (mkp_FV _ _) hL24).rot
  simpa only [List.append_assoc] using this
 exact cxs (Rt ⟨congrArg vI (by rw [hc]; omega),hA24,(((((PrL.inl hL8).trans (PrL.inr (PrL.inl hL12))).trans (PrL.inr (PrL.inr (PrL.inl hL16)))).trans (PrL.inr (PrL.inr (PrL.inr (PrL.inl hL20))))).trans (PrL.inr (PrL.inr (PrL.inr (PrL.inr (hL24))))))⟩)
theorem uc_heldMsg (u : MV) (k : Int) (st : St) (hO : OwnP st (pcMV (mkMsg u k))) (hb : bigM u.x) (h0 : 0 ≤ k) (hk : k + (cntMsg u.x : Int) ≤ 137438953472) : C 64 [.agg #[vI u.kind,vI u.frm,vI u.to,vI u.num,vI u.hi,vS u.tree.p u.tree.l.length,vI u.tree.root,vS u.vec.p u.vec.l.length,vS u.leaves.p u.leaves.l.length,vS u.part.p u.part.x.items.length,vS u.part.q u.part.x.floors.length,vS u.marks.p u.marks.l.length],vI k] st (fun v s => v = vI (k + (cntMsg u.x : Int)) ∧ Pres st s) := by
 have hc : cntMsg u.x = cntTV u.tree.x + cntIs u.vec.l + cntIs u.leaves.l + cntState u.part.x + cntFV u.marks.l := rfl
 refine AC.enterX (i := ⟨[2],[2,5,11,17,23,29],[0,1,2,4,10,16,22,28,34],[]⟩) [] Try.func64 rfl rfl (by kernel_rfl) (by kernel_rfl) Try.ntmps64 (Lb rfl) rfl ?_
 refine ⟨_,rfl,?_⟩
 refine Cm 1 st [(1,vI k),Ml 2 0,(4,vI 0)] [(2,0,cMV u)] fun _ _ => ?_
 refine ⟨_,rfl,?_⟩
 refine ⟨_,Od rfl,?_⟩
 refine ⟨_,rfl,(uc_heldTree u.tree k st (OwnP.rdTV (OwnP.left hO)) hb.tree (by omega) (by omega)).mono ?_⟩
 rintro _ s8 ⟨rfl,hP8⟩
 refine Cm 1 s8 [(1,vI (k + (cntTV u.tree.x : Int))),Ml 2 0,(4,vI 0)] [(2,0,cMV u)] fun _ _ => ?_
 refine ⟨_,rfl,?_⟩
 rintro (_|_) h10
 rotate_left
 ·exact absurd (of_decide_eq_true h10) ((by omega))
 refine Cm 1 s8 [(1,vI (k + (cntTV u.tree.x : Int))),Ml 2 0,(4,vI 0),(10,vB false)] [(2,0,cMV u)] fun _ _ => ?_
 refine cxs ?_
 refine ⟨_,rfl,?_⟩
 refine ⟨_,Od rfl,?_⟩
 refine ⟨_,rfl,(uc_heldIntS u.vec (k + (cntTV u.tree.x : Int)) s8 (OwnP.rdIs (OwnP.left (OwnP.right (hO.pres hP8)))) hb.vec (by omega) (by omega)).mono ?_⟩
 rintro _ s14 ⟨rfl,hP14⟩
 refine Cm 1 s14 [(1,vI (k + (cntTV u.tree.x : Int) + (cntIs u.vec.l : Int))),Ml 2 0,(4,vI 0)] [(2,0,cMV u)] fun _ _ => ?_
 have hQ14 : Pres st s14 := hP8.trans hP14
 refine ⟨_,rfl,?_⟩
 rintro (_|_) h16
 rotate_left
 ·exact absurd (of_decide_eq_true h16) ((by omega))
 refine Cm 1 s14 [(1,vI (k + (cntTV u.tree.x : Int) + (cntIs u.vec.l : Int))),Ml 2 0,(4,vI 0),(16,vB false)] [(2,0,cMV u)] fun _ _ => ?_
 refine cxs ?_
 refine ⟨_,rfl,?_⟩
 refine ⟨_,Od rfl,?_⟩
 refine ⟨_,rfl,(uc_heldIntS u.leaves (k + (cntTV u.tree.x : Int) + (cntIs u.vec.l : Int)) s14 (OwnP.rdIs (OwnP.left (OwnP.right (OwnP.right (hO.pres hQ14))))) hb.leaves (by omega) (by omega)).mono ?_⟩
 rintro _ s20 ⟨rfl,hP20⟩
 refine Cm 1 s20 [(1,vI (k + (cntTV u.tree.x : Int) + (cntIs u.vec.l : Int) + (cntIs u.leaves.l : Int))),Ml 2 0,(4,vI 0)] [(2,0,cMV u)] fun _ _ => ?_
 have hQ20 : Pres st s20 := hQ14.trans hP20
 refine ⟨_,rfl,?_⟩
 rintro (_|_) h22
 rotate_left
 ·exact absurd (of_decide_eq_true h22) ((by omega))
 refine Cm 1 s20 [(1,vI (k + (cntTV u.tree.x : Int) + (cntIs u.vec.l : Int) + (cntIs u.leaves.l : Int))),Ml 2 0,(4,vI 0),(22,vB false)] [(2,0,cMV u)] fun _ _ => ?_
 refine cxs ?_
 refine ⟨_,rfl,?_⟩
 refine ⟨_,Od rfl,?_⟩
 refine ⟨_,rfl,(uc_heldState u.part (k + (cntTV u.tree.x : Int) + (cntIs u.vec.l : Int) + (cntIs u.leaves.l : Int)) s20 (OwnP.rdS (OwnP.left (OwnP.right (OwnP.right (OwnP.right (hO.pres hQ20)))))) hb.part (by omega) (by omega)).mono ?_⟩
 rintro _ s26 ⟨rfl,hP26⟩
 refine Cm 1 s26 [(1,vI (k + (cntTV u.tree.x : Int) + (cntIs u.vec.l : Int) + (cntIs u.leaves.l : Int) + (cntState u.part.x : Int))),Ml 2 0,(4,vI 0)] [(2,0,cMV u)] fun _ _ => ?_
 have hQ26 : Pres st s26 := hQ20.trans hP26
 refine ⟨_,rfl,?_⟩
 rintro (_|_) h28
 rotate_left
 ·exact absurd (of_decide_eq_true h28) ((by omega))
 refine Cm 1 s26 [(1,vI (k + (cntTV u.tree.x : Int) + (cntIs u.vec.l : Int) + (cntIs u.leaves.l : Int) + (cntState u.part.x : Int))),Ml 2 0,(4,vI 0),(28,vB false)] [(2,0,cMV u)] fun _ _ => ?_
 refine cxs ?_
 refine ⟨_,rfl,?_⟩
 refine ⟨_,Od rfl,?_⟩
 refine ⟨_,rfl,(uc_heldMarkS u.marks (k + (cntTV u.tree.x : Int) + (cntIs u.vec.l : Int) + (cntIs u.leaves.l : Int) + (cntState u.part.x : Int)) s26 (OwnP.rdFV (OwnP.right (OwnP.right (OwnP.right (OwnP.right (hO.pres hQ26)))))) hb.marks (by omega) (by omega)).mono ?_⟩
 rintro _ s32 ⟨rfl,hP32⟩
 refine Cm 1 s32 [(1,vI (k + (cntTV u.tree.x : Int) + (cntIs u.vec.l : Int) + (cntIs u.leaves.l : Int) + (cntState u.part.x : Int) + (cntFV u.marks.l : Int))),(4,vI 0)] [] fun _ _ => ?_
 have hQ32 : Pres st s32 := hQ26.trans hP32
 refine ⟨_,rfl,?_⟩
 rintro (_|_) h34
 rotate_left
 ·exact absurd (of_decide_eq_true h34) ((by omega))
 refine Cm 1 s32 [(1,vI (k + (cntTV u.tree.x : Int) + (cntIs u.vec.l : Int) + (cntIs u.leaves.l : Int) + (cntState u.part.x : Int) + (cntFV u.marks.l : Int))),(4,vI 0),(34,vB false)] [] fun _ _ => ?_
 refine cxs ?_
 exact cxs (Rt ⟨congrArg vI (by rw [hc]; omega),hQ32⟩)
theorem Rows.pres {α : Type} {st st' : St} {z : Nat} {f : α → List Value} {p : Option Addr} {l : List α} (h : Rows st z f p l) (k : Pres st st') : Rows st' z f p l := k.rows h
theorem bigM_cnt {u : Mg} (h : bigM u) : cntMsg u ≤ 16777216 := by
 have h1 := cnt_State h.part
 have h2 : u.tree.leaves.length ≤ 1048576 := h.tree
 have h3 : u.vec.length ≤ 1048576 := h.vec
 have h4 : u.leaves.length ≤ 1048576 := h.leaves
 have h5 : u.marks.length ≤ 1048576 := h.marks
 unfold cntMsg
 unfold cntState at h1
 omega
theorem ac_laws_FnExactMsgOf (b : BV) (st : St) (hR_b : Rows st 1 fB b.p b.l ∧ b.l.length ≤ maxLen) : C 11 [vS b.p b.l.length] st (fun v s => v = vB true) := by
 refine AC.enterX (i := ⟨[3,6,11],[3,6,11],[0,2,3,4,5,6,7,8,9,10,11,12,15,37,42,58,66,69,84,89,92],[]⟩) [] Try.func11 rfl rfl (by kernel_rfl) (by kernel_rfl) Try.ntmps11 (Lb rfl) rfl ?_
 refine Cm 0 st [(0,vS b.p b.l.length),(2,vB false)] [] fun _ _ => ?_
 iterate 2 refine ⟨_,rfl,?_⟩
 rintro (_|_) hn_b
 ·replace hn_b : ¬ ((b.l.length : Int) > 1048576) := of_decide_eq_false hn_b
  refine Cm 0 st [(0,vS b.p b.l.length),(2,vB false),(15,vB false)] [] fun _ _ => ?_
  have hb_b := (show szOk b.l.length by unfold szOk; omega)
  have hc_b : cntBs b.l ≤ 8388608 := (show cntBs b.l ≤ 8388608 by have hsz : b.l.length ≤ 1048576 := hb_b; unfold cntBs; omega)
  refine cxs ?_
  refine ⟨_,rfl,(uc_toByteS b st hR_b.1 hb_b).mono ?_⟩
  rintro _ s1 ⟨u1,rfl,hu1,hO1,hN1,hP1⟩
  refine ⟨_,rfl,(ac_spec_MsgOf u1.p u1.l s1 (OwnP.rdBs (OwnP.left (OwnP.joinF OwnP.nil hP1 hO1 hN1))) u1.ok (hu1 ▸ hb_b)).mono ?_⟩
  rintro _ s2 ⟨r2,b2,rfl,hr2,hO2,hN2,hP2⟩
  iterate 4 refine ⟨_,rfl,?_⟩
  refine Cm 1 s2 [(0,vS b.p b.l.length),(2,vB false),Ml 3 0,(4,vB b2)] [(3,0,cMV r2)] fun _ _ => ?_
  have hA3 : OwnP s2 (pcMV r2 ++ (pcBs u1 ++ [])) := (OwnP.joinF (OwnP.joinF OwnP.nil hP1 hO1 hN1) hP2 hO2 hN2)
  have hQ3 : Pres st s2 := (hP1.trans hP2)
  refine ⟨_,rfl,(uc_toByteS b s2 (hR_b.1.pres hQ3) hb_b).mono ?_⟩
  rintro _ s3 ⟨u3,rfl,hu3,hO3,hN3,hP3⟩
  refine Cm 1 s3 [(0,vS b.p b.l.length),(2,vB false),Ml 3 0,(4,vB b2),(5,vS u3.p u3.l.length)] [(3,0,cMV r2)] fun _ _ => ?_
  have hA4 : OwnP s3 (pcBs u3 ++ (pcMV r2 ++ (pcBs u1 ++ []))) := (OwnP.joinF hA3 hP3 hO3 hN3)
  have hQ4 : Pres st s3 := (hQ3.trans hP3)
  refine ⟨_,rfl,(ac_impl_MsgOf u3.p u3.l s3 (OwnP.rdBs (OwnP.left hA4)) u3.ok (hu3 ▸ hb_b)).mono ?_⟩
  rintro _ s4 ⟨r4,b4,rfl,hr4,hO4,hN4,hP4⟩
  iterate 4 refine ⟨_,rfl,?_⟩
  refine Cm 2 s4 [(0,vS b.p b.l.length),(2,vB false),Ml 3 0,(4,vB b2),(5,vS u3.p u3.l.length),Ml 6 1,(7,vB b4)] [(3,0,cMV r2),(6,1,cMV r4)] fun _ _ => ?_
  have hA5 : OwnP s4 (pcMV r4 ++ (pcBs u3 ++ (pcMV r2 ++ (pcBs u1 ++ [])))) := (OwnP.joinF hA4 hP4 hO4 hN4)
  have hQ5 : Pres st s4 := (hQ4.trans hP4)
  have hE1 : (r4.x,b4) = (r2.x,b2) := by rw [hr4,hr2,hu3,hu1]
  iterate 2 refine ⟨_,rfl,?_⟩
  refine ⟨_,rfl,(AC.tru (ac_laws_eqMsg r4 r2 s4 (OwnP.rdM (OwnP.left hA5)) (OwnP.rdM (OwnP.left (OwnP.right (OwnP.right hA5)))) (parsm_big hr4)) ((Prod.mk.inj hE1).1)).mono ?_⟩
  rintro _ s4 ⟨rfl,rfl⟩
  iterate 2 refine ⟨_,rfl,?_⟩
  rintro (_|_) he5
  rotate_left
  ·exact absurd (((Prod.mk.inj hE1).2)) (b_ne he5)
  refine ⟨_,rfl,?_⟩
  refine Cm 2 s4 [(0,vS b.p b.l.length),(2,vB false),Ml 3 0,(4,vB b2),(5,vS u3.p u3.l.length),Ml 6 1,(7,vB b4),(37,vB false)] [(3,0,cMV r2),(6,1,cMV r4)] fun _ _ => ?_
  refine cxs ?_
  refine ⟨_,rfl,(uc_toByteS b s4 (hR_b.1.pres hQ5) hb_b).mono ?_⟩
  rintro _ s6 ⟨u6,rfl,hu6,hO6,hN6,hP6⟩
  refine ⟨_,rfl,(AC.tru (uc_eqByteS u3 u6 s6 (OwnP.rdBs (OwnP.left (OwnP.right (OwnP.right (OwnP.joinF hA5 hP6 hO6 hN6))))) (OwnP.rdBs (OwnP.left (OwnP.joinF hA5 hP6 hO6 hN6))) (hu3 ▸ hb_b)) (hu3.trans hu6.symm)).mono ?_⟩
  rintro _ s6 ⟨rfl,rfl⟩
  refine ⟨_,rfl,?_⟩
  refine Cm 2 s6 [(0,vS b.p b.l.length),(2,vB false),Ml 3 0,(4,vB b2),(5,vS u3.p u3.l.length),Ml 6 1,(7,vB b4),(42,vB false)] [(3,0,cMV r2),(6,1,cMV r4)] fun _ _ => ?_
  have hA8 : OwnP s6 (pcBs u6 ++ (pcMV r4 ++ (pcBs u3 ++ (pcMV r2 ++ (pcBs u1 ++ []))))) := (OwnP.joinF hA5 hP6 hO6 hN6)
  have hQ8 : Pres st s6 := (hQ5.trans hP6)
  refine cxs ?_
  refine Cm 2 s6 [(0,vS b.p b.l.length),(2,vB false),Ml 3 0,(4,vB b2),(5,vS u3.p u3.l.length),Ml 6 1,(7,vB b4),(8,vI 1)] [(3,0,cMV r2),(6,1,cMV r4)] fun _ _ => ?_
  have hM7 := (OwnP.front2 hA8)
  have hNw7 := newPs (hN3.le ((hP1.trans hP2)).1)
  have hcm7 : cntBs u3.l ≤ 8388608 := by rw [hu3]; exact hc_b
  refine ⟨_,rfl,(uc_markByteS u3 1 s6 (OwnP.left hM7) (hu3 ▸ hb_b) (by omega) (by omega)).mono ?_⟩
  rintro _ s7 ⟨rfl,hO7,hL7⟩
  refine Cm 2 s7 [(0,vS b.p b.l.length),(2,vB false),Ml 3 0,(4,vB b2),Ml 6 1,(7,vB b4),(8,vI (1 + (cntBs u3.l : Int)))] [(3,0,cMV r2),(6,1,cMV r4)] fun _ _ => ?_
  have hA11 : OwnP s7 (pcBs (mkBs u3 1) ++ _) := OwnP.markG hM7 hO7 (mkp_Bs _ _) hL7
  have hQ11 : Pres st s7 := hL7.pres hQ8 hNw7
  refine ⟨_,rfl,?_⟩
  rintro (_|_) hg8
  rotate_left
  ·exact absurd (of_decide_eq_true hg8) ((by omega))
  iterate 2 refine ⟨_,rfl,?_⟩
  refine ⟨_,rfl,(AC.tru (ac_laws_eqMsg r4 r2 s7 (OwnP.rdM (OwnP.left (OwnP.right (OwnP.right hA11)))) (OwnP.rdM (OwnP.left (OwnP.right (OwnP.right (OwnP.right hA11))))) (parsm_big hr4)) ((Prod.mk.inj hE1).1)).mono ?_⟩
  rintro _ s7 ⟨rfl,rfl⟩
  iterate 3 refine ⟨_,rfl,?_⟩
  rintro (_|_) he9
  rotate_left
  ·exact absurd (((Prod.mk.inj hE1).2)) (b_ne he9)
  refine ⟨_,rfl,?_⟩
  refine Cm 2 s7 [(0,vS b.p b.l.length),(2,vB false),Ml 3 0,(4,vB b2),Ml 6 1,(58,vB false)] [(3,0,cMV r2),(6,1,cMV r4)] fun _ _ => ?_
  refine cxs ?_
  refine Cm 2 s7 [(0,vS b.p b.l.length),(2,vB false),Ml 3 0,(4,vB b2),Ml 6 1,(9,vI 1)] [(3,0,cMV r2),(6,1,cMV r4)] fun _ _ => ?_
  refine ⟨_,rfl,?_⟩
  have hM10 := (OwnP.front2 hA11)
  have hNw10 := newPs (hN4.le (((hP1.trans hP2).trans hP3)).1)
  have hcm10 : cntMsg r4.x ≤ 16777216 := bigM_cnt (parsm_big hr4)
  refine ⟨_,rfl,(uc_markMsg r4 1 s7 (OwnP.left hM10) (parsm_big hr4) (by omega) (by omega)).mono ?_⟩
  rintro _ s10 ⟨rfl,hO10,hL10⟩
  refine cxs ?_
  have hA15 : OwnP s10 (pcMV (mkMsg r4 1) ++ _) := OwnP.markG hM10 hO10 (mkp_Msg _ _) hL10
  have hQ15 : Pres st s10 := hL10.pres hQ11 hNw10
  refine Cm 2 s10 [(0,vS b.p b.l.length),(2,vB false),Ml 3 0,(4,vB b2),Ml 6 1,(9,vI (1 + (cntMsg r4.x : Int))),(10,vI 1)] [(3,0,cMV r2),(6,1,cMV r4)] fun _ _ => ?_
  refine ⟨_,rfl,?_⟩
  refine ⟨_,rfl,(uc_heldMsg r4 1 s10 (OwnP.left hA15) (parsm_big hr4) (by decide) (by omega)).mono ?_⟩
  rintro _ s11 ⟨rfl,hP11⟩
  refine Cm 2 s11 [(0,vS b.p b.l.length),(2,vB false),Ml 3 0,(4,vB b2),Ml 6 1,(9,vI (1 + (cntMsg r4.x : Int))),(10,vI (1 + (cntMsg r4.x : Int)))] [(3,0,cMV r2),(6,1,cMV r4)] fun _ _ => ?_
  have hA17 : OwnP s11 (pcMV (mkMsg r4 1) ++ (pcBs (mkBs u3 1) ++ (pcBs u6 ++ (pcMV r2 ++ (pcBs u1 ++ []))))) := (OwnP.pres hA15 hP11)
  have hQ17 : Pres st s11 := (hQ15.trans hP11)
  refine ⟨_,rfl,?_⟩
  rintro (_|_) hg12
  rotate_left
  ·exact absurd (of_decide_eq_true hg12) ((by omega))
  refine Cm 2 s11 [(0,vS b.p b.l.length),(2,vB false),Ml 3 0,(4,vB b2),Ml 6 1,(9,vI (1 + (cntMsg r4.x : Int))),(10,vI (1 + (cntMsg r4.x : Int))),(66,vB false)] [(3,0,cMV r2),(6,1,cMV r4)] fun _ _ => ?_
  refine cxs ?_
  refine ⟨_,rfl,?_⟩
  rintro (_|_) hg13
  rotate_left
  ·exact absurd (rfl) (bne_iff_ne.1 hg13)
  refine Cm 2 s11 [(0,vS b.p b.l.length),(2,vB false),Ml 3 0,(4,vB b2),Ml 6 1,(9,vI (1 + (cntMsg r4.x : Int))),(10,vI (1 + (cntMsg r4.x : Int))),(69,vB false)] [(3,0,cMV r2),(6,1,cMV r4)] fun _ _ => ?_
  refine cxs ?_
  refine ⟨_,rfl,(uc_toByteS b s11 (hR_b.1.pres hQ17) hb_b).mono ?_⟩
  rintro _ s14 ⟨u14,rfl,hu14,hO14,hN14,hP14⟩
  refine ⟨_,rfl,(ac_impl_MsgOf u14.p u14.l s14 (OwnP.rdBs (OwnP.left (OwnP.joinF hA17 hP14 hO14 hN14))) u14.ok (hu14 ▸ hb_b)).mono ?_⟩
  rintro _ s15 ⟨r15,b15,rfl,hr15,hO15,hN15,hP15⟩
  iterate 4 refine ⟨_,rfl,?_⟩
  refine Cm 3 s15 [(2,vB false),Ml 3 0,(4,vB b2),Ml 6 1,(9,vI (1 + (cntMsg r4.x : Int))),(10,vI (1 + (cntMsg r4.x : Int))),Ml 11 2,(12,vB b15)] [(3,0,cMV r2),(6,1,cMV r4),(11,2,cMV r15)] fun _ _ => ?_
  have hA22 : OwnP s15 (pcMV r15 ++ (pcBs u14 ++ (pcMV (mkMsg r4 1) ++ (pcBs (mkBs u3 1) ++ (pcBs u6 ++ (pcMV r2 ++ (pcBs u1 ++ []))))))) := (OwnP.joinF (OwnP.joinF hA17 hP14 hO14 hN14) hP15 hO15 hN15)
  have hQ22 : Pres st s15 := ((hQ17.trans hP14).trans hP15)
  have hE2 : (r15.x,b15) = (r2.x,b2) := by rw [hr15,hr2,hu14,hu1]
  iterate 2 refine ⟨_,rfl,?_⟩
  refine ⟨_,rfl,(AC.tru (ac_laws_eqMsg r15 r2 s15 (OwnP.rdM (OwnP.left hA22)) (OwnP.rdM (OwnP.left (OwnP.right (OwnP.right (OwnP.right (OwnP.right (OwnP.right hA22))))))) (parsm_big hr15)) ((Prod.mk.inj hE2).1)).mono ?_⟩
  rintro _ s15 ⟨rfl,rfl⟩
  iterate 2 refine ⟨_,rfl,?_⟩
  rintro (_|_) he16
  rotate_left
  ·exact absurd (((Prod.mk.inj hE2).2)) (b_ne he16)
  refine ⟨_,rfl,?_⟩
  refine Cm 3 s15 [(2,vB false),Ml 6 1,(9,vI (1 + (cntMsg r4.x : Int))),(10,vI (1 + (cntMsg r4.x : Int))),(84,vB false)] [(6,1,cMV r4)] fun _ _ => ?_
  refine cxs ?_
  refine Cm 3 s15 [(2,vB false),Ml 6 1,(9,vI (1 + (cntMsg r4.x : Int))),(10,vI 1)] [(6,1,cMV r4)] fun _ _ => ?_
  refine ⟨_,rfl,?_⟩
  refine ⟨_,rfl,(uc_heldMsg r4 1 s15 (OwnP.left (OwnP.right (OwnP.right hA22))) (parsm_big hr4) (by decide) (by omega)).mono ?_⟩
  rintro _ s17 ⟨rfl,hP17⟩
  refine Cm 3 s17 [(2,vB false),(9,vI (1 + (cntMsg r4.x : Int))),(10,vI (1 + (cntMsg r4.x : Int)))] [] fun _ _ => ?_
  have hA26 : OwnP s17 (pcMV r15 ++ (pcBs u14 ++ (pcMV (mkMsg r4 1) ++ (pcBs (mkBs u3 1) ++ (pcBs u6 ++ (pcMV r2 ++ (pcBs u1 ++ []))))))) := (OwnP.pres hA22 hP17)
  have hQ26 : Pres st s17 := (hQ22.trans hP17)
  refine ⟨_,rfl,?_⟩
  rintro (_|_) hg18
  rotate_left
  ·exact absurd (of_decide_eq_true hg18) ((by omega))
  refine Cm 3 s17 [(2,vB false),(9,vI (1 + (cntMsg r4.x : Int))),(10,vI (1 + (cntMsg r4.x : Int))),(89,vB false)] [] fun _ _ => ?_
  refine cxs ?_
  refine ⟨_,rfl,?_⟩
  rintro (_|_) hg19
  rotate_left
  ·exact absurd (rfl) (bne_iff_ne.1 hg19)
  refine Cm 3 s17 [(2,vB false),(92,vB false)] [] fun _ _ => ?_
  refine cxs ?_
  refine cxs ?_
  exact ⟨.inl rfl,_,rfl,rfl⟩
 ·replace hn_b : (b.l.length : Int) > 1048576 := of_decide_eq_true hn_b
  refine Cm 0 st [(0,vS b.p b.l.length),(2,vB false),(15,vB true)] [] fun _ _ => ?_
  refine cxs ?_
  exact ⟨.inl rfl,_,rfl,rfl⟩
end Go.Proofs.Yteabadoaeadcgaa.AM
