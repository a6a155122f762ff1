/- Part 7 of the texts on which the law's proof rests. -/
import Derived.Test.YtpnolkhfeliehaaGreatXpf
namespace Go.Proofs.YtpnolkhfeliehaaGreat.AM
open Go Go.Proofs
set_option linter.unusedVariables false
set_option linter.unusedSimpArgs false
set_option maxRecDepth 100000
set_option maxHeartbeats 4000000
theorem lens_all {t u : List RV} (h : (u.map (·.l)).map List.length = (t.map (·.l)).map List.length) (k : ∀ r ∈ t,r.l.length = 5) : ∀ r ∈ u,r.l.length = 5 := fun r hr => by
 have h1 : r.l.length ∈ (u.map (·.l)).map List.length := List.mem_map_of_mem (List.mem_map_of_mem hr)
 rw [h] at h1
 obtain ⟨l,hl,h2⟩ := List.mem_map.1 h1
 obtain ⟨r',hr',rfl⟩ := List.mem_map.1 hl
 rw [← h2]; exact k r' hr'
theorem Frs.toT {a b : St} {q : Option Addr} {t : List RV} (hO : OwnP b (pcT q t)) (hN : NewP a.next (pcT q t)) (hP : Pres a b) : Frs a b (pcT q t) := ⟨hO,hN,hP⟩
theorem ac_d_l9Right {p : Option Addr} {bs : List Int} (c : Nat) (st : St) (hc : Cur st c p bs) (hs : bs.length < 1099511627776) : C 195 [vP c 0] st (fun v s => ∃ (q : Option Addr) (t : List RV),v = vS q t.length ∧ (0 < t.length ∧ t.length ≤ 4) ∧ (∀ r ∈ t,r.l.length = 5) ∧ FrC c st s (pcT q t) ∧ Cur s c p bs) := by
 refine AC.enterX (i := ⟨[],[],[0,2,3,4,5,13],[]⟩) [] Tryz.func195 rfl rfl (by kernel_rfl) (by kernel_rfl) Tryz.ntmps195 (Lb rfl) rfl ?_
 refine Cu lo0 st [(0,vP c 0),(2,Sn)] fun _ => ?_
 refine ⟨_,rfl,(ac_d_l1Below c 4 st hc (by first | assumption | omega)).mono ?_⟩
 rintro _ s7 ⟨r7,rfl,h7,h7',h7'',hC7,hL7⟩
 have ew8 : IntKind.wrap .i64 ((1) + r7) = (1) + r7 := wrap_i64 (by omega) (by omega)
 refine ⟨_,rfl,?_⟩
 refine AW.cut lo0 s7 [(0,vP c 0),(2,Sn),(3,vI ((1) + r7))] ⟨rfl,rfl,congrArg (Value.int .i64) ew8,trivial⟩ fun _ => ?_
 refine ⟨_,rfl,(ac_spec_TableNew ((1) + r7) s7).mono ?_⟩
 rintro _ s10 ⟨p10,t10,rfl,hO10,hN10,hP10,h10⟩
 refine cxs ?_
 have hF10 : FrC c st s10 (pcT p10 t10) := ((Frs.toT hO10 hN10 hP10).toC hC7.lt).sooner hL7 hc.lt
 have hC10 := hC7.pres hP10
 have hr10 := (tnew_rows h10).2.1
 have hl10 : (t10.length : Int) = 1 + r7 := by
  have := congrArg List.length h10
  rw [List.length_map,tnew,if_pos (by omega),List.length_replicate] at this
  omega
 refine Cu lo0 s10 [(0,vP c 0),(2,Sn),(3,vI ((1) + r7)),(4,vS p10 t10.length),(5,vI 0)] fun _ => ?_
 refine AW.loop0 (fun x : Nat × Option Addr × List RV => [(0,vP c 0),(2,.slice none 0 0),(3,vI ((1) + r7)),(4,vS x.2.1 x.2.2.length),(5,vI (x.1 : Int))]) (fun m (x : Nat × Option Addr × List RV) st' => m = (1 + r7).toNat - x.1 ∧ (x.1 : Int) ≤ 1 + r7 ∧ (x.2.2.length : Int) = 1 + r7 ∧ (∀ r ∈ x.2.2,r.l.length = 5) ∧ FrC c st st' (pcT x.2.1 x.2.2) ∧ Cur st' c p bs) (0,p10,t10) _ ⟨rfl,rfl,rfl,rfl,rfl,trivial⟩ rfl ⟨rfl,by simp only; omega,hl10,hr10,hF10,hC10⟩ ?_
 rintro m ⟨i,q,t⟩ ρ0 st' ⟨rfl,hi,hl,hr,hF,hC⟩
 simp only at hi hl hr hF
 refine ⟨_,rfl,?_⟩
 rintro (_|_) h13
 ·replace h13 : ¬ ((i : Int) < ((1) + r7)) := of_decide_eq_false h13
  refine Cu lo0 st' [(0,vP c 0),(2,Sn),(3,vI ((1) + r7)),(4,vS q t.length),(5,vI (i : Int)),(13,vB false)] fun _ => ?_
  refine cxs ?_
  exact cxs (Rt ⟨q,t,rfl,⟨by omega,by omega⟩,hr,hF,hC⟩)
 ·replace h13 : (i : Int) < ((1) + r7) := of_decide_eq_true h13
  refine Cu lo0 st' [(0,vP c 0),(2,Sn),(3,vI ((1) + r7)),(4,vS q t.length),(5,vI (i : Int)),(13,vB true)] fun _ => ?_
  refine cxs ?_
  refine ⟨_,rfl,(ac_d_l3Right c st' hC (by first | assumption | omega)).mono ?_⟩
  rintro _ s19 ⟨u19,rfl,h19,hF19,hC19⟩
  have hb19 := big_ok h19
  refine ⟨_,rfl,(ac_spec_MarksOf u19 s19 (hF19.1.rdS) (by first | assumption | omega)).mono ?_⟩
  rintro _ s20 ⟨q20,rfl,hO20,hP20,hN20⟩
  have hF20 := (hF.join hF19).step hP20
  have hst : szOk t.length := by unfold szOk; omega
  have hsr : ∀ r ∈ t,szOk r.l.length := fun r hr' => by rw [hr r hr']; unfold szOk; omega
  refine ⟨_,rfl,(ac_spec_TableAdd q q20 t (i : Int) (marksF (goneAt u19.x) 5) s20 hF20.left.1.rdT (hO20.rows len_cFlr) hst hsr (szm _)).mono ?_⟩
  rintro _ s21 ⟨q21,u21,rfl,h21,h21',hO21,hN21,hP21⟩
  refine AW.cut lo0 s21 [(0,vP c 0),(2,Sn),(3,vI ((1) + r7)),(4,vS q21 u21.length),(5,vI (i : Int)),(13,vB true)] ⟨rfl,rfl,rfl,congrArg (vS q21) h21.symm,rfl,rfl,trivial⟩ fun _ => ?_
  have hF21 : FrC c st s21 (pcT q21 u21) := ((Frs.toT hO21 hN21 hP21).toC hF20.lt).sooner hF20.2.2.1 hc.lt
  have hC21 := (hC19.pres hP20).pres hP21
  have ew15 : IntKind.wrap .i64 ((i : Int) + (1)) = ((i + 1 : Nat) : Int) := (wrap_i64 (by omega) (by omega)).trans (by omega)
  refine ⟨_,rfl,?_⟩
  exact ⟨(i + 1,q21,u21),(1 + r7).toNat - (i + 1),by omega,⟨rfl,rfl,rfl,rfl,congrArg (Value.int .i64) ew15,trivial⟩,rfl,rfl,by simp only; omega,by simp only; rw [h21]; exact hl,lens_all (by rw [h21']; exact tableAdd_lens _ _ _) hr,hF21,hC21⟩
abbrev Hold (L : List Pc) (R : St → Prop) : Prop := ∀ s,OwnP s L → R s
section
variable {P : Program} {ls : List Tmp} {call : ACallT} {o : Oper} {e : Operand → Value} {lo : Lo} {st : St}
theorem op_slH {t el : TypeId} {x w : Operand} {p : Option Addr} {n j z : Nat} {b : Int} (ho : o.op = .slice t x none (some w) none) (hx : e x = .slice p n n) (hw : e w = vI b) (hb : b = (j : Int)) (he : telem P t = some el) (hz : tsize P el = some z) (h1 : j ≤ n) : aoper P ls call o e lo st = some (.slice p j j,lo,st) := by
 obtain ⟨d,op,ty,pos,after,gd⟩ := o
 simp only at ho
 subst ho hb
 have hp : (p.map fun q => (⟨q.block,q.off + 0 * z,q.spot⟩ : Addr)) = p := by cases p <;> simp
 simp only [aoper,rop,hx,hw,aslice,he,hz,Option.bind_some,Option.map_none,Option.map_some,abound,Option.bind]
 rw [if_pos (Int.natCast_nonneg j)]
 simp only [Int.toNat_natCast]
 rw [if_pos ⟨Nat.zero_le _,h1⟩,hp]
 rfl
end
theorem hold_cut {q : Option Addr} {t : List RV} {r : RV} (h0 : t[0]? = some r) (k : Nat) : Hold (pcR 1 cRV q (t.set 0 ⟨r.p,r.l.take k⟩) :: t.map pcRV) fun s => RdT s q (t.set 0 ⟨r.p,r.l.take k⟩) := fun s h => by
 have hrow : ∀ x ∈ t,Rows s 1 fI x.p x.l := fun x hx => (pc_own (f := fI) Nat.one_pos fI_len (h.1 (pcRV x) (List.mem_cons_of_mem _ (List.mem_map_of_mem hx)))).rows fI_len
 refine ⟨(pc_own (f := cRV) Nat.one_pos cRV_len (h.1 _ (List.mem_cons_self ..))).rows cRV_len,fun x hx => ?_⟩
 rcases List.mem_or_eq_of_mem_set hx with hx | rfl
 ·exact hrow x hx
 ·exact (hrow r (List.mem_of_getElem? h0)).take k
theorem ac_d_l9Draw {p : Option Addr} {bs : List Int} (c : Nat) (st : St) (hc : Cur st c p bs) (hs : bs.length < 1099511627776) : C 144 [vP c 0] st (fun v s => ∃ (q : Option Addr) (t : List RV) (L : List Pc),v = vS q t.length ∧ (t.length ≤ 4 ∧ ∀ r ∈ t,r.l.length ≤ 5) ∧ FrC c st s L ∧ Hold L (fun s' => RdT s' q t) ∧ Cur s c p bs) := by
 refine AC.enterX (i := ⟨[],[],[0,2,3,7,8,16,25],[]⟩) [(2006,[],[1]),(6,[4,5],[2])] Tryz.func144 rfl rfl (by kernel_rfl) (by kernel_rfl) Tryz.ntmps144 (Lb rfl) rfl ?_
 refine Cu lo0 st [(0,vP c 0),(2,Sn)] fun _ => ?_
 refine ⟨_,rfl,(ac_d_l9Right c st hc (by first | assumption | omega)).mono ?_⟩
 rintro _ s5 ⟨q5,t5,rfl,h5,h5',hF5,hC5⟩
 refine Cu lo0 s5 [(0,vP c 0),(2,Sn),(3,vS q5 t5.length)] fun _ => ?_
 refine ⟨_,rfl,(ac_d_l1Below c 12 s5 hC5 (by first | assumption | omega)).mono ?_⟩
 rintro _ s7 ⟨r7,rfl,h7,h7',h7'',hC7,hL7⟩
 refine Cu lo0 s7 [(0,vP c 0),(2,Sn),(3,vS q5 t5.length),(7,vI r7)] fun _ => ?_
 have hF7 := hF5.later hL7
 have hR7 := hF7.1.rdT
 have hsz : t5.length ≤ 4 ∧ ∀ r ∈ t5,r.l.length ≤ 5 := ⟨h5.2,fun r hr => Nat.le_of_eq (h5' r hr)⟩
 have hl0 : 0 < t5.length := h5.1
 refine ⟨_,rfl,?_⟩
 rintro (_|_) h9
 ·replace h9 : ¬ (r7 = (0)) := beq_eq_false_iff_ne.1 h9
  refine Cu lo0 s7 [(0,vP c 0),(2,Sn),(3,vS q5 t5.length),(7,vI r7),(8,vB false)] fun _ => ?_
  refine ⟨_,rfl,?_⟩
  rintro (_|_) h17
  ·replace h17 : ¬ (r7 = (1)) := beq_eq_false_iff_ne.1 h17
   refine Cu lo0 s7 [(0,vP c 0),(2,Sn),(3,vS q5 t5.length),(7,vI r7),(16,vB false)] fun _ => ?_
   refine ⟨_,rfl,?_⟩
   rintro (_|_) h26
   ·replace h26 : ¬ (r7 = (2)) := beq_eq_false_iff_ne.1 h26
    refine Cu lo0 s7 [(2,Sn),(3,vS q5 t5.length),(25,vB false)] fun _ => ?_
    refine cxs ?_
    exact cxs (Rt ⟨q5,t5,_,rfl,hsz,hF7,fun s' hO => hO.rdT,hC7⟩)
   ·replace h26 : r7 = (2) := beq_iff_eq.1 h26
    refine Cu lo0 s7 [(2,Sn),(3,vS q5 t5.length),(25,vB true)] fun _ => ?_
    refine cxs ?_
    exact cxs (Rt ⟨none,[],[],rfl,⟨Nat.zero_le _,fun r hr => (nomatch hr)⟩,⟨OwnP.nil,NewP.nil,hF7.2.2⟩,fun s' _ => ⟨Rows.nil,fun r hr => (nomatch hr)⟩,hC7⟩)
  ·replace h17 : r7 = (1) := beq_iff_eq.1 h17
   refine Cu lo0 s7 [(0,vP c 0),(2,Sn),(3,vS q5 t5.length),(7,vI r7),(16,vB true)] fun _ => ?_
   refine ⟨(fun a => a < s7.next ∧ a ≠ c),?_⟩
   refine op_at 0 hR7.1 (by omega) rfl rfl rfl rfl rfl rfl rfl ?_
   intro x19 b19 d19 k19 hy19 hb19 hm19 hc19 ho19
   have hm20 : x19 ∈ t5 := List.mem_of_getElem? hy19
   have hx5 : x19.l.length = 5 := h5' _ hm20
   have hne : b19 ≠ c := by
    obtain ⟨a,ha⟩ := (hF7.1.outer).some hl0
    obtain ⟨o,ho⟩ := ho19
    have := hF7.2.1 _ (List.mem_cons_self ..) ⟨b19,o,none⟩ ho
    exact Nat.ne_of_gt (Nat.lt_of_lt_of_le hc.lt this)
   refine ⟨_,op_ldc (i := 0) rfl rfl rfl rfl hm19 hc19 rfl rfl,?_⟩
   refine ⟨ld_lt rfl rfl ⟨hb19,hne⟩,?_⟩
   refine op_litI (k := .i64) (l := [-1,1001]) rfl rfl rfl rfl rfl rfl (Lb rfl) ?_
   intro q22 s22 hO22 hP22 hN22
   refine ⟨fun a ha => hP22.2 a ha.1,?_⟩
   refine ⟨_,rfl,(ac_d_l1PickInt c q22 [-1,1001] s22 (hC7.pres hP22) hs (by decide) hO22 (NC.new hN22 hC7.lt)).mono ?_⟩
   rintro _ s23 ⟨r23,rfl,h23,hC23,hL23⟩
   refine ⟨fun a ha => hL23.2 a (Nat.lt_of_lt_of_le ha.1 hP22.1) ha.2,?_⟩
   have hF23 := (hF7.step hP22).later hL23
   have hO23 : OwnR s23 1 fI x19.p x19.l := hF23.1.row hm20
   obtain ⟨a,ha⟩ := hO23.some (by omega)
   refine ⟨_,op_idx (j := 0) (n := x19.l.length) (q := ⟨a,0,none⟩) rfl (congrArg (fun v => vS v x19.l.length) ha) rfl rfl rfl (Int.le_refl 0) (by omega),?_⟩
   refine op_put (st := s23) (f := fI) (j := 0) (l := x19.l) (y := r23) (p := x19.p) (d := 0 + (0 : Int).toNat * 1) rfl rfl rfl rfl rfl fI_len rfl rfl (by omega) hO23 ha ?_
   intro s24 hO24 hP24 hn24
   refine cxs ?_
   refine cxs ?_
   have hNq : New st.next x19.p := hF23.2.1 (pcRV x19) (List.mem_cons_of_mem _ (List.mem_map_of_mem hm20))
   have hPC := PresC.thenNew hF23.2.2.1 hP24 hNq
   have hput : OwnP s24 (pcT q5 (putT t5 0 ⟨x19.p,x19.l.set 0 r23⟩)) := OwnP.put (l := x19.l) (by rw [show (⟨x19.p,x19.l⟩ : RV) = x19 from rfl,putT_self hy19]; exact hF23.1) hP24 hO24 List.length_set
   have hlen := putT_len (x := (⟨x19.p,x19.l.set 0 r23⟩ : RV)) hl0
   refine ⟨.inl rfl,_,rfl,q5,_,_,congrArg (vS q5) hlen.symm,⟨by rw [hlen]; exact h5.2,fun r hr => ?_⟩,⟨hput,fun x hx => ?_,hPC,hc.lt⟩,fun s' hO => hO.rdT,hC23.thenNew hc hF23.2.2.1 hP24 hNq⟩
   ·rcases List.mem_append.1 hr with hr | hr
    ·exact hsz.2 r (List.mem_of_mem_take hr)
    ·rcases List.mem_cons.1 hr with rfl | hr
     ·simp only [List.length_set]; omega
     ·exact hsz.2 r (List.mem_of_mem_drop hr)
   ·rcases List.mem_cons.1 hx with rfl | hx
    ·exact hF23.2.1 (pcR 1 cRV q5 t5) (List.mem_cons_self ..)
    ·obtain ⟨r,hr,rfl⟩ := List.mem_map.1 hx
     rcases List.mem_append.1 hr with hr | hr
     ·exact hF23.2.1 _ (List.mem_cons_of_mem _ (List.mem_map_of_mem (List.mem_of_mem_take hr)))
     ·rcases List.mem_cons.1 hr with rfl | hr
      ·exact hNq
      ·exact hF23.2.1 _ (List.mem_cons_of_mem _ (List.mem_map_of_mem (List.mem_of_mem_drop hr)))
 ·replace h9 : r7 = (0) := beq_iff_eq.1 h9
  refine Cu lo0 s7 [(0,vP c 0),(2,Sn),(3,vS q5 t5.length),(7,vI r7),(8,vB true)] fun _ => ?_
  refine op_at 0 hR7.1 (by omega) rfl rfl rfl rfl rfl rfl rfl ?_
  intro x12 b12 d12 k12 hy12 hb12 hm12 hc12 ho12
  refine ⟨_,op_ldc (i := 0) rfl rfl rfl rfl hm12 hc12 rfl rfl,?_⟩
  have hx5 : x12.l.length = 5 := h5' _ (List.mem_of_getElem? hy12)
  refine ⟨_,op_slH (p := x12.p) (n := x12.l.length) (j := 3) rfl rfl rfl rfl rfl rfl (by omega),?_⟩
  have hO7 : OwnR s7 1 cRV q5 t5 := hF7.1.outer
  obtain ⟨a,ha⟩ := hO7.some hl0
  refine ⟨_,op_idx (j := 0) (n := t5.length) (q := ⟨a,0,none⟩) rfl (congrArg (fun v => vS v t5.length) ha) rfl rfl rfl (Int.le_refl 0) (by omega),?_⟩
  refine op_put (st := s7) (f := cRV) (j := 0) (l := t5) (y := (⟨x12.p,x12.l.take 3⟩ : RV)) (p := q5) (d := 0 + (0 : Int).toNat * 1) rfl rfl rfl rfl rfl cRV_len (congrArg (fun n => [vS x12.p n]) (show 3 = (x12.l.take 3).length by rw [List.length_take]; omega)) rfl hl0 hO7 ha ?_
  intro s15 hO15 hP15 hn15
  refine cxs ?_
  refine cxs ?_
  have hNq : New st.next q5 := hF7.2.1 _ (List.mem_cons_self ..)
  have hPC := PresC.thenNew hF7.2.2.1 hP15 hNq
  refine ⟨.inl rfl,_,rfl,q5,_,_,congrArg (vS q5) List.length_set.symm,⟨by rw [List.length_set]; exact h5.2,fun r hr => ?_⟩,⟨OwnP.update (l := []) (d := pcR 1 cRV q5 (t5.set 0 ⟨x12.p,x12.l.take 3⟩)) hF7.1 hP15 (own_pc hO15) rfl,NewP.cons hNq (fun x hx => hF7.2.1 x (List.mem_cons_of_mem _ hx)),hPC,hc.lt⟩,hold_cut hy12 3,hC7.thenNew hc hF7.2.2.1 hP15 hNq⟩
  rcases List.mem_or_eq_of_mem_set hr with hr | rfl
  ·exact hsz.2 r hr
  ·simp only [List.length_take]; omega
theorem FrC.perm {c : Nat} {a b : St} {l m : List Pc} (h : FrC c a b l) (hp : l.Perm m) : FrC c a b m := ⟨h.1.perm hp,fun x hx => h.2.1 x (hp.mem_iff.2 hx),h.2.2⟩
theorem FrC.swap {c : Nat} {a b d : St} {A C D B : List Pc} (h : FrC c a b (A ++ (C ++ B))) (hF : FrC c b d D) : FrC c a d (A ++ (D ++ B)) :=
 ((h.join hF).perm (m := C ++ (A ++ (D ++ B))) (by
  classical
  exact List.perm_iff_count.2 fun x => by simp only [List.count_append]; omega)).right
theorem FrC.setMid {c : Nat} {a b d : St} {A B : List Pc} {x y : Pc} (h : FrC c a b (A ++ x :: B)) (hp : Pr x.p b d) (hd : y.own d) (he : y.p = x.p) : FrC c a d (A ++ y :: B) ∧ PresC c a d :=
 have hm : New a.next x.p := h.2.1 x (List.mem_append_right _ (List.mem_cons_self ..))
 have hP := PresC.thenNew h.2.2.1 hp hm
 ⟨⟨h.1.update hp hd he,fun z hz => by
  rcases List.mem_append.1 hz with hz | hz
  ·exact h.2.1 z (List.mem_append_left _ hz)
  ·rcases List.mem_cons.1 hz with rfl | hz
   ·rw [he]; exact hm
   ·exact h.2.1 z (List.mem_append_right _ (List.mem_cons_of_mem _ hz)),hP,h.2.2.2⟩,hP⟩
theorem FrC.ndE {c : Nat} {a b d : St} {v : NW} {u : TT} (h : FrC c a b (pcNW v)) (hF : FrC c b d (pcTT u)) : FrC c a d (pcNW { v with seen := u }) := by
 have e : ∀ x : TT,pcNW { v with seen := x } = (pcS v.s ++ (pcIs v.t.toRV ++ (pcLog v.g ++ (pcIs v.got ++ pcIs v.acked)))) ++ (pcTT x ++ (pcSes v.sess ++ pcRis v.rises)) := fun x => by simp only [List.append_assoc]
 rw [e]
 exact FrC.swap (C := pcTT v.seen) (by rw [← e]; exact h) hF
theorem FrC.gotSet {c : Nat} {a b d : St} {v : NW} {l : List Int} (h : FrC c a b (pcNW v)) (hp : Pr v.got.p b d) (hO : OwnR d 1 fI v.got.p l) : FrC c a d (pcNW { v with got := ⟨v.got.p,l⟩ }) ∧ PresC c a d := by
 have h : FrC c a b (pcNW { v with got := v.got }) := h
 rw [NW.gotAt] at h ⊢
 exact FrC.setMid (x := pcR 1 fI v.got.p v.got.l) h hp (own_pc hO) rfl
theorem FrC.ackedSet {c : Nat} {a b d : St} {v : NW} {l : List Int} (h : FrC c a b (pcNW v)) (hp : Pr v.acked.p b d) (hO : OwnR d 1 fI v.acked.p l) : FrC c a d (pcNW { v with acked := ⟨v.acked.p,l⟩ }) ∧ PresC c a d := by
 have h : FrC c a b (pcNW { v with acked := v.acked }) := h
 rw [NW.ackedAt] at h ⊢
 exact FrC.setMid (x := pcR 1 fI v.acked.p v.acked.l) h hp (own_pc hO) rfl
theorem NewP.got {n : Nat} {v : NW} (h : NewP n (pcNW v)) : New n v.got.p := by
 have h : NewP n (pcNW { v with got := v.got }) := h
 rw [NW.gotAt] at h
 exact h _ (List.mem_append_right _ (List.mem_cons_self ..))
theorem NewP.acked {n : Nat} {v : NW} (h : NewP n (pcNW v)) : New n v.acked.p := by
 have h : NewP n (pcNW { v with acked := v.acked }) := h
 rw [NW.ackedAt] at h
 exact h _ (List.mem_append_right _ (List.mem_cons_self ..))
theorem node_big {x : Nd} (h : nodeOk x) : bigN x := by
 have h1 := tree_len x.s
 have h2 := h.g.2.1
 have h3 := h.g.1.2
 have h4 := h.got.2.1
 have h5 := h.acked.2.1
 have h6 := h.n.2
 have h7 := h.seen.2.1
 have h8 := h.sess.1
 have h9 := h.slots.2
 have h10 := h.rises.1
 refine ⟨big_ok h.s,by rw [h.t]; unfold szOk; omega,⟨by unfold szOk; omega,fun s hs => big_ok (h.g.2.2.2.2 s hs)⟩,by unfold szOk; omega,by unfold szOk; omega,⟨by unfold szOk; omega,fun l hl => by have := (h.seen.2.2 l hl).1; unfold szOk; omega⟩,by unfold szOk; omega,by unfold szOk; omega⟩
theorem say_node {x : Nd} {kind id : Int} {d : ByteArray} (h : nodeOk x) : nodeOk (sayF x kind id d).1 ∧ (sayF x kind id d).1.n = x.n := by
 unfold sayF
 split
 ·split
  ·rename_i hk h0
   obtain ⟨gl,bl,hA⟩ : ∃ gl bl,(gl,bl) = addL x.g (sayS x.s kind id d).1 := ⟨_,_,rfl⟩
   rw [← hA]
   have hs : stateOk (sayS x.s kind id d).1 := say_ok (s := x.s) (kind := kind) (id := id) (data := d) (by rw [← h0])
   cases bl with
   | true => rw [if_pos rfl]; exact ⟨take_ok (said_ok h (addL_yes hA)).2 hs,rfl⟩
   | false => rw [if_neg Bool.false_ne_true]; exact ⟨h,rfl⟩
  ·exact ⟨h,rfl⟩
 ·exact ⟨h,rfl⟩
theorem syn_n {x : Nd} {to : Int} : (synF x to).1.n = x.n := by
 unfold synF
 split <;> rfl
theorem tick_n {x : Nd} : (tickF x).n = x.n := by
 unfold tickF
 split <;> rfl
theorem ac_d_l11Right {p : Option Addr} {bs : List Int} (c : Nat) (st : St) (hc : Cur st c p bs) (hs : bs.length < 1099511627776) : C 142 [vP c 0] st (fun v s => ∃ u : NW,v = (vNV u) ∧ nodeOk u.x ∧ FrC c st s (pcNW u) ∧ Cur s c p bs) := by
 refine AC.enterX (i := ⟨[2,4],[2,4,67,76,94,97,103,107],[0,2,3,4,6,7,8,36,40,55,61,65,77,90,96],[]⟩) [(2010,[],[1]),(2014,[],[1]),(2016,[],[1]),(2021,[],[1]),(2022,[],[1]),(2008,[],[1]),(10,[2],[0]),(14,[4,6,7],[1]),(16,[3],[0]),(8,[2,5,7,8],[0]),(21,[4],[1]),(22,[6,8],[1])] Tryz.func142 rfl rfl (by kernel_rfl) (by kernel_rfl) Tryz.ntmps142 (Lb rfl) rfl ?_
 refine ⟨_,rfl,?_⟩
 refine Cm 1 st [(0,vP c 0),Ml 2 0] [(2,0,Zn)] fun _ _ => ?_
 refine ⟨_,rfl,(ac_d_l1Below c 4 st hc (by first | assumption | omega)).mono ?_⟩
 rintro _ s10 ⟨r10,rfl,h10,h10',h10'',hC10,hL10⟩
 have ew11 : IntKind.wrap .i64 ((1) + r10) = (1) + r10 := wrap_i64 (by omega) (by omega)
 refine ⟨_,rfl,?_⟩
 refine AW.cutM (1) s10 [(0,vP c 0),Ml 2 0,(3,vI ((1) + r10))] [(2,0,Zn)] ⟨rfl,rfl,congrArg (Value.int .i64) ew11,trivial⟩ ⟨rfl,trivial⟩ rfl fun _ _ => ?_
 refine ⟨_,rfl,(ac_d_l1Below c ((1) + r10) s10 hC10 (by first | assumption | omega)).mono ?_⟩
 rintro _ s15 ⟨r15,rfl,h15,h15',h15'',hC15,hL15⟩
 refine op_litI (k := .i64) (l := [1,2,8]) rfl rfl rfl rfl rfl rfl (Lb rfl) ?_
 intro q18 s18 hO18 hP18 hN18
 refine ⟨_,rfl,(ac_d_l1PickInt c q18 ([1,2,8]) s18 (hC15.pres hP18) (by first | assumption | omega) (by first | assumption | omega | decide) (by first | assumption | omega) (by first | assumption | exact NC.new (by assumption) (Cur.lt (by assumption)))).mono ?_⟩
 rintro _ s19 ⟨r19,rfl,h19,hC19,hL19⟩
 refine ⟨_,rfl,(ac_d_l1Below c 3 s19 hC19 (by first | assumption | omega)).mono ?_⟩
 rintro _ s21 ⟨r21,rfl,h21,h21',h21'',hC21,hL21⟩
 have ew22 : IntKind.wrap .i64 ((1) + r21) = (1) + r21 := wrap_i64 (by omega) (by omega)
 refine ⟨_,rfl,?_⟩
 refine ⟨_,rfl,(ac_d_l1Below c 5 s21 hC21 (by first | assumption | omega)).mono ?_⟩
 rintro _ s24 ⟨r24,rfl,h24,h24',h24'',hC24,hL24⟩
 have ew25 : IntKind.wrap .i64 ((1) + r24) = (1) + r24 := wrap_i64 (by omega) (by omega)
 refine ⟨_,rfl,?_⟩
 refine ⟨_,rfl,(ac_d_l1Below c 6 s24 hC24 (by first | assumption | omega)).mono ?_⟩
 rintro _ s27 ⟨r27,rfl,h27,h27',h27'',hC27,hL27⟩
 have ew28 : IntKind.wrap .i64 ((1) + r27) = (1) + r27 := wrap_i64 (by omega) (by omega)
 refine ⟨_,rfl,?_⟩
 refine ⟨_,rfl,(ac_spec_NodeNew r15 ((1) + r10) r19 (IntKind.wrap .i64 ((1) + r21)) (IntKind.wrap .i64 ((1) + r24)) (IntKind.wrap .i64 ((1) + r27)) s27).mono ?_⟩
 rintro _ s29 ⟨u29,b29,rfl,h29,hO29,hN29,hP29⟩
 rw [ew22,ew25,ew28] at h29
 iterate 3 refine ⟨_,rfl,?_⟩
 refine ⟨_,op_stw (vs := cNV u29.v) rfl rfl rfl rfl rfl rfl rfl rfl,?_⟩
 refine Cm 2 s29 [(0,vP c 0),Ml 2 0,(3,vI ((1) + r10)),Ml 4 1] [(2,0,Zn),(4,1,cNV u29.v)] fun _ _ => ?_
 have hcap : 1 ≤ r19 ∧ r19 ≤ 8 := by simp only [List.mem_cons,List.not_mem_nil,or_false] at h19; omega
 have hPP := (((((hL10.trans hL15).trans hP18.c).trans hL19).trans hL21).trans hL24).trans hL27
 have hF29 : FrC c st s29 (pcNW u29) := ((Frs.toC ⟨hO29,hN29,hP29⟩ hC27.lt).sooner hPP hc.lt)
 have hC29 := hC27.pres hP29
 obtain ⟨hk29,he29⟩ := newF_ok h29 (by omega) (by omega) hcap (by omega) (by omega) (by omega)
 have hn29 : u29.n = 1 + r10 := congrArg Nd.n he29
 refine ⟨_,rfl,(ac_d_l1Below c 8 s29 hC29 (by first | assumption | omega)).mono ?_⟩
 rintro _ s33 ⟨r33,rfl,h33,h33',h33'',hC33,hL33⟩
 refine cxs ?_
 have hF33 := hF29.later hL33
 refine Cm 2 s33 [(0,vP c 0),Ml 2 0,(3,vI ((1) + r10)),Ml 4 1,(6,vI r33),(7,vI 0)] [(2,0,Zn),(4,1,cNV u29.v)] fun _ _ => ?_
 refine AW.loopM (fun x : Nat × NW => [(0,vP c 0),(2,vL 2 0 (0)),(3,vI ((1) + r10)),(4,vL 4 0 (1)),(6,vI r33),(7,vI (x.1 : Int))]) (fun x : Nat × NW => [(2,0,[vI 0,vI 0,.slice none 0 0,.slice none 0 0,.slice none 0 0,vI 0,vI 0,vI 0,.slice none 0 0,.slice none 0 0,.slice none 0 0,.slice none 0 0,vI 0,vI 0,.slice none 0 0,vI 0,vI 0,vI 0,.slice none 0 0]),(4,1,[vI x.2.id,vI x.2.n,vS x.2.s.p x.2.s.x.items.length,vS x.2.s.q x.2.s.x.floors.length,vS x.2.t.p x.2.t.l.length,vI x.2.t.root,vI x.2.g.cap,vI x.2.g.frm,vS x.2.g.p x.2.g.l.length,vS x.2.got.p x.2.got.l.length,vS x.2.acked.p x.2.acked.l.length,vS x.2.seen.p x.2.seen.t.length,vI x.2.num,vI x.2.slots,vS x.2.sess.p x.2.sess.l.length,vI x.2.wait,vI x.2.limit,vI x.2.clock,vS x.2.rises.p x.2.rises.l.length])]) (fun m (x : Nat × NW) st' => m = r33.toNat - x.1 ∧ (x.1 : Int) ≤ r33 ∧ nodeOk x.2.x ∧ x.2.n = 1 + r10 ∧ FrC c st st' (pcNW x.2) ∧ Cur st' c p bs) (0,u29) _ ⟨rfl,rfl,rfl,rfl,rfl,rfl,trivial⟩ ⟨rfl,rfl,trivial⟩ ⟨rfl,by simp only; omega,hk29,hn29,hF33,hC33⟩ ?_
 rintro m ⟨i,u⟩ ρ0 ff gg st' ⟨rfl,hi,hk,hsz,hF,hC⟩
 simp only at hi hk hsz hF
 refine ⟨_,rfl,?_⟩
 rintro (_|_) h36
 ·replace h36 : ¬ ((i : Int) < r33) := of_decide_eq_false h36
  refine Cm gg st' [(0,vP c 0),Ml 2 0,(3,vI ((1) + r10)),Ml 4 1,(6,vI r33),(7,vI (i : Int)),(36,vB false)] [(2,0,Zn),(4,1,cNV u.v)] fun _ _ => ?_
  have hb := node_big hk
  refine cxs ?_
  refine Cm gg st' [(0,vP c 0),Ml 2 0,(3,vI ((1) + r10)),Ml 4 1,(8,vI 0)] [(2,0,Zn),(4,1,cNV u.v)] fun _ _ => ?_
  refine AW.loopM (fun x : Nat × NW => [(0,vP c 0),(2,vL 2 0 (0)),(3,vI ((1) + r10)),(4,vL 4 0 (1)),(8,vI (x.1 : Int))]) (fun x : Nat × NW => [(2,0,[vI 0,vI 0,.slice none 0 0,.slice none 0 0,.slice none 0 0,vI 0,vI 0,vI 0,.slice none 0 0,.slice none 0 0,.slice none 0 0,.slice none 0 0,vI 0,vI 0,.slice none 0 0,vI 0,vI 0,vI 0,.slice none 0 0]),(4,1,[vI x.2.id,vI x.2.n,vS x.2.s.p x.2.s.x.items.length,vS x.2.s.q x.2.s.x.floors.length,vS x.2.t.p x.2.t.l.length,vI x.2.t.root,vI x.2.g.cap,vI x.2.g.frm,vS x.2.g.p x.2.g.l.length,vS x.2.got.p x.2.got.l.length,vS x.2.acked.p x.2.acked.l.length,vS x.2.seen.p x.2.seen.t.length,vI x.2.num,vI x.2.slots,vS x.2.sess.p x.2.sess.l.length,vI x.2.wait,vI x.2.limit,vI x.2.clock,vS x.2.rises.p x.2.rises.l.length])]) (fun m (x : Nat × NW) st' => m = (1 + r10).toNat - x.1 ∧ (x.1 : Int) ≤ 1 + r10 ∧ nodeOk x.2.x ∧ x.2.n = 1 + r10 ∧ FrC c st st' (pcNW x.2) ∧ Cur st' c p bs) (0,u) _ ⟨rfl,rfl,rfl,rfl,rfl,trivial⟩ ⟨rfl,rfl,trivial⟩ ⟨rfl,by simp only; omega,hk,hsz,hF,hC⟩ ?_
  rintro m ⟨j,w⟩ ρ0 ff gg st' ⟨rfl,hi2,hk2,hsz2,hF2,hC2⟩
  simp only at hi2 hk2 hsz2 hF2
  refine ⟨_,rfl,?_⟩
  rintro (_|_) h90
  ·replace h90 : ¬ ((j : Int) < ((1) + r10)) := of_decide_eq_false h90
   refine Cm gg st' [(0,vP c 0),Ml 2 0,(3,vI ((1) + r10)),Ml 4 1,(8,vI (j : Int)),(90,vB false)] [(2,0,Zn),(4,1,cNV w.v)] fun _ _ => ?_
   refine cxs ?_
   refine ⟨_,op_ldo (v := (vNV w.v)) rfl rfl rfl rfl,?_⟩
   refine ⟨_,op_stw (vs := cNV w.v) rfl rfl rfl rfl rfl rfl rfl rfl,?_⟩
   exact cxs (Rt ⟨w,rfl,hk2,hF2,hC2⟩)
  ·replace h90 : (j : Int) < ((1) + r10) := of_decide_eq_true h90
   refine Cm gg st' [(0,vP c 0),Ml 2 0,(3,vI ((1) + r10)),Ml 4 1,(8,vI (j : Int)),(90,vB true)] [(2,0,Zn),(4,1,cNV w.v)] fun _ _ => ?_
   have hgl : j < w.got.l.length := by have h := hk2.got.2.1; have h' : (w.got.l.length : Int) = w.n := h; omega
   have hal : j < w.acked.l.length := by have h := hk2.acked.2.1; have h' : (w.acked.l.length : Int) = w.n := h; omega
   refine cxs ?_
   refine ⟨_,rfl,?_⟩
   refine ⟨_,Od rfl,?_⟩
   refine ⟨_,rfl,?_⟩
   rintro (_|_) h96
   ·replace h96 : (j : Int) = w.id := bne_eq_false_iff_eq.1 h96
    refine Cm gg st' [(0,vP c 0),Ml 2 0,(3,vI ((1) + r10)),Ml 4 1,(8,vI (j : Int)),(90,vB true),(96,vB false)] [(2,0,Zn),(4,1,cNV w.v)] fun _ _ => ?_
    refine cxs ?_
    refine ⟨fun _ => False,?_⟩
    refine ⟨_,rfl,?_⟩
    refine ⟨_,Od rfl,?_⟩
    refine ⟨ld_own rfl rfl rfl,?_⟩
    refine ⟨_,rfl,?_⟩
    refine ⟨_,Od rfl,?_⟩
    refine ⟨_,rfl,(ac_spec_LogSeq w.g.v st' hF2.1.rdN.g (bigLog_iff.1 (node_big hk2).g)).mono ?_⟩
    rintro _ st' ⟨rfl,rfl⟩
    refine ⟨fun _ h => h.elim,?_⟩
    have hq := logSeq_rng w.g.v.x
    have ew110 : IntKind.wrap .i64 ((logSeq w.g.v.x) + (1)) = (logSeq w.g.v.x) + (1) := wrap_i64 (by omega) (by omega)
    refine ⟨_,rfl,?_⟩
    refine ⟨_,rfl,(ac_d_l1Below c (IntKind.wrap .i64 ((logSeq w.g.v.x) + (1))) st' hC2 (by first | assumption | omega)).mono ?_⟩
    rintro _ s111 ⟨r111,rfl,h111,h111',h111'',hC111,hL111⟩
    refine ⟨fun _ h => h.elim,?_⟩
    rw [ew110] at h111'
    rw [ew110] at h111''
    have hF111 := hF2.later hL111
    have hO2 : OwnR s111 1 fI w.acked.p w.acked.l := hF111.1.ownAcked
    obtain ⟨a2,ha2⟩ := hO2.some (by omega)
    refine ⟨_,op_idx (j := (j : Int)) (n := w.acked.l.length) (q := ⟨a2,0,none⟩) rfl (congrArg (fun v => vS v w.acked.l.length) ha2) rfl rfl rfl (Int.natCast_nonneg _) (by omega),?_⟩
    refine op_put (z := 1) (st := s111) (f := fI) (j := j) (l := w.acked.l) (y := r111) (p := w.acked.p) (d := 0 + j * 1) rfl rfl (Nat.zero_add _) rfl rfl fI_len rfl rfl hal hO2 ha2 ?_
    intro s10 hO10 hP10 hn10
    refine Cm gg s10 [(0,vP c 0),Ml 2 0,(3,vI ((1) + r10)),Ml 4 1,(8,vI (j : Int)),(90,vB true),(96,vB false)] [(2,0,Zn),(4,1,cNV w.v)] fun _ _ => ?_
    have hF10 := (hF111.ackedSet hP10 hO10).1
    have hC10 := hC111.thenNew hc hF111.2.2.1 hP10 hF111.2.1.acked
    have hk10 := acked_ok (i := j) (v := r111) hk2 (show 0 ≤ r111 ∧ r111 ≤ logSeq w.g.v.x by omega)
    have ew92 : IntKind.wrap .i64 ((j : Int) + (1)) = ((j + 1 : Nat) : Int) := (wrap_i64 (by omega) (by omega)).trans (by omega)
    refine ⟨_,rfl,?_⟩
    exact ⟨(j + 1,{ w with acked := ⟨w.acked.p,w.acked.l.set j r111⟩ }),(1 + r10).toNat - (j + 1),by omega,⟨rfl,rfl,rfl,rfl,congrArg (Value.int .i64) ew92,trivial⟩,⟨rfl,(show some (1,cNV w.v) = _ by rw [List.length_set]),trivial⟩,rfl,by simp only; omega,hk10,hsz2,hF10,hC10⟩
   ·replace h96 : ¬ ((j : Int) = w.id) := bne_iff_ne.1 h96
    refine Cm gg st' [(0,vP c 0),Ml 2 0,(3,vI ((1) + r10)),Ml 4 1,(8,vI (j : Int)),(90,vB true),(96,vB true)] [(2,0,Zn),(4,1,cNV w.v)] fun _ _ => ?_
    refine ⟨fun _ => False,?_⟩
    refine ⟨_,rfl,?_⟩
    refine ⟨_,Od rfl,?_⟩
    refine ⟨ld_own rfl rfl rfl,?_⟩
    refine ⟨_,rfl,(ac_d_l1Below c 4 st' hC2 (by first | assumption | omega)).mono ?_⟩
    rintro _ s101 ⟨r101,rfl,h101,h101',h101'',hC101,hL101⟩
    refine ⟨fun _ h => h.elim,?_⟩
    have hF101 := hF2.later hL101
    have hO : OwnR s101 1 fI w.got.p w.got.l := hF101.1.ownGot
    obtain ⟨a,ha⟩ := hO.some (by omega)
    refine ⟨_,op_idx (j := (j : Int)) (n := w.got.l.length) (q := ⟨a,0,none⟩) rfl (congrArg (fun v => vS v w.got.l.length) ha) rfl rfl rfl (Int.natCast_nonneg _) (by omega),?_⟩
    refine op_put (z := 1) (st := s101) (f := fI) (j := j) (l := w.got.l) (y := r101) (p := w.got.p) (d := 0 + j * 1) rfl rfl (Nat.zero_add _) rfl rfl fI_len rfl rfl hgl hO ha ?_
    intro s9 hO9 hP9 hn9
    refine Cm gg s9 [(0,vP c 0),Ml 2 0,(3,vI ((1) + r10)),Ml 4 1,(8,vI (j : Int)),(90,vB true),(96,vB true)] [(2,0,Zn),(4,1,cNV w.v)] fun _ _ => ?_
    have hF9 := (hF101.gotSet hP9 hO9).1
    have hC9 := hC101.thenNew hc hF101.2.2.1 hP9 hF101.2.1.got
    have hk9 : nodeOk { w.x with got := w.x.got.set j r101 } := got_ok hk2 h96 (by omega)
    refine ⟨fun _ => False,?_⟩
    refine ⟨_,rfl,?_⟩
    refine ⟨_,Od rfl,?_⟩
    refine ⟨ld_own rfl rfl rfl,?_⟩
    refine ⟨_,rfl,?_⟩
    refine ⟨_,Od rfl,?_⟩
    refine ⟨_,rfl,(ac_spec_LogSeq w.g.v s9 hF9.1.rdN.g (bigLog_iff.1 (node_big hk2).g)).mono ?_⟩
    rintro _ s9 ⟨rfl,rfl⟩
    refine ⟨fun _ h => h.elim,?_⟩
    have hq := logSeq_rng w.g.v.x
    have ew110 : IntKind.wrap .i64 ((logSeq w.g.v.x) + (1)) = (logSeq w.g.v.x) + (1) := wrap_i64 (by omega) (by omega)
    refine ⟨_,rfl,?_⟩
    refine ⟨_,rfl,(ac_d_l1Below c (IntKind.wrap .i64 ((logSeq w.g.v.x) + (1))) s9 hC9 (by first | assumption | omega)).mono ?_⟩
    rintro _ s111 ⟨r111,rfl,h111,h111',h111'',hC111,hL111⟩
    refine ⟨fun _ h => h.elim,?_⟩
    rw [ew110] at h111'
    rw [ew110] at h111''
    have hF111 := hF9.later hL111
    have hO2 : OwnR s111 1 fI w.acked.p w.acked.l := hF111.1.ownAcked
    obtain ⟨a2,ha2⟩ := hO2.some (by omega)
    refine ⟨_,op_idx (j := (j : Int)) (n := w.acked.l.length) (q := ⟨a2,0,none⟩) rfl (congrArg (fun v => vS v w.acked.l.length) ha2) rfl rfl rfl (Int.natCast_nonneg _) (by omega),?_⟩
    refine op_put (z := 1) (st := s111) (f := fI) (j := j) (l := w.acked.l) (y := r111) (p := w.acked.p) (d := 0 + j * 1) rfl rfl (Nat.zero_add _) rfl rfl fI_len rfl rfl hal hO2 ha2 ?_
    intro s10 hO10 hP10 hn10
    refine Cm gg s10 [(0,vP c 0),Ml 2 0,(3,vI ((1) + r10)),Ml 4 1,(8,vI (j : Int)),(90,vB true),(96,vB true)] [(2,0,Zn),(4,1,cNV w.v)] fun _ _ => ?_
    have hF10 := (hF111.ackedSet hP10 hO10).1
    have hC10 := hC111.thenNew hc hF111.2.2.1 hP10 hF111.2.1.acked
    have hk10 := acked_ok (i := j) (v := r111) hk9 (show 0 ≤ r111 ∧ r111 ≤ logSeq w.g.v.x by omega)
    have ew92 : IntKind.wrap .i64 ((j : Int) + (1)) = ((j + 1 : Nat) : Int) := (wrap_i64 (by omega) (by omega)).trans (by omega)
    refine ⟨_,rfl,?_⟩
    exact ⟨(j + 1,{ w with got := ⟨w.got.p,w.got.l.set j r101⟩,acked := ⟨w.acked.p,w.acked.l.set j r111⟩ }),(1 + r10).toNat - (j + 1),by omega,⟨rfl,rfl,rfl,rfl,congrArg (Value.int .i64) ew92,trivial⟩,⟨rfl,(show some (1,cNV w.v) = _ by rw [List.length_set,List.length_set]),trivial⟩,rfl,by simp only; omega,hk10,hsz2,hF10,hC10⟩
 ·replace h36 : (i : Int) < r33 := of_decide_eq_true h36
  refine Cm gg st' [(0,vP c 0),Ml 2 0,(3,vI ((1) + r10)),Ml 4 1,(6,vI r33),(7,vI (i : Int)),(36,vB true)] [(2,0,Zn),(4,1,cNV u.v)] fun _ _ => ?_
  have hb := node_big hk
  refine cxs ?_
  refine ⟨_,rfl,(ac_d_l1Below c 6 st' hC (by first | assumption | omega)).mono ?_⟩
  rintro _ s40 ⟨r40,rfl,h40,h40',h40'',hC40,hL40⟩
  refine Cm gg s40 [(0,vP c 0),Ml 2 0,(3,vI ((1) + r10)),Ml 4 1,(6,vI r33),(7,vI (i : Int)),(36,vB true),(40,vI r40)] [(2,0,Zn),(4,1,cNV u.v)] fun _ _ => ?_
  have hF40 := hF.later hL40
  refine ⟨_,rfl,?_⟩
  rintro (_|_) h56
  ·replace h56 : ¬ (r40 = (0)) := beq_eq_false_iff_ne.1 h56
   refine Cm gg s40 [(0,vP c 0),Ml 2 0,(3,vI ((1) + r10)),Ml 4 1,(6,vI r33),(7,vI (i : Int)),(36,vB true),(40,vI r40),(55,vB false)] [(2,0,Zn),(4,1,cNV u.v)] fun _ _ => ?_
   refine ⟨_,rfl,?_⟩
   rintro (_|_) h62
   ·replace h62 : ¬ (r40 = (1)) := beq_eq_false_iff_ne.1 h62
    refine Cm gg s40 [(0,vP c 0),Ml 2 0,(3,vI ((1) + r10)),Ml 4 1,(6,vI r33),(7,vI (i : Int)),(36,vB true),(40,vI r40),(55,vB false),(61,vB false)] [(2,0,Zn),(4,1,cNV u.v)] fun _ _ => ?_
    refine ⟨_,rfl,?_⟩
    rintro (_|_) h66
    ·replace h66 : ¬ (r40 = (2)) := beq_eq_false_iff_ne.1 h66
     refine Cm gg s40 [(0,vP c 0),Ml 2 0,(3,vI ((1) + r10)),Ml 4 1,(6,vI r33),(7,vI (i : Int)),(36,vB true),(40,vI r40),(55,vB false),(61,vB false),(65,vB false)] [(2,0,Zn),(4,1,cNV u.v)] fun _ _ => ?_
     refine ⟨_,rfl,?_⟩
     rintro (_|_) h78
     ·replace h78 : ¬ (r40 = (3)) := beq_eq_false_iff_ne.1 h78
      refine Cm gg s40 [(0,vP c 0),Ml 2 0,(3,vI ((1) + r10)),Ml 4 1,(6,vI r33),(7,vI (i : Int)),(36,vB true),(40,vI r40),(55,vB false),(61,vB false),(65,vB false),(77,vB false)] [(2,0,Zn),(4,1,cNV u.v)] fun _ _ => ?_
      refine ⟨fun _ => False,?_⟩
      refine ⟨_,op_ldo (v := (vNV u.v)) rfl rfl rfl rfl,?_⟩
      refine ⟨ld_own rfl rfl rfl,?_⟩
      refine ⟨_,rfl,(ac_d_l1Below c 5 s40 hC40 (by first | assumption | omega)).mono ?_⟩
      rintro _ s44 ⟨r44,rfl,h44,h44',h44'',hC44,hL44⟩
      refine ⟨fun _ h => h.elim,?_⟩
      refine ⟨_,rfl,(ac_d_l1Below c ((1) + r10) s44 hC44 (by first | assumption | omega)).mono ?_⟩
      rintro _ s47 ⟨r47,rfl,h47,h47',h47'',hC47,hL47⟩
      refine ⟨fun _ h => h.elim,?_⟩
      refine op_litS (l := [⟨#[]⟩,⟨#[120]⟩,⟨#[121,122]⟩]) rfl rfl rfl (Lb rfl) rfl rfl rfl (Lb rfl) ?_
      intro q49 s49 hO49 hP49 hN49
      refine ⟨fun _ h => h.elim,?_⟩
      refine ⟨_,rfl,(ac_d_l1Pick c q49 ([⟨#[]⟩,⟨#[120]⟩,⟨#[121,122]⟩]) s49 (hC47.pres hP49) (by first | assumption | omega) (by first | assumption | omega | decide) (by first | assumption | omega) (by first | assumption | exact NC.new (by assumption) (Cur.lt (by assumption)))).mono ?_⟩
      rintro _ s50 ⟨r50,rfl,h50,hC50,hL50⟩
      refine ⟨fun _ h => h.elim,?_⟩
      have hP50 := (((hF40.2.2.1.trans hL44).trans hL47).trans hP49.c).trans hL50
      refine ⟨_,rfl,(ac_spec_Say u.v r44 r47 r50 s50 ((((((hF40.later hL44).later hL47).step hP49).later hL50)).1.rdN) hb).mono ?_⟩
      rintro _ s51 ⟨u51,w51,c51,rfl,h51,hO51,hN51,hP51⟩
      iterate 3 refine ⟨_,rfl,?_⟩
      refine ⟨_,op_stw (vs := cNV u51.v) rfl rfl rfl rfl rfl rfl rfl rfl,?_⟩
      refine Cm gg s51 [(0,vP c 0),Ml 2 0,(3,vI ((1) + r10)),Ml 4 1,(6,vI r33),(7,vI (i : Int)),(36,vB true),(40,vI r40),(55,vB false),(61,vB false),(65,vB false),(77,vB false)] [(2,0,Zn),(4,1,cNV u51.v)] fun _ _ => ?_
      have hF51 : FrC c st s51 (pcNW u51) := ((Frs.toC (l := pcNW u51 ++ pcS w51) ⟨hO51,hN51,hP51⟩ hC50.lt).left).sooner hP50 hc.lt
      have he51 : u51.x = (sayF u.x r44 r47 r50).1 := congrArg Prod.fst h51
      have hk51 : nodeOk u51.x := by rw [he51]; exact (say_node hk).1
      have hn51 : u51.n = 1 + r10 := ((congrArg Nd.n he51).trans (say_node hk).2).trans hsz
      have hC51 := hC50.pres hP51
      have ew38 : IntKind.wrap .i64 ((i : Int) + (1)) = ((i + 1 : Nat) : Int) := (wrap_i64 (by omega) (by omega)).trans (by omega)
      refine ⟨_,rfl,?_⟩
      exact ⟨(i + 1,u51),r33.toNat - (i + 1),by omega,⟨rfl,rfl,rfl,rfl,rfl,congrArg (Value.int .i64) ew38,trivial⟩,⟨rfl,rfl,trivial⟩,rfl,by simp only; omega,hk51,hn51,hF51,hC51⟩
     ·replace h78 : r40 = (3) := beq_iff_eq.1 h78
      refine Cm gg s40 [(0,vP c 0),Ml 2 0,(3,vI ((1) + r10)),Ml 4 1,(6,vI r33),(7,vI (i : Int)),(36,vB true),(40,vI r40),(55,vB false),(61,vB false),(65,vB false),(77,vB true)] [(2,0,Zn),(4,1,cNV u.v)] fun _ _ => ?_
      refine ⟨fun _ => False,?_⟩
      refine ⟨_,op_ldo (v := (vNV u.v)) rfl rfl rfl rfl,?_⟩
      refine ⟨ld_own rfl rfl rfl,?_⟩
      refine ⟨_,rfl,(ac_d_l1Below c ((1) + r10) s40 hC40 (by first | assumption | omega)).mono ?_⟩
      rintro _ s83 ⟨r83,rfl,h83,h83',h83'',hC83,hL83⟩
      refine ⟨fun _ h => h.elim,?_⟩
      refine ⟨_,rfl,(ac_spec_Syn u.v r83 s83 ((hF40.later hL83).1.rdN) hb).mono ?_⟩
      rintro _ s84 ⟨u84,m84,b84,rfl,h84,hO84,hN84,hP84⟩
      iterate 3 refine ⟨_,rfl,?_⟩
      refine ⟨_,op_stw (vs := cNV u84.v) rfl rfl rfl rfl rfl rfl rfl rfl,?_⟩
      refine Cm gg s84 [(0,vP c 0),Ml 2 0,(3,vI ((1) + r10)),Ml 4 1,(6,vI r33),(7,vI (i : Int)),(36,vB true),(40,vI r40),(55,vB false),(61,vB false),(65,vB false),(77,vB true)] [(2,0,Zn),(4,1,cNV u84.v)] fun _ _ => ?_
      have hF84 : FrC c st s84 (pcNW u84) := ((Frs.toC (l := pcNW u84 ++ pcMV m84) ⟨hO84,hN84,hP84⟩ hC83.lt).left).sooner (hF40.2.2.1.trans hL83) hc.lt
      have he84 : u84.x = (synF u.x r83).1 := congrArg Prod.fst h84
      have hk84 : nodeOk u84.x := by rw [he84]; exact syn_ok hk
      have hn84 : u84.n = 1 + r10 := ((congrArg Nd.n he84).trans syn_n).trans hsz
      have hC84 := hC83.pres hP84
      have ew38 : IntKind.wrap .i64 ((i : Int) + (1)) = ((i + 1 : Nat) : Int) := (wrap_i64 (by omega) (by omega)).trans (by omega)
      refine ⟨_,rfl,?_⟩
      exact ⟨(i + 1,u84),r33.toNat - (i + 1),by omega,⟨rfl,rfl,rfl,rfl,rfl,congrArg (Value.int .i64) ew38,trivial⟩,⟨rfl,rfl,trivial⟩,rfl,by simp only; omega,hk84,hn84,hF84,hC84⟩
    ·replace h66 : r40 = (2) := beq_iff_eq.1 h66
     refine Cm gg s40 [(0,vP c 0),Ml 2 0,(3,vI ((1) + r10)),Ml 4 1,(6,vI r33),(7,vI (i : Int)),(36,vB true),(40,vI r40),(55,vB false),(61,vB false),(65,vB true)] [(2,0,Zn),(4,1,cNV u.v)] fun _ _ => ?_
     refine ⟨fun _ => False,?_⟩
     refine ⟨_,rfl,?_⟩
     refine ⟨_,Od rfl,?_⟩
     refine ⟨ld_own rfl rfl rfl,?_⟩
     refine ⟨_,rfl,(ac_d_l1Below c ((1) + r10) s40 hC40 (by first | assumption | omega)).mono ?_⟩
     rintro _ s71 ⟨r71,rfl,h71,h71',h71'',hC71,hL71⟩
     refine ⟨fun _ h => h.elim,?_⟩
     refine ⟨_,rfl,(ac_d_l3Right c s71 hC71 (by first | assumption | omega)).mono ?_⟩
     rintro _ s73 ⟨u73,rfl,h73,hF73,hC73⟩
     refine ⟨fun _ h => h.elim,?_⟩
     have hb73 := big_ok h73
     refine ⟨_,rfl,(ac_spec_MarksOf u73 s73 (hF73.1.rdS) (by first | assumption | omega)).mono ?_⟩
     rintro _ s74 ⟨q74,rfl,hO74,hP74,hN74⟩
     refine ⟨fun _ h => h.elim,?_⟩
     have hF74 := ((hF40.later hL71).later hF73.2.2.1).step hP74
     refine ⟨_,rfl,(uc_spec_TableAdd u.seen r71 q74 (marksF (goneAt u73.x) 5) s74 hF74.1.rdN.seen (hO74.rows len_cFlr) hb.seen (szm _)).mono ?_⟩
     rintro _ s75 ⟨u75,rfl,h75,h75',hO75,hN75,hP75⟩
     refine ⟨_,rfl,?_⟩
     refine ⟨_,Os rfl,?_⟩
     refine Cm gg s75 [(0,vP c 0),Ml 2 0,(3,vI ((1) + r10)),Ml 4 1,(6,vI r33),(7,vI (i : Int)),(36,vB true),(40,vI r40),(55,vB false),(61,vB false),(65,vB true)] [(2,0,Zn),(4,1,Nv u [(11,vS u75.p u75.t.length)])] fun _ _ => ?_
     have hF75 : FrC c st s75 (pcNW { u with seen := u75 }) := hF74.ndE (Frs.toC ⟨hO75,hN75,hP75⟩ hF74.lt)
     have hk75 : nodeOk (NW.x { u with seen := u75 }) := by
      have h := seen_ok (k := r71) (ms := marksF (goneAt u73.x) 5) hk
      have h2 : u75.x = tableAdd u.x.seen r71 (marksF (goneAt u73.x) 5) := h75
      rw [← h2] at h
      exact h
     have hC75 := (hC73.pres hP74).pres hP75
     have ew38 : IntKind.wrap .i64 ((i : Int) + (1)) = ((i + 1 : Nat) : Int) := (wrap_i64 (by omega) (by omega)).trans (by omega)
     refine ⟨_,rfl,?_⟩
     exact ⟨(i + 1,{ u with seen := u75 }),r33.toNat - (i + 1),by omega,⟨rfl,rfl,rfl,rfl,rfl,congrArg (Value.int .i64) ew38,trivial⟩,⟨rfl,rfl,trivial⟩,rfl,by simp only; omega,hk75,hsz,hF75,hC75⟩
   ·replace h62 : r40 = (1) := beq_iff_eq.1 h62
    refine Cm gg s40 [(0,vP c 0),Ml 2 0,(3,vI ((1) + r10)),Ml 4 1,(6,vI r33),(7,vI (i : Int)),(36,vB true),(40,vI r40),(55,vB false),(61,vB true)] [(2,0,Zn),(4,1,cNV u.v)] fun _ _ => ?_
    refine ⟨_,op_ldo (v := (vNV u.v)) rfl rfl rfl rfl,?_⟩
    refine ⟨_,rfl,(ac_spec_Tick u.v s40 hF40.1.rdN hb).mono ?_⟩
    rintro _ s64 ⟨u64,rfl,h64,hO64,hN64,hP64⟩
    refine ⟨_,op_stw (vs := cNV u64.v) rfl rfl rfl rfl rfl rfl rfl rfl,?_⟩
    refine Cm gg s64 [(0,vP c 0),Ml 2 0,(3,vI ((1) + r10)),Ml 4 1,(6,vI r33),(7,vI (i : Int)),(36,vB true),(40,vI r40),(55,vB false),(61,vB true)] [(2,0,Zn),(4,1,cNV u64.v)] fun _ _ => ?_
    have hF64 : FrC c st s64 (pcNW u64) := ((Frs.toC ⟨hO64,hN64,hP64⟩ hC40.lt).sooner hF40.2.2.1 hc.lt)
    have hk64 : nodeOk u64.x := by rw [h64]; exact tick_ok hk
    have hn64 : u64.n = 1 + r10 := ((congrArg Nd.n h64).trans tick_n).trans hsz
    have hC64 := hC40.pres hP64
    have ew38 : IntKind.wrap .i64 ((i : Int) + (1)) = ((i + 1 : Nat) : Int) := (wrap_i64 (by omega) (by omega)).trans (by omega)
    refine ⟨_,rfl,?_⟩
    exact ⟨(i + 1,u64),r33.toNat - (i + 1),by omega,⟨rfl,rfl,rfl,rfl,rfl,congrArg (Value.int .i64) ew38,trivial⟩,⟨rfl,rfl,trivial⟩,rfl,by simp only; omega,hk64,hn64,hF64,hC64⟩
  ·replace h56 : r40 = (0) := beq_iff_eq.1 h56
   refine Cm gg s40 [(0,vP c 0),Ml 2 0,(3,vI ((1) + r10)),Ml 4 1,(6,vI r33),(7,vI (i : Int)),(36,vB true),(40,vI r40),(55,vB true)] [(2,0,Zn),(4,1,cNV u.v)] fun _ _ => ?_
   refine ⟨fun _ => False,?_⟩
   refine ⟨_,op_ldo (v := (vNV u.v)) rfl rfl rfl rfl,?_⟩
   refine ⟨ld_own rfl rfl rfl,?_⟩
   refine ⟨_,rfl,(ac_d_l3Right c s40 hC40 (by first | assumption | omega)).mono ?_⟩
   rintro _ s59 ⟨u59,rfl,h59,hF59,hC59⟩
   refine ⟨fun _ h => h.elim,?_⟩
   refine ⟨_,rfl,(ac_spec_l11Take u.v u59 s59 ((hF40.later hF59.2.2.1).1.rdN) hF59.1.rdS hb (big_ok h59) hk.s h59 hk.rises.1).mono ?_⟩
   rintro _ s60 ⟨u60,rfl,h60,hO60,hN60,hP60⟩
   refine ⟨_,op_stw (vs := cNV u60.v) rfl rfl rfl rfl rfl rfl rfl rfl,?_⟩
   refine Cm gg s60 [(0,vP c 0),Ml 2 0,(3,vI ((1) + r10)),Ml 4 1,(6,vI r33),(7,vI (i : Int)),(36,vB true),(40,vI r40),(55,vB true)] [(2,0,Zn),(4,1,cNV u60.v)] fun _ _ => ?_
   have hF60 : FrC c st s60 (pcNW u60) := ((Frs.toC ⟨hO60,hN60,hP60⟩ hC59.lt).sooner (hF40.2.2.1.trans hF59.2.2.1) hc.lt)
   have hk60 : nodeOk u60.x := by rw [h60]; exact take_ok hk h59
   have hn60 : u60.n = 1 + r10 := (congrArg Nd.n h60).trans hsz
   have hC60 := hC59.pres hP60
   have ew38 : IntKind.wrap .i64 ((i : Int) + (1)) = ((i + 1 : Nat) : Int) := (wrap_i64 (by omega) (by omega)).trans (by omega)
   refine ⟨_,rfl,?_⟩
   exact ⟨(i + 1,u60),r33.toNat - (i + 1),by omega,⟨rfl,rfl,rfl,rfl,rfl,congrArg (Value.int .i64) ew38,trivial⟩,⟨rfl,rfl,trivial⟩,rfl,by simp only; omega,hk60,hn60,hF60,hC60⟩
theorem FrC.renewMid {c : Nat} {a b d : St} {A B : List Pc} {x y : Pc} (h : FrC c a b (A ++ x :: B)) (hp : Pr x.p b d) (hd : y.own d) (hn : New b.next y.p) : FrC c a d (A ++ y :: B) ∧ PresC c a d :=
 have hm : New a.next x.p := h.2.1 x (List.mem_append_right _ (List.mem_cons_self ..))
 have hP := PresC.thenNew h.2.2.1 hp hm
 ⟨⟨OwnP.renew h.1 hp hd hn,fun z hz => by
  rcases List.mem_append.1 hz with hz | hz
  ·exact h.2.1 z (List.mem_append_left _ hz)
  ·rcases List.mem_cons.1 hz with rfl | hz
   ·exact hn.le h.2.2.1.1
   ·exact h.2.1 z (List.mem_append_right _ (List.mem_cons_of_mem _ hz)),hP,h.2.2.2⟩,hP⟩
theorem NW.sesAt (v : NW) (x : SesV) : pcNW { v with sess := x } = (pcS v.s ++ (pcIs v.t.toRV ++ (pcLog v.g ++ (pcIs v.got ++ (pcIs v.acked ++ pcTT v.seen))))) ++ pcR 4 cSess x.p x.l :: pcRis v.rises := by simp [List.append_assoc]
theorem FrC.sesPush {c : Nat} {a b d : St} {v : NW} {q : Option Addr} {l : List Ses} (h : FrC c a b (pcNW v)) (hp : Pr v.sess.p b d) (hO : OwnR d 4 cSess q l) (hn : New b.next q) : FrC c a d (pcNW { v with sess := ⟨q,l⟩ }) ∧ PresC c a d := by
 have h : FrC c a b (pcNW { v with sess := v.sess }) := h
 rw [NW.sesAt] at h ⊢
 exact FrC.renewMid (x := pcR 4 cSess v.sess.p v.sess.l) h hp (own_pc hO) hn
theorem FrC.risSet {c : Nat} {a b d : St} {v : NW} {l : List Ris} (h : FrC c a b (pcNW v)) (hp : Pr v.rises.p b d) (hO : OwnR d 3 cRise v.rises.p l) : FrC c a d (pcNW { v with rises := ⟨v.rises.p,l⟩ }) ∧ PresC c a d := by
 have h : FrC c a b (pcNW { v with rises := v.rises }) := h
 rw [NW.risAt] at h ⊢
 exact FrC.setMid (x := pcR 3 cRise v.rises.p v.rises.l) h hp (own_pc hO) rfl
theorem NewP.ses {n : Nat} {v : NW} (h : NewP n (pcNW v)) : New n v.sess.p := by
 have h : NewP n (pcNW { v with sess := v.sess }) := h
 rw [NW.sesAt] at h
 exact h _ (List.mem_append_right _ (List.mem_cons_self ..))
theorem NewP.ris {n : Nat} {v : NW} (h : NewP n (pcNW v)) : New n v.rises.p := by
 have h : NewP n (pcNW { v with rises := v.rises }) := h
 rw [NW.risAt] at h
 exact h _ (List.mem_append_right _ (List.mem_cons_self ..))
theorem OwnP.ownRis {st : St} {v : NW} (h : OwnP st (pcNW v)) : OwnR st 3 cRise v.rises.p v.rises.l := own_one (by decide) len_cRise h.right.right.right.right.right.right.right
theorem tt_big {q : Option Addr} {t : List RV} (h : t.length ≤ 4 ∧ ∀ r ∈ t,r.l.length ≤ 5) : bigT (TT.x ⟨q,t⟩) := ⟨by show (t.map _).length ≤ 1048576; rw [List.length_map]; omega,fun l hl => by
 obtain ⟨r,hr,rfl⟩ := List.mem_map.1 hl
 have := h.2 r hr
 show r.l.length ≤ 1048576
 omega⟩
theorem ac_d_l11Draw {p : Option Addr} {bs : List Int} (c : Nat) (st : St) (hc : Cur st c p bs) (hs : bs.length < 1099511627776) : C 47 [vP c 0] st (fun v s => ∃ (g : NV) (L : List Pc),v = (vNV g) ∧ bigN g.x ∧ FrC c st s L ∧ Hold L (fun s' => RdN s' g) ∧ Cur s c p bs) := by
 refine AC.enterX (i := ⟨[2,3],[2,3,11,15,18,19,22,23,26,28,30,32,42,48,51,63,68,71,73,82],[0,2,3,7,8,16,24,38,43,49,64,69,78],[]⟩) [(2014,[],[1]),(8,[],[]),(14,[3,6,8,10],[1])] Tryz.func47 rfl rfl (by kernel_rfl) (by kernel_rfl) Tryz.ntmps47 (Lb rfl) rfl ?_
 refine ⟨_,rfl,?_⟩
 refine Cm 1 st [(0,vP c 0),Ml 2 0] [(2,0,Zn)] fun _ _ => ?_
 refine ⟨_,rfl,(ac_d_l11Right c st hc (by first | assumption | omega)).mono ?_⟩
 rintro _ s5 ⟨u5,rfl,h5,hF5,hC5⟩
 refine ⟨_,rfl,?_⟩
 refine ⟨_,op_stw (vs := cNV u5.v) rfl rfl rfl rfl rfl rfl rfl rfl,?_⟩
 refine Cm 2 s5 [(0,vP c 0),Ml 2 0,Ml 3 1] [(2,0,Zn),(3,1,cNV u5.v)] fun _ _ => ?_
 refine ⟨_,rfl,(ac_d_l1Below c 18 s5 hC5 (by first | assumption | omega)).mono ?_⟩
 rintro _ s7 ⟨r7,rfl,h7,h7',h7'',hC7,hL7⟩
 refine Cm 2 s7 [(0,vP c 0),Ml 2 0,Ml 3 1,(7,vI r7)] [(2,0,Zn),(3,1,cNV u5.v)] fun _ _ => ?_
 have hF7 := hF5.later hL7
 have hb := node_big h5
 have hid : 0 ≤ u5.id ∧ u5.id ≤ u5.n - 1 := h5.id
 have hgl : (u5.got.l.length : Int) = u5.n := h5.got.2.1
 have hrl : u5.rises.l.length = 5 := h5.rises.1
 have hsl : u5.sess.l.length ≤ 4 := by have h1 := h5.sess.1; have h2 := h5.slots.2; have h3 : (u5.sess.l.length : Int) ≤ u5.slots := h1; have h4 : u5.slots ≤ 4 := h2; omega
 refine ⟨_,rfl,?_⟩
 rintro (_|_) h9
 ·replace h9 : ¬ (r7 = (0)) := beq_eq_false_iff_ne.1 h9
  refine Cm 2 s7 [(0,vP c 0),Ml 2 0,Ml 3 1,(7,vI r7),(8,vB false)] [(2,0,Zn),(3,1,cNV u5.v)] fun _ _ => ?_
  refine ⟨_,rfl,?_⟩
  rintro (_|_) h17
  ·replace h17 : ¬ (r7 = (1)) := beq_eq_false_iff_ne.1 h17
   refine Cm 2 s7 [(0,vP c 0),Ml 2 0,Ml 3 1,(7,vI r7),(16,vB false)] [(2,0,Zn),(3,1,cNV u5.v)] fun _ _ => ?_
   refine ⟨_,rfl,?_⟩
   rintro (_|_) h25
   ·replace h25 : ¬ (r7 = (2)) := beq_eq_false_iff_ne.1 h25
    refine Cm 2 s7 [(0,vP c 0),Ml 2 0,Ml 3 1,(7,vI r7),(24,vB false)] [(2,0,Zn),(3,1,cNV u5.v)] fun _ _ => ?_
    refine ⟨_,rfl,?_⟩
    rintro (_|_) h39
    ·replace h39 : ¬ (r7 = (3)) := beq_eq_false_iff_ne.1 h39
     refine Cm 2 s7 [(0,vP c 0),Ml 2 0,Ml 3 1,(7,vI r7),(38,vB false)] [(2,0,Zn),(3,1,cNV u5.v)] fun _ _ => ?_
     refine ⟨_,rfl,?_⟩
     rintro (_|_) h44
     ·replace h44 : ¬ (r7 = (4)) := beq_eq_false_iff_ne.1 h44
      refine Cm 2 s7 [(0,vP c 0),Ml 2 0,Ml 3 1,(7,vI r7),(43,vB false)] [(2,0,Zn),(3,1,cNV u5.v)] fun _ _ => ?_
      refine ⟨_,rfl,?_⟩
      rintro (_|_) h50
      ·replace h50 : ¬ (r7 = (5)) := beq_eq_false_iff_ne.1 h50
       refine Cm 2 s7 [(0,vP c 0),Ml 2 0,Ml 3 1,(7,vI r7),(49,vB false)] [(2,0,Zn),(3,1,cNV u5.v)] fun _ _ => ?_
       refine ⟨_,rfl,?_⟩
       rintro (_|_) h65
       ·replace h65 : ¬ (r7 = (6)) := beq_eq_false_iff_ne.1 h65
        refine Cm 2 s7 [(0,vP c 0),Ml 2 0,Ml 3 1,(7,vI r7),(64,vB false)] [(2,0,Zn),(3,1,cNV u5.v)] fun _ _ => ?_
        refine ⟨_,rfl,?_⟩
        rintro (_|_) h70
        ·replace h70 : ¬ (r7 = (7)) := beq_eq_false_iff_ne.1 h70
         refine Cm 2 s7 [(0,vP c 0),Ml 2 0,Ml 3 1,(7,vI r7),(69,vB false)] [(2,0,Zn),(3,1,cNV u5.v)] fun _ _ => ?_
         refine ⟨_,rfl,?_⟩
         rintro (_|_) h79
         ·replace h79 : ¬ (r7 = (8)) := beq_eq_false_iff_ne.1 h79
          refine Cm 2 s7 [(0,vP c 0),Ml 2 0,Ml 3 1,(78,vB false)] [(2,0,Zn),(3,1,cNV u5.v)] fun _ _ => ?_
          refine cxs ?_
          refine ⟨_,op_ldo (v := (vNV u5.v)) rfl rfl rfl rfl,?_⟩
          refine ⟨_,op_stw (vs := cNV u5.v) rfl rfl rfl rfl rfl rfl rfl rfl,?_⟩
          exact cxs (Rt ⟨u5.v,pcNW u5,rfl,hb,hF7,fun s hO => hO.rdN,hC7⟩)
         ·replace h79 : r7 = (8) := beq_iff_eq.1 h79
          refine Cm 2 s7 [(0,vP c 0),Ml 2 0,Ml 3 1,(78,vB true)] [(2,0,Zn),(3,1,cNV u5.v)] fun _ _ => ?_
          refine ⟨_,rfl,(ac_d_l7Draw c s7 hC7 (by first | assumption | omega)).mono ?_⟩
          rintro _ s81 ⟨u81,rfl,h81,hF81,hC81⟩
          refine ⟨_,rfl,?_⟩
          refine ⟨_,Os rfl,?_⟩
          refine Cm 2 s81 [Ml 2 0,Ml 3 1] [(2,0,Zn),(3,1,Nv u5 [(6,vI u81.cap),(7,vI u81.frm),(8,vS u81.p u81.l.length)])] fun _ _ => ?_
          refine ⟨_,op_ldo (v := .agg #[vI u5.id,vI u5.n,vS u5.s.p u5.s.x.items.length,vS u5.s.q u5.s.x.floors.length,vS u5.t.p u5.t.l.length,vI u5.t.root,vI u81.cap,vI u81.frm,vS u81.p u81.l.length,vS u5.got.p u5.got.l.length,vS u5.acked.p u5.acked.l.length,vS u5.seen.p u5.seen.t.length,vI u5.num,vI u5.slots,vS u5.sess.p u5.sess.l.length,vI u5.wait,vI u5.limit,vI u5.clock,vS u5.rises.p u5.rises.l.length]) rfl rfl rfl rfl,?_⟩
          refine ⟨_,op_stw (vs := [vI u5.id,vI u5.n,vS u5.s.p u5.s.x.items.length,vS u5.s.q u5.s.x.floors.length,vS u5.t.p u5.t.l.length,vI u5.t.root,vI u81.cap,vI u81.frm,vS u81.p u81.l.length,vS u5.got.p u5.got.l.length,vS u5.acked.p u5.acked.l.length,vS u5.seen.p u5.seen.t.length,vI u5.num,vI u5.slots,vS u5.sess.p u5.sess.l.length,vI u5.wait,vI u5.limit,vI u5.clock,vS u5.rises.p u5.rises.l.length]) rfl rfl rfl rfl rfl rfl rfl rfl,?_⟩
          exact cxs (Rt ⟨{ u5.v with g := u81 },pcNW u5 ++ pcL u81.p u81.l,rfl,⟨hb.s,hb.t,bigLog_iff.2 (h81.big (by decide)),hb.got,hb.acked,hb.seen,hb.sess,hb.rises⟩,hF7.join hF81,fun s hO => have h := hO.left.rdN; ⟨h.s,h.t,hO.right.rdL,h.got,h.acked,h.seen,h.sess,h.rises⟩,hC81⟩)
        ·replace h70 : r7 = (7) := beq_iff_eq.1 h70
         refine Cm 2 s7 [(0,vP c 0),Ml 2 0,Ml 3 1,(7,vI r7),(69,vB true)] [(2,0,Zn),(3,1,cNV u5.v)] fun _ _ => ?_
         have hO : OwnR s7 3 cRise u5.rises.p u5.rises.l := hF7.1.ownRis
         obtain ⟨a,ha⟩ := hO.some (by omega)
         obtain ⟨w0,hw⟩ : ∃ w,u5.rises.l[0]? = some w := ⟨u5.rises.l[0]'(by omega),List.getElem?_eq_getElem (by omega)⟩
         refine ⟨_,rfl,?_⟩
         refine ⟨_,Od rfl,?_⟩
         refine ⟨_,rfl,?_⟩
         refine ⟨_,Od rfl,?_⟩
         refine ⟨_,rfl,?_⟩
         refine ⟨_,op_idx (j := 0) (n := u5.rises.l.length) (q := ⟨a,0,none⟩) rfl (congrArg (fun v => vS v u5.rises.l.length) ha) rfl rfl rfl (Int.le_refl 0) (by omega),?_⟩
         refine ⟨_,rfl,?_⟩
         refine op_putc (z := 3) (i := 2) (st := s7) (f := cRise) (j := 0) (l := u5.rises.l) (w := w0) (y := (⟨w0.inc,w0.beat,IntKind.wrap .i64 (u5.clock + 1)⟩ : Ris)) (p := u5.rises.p) (d := 0 + 0 * 3 + 2) rfl rfl rfl rfl rfl len_cRise rfl rfl hw (by decide) rfl hO ha ?_
         intro s9 hO9 hP9 hn9
         refine Cm 2 s9 [Ml 2 0,Ml 3 1] [(2,0,Zn),(3,1,cNV u5.v)] fun _ _ => ?_
         refine ⟨_,op_ldo (v := (vNV u5.v)) rfl rfl rfl rfl,?_⟩
         refine ⟨_,op_stw (vs := cNV u5.v) rfl rfl rfl rfl rfl rfl rfl rfl,?_⟩
         refine cxs ?_
         have hF9 := hF7.risSet hP9 hO9
         exact Rt ⟨NW.v { u5 with rises := ⟨u5.rises.p,u5.rises.l.set 0 ⟨w0.inc,w0.beat,IntKind.wrap .i64 (u5.clock + 1)⟩⟩ },pcNW { u5 with rises := ⟨u5.rises.p,u5.rises.l.set 0 ⟨w0.inc,w0.beat,IntKind.wrap .i64 (u5.clock + 1)⟩⟩ },by simp only [vNV,List.length_set]; rfl,⟨hb.s,hb.t,hb.g,hb.got,hb.acked,hb.seen,hb.sess,by show (List.set _ _ _).length ≤ 1048576; rw [List.length_set]; exact hb.rises⟩,hF9.1,fun s hO => hO.rdN,hC7.thenNew hc hF7.2.2.1 hP9 hF7.2.1.ris⟩
       ·replace h65 : r7 = (6) := beq_iff_eq.1 h65
        refine Cm 2 s7 [(0,vP c 0),Ml 2 0,Ml 3 1,(7,vI r7),(64,vB true)] [(2,0,Zn),(3,1,cNV u5.v)] fun _ _ => ?_
        refine ⟨_,rfl,(ac_d_l3Draw c s7 hC7 (by first | assumption | omega)).mono ?_⟩
        rintro _ s67 ⟨u67,rfl,h67,hF67,hC67⟩
        refine ⟨_,rfl,?_⟩
        refine ⟨_,Os rfl,?_⟩
        refine Cm 2 s67 [Ml 2 0,Ml 3 1] [(2,0,Zn),(3,1,Nv u5 [(2,vS u67.p u67.x.items.length),(3,vS u67.q u67.x.floors.length)])] fun _ _ => ?_
        refine ⟨_,op_ldo (v := .agg #[vI u5.id,vI u5.n,vS u67.p u67.x.items.length,vS u67.q u67.x.floors.length,vS u5.t.p u5.t.l.length,vI u5.t.root,vI u5.g.cap,vI u5.g.frm,vS u5.g.p u5.g.l.length,vS u5.got.p u5.got.l.length,vS u5.acked.p u5.acked.l.length,vS u5.seen.p u5.seen.t.length,vI u5.num,vI u5.slots,vS u5.sess.p u5.sess.l.length,vI u5.wait,vI u5.limit,vI u5.clock,vS u5.rises.p u5.rises.l.length]) rfl rfl rfl rfl,?_⟩
        refine ⟨_,op_stw (vs := [vI u5.id,vI u5.n,vS u67.p u67.x.items.length,vS u67.q u67.x.floors.length,vS u5.t.p u5.t.l.length,vI u5.t.root,vI u5.g.cap,vI u5.g.frm,vS u5.g.p u5.g.l.length,vS u5.got.p u5.got.l.length,vS u5.acked.p u5.acked.l.length,vS u5.seen.p u5.seen.t.length,vI u5.num,vI u5.slots,vS u5.sess.p u5.sess.l.length,vI u5.wait,vI u5.limit,vI u5.clock,vS u5.rises.p u5.rises.l.length]) rfl rfl rfl rfl rfl rfl rfl rfl,?_⟩
        exact cxs (Rt ⟨{ u5.v with s := u67 },pcNW u5 ++ pcS u67,rfl,⟨h67.big (by decide),hb.t,hb.g,hb.got,hb.acked,hb.seen,hb.sess,hb.rises⟩,hF7.join hF67,fun s hO => have h := hO.left.rdN; ⟨hO.right.rdS,h.t,h.g,h.got,h.acked,h.seen,h.sess,h.rises⟩,hC67⟩)
      ·replace h50 : r7 = (5) := beq_iff_eq.1 h50
       refine Cm 2 s7 [(0,vP c 0),Ml 2 0,Ml 3 1,(7,vI r7),(49,vB true)] [(2,0,Zn),(3,1,cNV u5.v)] fun _ _ => ?_
       refine ⟨fun _ => False,?_⟩
       refine ⟨_,rfl,?_⟩
       refine ⟨_,Od rfl,?_⟩
       refine ⟨ld_own rfl rfl rfl,?_⟩
       refine ⟨_,rfl,(ac_d_l1Below c 6 s7 hC7 (by first | assumption | omega)).mono ?_⟩
       rintro _ s54 ⟨r54,rfl,h54,h54',h54'',hC54,hL54⟩
       refine ⟨fun _ h => h.elim,?_⟩
       refine ⟨_,rfl,?_⟩
       refine ⟨_,rfl,(ac_d_l1Once c 2 s54 hC54 (by first | assumption | omega)).mono ?_⟩
       rintro _ s57 ⟨b57,rfl,hC57,hL57⟩
       refine ⟨fun _ h => h.elim,?_⟩
       refine ⟨_,rfl,(ac_d_l1Below c 9 s57 hC57 (by first | assumption | omega)).mono ?_⟩
       rintro _ s59 ⟨r59,rfl,h59,h59',h59'',hC59,hL59⟩
       refine ⟨fun _ h => h.elim,?_⟩
       refine ⟨_,rfl,?_⟩
       refine op_one (z := 4) (a := ((⟨IntKind.wrap .i64 (r54 - 1),1,b57,r59⟩ : Ses) : Ses)) (f := cSess) rfl rfl rfl rfl rfl (by decide) rfl (Lb rfl) rfl rfl rfl ?_
       refine ⟨fun _ h => h.elim,?_⟩
       have hF59 := ((hF7.later hL54).later hL57).later hL59
       have hO59 : OwnR s59 4 cSess u5.sess.p u5.sess.l := hF59.1.ses
       refine op_snoc (z := 4) (st := s59) (f := cSess) (b := 32) (l := u5.sess.l) (x := (⟨IntKind.wrap .i64 (r54 - 1),1,b57,r59⟩ : Ses)) rfl rfl rfl rfl rfl rfl rfl (by decide) len_cSess rfl rfl rfl (by omega) (by unfold maxLen; omega) hO59 ?_
       intro q62 s62 hO62 hP62 hN62
       refine ⟨_,rfl,?_⟩
       refine ⟨_,Os rfl,?_⟩
       refine Cm 2 s62 [Ml 2 0,Ml 3 1] [(2,0,Zn),(3,1,[vI u5.id,vI u5.n,vS u5.s.p u5.s.x.items.length,vS u5.s.q u5.s.x.floors.length,vS u5.t.p u5.t.l.length,vI u5.t.root,vI u5.g.cap,vI u5.g.frm,vS u5.g.p u5.g.l.length,vS u5.got.p u5.got.l.length,vS u5.acked.p u5.acked.l.length,vS u5.seen.p u5.seen.t.length,vI u5.num,vI u5.slots,vS q62 (u5.sess.l ++ [(⟨IntKind.wrap .i64 (r54 - 1),1,b57,r59⟩ : Ses)]).length,vI u5.wait,vI u5.limit,vI u5.clock,vS u5.rises.p u5.rises.l.length])] fun _ _ => ?_
       refine ⟨_,op_ldo (v := .agg #[vI u5.id,vI u5.n,vS u5.s.p u5.s.x.items.length,vS u5.s.q u5.s.x.floors.length,vS u5.t.p u5.t.l.length,vI u5.t.root,vI u5.g.cap,vI u5.g.frm,vS u5.g.p u5.g.l.length,vS u5.got.p u5.got.l.length,vS u5.acked.p u5.acked.l.length,vS u5.seen.p u5.seen.t.length,vI u5.num,vI u5.slots,vS q62 (u5.sess.l ++ [(⟨IntKind.wrap .i64 (r54 - 1),1,b57,r59⟩ : Ses)]).length,vI u5.wait,vI u5.limit,vI u5.clock,vS u5.rises.p u5.rises.l.length]) rfl rfl rfl rfl,?_⟩
       refine ⟨_,op_stw (vs := [vI u5.id,vI u5.n,vS u5.s.p u5.s.x.items.length,vS u5.s.q u5.s.x.floors.length,vS u5.t.p u5.t.l.length,vI u5.t.root,vI u5.g.cap,vI u5.g.frm,vS u5.g.p u5.g.l.length,vS u5.got.p u5.got.l.length,vS u5.acked.p u5.acked.l.length,vS u5.seen.p u5.seen.t.length,vI u5.num,vI u5.slots,vS q62 (u5.sess.l ++ [(⟨IntKind.wrap .i64 (r54 - 1),1,b57,r59⟩ : Ses)]).length,vI u5.wait,vI u5.limit,vI u5.clock,vS u5.rises.p u5.rises.l.length]) rfl rfl rfl rfl rfl rfl rfl rfl,?_⟩
       refine cxs ?_
       have hF62 := hF59.sesPush hP62 hO62 hN62
       exact Rt ⟨NW.v { u5 with sess := ⟨q62,u5.sess.l ++ [⟨IntKind.wrap .i64 (r54 - 1),1,b57,r59⟩]⟩ },pcNW { u5 with sess := ⟨q62,u5.sess.l ++ [⟨IntKind.wrap .i64 (r54 - 1),1,b57,r59⟩]⟩ },rfl,⟨hb.s,hb.t,hb.g,hb.got,hb.acked,hb.seen,by show (u5.sess.l ++ [_]).length ≤ 1048576; rw [List.length_append,List.length_singleton]; omega,hb.rises⟩,hF62.1,fun s hO => hO.rdN,hC59.thenNew hc hF59.2.2.1 hP62 hF59.2.1.ses⟩
     ·replace h44 : r7 = (4) := beq_iff_eq.1 h44
      refine Cm 2 s7 [(0,vP c 0),Ml 2 0,Ml 3 1,(7,vI r7),(43,vB true)] [(2,0,Zn),(3,1,cNV u5.v)] fun _ _ => ?_
      refine op_litI (k := .i64) (l := [0,5]) rfl rfl rfl rfl rfl rfl (Lb rfl) ?_
      intro q46 s46 hO46 hP46 hN46
      refine ⟨_,rfl,(ac_d_l1PickInt c q46 ([0,5]) s46 (hC7.pres hP46) (by first | assumption | omega) (by first | assumption | omega | decide) (by first | assumption | omega) (by first | assumption | exact NC.new (by assumption) (Cur.lt (by assumption)))).mono ?_⟩
      rintro _ s47 ⟨r47,rfl,h47,hC47,hL47⟩
      refine ⟨_,rfl,?_⟩
      refine ⟨_,Os rfl,?_⟩
      refine Cm 2 s47 [Ml 2 0,Ml 3 1] [(2,0,Zn),(3,1,Nv u5 [(13,vI r47)])] fun _ _ => ?_
      refine ⟨_,op_ldo (v := .agg #[vI u5.id,vI u5.n,vS u5.s.p u5.s.x.items.length,vS u5.s.q u5.s.x.floors.length,vS u5.t.p u5.t.l.length,vI u5.t.root,vI u5.g.cap,vI u5.g.frm,vS u5.g.p u5.g.l.length,vS u5.got.p u5.got.l.length,vS u5.acked.p u5.acked.l.length,vS u5.seen.p u5.seen.t.length,vI u5.num,vI r47,vS u5.sess.p u5.sess.l.length,vI u5.wait,vI u5.limit,vI u5.clock,vS u5.rises.p u5.rises.l.length]) rfl rfl rfl rfl,?_⟩
      refine ⟨_,op_stw (vs := [vI u5.id,vI u5.n,vS u5.s.p u5.s.x.items.length,vS u5.s.q u5.s.x.floors.length,vS u5.t.p u5.t.l.length,vI u5.t.root,vI u5.g.cap,vI u5.g.frm,vS u5.g.p u5.g.l.length,vS u5.got.p u5.got.l.length,vS u5.acked.p u5.acked.l.length,vS u5.seen.p u5.seen.t.length,vI u5.num,vI r47,vS u5.sess.p u5.sess.l.length,vI u5.wait,vI u5.limit,vI u5.clock,vS u5.rises.p u5.rises.l.length]) rfl rfl rfl rfl rfl rfl rfl rfl,?_⟩
      exact cxs (Rt ⟨{ u5.v with slots := r47 },pcNW u5,rfl,⟨hb.s,hb.t,hb.g,hb.got,hb.acked,hb.seen,hb.sess,hb.rises⟩,(hF7.step hP46).later hL47,fun s hO => have h := hO.rdN; ⟨h.s,h.t,h.g,h.got,h.acked,h.seen,h.sess,h.rises⟩,hC47⟩)
    ·replace h39 : r7 = (3) := beq_iff_eq.1 h39
     refine Cm 2 s7 [(0,vP c 0),Ml 2 0,Ml 3 1,(7,vI r7),(38,vB true)] [(2,0,Zn),(3,1,cNV u5.v)] fun _ _ => ?_
     refine ⟨_,rfl,(ac_d_l9Draw c s7 hC7 hs).mono ?_⟩
     rintro _ s41 ⟨q41,t41,L41,rfl,h41,hF41,hH41,hC41⟩
     refine ⟨_,rfl,?_⟩
     refine ⟨_,Os rfl,?_⟩
     refine Cm 2 s41 [Ml 2 0,Ml 3 1] [(2,0,Zn),(3,1,Nv u5 [(11,vS q41 t41.length)])] fun _ _ => ?_
     refine ⟨_,op_ldo (v := .agg #[vI u5.id,vI u5.n,vS u5.s.p u5.s.x.items.length,vS u5.s.q u5.s.x.floors.length,vS u5.t.p u5.t.l.length,vI u5.t.root,vI u5.g.cap,vI u5.g.frm,vS u5.g.p u5.g.l.length,vS u5.got.p u5.got.l.length,vS u5.acked.p u5.acked.l.length,vS q41 t41.length,vI u5.num,vI u5.slots,vS u5.sess.p u5.sess.l.length,vI u5.wait,vI u5.limit,vI u5.clock,vS u5.rises.p u5.rises.l.length]) rfl rfl rfl rfl,?_⟩
     refine ⟨_,op_stw (vs := [vI u5.id,vI u5.n,vS u5.s.p u5.s.x.items.length,vS u5.s.q u5.s.x.floors.length,vS u5.t.p u5.t.l.length,vI u5.t.root,vI u5.g.cap,vI u5.g.frm,vS u5.g.p u5.g.l.length,vS u5.got.p u5.got.l.length,vS u5.acked.p u5.acked.l.length,vS q41 t41.length,vI u5.num,vI u5.slots,vS u5.sess.p u5.sess.l.length,vI u5.wait,vI u5.limit,vI u5.clock,vS u5.rises.p u5.rises.l.length]) rfl rfl rfl rfl rfl rfl rfl rfl,?_⟩
     exact cxs (Rt ⟨{ u5.v with seen := ⟨q41,t41⟩ },pcNW u5 ++ L41,rfl,⟨hb.s,hb.t,hb.g,hb.got,hb.acked,tt_big h41,hb.sess,hb.rises⟩,hF7.join hF41,fun s hO => have h := hO.left.rdN; ⟨h.s,h.t,h.g,h.got,h.acked,hH41 s hO.right,h.sess,h.rises⟩,hC41⟩)
   ·replace h25 : r7 = (2) := beq_iff_eq.1 h25
    refine Cm 2 s7 [(0,vP c 0),Ml 2 0,Ml 3 1,(7,vI r7),(24,vB true)] [(2,0,Zn),(3,1,cNV u5.v)] fun _ _ => ?_
    have hlen : u5.id.toNat < u5.got.l.length := by omega
    have hO : OwnR s7 1 fI u5.got.p u5.got.l := hF7.1.ownGot
    obtain ⟨a,ha⟩ := hO.some (by omega)
    obtain ⟨b1,o1,k1,r,hpe,hr,hm1,hc1,hb1⟩ := (hO.rows fI_len).atB (j := u5.id.toNat) hlen
    obtain ⟨rfl,rfl⟩ : a = b1 ∧ 0 = o1 := by rw [ha] at hpe; injection hpe with hpe; injection hpe with e1 e2; exact ⟨e1,e2⟩
    refine ⟨_,rfl,?_⟩
    refine ⟨_,Od rfl,?_⟩
    refine ⟨_,rfl,?_⟩
    refine ⟨_,Od rfl,?_⟩
    refine ⟨_,rfl,?_⟩
    refine ⟨_,Od rfl,?_⟩
    refine ⟨_,rfl,?_⟩
    refine ⟨_,Od rfl,?_⟩
    refine ⟨_,op_idx (j := u5.id) (n := u5.got.l.length) (q := ⟨a,0,none⟩) rfl (congrArg (fun v => vS v u5.got.l.length) ha) rfl rfl rfl hid.1 (by omega),?_⟩
    refine ⟨_,op_ldc (i := 0) rfl rfl rfl rfl hm1 hc1 rfl rfl,?_⟩
    refine ⟨_,rfl,?_⟩
    refine ⟨_,op_idx (j := u5.id) (n := u5.got.l.length) (q := ⟨a,0,none⟩) rfl (congrArg (fun v => vS v u5.got.l.length) ha) rfl rfl rfl hid.1 (by omega),?_⟩
    refine op_put (z := 1) (st := s7) (f := fI) (j := u5.id.toNat) (l := u5.got.l) (y := IntKind.wrap .i64 (r + 1)) (p := u5.got.p) (d := 0 + u5.id.toNat * 1) rfl rfl (Nat.zero_add _) rfl rfl fI_len rfl rfl hlen hO ha ?_
    intro s9 hO9 hP9 hn9
    refine Cm 2 s9 [Ml 2 0,Ml 3 1] [(2,0,Zn),(3,1,cNV u5.v)] fun _ _ => ?_
    refine ⟨_,op_ldo (v := (vNV u5.v)) rfl rfl rfl rfl,?_⟩
    refine ⟨_,op_stw (vs := cNV u5.v) rfl rfl rfl rfl rfl rfl rfl rfl,?_⟩
    refine cxs ?_
    have hF9 := hF7.gotSet hP9 hO9
    exact Rt ⟨NW.v { u5 with got := ⟨u5.got.p,u5.got.l.set u5.id.toNat (IntKind.wrap .i64 (r + 1))⟩ },pcNW { u5 with got := ⟨u5.got.p,u5.got.l.set u5.id.toNat (IntKind.wrap .i64 (r + 1))⟩ },by simp only [vNV,List.length_set]; rfl,⟨hb.s,hb.t,hb.g,by show (List.set _ _ _).length ≤ 1048576; rw [List.length_set]; exact hb.got,hb.acked,hb.seen,hb.sess,hb.rises⟩,hF9.1,fun s hO => hO.rdN,hC7.thenNew hc hF7.2.2.1 hP9 hF7.2.1.got⟩
  ·replace h17 : r7 = (1) := beq_iff_eq.1 h17
   refine Cm 2 s7 [(0,vP c 0),Ml 2 0,Ml 3 1,(7,vI r7),(16,vB true)] [(2,0,Zn),(3,1,cNV u5.v)] fun _ _ => ?_
   iterate 2 refine ⟨_,rfl,?_⟩
   refine ⟨_,Od rfl,?_⟩
   iterate 3 refine ⟨_,rfl,?_⟩
   refine ⟨_,Os rfl,?_⟩
   refine Cm 2 s7 [Ml 2 0,Ml 3 1] [(2,0,Zn),(3,1,Nv u5 [(5,vI (IntKind.wrap .i64 (u5.t.root + 1)))])] fun _ _ => ?_
   refine ⟨_,op_ldo (v := .agg #[vI u5.id,vI u5.n,vS u5.s.p u5.s.x.items.length,vS u5.s.q u5.s.x.floors.length,vS u5.t.p u5.t.l.length,vI (IntKind.wrap .i64 (u5.t.root + 1)),vI u5.g.cap,vI u5.g.frm,vS u5.g.p u5.g.l.length,vS u5.got.p u5.got.l.length,vS u5.acked.p u5.acked.l.length,vS u5.seen.p u5.seen.t.length,vI u5.num,vI u5.slots,vS u5.sess.p u5.sess.l.length,vI u5.wait,vI u5.limit,vI u5.clock,vS u5.rises.p u5.rises.l.length]) rfl rfl rfl rfl,?_⟩
   refine ⟨_,op_stw (vs := [vI u5.id,vI u5.n,vS u5.s.p u5.s.x.items.length,vS u5.s.q u5.s.x.floors.length,vS u5.t.p u5.t.l.length,vI (IntKind.wrap .i64 (u5.t.root + 1)),vI u5.g.cap,vI u5.g.frm,vS u5.g.p u5.g.l.length,vS u5.got.p u5.got.l.length,vS u5.acked.p u5.acked.l.length,vS u5.seen.p u5.seen.t.length,vI u5.num,vI u5.slots,vS u5.sess.p u5.sess.l.length,vI u5.wait,vI u5.limit,vI u5.clock,vS u5.rises.p u5.rises.l.length]) rfl rfl rfl rfl rfl rfl rfl rfl,?_⟩
   exact cxs (Rt ⟨{ u5.v with t := { u5.t with root := IntKind.wrap .i64 (u5.t.root + 1) } },pcNW u5,rfl,⟨hb.s,hb.t,hb.g,hb.got,hb.acked,hb.seen,hb.sess,hb.rises⟩,hF7,fun s hO => have h := hO.rdN; ⟨h.s,h.t,h.g,h.got,h.acked,h.seen,h.sess,h.rises⟩,hC7⟩)
 ·replace h9 : r7 = (0) := beq_iff_eq.1 h9
  refine Cm 2 s7 [(0,vP c 0),Ml 2 0,Ml 3 1,(7,vI r7),(8,vB true)] [(2,0,Zn),(3,1,cNV u5.v)] fun _ _ => ?_
  refine ⟨_,rfl,?_⟩
  refine ⟨_,Od rfl,?_⟩
  refine op_litI (k := .i64) (l := [-1,u5.n]) rfl rfl rfl rfl rfl rfl (Lb rfl) ?_
  intro q13 s13 hO13 hP13 hN13
  refine ⟨_,rfl,(ac_d_l1PickInt c q13 [-1,u5.n] s13 (hC7.pres hP13) hs (Nat.succ_pos _) hO13 (NC.new hN13 hC7.lt)).mono ?_⟩
  rintro _ s14 ⟨r14,rfl,h14,hC14,hL14⟩
  refine ⟨_,rfl,?_⟩
  refine ⟨_,Os rfl,?_⟩
  refine Cm 2 s14 [Ml 2 0,Ml 3 1] [(2,0,Zn),(3,1,Nv u5 [(0,vI r14)])] fun _ _ => ?_
  refine ⟨_,op_ldo (v := .agg #[vI r14,vI u5.n,vS u5.s.p u5.s.x.items.length,vS u5.s.q u5.s.x.floors.length,vS u5.t.p u5.t.l.length,vI u5.t.root,vI u5.g.cap,vI u5.g.frm,vS u5.g.p u5.g.l.length,vS u5.got.p u5.got.l.length,vS u5.acked.p u5.acked.l.length,vS u5.seen.p u5.seen.t.length,vI u5.num,vI u5.slots,vS u5.sess.p u5.sess.l.length,vI u5.wait,vI u5.limit,vI u5.clock,vS u5.rises.p u5.rises.l.length]) rfl rfl rfl rfl,?_⟩
  refine ⟨_,op_stw (vs := [vI r14,vI u5.n,vS u5.s.p u5.s.x.items.length,vS u5.s.q u5.s.x.floors.length,vS u5.t.p u5.t.l.length,vI u5.t.root,vI u5.g.cap,vI u5.g.frm,vS u5.g.p u5.g.l.length,vS u5.got.p u5.got.l.length,vS u5.acked.p u5.acked.l.length,vS u5.seen.p u5.seen.t.length,vI u5.num,vI u5.slots,vS u5.sess.p u5.sess.l.length,vI u5.wait,vI u5.limit,vI u5.clock,vS u5.rises.p u5.rises.l.length]) rfl rfl rfl rfl rfl rfl rfl rfl,?_⟩
  exact cxs (Rt ⟨{ u5.v with id := r14 },pcNW u5,rfl,⟨hb.s,hb.t,hb.g,hb.got,hb.acked,hb.seen,hb.sess,hb.rises⟩,(hF7.step hP13).later hL14,fun s hO => have h := hO.rdN; ⟨h.s,h.t,h.g,h.got,h.acked,h.seen,h.sess,h.rises⟩,hC14⟩)
theorem ac_spec_DrawShip (p : Option Addr) (bs : List Int) (st : St) (hI : Ints st .u8 p bs) (hs : bs.length < 1099511627776) : C 18 [vS p bs.length] st (fun v s => ∃ (g : NV) (n : Int),v = .tuple #[(vNV g),vI n] ∧ bigN g.x ∧ RdN s g ∧ Pres st s) := by
 refine AC.enterX (i := ⟨[2,5],[2,5],[0,2,3,4,5],[]⟩) [(2003,[],[1]),(3,[2],[0])] Tryz.func18 rfl rfl (by kernel_rfl) (by kernel_rfl) Tryz.ntmps18 (Lb rfl) rfl ?_
 refine ⟨_,rfl,?_⟩
 refine Cm 1 st [(0,vS p bs.length),Ml 2 0,(3,vI 0)] [(2,0,Zn)] fun _ _ => ?_
 refine ⟨_,rfl,(ac_spec_l1New p bs st hI (by first | assumption | omega)).mono ?_⟩
 rintro _ s7 ⟨rfl,hC7,hP7,h7⟩
 refine Cm 1 s7 [Ml 2 0,(3,vI 0),(4,vP st.next 0)] [(2,0,Zn)] fun _ _ => ?_
 refine ⟨_,rfl,(ac_d_l11Draw st.next s7 hC7 (by first | assumption | omega)).mono ?_⟩
 rintro _ s9 ⟨g9,L9,rfl,h9,hF9,h9',hC9⟩
 refine ⟨_,rfl,?_⟩
 refine ⟨_,op_stw (vs := cNV g9) rfl rfl rfl rfl rfl rfl rfl rfl,?_⟩
 refine Cm 2 s9 [Ml 2 0,(3,vI 0),(4,vP st.next 0),Ml 5 1] [(2,0,Zn),(5,1,cNV g9)] fun _ _ => ?_
 refine ⟨fun _ => False,?_⟩
 refine ⟨_,op_ldo (v := (vNV g9)) rfl rfl rfl rfl,?_⟩
 refine ⟨ld_own rfl rfl rfl,?_⟩
 refine ⟨_,rfl,(ac_d_l1Below st.next 9 s9 hC9 (by first | assumption | omega)).mono ?_⟩
 rintro _ s12 ⟨r12,rfl,h12,h12',h12'',hC12,hL12⟩
 refine ⟨fun _ h => h.elim,?_⟩
 have ew13 : IntKind.wrap .i64 (r12 - (1)) = r12 - (1) := wrap_i64 (by omega) (by omega)
 refine ⟨_,rfl,?_⟩
 refine ⟨_,op_stw (vs := cNV g9) rfl rfl rfl rfl rfl rfl rfl rfl,?_⟩
 refine cxs ?_
 have hF := hF9.later hL12
 exact Rt ⟨g9,_,rfl,h9,h9' _ hF.1,(hF.out hP7).2.2⟩
structure leqS (a b : Sta) : Prop where
 ka : stateOk a
 kb : stateOk b
 le : joinF a b 5 = b
theorem leqS_no {a b x : Sta} (h : (x,false) = joinP a b) (k : leqS a b) : False := by
 unfold joinP at h
 rw [if_pos ⟨k.ka,k.kb⟩] at h
 injection h with _ h; cases h
theorem joinP_big {a b x : Sta} {c : Bool} (h : (x,c) = joinP a b) (ha : bigS a) (hb : bigS b) : bigS x := by
 unfold joinP at h
 split at h
 ·injection h with h _; rw [h]; exact bigS_join ha hb
 ·injection h with h _; rw [h]; exact bigS_nil
theorem joinP_is {a b x : Sta} (h : (x,true) = joinP a b) (k : joinF a b 5 = b) : x = b := by
 unfold joinP at h
 split at h
 ·injection h with h _; rw [h]; exact k
 ·injection h with _ h; cases h
theorem joinP_leq {a b x : Sta} (h : (x,true) = joinP a b) (k : x = b) : leqS a b := by
 unfold joinP at h
 split at h
 ·rename_i hk; injection h with h _; exact ⟨hk.1,hk.2,h.symm.trans k⟩
 ·injection h with _ h; cases h
theorem ac_impl_StateLeq (A B : SV) (st : St) (hA : RdS st A) (hB : RdS st B) (ha : bigS A.x) (hb : bigS B.x) : C 23 [.agg #[vS A.p A.x.items.length,vS A.q A.x.floors.length],.agg #[vS B.p B.x.items.length,vS B.q B.x.floors.length]] st (fun v s => ∃ x,v = .bool x ∧ (x = true ↔ leqS A.x B.x) ∧ Pres st s) := by
 refine AC.enterX (i := ⟨[2,3,5],[2,3,5],[0,1,2,3,4,5,6],[]⟩) [] Tryz.func23 rfl rfl (by kernel_rfl) (by kernel_rfl) Tryz.ntmps23 (Lb rfl) rfl ?_
 iterate 2 refine ⟨_,rfl,?_⟩
 refine Cm 2 st [Ml 2 0,Ml 3 1,(4,vB false)] [(2,0,cSV A),(3,1,cSV B)] fun _ _ => ?_
 refine ⟨_,Od rfl,?_⟩
 refine ⟨_,Od rfl,?_⟩
 refine ⟨_,rfl,(ac_impl_StateJoin A B st hA hB (by first | assumption | omega) (by first | assumption | omega)).mono ?_⟩
 rintro _ s10 ⟨u10,b10,rfl,h10,hO10,hN10,hP10⟩
 rcases b10 with _|_
 ·iterate 3 refine ⟨_,rfl,?_⟩
  refine ⟨_,Os rfl,?_⟩
  refine Cm 3 s10 [Ml 3 1,(4,vB false),Ml 5 2,(6,vB false)] [(3,1,cSV B),(5,2,cSV u10)] fun _ _ => ?_
  refine ⟨_,rfl,?_⟩
  exact cxs (Rt ⟨false,rfl,⟨fun h => absurd h Bool.false_ne_true,fun h => (show False from (leqS_no h10 h)).elim⟩,hP10⟩)
 ·iterate 3 refine ⟨_,rfl,?_⟩
  refine ⟨_,Os rfl,?_⟩
  refine Cm 3 s10 [Ml 3 1,(4,vB false),Ml 5 2,(6,vB true)] [(3,1,cSV B),(5,2,cSV u10)] fun _ _ => ?_
  refine ⟨_,Od rfl,?_⟩
  refine ⟨_,Od rfl,?_⟩
  refine ⟨_,rfl,(ac_impl_StateSame u10 B s10 hO10.rdS (hB.pres hP10) (joinP_big h10 ha hb)).mono ?_⟩
  rintro _ s10 ⟨x17,rfl,h17,rfl⟩
  rcases x17 with _|_
  ·replace h17 := fun k => Bool.false_ne_true (h17.2 k)
   refine ⟨_,rfl,?_⟩
   exact cxs (Rt ⟨false,rfl,⟨fun h => absurd h Bool.false_ne_true,fun h => (show False from (absurd (joinP_is h10 h.le) h17)).elim⟩,hP10⟩)
  ·replace h17 := h17.1 rfl
   refine ⟨_,rfl,?_⟩
   exact cxs (Rt ⟨true,rfl,⟨fun _ => joinP_leq h10 h17,fun _ => rfl⟩,hP10⟩)
theorem AC.truP {f : FuncId} {args : List Value} {st : St} {P : Prop} (h : C f args st (fun v s => ∃ x,v = .bool x ∧ (x = true ↔ P) ∧ Pres st s)) (hp : P) : C f args st (fun v s => v = vB true ∧ Pres st s) :=
 AC.mono h fun v s ⟨x,h1,h2,h3⟩ => ⟨by rw [h1,h2.2 hp],h3⟩
theorem fold_join : ∀ (l : List Sta) (x : Sta),stateOk x → (∀ s ∈ l,stateOk s) → stateOk (joinL l) ∧ l.foldl (fun a s => joinF a s 5) x = joinF x (joinL l) 5
 | [],x,hx,_ => ⟨stateOk_nil,(join_nil hx).symm⟩
 | b :: l,x,hx,h => by
  have hb := h b (List.mem_cons_self ..)
  have hl := fun s hs => h s (List.mem_cons_of_mem _ hs)
  have h1 := fold_join l (joinF x b 5) (stateOk_join hx hb) hl
  have h2 := fold_join l (joinF nilS b 5) (stateOk_join stateOk_nil hb) hl
  have e : joinL (b :: l) = joinF b (joinL l) 5 := by
   show l.foldl _ (joinF nilS b 5) = _
   rw [h2.2,show joinF nilS b 5 = b from nil_join hb]
  refine ⟨by rw [e]; exact stateOk_join hb h1.1,?_⟩
  show l.foldl _ (joinF x b 5) = _
  rw [h1.2,e,join_assoc hx hb h1.1]
theorem joinL_ok {l : List Sta} (h : ∀ s ∈ l,stateOk s) : stateOk (joinL l) := (fold_join l nilS stateOk_nil h).1
theorem since_yes {g : Lg} {n : Int} {x : Sta} (h : (x,true) = sinceF g n) : (logOk g ∧ g.frm ≤ n ∧ n ≤ g.frm + (g.list.length : Int)) ∧ x = joinL (g.list.drop (n - g.frm).toNat) := by
 unfold sinceF at h
 split at h
 ·rename_i hk; injection h with h _; exact ⟨hk,h⟩
 ·injection h with _ h; cases h
theorem joinL_mem : ∀ (l : List Sta) (y : Sta),(∀ s ∈ l,stateOk s) → y ∈ l → joinF y (joinL l) 5 = joinL l
 | b :: l,y,h,hy => by
  have hb := h b (List.mem_cons_self ..)
  have hl : ∀ s ∈ l,stateOk s := fun s hs => h s (List.mem_cons_of_mem _ hs)
  have h2 := fold_join l (joinF nilS b 5) (stateOk_join stateOk_nil hb) hl
  have e : joinL (b :: l) = joinF b (joinL l) 5 := by
   show l.foldl _ (joinF nilS b 5) = _
   rw [h2.2,show joinF nilS b 5 = b from nil_join hb]
  have hJ := joinL_ok hl
  rw [e]
  rcases List.mem_cons.1 hy with rfl | hy
  ·exact leS_left hb hJ
  ·exact leS_trans (h y (List.mem_cons_of_mem _ hy)) hJ (stateOk_join hb hJ) (joinL_mem l y hl hy) (leS_right hb hJ)
theorem ship_leq {x : Nd} {n : Int} {u : Sta} (h : (u,true) = ship1 x n) (hk : nodeOk x) {i : Nat} {y : Sta} (hy : x.g.list[i]? = some y) (hn : x.g.frm + (i : Int) ≥ n) : leqS y u := by
 unfold ship1 at h
 split at h
 ·rename_i hb
  injection h with h _
  obtain ⟨hc,hu⟩ := since_yes (g := x.g) (n := n) (x := (sinceF x.g n).1) (by rw [← hb])
  rw [← h] at hu
  have hok := hk.g.2.2.2.2
  have hd : ∀ s ∈ x.g.list.drop (n - x.g.frm).toNat,stateOk s := fun s hs => hok s (List.mem_of_mem_drop hs)
  have hm : y ∈ x.g.list.drop (n - x.g.frm).toNat := by
   refine List.mem_of_getElem? (i := i - (n - x.g.frm).toNat) ?_
   rw [List.getElem?_drop,show (n - x.g.frm).toNat + (i - (n - x.g.frm).toNat) = i by omega]
   exact hy
  exact ⟨hok y (List.mem_of_getElem? hy),by rw [hu]; exact joinL_ok hd,by rw [hu]; exact joinL_mem _ _ hd hm⟩
 ·injection h with _ h; cases h
theorem ship_st {x : Nd} {n : Int} {u : Sta} {b : Bool} (h : (u,b) = ship1 x n) (hk : nodeOk x) : stateOk u ∧ (b = false → u = x.s) := by
 unfold ship1 at h
 split at h
 ·rename_i hb
  injection h with h hb2
  obtain ⟨_,hu⟩ := since_yes (g := x.g) (n := n) (x := (sinceF x.g n).1) (by rw [← hb])
  rw [← h] at hu
  exact ⟨by rw [hu]; exact joinL_ok fun s hs => hk.g.2.2.2.2 s (List.mem_of_mem_drop hs),fun k => by rw [hb2] at k; cases k⟩
 ·injection h with h _
  exact ⟨by rw [h]; exact hk.s,fun _ => h⟩
theorem shipF_eq {x : Nd} {n : Int} {u v : Sta} {b c : Bool} (h : (u,b) = shipF x n) (k : (v,c) = shipF x n) : b = c := by
 have := h.trans k.symm
 injection this
theorem shipF_no {x : Nd} {n : Int} {u : Sta} {b : Bool} (h : (u,b) = shipF x n) (k : ¬ nodeOk x) : u = nilS ∧ b = false := by
 unfold shipF at h
 rw [if_neg k] at h
 injection h with h1 h2
 exact ⟨h1,h2⟩
theorem ac_laws_FnShipped (p : Option Addr) (bs : List Int) (st : St) (hI : Ints st .u8 p bs) : C 4 [vS p bs.length] st (fun v s => v = vB true) := by
 refine AC.enterX (i := ⟨[3,5,7],[3,5,7,35,42,46,47,53,54,61,62],[0,2,3,4,5,6,8,9,11,31,34,40,50,70],[]⟩) [(15,[],[])] Tryz.func4 rfl rfl (by kernel_rfl) (by kernel_rfl) Tryz.ntmps4 (Lb rfl) rfl ?_
 refine Cm 0 st [(0,vS p bs.length),(2,vB false)] [] fun _ _ => ?_
 refine ⟨_,rfl,(ac_laws_big p bs.length st).mono ?_⟩
 rintro _ st ⟨x11,rfl,h11,rfl⟩
 rcases x11 with _|_
 ·replace h11 := of_decide_eq_false h11.symm
  refine Cm 0 st [(0,vS p bs.length),(2,vB false),(11,vB false)] [] fun _ _ => ?_
  refine cxs ?_
  refine ⟨_,rfl,(ac_spec_DrawShip p bs st hI (by first | assumption | omega)).mono ?_⟩
  rintro _ s14 ⟨g14,n14,rfl,h14,h14',hP14⟩
  iterate 3 refine ⟨_,rfl,?_⟩
  refine ⟨_,op_stw (vs := cNV g14) rfl rfl rfl rfl rfl rfl rfl rfl,?_⟩
  refine Cm 1 s14 [(2,vB false),Ml 3 0,(4,vI n14)] [(3,0,cNV g14)] fun _ _ => ?_
  refine ⟨_,op_ldo (v := (vNV g14)) rfl rfl rfl rfl,?_⟩
  refine ⟨_,rfl,(ac_impl_Ship g14 n14 s14 h14' h14).mono ?_⟩
  rintro _ s20 ⟨u20,b20,rfl,h20,hO20,hN20,hP20⟩
  rcases b20 with _|_
  ·iterate 3 refine ⟨_,rfl,?_⟩
   refine ⟨_,Os rfl,?_⟩
   refine Cm 2 s20 [(2,vB false),Ml 3 0,(4,vI n14),Ml 5 1,(6,vB false)] [(3,0,cNV g14),(5,1,cSV u20)] fun _ _ => ?_
   refine ⟨_,op_ldo (v := (vNV g14)) rfl rfl rfl rfl,?_⟩
   refine ⟨_,rfl,(ac_spec_Ship g14 n14 s20 (h14'.pres hP20) h14).mono ?_⟩
   rintro _ s26 ⟨u26,b26,rfl,h26,hO26,hN26,hP26⟩
   iterate 3 refine ⟨_,rfl,?_⟩
   refine ⟨_,Os rfl,?_⟩
   refine Cm 3 s26 [(2,vB false),Ml 3 0,(4,vI n14),Ml 5 1,(6,vB false),(8,vB b26)] [(3,0,cNV g14),(5,1,cSV u20)] fun _ _ => ?_
   refine ⟨_,rfl,?_⟩
   rintro (_|_) h31
   rotate_left
   ·exact absurd ((shipF_eq h20 h26)) (b_ne h31)
   refine Cm 3 s26 [(2,vB false),Ml 3 0,(4,vI n14),Ml 5 1,(6,vB false),(31,vB false)] [(3,0,cNV g14),(5,1,cSV u20)] fun _ _ => ?_
   have hR26 := h14'.pres (hP20.trans hP26)
   have hU26 : RdS s26 u20 := hO20.rdS.pres hP26
   refine cxs ?_
   refine ⟨_,op_ldo (v := (vNV g14)) rfl rfl rfl rfl,?_⟩
   refine ⟨_,rfl,(ac_spec_NodeOk g14 s26 hR26 h14).mono ?_⟩
   rintro _ s33 ⟨x33,rfl,h33,hP33⟩
   rcases x33 with _|_
   ·replace h33 := fun k => Bool.false_ne_true (h33.2 k)
    refine ⟨_,rfl,?_⟩
    refine Cm 3 s33 [(2,vB false),Ml 3 0,(4,vI n14),Ml 5 1,(6,vB false),(34,vB true)] [(3,0,cNV g14),(5,1,cSV u20)] fun _ _ => ?_
    have ⟨hu,_⟩ := shipF_no h20 h33
    refine ⟨_,rfl,?_⟩
    refine ⟨_,Od rfl,?_⟩
    iterate 2 refine ⟨_,rfl,?_⟩
    rintro (_|_) h38
    ·exact absurd ((by rw [hu]; rfl)) (beq_eq_false_iff_ne.1 h38)
    refine cxs ?_
    exact ⟨.inl rfl,_,rfl,rfl⟩
   ·replace h33 := h33.1 rfl
    refine ⟨_,rfl,?_⟩
    refine Cm 3 s33 [(2,vB false),Ml 3 0,(4,vI n14),Ml 5 1,(6,vB false),(34,vB false)] [(3,0,cNV g14),(5,1,cSV u20)] fun _ _ => ?_
    rw [ship_ok h33] at h20
    have ⟨hko,hke⟩ := ship_st h20 h33
    have hbu := big_ok hko
    have hR33 := hR26.pres hP33
    have hU33 := hU26.pres hP33
    refine cxs ?_
    refine ⟨_,rfl,?_⟩
    refine Cm 3 s33 [(2,vB false),Ml 3 0,(4,vI n14),Ml 5 1,(40,vB true)] [(3,0,cNV g14),(5,1,cSV u20)] fun _ _ => ?_
    refine ⟨_,Od rfl,?_⟩
    refine ⟨_,rfl,?_⟩
    refine ⟨_,Od rfl,?_⟩
    refine ⟨_,rfl,(AC.tru (ac_impl_StateSame u20 g14.s s33 hU33 hR33.s hbu) (hke rfl)).mono ?_⟩
    rintro _ s33 ⟨rfl,rfl⟩
    refine cxs ?_
    exact ⟨.inl rfl,_,rfl,rfl⟩
  ·iterate 3 refine ⟨_,rfl,?_⟩
   refine ⟨_,Os rfl,?_⟩
   refine Cm 2 s20 [(2,vB false),Ml 3 0,(4,vI n14),Ml 5 1,(6,vB true)] [(3,0,cNV g14),(5,1,cSV u20)] fun _ _ => ?_
   refine ⟨_,op_ldo (v := (vNV g14)) rfl rfl rfl rfl,?_⟩
   refine ⟨_,rfl,(ac_spec_Ship g14 n14 s20 (h14'.pres hP20) h14).mono ?_⟩
   rintro _ s26 ⟨u26,b26,rfl,h26,hO26,hN26,hP26⟩
   iterate 3 refine ⟨_,rfl,?_⟩
   refine ⟨_,Os rfl,?_⟩
   refine Cm 3 s26 [(2,vB false),Ml 3 0,(4,vI n14),Ml 5 1,(6,vB true),(8,vB b26)] [(3,0,cNV g14),(5,1,cSV u20)] fun _ _ => ?_
   refine ⟨_,rfl,?_⟩
   rintro (_|_) h31
   rotate_left
   ·exact absurd ((shipF_eq h20 h26)) (b_ne h31)
   refine Cm 3 s26 [(2,vB false),Ml 3 0,(4,vI n14),Ml 5 1,(6,vB true),(31,vB false)] [(3,0,cNV g14),(5,1,cSV u20)] fun _ _ => ?_
   have hR26 := h14'.pres (hP20.trans hP26)
   have hU26 : RdS s26 u20 := hO20.rdS.pres hP26
   refine cxs ?_
   refine ⟨_,op_ldo (v := (vNV g14)) rfl rfl rfl rfl,?_⟩
   refine ⟨_,rfl,(ac_spec_NodeOk g14 s26 hR26 h14).mono ?_⟩
   rintro _ s33 ⟨x33,rfl,h33,hP33⟩
   rcases x33 with _|_
   ·replace h33 := fun k => Bool.false_ne_true (h33.2 k)
    refine ⟨_,rfl,?_⟩
    refine Cm 3 s33 [(2,vB false),Ml 3 0,(4,vI n14),Ml 5 1,(6,vB true),(34,vB true)] [(3,0,cNV g14),(5,1,cSV u20)] fun _ _ => ?_
    have ⟨hu,_⟩ := shipF_no h20 h33
    refine ⟨_,rfl,?_⟩
    refine ⟨_,Od rfl,?_⟩
    iterate 2 refine ⟨_,rfl,?_⟩
    rintro (_|_) h38
    ·exact absurd ((by rw [hu]; rfl)) (beq_eq_false_iff_ne.1 h38)
    refine cxs ?_
    exact ⟨.inl rfl,_,rfl,rfl⟩
   ·replace h33 := h33.1 rfl
    refine ⟨_,rfl,?_⟩
    refine Cm 3 s33 [(2,vB false),Ml 3 0,(4,vI n14),Ml 5 1,(6,vB true),(34,vB false)] [(3,0,cNV g14),(5,1,cSV u20)] fun _ _ => ?_
    rw [ship_ok h33] at h20
    have ⟨hko,hke⟩ := ship_st h20 h33
    have hbu := big_ok hko
    have hR33 := hR26.pres hP33
    have hU33 := hU26.pres hP33
    refine cxs ?_
    refine ⟨_,rfl,?_⟩
    refine Cm 3 s33 [(2,vB false),Ml 3 0,(4,vI n14),Ml 5 1,(40,vB false)] [(3,0,cNV g14),(5,1,cSV u20)] fun _ _ => ?_
    refine cxs ?_
    refine Cm 3 s33 [(2,vB false),Ml 3 0,(4,vI n14),Ml 5 1,(9,vI 0)] [(3,0,cNV g14),(5,1,cSV u20)] fun _ _ => ?_
    have hf14 : 0 ≤ g14.g.frm ∧ g14.g.frm ≤ 100000 := h33.g.2.2.1
    have hl14 : (g14.g.l.length : Int) ≤ 8 := by have h1 := h33.g.2.1; have h2 := h33.g.1.2; have h3 : g14.g.x.list.length = g14.g.l.length := List.length_map _; have h4 : (g14.g.x.list.length : Int) ≤ g14.g.x.cap := h1; have h5 : g14.g.x.cap ≤ 8 := h2; omega
    refine AW.loopM (fun i : Nat => [(3,vL 3 0 (0)),(4,vI n14),(5,vL 5 0 (1)),(9,vI (i : Int))]) (fun i : Nat => [(3,0,cNV g14),(5,1,[vS u20.p u20.x.items.length,vS u20.q u20.x.floors.length])]) (fun m (i : Nat) st' => m = g14.g.l.length - i ∧ i ≤ g14.g.l.length ∧ Pres s33 st') 0 _ ⟨rfl,rfl,rfl,rfl,trivial⟩ ⟨rfl,rfl,trivial⟩ ⟨rfl,Nat.zero_le _,Pres.refl _⟩ ?_
    rintro m i ρ0 ff gg st' ⟨rfl,hi,hP⟩
    iterate 2 refine ⟨_,rfl,?_⟩
    refine ⟨_,Od rfl,?_⟩
    iterate 2 refine ⟨_,rfl,?_⟩
    rintro (_|_) h50
    ·replace h50 : ¬ ((i : Int) < (g14.g.l.length : Int)) := of_decide_eq_false h50
     refine Cm gg st' [Ml 3 0,(4,vI n14),Ml 5 1,(9,vI (i : Int)),(50,vB false)] [(3,0,cNV g14),(5,1,cSV u20)] fun _ _ => ?_
     have hR := hR33.pres hP
     have hU := hU33.pres hP
     refine cxs ?_
     refine ⟨_,Od rfl,?_⟩
     refine ⟨_,rfl,(AC.tru (ac_impl_StateOk u20 st' hU hbu) hko).mono ?_⟩
     rintro _ st' ⟨rfl,rfl⟩
     refine cxs ?_
     exact ⟨.inl rfl,_,rfl,rfl⟩
    ·replace h50 : (i : Int) < (g14.g.l.length : Int) := of_decide_eq_true h50
     refine Cm gg st' [Ml 3 0,(4,vI n14),Ml 5 1,(9,vI (i : Int)),(50,vB true)] [(3,0,cNV g14),(5,1,cSV u20)] fun _ _ => ?_
     have hR := hR33.pres hP
     have hU := hU33.pres hP
     refine cxs ?_
     iterate 2 refine ⟨_,rfl,?_⟩
     refine ⟨_,Od rfl,?_⟩
     have ew57 : IntKind.wrap .i64 (g14.g.frm + (i : Int)) = g14.g.frm + (i : Int) := wrap_i64 (by omega) (by omega)
     iterate 2 refine ⟨_,rfl,?_⟩
     rintro (_|_) h59
     ·replace h59 : ¬ ((IntKind.wrap .i64 (g14.g.frm + (i : Int))) ≥ n14) := of_decide_eq_false h59
      rw [ew57] at h59
      refine ⟨_,rfl,?_⟩
      refine Cm gg st' [Ml 3 0,(4,vI n14),Ml 5 1,(9,vI (i : Int)),(50,vB true),(70,vB false)] [(3,0,cNV g14),(5,1,cSV u20)] fun _ _ => ?_
      refine cxs ?_
      have ew52 : IntKind.wrap .i64 ((i : Int) + (1)) = ((i + 1 : Nat) : Int) := (wrap_i64 (by omega) (by omega)).trans (by omega)
      refine ⟨_,rfl,?_⟩
      exact ⟨i + 1,g14.g.l.length - (i + 1),by omega,⟨rfl,rfl,rfl,congrArg (Value.int .i64) ew52,trivial⟩,⟨rfl,rfl,trivial⟩,rfl,by omega,hP⟩
     ·replace h59 : (IntKind.wrap .i64 (g14.g.frm + (i : Int))) ≥ n14 := of_decide_eq_true h59
      rw [ew57] at h59
      iterate 2 refine ⟨_,rfl,?_⟩
      refine ⟨_,Od rfl,?_⟩
      refine op_at i hR.g.1 (by omega) rfl rfl rfl rfl rfl rfl rfl ?_
      intro x65 b65 d65 k65 hy65 hb65 hm65 hc65 ho65
      refine ⟨_,op_lda rfl rfl rfl rfl rfl hm65 hc65 rfl,?_⟩
      refine ⟨_,Od rfl,?_⟩
      have hy : g14.g.x.list[i]? = some x65.x := by show (g14.g.l.map (·.x))[i]? = _; rw [List.getElem?_map,hy65]; rfl
      have hm65 := List.mem_of_getElem? hy65
      have hlq := ship_leq h20 h33 (i := i) (y := x65.x) hy h59
      refine ⟨_,rfl,(AC.truP (ac_impl_StateLeq x65 u20 st' (hR.g.2 x65 hm65) hU (big_ok hlq.ka) hbu) hlq).mono ?_⟩
      rintro _ s68 ⟨rfl,hP68⟩
      iterate 2 refine ⟨_,rfl,?_⟩
      refine Cm gg s68 [Ml 3 0,(4,vI n14),Ml 5 1,(9,vI (i : Int)),(50,vB true),(70,vB false)] [(3,0,cNV g14),(5,1,cSV u20)] fun _ _ => ?_
      refine cxs ?_
      have ew52 : IntKind.wrap .i64 ((i : Int) + (1)) = ((i + 1 : Nat) : Int) := (wrap_i64 (by omega) (by omega)).trans (by omega)
      refine ⟨_,rfl,?_⟩
      exact ⟨i + 1,g14.g.l.length - (i + 1),by omega,⟨rfl,rfl,rfl,congrArg (Value.int .i64) ew52,trivial⟩,⟨rfl,rfl,trivial⟩,rfl,by omega,hP.trans hP68⟩
 ·replace h11 := of_decide_eq_true h11.symm
  refine Cm 0 st [(0,vS p bs.length),(2,vB false),(11,vB true)] [] fun _ _ => ?_
  refine cxs ?_
  exact ⟨.inl rfl,_,rfl,rfl⟩
end Go.Proofs.YtpnolkhfeliehaaGreat.AM
