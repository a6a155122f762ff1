/- Part 6 of the texts on which the law's proof rests. -/
import Derived.Test.YtpnolkhfeliehaaGreatXpe
namespace Go.Proofs.YtpnolkhfeliehaaGreat.AM
open Go Go.Proofs
set_option linter.unusedVariables false
set_option linter.unusedSimpArgs false
set_option maxRecDepth 100000
set_option maxHeartbeats 4000000
theorem ac_d_l2Draw {p : Option Addr} {bs : List Int} (c : Nat) (st : St) (hc : Cur st c p bs) (hs : bs.length < 1099511627776) : C 147 [vP c 0] st (fun v s => ∃ e : Ent,v = .agg #[vI e.inc,vI e.rank,vI e.beat,vI e.ver,.string e.data] ∧ e.data.size ≤ 9 ∧ Cur s c p bs ∧ PresC c st s) := by
 refine AC.enterX (i := ⟨[2,3],[2,3,13,19,25,31,34],[0,2,3,7,8,14,20,26,32],[]⟩) [] Tryz.func147 rfl rfl (by kernel_rfl) (by kernel_rfl) Tryz.ntmps147 (Lb rfl) rfl ?_
 refine ⟨_,rfl,?_⟩
 refine Cm 1 st [(0,vP c 0),Ml 2 0] [(2,0,[vI 0,vI 0,vI 0,vI 0,.string ⟨#[]⟩])] fun _ _ => ?_
 refine ⟨_,rfl,(ac_d_l2Right c st hc (by first | assumption | omega)).mono ?_⟩
 rintro _ s5 ⟨e5,rfl,h5,hC5,hL5⟩
 refine ⟨_,rfl,?_⟩
 refine ⟨_,Os rfl,?_⟩
 refine Cm 2 s5 [(0,vP c 0),Ml 2 0,Ml 3 1] [(2,0,[vI 0,vI 0,vI 0,vI 0,.string ⟨#[]⟩]),(3,1,[vI e5.inc,vI e5.rank,vI e5.beat,vI e5.ver,.string e5.data])] fun _ _ => ?_
 have hd : e5.data.size ≤ 9 := Nat.le_trans h5.2.2.2.2 (by decide)
 refine ⟨_,rfl,(ac_d_l1Below c 14 s5 hC5 (by first | assumption | omega)).mono ?_⟩
 rintro _ s7 ⟨r7,rfl,h7,h7',h7'',hC7,hL7⟩
 refine Cm 2 s7 [(0,vP c 0),Ml 2 0,Ml 3 1,(7,vI r7)] [(2,0,[vI 0,vI 0,vI 0,vI 0,.string ⟨#[]⟩]),(3,1,[vI e5.inc,vI e5.rank,vI e5.beat,vI e5.ver,.string e5.data])] fun _ _ => ?_
 refine ⟨_,rfl,?_⟩
 rintro (_|_) h9
 ·replace h9 : ¬ (r7 = (0)) := beq_eq_false_iff_ne.1 h9
  refine Cm 2 s7 [(0,vP c 0),Ml 2 0,Ml 3 1,(7,vI r7),(8,vB false)] [(2,0,[vI 0,vI 0,vI 0,vI 0,.string ⟨#[]⟩]),(3,1,[vI e5.inc,vI e5.rank,vI e5.beat,vI e5.ver,.string e5.data])] fun _ _ => ?_
  refine ⟨_,rfl,?_⟩
  rintro (_|_) h15
  ·replace h15 : ¬ (r7 = (1)) := beq_eq_false_iff_ne.1 h15
   refine Cm 2 s7 [(0,vP c 0),Ml 2 0,Ml 3 1,(7,vI r7),(14,vB false)] [(2,0,[vI 0,vI 0,vI 0,vI 0,.string ⟨#[]⟩]),(3,1,[vI e5.inc,vI e5.rank,vI e5.beat,vI e5.ver,.string e5.data])] fun _ _ => ?_
   refine ⟨_,rfl,?_⟩
   rintro (_|_) h21
   ·replace h21 : ¬ (r7 = (2)) := beq_eq_false_iff_ne.1 h21
    refine Cm 2 s7 [(0,vP c 0),Ml 2 0,Ml 3 1,(7,vI r7),(20,vB false)] [(2,0,[vI 0,vI 0,vI 0,vI 0,.string ⟨#[]⟩]),(3,1,[vI e5.inc,vI e5.rank,vI e5.beat,vI e5.ver,.string e5.data])] fun _ _ => ?_
    refine ⟨_,rfl,?_⟩
    rintro (_|_) h27
    ·replace h27 : ¬ (r7 = (3)) := beq_eq_false_iff_ne.1 h27
     refine Cm 2 s7 [(0,vP c 0),Ml 2 0,Ml 3 1,(7,vI r7),(26,vB false)] [(2,0,[vI 0,vI 0,vI 0,vI 0,.string ⟨#[]⟩]),(3,1,[vI e5.inc,vI e5.rank,vI e5.beat,vI e5.ver,.string e5.data])] fun _ _ => ?_
     refine ⟨_,rfl,?_⟩
     rintro (_|_) h33
     ·replace h33 : ¬ (r7 = (4)) := beq_eq_false_iff_ne.1 h33
      refine Cm 2 s7 [Ml 2 0,Ml 3 1,(32,vB false)] [(2,0,[vI 0,vI 0,vI 0,vI 0,.string ⟨#[]⟩]),(3,1,[vI e5.inc,vI e5.rank,vI e5.beat,vI e5.ver,.string e5.data])] fun _ _ => ?_
      refine cxs ?_
      refine ⟨_,Od rfl,?_⟩
      refine ⟨_,Os rfl,?_⟩
      exact cxs (Rt ⟨e5,rfl,hd,hC7,hL5.trans hL7⟩)
     ·replace h33 : r7 = (4) := beq_iff_eq.1 h33
      refine Cm 2 s7 [Ml 2 0,Ml 3 1,(32,vB true)] [(2,0,[vI 0,vI 0,vI 0,vI 0,.string ⟨#[]⟩]),(3,1,[vI e5.inc,vI e5.rank,vI e5.beat,vI e5.ver,.string e5.data])] fun _ _ => ?_
      refine ⟨_,rfl,?_⟩
      refine ⟨_,Os rfl,?_⟩
      refine Cm 2 s7 [Ml 2 0,Ml 3 1] [(2,0,[vI 0,vI 0,vI 0,vI 0,.string ⟨#[]⟩]),(3,1,[vI e5.inc,vI e5.rank,vI e5.beat,vI e5.ver,.string ⟨#[49,50,51,52,53,54,55,56,57]⟩])] fun _ _ => ?_
      refine ⟨_,Od rfl,?_⟩
      refine ⟨_,Os rfl,?_⟩
      exact cxs (Rt ⟨⟨e5.inc,e5.rank,e5.beat,e5.ver,⟨#[49,50,51,52,53,54,55,56,57]⟩⟩,rfl,by show 9 ≤ 9; exact Nat.le_refl 9,hC7,hL5.trans hL7⟩)
    ·replace h27 : r7 = (3) := beq_iff_eq.1 h27
     refine Cm 2 s7 [(0,vP c 0),Ml 2 0,Ml 3 1,(7,vI r7),(26,vB true)] [(2,0,[vI 0,vI 0,vI 0,vI 0,.string ⟨#[]⟩]),(3,1,[vI e5.inc,vI e5.rank,vI e5.beat,vI e5.ver,.string e5.data])] fun _ _ => ?_
     refine op_litI (k := .i64) (l := [-1,1000,1001]) rfl rfl rfl rfl rfl rfl (Lb rfl) ?_
     intro q29 s29 hO29 hP29 hN29
     refine ⟨_,rfl,(ac_d_l1PickInt c q29 ([-1,1000,1001]) s29 (hC7.pres hP29) (by first | assumption | omega) (by first | assumption | omega | decide) (by first | assumption | omega) (by first | assumption | exact NC.new (by assumption) (Cur.lt (by assumption)))).mono ?_⟩
     rintro _ s30 ⟨r30,rfl,h30,hC30,hL30⟩
     refine ⟨_,rfl,?_⟩
     refine ⟨_,Os rfl,?_⟩
     refine Cm 2 s30 [Ml 2 0,Ml 3 1] [(2,0,[vI 0,vI 0,vI 0,vI 0,.string ⟨#[]⟩]),(3,1,[vI e5.inc,vI e5.rank,vI e5.beat,vI r30,.string e5.data])] fun _ _ => ?_
     refine ⟨_,Od rfl,?_⟩
     refine ⟨_,Os rfl,?_⟩
     exact cxs (Rt ⟨⟨e5.inc,e5.rank,e5.beat,r30,e5.data⟩,rfl,hd,hC30,((hL5.trans hL7).trans hP29.c).trans hL30⟩)
   ·replace h21 : r7 = (2) := beq_iff_eq.1 h21
    refine Cm 2 s7 [(0,vP c 0),Ml 2 0,Ml 3 1,(7,vI r7),(20,vB true)] [(2,0,[vI 0,vI 0,vI 0,vI 0,.string ⟨#[]⟩]),(3,1,[vI e5.inc,vI e5.rank,vI e5.beat,vI e5.ver,.string e5.data])] fun _ _ => ?_
    refine op_litI (k := .i64) (l := [-1,100000,100001]) rfl rfl rfl rfl rfl rfl (Lb rfl) ?_
    intro q23 s23 hO23 hP23 hN23
    refine ⟨_,rfl,(ac_d_l1PickInt c q23 ([-1,100000,100001]) s23 (hC7.pres hP23) (by first | assumption | omega) (by first | assumption | omega | decide) (by first | assumption | omega) (by first | assumption | exact NC.new (by assumption) (Cur.lt (by assumption)))).mono ?_⟩
    rintro _ s24 ⟨r24,rfl,h24,hC24,hL24⟩
    refine ⟨_,rfl,?_⟩
    refine ⟨_,Os rfl,?_⟩
    refine Cm 2 s24 [Ml 2 0,Ml 3 1] [(2,0,[vI 0,vI 0,vI 0,vI 0,.string ⟨#[]⟩]),(3,1,[vI e5.inc,vI e5.rank,vI r24,vI e5.ver,.string e5.data])] fun _ _ => ?_
    refine ⟨_,Od rfl,?_⟩
    refine ⟨_,Os rfl,?_⟩
    exact cxs (Rt ⟨⟨e5.inc,e5.rank,r24,e5.ver,e5.data⟩,rfl,hd,hC24,((hL5.trans hL7).trans hP23.c).trans hL24⟩)
  ·replace h15 : r7 = (1) := beq_iff_eq.1 h15
   refine Cm 2 s7 [(0,vP c 0),Ml 2 0,Ml 3 1,(7,vI r7),(14,vB true)] [(2,0,[vI 0,vI 0,vI 0,vI 0,.string ⟨#[]⟩]),(3,1,[vI e5.inc,vI e5.rank,vI e5.beat,vI e5.ver,.string e5.data])] fun _ _ => ?_
   refine op_litI (k := .i64) (l := [-1,2]) rfl rfl rfl rfl rfl rfl (Lb rfl) ?_
   intro q17 s17 hO17 hP17 hN17
   refine ⟨_,rfl,(ac_d_l1PickInt c q17 ([-1,2]) s17 (hC7.pres hP17) (by first | assumption | omega) (by first | assumption | omega | decide) (by first | assumption | omega) (by first | assumption | exact NC.new (by assumption) (Cur.lt (by assumption)))).mono ?_⟩
   rintro _ s18 ⟨r18,rfl,h18,hC18,hL18⟩
   refine ⟨_,rfl,?_⟩
   refine ⟨_,Os rfl,?_⟩
   refine Cm 2 s18 [Ml 2 0,Ml 3 1] [(2,0,[vI 0,vI 0,vI 0,vI 0,.string ⟨#[]⟩]),(3,1,[vI e5.inc,vI r18,vI e5.beat,vI e5.ver,.string e5.data])] fun _ _ => ?_
   refine ⟨_,Od rfl,?_⟩
   refine ⟨_,Os rfl,?_⟩
   exact cxs (Rt ⟨⟨e5.inc,r18,e5.beat,e5.ver,e5.data⟩,rfl,hd,hC18,((hL5.trans hL7).trans hP17.c).trans hL18⟩)
 ·replace h9 : r7 = (0) := beq_iff_eq.1 h9
  refine Cm 2 s7 [(0,vP c 0),Ml 2 0,Ml 3 1,(7,vI r7),(8,vB true)] [(2,0,[vI 0,vI 0,vI 0,vI 0,.string ⟨#[]⟩]),(3,1,[vI e5.inc,vI e5.rank,vI e5.beat,vI e5.ver,.string e5.data])] fun _ _ => ?_
  refine op_litI (k := .i64) (l := [0,1000,1001,-1]) rfl rfl rfl rfl rfl rfl (Lb rfl) ?_
  intro q11 s11 hO11 hP11 hN11
  refine ⟨_,rfl,(ac_d_l1PickInt c q11 ([0,1000,1001,-1]) s11 (hC7.pres hP11) (by first | assumption | omega) (by first | assumption | omega | decide) (by first | assumption | omega) (by first | assumption | exact NC.new (by assumption) (Cur.lt (by assumption)))).mono ?_⟩
  rintro _ s12 ⟨r12,rfl,h12,hC12,hL12⟩
  refine ⟨_,rfl,?_⟩
  refine ⟨_,Os rfl,?_⟩
  refine Cm 2 s12 [Ml 2 0,Ml 3 1] [(2,0,[vI 0,vI 0,vI 0,vI 0,.string ⟨#[]⟩]),(3,1,[vI r12,vI e5.rank,vI e5.beat,vI e5.ver,.string e5.data])] fun _ _ => ?_
  refine ⟨_,Od rfl,?_⟩
  refine ⟨_,Os rfl,?_⟩
  exact cxs (Rt ⟨⟨r12,e5.rank,e5.beat,e5.ver,e5.data⟩,rfl,hd,hC12,((hL5.trans hL7).trans hP11.c).trans hL12⟩)
open Classical in
noncomputable def singF (id : Int) (e : Ent) : Sta × Bool := if stateOk ⟨[⟨id,e⟩],[]⟩ then (⟨[⟨id,e⟩],[]⟩,true) else (nilS,false)
theorem sing_ok {id : Int} {e : Ent} {x : Sta} {b : Bool} (h : (x,b) = singF id e) : stateOk x := by
 unfold singF at h
 split at h
 ·injection h with h _; rw [h]; assumption
 ·injection h with h _; rw [h]; exact stateOk_nil
theorem ac_spec_Single (id : Int) (e : Ent) (st : St) (hz : e.data.size ≤ 1048576) : C 197 [vI id,.agg #[vI e.inc,vI e.rank,vI e.beat,vI e.ver,.string e.data]] st (fun v s => ∃ (u : SV) (b : Bool),v = .tuple #[.agg #[vS u.p u.x.items.length,vS u.q u.x.floors.length],vB b] ∧ (u.x,b) = singF id e ∧ OwnP s (pcS u) ∧ NewP st.next (pcS u) ∧ Pres st s) := by
 refine AC.enterX (i := ⟨[3,4,6],[3,4,6],[0,1,3,4,5,6,14],[]⟩) [] Tryz.func197 rfl rfl (by kernel_rfl) (by kernel_rfl) Tryz.ntmps197 (Lb rfl) rfl ?_
 iterate 2 refine ⟨_,rfl,?_⟩
 refine Cm 2 st [(0,vI id),Ml 3 0,Ml 4 1,(5,vB false)] [(3,0,[vI e.inc,vI e.rank,vI e.beat,vI e.ver,.string e.data]),(4,1,[Sn,Sn])] fun _ _ => ?_
 refine ⟨_,Od rfl,?_⟩
 refine ⟨_,rfl,?_⟩
 refine op_one (z := 6) (a := (⟨id,e⟩ : Itm)) (f := cItm) rfl rfl rfl rfl rfl (by decide) rfl (Lb rfl) rfl rfl rfl ?_
 iterate 2 refine ⟨_,rfl,?_⟩
 refine ⟨_,Os rfl,?_⟩
 refine Cm 3 (st.push 6 ([(⟨id,e⟩ : Itm)].flatMap cItm)) [Ml 4 1,(5,vB false),Ml 6 2] [(4,1,[Sn,Sn]),(6,2,[vS (some ⟨st.next,0,none⟩) 1,Sn])] fun _ _ => ?_
 have hO : OwnR (st.push 6 ([(⟨id,e⟩ : Itm)].flatMap cItm)) 6 cItm (some ⟨st.next,0,none⟩) [(⟨id,e⟩ : Itm)] := OwnR.push
 obtain ⟨s1,hs1⟩ : ∃ s,s = st.push 6 ([(⟨id,e⟩ : Itm)].flatMap cItm) := ⟨_,rfl⟩
 have hP1 : Pres st (st.push 6 ([(⟨id,e⟩ : Itm)].flatMap cItm)) := Pres.push
 rw [← hs1] at hO hP1 ⊢
 have hF : Frs st s1 (pcS ⟨some ⟨st.next,0,none⟩,none,⟨[⟨id,e⟩],[]⟩⟩) := ⟨⟨fun d hd => by
  rcases List.mem_cons.1 hd with rfl | hd
  ·exact own_pc hO
  ·rw [List.mem_singleton.1 hd]; exact .inl ⟨rfl,rfl⟩,List.pairwise_pair.2 (Dis.symm Dis.none)⟩,NewP.cons (by intro r hr; injection hr with hr; rw [← hr]; exact Nat.le_refl _) (NewP.cons New.none NewP.nil),hP1⟩
 have hb : bigS ⟨[⟨id,e⟩],[]⟩ := ⟨show 1 ≤ 1048576 by decide,Nat.zero_le _,fun y hy => by rw [List.mem_singleton.1 hy]; exact hz⟩
 refine ⟨_,Od rfl,?_⟩
 refine ⟨_,rfl,(ac_spec_StateOk ⟨some ⟨st.next,0,none⟩,none,⟨[⟨id,e⟩],[]⟩⟩ s1 hF.1.rdS hb).mono ?_⟩
 rintro _ s1 ⟨x13,rfl,h13,rfl⟩
 rcases x13 with _|_
 ·replace h13 := fun k => Bool.false_ne_true (h13.2 k)
  refine ⟨_,rfl,?_⟩
  refine Cm 3 s1 [Ml 4 1,(5,vB false),Ml 6 2,(14,vB true)] [(4,1,[Sn,Sn]),(6,2,[vS (some ⟨st.next,0,none⟩) 1,Sn])] fun _ _ => ?_
  refine ⟨_,rfl,?_⟩
  refine ⟨_,Os rfl,?_⟩
  exact cxs (Rt ⟨⟨none,none,nilS⟩,false,rfl,(if_neg h13).symm,pcS_nil,newS_nil,hP1⟩)
 ·replace h13 := h13.1 rfl
  refine ⟨_,rfl,?_⟩
  refine Cm 3 s1 [Ml 4 1,(5,vB false),Ml 6 2,(14,vB false)] [(4,1,[Sn,Sn]),(6,2,[vS (some ⟨st.next,0,none⟩) 1,Sn])] fun _ _ => ?_
  refine cxs ?_
  refine ⟨_,Od rfl,?_⟩
  refine ⟨_,Os rfl,?_⟩
  exact cxs (Rt ⟨⟨some ⟨st.next,0,none⟩,none,⟨[⟨id,e⟩],[]⟩⟩,true,rfl,(if_pos h13).symm,hF.1,hF.2.1,hP1⟩)
theorem frs_floor1 {a : St} {x : Flr} : Frs a (a.push 2 ([x].flatMap cFlr)) (pcS ⟨none,some ⟨a.next,0,none⟩,⟨[],[x]⟩⟩) := ⟨⟨fun d hd => by
  rcases List.mem_cons.1 hd with rfl | hd
  ·exact .inl ⟨rfl,rfl⟩
  ·rw [List.mem_singleton.1 hd]; exact own_pc OwnR.push,List.pairwise_pair.2 Dis.none⟩,NewP.cons New.none (NewP.cons (by intro r hr; injection hr with hr; rw [← hr]; exact Nat.le_refl _) NewP.nil),Pres.push⟩
theorem ok_floor1 {id inc : Int} (h : 0 ≤ id ∧ id ≤ 4) (k : 1 ≤ inc ∧ inc ≤ 1000) : stateOk ⟨[],[⟨id,inc⟩]⟩ := stateOk_floors fun j x hx => by
 cases j with
 | zero => injection hx with hx; rw [← hx]; exact ⟨h,k,fun y hy => by omega⟩
 | succ j => simp at hx
theorem ac_d_l3Right {p : Option Addr} {bs : List Int} (c : Nat) (st : St) (hc : Cur st c p bs) (hs : bs.length < 1099511627776) : C 146 [vP c 0] st (fun v s => ∃ u : SV,v = .agg #[vS u.p u.x.items.length,vS u.q u.x.floors.length] ∧ stateOk u.x ∧ FrC c st s (pcS u) ∧ Cur s c p bs) := by
 refine AC.enterX (i := ⟨[2,3,6],[2,3,6],[0,2,3,4,5,6,8,9,15,33],[]⟩) [(2012,[],[1]),(12,[2,4,7],[0])] Tryz.func146 rfl rfl (by kernel_rfl) (by kernel_rfl) Tryz.ntmps146 (Lb rfl) rfl ?_
 refine ⟨_,rfl,?_⟩
 refine Cm 1 st [(0,vP c 0),Ml 2 0] [(2,0,[Sn,Sn])] fun _ _ => ?_
 iterate 2 refine ⟨_,rfl,?_⟩
 refine ⟨_,Os rfl,?_⟩
 refine Cm 2 st [(0,vP c 0),Ml 2 0,Ml 3 1] [(2,0,[Sn,Sn]),(3,1,[Sn,Sn])] fun _ _ => ?_
 refine ⟨_,rfl,(ac_d_l1Below c 7 st hc (by first | assumption | omega)).mono ?_⟩
 rintro _ s12 ⟨r12,rfl,h12,h12',h12'',hC12,hL12⟩
 refine cxs ?_
 refine Cm 2 s12 [(0,vP c 0),Ml 2 0,Ml 3 1,(4,vI r12),(5,vI 0)] [(2,0,[Sn,Sn]),(3,1,[Sn,Sn])] fun _ _ => ?_
 refine AW.loopM (fun x : Nat × SV => [(0,vP c 0),(2,vL 2 0 (0)),(3,vL 3 0 (1)),(4,vI r12),(5,vI (x.1 : Int))]) (fun x : Nat × SV => [(2,0,[.slice none 0 0,.slice none 0 0]),(3,1,[vS x.2.p x.2.x.items.length,vS x.2.q x.2.x.floors.length])]) (fun m (x : Nat × SV) st' => m = r12.toNat - x.1 ∧ (x.1 : Int) ≤ r12 ∧ stateOk x.2.x ∧ FrC c st st' (pcS x.2) ∧ Cur st' c p bs) (0,⟨none,none,nilS⟩) _ ⟨rfl,rfl,rfl,rfl,rfl,trivial⟩ ⟨rfl,rfl,trivial⟩ ⟨rfl,h12,stateOk_nil,(Frs.nlS.toC hC12.lt).sooner hL12 hc.lt,hC12⟩ ?_
 rintro m ⟨i,u⟩ ρ0 ff gg st' ⟨rfl,hi,hk,hF,hC⟩
 simp only at hi hk hF
 refine ⟨_,rfl,?_⟩
 rintro (_|_) h15
 ·replace h15 : ¬ ((i : Int) < r12) := of_decide_eq_false h15
  refine Cm gg st' [(0,vP c 0),Ml 2 0,Ml 3 1,(4,vI r12),(5,vI (i : Int)),(15,vB false)] [(2,0,[Sn,Sn]),(3,1,cSV u)] fun _ _ => ?_
  refine cxs ?_
  refine ⟨_,rfl,(ac_d_l1Below c 3 st' hC (by first | assumption | omega)).mono ?_⟩
  rintro _ s30 ⟨r30,rfl,h30,h30',h30'',hC30,hL30⟩
  refine cxs ?_
  have hF30 := hF.later hL30
  refine Cm gg s30 [(0,vP c 0),Ml 2 0,Ml 3 1,(8,vI r30),(9,vI 0)] [(2,0,[Sn,Sn]),(3,1,cSV u)] fun _ _ => ?_
  refine AW.loopM (fun x : Nat × SV => [(0,vP c 0),(2,vL 2 0 (0)),(3,vL 3 0 (1)),(8,vI r30),(9,vI (x.1 : Int))]) (fun x : Nat × SV => [(2,0,[.slice none 0 0,.slice none 0 0]),(3,1,[vS x.2.p x.2.x.items.length,vS x.2.q x.2.x.floors.length])]) (fun m (x : Nat × SV) st' => m = r30.toNat - x.1 ∧ (x.1 : Int) ≤ r30 ∧ stateOk x.2.x ∧ FrC c st st' (pcS x.2) ∧ Cur st' c p bs) (0,u) _ ⟨rfl,rfl,rfl,rfl,rfl,trivial⟩ ⟨rfl,rfl,trivial⟩ ⟨rfl,h30,hk,hF30,hC30⟩ ?_
  rintro m ⟨i,u⟩ ρ0 ff gg st' ⟨rfl,hi,hk,hF,hC⟩
  simp only at hi hk hF
  refine ⟨_,rfl,?_⟩
  rintro (_|_) h33
  ·replace h33 : ¬ ((i : Int) < r30) := of_decide_eq_false h33
   refine Cm gg st' [(0,vP c 0),Ml 2 0,Ml 3 1,(8,vI r30),(9,vI (i : Int)),(33,vB false)] [(2,0,[Sn,Sn]),(3,1,cSV u)] fun _ _ => ?_
   refine cxs ?_
   refine ⟨_,Od rfl,?_⟩
   refine ⟨_,Os rfl,?_⟩
   exact cxs (Rt ⟨u,rfl,hk,hF,hC⟩)
  ·replace h33 : (i : Int) < r30 := of_decide_eq_true h33
   refine Cm gg st' [(0,vP c 0),Ml 2 0,Ml 3 1,(8,vI r30),(9,vI (i : Int)),(33,vB true)] [(2,0,[Sn,Sn]),(3,1,cSV u)] fun _ _ => ?_
   refine cxs ?_
   refine ⟨fun _ => False,?_⟩
   refine ⟨_,Od rfl,?_⟩
   refine ⟨ld_own rfl rfl rfl,?_⟩
   refine ⟨_,rfl,(ac_d_l1Below c 5 st' hC (by first | assumption | omega)).mono ?_⟩
   rintro _ s38 ⟨r38,rfl,h38,h38',h38'',hC38,hL38⟩
   refine ⟨fun _ h => h.elim,?_⟩
   refine ⟨_,rfl,(ac_d_l1Below c 2 s38 hC38 (by first | assumption | omega)).mono ?_⟩
   rintro _ s40 ⟨r40,rfl,h40,h40',h40'',hC40,hL40⟩
   refine ⟨fun _ h => h.elim,?_⟩
   have ew41 : IntKind.wrap .i64 ((1) + r40) = (1) + r40 := wrap_i64 (by omega) (by omega)
   iterate 2 refine ⟨_,rfl,?_⟩
   refine op_one (z := 2) (a := ((⟨r38,IntKind.wrap .i64 (1 + r40)⟩ : Flr) : Flr)) (f := cFlr) rfl rfl rfl rfl rfl (by decide) rfl (Lb rfl) rfl rfl rfl ?_
   refine ⟨fun _ h => h.elim,?_⟩
   refine ⟨_,rfl,?_⟩
   have hF40 := (hF.later hL38).later hL40
   have hP43 : Pres s40 (s40.push 2 ([(⟨r38,IntKind.wrap .i64 (1 + r40)⟩ : Flr)].flatMap cFlr)) := Pres.push
   have hF43 : Frs s40 (s40.push 2 ([(⟨r38,IntKind.wrap .i64 (1 + r40)⟩ : Flr)].flatMap cFlr)) (pcS ⟨none,some ⟨s40.next,0,none⟩,⟨[],[⟨r38,IntKind.wrap .i64 (1 + r40)⟩]⟩⟩) := frs_floor1
   have hR43 := (hF40.step hP43).1.rdS
   have hC43 := hC40.pres hP43
   have hk43 : stateOk ⟨[],[⟨r38,IntKind.wrap .i64 (1 + r40)⟩]⟩ := ok_floor1 (by omega) (by omega)
   refine ⟨_,rfl,(ac_spec_l3Join u ⟨none,some ⟨s40.next,0,none⟩,⟨[],[⟨r38,IntKind.wrap .i64 (1 + r40)⟩]⟩⟩ (s40.push 2 ([(⟨r38,IntKind.wrap .i64 (1 + r40)⟩ : Flr)].flatMap cFlr)) hR43 hF43.1.rdS (big_ok hk) (big_ok hk43) hk hk43).mono ?_⟩
   rintro _ s45 ⟨u45,rfl,h45,hO45,hN45,hP45⟩
   refine ⟨_,Os rfl,?_⟩
   refine Cm gg s45 [(0,vP c 0),Ml 2 0,Ml 3 1,(8,vI r30),(9,vI (i : Int)),(33,vB true)] [(2,0,[Sn,Sn]),(3,1,cSV u45)] fun _ _ => ?_
   have hF45 : FrC c st s45 (pcS u45) := (Frs.toC ⟨hO45,hN45,hP45⟩ (hF40.step hP43).lt).sooner (hF40.step hP43).2.2.1 hc.lt
   have ew35 : IntKind.wrap .i64 ((i : Int) + (1)) = ((i + 1 : Nat) : Int) := (wrap_i64 (by omega) (by omega)).trans (by omega)
   refine ⟨_,rfl,?_⟩
   exact ⟨(i + 1,u45),r30.toNat - (i + 1),by omega,⟨rfl,rfl,rfl,rfl,congrArg (Value.int .i64) ew35,trivial⟩,⟨rfl,rfl,trivial⟩,rfl,by simp only; omega,by rw [h45]; exact stateOk_join hk hk43,hF45,hC43.pres hP45⟩
 ·replace h15 : (i : Int) < r12 := of_decide_eq_true h15
  refine Cm gg st' [(0,vP c 0),Ml 2 0,Ml 3 1,(4,vI r12),(5,vI (i : Int)),(15,vB true)] [(2,0,[Sn,Sn]),(3,1,cSV u)] fun _ _ => ?_
  refine cxs ?_
  refine ⟨_,rfl,(ac_d_l1Below c 5 st' hC (by first | assumption | omega)).mono ?_⟩
  rintro _ s20 ⟨r20,rfl,h20,h20',h20'',hC20,hL20⟩
  refine ⟨_,rfl,(ac_d_l2Right c s20 hC20 (by first | assumption | omega)).mono ?_⟩
  rintro _ s22 ⟨e22,rfl,h22,hC22,hL22⟩
  refine ⟨_,rfl,(ac_spec_Single r20 e22 s22 (Nat.le_trans h22.2.2.2.2 (by decide))).mono ?_⟩
  rintro _ s23 ⟨u23,b23,rfl,h23,hO23,hN23,hP23⟩
  iterate 3 refine ⟨_,rfl,?_⟩
  refine ⟨_,Os rfl,?_⟩
  refine Cm (gg + 1) s23 [(0,vP c 0),Ml 2 0,Ml 3 1,(4,vI r12),(5,vI (i : Int)),Ml 6 gg,(15,vB true)] [(2,0,[Sn,Sn]),(3,1,cSV u),(6,gg,cSV u23)] fun _ _ => ?_
  have hF22 := (hF.later hL20).later hL22
  have hF23 : FrC c st s23 (pcS u23) := (Frs.toC ⟨hO23,hN23,hP23⟩ hF22.lt).sooner hF22.2.2.1 hc.lt
  have hR23 : RdS s23 u := (hF22.step hP23).1.rdS
  have hC23 := hC22.pres hP23
  have hk23 := sing_ok h23
  have hbu := big_ok hk
  have hbv := big_ok hk23
  refine ⟨_,Od rfl,?_⟩
  refine ⟨_,Od rfl,?_⟩
  refine ⟨_,rfl,(ac_spec_l3Join u u23 s23 hR23 hF23.1.rdS (by first | assumption | omega) (by first | assumption | omega) (by first | assumption | omega) (by first | assumption | omega)).mono ?_⟩
  rintro _ s28 ⟨u28,rfl,h28,hO28,hN28,hP28⟩
  refine ⟨_,Os rfl,?_⟩
  refine Cm (gg + 1) s28 [(0,vP c 0),Ml 2 0,Ml 3 1,(4,vI r12),(5,vI (i : Int)),Ml 6 gg,(15,vB true)] [(2,0,[Sn,Sn]),(3,1,cSV u28),(6,gg,cSV u23)] fun _ _ => ?_
  have ew17 : IntKind.wrap .i64 ((i : Int) + (1)) = ((i + 1 : Nat) : Int) := (wrap_i64 (by omega) (by omega)).trans (by omega)
  refine ⟨_,rfl,?_⟩
  exact ⟨(i + 1,u28),r12.toNat - (i + 1),by omega,⟨rfl,rfl,rfl,rfl,congrArg (Value.int .i64) ew17,trivial⟩,⟨rfl,rfl,trivial⟩,rfl,by simp only; omega,by rw [h28]; exact stateOk_join hk hk23,(Frs.toC ⟨hO28,hN28,hP28⟩ hF23.lt).sooner hF23.2.2.1 hc.lt,hC23.pres hP28⟩
theorem smS.snocI {n : Nat} {x : Sta} {y : Itm} (h : smS n x) (hy : y.e.data.size ≤ 9) : smS (n + 1) ⟨x.items ++ [y],x.floors⟩ := ⟨by rw [List.length_append]; exact Nat.succ_le_succ h.i,Nat.le_succ_of_le h.f,fun z hz => by
 rcases List.mem_append.1 hz with hz | hz
 ·exact h.d z hz
 ·rw [List.mem_singleton.1 hz]; exact hy⟩
theorem smS.snocF {n : Nat} {x : Sta} {y : Flr} (h : smS n x) : smS (n + 1) ⟨x.items,x.floors ++ [y]⟩ := ⟨Nat.le_succ_of_le h.i,by rw [List.length_append]; exact Nat.succ_le_succ h.f,h.d⟩
theorem smS.setI {n i : Nat} {x : Sta} {y : Itm} (h : smS n x) (hy : y.e.data.size ≤ 9) : smS (n + 1) ⟨x.items.set i y,x.floors⟩ := ⟨by rw [List.length_set]; exact Nat.le_succ_of_le h.i,Nat.le_succ_of_le h.f,fun z hz => by
 rcases List.mem_or_eq_of_mem_set hz with hz | rfl
 ·exact h.d z hz
 ·exact hy⟩
theorem ac_d_l3Draw {p : Option Addr} {bs : List Int} (c : Nat) (st : St) (hc : Cur st c p bs) (hs : bs.length < 1099511627776) : C 48 [vP c 0] st (fun v s => ∃ u : SV,v = .agg #[vS u.p u.x.items.length,vS u.q u.x.floors.length] ∧ smS 6 u.x ∧ FrC c st s (pcS u) ∧ Cur s c p bs) := by
 refine AC.enterX (i := ⟨[2,3],[2,3,10,20,23,34,37,41,44,54,58,60],[0,2,3,7,8,21,35,40,52,57],[]⟩) [(2004,[],[1]),(2006,[],[1]),(2009,[],[1]),(4,[3,6,8],[1]),(6,[3,6,7,9],[1]),(9,[6,8],[1]),(12,[],[])] Tryz.func48 rfl rfl (by kernel_rfl) (by kernel_rfl) Tryz.ntmps48 (Lb rfl) rfl ?_
 refine ⟨_,rfl,?_⟩
 refine Cm 1 st [(0,vP c 0),Ml 2 0] [(2,0,[Sn,Sn])] fun _ _ => ?_
 refine ⟨_,rfl,(ac_d_l3Right c st hc (by first | assumption | omega)).mono ?_⟩
 rintro _ s5 ⟨u5,rfl,h5,hF5,hC5⟩
 refine ⟨_,rfl,?_⟩
 refine ⟨_,Os rfl,?_⟩
 refine Cm 2 s5 [(0,vP c 0),Ml 2 0,Ml 3 1] [(2,0,[Sn,Sn]),(3,1,cSV u5)] fun _ _ => ?_
 have hsm := sm_ok h5
 have hNi : New st.next u5.p := hF5.2.1 _ (List.mem_cons_self ..)
 have hNf : New st.next u5.q := hF5.2.1 _ (List.mem_cons_of_mem _ (List.mem_cons_self ..))
 refine ⟨_,rfl,(ac_d_l1Below c 14 s5 hC5 (by first | assumption | omega)).mono ?_⟩
 rintro _ s7 ⟨r7,rfl,h7,h7',h7'',hC7,hL7⟩
 refine Cm 2 s7 [(0,vP c 0),Ml 2 0,Ml 3 1,(7,vI r7)] [(2,0,[Sn,Sn]),(3,1,cSV u5)] fun _ _ => ?_
 have hF7 := hF5.later hL7
 have hR7 := hF7.1.rdS
 refine ⟨_,rfl,?_⟩
 rintro (_|_) h9
 ·replace h9 : ¬ (r7 = (0)) := beq_eq_false_iff_ne.1 h9
  refine Cm 2 s7 [(0,vP c 0),Ml 2 0,Ml 3 1,(7,vI r7),(8,vB false)] [(2,0,[Sn,Sn]),(3,1,cSV u5)] fun _ _ => ?_
  refine ⟨_,rfl,?_⟩
  rintro (_|_) h22
  ·replace h22 : ¬ (r7 = (1)) := beq_eq_false_iff_ne.1 h22
   refine Cm 2 s7 [(0,vP c 0),Ml 2 0,Ml 3 1,(7,vI r7),(21,vB false)] [(2,0,[Sn,Sn]),(3,1,cSV u5)] fun _ _ => ?_
   refine ⟨_,rfl,?_⟩
   rintro (_|_) h36
   ·replace h36 : ¬ (r7 = (2)) := beq_eq_false_iff_ne.1 h36
    refine Cm 2 s7 [(0,vP c 0),Ml 2 0,Ml 3 1,(7,vI r7),(35,vB false)] [(2,0,[Sn,Sn]),(3,1,cSV u5)] fun _ _ => ?_
    refine ⟨_,rfl,?_⟩
    rintro (_|_) h53
    ·replace h53 : ¬ (r7 = (3)) := beq_eq_false_iff_ne.1 h53
     refine Cm 2 s7 [Ml 2 0,Ml 3 1,(52,vB false)] [(2,0,[Sn,Sn]),(3,1,cSV u5)] fun _ _ => ?_
     refine cxs ?_
     refine ⟨_,Od rfl,?_⟩
     refine ⟨_,Os rfl,?_⟩
     exact cxs (Rt ⟨u5,rfl,hsm.le (by decide),hF7,hC7⟩)
    ·replace h53 : r7 = (3) := beq_iff_eq.1 h53
     refine Cm 2 s7 [Ml 2 0,Ml 3 1,(52,vB true)] [(2,0,[Sn,Sn]),(3,1,cSV u5)] fun _ _ => ?_
     refine ⟨_,rfl,?_⟩
     refine ⟨_,Od rfl,?_⟩
     iterate 2 refine ⟨_,rfl,?_⟩
     rintro (_|_) h57
     ·replace h57 : ¬ ((u5.x.items.length : Int) > (1)) := of_decide_eq_false h57
      refine Cm 2 s7 [Ml 2 0,Ml 3 1,(57,vB false)] [(2,0,[Sn,Sn]),(3,1,cSV u5)] fun _ _ => ?_
      refine cxs ?_
      refine ⟨_,Od rfl,?_⟩
      refine ⟨_,Os rfl,?_⟩
      exact cxs (Rt ⟨u5,rfl,hsm.le (by decide),hF7,hC7⟩)
     ·replace h57 : (u5.x.items.length : Int) > (1) := of_decide_eq_true h57
      refine Cm 2 s7 [Ml 2 0,Ml 3 1,(57,vB true)] [(2,0,[Sn,Sn]),(3,1,cSV u5)] fun _ _ => ?_
      refine ⟨_,rfl,?_⟩
      refine ⟨_,Od rfl,?_⟩
      refine ⟨_,rfl,?_⟩
      refine ⟨_,Od rfl,?_⟩
      refine op_at 1 hR7.1 (by omega) rfl rfl rfl rfl rfl rfl rfl ?_
      intro x62 b62 d62 k62 hy62 hb62 hm62 hc62 ho62
      refine ⟨_,op_lda rfl rfl rfl rfl rfl hm62 hc62 rfl,?_⟩
      have hO7 : OwnR s7 6 cItm u5.p u5.x.items := hF7.1.items
      obtain ⟨a,ha⟩ := hO7.some (by omega)
      have hd62 : x62.e.data.size ≤ 9 := hsm.d _ (List.mem_of_getElem? hy62)
      refine ⟨_,op_idx (j := 0) (n := u5.x.items.length) (q := ⟨a,0,none⟩) rfl (congrArg (fun v => vS v u5.x.items.length) ha) rfl rfl rfl (Int.le_refl 0) (by omega),?_⟩
      refine op_put (st := s7) (f := cItm) (j := 0) (l := u5.x.items) (y := x62) (p := u5.p) (d := 0 + (0 : Int).toNat * 6) rfl rfl rfl rfl rfl len_cItm rfl rfl (by omega) hO7 ha ?_
      intro s64 hO64 hP64 hn64
      refine Cm 2 s64 [Ml 2 0,Ml 3 1] [(2,0,[Sn,Sn]),(3,1,cSV u5)] fun _ _ => ?_
      refine ⟨_,Od rfl,?_⟩
      refine ⟨_,Os rfl,?_⟩
      refine cxs ?_
      have hF64 := hF7.setItems hP64 hO64
      exact Rt ⟨⟨u5.p,u5.q,⟨u5.x.items.set 0 x62,u5.x.floors⟩⟩,congrArg (fun n => Value.agg #[vS u5.p n,vS u5.q u5.x.floors.length]) List.length_set.symm,hsm.setI hd62,hF64.1,hC7.thenNew hc hF7.2.2.1 hP64 hNi⟩
   ·replace h36 : r7 = (2) := beq_iff_eq.1 h36
    refine Cm 2 s7 [(0,vP c 0),Ml 2 0,Ml 3 1,(7,vI r7),(35,vB true)] [(2,0,[Sn,Sn]),(3,1,cSV u5)] fun _ _ => ?_
    refine ⟨_,rfl,?_⟩
    refine ⟨_,Od rfl,?_⟩
    iterate 2 refine ⟨_,rfl,?_⟩
    rintro (_|_) h40
    ·replace h40 : ¬ ((u5.x.items.length : Int) > (0)) := of_decide_eq_false h40
     refine Cm 2 s7 [(0,vP c 0),Ml 2 0,Ml 3 1,(40,vB false)] [(2,0,[Sn,Sn]),(3,1,cSV u5)] fun _ _ => ?_
     refine cxs ?_
     refine ⟨_,Od rfl,?_⟩
     refine ⟨_,Os rfl,?_⟩
     exact cxs (Rt ⟨u5,rfl,hsm.le (by decide),hF7,hC7⟩)
    ·replace h40 : (u5.x.items.length : Int) > (0) := of_decide_eq_true h40
     refine Cm 2 s7 [(0,vP c 0),Ml 2 0,Ml 3 1,(40,vB true)] [(2,0,[Sn,Sn]),(3,1,cSV u5)] fun _ _ => ?_
     refine ⟨fun _ => False,?_⟩
     refine ⟨_,rfl,?_⟩
     refine ⟨_,Od rfl,?_⟩
     refine ⟨ld_own rfl rfl rfl,?_⟩
     refine ⟨_,rfl,?_⟩
     refine ⟨_,Od rfl,?_⟩
     refine ⟨_,rfl,?_⟩
     refine ⟨_,rfl,(ac_d_l1Below c (u5.x.items.length : Int) s7 hC7 (by first | assumption | omega)).mono ?_⟩
     rintro _ s47 ⟨r47,rfl,h47,h47',h47'',hC47,hL47⟩
     refine ⟨fun _ h => h.elim,?_⟩
     refine ⟨_,rfl,(ac_d_l2Draw c s47 hC47 (by first | assumption | omega)).mono ?_⟩
     rintro _ s49 ⟨e49,rfl,h49,hC49,hL49⟩
     refine ⟨fun _ h => h.elim,?_⟩
     have hF49 := (hF7.later hL47).later hL49
     have hO49 : OwnR s49 6 cItm u5.p u5.x.items := hF49.1.items
     have h47l := h47' (by omega)
     obtain ⟨a,ha⟩ := hO49.some (by omega)
     obtain ⟨w,hw⟩ : ∃ w,u5.x.items[r47.toNat]? = some w := ⟨_,List.getElem?_eq_getElem (by omega)⟩
     refine ⟨_,op_idx (j := r47) (n := u5.x.items.length) (q := ⟨a,0,none⟩) rfl (congrArg (fun v => vS v u5.x.items.length) ha) rfl rfl rfl h47 (by omega),?_⟩
     refine ⟨_,rfl,?_⟩
     refine op_putw (st := s49) (f := cItm) (z := 6) (i := 1) (j := r47.toNat) (l := u5.x.items) (w := w) (y := (⟨w.id,e49⟩ : Itm)) (ws := cEnt e49) (p := u5.p) (d := 0 + r47.toNat * 6 + 1) rfl rfl (congrArg (· + 1) (Nat.zero_add _)) rfl rfl len_cItm rfl rfl hw ⟨[vI w.id],cEnt w.e,[],rfl,rfl,rfl,rfl⟩ hO49 ha ?_
     intro s51 hO51 hP51 hn51
     refine Cm 2 s51 [Ml 2 0,Ml 3 1] [(2,0,[Sn,Sn]),(3,1,cSV u5)] fun _ _ => ?_
     refine ⟨_,Od rfl,?_⟩
     refine ⟨_,Os rfl,?_⟩
     refine cxs ?_
     have hF51 := hF49.setItems hP51 hO51
     exact Rt ⟨⟨u5.p,u5.q,⟨u5.x.items.set r47.toNat ⟨w.id,e49⟩,u5.x.floors⟩⟩,congrArg (fun n => Value.agg #[vS u5.p n,vS u5.q u5.x.floors.length]) List.length_set.symm,hsm.setI h49,hF51.1,hC49.thenNew hc hF49.2.2.1 hP51 hNi⟩
  ·replace h22 : r7 = (1) := beq_iff_eq.1 h22
   refine Cm 2 s7 [(0,vP c 0),Ml 2 0,Ml 3 1,(7,vI r7),(21,vB true)] [(2,0,[Sn,Sn]),(3,1,cSV u5)] fun _ _ => ?_
   refine ⟨fun _ => False,?_⟩
   refine ⟨_,rfl,?_⟩
   refine ⟨_,Od rfl,?_⟩
   refine ⟨ld_own rfl rfl rfl,?_⟩
   refine ⟨_,rfl,(ac_d_l1Below c 7 s7 hC7 (by first | assumption | omega)).mono ?_⟩
   rintro _ s26 ⟨r26,rfl,h26,h26',h26'',hC26,hL26⟩
   refine ⟨fun _ h => h.elim,?_⟩
   have ew27 : IntKind.wrap .i64 (r26 - (1)) = r26 - (1) := wrap_i64 (by omega) (by omega)
   refine ⟨_,rfl,?_⟩
   refine op_litI (k := .i64) (l := [0,1,5,1001]) rfl rfl rfl rfl rfl rfl (Lb rfl) ?_
   intro q29 s29 hO29 hP29 hN29
   refine ⟨fun _ h => h.elim,?_⟩
   refine ⟨_,rfl,(ac_d_l1PickInt c q29 ([0,1,5,1001]) s29 (hC26.pres hP29) (by first | assumption | omega) (by first | assumption | omega | decide) (by first | assumption | omega) (by first | assumption | exact NC.new (by assumption) (Cur.lt (by assumption)))).mono ?_⟩
   rintro _ s30 ⟨r30,rfl,h30,hC30,hL30⟩
   refine ⟨fun _ h => h.elim,?_⟩
   refine ⟨_,rfl,?_⟩
   refine op_one (z := 2) (a := ((⟨IntKind.wrap .i64 (r26 - 1),r30⟩ : Flr) : Flr)) (f := cFlr) rfl rfl rfl rfl rfl (by decide) rfl (Lb rfl) rfl rfl rfl ?_
   refine ⟨fun _ h => h.elim,?_⟩
   have hF30 := ((hF7.later hL26).step hP29).later hL30
   have hO30 : OwnR s30 2 cFlr u5.q u5.x.floors := hF30.1.floors
   have hfl : u5.x.floors.length ≤ 5 := hsm.f
   refine op_snoc (z := 2) (st := s30) (f := cFlr) (b := 16) (l := u5.x.floors) (x := (⟨IntKind.wrap .i64 (r26 - 1),r30⟩ : Flr)) rfl rfl rfl rfl rfl rfl rfl (by decide) len_cFlr rfl rfl rfl (by omega) (by unfold maxLen; omega) hO30 ?_
   intro q33 s33 hO33 hP33 hN33
   refine ⟨_,rfl,?_⟩
   refine ⟨_,Os rfl,?_⟩
   refine Cm 2 s33 [Ml 2 0,Ml 3 1] [(2,0,[Sn,Sn]),(3,1,[vS u5.p u5.x.items.length,vS q33 (u5.x.floors ++ [(⟨IntKind.wrap .i64 (r26 - 1),r30⟩ : Flr)]).length])] fun _ _ => ?_
   refine ⟨_,Od rfl,?_⟩
   refine ⟨_,Os rfl,?_⟩
   refine cxs ?_
   have hF33 := hF30.floors hP33 hO33 hN33
   exact Rt ⟨_,rfl,hsm.snocF,hF33.1,hC30.thenNew hc hF30.2.2.1 hP33 hNf⟩
 ·replace h9 : r7 = (0) := beq_iff_eq.1 h9
  refine Cm 2 s7 [(0,vP c 0),Ml 2 0,Ml 3 1,(7,vI r7),(8,vB true)] [(2,0,[Sn,Sn]),(3,1,cSV u5)] fun _ _ => ?_
  refine ⟨fun _ => False,?_⟩
  refine ⟨_,rfl,?_⟩
  refine ⟨_,Od rfl,?_⟩
  refine ⟨ld_own rfl rfl rfl,?_⟩
  refine ⟨_,rfl,(ac_d_l1Below c 7 s7 hC7 (by first | assumption | omega)).mono ?_⟩
  rintro _ s13 ⟨r13,rfl,h13,h13',h13'',hC13,hL13⟩
  refine ⟨fun _ h => h.elim,?_⟩
  have ew14 : IntKind.wrap .i64 (r13 - (1)) = r13 - (1) := wrap_i64 (by omega) (by omega)
  refine ⟨_,rfl,?_⟩
  refine ⟨_,rfl,(ac_d_l2Draw c s13 hC13 (by first | assumption | omega)).mono ?_⟩
  rintro _ s16 ⟨e16,rfl,h16,hC16,hL16⟩
  refine ⟨fun _ h => h.elim,?_⟩
  refine ⟨_,rfl,?_⟩
  refine op_one (z := 6) (a := ((⟨IntKind.wrap .i64 (r13 - 1),e16⟩ : Itm) : Itm)) (f := cItm) rfl rfl rfl rfl rfl (by decide) rfl (Lb rfl) rfl rfl rfl ?_
  refine ⟨fun _ h => h.elim,?_⟩
  have hF16 := (hF7.later hL13).later hL16
  have hO16 : OwnR s16 6 cItm u5.p u5.x.items := hF16.1.items
  have hil : u5.x.items.length ≤ 5 := hsm.i
  refine op_snoc (z := 6) (st := s16) (f := cItm) (b := 56) (l := u5.x.items) (x := (⟨IntKind.wrap .i64 (r13 - 1),e16⟩ : Itm)) rfl rfl rfl rfl rfl rfl rfl (by decide) len_cItm rfl rfl rfl (by omega) (by unfold maxLen; omega) hO16 ?_
  intro q19 s19 hO19 hP19 hN19
  refine ⟨_,rfl,?_⟩
  refine ⟨_,Os rfl,?_⟩
  refine Cm 2 s19 [Ml 2 0,Ml 3 1] [(2,0,[Sn,Sn]),(3,1,[vS q19 (u5.x.items ++ [(⟨IntKind.wrap .i64 (r13 - 1),e16⟩ : Itm)]).length,vS u5.q u5.x.floors.length])] fun _ _ => ?_
  refine ⟨_,Od rfl,?_⟩
  refine ⟨_,Os rfl,?_⟩
  refine cxs ?_
  have hF19 := hF16.items hP19 hO19 hN19
  exact Rt ⟨_,rfl,hsm.snocI h16,hF19.1,hC16.thenNew hc hF16.2.2.1 hP19 hNi⟩
open Classical in
noncomputable def joinP (a b : Sta) : Sta × Bool := if stateOk a ∧ stateOk b then (joinF a b 5,true) else (nilS,false)
theorem ac_impl_StateJoin (A B : SV) (st : St) (hA : RdS st A) (hB : RdS st B) (ha : bigS A.x) (hb : bigS B.x) : C 82 [.agg #[vS A.p A.x.items.length,vS A.q A.x.floors.length],.agg #[vS B.p B.x.items.length,vS B.q B.x.floors.length]] st (fun v s => ∃ (u : SV) (b : Bool),v = .tuple #[.agg #[vS u.p u.x.items.length,vS u.q u.x.floors.length],vB b] ∧ (u.x,b) = joinP A.x B.x ∧ OwnP s (pcS u) ∧ NewP st.next (pcS u) ∧ Pres st s) := by
 refine AC.enterX (i := ⟨[2,3,4],[2,3,4],[0,1,2,3,4,5,13],[]⟩) [] Tryz.func82 rfl rfl (by kernel_rfl) (by kernel_rfl) Tryz.ntmps82 (Lb rfl) rfl ?_
 iterate 3 refine ⟨_,rfl,?_⟩
 refine Cm 3 st [Ml 2 0,Ml 3 1,Ml 4 2,(5,vB false)] [(2,0,cSV A),(3,1,cSV B),(4,2,[Sn,Sn])] fun _ _ => ?_
 refine ⟨_,Od rfl,?_⟩
 refine ⟨_,rfl,(ac_impl_StateOk A st hA (by first | assumption | omega)).mono ?_⟩
 rintro _ st ⟨x7,rfl,h7,rfl⟩
 rcases x7 with _|_
 ·replace h7 := fun k => Bool.false_ne_true (h7.2 k)
  iterate 2 refine ⟨_,rfl,?_⟩
  refine Cm 3 st [Ml 2 0,Ml 3 1,Ml 4 2,(5,vB false),(13,vB true)] [(2,0,cSV A),(3,1,cSV B),(4,2,[Sn,Sn])] fun _ _ => ?_
  refine ⟨_,rfl,?_⟩
  refine ⟨_,Os rfl,?_⟩
  exact cxs (Rt ⟨⟨none,none,nilS⟩,false,rfl,(if_neg (fun k => h7 k.1)).symm,pcS_nil,newS_nil,Pres.refl _⟩)
 ·replace h7 := h7.1 rfl
  refine ⟨_,rfl,?_⟩
  refine ⟨_,Od rfl,?_⟩
  refine ⟨_,rfl,(ac_impl_StateOk B st hB (by first | assumption | omega)).mono ?_⟩
  rintro _ st ⟨x11,rfl,h11,rfl⟩
  rcases x11 with _|_
  ·replace h11 := fun k => Bool.false_ne_true (h11.2 k)
   iterate 2 refine ⟨_,rfl,?_⟩
   refine Cm 3 st [Ml 2 0,Ml 3 1,Ml 4 2,(5,vB false),(13,vB true)] [(2,0,cSV A),(3,1,cSV B),(4,2,[Sn,Sn])] fun _ _ => ?_
   refine ⟨_,rfl,?_⟩
   refine ⟨_,Os rfl,?_⟩
   exact cxs (Rt ⟨⟨none,none,nilS⟩,false,rfl,(if_neg (fun k => h11 k.2)).symm,pcS_nil,newS_nil,Pres.refl _⟩)
  ·replace h11 := h11.1 rfl
   iterate 2 refine ⟨_,rfl,?_⟩
   refine Cm 3 st [Ml 2 0,Ml 3 1,Ml 4 2,(5,vB false),(13,vB false)] [(2,0,cSV A),(3,1,cSV B),(4,2,[Sn,Sn])] fun _ _ => ?_
   refine cxs ?_
   refine ⟨_,Od rfl,?_⟩
   refine ⟨_,Od rfl,?_⟩
   refine ⟨_,rfl,(ac_impl_stateJoin A B st hA hB (by first | assumption | omega) (by first | assumption | omega)).mono ?_⟩
   rintro _ s17 ⟨u17,rfl,h17,hO17,hN17,hP17⟩
   refine ⟨_,Os rfl,?_⟩
   exact cxs (Rt ⟨u17,true,rfl,(by rw [h17]; exact (if_pos ⟨h7,h11⟩).symm),hO17,hN17,hP17⟩)
theorem ad_spec_LogAdd (g : LV) (d : SV) (st : St) (hR : RdL st g.p g.l) (hD : RdS st d) (hb : bigL g.l) (hbd : bigS d.x) : C 103 [.agg #[vI g.cap,vI g.frm,vS g.p g.l.length],.agg #[vS d.p d.x.items.length,vS d.q d.x.floors.length]] st (fun v s => ∃ (u : LV) (b : Bool),v = .tuple #[.agg #[vI u.cap,vI u.frm,vS u.p u.l.length],vB b] ∧ (u.x,b) = addL g.x d.x ∧ Frs st s (pcL u.p u.l)) := by
 have hs : g.l.length ≤ 1048576 := hb.1
 have hgl : g.x.list.length = g.l.length := List.length_map _
 refine AC.enterX (i := ⟨[2,3,4,6],[2,3,4,6,18,20,27,33,34,37,41,45,46,49],[0,1,2,3,4,5,6,25,39],[]⟩) [(4,[3,4],[1])] Tryz.func103 rfl rfl (by kernel_rfl) (by kernel_rfl) Tryz.ntmps103 (Lb rfl) rfl ?_
 iterate 3 refine ⟨_,rfl,?_⟩
 refine Cm 3 st [Ml 2 0,Ml 3 1,Ml 4 2,(5,vB false)] [(2,0,[vI g.cap,vI g.frm,vS g.p g.l.length]),(3,1,cSV d),(4,2,[vI 0,vI 0,Sn])] fun _ _ => ?_
 refine ⟨_,Od rfl,?_⟩
 refine ⟨_,rfl,(ac_spec_l7Copy g st hR (by first | assumption | omega)).mono ?_⟩
 rintro _ s8 ⟨u8,rfl,h8,hO8,hN8,hP8⟩
 refine ⟨_,rfl,?_⟩
 refine ⟨_,Os rfl,?_⟩
 refine Cm 4 s8 [Ml 2 0,Ml 3 1,Ml 4 2,(5,vB false),Ml 6 3] [(2,0,[vI g.cap,vI g.frm,vS g.p g.l.length]),(3,1,cSV d),(4,2,[vI 0,vI 0,Sn]),(6,3,[vI u8.cap,vI u8.frm,vS u8.p u8.l.length])] fun _ _ => ?_
 have hx8 : u8.cap = g.cap ∧ u8.frm = g.frm ∧ u8.l.map (·.x) = g.l.map (·.x) := ⟨congrArg Lg.cap h8,congrArg Lg.frm h8,congrArg Lg.list h8⟩
 have hl8 : u8.l.length = g.l.length := by have := congrArg List.length hx8.2.2; simpa using this
 refine ⟨_,Od rfl,?_⟩
 refine ⟨_,rfl,(ac_spec_LogOk g s8 (hR.pres hP8) (by first | assumption | omega)).mono ?_⟩
 rintro _ s8 ⟨x10,rfl,h10,rfl⟩
 rcases x10 with _|_
 ·replace h10 := fun k => Bool.false_ne_true (h10.2 k)
  iterate 3 refine ⟨_,rfl,?_⟩
  refine Cm 4 s8 [Ml 3 1,Ml 4 2,(5,vB false),Ml 6 3,(25,vB true)] [(3,1,cSV d),(4,2,[vI 0,vI 0,Sn]),(6,3,[vI u8.cap,vI u8.frm,vS u8.p u8.l.length])] fun _ _ => ?_
  refine ⟨_,Od rfl,?_⟩
  refine ⟨_,Os rfl,?_⟩
  exact cxs (Rt ⟨u8,false,rfl,by rw [addL,if_neg (fun h => h10 h.1)]; exact congrArg (·,false) h8,hO8,hN8,hP8⟩)
 ·replace h10 := h10.1 rfl
  refine ⟨_,rfl,?_⟩
  refine ⟨_,Od rfl,?_⟩
  refine ⟨_,rfl,(ac_spec_StateOk d s8 (hD.pres hP8) (by first | assumption | omega)).mono ?_⟩
  rintro _ s8 ⟨x14,rfl,h14,rfl⟩
  rcases x14 with _|_
  ·replace h14 := fun k => Bool.false_ne_true (h14.2 k)
   iterate 3 refine ⟨_,rfl,?_⟩
   refine Cm 4 s8 [Ml 3 1,Ml 4 2,(5,vB false),Ml 6 3,(25,vB true)] [(3,1,cSV d),(4,2,[vI 0,vI 0,Sn]),(6,3,[vI u8.cap,vI u8.frm,vS u8.p u8.l.length])] fun _ _ => ?_
   refine ⟨_,Od rfl,?_⟩
   refine ⟨_,Os rfl,?_⟩
   exact cxs (Rt ⟨u8,false,rfl,by rw [addL,if_neg (fun h => h14 h.2.1)]; exact congrArg (·,false) h8,hO8,hN8,hP8⟩)
  ·replace h14 := h14.1 rfl
   iterate 2 refine ⟨_,rfl,?_⟩
   have hk3 : 0 ≤ g.frm ∧ g.frm ≤ 100000 := h10.2.2.1
   have hk4 : g.frm + (g.l.length : Int) ≤ 100000 := by have := h10.2.2.2.1; rw [hgl] at this; exact this
   have hk5 : (g.l.length : Int) ≤ g.cap ∧ g.cap ≤ 8 := ⟨by have := h10.2.1; rw [hgl] at this; exact this,h10.1.2⟩
   refine ⟨_,rfl,?_⟩
   refine ⟨_,Od rfl,?_⟩
   refine ⟨_,rfl,?_⟩
   refine ⟨_,Od rfl,?_⟩
   refine ⟨_,rfl,?_⟩
   have ew23 : IntKind.wrap .i64 (g.frm + (g.l.length : Int)) = g.frm + (g.l.length : Int) := wrap_i64 (by omega) (by omega)
   iterate 2 refine ⟨_,rfl,?_⟩
   rintro (_|_) h24
   ·replace h24 : ¬ ((IntKind.wrap .i64 (g.frm + (g.l.length : Int))) = (100000)) := beq_eq_false_iff_ne.1 h24
    rw [ew23] at h24
    refine ⟨_,rfl,?_⟩
    refine Cm 4 s8 [Ml 3 1,Ml 4 2,(5,vB false),Ml 6 3,(25,vB false)] [(3,1,cSV d),(4,2,[vI 0,vI 0,Sn]),(6,3,[vI u8.cap,vI u8.frm,vS u8.p u8.l.length])] fun _ _ => ?_
    refine cxs ?_
    refine ⟨_,rfl,?_⟩
    refine ⟨_,Od rfl,?_⟩
    refine ⟨ld_own rfl rfl rfl,?_⟩
    refine ⟨_,Od rfl,?_⟩
    refine ⟨_,rfl,(ac_spec_l3Copy d s8 (hD.pres hP8) (by first | assumption | omega)).mono ?_⟩
    rintro _ s30 ⟨u30,rfl,h30,hO30,hN30,hP30⟩
    refine ⟨hP30.2,?_⟩
    refine op_one (z := 2) (a := (u30 : SV)) (f := cSV) rfl rfl rfl rfl rfl (by decide) rfl (Lb rfl) rfl rfl rfl ?_
    refine ⟨Pres.push.low hP30,?_⟩
    refine op_snoc (z := 2) (st := s30) (f := cSV) (b := 48) (l := u8.l) (x := u30) rfl rfl rfl rfl rfl rfl rfl (by decide) len_cSV rfl rfl rfl (by omega) (by unfold maxLen; omega) ((hO8.pres hP30).louter) ?_
    intro q32 s32 hO32 hP32 hN32
    refine ⟨_,rfl,?_⟩
    refine ⟨_,Os rfl,?_⟩
    refine Cm 4 s32 [Ml 4 2,(5,vB false),Ml 6 3] [(4,2,[vI 0,vI 0,Sn]),(6,3,[vI u8.cap,vI u8.frm,vS q32 (u8.l ++ [u30]).length])] fun _ _ => ?_
    have hO4 := pcL_snoc hO8 hP30 hO30 hN30 hP32 hO32 hN32
    have hN4 := newL_snoc hN8 (hN30.le hP8.1) (hN32.le (hP8.trans hP30).1)
    have hP4 := hP32.pres (hP8.trans hP30) (newL_p hN8)
    have hln : ((u8.l ++ [u30]).length : Int) = (g.l.length : Int) + 1 := by rw [List.length_append,List.length_singleton,hl8]; omega
    have hmx : (u8.l ++ [u30]).map (·.x) = g.l.map (·.x) ++ [d.x] := by rw [List.map_append,hx8.2.2,List.map_singleton,h30]
    have hdl : (List.drop 1 (u8.l ++ [u30])).length ≤ (u8.l ++ [u30]).length := by rw [List.length_drop]; omega
    have hlt : g.x.frm + (g.x.list.length : Int) < 100000 := by rw [hgl]; show g.frm + (g.l.length : Int) < 100000; omega
    refine ⟨_,rfl,?_⟩
    refine ⟨_,Od rfl,?_⟩
    iterate 2 refine ⟨_,rfl,?_⟩
    refine ⟨_,Od rfl,?_⟩
    refine ⟨_,rfl,?_⟩
    rintro (_|_) h39
    ·replace h39 : ¬ (((u8.l ++ [u30]).length : Int) > u8.cap) := of_decide_eq_false h39
     refine Cm 4 s32 [Ml 4 2,(5,vB false),Ml 6 3,(39,vB false)] [(4,2,[vI 0,vI 0,Sn]),(6,3,[vI u8.cap,vI u8.frm,vS q32 (u8.l ++ [u30]).length])] fun _ _ => ?_
     have hwx : (LV.mk u8.cap u8.frm q32 (u8.l ++ [u30])).x = ⟨g.x.cap,g.x.frm,g.x.list ++ [d.x]⟩ := by simp only [LV.x,hmx,hx8.1,hx8.2.1]
     refine cxs ?_
     refine ⟨_,Od rfl,?_⟩
     refine ⟨_,Os rfl,?_⟩
     refine cxs ?_
     have hc : ¬ (g.x.list.length : Int) + 1 > g.x.cap := by rw [hgl]; show ¬ (g.l.length : Int) + 1 > g.cap; omega
     exact Rt ⟨⟨u8.cap,u8.frm,q32,u8.l ++ [u30]⟩,true,rfl,by rw [hwx,addL,if_pos ⟨h10,h14,hlt⟩,if_neg hc],hO4,hN4,hP4⟩
    ·replace h39 : ((u8.l ++ [u30]).length : Int) > u8.cap := of_decide_eq_true h39
     refine Cm 4 s32 [Ml 4 2,(5,vB false),Ml 6 3,(39,vB true)] [(4,2,[vI 0,vI 0,Sn]),(6,3,[vI u8.cap,vI u8.frm,vS q32 (u8.l ++ [u30]).length])] fun _ _ => ?_
     refine op_nilK (z := 2) (f := cSV) rfl rfl rfl rfl (by decide) rfl ?_
     intro q40 s40 hO40 hP40 hN40
     refine ⟨_,rfl,?_⟩
     refine ⟨_,Od rfl,?_⟩
     refine ⟨_,op_drop (u8.l ++ [u30]) 1 rfl rfl rfl rfl rfl rfl (by omega) (by omega),?_⟩
     refine op_cat' (z := 2) (st := s40) (f := cSV) (b := 48) (l := []) (l2 := List.drop 1 (u8.l ++ [u30])) rfl rfl rfl rfl rfl rfl rfl (by decide) len_cSV rfl rfl rfl rfl (by first | omega | (simp only [List.length_nil]; omega)) (by unfold maxLen; first | omega | (simp only [List.length_nil]; omega)) hO40 ((hP40.rows (hO4.rdL.1)).sh _) ?_
     intro q44 s44 hO44 hPr44 hN44
     refine ⟨_,rfl,?_⟩
     refine ⟨_,Os rfl,?_⟩
     refine Cm 4 s44 [Ml 4 2,(5,vB false),Ml 6 3] [(4,2,[vI 0,vI 0,Sn]),(6,3,[vI u8.cap,vI u8.frm,vS q44 (List.drop 1 (u8.l ++ [u30])).length])] fun _ _ => ?_
     have ⟨hP9,hN9⟩ := copy_facts hP40 hN40 hPr44 hN44
     have hO9 := pcL_move hO4 (List.drop_sublist _ _) hP9 hO44 hN9
     have hN8 := newL_move hN4 (List.drop_sublist 1 _) (hN9.le hP4.1)
     have hP5 := hP4.trans hP9
     have hwx : (LV.mk u8.cap (u8.frm + 1) q44 (List.drop 1 (u8.l ++ [u30]))).x = ⟨g.x.cap,g.x.frm + 1,(g.x.list ++ [d.x]).drop 1⟩ := by simp only [LV.x,List.map_drop,hmx,hx8.1,hx8.2.1]
     refine ⟨_,rfl,?_⟩
     refine ⟨_,Od rfl,?_⟩
     have ew48 : IntKind.wrap .i64 (u8.frm + (1)) = u8.frm + (1) := wrap_i64 (by omega) (by omega)
     iterate 2 refine ⟨_,rfl,?_⟩
     refine ⟨_,Os rfl,?_⟩
     refine AW.cutM (4) s44 [Ml 4 2,(5,vB false),Ml 6 3] [(4,2,[vI 0,vI 0,Sn]),(6,3,[vI u8.cap,vI (u8.frm + (1)),vS q44 (List.drop 1 (u8.l ++ [u30])).length])] ⟨rfl,rfl,rfl,trivial⟩ ⟨rfl,(show some (3,[vI u8.cap,vI (IntKind.wrap .i64 (u8.frm + (1))),vS q44 (List.drop 1 (u8.l ++ [u30])).length]) = some (3,[vI u8.cap,vI (u8.frm + (1)),vS q44 (List.drop 1 (u8.l ++ [u30])).length]) by rw [ew48]),trivial⟩ rfl fun _ _ => ?_
     refine ⟨_,Od rfl,?_⟩
     refine ⟨_,Os rfl,?_⟩
     refine cxs ?_
     have hc : (g.x.list.length : Int) + 1 > g.x.cap := by rw [hgl]; show (g.l.length : Int) + 1 > g.cap; omega
     exact Rt ⟨⟨u8.cap,u8.frm + 1,q44,List.drop 1 (u8.l ++ [u30])⟩,true,rfl,by rw [hwx,addL,if_pos ⟨h10,h14,hlt⟩,if_pos hc],hO9,hN8,hP5⟩
   ·replace h24 : (IntKind.wrap .i64 (g.frm + (g.l.length : Int))) = (100000) := beq_iff_eq.1 h24
    rw [ew23] at h24
    refine ⟨_,rfl,?_⟩
    refine Cm 4 s8 [Ml 3 1,Ml 4 2,(5,vB false),Ml 6 3,(25,vB true)] [(3,1,cSV d),(4,2,[vI 0,vI 0,Sn]),(6,3,[vI u8.cap,vI u8.frm,vS u8.p u8.l.length])] fun _ _ => ?_
    refine ⟨_,Od rfl,?_⟩
    refine ⟨_,Os rfl,?_⟩
    exact cxs (Rt ⟨u8,false,rfl,by rw [addL,if_neg (fun h => by have h2 := h.2.2; rw [hgl] at h2; have h3 : g.frm + (g.l.length : Int) < 100000 := h2; omega)]; exact congrArg (·,false) h8,hO8,hN8,hP8⟩)
structure smL (n : Nat) (g : Lg) : Prop where
 l : g.list.length ≤ n
 s : ∀ x ∈ g.list,smS 6 x
 f : -1 ≤ g.frm ∧ g.frm ≤ 9223372036854775807
theorem smL.big {n : Nat} {g : LV} (h : smL n g.x) (hn : n ≤ 1000) : bigL g.l := ⟨by have := h.l; simp only [List.length_map] at this; unfold szOk; omega,fun s hs => (h.s _ (List.mem_map_of_mem hs)).big (by decide)⟩
theorem smL.add {n : Nat} {g : Lg} {d : Sta} (h : smL n g) (hd : smS 6 d) : smL (n + 1) (addL g d).1 := by
 unfold addL
 split
 ·rename_i hk
  have h3 : 0 ≤ g.frm ∧ g.frm ≤ 100000 := hk.1.2.2.1
  have hs : ∀ x ∈ g.list ++ [d],smS 6 x := fun x hx => by
   rcases List.mem_append.1 hx with hx | hx
   ·exact h.s x hx
   ·rw [List.mem_singleton.1 hx]; exact hd
  have hl : (g.list ++ [d]).length ≤ n + 1 := by rw [List.length_append]; exact Nat.succ_le_succ h.l
  split
  ·exact ⟨by show ((g.list ++ [d]).drop 1).length ≤ n + 1; rw [List.length_drop]; omega,fun x hx => hs x (List.mem_of_mem_drop hx),by show -1 ≤ g.frm + 1 ∧ _; simp only; omega⟩
  ·exact ⟨hl,hs,h.f⟩
 ·exact ⟨Nat.le_succ_of_le h.l,h.s,h.f⟩
theorem smL.of {n : Nat} {g x : Lg} {d : Sta} {b : Bool} (he : (x,b) = addL g d) (h : smL n g) (hd : smS 6 d) : smL (n + 1) x := by
 have := h.add hd
 rw [← he] at this
 exact this
theorem Frs.nlL {a : St} : Frs a a (pcL none []) := ⟨pcL_nil,newL_nil,Pres.refl _⟩
theorem ac_d_l7Right {p : Option Addr} {bs : List Int} (c : Nat) (st : St) (hc : Cur st c p bs) (hs : bs.length < 1099511627776) : C 196 [vP c 0] st (fun v s => ∃ u : LV,v = .agg #[vI u.cap,vI u.frm,vS u.p u.l.length] ∧ smL 5 u.x ∧ FrC c st s (pcL u.p u.l) ∧ Cur s c p bs) := by
 refine AC.enterX (i := ⟨[2,3,6],[2,3,6],[0,2,3,4,5,6,19],[]⟩) [] Tryz.func196 rfl rfl (by kernel_rfl) (by kernel_rfl) Tryz.ntmps196 (Lb rfl) rfl ?_
 refine ⟨_,rfl,?_⟩
 refine Cm 1 st [(0,vP c 0),Ml 2 0] [(2,0,[vI 0,vI 0,Sn])] fun _ _ => ?_
 refine op_litI (k := .i64) (l := [1,2,4,8]) rfl rfl rfl rfl rfl rfl (Lb rfl) ?_
 intro q9 s9 hO9 hP9 hN9
 refine ⟨_,rfl,(ac_d_l1PickInt c q9 ([1,2,4,8]) s9 (hc.pres hP9) (by first | assumption | omega) (by first | assumption | omega | decide) (by first | assumption | omega) (by first | assumption | exact NC.new (by assumption) (Cur.lt (by assumption)))).mono ?_⟩
 rintro _ s10 ⟨r10,rfl,h10,hC10,hL10⟩
 refine op_litI (k := .i64) (l := [0,0,5,99990]) rfl rfl rfl rfl rfl rfl (Lb rfl) ?_
 intro q12 s12 hO12 hP12 hN12
 refine ⟨_,rfl,(ac_d_l1PickInt c q12 ([0,0,5,99990]) s12 (hC10.pres hP12) (by first | assumption | omega) (by first | assumption | omega | decide) (by first | assumption | omega) (by first | assumption | exact NC.new (by assumption) (Cur.lt (by assumption)))).mono ?_⟩
 rintro _ s13 ⟨r13,rfl,h13,hC13,hL13⟩
 iterate 2 refine ⟨_,rfl,?_⟩
 refine ⟨_,Os rfl,?_⟩
 refine Cm 2 s13 [(0,vP c 0),Ml 2 0,Ml 3 1] [(2,0,[vI 0,vI 0,Sn]),(3,1,[vI r10,vI r13,Sn])] fun _ _ => ?_
 have hf13 : -1 ≤ r13 ∧ r13 ≤ 9223372036854775807 := by simp only [List.mem_cons,List.not_mem_nil,or_false] at h13; omega
 have hP13 : PresC c st s13 := ((hP9.c.trans hL10).trans hP12.c).trans hL13
 refine ⟨_,rfl,(ac_d_l1Below c 6 s13 hC13 (by first | assumption | omega)).mono ?_⟩
 rintro _ s16 ⟨r16,rfl,h16,h16',h16'',hC16,hL16⟩
 refine cxs ?_
 have hP16 : PresC c st s16 := hP13.trans hL16
 refine Cm 2 s16 [(0,vP c 0),Ml 2 0,Ml 3 1,(4,vI r16),(5,vI 0)] [(2,0,[vI 0,vI 0,Sn]),(3,1,[vI r10,vI r13,Sn])] fun _ _ => ?_
 refine AW.loopM (fun x : Nat × LV => [(0,vP c 0),(2,vL 2 0 (0)),(3,vL 3 0 (1)),(4,vI r16),(5,vI (x.1 : Int))]) (fun x : Nat × LV => [(2,0,[vI 0,vI 0,.slice none 0 0]),(3,1,[vI x.2.cap,vI x.2.frm,vS x.2.p x.2.l.length])]) (fun m (x : Nat × LV) st' => m = r16.toNat - x.1 ∧ (x.1 : Int) ≤ r16 ∧ smL x.1 x.2.x ∧ FrC c st st' (pcL x.2.p x.2.l) ∧ Cur st' c p bs) (0,⟨r10,r13,none,[]⟩) _ ⟨rfl,rfl,rfl,rfl,rfl,trivial⟩ ⟨rfl,rfl,trivial⟩ ⟨rfl,h16,⟨Nat.le_refl _,fun x hx => (nomatch hx),hf13⟩,(Frs.nlL.toC hC16.lt).sooner hP16 hc.lt,hC16⟩ ?_
 rintro m ⟨i,u⟩ ρ0 ff gg st' ⟨rfl,hi,hk,hF,hC⟩
 simp only at hi hk hF
 refine ⟨_,rfl,?_⟩
 rintro (_|_) h19
 ·replace h19 : ¬ ((i : Int) < r16) := of_decide_eq_false h19
  refine Cm gg st' [(0,vP c 0),Ml 2 0,Ml 3 1,(4,vI r16),(5,vI (i : Int)),(19,vB false)] [(2,0,[vI 0,vI 0,Sn]),(3,1,[vI u.cap,vI u.frm,vS u.p u.l.length])] fun _ _ => ?_
  refine cxs ?_
  refine ⟨_,Od rfl,?_⟩
  refine ⟨_,Os rfl,?_⟩
  exact cxs (Rt ⟨u,rfl,⟨by have := hk.l; omega,hk.s,hk.f⟩,hF,hC⟩)
 ·replace h19 : (i : Int) < r16 := of_decide_eq_true h19
  refine Cm gg st' [(0,vP c 0),Ml 2 0,Ml 3 1,(4,vI r16),(5,vI (i : Int)),(19,vB true)] [(2,0,[vI 0,vI 0,Sn]),(3,1,[vI u.cap,vI u.frm,vS u.p u.l.length])] fun _ _ => ?_
  refine cxs ?_
  refine ⟨_,rfl,(ac_d_l1Below c 5 st' hC (by first | assumption | omega)).mono ?_⟩
  rintro _ s24 ⟨r24,rfl,h24,h24',h24'',hC24,hL24⟩
  refine ⟨_,rfl,(ac_d_l2Right c s24 hC24 (by first | assumption | omega)).mono ?_⟩
  rintro _ s26 ⟨e26,rfl,h26,hC26,hL26⟩
  refine ⟨_,rfl,(ac_spec_Single r24 e26 s26 (Nat.le_trans h26.2.2.2.2 (by decide))).mono ?_⟩
  rintro _ s27 ⟨u27,b27,rfl,h27,hO27,hN27,hP27⟩
  iterate 3 refine ⟨_,rfl,?_⟩
  refine ⟨_,Os rfl,?_⟩
  refine Cm (gg + 1) s27 [(0,vP c 0),Ml 2 0,Ml 3 1,(4,vI r16),(5,vI (i : Int)),Ml 6 gg,(19,vB true)] [(2,0,[vI 0,vI 0,Sn]),(3,1,[vI u.cap,vI u.frm,vS u.p u.l.length]),(6,gg,cSV u27)] fun _ _ => ?_
  have hF26 := (hF.later hL24).later hL26
  have hF27 : FrC c st s27 (pcS u27) := (Frs.toC ⟨hO27,hN27,hP27⟩ hF26.lt).sooner hF26.2.2.1 hc.lt
  have hR27 : RdL s27 u.p u.l := (hF26.step hP27).1.rdL
  have hC27 := hC26.pres hP27
  have hsm27 : smS 6 u27.x := (sm_ok (sing_ok h27)).le (by decide)
  have hbg : bigL u.l := hk.big (by omega)
  refine ⟨_,Od rfl,?_⟩
  refine ⟨_,Od rfl,?_⟩
  refine ⟨_,rfl,(ad_spec_LogAdd u u27 s27 hR27 hF27.1.rdS hbg (hsm27.big (by decide))).mono ?_⟩
  rintro _ s33 ⟨u33,b33,rfl,h33,hF33⟩
  iterate 2 refine ⟨_,rfl,?_⟩
  refine ⟨_,Os rfl,?_⟩
  refine Cm (gg + 1) s33 [(0,vP c 0),Ml 2 0,Ml 3 1,(4,vI r16),(5,vI (i : Int)),Ml 6 gg,(19,vB true)] [(2,0,[vI 0,vI 0,Sn]),(3,1,[vI u33.cap,vI u33.frm,vS u33.p u33.l.length]),(6,gg,cSV u27)] fun _ _ => ?_
  have ew21 : IntKind.wrap .i64 ((i : Int) + (1)) = ((i + 1 : Nat) : Int) := (wrap_i64 (by omega) (by omega)).trans (by omega)
  refine ⟨_,rfl,?_⟩
  exact ⟨(i + 1,u33),r16.toNat - (i + 1),by omega,⟨rfl,rfl,rfl,rfl,congrArg (Value.int .i64) ew21,trivial⟩,⟨rfl,rfl,trivial⟩,rfl,by simp only; omega,hk.of h33 hsm27,(hF33.toC hF27.lt).sooner hF27.2.2.1 hc.lt,hC27.pres hF33.2.2⟩
theorem FrC.snocL {c : Nat} {a b s1 s2 : St} {u : LV} {w : SV} {q : Option Addr} (h : FrC c a b (pcL u.p u.l)) (hw : FrC c b s1 (pcS w)) (hP : Pr u.p s1 s2) (ho : OwnR s2 2 cSV q (u.l ++ [w])) (hn : New s1.next q) : FrC c a s2 (pcL q (u.l ++ [w])) ∧ PresC c a s2 :=
 have h1 := h.join hw
 have hP2 := PresC.thenNew h1.2.2.1 hP (newL_p h.2.1)
 ⟨⟨by
  have h2 : OwnP s2 (pcR 2 cSV q (u.l ++ [w]) :: (u.l.flatMap pcS ++ pcS w)) := OwnP.renew (l := []) h1.1 hP (own_pc ho) hn
  show OwnP s2 (pcR 2 cSV q (u.l ++ [w]) :: (u.l ++ [w]).flatMap pcS)
  rw [List.flatMap_append,List.flatMap_singleton]
  exact h2,newL_snoc h.2.1 (hw.2.1.le h.2.2.1.1) (hn.le h1.2.2.1.1),hP2,h.2.2.2⟩,hP2⟩
theorem ac_d_l7Draw {p : Option Addr} {bs : List Int} (c : Nat) (st : St) (hc : Cur st c p bs) (hs : bs.length < 1099511627776) : C 145 [vP c 0] st (fun v s => ∃ u : LV,v = .agg #[vI u.cap,vI u.frm,vS u.p u.l.length] ∧ smL 6 u.x ∧ FrC c st s (pcL u.p u.l) ∧ Cur s c p bs) := by
 refine AC.enterX (i := ⟨[2,3],[2,3,13,19,22,28],[0,2,3,7,8,14,20],[]⟩) [(2008,[],[1]),(8,[3,4],[1])] Tryz.func145 rfl rfl (by kernel_rfl) (by kernel_rfl) Tryz.ntmps145 (Lb rfl) rfl ?_
 refine ⟨_,rfl,?_⟩
 refine Cm 1 st [(0,vP c 0),Ml 2 0] [(2,0,[vI 0,vI 0,Sn])] fun _ _ => ?_
 refine ⟨_,rfl,(ac_d_l7Right c st hc (by first | assumption | omega)).mono ?_⟩
 rintro _ s5 ⟨u5,rfl,h5,hF5,hC5⟩
 refine ⟨_,rfl,?_⟩
 refine ⟨_,Os rfl,?_⟩
 refine Cm 2 s5 [(0,vP c 0),Ml 2 0,Ml 3 1] [(2,0,[vI 0,vI 0,Sn]),(3,1,[vI u5.cap,vI u5.frm,vS u5.p u5.l.length])] fun _ _ => ?_
 refine ⟨_,rfl,(ac_d_l1Below c 12 s5 hC5 (by first | assumption | omega)).mono ?_⟩
 rintro _ s7 ⟨r7,rfl,h7,h7',h7'',hC7,hL7⟩
 refine Cm 2 s7 [(0,vP c 0),Ml 2 0,Ml 3 1,(7,vI r7)] [(2,0,[vI 0,vI 0,Sn]),(3,1,[vI u5.cap,vI u5.frm,vS u5.p u5.l.length])] fun _ _ => ?_
 have hF7 := hF5.later hL7
 have hll : u5.l.length ≤ 5 := by have := h5.l; simp only [List.length_map] at this; exact this
 refine ⟨_,rfl,?_⟩
 rintro (_|_) h9
 ·replace h9 : ¬ (r7 = (0)) := beq_eq_false_iff_ne.1 h9
  refine Cm 2 s7 [(0,vP c 0),Ml 2 0,Ml 3 1,(7,vI r7),(8,vB false)] [(2,0,[vI 0,vI 0,Sn]),(3,1,[vI u5.cap,vI u5.frm,vS u5.p u5.l.length])] fun _ _ => ?_
  refine ⟨_,rfl,?_⟩
  rintro (_|_) h15
  ·replace h15 : ¬ (r7 = (1)) := beq_eq_false_iff_ne.1 h15
   refine Cm 2 s7 [(0,vP c 0),Ml 2 0,Ml 3 1,(7,vI r7),(14,vB false)] [(2,0,[vI 0,vI 0,Sn]),(3,1,[vI u5.cap,vI u5.frm,vS u5.p u5.l.length])] fun _ _ => ?_
   refine ⟨_,rfl,?_⟩
   rintro (_|_) h21
   ·replace h21 : ¬ (r7 = (2)) := beq_eq_false_iff_ne.1 h21
    refine Cm 2 s7 [(0,vP c 0),Ml 2 0,Ml 3 1,(20,vB false)] [(2,0,[vI 0,vI 0,Sn]),(3,1,[vI u5.cap,vI u5.frm,vS u5.p u5.l.length])] fun _ _ => ?_
    refine cxs ?_
    refine ⟨_,Od rfl,?_⟩
    refine ⟨_,Os rfl,?_⟩
    exact cxs (Rt ⟨u5,rfl,⟨Nat.le_succ_of_le h5.l,h5.s,h5.f⟩,hF7,hC7⟩)
   ·replace h21 : r7 = (2) := beq_iff_eq.1 h21
    refine Cm 2 s7 [(0,vP c 0),Ml 2 0,Ml 3 1,(20,vB true)] [(2,0,[vI 0,vI 0,Sn]),(3,1,[vI u5.cap,vI u5.frm,vS u5.p u5.l.length])] fun _ _ => ?_
    refine ⟨fun _ => False,?_⟩
    refine ⟨_,rfl,?_⟩
    refine ⟨_,Od rfl,?_⟩
    refine ⟨ld_own rfl rfl rfl,?_⟩
    refine ⟨_,rfl,(ac_d_l3Draw c s7 hC7 (by first | assumption | omega)).mono ?_⟩
    rintro _ s25 ⟨u25,rfl,h25,hF25,hC25⟩
    refine ⟨fun _ h => h.elim,?_⟩
    refine op_one (z := 2) (a := (u25 : SV)) (f := cSV) rfl rfl rfl rfl rfl (by decide) rfl (Lb rfl) rfl rfl rfl ?_
    refine ⟨fun _ h => h.elim,?_⟩
    have hO25 : OwnR s25 2 cSV u5.p u5.l := (hF7.join hF25).left.1.louter
    refine op_snoc (z := 2) (st := s25) (f := cSV) (b := 48) (l := u5.l) (x := u25) rfl rfl rfl rfl rfl rfl rfl (by decide) len_cSV rfl rfl rfl (by omega) (by unfold maxLen; omega) hO25 ?_
    intro q27 s27 hO27 hP27 hN27
    refine ⟨_,rfl,?_⟩
    refine ⟨_,Os rfl,?_⟩
    refine Cm 2 s27 [Ml 2 0,Ml 3 1] [(2,0,[vI 0,vI 0,Sn]),(3,1,[vI u5.cap,vI u5.frm,vS q27 (u5.l ++ [u25]).length])] fun _ _ => ?_
    refine ⟨_,Od rfl,?_⟩
    refine ⟨_,Os rfl,?_⟩
    refine cxs ?_
    have hF27 := hF7.snocL hF25 hP27 hO27 hN27
    exact ⟨.inl rfl,_,rfl,⟨u5.cap,u5.frm,q27,u5.l ++ [u25]⟩,rfl,⟨by simp only [List.length_map,List.length_append,List.length_singleton]; omega,fun x hx => by
     simp only [List.map_append,List.mem_append,List.map_cons,List.map_nil,List.mem_singleton] at hx
     rcases hx with hx | rfl
     ·exact h5.s x hx
     ·exact h25,h5.f⟩,hF27.1,hC25.thenNew hc (hF7.2.2.1.trans hF25.2.2.1) hP27 (newL_p hF7.2.1)⟩
  ·replace h15 : r7 = (1) := beq_iff_eq.1 h15
   refine Cm 2 s7 [(0,vP c 0),Ml 2 0,Ml 3 1,(7,vI r7),(14,vB true)] [(2,0,[vI 0,vI 0,Sn]),(3,1,[vI u5.cap,vI u5.frm,vS u5.p u5.l.length])] fun _ _ => ?_
   refine op_litI (k := .i64) (l := [-1,100000,9223372036854775807]) rfl rfl rfl rfl rfl rfl (Lb rfl) ?_
   intro q17 s17 hO17 hP17 hN17
   refine ⟨_,rfl,(ac_d_l1PickInt c q17 ([-1,100000,9223372036854775807]) s17 (hC7.pres hP17) (by first | assumption | omega) (by first | assumption | omega | decide) (by first | assumption | omega) (by first | assumption | exact NC.new (by assumption) (Cur.lt (by assumption)))).mono ?_⟩
   rintro _ s18 ⟨r18,rfl,h18,hC18,hL18⟩
   refine ⟨_,rfl,?_⟩
   refine ⟨_,Os rfl,?_⟩
   refine Cm 2 s18 [Ml 2 0,Ml 3 1] [(2,0,[vI 0,vI 0,Sn]),(3,1,[vI u5.cap,vI r18,vS u5.p u5.l.length])] fun _ _ => ?_
   refine ⟨_,Od rfl,?_⟩
   refine ⟨_,Os rfl,?_⟩
   exact cxs (Rt ⟨⟨u5.cap,r18,u5.p,u5.l⟩,rfl,⟨Nat.le_succ_of_le h5.l,h5.s,by show -1 ≤ r18 ∧ r18 ≤ 9223372036854775807; simp only [List.mem_cons,List.not_mem_nil,or_false] at h18; omega⟩,(hF7.step hP17).later hL18,hC18⟩)
 ·replace h9 : r7 = (0) := beq_iff_eq.1 h9
  refine Cm 2 s7 [(0,vP c 0),Ml 2 0,Ml 3 1,(7,vI r7),(8,vB true)] [(2,0,[vI 0,vI 0,Sn]),(3,1,[vI u5.cap,vI u5.frm,vS u5.p u5.l.length])] fun _ _ => ?_
  refine op_litI (k := .i64) (l := [0,9,1]) rfl rfl rfl rfl rfl rfl (Lb rfl) ?_
  intro q11 s11 hO11 hP11 hN11
  refine ⟨_,rfl,(ac_d_l1PickInt c q11 ([0,9,1]) s11 (hC7.pres hP11) (by first | assumption | omega) (by first | assumption | omega | decide) (by first | assumption | omega) (by first | assumption | exact NC.new (by assumption) (Cur.lt (by assumption)))).mono ?_⟩
  rintro _ s12 ⟨r12,rfl,h12,hC12,hL12⟩
  refine ⟨_,rfl,?_⟩
  refine ⟨_,Os rfl,?_⟩
  refine Cm 2 s12 [Ml 2 0,Ml 3 1] [(2,0,[vI 0,vI 0,Sn]),(3,1,[vI r12,vI u5.frm,vS u5.p u5.l.length])] fun _ _ => ?_
  refine ⟨_,Od rfl,?_⟩
  refine ⟨_,Os rfl,?_⟩
  exact cxs (Rt ⟨⟨r12,u5.frm,u5.p,u5.l⟩,rfl,⟨Nat.le_succ_of_le h5.l,h5.s,h5.f⟩,(hF7.step hP11).later hL12,hC12⟩)
structure Added (g x : Lg) (d : Sta) : Prop where
 og : logOk g
 od : stateOk d
 ox : logOk x
 seq : x.frm + (x.list.length : Int) = g.frm + (g.list.length : Int) + 1
 frm : g.frm ≤ x.frm
 last : x.list.drop (x.list.length - 1) = [d]
 pos : 1 ≤ x.list.length
theorem addL_yes {g x : Lg} {d : Sta} (h : (x,true) = addL g d) : Added g x d := by
 unfold addL at h
 split at h
 ·rename_i hk
  obtain ⟨h1,h2,h3⟩ := hk
  have h4 := logOk_add h1 h2
  have hcap := h1.1
  split at h
  ·rename_i hc
   injection h with h _
   subst h
   have hl : ((g.list ++ [d]).drop 1).length = g.list.length := by rw [List.length_drop,List.length_append,List.length_singleton]; omega
   refine ⟨h1,h2,h4.1.2 h3,?_,by show g.frm ≤ g.frm + 1; omega,?_,by show 1 ≤ ((g.list ++ [d]).drop 1).length; omega⟩
   ·show g.frm + 1 + (((g.list ++ [d]).drop 1).length : Int) = _; rw [hl]; omega
   ·show ((g.list ++ [d]).drop 1).drop (((g.list ++ [d]).drop 1).length - 1) = [d]
    rw [hl,List.drop_drop,show 1 + (g.list.length - 1) = g.list.length by omega,List.drop_left]
  ·rename_i hc
   injection h with h _
   subst h
   have hl : (g.list ++ [d]).length = g.list.length + 1 := by rw [List.length_append,List.length_singleton]
   refine ⟨h1,h2,(h4.2 hc).2 h3,?_,Int.le_refl _,?_,by show 1 ≤ (g.list ++ [d]).length; omega⟩
   ·show g.frm + ((g.list ++ [d]).length : Int) = _; rw [hl]; omega
   ·show (g.list ++ [d]).drop ((g.list ++ [d]).length - 1) = [d]
    rw [hl,show g.list.length + 1 - 1 = g.list.length by omega,List.drop_left]
 ·injection h with _ h; cases h
theorem logSeq_ok {g : Lg} (h : logOk g) : logSeq g = g.frm + (g.list.length : Int) := if_pos h
theorem logSeq_rng (g : Lg) : 0 ≤ logSeq g ∧ logSeq g ≤ 100000 := by
 unfold logSeq
 split
 ·rename_i h; have := h.2.2.1; have := h.2.2.2.1; omega
 ·omega
end Go.Proofs.YtpnolkhfeliehaaGreat.AM
namespace Go.Proofs.YtpnolkhfeliehaaGreat.AM
open Go Go.Proofs
set_option linter.unusedVariables false
set_option linter.unusedSimpArgs false
def sesIn (x : Nd) (y : Ses) : Prop := ((0 ≤ y.peer ∧ y.peer ≤ x.n - 1) ∧ ¬ y.peer = x.id) ∧ (0 ≤ y.num ∧ y.num ≤ 100000) ∧ (0 ≤ y.age ∧ y.age ≤ x.wait)
def unlike (z y : Ses) : Prop := ¬ (z.peer = y.peer ∧ z.inn = y.inn)
theorem sess_iff {x : Nd} : sessOk x ↔ (x.sess.length : Int) ≤ x.slots ∧ (∀ y ∈ x.sess,sesIn x y) ∧ List.Pairwise unlike x.sess := by
 refine ⟨fun h => ⟨h.1,fun y hy => ?_,?_⟩,fun h => ⟨h.1,fun j y hy => ?_⟩⟩
 ·obtain ⟨j,hj⟩ := List.getElem?_of_mem hy
  have := h.2 j y hj
  exact ⟨this.1,this.2.1,this.2.2.1⟩
 ·rw [List.pairwise_iff_getElem]
  intro i j hi hj hij
  exact (h.2 j _ (List.getElem?_eq_getElem hj)).2.2.2 i _ hij (List.getElem?_eq_getElem hi)
 ·have h1 := h.2.1 y (List.mem_of_getElem? hy)
  refine ⟨h1.1,h1.2.1,h1.2.2,fun k z hk hz => ?_⟩
  obtain ⟨hj,e1⟩ := List.getElem?_eq_some_iff.1 hy
  obtain ⟨hk',e2⟩ := List.getElem?_eq_some_iff.1 hz
  have := (List.pairwise_iff_getElem.1 h.2.2) k j hk' hj hk
  rw [e1,e2] at this
  exact this
theorem aged_ok {x y : Nd} (h : sessOk x) (hn : y.n = x.n) (hi : y.id = x.id) (hw : y.wait = x.wait) (hs : y.slots = x.slots) (he : y.sess = agedL x.wait x.sess) : sessOk y := by
 have h := sess_iff.1 h
 refine sess_iff.2 ⟨?_,fun z hz => ?_,?_⟩
 ·have := aged_len x.wait x.sess
  rw [he,hs]
  have := h.1
  omega
 ·rw [he] at hz
  obtain ⟨hz,hw'⟩ := List.mem_filter.1 hz
  obtain ⟨q,hq,rfl⟩ := List.mem_map.1 hz
  have h1 := h.2.1 q hq
  have h2 : q.age + 1 ≤ x.wait := of_decide_eq_true hw'
  refine ⟨by rw [hn,hi]; exact h1.1,h1.2.1,?_⟩
  have := h1.2.2
  show 0 ≤ q.age + 1 ∧ q.age + 1 ≤ y.wait
  rw [hw]
  omega
 ·rw [he]
  exact List.Pairwise.filter _ (List.Pairwise.map older (fun a b hab => hab) h.2.2)
theorem tick_ok {x : Nd} (h : nodeOk x) : nodeOk (tickF x) := by
 unfold tickF
 split
 ·rename_i hc
  have h0 := h.clock
  exact ⟨h.n,h.id,h.s,h.t,h.g,h.got,h.acked,h.seq,h.ack,h.seen,h.num,by show 0 ≤ x.clock + 1 ∧ x.clock + 1 ≤ 100000; omega,h.wait,h.limit,h.slots,aged_ok h.sess rfl rfl rfl rfl rfl,h.rises.1,fun j r hr => by
   obtain ⟨h1,h2,h3⟩ := h.rises.2 j r hr
   exact ⟨h1,h2,by show 0 ≤ r.tick ∧ r.tick ≤ x.clock + 1; omega⟩⟩
 ·exact h
theorem slot_none : ∀ (l : List Ses) (p : Int) (b : Bool) (k : Nat),¬ slotF l p b k ≥ 0 → ∀ z ∈ l,¬ (z.peer = p ∧ z.inn = b)
 | [],_,_,_,_,z,hz => by cases hz
 | x :: l,p,b,k,h,z,hz => by
  unfold slotF at h
  by_cases hc : x.peer = p ∧ x.inn = b
  ·rw [if_pos hc] at h; omega
  ·rw [if_neg hc] at h
   rcases List.mem_cons.1 hz with rfl | hz
   ·exact hc
   ·exact slot_none l p b (k + 1) h z hz
theorem begun_ok {x : Nd} {to : Int} (h : synOk x to) : nodeOk (begun x to) := by
 have k := h.ok
 have h0 := k.num
 have h1 := h.num
 have hs := sess_iff.1 k.sess
 have hw := k.wait
 refine ⟨k.n,k.id,k.s,k.t,k.g,k.got,k.acked,k.seq,k.ack,k.seen,by show 0 ≤ x.num + 1 ∧ x.num + 1 ≤ 100000; omega,k.clock,k.wait,k.limit,k.slots,sess_iff.2 ⟨?_,fun y hy => ?_,?_⟩,k.rises⟩
 ·show ((x.sess ++ [_]).length : Int) ≤ x.slots
  rw [List.length_append,List.length_singleton]
  have := h.room
  omega
 ·rcases List.mem_append.1 (show y ∈ x.sess ++ [_] from hy) with hy | hy
  ·exact hs.2.1 y hy
  ·rw [List.mem_singleton.1 hy]
   exact ⟨h.peer,by show 0 ≤ x.num + 1 ∧ x.num + 1 ≤ 100000; omega,by show (0 : Int) ≤ 0 ∧ 0 ≤ x.wait; omega⟩
 ·refine List.pairwise_append.2 ⟨hs.2.2,List.pairwise_singleton _ _,fun a ha b hb => ?_⟩
  rw [List.mem_singleton.1 hb]
  exact slot_none _ _ _ _ h.slot a ha
theorem syn_ok {x : Nd} {to : Int} (h : nodeOk x) : nodeOk (synF x to).1 := by
 unfold synF
 split
 ·rename_i k; exact begun_ok k
 ·exact h
theorem seen_ok {x : Nd} {k : Int} {ms : List Flr} (h : nodeOk x) : nodeOk { x with seen := tableAdd x.seen k ms } :=
 ⟨h.n,h.id,h.s,h.t,h.g,h.got,h.acked,h.seq,h.ack,table_add h.seen,h.num,h.clock,h.wait,h.limit,h.slots,h.sess,h.rises⟩
theorem vec_set {l : List Int} {n v : Int} {i : Nat} (h : vecOk l n) (hv : 0 ≤ v ∧ v ≤ 100000) : vecOk (l.set i v) n := ⟨h.1,by rw [List.length_set]; exact h.2.1,fun j x hx => by
 rw [List.getElem?_set] at hx
 split at hx
 ·split at hx
  ·injection hx with hx; rw [← hx]; exact hv
  ·cases hx
 ·exact h.2.2 j x hx⟩
theorem set_all {P : Int → Prop} {l : List Int} {v : Int} {i : Nat} (h : ∀ (j : Nat) y,l[j]? = some y → P y) (hv : P v) : ∀ (j : Nat) y,(l.set i v)[j]? = some y → P y := fun j x hx => by
 rw [List.getElem?_set] at hx
 split at hx
 ·split at hx
  ·injection hx with hx; rw [← hx]; exact hv
  ·cases hx
 ·exact h j x hx
theorem got_ok {x : Nd} {i : Nat} {v : Int} (h : nodeOk x) (hi : ¬ (i : Int) = x.id) (hv : 0 ≤ v ∧ v ≤ 100000) : nodeOk { x with got := x.got.set i v } :=
 ⟨h.n,h.id,h.s,h.t,h.g,vec_set h.got hv,h.acked,by
  have := h.id
  show (x.got.set i v)[x.id.toNat]? = _
  rw [List.getElem?_set_ne (by omega)]
  exact h.seq,h.ack,h.seen,h.num,h.clock,h.wait,h.limit,h.slots,h.sess,h.rises⟩
theorem acked_ok {x : Nd} {i : Nat} {v : Int} (h : nodeOk x) (hv : 0 ≤ v ∧ v ≤ logSeq x.g) : nodeOk { x with acked := x.acked.set i v } :=
 ⟨h.n,h.id,h.s,h.t,h.g,h.got,vec_set h.acked (by have := (logSeq_rng x.g).2; omega),h.seq,set_all h.ack hv.2,h.seen,h.num,h.clock,h.wait,h.limit,h.slots,h.sess,h.rises⟩
theorem said_ok {x : Nd} {g : Lg} {d : Sta} (h : nodeOk x) (hA : Added x.g g d) : logSeq g = logSeq x.g + 1 ∧ nodeOk { x with g := g,got := x.got.set x.id.toNat (logSeq g) } := by
 have e : logSeq g = logSeq x.g + 1 := by rw [logSeq_ok hA.ox,logSeq_ok hA.og]; exact hA.seq
 have hl : x.id.toNat < x.got.length := by have := h.id; have := h.got.2.1; omega
 refine ⟨e,h.n,h.id,h.s,h.t,hA.ox,vec_set h.got (logSeq_rng g),h.acked,List.getElem?_set_self hl,fun j y hy => ?_,h.seen,h.num,h.clock,h.wait,h.limit,h.slots,h.sess,h.rises⟩
 have := h.ack j y hy
 show y ≤ logSeq g
 omega
theorem zI_vec {n : Int} (h : 1 ≤ n ∧ n ≤ 5) : vecOk (zI n) n := ⟨h,by rw [zI_len]; omega,fun j x hx => by
 have := List.eq_of_mem_replicate (List.mem_of_getElem? hx)
 omega⟩
theorem newN_ok {id n cap slots wait limit : Int} (hn : 1 ≤ n ∧ n ≤ 5) (hid : 0 ≤ id ∧ id ≤ n - 1) (hc : 1 ≤ cap ∧ cap ≤ 8) (hs : 1 ≤ slots ∧ slots ≤ 4) (hw : 1 ≤ wait ∧ wait ≤ 20) (hl : 1 ≤ limit ∧ limit ≤ 50) : nodeOk (newN id n cap slots wait limit) := by
 have hg : logOk ⟨cap,0,[]⟩ := ⟨hc,by show (0 : Int) ≤ cap; omega,⟨Int.le_refl _,show (0 : Int) ≤ 100000 by decide⟩,show (0 : Int) + ((0 : Nat) : Int) ≤ 100000 by decide,fun s hs => by cases hs⟩
 have hq : logSeq ⟨cap,0,[]⟩ = 0 := by rw [logSeq_ok hg]; rfl
 refine ⟨hn,hid,stateOk_nil,rfl,hg,zI_vec hn,zI_vec hn,?_,fun j y hy => ?_,tnew_tableOk.2 hn,show (0 : Int) ≤ 0 ∧ (0 : Int) ≤ 100000 by decide,show (0 : Int) ≤ 0 ∧ (0 : Int) ≤ 100000 by decide,hw,hl,hs,sess_iff.2 ⟨by show (0 : Int) ≤ slots; omega,fun y (hy : y ∈ ([] : List Ses)) => (nomatch hy),List.Pairwise.nil⟩,List.length_replicate,fun j r hr => ?_⟩
 ·show (zI n)[id.toNat]? = some (logSeq ⟨cap,0,[]⟩)
  rw [hq]
  unfold zI
  rw [List.getElem?_replicate,if_pos (by omega)]
 ·have := List.eq_of_mem_replicate (List.mem_of_getElem? hy)
  show y ≤ logSeq ⟨cap,0,[]⟩
  omega
 ·rw [List.eq_of_mem_replicate (List.mem_of_getElem? hr)]
  exact ⟨by decide,by decide,show (0 : Int) ≤ 0 ∧ (0 : Int) ≤ 0 by decide⟩
theorem newF_ok {id n cap slots wait limit : Int} {x : Nd} {b : Bool} (he : (x,b) = newF id n cap slots wait limit) (hn : 1 ≤ n ∧ n ≤ 5) (hid : 0 ≤ id ∧ id ≤ n - 1) (hc : 1 ≤ cap ∧ cap ≤ 8) (hs : 1 ≤ slots ∧ slots ≤ 4) (hw : 1 ≤ wait ∧ wait ≤ 20) (hl : 1 ≤ limit ∧ limit ≤ 50) : nodeOk x ∧ x = newN id n cap slots wait limit := by
 have h := newN_ok hn hid hc hs hw hl
 unfold newF at he
 rw [if_pos ⟨hn,h⟩] at he
 injection he with he _
 exact ⟨he ▸ h,he⟩
end Go.Proofs.YtpnolkhfeliehaaGreat.AM
namespace Go.Proofs.YtpnolkhfeliehaaGreat.AM
open Go Go.Proofs
set_option linter.unusedVariables false
set_option linter.unusedSimpArgs false
set_option maxRecDepth 100000
set_option maxHeartbeats 4000000
abbrev upI (l : List Itm) : List Itm := l.filter fun x => decide (x.e.rank = 0)
open Classical in
noncomputable def viewF (s : Sta) : List Itm := if stateOk s then upI s.items else []
theorem view_big {s : Sta} (h : bigS s) : bigS ⟨viewF s,[]⟩ := by
 unfold viewF
 split
 ·exact ⟨Nat.le_trans (List.length_filter_le _ _) h.1,Nat.zero_le _,fun x hx => h.2.2 x ((List.mem_filter.1 hx).1)⟩
 ·exact ⟨Nat.zero_le _,Nat.zero_le _,fun x hx => by cases hx⟩
noncomputable def lookF (s : Sta) (id : Int) : Ent × Bool := entP (viewF s) id
theorem ac_spec_View (s : SV) (st : St) (hR : RdS st s) (hb : bigS s.x) : C 238 [.agg #[vS s.p s.x.items.length,vS s.q s.x.floors.length]] st (fun v s' => ∃ q,v = vS q (viewF s.x).length ∧ OwnR s' 6 cItm q (viewF s.x) ∧ New st.next q ∧ Pres st s') := by
 have hs1 : s.x.items.length ≤ 1048576 := hb.1
 refine AC.enterX (i := ⟨[1],[1,11,17,26],[0,1,2,3,4,8,14,24],[]⟩) [] Tryz.func238 rfl rfl (by kernel_rfl) (by kernel_rfl) Tryz.ntmps238 (Lb rfl) rfl ?_
 refine ⟨_,rfl,?_⟩
 refine Cm 1 st [Ml 1 0,(2,Sn)] [(1,0,cSV s)] fun _ _ => ?_
 refine op_nilK (z := 6) (f := cItm) rfl rfl rfl rfl (by decide) rfl ?_
 intro q5 s5 hO5 hP5 hN5
 refine Cm 1 s5 [Ml 1 0,(2,Sn),(3,vS q5 0)] [(1,0,cSV s)] fun _ _ => ?_
 refine ⟨_,Od rfl,?_⟩
 refine ⟨_,rfl,(ac_spec_StateOk s s5 (hR.pres hP5) (by first | assumption | omega)).mono ?_⟩
 rintro _ s5 ⟨x7,rfl,h7,rfl⟩
 rcases x7 with _|_
 ·replace h7 := fun k => Bool.false_ne_true (h7.2 k)
  refine ⟨_,rfl,?_⟩
  refine Cm 1 s5 [Ml 1 0,(2,Sn),(3,vS q5 0),(8,vB true)] [(1,0,cSV s)] fun _ _ => ?_
  exact cxs (Rt ⟨q5,by rw [viewF,if_neg h7]; rfl,by rw [viewF,if_neg h7]; exact hO5,hN5,hP5⟩)
 ·replace h7 := h7.1 rfl
  refine ⟨_,rfl,?_⟩
  refine Cm 1 s5 [Ml 1 0,(2,Sn),(3,vS q5 0),(8,vB false)] [(1,0,cSV s)] fun _ _ => ?_
  refine cxs ?_
  refine Cm 1 s5 [Ml 1 0,(2,Sn),(3,vS q5 0),(4,vI 0)] [(1,0,cSV s)] fun _ _ => ?_
  refine AW.loopM (fun x : Nat × Option Addr × List Itm => [(1,vL 1 0 (0)),(2,.slice none 0 0),(3,vS x.2.1 x.2.2.length),(4,vI (x.1 : Int))]) (fun x : Nat × Option Addr × List Itm => [(1,0,[vS s.p s.x.items.length,vS s.q s.x.floors.length])]) (fun m (x : Nat × Option Addr × List Itm) st' => m = s.x.items.length - x.1 ∧ x.1 ≤ s.x.items.length ∧ x.2.2 = upI (s.x.items.take x.1) ∧ OwnR st' 6 cItm x.2.1 x.2.2 ∧ New st.next x.2.1 ∧ Pres st st') (0,q5,[]) _ ⟨rfl,rfl,rfl,rfl,trivial⟩ ⟨rfl,trivial⟩ ⟨rfl,Nat.zero_le _,rfl,hO5,hN5,hP5⟩ ?_
  rintro m ⟨i,q,l⟩ ρ0 ff gg st' ⟨rfl,hi,hv,hO,hN,hP⟩
  simp only at hi hv hO hN
  have hll : l.length ≤ i := by rw [hv]; exact Nat.le_trans (List.length_filter_le _ _) (by rw [List.length_take]; omega)
  refine ⟨_,rfl,?_⟩
  refine ⟨_,Od rfl,?_⟩
  iterate 2 refine ⟨_,rfl,?_⟩
  rintro (_|_) h14
  ·replace h14 : ¬ ((i : Int) < (s.x.items.length : Int)) := of_decide_eq_false h14
   refine Cm gg st' [Ml 1 0,(2,Sn),(3,vS q l.length),(4,vI (i : Int)),(14,vB false)] [(1,0,cSV s)] fun _ _ => ?_
   refine cxs ?_
   refine cxs ?_
   have hle : l = viewF s.x := by rw [hv,viewF,if_pos h7,List.take_of_length_le (by omega)]
   exact Rt ⟨q,by rw [← hle]; rfl,by rw [← hle]; exact hO,hN,hP⟩
  ·replace h14 : (i : Int) < (s.x.items.length : Int) := of_decide_eq_true h14
   refine Cm gg st' [Ml 1 0,(2,Sn),(3,vS q l.length),(4,vI (i : Int)),(14,vB true)] [(1,0,cSV s)] fun _ _ => ?_
   refine cxs ?_
   refine ⟨_,rfl,?_⟩
   refine ⟨_,Od rfl,?_⟩
   refine op_at i (hP.rows hR.1) (by omega) rfl rfl rfl rfl rfl rfl rfl ?_
   intro x20 b20 d20 k20 hy20 hb20 hm20 hc20 ho20
   iterate 2 refine ⟨_,rfl,?_⟩
   refine ⟨_,op_ldc (i := 2) rfl rfl rfl rfl hm20 hc20 rfl rfl,?_⟩
   refine ⟨_,rfl,?_⟩
   rintro (_|_) h24
   ·replace h24 : ¬ (x20.e.rank = (0)) := beq_eq_false_iff_ne.1 h24
    refine Cm gg st' [Ml 1 0,(2,Sn),(3,vS q l.length),(4,vI (i : Int)),(14,vB true),(24,vB false)] [(1,0,cSV s)] fun _ _ => ?_
    refine cxs ?_
    have ew16 : IntKind.wrap .i64 ((i : Int) + (1)) = ((i + 1 : Nat) : Int) := (wrap_i64 (by omega) (by omega)).trans (by omega)
    refine ⟨_,rfl,?_⟩
    exact ⟨(i + 1,q,l),s.x.items.length - (i + 1),by omega,⟨rfl,rfl,rfl,congrArg (Value.int .i64) ew16,trivial⟩,⟨rfl,trivial⟩,rfl,by simp only; omega,by rw [show upI (s.x.items.take (i + 1)) = upI (s.x.items.take i) from filt_out hy20 (decide_eq_false h24)]; exact hv,hO,hN,hP⟩
   ·replace h24 : x20.e.rank = (0) := beq_iff_eq.1 h24
    refine Cm gg st' [Ml 1 0,(2,Sn),(3,vS q l.length),(4,vI (i : Int)),(14,vB true),(24,vB true)] [(1,0,cSV s)] fun _ _ => ?_
    refine ⟨_,rfl,?_⟩
    refine ⟨_,Od rfl,?_⟩
    refine op_el i (hP.rows hR.1) hy20 rfl rfl rfl rfl rfl rfl rfl ?_
    intro b29 d29 k29 hb29 hm29 hc29 ho29
    refine ⟨_,op_lda rfl rfl rfl rfl rfl hm29 hc29 rfl,?_⟩
    refine op_one (z := 6) (a := (x20 : Itm)) (f := cItm) rfl rfl rfl rfl rfl (by decide) rfl (Lb rfl) rfl rfl rfl ?_
    refine op_snoc (z := 6) (st := st') (f := cItm) (b := 56) (l := l) (x := x20) rfl rfl rfl rfl rfl rfl rfl (by decide) len_cItm rfl rfl rfl (by omega) (by unfold maxLen; omega) hO ?_
    intro q32 s32 hO32 hP32 hN32
    refine Cm gg s32 [Ml 1 0,(2,Sn),(3,vS q32 (l ++ [x20]).length),(4,vI (i : Int)),(14,vB true),(24,vB true)] [(1,0,cSV s)] fun _ _ => ?_
    have ew16 : IntKind.wrap .i64 ((i : Int) + (1)) = ((i + 1 : Nat) : Int) := (wrap_i64 (by omega) (by omega)).trans (by omega)
    refine ⟨_,rfl,?_⟩
    exact ⟨(i + 1,q32,l ++ [x20]),s.x.items.length - (i + 1),by omega,⟨rfl,rfl,rfl,congrArg (Value.int .i64) ew16,trivial⟩,⟨rfl,trivial⟩,rfl,by simp only; omega,by rw [show upI (s.x.items.take (i + 1)) = upI (s.x.items.take i) ++ [x20] from filt_in hy20 (decide_eq_true h24),← hv],hO32,hN32.le hP.1,hP32.pres hP hN⟩
theorem ac_spec_Lookup (s : SV) (id : Int) (st : St) (hR : RdS st s) (hb : bigS s.x) : C 218 [.agg #[vS s.p s.x.items.length,vS s.q s.x.floors.length],vI id] st (fun v s' => ∃ e b,v = .tuple #[.agg #[vI e.inc,vI e.rank,vI e.beat,vI e.ver,.string e.data],vB b] ∧ (e,b) = lookF s.x id ∧ Pres st s') := by
 refine AC.enterX (i := ⟨[2,4],[2,4],[0,1,2,4,5],[]⟩) [] Tryz.func218 rfl rfl (by kernel_rfl) (by kernel_rfl) Tryz.ntmps218 (Lb rfl) rfl ?_
 iterate 2 refine ⟨_,rfl,?_⟩
 refine Cm 2 st [(1,vI id),Ml 2 0,Ml 4 1,(5,vB false)] [(2,0,cSV s),(4,1,[vI 0,vI 0,vI 0,vI 0,.string ⟨#[]⟩])] fun _ _ => ?_
 refine ⟨_,Od rfl,?_⟩
 refine ⟨_,rfl,(ac_spec_View s st hR (by first | assumption | omega)).mono ?_⟩
 rintro _ s7 ⟨q7,rfl,hO7,hN7,hP7⟩
 refine ⟨_,rfl,?_⟩
 refine ⟨_,rfl,(ac_spec_EntryOf ⟨q7,none,⟨viewF s.x,[]⟩⟩ id s7 ⟨hO7.rows len_cItm,Rows.nil⟩ (view_big hb)).mono ?_⟩
 rintro _ s7 ⟨e10,b10,rfl,h10,rfl⟩
 iterate 2 refine ⟨_,rfl,?_⟩
 refine ⟨_,Os rfl,?_⟩
 exact cxs (Rt ⟨e10,b10,rfl,h10,hP7⟩)
theorem ac_spec_l11Take (g : NV) (d : SV) (st : St) (hR : RdN st g) (hD : RdS st d) (hb : bigN g.x) (hbd : bigS d.x) (hk : stateOk g.s.x) (hkd : stateOk d.x) (hr5 : g.rises.l.length = 5) : C 56 [(vNV g),.agg #[vS d.p d.x.items.length,vS d.q d.x.floors.length]] st (fun v s => ∃ u : NW,v = (vNV u) ∧ u.x = takeF g.x d.x ∧ OwnP s (pcNW u) ∧ NewP st.next (pcNW u) ∧ Pres st s) := by
 refine AC.enterX (i := ⟨[2,3,4,5,6,8,9],[2,3,4,5,6,8,9,12,16,18,23,25,28,29,32,34,35,41,42,47,49,53,54,56,60,61,63,67,68,70,75,77,79,80,82,83,85],[0,1,2,3,4,5,6,7,8,9,38,74],[]⟩) [(3,[5],[1,3])] Tryz.func56 rfl rfl (by kernel_rfl) (by kernel_rfl) Tryz.ntmps56 (Lb rfl) rfl ?_
 iterate 3 refine ⟨_,rfl,?_⟩
 refine Cm 3 st [Ml 2 0,Ml 3 1,Ml 4 2] [(2,0,cNV g),(3,1,cSV d),(4,2,Zn)] fun _ _ => ?_
 refine ⟨_,op_ldo (v := (vNV g)) rfl rfl rfl rfl,?_⟩
 refine ⟨_,rfl,(ac_spec_l11Copy g st hR (by first | assumption | omega)).mono ?_⟩
 rintro _ s11 ⟨u11,rfl,h11,hO11,hN11,hP11⟩
 refine ⟨_,rfl,?_⟩
 refine ⟨_,op_stw (vs := cNV u11.v) rfl rfl rfl rfl rfl rfl rfl rfl,?_⟩
 refine Cm 4 s11 [Ml 2 0,Ml 3 1,Ml 4 2,Ml 5 3] [(2,0,cNV g),(3,1,cSV d),(4,2,Zn),(5,3,cNV u11.v)] fun _ _ => ?_
 refine ⟨_,rfl,?_⟩
 refine ⟨_,Od rfl,?_⟩
 refine ⟨_,Od rfl,?_⟩
 refine ⟨_,rfl,(ac_spec_l3Join g.s d s11 (hR.s.pres hP11) (hD.pres hP11) hb.s hbd hk hkd).mono ?_⟩
 rintro _ s15 ⟨u15,rfl,h15,hO15,hN15,hP15⟩
 refine ⟨_,rfl,?_⟩
 refine ⟨_,Os rfl,?_⟩
 refine Cm 5 s15 [Ml 2 0,Ml 4 2,Ml 5 3,Ml 6 4] [(2,0,cNV g),(4,2,Zn),(5,3,cNV u11.v),(6,4,cSV u15)] fun _ _ => ?_
 have hF11 : Frs st s11 (pcNW u11) := ⟨hO11,hN11,hP11⟩
 have hR15 := hO15.rdS
 have hk15 : stateOk u15.x := by rw [h15]; exact stateOk_join hk hkd
 have hb15 : bigS u15.x := by rw [h15]; exact bigS_join hb.s hbd
 have hml := marksF_len (goneAt u15.x) 5
 refine ⟨_,rfl,?_⟩
 refine ⟨_,Od rfl,?_⟩
 refine ⟨ld_own rfl rfl rfl,?_⟩
 refine ⟨_,rfl,?_⟩
 refine ⟨_,Od rfl,?_⟩
 refine ⟨ld_own rfl rfl rfl,?_⟩
 refine ⟨_,Od rfl,?_⟩
 refine ⟨_,rfl,(ac_spec_MarksOf u15 s15 hR15 (by first | assumption | omega)).mono ?_⟩
 rintro _ s21 ⟨q21,rfl,hO21,hP21,hN21⟩
 refine ⟨hP21.2,?_⟩
 refine ⟨_,rfl,(uc_spec_TableAdd g.seen g.id q21 (marksF (goneAt u15.x) 5) s21 (hR.seen.pres ((hP11.trans hP15).trans hP21)) (hO21.rows len_cFlr) hb.seen (by unfold szOk; omega)).mono ?_⟩
 rintro _ s22 ⟨u22,rfl,h22,h22',hO22,hN22,hP22⟩
 refine ⟨_,rfl,?_⟩
 refine ⟨_,Os rfl,?_⟩
 refine Cm 5 s22 [Ml 2 0,Ml 4 2,Ml 5 3,Ml 6 4] [(2,0,cNV g),(4,2,Zn),(5,3,Nv u11 [(11,vS u22.p u22.t.length)]),(6,4,cSV u15)] fun _ _ => ?_
 have hF22 : Frs st s22 (pcNW { u11 with seen := u22 }) := (hF11.later (hP15.trans hP21)).ndE ⟨hO22,hN22,hP22⟩
 have hbt22 : bigT u22.x := tableAdd_big h22 hb.seen
 refine ⟨_,Od rfl,?_⟩
 refine ⟨_,rfl,?_⟩
 refine ⟨_,Od rfl,?_⟩
 refine ⟨_,rfl,(uc_spec_Prune u15 u22 s22 (hO15.rdS.pres (hP21.trans hP22)) hO22.rdT hb15 hbt22).mono ?_⟩
 rintro _ s27 ⟨u27,rfl,h27,hO27,hN27,hP27⟩
 refine ⟨_,rfl,?_⟩
 refine ⟨_,Os rfl,?_⟩
 refine Cm 5 s27 [Ml 2 0,Ml 4 2,Ml 5 3] [(2,0,cNV g),(4,2,Zn),(5,3,Nv u11 [(2,vS u27.p u27.x.items.length),(3,vS u27.q u27.x.floors.length),(11,vS u22.p u22.t.length)])] fun _ _ => ?_
 have hF27 : Frs st s27 (pcNW { u11 with seen := u22,s := u27 }) := hF22.ndS ⟨hO27,hN27,hP27⟩
 have hk27 : stateOk u27.x := ok_prune h27 hk15
 have hb27 : bigS u27.x := big_prune h27 hb15
 refine ⟨_,rfl,?_⟩
 refine ⟨_,Od rfl,?_⟩
 refine ⟨_,rfl,(ac_spec_TreeOf u27 s27 hO27.rdS hb27).mono ?_⟩
 rintro _ s31 ⟨u31,rfl,h31,hO31,hN31,hP31⟩
 refine ⟨_,rfl,?_⟩
 refine ⟨_,Os rfl,?_⟩
 refine cxs ?_
 have hF31 : Frs st s31 (pcNW { u11 with seen := u22,s := u27,t := u31 }) := hF27.ndT (Frs.one hO31 hN31 hP31)
 have hr11 : u11.rises.l = g.rises.l := congrArg Nd.rises h11
 have hi27 : u27.x.items.length ≤ 1048576 := hb27.1
 refine Cm 5 s31 [Ml 2 0,Ml 4 2,Ml 5 3,(7,vI 0)] [(2,0,cNV g),(4,2,Zn),(5,3,Nv u11 [(2,vS u27.p u27.x.items.length),(3,vS u27.q u27.x.floors.length),(4,vS u31.p u31.l.length),(5,vI u31.root),(11,vS u22.p u22.t.length)])] fun _ _ => ?_
 refine AW.loopM (fun x : Nat × List Ris => [(2,vL 2 0 (0)),(4,vL 4 0 (2)),(5,vL 5 0 (3)),(7,vI (x.1 : Int))]) (fun x : Nat × List Ris => [(2,0,cNV g),(4,2,[vI 0,vI 0,.slice none 0 0,.slice none 0 0,.slice none 0 0,vI 0,vI 0,vI 0,.slice none 0 0,.slice none 0 0,.slice none 0 0,.slice none 0 0,vI 0,vI 0,.slice none 0 0,vI 0,vI 0,vI 0,.slice none 0 0]),(5,3,[vI u11.id,vI u11.n,vS u27.p u27.x.items.length,vS u27.q u27.x.floors.length,vS u31.p u31.l.length,vI u31.root,vI u11.g.cap,vI u11.g.frm,vS u11.g.p u11.g.l.length,vS u11.got.p u11.got.l.length,vS u11.acked.p u11.acked.l.length,vS u22.p u22.t.length,vI u11.num,vI u11.slots,vS u11.sess.p u11.sess.l.length,vI u11.wait,vI u11.limit,vI u11.clock,vS u11.rises.p x.2.length])]) (fun m (x : Nat × List Ris) st' => m = u27.x.items.length - x.1 ∧ x.1 ≤ u27.x.items.length ∧ x.2 = risesF g.clock g.rises.l (u27.x.items.take x.1) ∧ Frs st st' (pcNW { u11 with seen := u22,s := u27,t := u31,rises := ⟨u11.rises.p,x.2⟩ })) (0,u11.rises.l) _ ⟨rfl,rfl,rfl,rfl,trivial⟩ ⟨rfl,rfl,rfl,trivial⟩ ⟨rfl,Nat.zero_le _,hr11,hF31⟩ ?_
 rintro m ⟨i,l⟩ ρ0 ff gg st' ⟨rfl,hi,hv,hF⟩
 simp only at hi hv hF
 have hll : l.length = 5 := by rw [hv,risesF_len]; exact hr5
 iterate 2 refine ⟨_,rfl,?_⟩
 refine ⟨_,Od rfl,?_⟩
 iterate 2 refine ⟨_,rfl,?_⟩
 rintro (_|_) h38
 ·replace h38 : ¬ ((i : Int) < (u27.x.items.length : Int)) := of_decide_eq_false h38
  refine Cm gg st' [Ml 2 0,Ml 4 2,Ml 5 3,(7,vI (i : Int)),(38,vB false)] [(2,0,cNV g),(4,2,Zn),(5,3,Nv u11 [(2,vS u27.p u27.x.items.length),(3,vS u27.q u27.x.floors.length),(4,vS u31.p u31.l.length),(5,vI u31.root),(11,vS u22.p u22.t.length),(18,vS u11.rises.p l.length)])] fun _ _ => ?_
  refine cxs ?_
  refine ⟨_,op_ldo (v := .agg #[vI u11.id,vI u11.n,vS u27.p u27.x.items.length,vS u27.q u27.x.floors.length,vS u31.p u31.l.length,vI u31.root,vI u11.g.cap,vI u11.g.frm,vS u11.g.p u11.g.l.length,vS u11.got.p u11.got.l.length,vS u11.acked.p u11.acked.l.length,vS u22.p u22.t.length,vI u11.num,vI u11.slots,vS u11.sess.p u11.sess.l.length,vI u11.wait,vI u11.limit,vI u11.clock,vS u11.rises.p l.length]) rfl rfl rfl rfl,?_⟩
  refine ⟨_,op_stw (vs := [vI u11.id,vI u11.n,vS u27.p u27.x.items.length,vS u27.q u27.x.floors.length,vS u31.p u31.l.length,vI u31.root,vI u11.g.cap,vI u11.g.frm,vS u11.g.p u11.g.l.length,vS u11.got.p u11.got.l.length,vS u11.acked.p u11.acked.l.length,vS u22.p u22.t.length,vI u11.num,vI u11.slots,vS u11.sess.p u11.sess.l.length,vI u11.wait,vI u11.limit,vI u11.clock,vS u11.rises.p l.length]) rfl rfl rfl rfl rfl rfl rfl rfl,?_⟩
  exact cxs (Rt ⟨{ u11 with seen := u22,s := u27,t := u31,rises := ⟨u11.rises.p,l⟩ },rfl,take_eq (y := u11.x) h11 h15 h22 h27 h31 (by rw [hv,show i = u27.x.items.length by omega,List.take_length]),hF.1,hF.2.1,hF.2.2⟩)
 ·replace h38 : (i : Int) < (u27.x.items.length : Int) := of_decide_eq_true h38
  refine Cm gg st' [Ml 2 0,Ml 4 2,Ml 5 3,(7,vI (i : Int)),(38,vB true)] [(2,0,cNV g),(4,2,Zn),(5,3,Nv u11 [(2,vS u27.p u27.x.items.length),(3,vS u27.q u27.x.floors.length),(4,vS u31.p u31.l.length),(5,vI u31.root),(11,vS u22.p u22.t.length),(18,vS u11.rises.p l.length)])] fun _ _ => ?_
  have hO : OwnR st' 3 cRise u11.rises.p l := hF.ownRis
  have hR2 : RdS st' u27 := hF.1.rdN.s
  refine cxs ?_
  iterate 2 refine ⟨_,rfl,?_⟩
  refine ⟨_,Od rfl,?_⟩
  refine op_at i hR2.1 (by omega) rfl rfl rfl rfl rfl rfl rfl ?_
  intro x45 b45 d45 k45 hy45 hb45 hm45 hc45 ho45
  refine ⟨_,op_lda rfl rfl rfl rfl rfl hm45 hc45 rfl,?_⟩
  refine ⟨_,rfl,?_⟩
  refine ⟨_,Os rfl,?_⟩
  refine Cm (gg + 1) st' [Ml 2 0,Ml 4 2,Ml 5 3,(7,vI (i : Int)),Ml 8 gg,(38,vB true)] [(2,0,cNV g),(4,2,Zn),(5,3,Nv u11 [(2,vS u27.p u27.x.items.length),(3,vS u27.q u27.x.floors.length),(4,vS u31.p u31.l.length),(5,vI u31.root),(11,vS u22.p u22.t.length),(18,vS u11.rises.p l.length)]),(8,gg,[vI x45.id,vI x45.e.inc,vI x45.e.rank,vI x45.e.beat,vI x45.e.ver,.string x45.e.data])] fun _ _ => ?_
  have hid : 0 ≤ x45.id ∧ x45.id ≤ 4 := (hk27.1 i x45 hy45).1
  obtain ⟨a,ha⟩ := hO.some (by omega)
  obtain ⟨b1,o1,k1,r,hpe,hr,hm1,hc1,hb1⟩ := (hO.rows len_cRise).atB (j := x45.id.toNat) (by omega)
  obtain ⟨rfl,rfl⟩ : a = b1 ∧ 0 = o1 := by rw [ha] at hpe; injection hpe with hpe; injection hpe with e1 e2; exact ⟨e1,e2⟩
  refine ⟨_,rfl,?_⟩
  refine ⟨_,Od rfl,?_⟩
  refine ⟨_,rfl,?_⟩
  refine ⟨_,Od rfl,?_⟩
  refine ⟨_,op_idx (j := x45.id) (n := l.length) (q := ⟨a,0,none⟩) rfl (congrArg (fun v => vS v l.length) ha) rfl rfl rfl hid.1 (by omega),?_⟩
  refine ⟨_,op_lda rfl rfl rfl rfl rfl hm1 hc1 rfl,?_⟩
  refine ⟨_,rfl,?_⟩
  refine ⟨_,Os rfl,?_⟩
  refine Cm (gg + 2) st' [Ml 2 0,Ml 4 2,Ml 5 3,(7,vI (i : Int)),Ml 8 gg,(9,vL 9 0 (gg + 1)),(38,vB true)] [(2,0,cNV g),(4,2,Zn),(5,3,Nv u11 [(2,vS u27.p u27.x.items.length),(3,vS u27.q u27.x.floors.length),(4,vS u31.p u31.l.length),(5,vI u31.root),(11,vS u22.p u22.t.length),(18,vS u11.rises.p l.length)]),(8,gg,[vI x45.id,vI x45.e.inc,vI x45.e.rank,vI x45.e.beat,vI x45.e.ver,.string x45.e.data]),(9,gg + 1,[vI r.inc,vI r.beat,vI r.tick])] fun _ _ => ?_
  iterate 2 refine ⟨_,rfl,?_⟩
  refine ⟨_,Od rfl,?_⟩
  refine ⟨_,rfl,?_⟩
  refine ⟨_,Od rfl,?_⟩
  refine ⟨_,rfl,?_⟩
  rintro (_|_) h58
  ·replace h58 : ¬ (x45.e.inc > r.inc) := of_decide_eq_false h58
   iterate 2 refine ⟨_,rfl,?_⟩
   refine ⟨_,Od rfl,?_⟩
   refine ⟨_,rfl,?_⟩
   refine ⟨_,Od rfl,?_⟩
   refine ⟨_,rfl,?_⟩
   rintro (_|_) h65
   ·replace h65 : ¬ (x45.e.inc = r.inc) := beq_eq_false_iff_ne.1 h65
    iterate 2 refine ⟨_,rfl,?_⟩
    refine Cm (gg + 2) st' [Ml 2 0,Ml 4 2,Ml 5 3,(7,vI (i : Int)),Ml 8 gg,(9,vL 9 0 (gg + 1)),(38,vB true),(74,vB false)] [(2,0,cNV g),(4,2,Zn),(5,3,Nv u11 [(2,vS u27.p u27.x.items.length),(3,vS u27.q u27.x.floors.length),(4,vS u31.p u31.l.length),(5,vI u31.root),(11,vS u22.p u22.t.length),(18,vS u11.rises.p l.length)]),(8,gg,[vI x45.id,vI x45.e.inc,vI x45.e.rank,vI x45.e.beat,vI x45.e.ver,.string x45.e.data]),(9,gg + 1,[vI r.inc,vI r.beat,vI r.tick])] fun _ _ => ?_
    refine cxs ?_
    have ew40 : IntKind.wrap .i64 ((i : Int) + (1)) = ((i + 1 : Nat) : Int) := (wrap_i64 (by omega) (by omega)).trans (by omega)
    refine ⟨_,rfl,?_⟩
    exact ⟨(i + 1,l),u27.x.items.length - (i + 1),by omega,⟨rfl,rfl,rfl,congrArg (Value.int .i64) ew40,trivial⟩,⟨rfl,rfl,rfl,trivial⟩,rfl,by simp only; omega,by rw [risesF_succ hy45,← hv]; exact (riseF_no hr (fun k => k.elim h58 fun k => h65 k.1)).symm,hF⟩
   ·replace h65 : x45.e.inc = r.inc := beq_iff_eq.1 h65
    iterate 2 refine ⟨_,rfl,?_⟩
    refine ⟨_,Od rfl,?_⟩
    refine ⟨_,rfl,?_⟩
    refine ⟨_,Od rfl,?_⟩
    refine ⟨_,rfl,?_⟩
    rintro (_|_) h72
    ·replace h72 : ¬ (x45.e.beat > r.beat) := of_decide_eq_false h72
     iterate 2 refine ⟨_,rfl,?_⟩
     refine Cm (gg + 2) st' [Ml 2 0,Ml 4 2,Ml 5 3,(7,vI (i : Int)),Ml 8 gg,(9,vL 9 0 (gg + 1)),(38,vB true),(74,vB false)] [(2,0,cNV g),(4,2,Zn),(5,3,Nv u11 [(2,vS u27.p u27.x.items.length),(3,vS u27.q u27.x.floors.length),(4,vS u31.p u31.l.length),(5,vI u31.root),(11,vS u22.p u22.t.length),(18,vS u11.rises.p l.length)]),(8,gg,[vI x45.id,vI x45.e.inc,vI x45.e.rank,vI x45.e.beat,vI x45.e.ver,.string x45.e.data]),(9,gg + 1,[vI r.inc,vI r.beat,vI r.tick])] fun _ _ => ?_
     refine cxs ?_
     have ew40 : IntKind.wrap .i64 ((i : Int) + (1)) = ((i + 1 : Nat) : Int) := (wrap_i64 (by omega) (by omega)).trans (by omega)
     refine ⟨_,rfl,?_⟩
     exact ⟨(i + 1,l),u27.x.items.length - (i + 1),by omega,⟨rfl,rfl,rfl,congrArg (Value.int .i64) ew40,trivial⟩,⟨rfl,rfl,rfl,trivial⟩,rfl,by simp only; omega,by rw [risesF_succ hy45,← hv]; exact (riseF_no hr (fun k => k.elim h58 fun k => h72 k.2)).symm,hF⟩
    ·replace h72 : x45.e.beat > r.beat := of_decide_eq_true h72
     iterate 2 refine ⟨_,rfl,?_⟩
     refine Cm (gg + 2) st' [Ml 2 0,Ml 4 2,Ml 5 3,(7,vI (i : Int)),Ml 8 gg,(9,vL 9 0 (gg + 1)),(38,vB true),(74,vB true)] [(2,0,cNV g),(4,2,Zn),(5,3,Nv u11 [(2,vS u27.p u27.x.items.length),(3,vS u27.q u27.x.floors.length),(4,vS u31.p u31.l.length),(5,vI u31.root),(11,vS u22.p u22.t.length),(18,vS u11.rises.p l.length)]),(8,gg,[vI x45.id,vI x45.e.inc,vI x45.e.rank,vI x45.e.beat,vI x45.e.ver,.string x45.e.data]),(9,gg + 1,[vI r.inc,vI r.beat,vI r.tick])] fun _ _ => ?_
     refine ⟨_,rfl,?_⟩
     refine ⟨_,Od rfl,?_⟩
     refine ⟨_,rfl,?_⟩
     refine ⟨_,Od rfl,?_⟩
     iterate 2 refine ⟨_,rfl,?_⟩
     refine ⟨_,Od rfl,?_⟩
     iterate 2 refine ⟨_,rfl,?_⟩
     refine ⟨_,Od rfl,?_⟩
     refine ⟨_,rfl,?_⟩
     refine ⟨_,Od rfl,?_⟩
     refine ⟨_,rfl,?_⟩
     refine ⟨_,op_idx (j := x45.id) (n := l.length) (q := ⟨a,0,none⟩) rfl (congrArg (fun v => vS v l.length) ha) rfl rfl rfl hid.1 (by omega),?_⟩
     refine op_put (st := st') (f := cRise) (j := x45.id.toNat) (l := l) (y := (⟨x45.e.inc,x45.e.beat,g.clock⟩ : Ris)) (p := u11.rises.p) (d := 0 + x45.id.toNat * 3) rfl rfl (Nat.zero_add _) rfl rfl len_cRise rfl rfl (by omega) hO ha ?_
     intro s94 hO94 hP94 hn94
     refine Cm (gg + 2) s94 [Ml 2 0,Ml 4 2,Ml 5 3,(7,vI (i : Int)),Ml 8 gg,(9,vL 9 0 (gg + 1)),(38,vB true),(74,vB true)] [(2,0,cNV g),(4,2,Zn),(5,3,Nv u11 [(2,vS u27.p u27.x.items.length),(3,vS u27.q u27.x.floors.length),(4,vS u31.p u31.l.length),(5,vI u31.root),(11,vS u22.p u22.t.length),(18,vS u11.rises.p l.length)]),(8,gg,[vI x45.id,vI x45.e.inc,vI x45.e.rank,vI x45.e.beat,vI x45.e.ver,.string x45.e.data]),(9,gg + 1,[vI r.inc,vI r.beat,vI r.tick])] fun _ _ => ?_
     have ew40 : IntKind.wrap .i64 ((i : Int) + (1)) = ((i + 1 : Nat) : Int) := (wrap_i64 (by omega) (by omega)).trans (by omega)
     refine ⟨_,rfl,?_⟩
     exact ⟨(i + 1,l.set x45.id.toNat ⟨x45.e.inc,x45.e.beat,g.clock⟩),u27.x.items.length - (i + 1),by omega,⟨rfl,rfl,rfl,congrArg (Value.int .i64) ew40,trivial⟩,⟨rfl,rfl,(show some (3,[vI u11.id,vI u11.n,vS u27.p u27.x.items.length,vS u27.q u27.x.floors.length,vS u31.p u31.l.length,vI u31.root,vI u11.g.cap,vI u11.g.frm,vS u11.g.p u11.g.l.length,vS u11.got.p u11.got.l.length,vS u11.acked.p u11.acked.l.length,vS u22.p u22.t.length,vI u11.num,vI u11.slots,vS u11.sess.p u11.sess.l.length,vI u11.wait,vI u11.limit,vI u11.clock,vS u11.rises.p l.length]) = _ by rw [List.length_set]),trivial⟩,rfl,by simp only; omega,by rw [risesF_succ hy45,← hv]; exact (riseF_yes hr (.inr ⟨h65,h72⟩)).symm,hF.ris hP94 hO94⟩
  ·replace h58 : x45.e.inc > r.inc := of_decide_eq_true h58
   refine ⟨_,rfl,?_⟩
   refine Cm (gg + 2) st' [Ml 2 0,Ml 4 2,Ml 5 3,(7,vI (i : Int)),Ml 8 gg,(9,vL 9 0 (gg + 1)),(38,vB true),(74,vB true)] [(2,0,cNV g),(4,2,Zn),(5,3,Nv u11 [(2,vS u27.p u27.x.items.length),(3,vS u27.q u27.x.floors.length),(4,vS u31.p u31.l.length),(5,vI u31.root),(11,vS u22.p u22.t.length),(18,vS u11.rises.p l.length)]),(8,gg,[vI x45.id,vI x45.e.inc,vI x45.e.rank,vI x45.e.beat,vI x45.e.ver,.string x45.e.data]),(9,gg + 1,[vI r.inc,vI r.beat,vI r.tick])] fun _ _ => ?_
   refine ⟨_,rfl,?_⟩
   refine ⟨_,Od rfl,?_⟩
   refine ⟨_,rfl,?_⟩
   refine ⟨_,Od rfl,?_⟩
   iterate 2 refine ⟨_,rfl,?_⟩
   refine ⟨_,Od rfl,?_⟩
   iterate 2 refine ⟨_,rfl,?_⟩
   refine ⟨_,Od rfl,?_⟩
   refine ⟨_,rfl,?_⟩
   refine ⟨_,Od rfl,?_⟩
   refine ⟨_,rfl,?_⟩
   refine ⟨_,op_idx (j := x45.id) (n := l.length) (q := ⟨a,0,none⟩) rfl (congrArg (fun v => vS v l.length) ha) rfl rfl rfl hid.1 (by omega),?_⟩
   refine op_put (st := st') (f := cRise) (j := x45.id.toNat) (l := l) (y := (⟨x45.e.inc,x45.e.beat,g.clock⟩ : Ris)) (p := u11.rises.p) (d := 0 + x45.id.toNat * 3) rfl rfl (Nat.zero_add _) rfl rfl len_cRise rfl rfl (by omega) hO ha ?_
   intro s94 hO94 hP94 hn94
   refine Cm (gg + 2) s94 [Ml 2 0,Ml 4 2,Ml 5 3,(7,vI (i : Int)),Ml 8 gg,(9,vL 9 0 (gg + 1)),(38,vB true),(74,vB true)] [(2,0,cNV g),(4,2,Zn),(5,3,Nv u11 [(2,vS u27.p u27.x.items.length),(3,vS u27.q u27.x.floors.length),(4,vS u31.p u31.l.length),(5,vI u31.root),(11,vS u22.p u22.t.length),(18,vS u11.rises.p l.length)]),(8,gg,[vI x45.id,vI x45.e.inc,vI x45.e.rank,vI x45.e.beat,vI x45.e.ver,.string x45.e.data]),(9,gg + 1,[vI r.inc,vI r.beat,vI r.tick])] fun _ _ => ?_
   have ew40 : IntKind.wrap .i64 ((i : Int) + (1)) = ((i + 1 : Nat) : Int) := (wrap_i64 (by omega) (by omega)).trans (by omega)
   refine ⟨_,rfl,?_⟩
   exact ⟨(i + 1,l.set x45.id.toNat ⟨x45.e.inc,x45.e.beat,g.clock⟩),u27.x.items.length - (i + 1),by omega,⟨rfl,rfl,rfl,congrArg (Value.int .i64) ew40,trivial⟩,⟨rfl,rfl,(show some (3,[vI u11.id,vI u11.n,vS u27.p u27.x.items.length,vS u27.q u27.x.floors.length,vS u31.p u31.l.length,vI u31.root,vI u11.g.cap,vI u11.g.frm,vS u11.g.p u11.g.l.length,vS u11.got.p u11.got.l.length,vS u11.acked.p u11.acked.l.length,vS u22.p u22.t.length,vI u11.num,vI u11.slots,vS u11.sess.p u11.sess.l.length,vI u11.wait,vI u11.limit,vI u11.clock,vS u11.rises.p l.length]) = _ by rw [List.length_set]),trivial⟩,rfl,by simp only; omega,by rw [risesF_succ hy45,← hv]; exact (riseF_yes hr (.inl h58)).symm,hF.ris hP94 hO94⟩
def oneS (id : Int) (e : Ent) : Sta := ⟨[⟨id,e⟩],[]⟩
def idOk (id : Int) : Prop := 0 ≤ id ∧ id ≤ 4
theorem one_ok {id : Int} {e : Ent} (h : idOk id) (he : entOk e) : stateOk (oneS id e) :=
 ⟨fun j x hx => by
  cases j with
  | zero => injection hx with hx; rw [← hx]; exact ⟨h,he,Int.lt_of_lt_of_le (show (0 : Int) < 1 by decide) he.1.1,fun y hy => by omega⟩
  | succ j => simp [oneS] at hx,fun j x hx => (nomatch hx)⟩
open Classical in
noncomputable def upF (s : Sta) (id : Int) : Ent × Int := if stateOk s ∧ idOk id then (if (lookF s id).2 = true then ((lookF s id).1,0) else (zEnt,3)) else (zEnt,1)
theorem up_bad {s : Sta} {id : Int} (h : ¬ (stateOk s ∧ idOk id)) : (zEnt,1) = upF s id := (if_neg h).symm
theorem up_no {s : Sta} {id : Int} {e : Ent} (h : stateOk s ∧ idOk id) (he : (e,false) = lookF s id) : (zEnt,3) = upF s id := by
 unfold upF
 rw [if_pos h,← he,if_neg Bool.false_ne_true]
theorem up_yes {s : Sta} {id : Int} {e : Ent} (h : stateOk s ∧ idOk id) (he : (e,true) = lookF s id) : (e,0) = upF s id := by
 unfold upF
 rw [if_pos h,← he,if_pos rfl]
theorem up_cases {s : Sta} {id : Int} {e : Ent} {c : Int} (h : (e,c) = upF s id) : (c = 1 ∧ e = zEnt ∧ ¬ (stateOk s ∧ idOk id)) ∨ ((stateOk s ∧ idOk id) ∧ ((c = 3 ∧ e = zEnt ∧ ∃ x,(x,false) = lookF s id) ∨ (c = 0 ∧ (e,true) = lookF s id))) := by
 unfold upF at h
 split at h
 ·rename_i hk
  split at h
  ·rename_i hl
   injection h with h1 h2
   exact .inr ⟨hk,.inr ⟨h2,by rw [h1,← hl]⟩⟩
  ·rename_i hl
   injection h with h1 h2
   exact .inr ⟨hk,.inl ⟨h2,h1,(lookF s id).1,by rw [← (Bool.not_eq_true _).mp hl]⟩⟩
 ·rename_i hk
  injection h with h1 h2
  exact .inl ⟨h2,h1,hk⟩
theorem look_ent {s : Sta} {id : Int} {e : Ent} (h : stateOk s) (he : (e,true) = lookF s id) : entOk e := by
 obtain ⟨j,x,hx,h1,h2⟩ := entP_mem he
 have hm := List.mem_of_getElem? hx
 unfold viewF at hm
 rw [if_pos h] at hm
 rw [← h1]
 exact items_ent h x ((List.mem_filter.1 hm).1)
theorem up_ent {s : Sta} {id : Int} {e : Ent} (h : (e,0) = upF s id) : entOk e ∧ idOk id := by
 rcases up_cases h with h | ⟨hk,h | h⟩
 ·cases h.1
 ·cases h.1
 ·exact ⟨look_ent hk.1 h.2,hk.2⟩
def sGone (e : Ent) : Ent := { e with rank := 1 }
def sBeat (e : Ent) : Ent := { e with beat := e.beat + 1 }
def sSet (e : Ent) (d : ByteArray) : Ent := { e with ver := e.ver + 1,data := d }
def sJoin (i : Int) : Ent := ⟨i + 1,0,0,0,⟨#[]⟩⟩
noncomputable def incF (s : Sta) (id : Int) : Int := if (entP s.items id).2 = true then (entP s.items id).1.inc else floorOf s.floors id
noncomputable def joinS (s : Sta) (id : Int) : Sta × Int := if (upF s id).2 = 1 then (nilS,1) else if (upF s id).2 = 0 then (nilS,2) else if incF s id = 1000 then (nilS,4) else (oneS id (sJoin (incF s id)),0)
noncomputable def beatS (s : Sta) (id : Int) : Sta × Int := if ¬ (upF s id).2 = 0 then (nilS,(upF s id).2) else if (upF s id).1.beat = 100000 then (nilS,4) else (oneS id (sBeat (upF s id).1),0)
noncomputable def setS (s : Sta) (id : Int) (d : ByteArray) : Sta × Int := if ¬ (upF s id).2 = 0 then (nilS,(upF s id).2) else if (upF s id).1.ver = 1000 ∨ d.size > 8 then (nilS,4) else (oneS id (sSet (upF s id).1 d),0)
noncomputable def goneS (s : Sta) (id : Int) : Sta × Int := if ¬ (upF s id).2 = 0 then (nilS,(upF s id).2) else (oneS id (sGone (upF s id).1),0)
noncomputable def sayS (s : Sta) (kind id : Int) (d : ByteArray) : Sta × Int := if kind = 0 then joinS s id else if kind = 1 then beatS s id else if kind = 2 then setS s id d else goneS s id
theorem inc_in {s : Sta} {id : Int} {e : Ent} (h : (e,true) = entP s.items id) : incF s id = e.inc := by unfold incF; rw [← h,if_pos rfl]
theorem inc_out {s : Sta} {id : Int} {e : Ent} (h : (e,false) = entP s.items id) : incF s id = floorOf s.floors id := by unfold incF; rw [← h,if_neg Bool.false_ne_true]
theorem inc_max {s : Sta} {id : Int} {e : Ent} {b : Bool} (hk : stateOk s) (h : (e,b) = entP s.items id) : max e.inc (floorOf s.floors id) = incF s id := by
 have hp := floorOf_pos hk.2 id
 cases b with
 | false => rw [inc_out h,entP_none h]; show max (0 : Int) _ = _; omega
 | true =>
  rw [inc_in h]
  obtain ⟨j,x,hx,h1,h2⟩ := entP_mem h
  have := (hk.1 j x hx).2.2.1
  rw [h1,h2] at this
  omega
theorem inc_rng {s : Sta} {id : Int} (hk : stateOk s) : 0 ≤ incF s id ∧ incF s id ≤ 1000 := by
 have hp := floorOf_pos hk.2 id
 unfold incF
 split
 ·rename_i hb
  have := ent_ok hk (id := id) (e := (entP s.items id).1) (by rw [← hb])
  have := this.1
  omega
 ·exact hp
theorem join_ent {i : Int} (h : 0 ≤ i ∧ i ≤ 1000) (hn : ¬ i = 1000) : entOk (sJoin i) := ⟨by show 1 ≤ i + 1 ∧ i + 1 ≤ 1000; omega,show (0 : Int) ≤ 0 ∧ (0 : Int) ≤ 1 by decide,show (0 : Int) ≤ 0 ∧ (0 : Int) ≤ 100000 by decide,show (0 : Int) ≤ 0 ∧ (0 : Int) ≤ 1000 by decide,show 0 ≤ 8 by decide⟩
theorem beat_ent {e : Ent} (h : entOk e) (hn : ¬ e.beat = 100000) : entOk (sBeat e) := ⟨h.1,h.2.1,by have := h.2.2.1; show 0 ≤ e.beat + 1 ∧ e.beat + 1 ≤ 100000; omega,h.2.2.2.1,h.2.2.2.2⟩
theorem set_ent {e : Ent} {d : ByteArray} (h : entOk e) (hn : ¬ (e.ver = 1000 ∨ d.size > 8)) : entOk (sSet e d) := ⟨h.1,h.2.1,h.2.2.1,by have := h.2.2.2.1; have : ¬ e.ver = 1000 := fun k => hn (.inl k); show 0 ≤ e.ver + 1 ∧ e.ver + 1 ≤ 1000; omega,Nat.not_lt.1 fun k => hn (.inr k)⟩
theorem gone_ent {e : Ent} (h : entOk e) : entOk (sGone e) := ⟨h.1,show (0 : Int) ≤ 1 ∧ (1 : Int) ≤ 1 by decide,h.2.2.1,h.2.2.2.1,h.2.2.2.2⟩
theorem say_ok {s d : Sta} {kind id : Int} {data : ByteArray} (h : (d,0) = sayS s kind id data) : stateOk d := by
 unfold sayS at h
 split at h
 ·unfold joinS at h
  split at h
  ·injection h with _ h; cases h
  ·split at h
   ·injection h with _ h; cases h
   ·split at h
    ·injection h with _ h; cases h
    ·rename_i h1 h2 h3
     injection h with h _
     rcases up_cases (s := s) (id := id) (e := (upF s id).1) (c := (upF s id).2) rfl with k | ⟨hk,_⟩
     ·exact absurd k.1 h1
     ·rw [h]; exact one_ok hk.2 (join_ent (inc_rng hk.1) h3)
 ·split at h
  ·unfold beatS at h
   split at h
   ·rename_i h1; injection h with _ h; exact absurd h.symm h1
   ·split at h
    ·injection h with _ h; cases h
    ·rename_i h1 h2
     injection h with h _
     have hu := up_ent (s := s) (id := id) (e := (upF s id).1) (by rw [← Classical.not_not.1 h1])
     rw [h]; exact one_ok hu.2 (beat_ent hu.1 h2)
  ·split at h
   ·unfold setS at h
    split at h
    ·rename_i h1; injection h with _ h; exact absurd h.symm h1
    ·split at h
     ·injection h with _ h; cases h
     ·rename_i h1 h2
      injection h with h _
      have hu := up_ent (s := s) (id := id) (e := (upF s id).1) (by rw [← Classical.not_not.1 h1])
      rw [h]; exact one_ok hu.2 (set_ent hu.1 h2)
   ·unfold goneS at h
    split at h
    ·rename_i h1; injection h with _ h; exact absurd h.symm h1
    ·rename_i h1
     injection h with h _
     have hu := up_ent (s := s) (id := id) (e := (upF s id).1) (by rw [← Classical.not_not.1 h1])
     rw [h]; exact one_ok hu.2 (gone_ent hu.1)
theorem ac_spec_l5Up (s : SV) (id : Int) (st : St) (hR : RdS st s) (hb : bigS s.x) : C 220 [.agg #[vS s.p s.x.items.length,vS s.q s.x.floors.length],vI id] st (fun v s' => ∃ e c,v = .tuple #[.agg #[vI e.inc,vI e.rank,vI e.beat,vI e.ver,.string e.data],vI c] ∧ (e,c) = upF s.x id ∧ Pres st s') := by
 refine AC.enterX (i := ⟨[2,4,6],[2,4,6],[0,1,2,4,5,6,7,15,24],[]⟩) [] Tryz.func220 rfl rfl (by kernel_rfl) (by kernel_rfl) Tryz.ntmps220 (Lb rfl) rfl ?_
 iterate 2 refine ⟨_,rfl,?_⟩
 refine Cm 2 st [(1,vI id),Ml 2 0,Ml 4 1,(5,vI 0)] [(2,0,cSV s),(4,1,[vI 0,vI 0,vI 0,vI 0,.string ⟨#[]⟩])] fun _ _ => ?_
 refine ⟨_,Od rfl,?_⟩
 refine ⟨_,rfl,(ac_spec_StateOk s st hR (by first | assumption | omega)).mono ?_⟩
 rintro _ st ⟨x9,rfl,h9,rfl⟩
 rcases x9 with _|_
 ·replace h9 := fun k => Bool.false_ne_true (h9.2 k)
  iterate 2 refine ⟨_,rfl,?_⟩
  refine Cm 2 st [(1,vI id),Ml 2 0,Ml 4 1,(5,vI 0),(15,vB true)] [(2,0,cSV s),(4,1,[vI 0,vI 0,vI 0,vI 0,.string ⟨#[]⟩])] fun _ _ => ?_
  refine ⟨_,rfl,?_⟩
  refine ⟨_,Os rfl,?_⟩
  exact cxs (Rt ⟨zEnt,1,rfl,up_bad (fun k => h9 k.1),Pres.refl _⟩)
 ·replace h9 := h9.1 rfl
  refine ⟨_,rfl,?_⟩
  refine ⟨_,rfl,(ac_spec_l3Node id st).mono ?_⟩
  rintro _ st ⟨x13,rfl,h13,rfl⟩
  rcases x13 with _|_
  ·replace h13 := of_decide_eq_false h13.symm
   iterate 2 refine ⟨_,rfl,?_⟩
   refine Cm 2 st [(1,vI id),Ml 2 0,Ml 4 1,(5,vI 0),(15,vB true)] [(2,0,cSV s),(4,1,[vI 0,vI 0,vI 0,vI 0,.string ⟨#[]⟩])] fun _ _ => ?_
   refine ⟨_,rfl,?_⟩
   refine ⟨_,Os rfl,?_⟩
   exact cxs (Rt ⟨zEnt,1,rfl,up_bad (fun k => h13 k.2),Pres.refl _⟩)
  ·replace h13 := of_decide_eq_true h13.symm
   iterate 2 refine ⟨_,rfl,?_⟩
   refine Cm 2 st [(1,vI id),Ml 2 0,Ml 4 1,(5,vI 0),(15,vB false)] [(2,0,cSV s),(4,1,[vI 0,vI 0,vI 0,vI 0,.string ⟨#[]⟩])] fun _ _ => ?_
   refine cxs ?_
   refine ⟨_,Od rfl,?_⟩
   refine ⟨_,rfl,(ac_spec_Lookup s id st hR (by first | assumption | omega)).mono ?_⟩
   rintro _ s20 ⟨e20,b20,rfl,h20,hP20⟩
   rcases b20 with _|_
   ·iterate 3 refine ⟨_,rfl,?_⟩
    refine ⟨_,Os rfl,?_⟩
    refine Cm 3 s20 [Ml 4 1,(5,vI 0),Ml 6 2,(7,vB false)] [(4,1,[vI 0,vI 0,vI 0,vI 0,.string ⟨#[]⟩]),(6,2,[vI e20.inc,vI e20.rank,vI e20.beat,vI e20.ver,.string e20.data])] fun _ _ => ?_
    refine ⟨_,rfl,?_⟩
    refine Cm 3 s20 [Ml 4 1,(5,vI 0),Ml 6 2,(24,vB true)] [(4,1,[vI 0,vI 0,vI 0,vI 0,.string ⟨#[]⟩]),(6,2,[vI e20.inc,vI e20.rank,vI e20.beat,vI e20.ver,.string e20.data])] fun _ _ => ?_
    refine ⟨_,rfl,?_⟩
    refine ⟨_,Os rfl,?_⟩
    exact cxs (Rt ⟨zEnt,3,rfl,up_no ⟨h9,h13⟩ h20,hP20⟩)
   ·iterate 3 refine ⟨_,rfl,?_⟩
    refine ⟨_,Os rfl,?_⟩
    refine Cm 3 s20 [Ml 4 1,(5,vI 0),Ml 6 2,(7,vB true)] [(4,1,[vI 0,vI 0,vI 0,vI 0,.string ⟨#[]⟩]),(6,2,[vI e20.inc,vI e20.rank,vI e20.beat,vI e20.ver,.string e20.data])] fun _ _ => ?_
    refine ⟨_,rfl,?_⟩
    refine Cm 3 s20 [Ml 4 1,(5,vI 0),Ml 6 2,(24,vB false)] [(4,1,[vI 0,vI 0,vI 0,vI 0,.string ⟨#[]⟩]),(6,2,[vI e20.inc,vI e20.rank,vI e20.beat,vI e20.ver,.string e20.data])] fun _ _ => ?_
    refine cxs ?_
    refine ⟨_,Od rfl,?_⟩
    refine ⟨_,Os rfl,?_⟩
    exact cxs (Rt ⟨e20,0,rfl,up_yes ⟨h9,h13⟩ h20,hP20⟩)
theorem ac_spec_l5One (id : Int) (e : Ent) (st : St) (hk : stateOk (oneS id e)) : C 219 [vI id,.agg #[vI e.inc,vI e.rank,vI e.beat,vI e.ver,.string e.data]] st (fun v s => ∃ u : SV,v = .tuple #[.agg #[vS u.p u.x.items.length,vS u.q u.x.floors.length],vI 0] ∧ u.x = oneS id e ∧ OwnP s (pcS u) ∧ NewP st.next (pcS u) ∧ Pres st s) := by
 have hz : e.data.size ≤ 1048576 := Nat.le_trans (hk.1 0 ⟨id,e⟩ rfl).2.1.2.2.2.2 (by decide)
 refine AC.enterX (i := ⟨[3,4,6],[3,4,6],[0,1,3,4,5,6],[]⟩) [] Tryz.func219 rfl rfl (by kernel_rfl) (by kernel_rfl) Tryz.ntmps219 (Lb rfl) rfl ?_
 iterate 2 refine ⟨_,rfl,?_⟩
 refine Cm 2 st [(0,vI id),Ml 3 0,Ml 4 1,(5,vI 0)] [(3,0,[vI e.inc,vI e.rank,vI e.beat,vI e.ver,.string e.data]),(4,1,[Sn,Sn])] fun _ _ => ?_
 refine ⟨_,Od rfl,?_⟩
 refine ⟨_,rfl,(ac_spec_Single id e st (by first | assumption | omega)).mono ?_⟩
 rintro _ s11 ⟨u11,b11,rfl,h11,hO11,hN11,hP11⟩
 iterate 3 refine ⟨_,rfl,?_⟩
 refine ⟨_,Os rfl,?_⟩
 refine Cm 3 s11 [Ml 4 1,(5,vI 0),Ml 6 2] [(4,1,[Sn,Sn]),(6,2,cSV u11)] fun _ _ => ?_
 refine ⟨_,Od rfl,?_⟩
 refine ⟨_,Os rfl,?_⟩
 exact cxs (Rt ⟨u11,rfl,by have := h11; unfold singF at this; rw [if_pos (show stateOk ⟨[⟨id,e⟩],[]⟩ from hk)] at this; injection this,hO11,hN11,hP11⟩)
theorem joinS_bad {s : Sta} {id c : Int} {e : Ent} (h : (e,c) = upF s id) (hc : c = 1) : (nilS,1) = joinS s id := by
 unfold joinS; rw [← h,if_pos hc]
theorem joinS_there {s : Sta} {id c : Int} {e : Ent} (h : (e,c) = upF s id) (hc : c = 0) : (nilS,2) = joinS s id := by
 unfold joinS; rw [← h,if_neg (by show ¬ c = 1; omega),if_pos hc]
theorem joinS_most {s : Sta} {id c i : Int} {e : Ent} (h : (e,c) = upF s id) (h1 : ¬ c = 1) (h0 : ¬ c = 0) (hi : i = incF s id) (hm : i = 1000) : (nilS,4) = joinS s id := by
 unfold joinS; rw [← h,if_neg h1,if_neg h0,if_pos (by omega)]
theorem joinS_yes {s u : Sta} {id c i : Int} {e : Ent} (h : (e,c) = upF s id) (h1 : ¬ c = 1) (h0 : ¬ c = 0) (hi : i = incF s id) (hm : ¬ i = 1000) (hu : u = oneS id (sJoin i)) : (u,0) = joinS s id := by
 unfold joinS; rw [← h,if_neg h1,if_neg h0,if_neg (by omega),hu,hi]
theorem beatS_no {s : Sta} {id c : Int} {e : Ent} (h : (e,c) = upF s id) (hc : ¬ c = 0) : (nilS,c) = beatS s id := by
 unfold beatS; rw [← h,if_pos hc]
theorem beatS_most {s : Sta} {id c : Int} {e : Ent} (h : (e,c) = upF s id) (hc : c = 0) (hm : e.beat = 100000) : (nilS,4) = beatS s id := by
 unfold beatS; rw [← h,if_neg (fun k => k hc),if_pos hm]
theorem beatS_yes {s u : Sta} {id c : Int} {e : Ent} (h : (e,c) = upF s id) (hc : c = 0) (hm : ¬ e.beat = 100000) (hu : u = oneS id (sBeat e)) : (u,0) = beatS s id := by
 unfold beatS; rw [← h,if_neg (fun k => k hc),if_neg hm,hu]
theorem setS_no {s : Sta} {id c : Int} {e : Ent} {d : ByteArray} (h : (e,c) = upF s id) (hc : ¬ c = 0) : (nilS,c) = setS s id d := by
 unfold setS; rw [← h,if_pos hc]
theorem setS_most {s : Sta} {id c : Int} {e : Ent} {d : ByteArray} (h : (e,c) = upF s id) (hc : c = 0) (hm : e.ver = 1000 ∨ d.size > 8) : (nilS,4) = setS s id d := by
 unfold setS; rw [← h,if_neg (fun k => k hc),if_pos hm]
theorem setS_yes {s u : Sta} {id c : Int} {e : Ent} {d : ByteArray} (h : (e,c) = upF s id) (hc : c = 0) (hm : ¬ (e.ver = 1000 ∨ d.size > 8)) (hu : u = oneS id (sSet e d)) : (u,0) = setS s id d := by
 unfold setS; rw [← h,if_neg (fun k => k hc),if_neg hm,hu]
theorem goneS_no {s : Sta} {id c : Int} {e : Ent} (h : (e,c) = upF s id) (hc : ¬ c = 0) : (nilS,c) = goneS s id := by
 unfold goneS; rw [← h,if_pos hc]
theorem goneS_yes {s u : Sta} {id c : Int} {e : Ent} (h : (e,c) = upF s id) (hc : c = 0) (hu : u = oneS id (sGone e)) : (u,0) = goneS s id := by
 unfold goneS; rw [← h,if_neg (fun k => k hc),hu]
theorem ac_spec_SayJoin (s : SV) (id : Int) (st : St) (hR : RdS st s) (hb : bigS s.x) : C 173 [.agg #[vS s.p s.x.items.length,vS s.q s.x.floors.length],vI id] st (fun v s' => ∃ (u : SV) (c : Int),v = .tuple #[.agg #[vS u.p u.x.items.length,vS u.q u.x.floors.length],vI c] ∧ (u.x,c) = joinS s.x id ∧ OwnP s' (pcS u) ∧ NewP st.next (pcS u) ∧ Pres st s') := by
 refine AC.enterX (i := ⟨[2,4,6,8],[2,4,6,8,34],[0,1,2,4,5,7,8,10,18,26,41],[]⟩) [(7,[4],[1])] Tryz.func173 rfl rfl (by kernel_rfl) (by kernel_rfl) Tryz.ntmps173 (Lb rfl) rfl ?_
 iterate 2 refine ⟨_,rfl,?_⟩
 refine Cm 2 st [(1,vI id),Ml 2 0,Ml 4 1,(5,vI 0)] [(2,0,cSV s),(4,1,[Sn,Sn])] fun _ _ => ?_
 refine ⟨_,Od rfl,?_⟩
 refine ⟨_,rfl,(ac_spec_StateOk s st hR (by first | assumption | omega)).mono ?_⟩
 rintro _ st ⟨x12,rfl,h12,rfl⟩
 rcases x12 with _|_
 ·replace h12 := fun k => Bool.false_ne_true (h12.2 k)
  iterate 2 refine ⟨_,rfl,?_⟩
  refine Cm 2 st [(1,vI id),Ml 2 0,Ml 4 1,(5,vI 0),(18,vB true)] [(2,0,cSV s),(4,1,[Sn,Sn])] fun _ _ => ?_
  refine ⟨_,rfl,?_⟩
  refine ⟨_,Os rfl,?_⟩
  exact cxs (Rt ⟨⟨none,none,nilS⟩,1,rfl,joinS_bad (up_bad fun k => h12 k.1) rfl,pcS_nil,newS_nil,Pres.refl _⟩)
 ·replace h12 := h12.1 rfl
  refine ⟨_,rfl,?_⟩
  refine ⟨_,rfl,(ac_spec_l3Node id st).mono ?_⟩
  rintro _ st ⟨x16,rfl,h16,rfl⟩
  rcases x16 with _|_
  ·replace h16 := of_decide_eq_false h16.symm
   iterate 2 refine ⟨_,rfl,?_⟩
   refine Cm 2 st [(1,vI id),Ml 2 0,Ml 4 1,(5,vI 0),(18,vB true)] [(2,0,cSV s),(4,1,[Sn,Sn])] fun _ _ => ?_
   refine ⟨_,rfl,?_⟩
   refine ⟨_,Os rfl,?_⟩
   exact cxs (Rt ⟨⟨none,none,nilS⟩,1,rfl,joinS_bad (up_bad fun k => h16 k.2) rfl,pcS_nil,newS_nil,Pres.refl _⟩)
  ·replace h16 := of_decide_eq_true h16.symm
   iterate 2 refine ⟨_,rfl,?_⟩
   refine Cm 2 st [(1,vI id),Ml 2 0,Ml 4 1,(5,vI 0),(18,vB false)] [(2,0,cSV s),(4,1,[Sn,Sn])] fun _ _ => ?_
   refine cxs ?_
   refine ⟨_,Od rfl,?_⟩
   refine ⟨_,rfl,(ac_spec_Lookup s id st hR (by first | assumption | omega)).mono ?_⟩
   rintro _ s23 ⟨e23,b23,rfl,h23,hP23⟩
   rcases b23 with _|_
   ·iterate 3 refine ⟨_,rfl,?_⟩
    refine ⟨_,Os rfl,?_⟩
    refine cxs ?_
    refine Cm 3 s23 [(1,vI id),Ml 2 0,Ml 4 1,(5,vI 0),(26,vB false)] [(2,0,cSV s),(4,1,[Sn,Sn])] fun _ _ => ?_
    refine cxs ?_
    refine ⟨_,Od rfl,?_⟩
    refine ⟨_,rfl,(ac_spec_EntryOf s id s23 (hR.pres hP23) (by first | assumption | omega)).mono ?_⟩
    rintro _ s23 ⟨e31,b31,rfl,h31,rfl⟩
    iterate 3 refine ⟨_,rfl,?_⟩
    refine ⟨_,Os rfl,?_⟩
    refine Cm 4 s23 [(1,vI id),Ml 2 0,Ml 4 1,(5,vI 0),Ml 8 3] [(2,0,cSV s),(4,1,[Sn,Sn]),(8,3,[vI e31.inc,vI e31.rank,vI e31.beat,vI e31.ver,.string e31.data])] fun _ _ => ?_
    have hu := up_no ⟨h12,h16⟩ h23
    refine ⟨_,rfl,?_⟩
    refine ⟨_,Od rfl,?_⟩
    refine ⟨ld_own rfl rfl rfl,?_⟩
    refine ⟨_,Od rfl,?_⟩
    refine ⟨_,rfl,(ac_spec_FloorOf s id s23 (hR.pres hP23) (by first | assumption | omega)).mono ?_⟩
    rintro _ s23 ⟨rfl,rfl⟩
    refine ⟨fun _ _ => rfl,?_⟩
    refine ⟨_,rfl,(ac_spec_l1Max e31.inc (floorOf s.x.floors id) s23).mono ?_⟩
    rintro _ s23 ⟨rfl,rfl⟩
    refine Cm 4 s23 [(1,vI id),Ml 4 1,(5,vI 0),(10,vI (max e31.inc (floorOf s.x.floors id)))] [(4,1,[Sn,Sn])] fun _ _ => ?_
    refine ⟨_,rfl,?_⟩
    rintro (_|_) h41
    ·replace h41 : ¬ ((max e31.inc (floorOf s.x.floors id)) = (1000)) := beq_eq_false_iff_ne.1 h41
     refine Cm 4 s23 [(1,vI id),Ml 4 1,(5,vI 0),(10,vI (max e31.inc (floorOf s.x.floors id))),(41,vB false)] [(4,1,[Sn,Sn])] fun _ _ => ?_
     refine cxs ?_
     have hi := inc_rng (id := id) h12
     have hm := inc_max h12 h31
     rw [hm] at h41
     have e45 : IntKind.wrap .i64 ((max e31.inc (floorOf s.x.floors id)) + 1) = (max e31.inc (floorOf s.x.floors id)) + 1 := wrap_i64 (by omega) (by omega)
     iterate 2 refine ⟨_,rfl,?_⟩
     refine ⟨_,rfl,(ac_spec_l5One id (⟨IntKind.wrap .i64 (max e31.inc (floorOf s.x.floors id) + 1),0,0,0,⟨#[]⟩⟩ : Ent) s23 (by rw [e45,hm]; exact one_ok h16 (join_ent hi h41))).mono ?_⟩
     rintro _ s47 ⟨u47,rfl,h47,hO47,hN47,hP47⟩
     iterate 2 refine ⟨_,rfl,?_⟩
     refine ⟨_,Os rfl,?_⟩
     exact cxs (Rt ⟨u47,0,rfl,joinS_yes hu (by decide) (by decide) rfl h41 (h47.trans (by rw [e45,hm]; rfl)),hO47,hN47.le hP23.1,hP23.trans hP47⟩)
    ·replace h41 : (max e31.inc (floorOf s.x.floors id)) = (1000) := beq_iff_eq.1 h41
     refine Cm 4 s23 [(1,vI id),Ml 4 1,(5,vI 0),(10,vI (max e31.inc (floorOf s.x.floors id))),(41,vB true)] [(4,1,[Sn,Sn])] fun _ _ => ?_
     refine ⟨_,rfl,?_⟩
     refine ⟨_,Os rfl,?_⟩
     exact cxs (Rt ⟨⟨none,none,nilS⟩,4,rfl,joinS_most hu (by decide) (by decide) (inc_max h12 h31) h41,pcS_nil,newS_nil,hP23⟩)
   ·iterate 3 refine ⟨_,rfl,?_⟩
    refine ⟨_,Os rfl,?_⟩
    refine cxs ?_
    refine Cm 3 s23 [(1,vI id),Ml 2 0,Ml 4 1,(5,vI 0),(26,vB true)] [(2,0,cSV s),(4,1,[Sn,Sn])] fun _ _ => ?_
    refine ⟨_,rfl,?_⟩
    refine ⟨_,Os rfl,?_⟩
    exact cxs (Rt ⟨⟨none,none,nilS⟩,2,rfl,joinS_there (up_yes ⟨h12,h16⟩ h23) rfl,pcS_nil,newS_nil,hP23⟩)
theorem ac_spec_SayBeat (s : SV) (id : Int) (st : St) (hR : RdS st s) (hb : bigS s.x) : C 174 [.agg #[vS s.p s.x.items.length,vS s.q s.x.floors.length],vI id] st (fun v s' => ∃ (u : SV) (c : Int),v = .tuple #[.agg #[vS u.p u.x.items.length,vS u.q u.x.floors.length],vI c] ∧ (u.x,c) = beatS s.x id ∧ OwnP s' (pcS u) ∧ NewP st.next (pcS u) ∧ Pres st s') := by
 refine AC.enterX (i := ⟨[2,4,6],[2,4,6,18,22,25],[0,1,2,4,5,6,7,15,20],[]⟩) [] Tryz.func174 rfl rfl (by kernel_rfl) (by kernel_rfl) Tryz.ntmps174 (Lb rfl) rfl ?_
 iterate 2 refine ⟨_,rfl,?_⟩
 refine Cm 2 st [(1,vI id),Ml 2 0,Ml 4 1,(5,vI 0)] [(2,0,cSV s),(4,1,[Sn,Sn])] fun _ _ => ?_
 refine ⟨_,Od rfl,?_⟩
 refine ⟨_,rfl,(ac_spec_l5Up s id st hR (by first | assumption | omega)).mono ?_⟩
 rintro _ s11 ⟨e11,c11,rfl,h11,hP11⟩
 iterate 3 refine ⟨_,rfl,?_⟩
 refine ⟨_,Os rfl,?_⟩
 refine Cm 3 s11 [(1,vI id),Ml 4 1,(5,vI 0),Ml 6 2,(7,vI c11)] [(4,1,[Sn,Sn]),(6,2,[vI e11.inc,vI e11.rank,vI e11.beat,vI e11.ver,.string e11.data])] fun _ _ => ?_
 refine ⟨_,rfl,?_⟩
 rintro (_|_) h15
 ·replace h15 : c11 = (0) := bne_eq_false_iff_eq.1 h15
  refine Cm 3 s11 [(1,vI id),Ml 4 1,(5,vI 0),Ml 6 2,(7,vI c11),(15,vB false)] [(4,1,[Sn,Sn]),(6,2,[vI e11.inc,vI e11.rank,vI e11.beat,vI e11.ver,.string e11.data])] fun _ _ => ?_
  refine cxs ?_
  refine ⟨_,rfl,?_⟩
  refine ⟨_,Od rfl,?_⟩
  refine ⟨_,rfl,?_⟩
  rintro (_|_) h20
  ·replace h20 : ¬ (e11.beat = (100000)) := beq_eq_false_iff_ne.1 h20
   refine Cm 3 s11 [(1,vI id),Ml 4 1,(5,vI 0),Ml 6 2,(20,vB false)] [(4,1,[Sn,Sn]),(6,2,[vI e11.inc,vI e11.rank,vI e11.beat,vI e11.ver,.string e11.data])] fun _ _ => ?_
   refine cxs ?_
   refine ⟨_,rfl,?_⟩
   refine ⟨_,Od rfl,?_⟩
   have hu := up_ent (show (e11,0) = upF s.x id by rw [← h11,h15])
   have hu1 := hu.1.2.2.1
   have ew24 : IntKind.wrap .i64 (e11.beat + (1)) = e11.beat + (1) := wrap_i64 (by omega) (by omega)
   iterate 2 refine ⟨_,rfl,?_⟩
   refine ⟨_,Os rfl,?_⟩
   refine AW.cutM (3) s11 [(1,vI id),Ml 4 1,(5,vI 0),Ml 6 2] [(4,1,[Sn,Sn]),(6,2,[vI e11.inc,vI e11.rank,vI (e11.beat + (1)),vI e11.ver,.string e11.data])] ⟨rfl,rfl,rfl,rfl,trivial⟩ ⟨rfl,(show some (2,[vI e11.inc,vI e11.rank,vI (IntKind.wrap .i64 (e11.beat + (1))),vI e11.ver,.string e11.data]) = some (2,[vI e11.inc,vI e11.rank,vI (e11.beat + (1)),vI e11.ver,.string e11.data]) by rw [ew24]),trivial⟩ rfl fun _ _ => ?_
   refine ⟨_,Od rfl,?_⟩
   refine ⟨_,rfl,(ac_spec_l5One id (sBeat e11) s11 (one_ok hu.2 (beat_ent hu.1 h20))).mono ?_⟩
   rintro _ s28 ⟨u28,rfl,h28,hO28,hN28,hP28⟩
   iterate 2 refine ⟨_,rfl,?_⟩
   refine ⟨_,Os rfl,?_⟩
   exact cxs (Rt ⟨u28,0,rfl,beatS_yes h11 h15 h20 h28,hO28,hN28.le hP11.1,hP11.trans hP28⟩)
  ·replace h20 : e11.beat = (100000) := beq_iff_eq.1 h20
   refine Cm 3 s11 [(1,vI id),Ml 4 1,(5,vI 0),Ml 6 2,(20,vB true)] [(4,1,[Sn,Sn]),(6,2,[vI e11.inc,vI e11.rank,vI e11.beat,vI e11.ver,.string e11.data])] fun _ _ => ?_
   refine ⟨_,rfl,?_⟩
   refine ⟨_,Os rfl,?_⟩
   exact cxs (Rt ⟨⟨none,none,nilS⟩,4,rfl,beatS_most h11 h15 h20,pcS_nil,newS_nil,hP11⟩)
 ·replace h15 : ¬ (c11 = (0)) := bne_iff_ne.1 h15
  refine Cm 3 s11 [(1,vI id),Ml 4 1,(5,vI 0),Ml 6 2,(7,vI c11),(15,vB true)] [(4,1,[Sn,Sn]),(6,2,[vI e11.inc,vI e11.rank,vI e11.beat,vI e11.ver,.string e11.data])] fun _ _ => ?_
  refine ⟨_,rfl,?_⟩
  refine ⟨_,Os rfl,?_⟩
  exact cxs (Rt ⟨⟨none,none,nilS⟩,c11,rfl,beatS_no h11 h15,pcS_nil,newS_nil,hP11⟩)
theorem ac_spec_SayGone (s : SV) (id : Int) (st : St) (hR : RdS st s) (hb : bigS s.x) : C 176 [.agg #[vS s.p s.x.items.length,vS s.q s.x.floors.length],vI id] st (fun v s' => ∃ (u : SV) (c : Int),v = .tuple #[.agg #[vS u.p u.x.items.length,vS u.q u.x.floors.length],vI c] ∧ (u.x,c) = goneS s.x id ∧ OwnP s' (pcS u) ∧ NewP st.next (pcS u) ∧ Pres st s') := by
 refine AC.enterX (i := ⟨[2,4,6],[2,4,6,18],[0,1,2,4,5,6,7,15],[]⟩) [] Tryz.func176 rfl rfl (by kernel_rfl) (by kernel_rfl) Tryz.ntmps176 (Lb rfl) rfl ?_
 iterate 2 refine ⟨_,rfl,?_⟩
 refine Cm 2 st [(1,vI id),Ml 2 0,Ml 4 1,(5,vI 0)] [(2,0,cSV s),(4,1,[Sn,Sn])] fun _ _ => ?_
 refine ⟨_,Od rfl,?_⟩
 refine ⟨_,rfl,(ac_spec_l5Up s id st hR (by first | assumption | omega)).mono ?_⟩
 rintro _ s11 ⟨e11,c11,rfl,h11,hP11⟩
 iterate 3 refine ⟨_,rfl,?_⟩
 refine ⟨_,Os rfl,?_⟩
 refine Cm 3 s11 [(1,vI id),Ml 4 1,(5,vI 0),Ml 6 2,(7,vI c11)] [(4,1,[Sn,Sn]),(6,2,[vI e11.inc,vI e11.rank,vI e11.beat,vI e11.ver,.string e11.data])] fun _ _ => ?_
 refine ⟨_,rfl,?_⟩
 rintro (_|_) h15
 ·replace h15 : c11 = (0) := bne_eq_false_iff_eq.1 h15
  refine Cm 3 s11 [(1,vI id),Ml 4 1,(5,vI 0),Ml 6 2,(7,vI c11),(15,vB false)] [(4,1,[Sn,Sn]),(6,2,[vI e11.inc,vI e11.rank,vI e11.beat,vI e11.ver,.string e11.data])] fun _ _ => ?_
  refine cxs ?_
  refine ⟨_,rfl,?_⟩
  refine ⟨_,Os rfl,?_⟩
  refine Cm 3 s11 [(1,vI id),Ml 4 1,(5,vI 0),Ml 6 2] [(4,1,[Sn,Sn]),(6,2,[vI e11.inc,vI 1,vI e11.beat,vI e11.ver,.string e11.data])] fun _ _ => ?_
  have hu := up_ent (show (e11,0) = upF s.x id by rw [← h11,h15])
  refine ⟨_,Od rfl,?_⟩
  refine ⟨_,rfl,(ac_spec_l5One id (sGone e11) s11 (one_ok hu.2 (gone_ent hu.1))).mono ?_⟩
  rintro _ s21 ⟨u21,rfl,h21,hO21,hN21,hP21⟩
  iterate 2 refine ⟨_,rfl,?_⟩
  refine ⟨_,Os rfl,?_⟩
  exact cxs (Rt ⟨u21,0,rfl,goneS_yes h11 h15 h21,hO21,hN21.le hP11.1,hP11.trans hP21⟩)
 ·replace h15 : ¬ (c11 = (0)) := bne_iff_ne.1 h15
  refine Cm 3 s11 [(1,vI id),Ml 4 1,(5,vI 0),Ml 6 2,(7,vI c11),(15,vB true)] [(4,1,[Sn,Sn]),(6,2,[vI e11.inc,vI e11.rank,vI e11.beat,vI e11.ver,.string e11.data])] fun _ _ => ?_
  refine ⟨_,rfl,?_⟩
  refine ⟨_,Os rfl,?_⟩
  exact cxs (Rt ⟨⟨none,none,nilS⟩,c11,rfl,goneS_no h11 h15,pcS_nil,newS_nil,hP11⟩)
theorem ac_spec_SaySet (s : SV) (id : Int) (d : ByteArray) (st : St) (hR : RdS st s) (hb : bigS s.x) : C 175 [.agg #[vS s.p s.x.items.length,vS s.q s.x.floors.length],vI id,.string d] st (fun v s' => ∃ (u : SV) (c : Int),v = .tuple #[.agg #[vS u.p u.x.items.length,vS u.q u.x.floors.length],vI c] ∧ (u.x,c) = setS s.x id d ∧ OwnP s' (pcS u) ∧ NewP st.next (pcS u) ∧ Pres st s') := by
 refine AC.enterX (i := ⟨[3,6,8],[3,6,8,20,29,32,34],[0,1,2,3,6,7,8,9,17,27],[]⟩) [] Tryz.func175 rfl rfl (by kernel_rfl) (by kernel_rfl) Tryz.ntmps175 (Lb rfl) rfl ?_
 iterate 2 refine ⟨_,rfl,?_⟩
 refine Cm 2 st [(1,vI id),(2,.string d),Ml 3 0,Ml 6 1,(7,vI 0)] [(3,0,cSV s),(6,1,[Sn,Sn])] fun _ _ => ?_
 refine ⟨_,Od rfl,?_⟩
 refine ⟨_,rfl,(ac_spec_l5Up s id st hR (by first | assumption | omega)).mono ?_⟩
 rintro _ s13 ⟨e13,c13,rfl,h13,hP13⟩
 iterate 3 refine ⟨_,rfl,?_⟩
 refine ⟨_,Os rfl,?_⟩
 refine Cm 3 s13 [(1,vI id),(2,.string d),Ml 6 1,(7,vI 0),Ml 8 2,(9,vI c13)] [(6,1,[Sn,Sn]),(8,2,[vI e13.inc,vI e13.rank,vI e13.beat,vI e13.ver,.string e13.data])] fun _ _ => ?_
 refine ⟨_,rfl,?_⟩
 rintro (_|_) h17
 ·replace h17 : c13 = (0) := bne_eq_false_iff_eq.1 h17
  refine Cm 3 s13 [(1,vI id),(2,.string d),Ml 6 1,(7,vI 0),Ml 8 2,(9,vI c13),(17,vB false)] [(6,1,[Sn,Sn]),(8,2,[vI e13.inc,vI e13.rank,vI e13.beat,vI e13.ver,.string e13.data])] fun _ _ => ?_
  refine cxs ?_
  refine ⟨_,rfl,?_⟩
  refine ⟨_,Od rfl,?_⟩
  refine ⟨_,rfl,?_⟩
  rintro (_|_) h22
  ·replace h22 : ¬ (e13.ver = (1000)) := beq_eq_false_iff_ne.1 h22
   iterate 2 refine ⟨_,rfl,?_⟩
   rintro (_|_) h26
   ·replace h26 : ¬ ((d.size : Int) > (8)) := of_decide_eq_false h26
    refine ⟨_,rfl,?_⟩
    refine Cm 3 s13 [(1,vI id),(2,.string d),Ml 6 1,(7,vI 0),Ml 8 2,(27,vB false)] [(6,1,[Sn,Sn]),(8,2,[vI e13.inc,vI e13.rank,vI e13.beat,vI e13.ver,.string e13.data])] fun _ _ => ?_
    refine cxs ?_
    refine ⟨_,rfl,?_⟩
    refine ⟨_,Od rfl,?_⟩
    have hu := up_ent (show (e13,0) = upF s.x id by rw [← h13,h17])
    have hu1 := hu.1.2.2.2.1
    have ew31 : IntKind.wrap .i64 (e13.ver + (1)) = e13.ver + (1) := wrap_i64 (by omega) (by omega)
    iterate 2 refine ⟨_,rfl,?_⟩
    refine ⟨_,Os rfl,?_⟩
    refine AW.cutM (3) s13 [(1,vI id),(2,.string d),Ml 6 1,(7,vI 0),Ml 8 2] [(6,1,[Sn,Sn]),(8,2,[vI e13.inc,vI e13.rank,vI e13.beat,vI (e13.ver + (1)),.string e13.data])] ⟨rfl,rfl,rfl,rfl,rfl,trivial⟩ ⟨rfl,(show some (2,[vI e13.inc,vI e13.rank,vI e13.beat,vI (IntKind.wrap .i64 (e13.ver + (1))),.string e13.data]) = some (2,[vI e13.inc,vI e13.rank,vI e13.beat,vI (e13.ver + (1)),.string e13.data]) by rw [ew31]),trivial⟩ rfl fun _ _ => ?_
    refine ⟨_,rfl,?_⟩
    refine ⟨_,Os rfl,?_⟩
    refine Cm 3 s13 [(1,vI id),Ml 6 1,(7,vI 0),Ml 8 2] [(6,1,[Sn,Sn]),(8,2,[vI e13.inc,vI e13.rank,vI e13.beat,vI (e13.ver + (1)),.string d])] fun _ _ => ?_
    refine ⟨_,Od rfl,?_⟩
    refine ⟨_,rfl,(ac_spec_l5One id (sSet e13 d) s13 (one_ok hu.2 (set_ent hu.1 (fun k => k.elim h22 fun k => h26 (Int.ofNat_lt.2 k))))).mono ?_⟩
    rintro _ s37 ⟨u37,rfl,h37,hO37,hN37,hP37⟩
    iterate 2 refine ⟨_,rfl,?_⟩
    refine ⟨_,Os rfl,?_⟩
    exact cxs (Rt ⟨u37,0,rfl,setS_yes h13 h17 (fun k => k.elim h22 fun k => h26 (Int.ofNat_lt.2 k)) h37,hO37,hN37.le hP13.1,hP13.trans hP37⟩)
   ·replace h26 : (d.size : Int) > (8) := of_decide_eq_true h26
    refine ⟨_,rfl,?_⟩
    refine Cm 3 s13 [(1,vI id),(2,.string d),Ml 6 1,(7,vI 0),Ml 8 2,(27,vB true)] [(6,1,[Sn,Sn]),(8,2,[vI e13.inc,vI e13.rank,vI e13.beat,vI e13.ver,.string e13.data])] fun _ _ => ?_
    refine ⟨_,rfl,?_⟩
    refine ⟨_,Os rfl,?_⟩
    exact cxs (Rt ⟨⟨none,none,nilS⟩,4,rfl,setS_most h13 h17 (.inr (Int.ofNat_lt.1 h26)),pcS_nil,newS_nil,hP13⟩)
  ·replace h22 : e13.ver = (1000) := beq_iff_eq.1 h22
   refine ⟨_,rfl,?_⟩
   refine Cm 3 s13 [(1,vI id),(2,.string d),Ml 6 1,(7,vI 0),Ml 8 2,(27,vB true)] [(6,1,[Sn,Sn]),(8,2,[vI e13.inc,vI e13.rank,vI e13.beat,vI e13.ver,.string e13.data])] fun _ _ => ?_
   refine ⟨_,rfl,?_⟩
   refine ⟨_,Os rfl,?_⟩
   exact cxs (Rt ⟨⟨none,none,nilS⟩,4,rfl,setS_most h13 h17 (.inl h22),pcS_nil,newS_nil,hP13⟩)
 ·replace h17 : ¬ (c13 = (0)) := bne_iff_ne.1 h17
  refine Cm 3 s13 [(1,vI id),(2,.string d),Ml 6 1,(7,vI 0),Ml 8 2,(9,vI c13),(17,vB true)] [(6,1,[Sn,Sn]),(8,2,[vI e13.inc,vI e13.rank,vI e13.beat,vI e13.ver,.string e13.data])] fun _ _ => ?_
  refine ⟨_,rfl,?_⟩
  refine ⟨_,Os rfl,?_⟩
  exact cxs (Rt ⟨⟨none,none,nilS⟩,c13,rfl,setS_no h13 h17,pcS_nil,newS_nil,hP13⟩)
theorem ac_spec_l12Said (s : SV) (kind id : Int) (d : ByteArray) (st : St) (hR : RdS st s) (hb : bigS s.x) : C 102 [.agg #[vS s.p s.x.items.length,vS s.q s.x.floors.length],vI kind,vI id,.string d] st (fun v s' => ∃ (u : SV) (c : Int),v = .tuple #[.agg #[vS u.p u.x.items.length,vS u.q u.x.floors.length],vI c] ∧ (u.x,c) = sayS s.x kind id d ∧ OwnP s' (pcS u) ∧ NewP st.next (pcS u) ∧ Pres st s') := by
 refine AC.enterX (i := ⟨[4,8],[4,8],[0,1,2,3,4,8,9,10,11,18,25],[]⟩) [] Tryz.func102 rfl rfl (by kernel_rfl) (by kernel_rfl) Tryz.ntmps102 (Lb rfl) rfl ?_
 iterate 2 refine ⟨_,rfl,?_⟩
 refine cxs ?_
 refine Cm 2 st [(2,vI id),(3,.string d),Ml 4 0,Ml 8 1,(9,vI 0),(10,vI kind)] [(4,0,cSV s),(8,1,[Sn,Sn])] fun _ _ => ?_
 refine ⟨_,rfl,?_⟩
 rintro (_|_) h12
 ·replace h12 : ¬ (kind = (0)) := beq_eq_false_iff_ne.1 h12
  refine Cm 2 st [(2,vI id),(3,.string d),Ml 4 0,Ml 8 1,(9,vI 0),(10,vI kind),(11,vB false)] [(4,0,cSV s),(8,1,[Sn,Sn])] fun _ _ => ?_
  refine ⟨_,rfl,?_⟩
  rintro (_|_) h19
  ·replace h19 : ¬ (kind = (1)) := beq_eq_false_iff_ne.1 h19
   refine Cm 2 st [(2,vI id),(3,.string d),Ml 4 0,Ml 8 1,(9,vI 0),(10,vI kind),(18,vB false)] [(4,0,cSV s),(8,1,[Sn,Sn])] fun _ _ => ?_
   refine ⟨_,rfl,?_⟩
   rintro (_|_) h26
   ·replace h26 : ¬ (kind = (2)) := beq_eq_false_iff_ne.1 h26
    refine Cm 2 st [(2,vI id),(3,.string d),Ml 4 0,Ml 8 1,(9,vI 0),(25,vB false)] [(4,0,cSV s),(8,1,[Sn,Sn])] fun _ _ => ?_
    refine cxs ?_
    refine ⟨_,Od rfl,?_⟩
    refine ⟨_,rfl,(ac_spec_SayGone s id st hR (by first | assumption | omega)).mono ?_⟩
    rintro _ s35 ⟨u35,c35,rfl,h35,hO35,hN35,hP35⟩
    iterate 2 refine ⟨_,rfl,?_⟩
    refine ⟨_,Os rfl,?_⟩
    exact cxs (Rt ⟨u35,c35,rfl,by rw [h35,sayS,if_neg h12,if_neg h19,if_neg h26],hO35,hN35,hP35⟩)
   ·replace h26 : kind = (2) := beq_iff_eq.1 h26
    refine Cm 2 st [(2,vI id),(3,.string d),Ml 4 0,Ml 8 1,(9,vI 0),(25,vB true)] [(4,0,cSV s),(8,1,[Sn,Sn])] fun _ _ => ?_
    refine ⟨_,Od rfl,?_⟩
    refine ⟨_,rfl,(ac_spec_SaySet s id d st hR (by first | assumption | omega)).mono ?_⟩
    rintro _ s30 ⟨u30,c30,rfl,h30,hO30,hN30,hP30⟩
    iterate 2 refine ⟨_,rfl,?_⟩
    refine ⟨_,Os rfl,?_⟩
    exact cxs (Rt ⟨u30,c30,rfl,by rw [h30,sayS,if_neg h12,if_neg h19,if_pos h26],hO30,hN30,hP30⟩)
  ·replace h19 : kind = (1) := beq_iff_eq.1 h19
   refine Cm 2 st [(2,vI id),(3,.string d),Ml 4 0,Ml 8 1,(9,vI 0),(10,vI kind),(18,vB true)] [(4,0,cSV s),(8,1,[Sn,Sn])] fun _ _ => ?_
   refine ⟨_,Od rfl,?_⟩
   refine ⟨_,rfl,(ac_spec_SayBeat s id st hR (by first | assumption | omega)).mono ?_⟩
   rintro _ s22 ⟨u22,c22,rfl,h22,hO22,hN22,hP22⟩
   iterate 2 refine ⟨_,rfl,?_⟩
   refine ⟨_,Os rfl,?_⟩
   exact cxs (Rt ⟨u22,c22,rfl,by rw [h22,sayS,if_neg h12,if_pos h19],hO22,hN22,hP22⟩)
 ·replace h12 : kind = (0) := beq_iff_eq.1 h12
  refine Cm 2 st [(2,vI id),(3,.string d),Ml 4 0,Ml 8 1,(9,vI 0),(10,vI kind),(11,vB true)] [(4,0,cSV s),(8,1,[Sn,Sn])] fun _ _ => ?_
  refine ⟨_,Od rfl,?_⟩
  refine ⟨_,rfl,(ac_spec_SayJoin s id st hR (by first | assumption | omega)).mono ?_⟩
  rintro _ s15 ⟨u15,c15,rfl,h15,hO15,hN15,hP15⟩
  iterate 2 refine ⟨_,rfl,?_⟩
  refine ⟨_,Os rfl,?_⟩
  exact cxs (Rt ⟨u15,c15,rfl,by rw [h15,sayS,if_pos h12],hO15,hN15,hP15⟩)
theorem big_add {g x : Lg} {d : Sta} {b : Bool} (h : (x,b) = addL g d) (hb : bigLog g) (hd : bigS d) : bigLog x := by
 have hx : x = (addL g d).1 := congrArg Prod.fst h
 have hall : ∀ s ∈ g.list ++ [d],bigS s := fun s hs => by
  rcases List.mem_append.1 hs with h | h
  ·exact hb.2 s h
  ·rw [List.mem_singleton.1 h]; exact hd
 rw [hx,addL]
 split
 ·rename_i hk
  have h1 := hk.1.2.1
  have h2 := hk.1.1.2
  split
  ·refine ⟨?_,fun s hs => hall s (List.mem_of_mem_drop hs)⟩
   unfold szOk
   simp only [List.length_drop,List.length_append,List.length_singleton]
   omega
  ·refine ⟨?_,hall⟩
   unfold szOk
   simp only [List.length_append,List.length_singleton]
   omega
 ·exact hb
theorem NW.gotAt (v : NW) (x : RV) : pcNW { v with got := x } = (pcS v.s ++ (pcIs v.t.toRV ++ pcLog v.g)) ++ pcR 1 fI x.p x.l :: (pcIs v.acked ++ (pcTT v.seen ++ (pcSes v.sess ++ pcRis v.rises))) := by simp [List.append_assoc]
theorem NW.ackedAt (v : NW) (x : RV) : pcNW { v with acked := x } = (pcS v.s ++ (pcIs v.t.toRV ++ (pcLog v.g ++ pcIs v.got))) ++ pcR 1 fI x.p x.l :: (pcTT v.seen ++ (pcSes v.sess ++ pcRis v.rises)) := by simp [List.append_assoc]
theorem OwnP.mid {st : St} {c : Pc} {a b : List Pc} (h : OwnP st (a ++ c :: b)) : c.own st := h.1 c (List.mem_append_right _ (List.mem_cons_self ..))
theorem OwnP.ownGot {st : St} {v : NW} (h : OwnP st (pcNW v)) : OwnR st 1 fI v.got.p v.got.l := by
 have h : OwnP st (pcNW { v with got := v.got }) := h
 rw [NW.gotAt] at h
 exact own_one (by decide) fI_len (OwnP.one h.mid)
theorem OwnP.ownAcked {st : St} {v : NW} (h : OwnP st (pcNW v)) : OwnR st 1 fI v.acked.p v.acked.l := by
 have h : OwnP st (pcNW { v with acked := v.acked }) := h
 rw [NW.ackedAt] at h
 exact own_one (by decide) fI_len (OwnP.one h.mid)
theorem Frs.gotSet {s0 st st' : St} {v : NW} {l' : List Int} {T : List Pc} (h : Frs s0 st (pcNW v ++ T)) (hp : Pr v.got.p st st') (hO : OwnR st' 1 fI v.got.p l') : Frs s0 st' (pcNW { v with got := ⟨v.got.p,l'⟩ } ++ T) := by
 have h : Frs s0 st (pcNW { v with got := v.got } ++ T) := h
 rw [NW.gotAt,List.append_assoc,List.cons_append] at h ⊢
 exact Frs.upd (c := pcR 1 fI v.got.p v.got.l) h hp (own_pc hO) rfl
theorem Frs.comm {a b : St} {l m : List Pc} (h : Frs a b (l ++ m)) : Frs a b (m ++ l) := ⟨h.1.perm List.perm_append_comm,fun c hc => h.2.1 c (List.mem_append.2 (List.mem_append.1 hc).symm),h.2.2⟩
theorem Frs.ndGin {s0 st : St} {v : NW} {u : LW} {T : List Pc} (h : Frs s0 st (pcNW v ++ (pcLog u ++ T))) : Frs s0 st (pcNW { v with g := u } ++ T) := by
 have e : pcNW v ++ (pcLog u ++ T) = (pcS v.s ++ pcIs v.t.toRV) ++ (pcLog v.g ++ ((pcIs v.got ++ (pcIs v.acked ++ (pcTT v.seen ++ (pcSes v.sess ++ pcRis v.rises)))) ++ (pcLog u ++ T))) := by simp only [List.append_assoc]
 rw [e] at h
 have h1 : Frs s0 st ((pcS v.s ++ pcIs v.t.toRV) ++ ((pcIs v.got ++ (pcIs v.acked ++ (pcTT v.seen ++ (pcSes v.sess ++ pcRis v.rises)))) ++ (pcLog u ++ T))) := ⟨OwnP.right (OwnP.front1 h.1),NewP.left h.2.1 |>.app (h.2.1.right.right),h.2.2⟩
 have e2 : pcNW { v with g := u } ++ T = (pcS v.s ++ pcIs v.t.toRV) ++ (pcLog u ++ ((pcIs v.got ++ (pcIs v.acked ++ (pcTT v.seen ++ (pcSes v.sess ++ pcRis v.rises)))) ++ T)) := by simp only [List.append_assoc]
 rw [e2]
 have hp : List.Perm ((pcS v.s ++ pcIs v.t.toRV) ++ ((pcIs v.got ++ (pcIs v.acked ++ (pcTT v.seen ++ (pcSes v.sess ++ pcRis v.rises)))) ++ (pcLog u ++ T))) ((pcS v.s ++ pcIs v.t.toRV) ++ (pcLog u ++ ((pcIs v.got ++ (pcIs v.acked ++ (pcTT v.seen ++ (pcSes v.sess ++ pcRis v.rises)))) ++ T))) := List.Perm.append_left _ (List.perm_append_comm_assoc _ _ _)
 exact ⟨h1.1.perm hp,fun c hc => h1.2.1 c (hp.mem_iff.2 hc),h1.2.2⟩
structure sayOk (x : Nd) (kind id : Int) : Prop where
 ok : nodeOk x
 kd : 0 ≤ kind ∧ kind ≤ 4
 ix : 0 ≤ id ∧ id ≤ x.n - 1
 ne : ¬ (id = x.id ↔ kind = 4)
noncomputable def ownF (x : Nd) (g : Lg) : Nd := { x with g := g,got := x.got.set x.id.toNat (logSeq g) }
open Classical in
noncomputable def sayF (x : Nd) (kind id : Int) (d : ByteArray) : Nd × Sta × Int :=
 if sayOk x kind id then
  if (sayS x.s kind id d).2 = 0 then
   if (addL x.g (sayS x.s kind id d).1).2 = true then (takeF (ownF x (addL x.g (sayS x.s kind id d).1).1) (sayS x.s kind id d).1,(sayS x.s kind id d).1,0) else (x,nilS,4)
  else (x,nilS,(sayS x.s kind id d).2)
 else (x,nilS,1)
theorem say_bad {g x : Nd} {kind id : Int} {d : ByteArray} (h : ¬ sayOk g kind id) (hx : x = g) : (x,nilS,1) = sayF g kind id d := by rw [hx]; exact (if_neg h).symm
theorem say_how {g x : Nd} {kind id c : Int} {d : ByteArray} {u : Sta} (h : sayOk g kind id) (hx : x = g) (hu : (u,c) = sayS g.s kind id d) (hc : ¬ c = 0) : (x,nilS,c) = sayF g kind id d := by
 unfold sayF; rw [hx,if_pos h,← hu,if_neg hc]
theorem say_most {g x : Nd} {kind id c : Int} {d : ByteArray} {u : Sta} {w : Lg} (h : sayOk g kind id) (hx : x = g) (hu : (u,c) = sayS g.s kind id d) (hc : c = 0) (hw : (w,false) = addL g.g u) : (x,nilS,4) = sayF g kind id d := by
 unfold sayF; rw [hx,if_pos h,← hu,if_pos hc,← hw,if_neg Bool.false_ne_true]
theorem say_yes {g x : Nd} {kind id c : Int} {d : ByteArray} {u : Sta} {w : Lg} (h : sayOk g kind id) (hu : (u,c) = sayS g.s kind id d) (hc : c = 0) (hw : (w,true) = addL g.g u) (hx : x = takeF (ownF g w) u) : (x,u,0) = sayF g kind id d := by
 unfold sayF; rw [hx,if_pos h,← hu,if_pos hc,← hw,if_pos rfl]
theorem say_eq {kind id i : Int} (q : id = i ↔ kind = 4) : (id == i) = (kind == 4) := by
 by_cases h : id = i
 ·rw [beq_iff_eq.2 h,beq_iff_eq.2 (q.1 h)]
 ·rw [beq_eq_false_iff_ne.2 h,beq_eq_false_iff_ne.2 fun k => h (q.2 k)]
theorem eq_say {kind id i : Int} (h : (id == i) = (kind == 4)) : id = i ↔ kind = 4 := by
 rw [← beq_iff_eq (a := id) (b := i),← beq_iff_eq (a := kind) (b := (4 : Int)),h]
theorem say_new {x : Nd} {kind id : Int} (h1 : nodeOk x) (h2 : 0 ≤ kind ∧ kind ≤ 4) (h3 : 0 ≤ id ∧ id ≤ x.n - 1) (h : ¬ (id = x.id ↔ kind = 4)) : sayOk x kind id := ⟨h1,h2,h3,h⟩
theorem say_ok0 {s d : Sta} {kind id c : Int} {data : ByteArray} (h : (d,c) = sayS s kind id data) (hc : c = 0) : stateOk d := by subst hc; exact say_ok h
theorem ac_spec_Say (g : NV) (kind id : Int) (d : ByteArray) (st : St) (hR : RdN st g) (hb : bigN g.x) : C 36 [(vNV g),vI kind,vI id,.string d] st (fun v s => ∃ (u : NW) (w : SV) (c : Int),v = .tuple #[(vNV u),.agg #[vS w.p w.x.items.length,vS w.q w.x.floors.length],vI c] ∧ (u.x,w.x,c) = sayF g.x kind id d ∧ OwnP s (pcNW u ++ pcS w) ∧ NewP st.next (pcNW u ++ pcS w) ∧ Pres st s) := by
 refine AC.enterX (i := ⟨[4,8,9,11,12,14,16],[4,8,9,11,12,14,16,29,39,47,61,74,75,77,79,81],[0,1,2,3,4,8,9,10,11,12,13,14,15,16,43,56,68],[]⟩) [(12,[],[]),(13,[2,4],[3]),(1013,[],[12])] Tryz.func36 rfl rfl (by kernel_rfl) (by kernel_rfl) Tryz.ntmps36 (Lb rfl) rfl ?_
 iterate 3 refine ⟨_,rfl,?_⟩
 refine Cm 3 st [(1,vI kind),(2,vI id),(3,.string d),Ml 4 0,Ml 8 1,Ml 9 2,(10,vI 0)] [(4,0,cNV g),(8,1,Zn),(9,2,[Sn,Sn])] fun _ _ => ?_
 refine ⟨_,op_ldo (v := (vNV g)) rfl rfl rfl rfl,?_⟩
 refine ⟨_,rfl,(ac_spec_l11Copy g st hR (by first | assumption | omega)).mono ?_⟩
 rintro _ s18 ⟨u18,rfl,h18,hO18,hN18,hP18⟩
 refine ⟨_,rfl,?_⟩
 refine ⟨_,op_stw (vs := cNV u18.v) rfl rfl rfl rfl rfl rfl rfl rfl,?_⟩
 refine Cm 4 s18 [(1,vI kind),(2,vI id),(3,.string d),Ml 4 0,Ml 8 1,Ml 9 2,(10,vI 0),Ml 11 3] [(4,0,cNV g),(8,1,Zn),(9,2,[Sn,Sn]),(11,3,cNV u18.v)] fun _ _ => ?_
 refine ⟨_,op_ldo (v := (vNV g)) rfl rfl rfl rfl,?_⟩
 refine ⟨_,rfl,(ac_spec_NodeOk g s18 (hR.pres hP18) (by first | assumption | omega)).mono ?_⟩
 rintro _ s20 ⟨x20,rfl,h20,hP20⟩
 rcases x20 with _|_
 ·replace h20 := fun k => Bool.false_ne_true (h20.2 k)
  iterate 4 refine ⟨_,rfl,?_⟩
  refine Cm 4 s20 [(1,vI kind),(2,vI id),(3,.string d),Ml 4 0,Ml 8 1,Ml 9 2,(10,vI 0),Ml 11 3,(43,vB true)] [(4,0,cNV g),(8,1,Zn),(9,2,[Sn,Sn]),(11,3,cNV u18.v)] fun _ _ => ?_
  have hF20 : Frs st s20 (pcNW u18) := ⟨hO18.pres hP20,hN18,hP18.trans hP20⟩
  have hFn := hF20.join Frs.s0
  refine ⟨_,op_ldo (v := (vNV u18.v)) rfl rfl rfl rfl,?_⟩
  refine ⟨_,rfl,?_⟩
  refine ⟨_,op_stw (vs := cNV u18.v) rfl rfl rfl rfl rfl rfl rfl rfl,?_⟩
  refine ⟨_,Os rfl,?_⟩
  exact cxs (Rt ⟨u18,⟨none,none,nilS⟩,1,rfl,say_bad (fun k => h20 k.ok) h18,hFn.1,hFn.2.1,hFn.2.2⟩)
 ·replace h20 := h20.1 rfl
  refine ⟨_,rfl,?_⟩
  refine ⟨_,rfl,(ac_spec_l1In kind 0 4 s20).mono ?_⟩
  rintro _ s20 ⟨x24,rfl,h24,rfl⟩
  rcases x24 with _|_
  ·replace h24 := of_decide_eq_false h24.symm
   iterate 4 refine ⟨_,rfl,?_⟩
   refine Cm 4 s20 [(1,vI kind),(2,vI id),(3,.string d),Ml 4 0,Ml 8 1,Ml 9 2,(10,vI 0),Ml 11 3,(43,vB true)] [(4,0,cNV g),(8,1,Zn),(9,2,[Sn,Sn]),(11,3,cNV u18.v)] fun _ _ => ?_
   have hF20 : Frs st s20 (pcNW u18) := ⟨hO18.pres hP20,hN18,hP18.trans hP20⟩
   have hFn := hF20.join Frs.s0
   refine ⟨_,op_ldo (v := (vNV u18.v)) rfl rfl rfl rfl,?_⟩
   refine ⟨_,rfl,?_⟩
   refine ⟨_,op_stw (vs := cNV u18.v) rfl rfl rfl rfl rfl rfl rfl rfl,?_⟩
   refine ⟨_,Os rfl,?_⟩
   exact cxs (Rt ⟨u18,⟨none,none,nilS⟩,1,rfl,say_bad (fun k => h24 k.kd) h18,hFn.1,hFn.2.1,hFn.2.2⟩)
  ·replace h24 := of_decide_eq_true h24.symm
   iterate 3 refine ⟨_,rfl,?_⟩
   refine ⟨_,Od rfl,?_⟩
   have hnn : 1 ≤ g.n ∧ g.n ≤ 5 := h20.n
   have ew31 : IntKind.wrap .i64 (g.n - (1)) = g.n - (1) := wrap_i64 (by omega) (by omega)
   refine ⟨_,rfl,?_⟩
   refine ⟨_,rfl,(ac_spec_l1In id 0 (IntKind.wrap .i64 (g.n - (1))) s20).mono ?_⟩
   rintro _ s20 ⟨x32,rfl,h32,rfl⟩
   rcases x32 with _|_
   ·replace h32 := of_decide_eq_false h32.symm
    rw [ew31] at h32
    iterate 3 refine ⟨_,rfl,?_⟩
    refine Cm 4 s20 [(1,vI kind),(2,vI id),(3,.string d),Ml 4 0,Ml 8 1,Ml 9 2,(10,vI 0),Ml 11 3,(43,vB true)] [(4,0,cNV g),(8,1,Zn),(9,2,[Sn,Sn]),(11,3,cNV u18.v)] fun _ _ => ?_
    have hF20 : Frs st s20 (pcNW u18) := ⟨hO18.pres hP20,hN18,hP18.trans hP20⟩
    have hFn := hF20.join Frs.s0
    refine ⟨_,op_ldo (v := (vNV u18.v)) rfl rfl rfl rfl,?_⟩
    refine ⟨_,rfl,?_⟩
    refine ⟨_,op_stw (vs := cNV u18.v) rfl rfl rfl rfl rfl rfl rfl rfl,?_⟩
    refine ⟨_,Os rfl,?_⟩
    exact cxs (Rt ⟨u18,⟨none,none,nilS⟩,1,rfl,say_bad (fun k => h32 k.ix) h18,hFn.1,hFn.2.1,hFn.2.2⟩)
   ·replace h32 := of_decide_eq_true h32.symm
    rw [ew31] at h32
    iterate 2 refine ⟨_,rfl,?_⟩
    refine ⟨_,rfl,fun c37 hc37 => ?_⟩
    refine ⟨_,rfl,?_⟩
    refine ⟨_,Od rfl,?_⟩
    refine ⟨_,rfl,fun c41 hc41 => ?_⟩
    refine ⟨_,rfl,?_⟩
    rintro (_|_) h42
    ·replace h42 : ¬ (c37 = c41) := beq_eq_false_iff_ne.1 h42
     refine ⟨_,rfl,?_⟩
     refine Cm 4 s20 [(1,vI kind),(2,vI id),(3,.string d),Ml 4 0,Ml 8 1,Ml 9 2,(10,vI 0),Ml 11 3,(43,vB false)] [(4,0,cNV g),(8,1,Zn),(9,2,[Sn,Sn]),(11,3,cNV u18.v)] fun _ _ => ?_
     have hF20 : Frs st s20 (pcNW u18) := ⟨hO18.pres hP20,hN18,hP18.trans hP20⟩
     have hFn := hF20.join Frs.s0
     refine cxs ?_
     refine ⟨_,rfl,?_⟩
     refine ⟨_,Od rfl,?_⟩
     refine ⟨_,rfl,(ac_spec_l12Said g.s kind id d s20 (hR.s.pres (hP18.trans hP20)) (hb.s)).mono ?_⟩
     rintro _ s52 ⟨u52,c52,rfl,h52,hO52,hN52,hP52⟩
     iterate 3 refine ⟨_,rfl,?_⟩
     refine ⟨_,Os rfl,?_⟩
     refine Cm 5 s52 [Ml 4 0,Ml 8 1,Ml 9 2,(10,vI 0),Ml 11 3,Ml 12 4,(13,vI c52)] [(4,0,cNV g),(8,1,Zn),(9,2,[Sn,Sn]),(11,3,cNV u18.v),(12,4,cSV u52)] fun _ _ => ?_
     have hok : sayOk g.x kind id := say_new h20 h24 h32 (fun q => h42 (hc37.symm.trans ((say_eq q).symm.trans hc41)))
     refine ⟨_,rfl,?_⟩
     rintro (_|_) h56
     ·replace h56 : c52 = (0) := bne_eq_false_iff_eq.1 h56
      refine Cm 5 s52 [Ml 4 0,Ml 8 1,Ml 9 2,(10,vI 0),Ml 11 3,Ml 12 4,(13,vI c52),(56,vB false)] [(4,0,cNV g),(8,1,Zn),(9,2,[Sn,Sn]),(11,3,cNV u18.v),(12,4,cSV u52)] fun _ _ => ?_
      have hJ52 : Frs st s52 (pcNW u18 ++ pcS u52) := hF20.join ⟨hO52,hN52,hP52⟩
      have hFn := (hF20.later hP52).join Frs.s0
      refine cxs ?_
      refine ⟨_,rfl,?_⟩
      refine ⟨_,Od rfl,?_⟩
      refine ⟨_,Od rfl,?_⟩
      have hk52 : stateOk u52.x := say_ok0 h52 h56
      have hb52 := big_ok hk52
      refine ⟨_,rfl,(ac_spec_LogAdd g.g u52 s52 (hR.g.pres ((hP18.trans hP20).trans hP52)) hO52.rdS (bigLog_iff.1 hb.g) hb52).mono ?_⟩
      rintro _ s64 ⟨u64,b64,rfl,h64,hO64,hN64,hP64⟩
      rcases b64 with _|_
      ·iterate 3 refine ⟨_,rfl,?_⟩
       refine ⟨_,Os rfl,?_⟩
       refine Cm 6 s64 [Ml 4 0,Ml 8 1,Ml 9 2,(10,vI 0),Ml 11 3,Ml 12 4,Ml 14 5,(15,vB false)] [(4,0,cNV g),(8,1,Zn),(9,2,[Sn,Sn]),(11,3,cNV u18.v),(12,4,cSV u52),(14,5,[vI u64.cap,vI u64.frm,vS u64.p u64.l.length])] fun _ _ => ?_
       refine ⟨_,rfl,?_⟩
       refine Cm 6 s64 [Ml 4 0,Ml 8 1,Ml 9 2,(10,vI 0),Ml 11 3,Ml 12 4,Ml 14 5,(68,vB true)] [(4,0,cNV g),(8,1,Zn),(9,2,[Sn,Sn]),(11,3,cNV u18.v),(12,4,cSV u52),(14,5,[vI u64.cap,vI u64.frm,vS u64.p u64.l.length])] fun _ _ => ?_
       have hFn2 := (hF20.later (hP52.trans hP64)).join Frs.s0
       refine ⟨_,op_ldo (v := (vNV u18.v)) rfl rfl rfl rfl,?_⟩
       refine ⟨_,rfl,?_⟩
       refine ⟨_,op_stw (vs := cNV u18.v) rfl rfl rfl rfl rfl rfl rfl rfl,?_⟩
       refine ⟨_,Os rfl,?_⟩
       exact cxs (Rt ⟨u18,⟨none,none,nilS⟩,4,rfl,say_most hok h18 h52 h56 h64,hFn2.1,hFn2.2.1,hFn2.2.2⟩)
      ·iterate 3 refine ⟨_,rfl,?_⟩
       refine ⟨_,Os rfl,?_⟩
       refine Cm 6 s64 [Ml 4 0,Ml 8 1,Ml 9 2,(10,vI 0),Ml 11 3,Ml 12 4,Ml 14 5,(15,vB true)] [(4,0,cNV g),(8,1,Zn),(9,2,[Sn,Sn]),(11,3,cNV u18.v),(12,4,cSV u52),(14,5,[vI u64.cap,vI u64.frm,vS u64.p u64.l.length])] fun _ _ => ?_
       refine ⟨_,rfl,?_⟩
       refine Cm 6 s64 [Ml 4 0,Ml 8 1,Ml 9 2,(10,vI 0),Ml 11 3,Ml 12 4,Ml 14 5,(68,vB false)] [(4,0,cNV g),(8,1,Zn),(9,2,[Sn,Sn]),(11,3,cNV u18.v),(12,4,cSV u52),(14,5,[vI u64.cap,vI u64.frm,vS u64.p u64.l.length])] fun _ _ => ?_
       have hFn2 := (hF20.later (hP52.trans hP64)).join Frs.s0
       refine cxs ?_
       refine ⟨_,op_ldo (v := (vNV g)) rfl rfl rfl rfl,?_⟩
       refine ⟨_,rfl,(ac_spec_l11Copy g s64 (hR.pres (((hP18.trans hP20).trans hP52).trans hP64)) (by first | assumption | omega)).mono ?_⟩
       rintro _ s72 ⟨u72,rfl,h72,hO72,hN72,hP72⟩
       refine ⟨_,rfl,?_⟩
       refine ⟨_,op_stw (vs := cNV u72.v) rfl rfl rfl rfl rfl rfl rfl rfl,?_⟩
       refine Cm 7 s72 [Ml 4 0,Ml 8 1,Ml 9 2,(10,vI 0),Ml 12 4,Ml 14 5,Ml 16 6] [(4,0,cNV g),(8,1,Zn),(9,2,[Sn,Sn]),(12,4,cSV u52),(14,5,[vI u64.cap,vI u64.frm,vS u64.p u64.l.length]),(16,6,cNV u72.v)] fun _ _ => ?_
       refine ⟨_,Od rfl,?_⟩
       refine ⟨_,rfl,?_⟩
       refine ⟨_,Os rfl,?_⟩
       refine Cm 7 s72 [Ml 4 0,Ml 8 1,Ml 9 2,(10,vI 0),Ml 12 4,Ml 16 6] [(4,0,cNV g),(8,1,Zn),(9,2,[Sn,Sn]),(12,4,cSV u52),(16,6,Nv u72 [(6,vI u64.cap),(7,vI u64.frm),(8,vS u64.p u64.l.length)])] fun _ _ => ?_
       have hJ : Frs st s72 (pcNW { u72 with g := u64 } ++ pcS u52) := by
        have h1 : Frs st s64 (pcLog u64 ++ pcS u52) := (Frs.join (b := s52) ⟨hJ52.1.right,fun c hc => hJ52.2.1 c (List.mem_append_right _ hc),hJ52.2.2⟩ ⟨hO64,hN64,hP64⟩).comm
        have h2 : Frs st s72 (pcNW u72 ++ (pcLog u64 ++ pcS u52)) := (h1.join ⟨hO72,hN72,hP72⟩).comm
        exact h2.ndGin
       have hA := addL_yes h64
       obtain ⟨e1,hk2⟩ := said_ok h20 hA
       have e3 : logSeq u64.v.x = logSeq g.g.x + 1 := e1
       have hgl : u72.got.l = g.got.l := congrArg Nd.got h72
       have hrng := logSeq_rng u64.v.x
       have hlen : g.id.toNat < u72.got.l.length := by have := h20.id; have := h20.got.2.1; rw [hgl]; show g.id.toNat < g.x.got.length; have e : g.x.id = g.id := rfl; omega
       have hid : 0 ≤ g.id := h20.id.1
       have hO : OwnR s72 1 fI u72.got.p u72.got.l := hJ.1.left.ownGot
       obtain ⟨a,ha⟩ := hO.some (by omega)
       obtain ⟨b1,o1,k1,r,hpe,hr,hm1,hc1,hb1⟩ := (hO.rows fI_len).atB (j := g.id.toNat) hlen
       obtain ⟨rfl,rfl⟩ : a = b1 ∧ 0 = o1 := by rw [ha] at hpe; injection hpe with hpe; injection hpe with e1 e2; exact ⟨e1,e2⟩
       have hrv : r = logSeq g.g.x := by rw [hgl] at hr; exact Option.some.inj (hr.symm.trans h20.seq)
       refine ⟨_,rfl,?_⟩
       refine ⟨_,Od rfl,?_⟩
       refine ⟨_,rfl,?_⟩
       refine ⟨_,Od rfl,?_⟩
       refine ⟨_,rfl,?_⟩
       refine ⟨_,Od rfl,?_⟩
       refine ⟨_,rfl,?_⟩
       refine ⟨_,Od rfl,?_⟩
       refine ⟨_,op_idx (j := g.id) (n := u72.got.l.length) (q := ⟨a,0,none⟩) rfl (congrArg (fun v => vS v u72.got.l.length) ha) rfl rfl rfl hid (by omega),?_⟩
       refine ⟨_,op_ldc (i := 0) rfl rfl rfl rfl hm1 hc1 rfl rfl,?_⟩
       have e85 : IntKind.wrap .i64 (r + 1) = r + 1 := wrap_i64 (by omega) (by omega)
       refine ⟨_,rfl,?_⟩
       refine ⟨_,op_idx (j := g.id) (n := u72.got.l.length) (q := ⟨a,0,none⟩) rfl (congrArg (fun v => vS v u72.got.l.length) ha) rfl rfl rfl hid (by omega),?_⟩
       refine op_put (z := 1) (st := s72) (f := fI) (j := g.id.toNat) (l := u72.got.l) (y := IntKind.wrap .i64 (r + 1)) (p := u72.got.p) (d := 0 + g.id.toNat * 1) rfl rfl (Nat.zero_add _) rfl rfl fI_len rfl rfl hlen hO ha ?_
       intro s9 hO9 hP9 hn9
       refine Cm 7 s9 [Ml 8 1,Ml 9 2,(10,vI 0),Ml 12 4,Ml 16 6] [(8,1,Zn),(9,2,[Sn,Sn]),(12,4,cSV u52),(16,6,Nv u72 [(6,vI u64.cap),(7,vI u64.frm),(8,vS u64.p u64.l.length)])] fun _ _ => ?_
       rw [e85] at hO9
       have hJ9 := hJ.gotSet hP9 hO9
       have hx9 : (NW.x { u72 with g := u64,got := ⟨u72.got.p,u72.got.l.set g.id.toNat (r + 1)⟩ } : Nd) = ownF g.x u64.v.x := by
        have e : r + 1 = logSeq u64.v.x := by omega
        rw [e,hgl]
        have e2 : ({ u72.x with g := u64.v.x,got := g.got.l.set g.id.toNat (logSeq u64.v.x) } : Nd) = ownF g.x u64.v.x := by rw [h72]; rfl
        exact e2
       have hR9 : RdN s9 (NW.v { u72 with g := u64,got := ⟨u72.got.p,u72.got.l.set g.id.toNat (r + 1)⟩ }) := OwnP.rdN hJ9.1.left
       have hD9 : RdS s9 u52 := hJ9.1.right.rdS
       have hb9 : bigN (ownF g.x u64.v.x) := ⟨hb.s,hb.t,big_add h64 hb.g hb52,by show (List.set _ _ _).length ≤ 1048576; rw [List.length_set]; exact hb.got,hb.acked,hb.seen,hb.sess,hb.rises⟩
       have hT : C 56 [.agg #[vI u72.id,vI u72.n,vS u72.s.p u72.s.x.items.length,vS u72.s.q u72.s.x.floors.length,vS u72.t.p u72.t.l.length,vI u72.t.root,vI u64.cap,vI u64.frm,vS u64.p u64.l.length,vS u72.got.p (u72.got.l.set g.id.toNat (r + 1)).length,vS u72.acked.p u72.acked.l.length,vS u72.seen.p u72.seen.t.length,vI u72.num,vI u72.slots,vS u72.sess.p u72.sess.l.length,vI u72.wait,vI u72.limit,vI u72.clock,vS u72.rises.p u72.rises.l.length],.agg #[vS u52.p u52.x.items.length,vS u52.q u52.x.floors.length]] s9 _ := (ac_spec_l11Take (NW.v { u72 with g := u64,got := ⟨u72.got.p,u72.got.l.set g.id.toNat (r + 1)⟩ }) u52 s9 hR9 hD9 (show bigN (NW.x { u72 with g := u64,got := ⟨u72.got.p,u72.got.l.set g.id.toNat (r + 1)⟩ }) from hx9 ▸ hb9) hb52 (show stateOk (NW.x { u72 with g := u64,got := ⟨u72.got.p,u72.got.l.set g.id.toNat (r + 1)⟩ }).s from hx9 ▸ h20.s) hk52 (show (NW.x { u72 with g := u64,got := ⟨u72.got.p,u72.got.l.set g.id.toNat (r + 1)⟩ }).rises.length = 5 from hx9 ▸ h20.rises.1))
       rw [List.length_set] at hT
       refine ⟨_,op_ldo (v := .agg #[vI u72.id,vI u72.n,vS u72.s.p u72.s.x.items.length,vS u72.s.q u72.s.x.floors.length,vS u72.t.p u72.t.l.length,vI u72.t.root,vI u64.cap,vI u64.frm,vS u64.p u64.l.length,vS u72.got.p u72.got.l.length,vS u72.acked.p u72.acked.l.length,vS u72.seen.p u72.seen.t.length,vI u72.num,vI u72.slots,vS u72.sess.p u72.sess.l.length,vI u72.wait,vI u72.limit,vI u72.clock,vS u72.rises.p u72.rises.l.length]) rfl rfl rfl rfl,?_⟩
       refine ⟨_,Od rfl,?_⟩
       refine ⟨_,rfl,hT.mono ?_⟩
       rintro _ s89 ⟨u89,rfl,h89,hO89,hN89,hP89⟩
       refine ⟨hP89.2,?_⟩
       refine ⟨_,Od rfl,?_⟩
       refine ⟨ld_own rfl rfl rfl,?_⟩
       refine ⟨_,op_stw (vs := cNV u89.v) rfl rfl rfl rfl rfl rfl rfl rfl,?_⟩
       refine ⟨sx_cons ⟨_,_,_,rfl,rfl,rfl,by decide⟩ (sx_nil),?_⟩
       refine ⟨_,Os rfl,?_⟩
       refine cxs ?_
       have hF89 := (Frs.join (b := s9) ⟨hJ9.1.right,fun c hc => hJ9.2.1 c (List.mem_append_right _ hc),hJ9.2.2⟩ ⟨hO89,hN89,hP89⟩ : Frs st s89 (pcS u52 ++ pcNW u89)).comm
       have h89 : u89.x = takeF (NW.x { u72 with g := u64,got := ⟨u72.got.p,u72.got.l.set g.id.toNat (r + 1)⟩ }) u52.x := h89
       rw [hx9] at h89
       exact Rt ⟨u89,u52,0,rfl,say_yes hok h52 h56 h64 h89,hF89.1,hF89.2.1,hF89.2.2⟩
     ·replace h56 : ¬ (c52 = (0)) := bne_iff_ne.1 h56
      refine Cm 5 s52 [Ml 4 0,Ml 8 1,Ml 9 2,(10,vI 0),Ml 11 3,Ml 12 4,(13,vI c52),(56,vB true)] [(4,0,cNV g),(8,1,Zn),(9,2,[Sn,Sn]),(11,3,cNV u18.v),(12,4,cSV u52)] fun _ _ => ?_
      have hJ52 : Frs st s52 (pcNW u18 ++ pcS u52) := hF20.join ⟨hO52,hN52,hP52⟩
      have hFn := (hF20.later hP52).join Frs.s0
      refine ⟨_,op_ldo (v := (vNV u18.v)) rfl rfl rfl rfl,?_⟩
      refine ⟨_,rfl,?_⟩
      refine ⟨_,op_stw (vs := cNV u18.v) rfl rfl rfl rfl rfl rfl rfl rfl,?_⟩
      refine ⟨_,Os rfl,?_⟩
      exact cxs (Rt ⟨u18,⟨none,none,nilS⟩,c52,rfl,say_how hok h18 h52 h56,hFn.1,hFn.2.1,hFn.2.2⟩)
    ·replace h42 : c37 = c41 := beq_iff_eq.1 h42
     refine ⟨_,rfl,?_⟩
     refine Cm 4 s20 [(1,vI kind),(2,vI id),(3,.string d),Ml 4 0,Ml 8 1,Ml 9 2,(10,vI 0),Ml 11 3,(43,vB true)] [(4,0,cNV g),(8,1,Zn),(9,2,[Sn,Sn]),(11,3,cNV u18.v)] fun _ _ => ?_
     have hF20 : Frs st s20 (pcNW u18) := ⟨hO18.pres hP20,hN18,hP18.trans hP20⟩
     have hFn := hF20.join Frs.s0
     refine ⟨_,op_ldo (v := (vNV u18.v)) rfl rfl rfl rfl,?_⟩
     refine ⟨_,rfl,?_⟩
     refine ⟨_,op_stw (vs := cNV u18.v) rfl rfl rfl rfl rfl rfl rfl rfl,?_⟩
     refine ⟨_,Os rfl,?_⟩
     exact cxs (Rt ⟨u18,⟨none,none,nilS⟩,1,rfl,say_bad (fun k => k.ne (eq_say (hc41.trans (h42.symm.trans hc37.symm)))) h18,hFn.1,hFn.2.1,hFn.2.2⟩)
end Go.Proofs.YtpnolkhfeliehaaGreat.AM
