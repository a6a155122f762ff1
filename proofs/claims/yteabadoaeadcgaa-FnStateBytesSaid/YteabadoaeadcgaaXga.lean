/- Part 1 of the texts on which the law's proof rests. -/
import Derived.Test.YteabadoaeadcgaaXfd
namespace Go.Proofs.Yteabadoaeadcgaa.AM
open Go Go.Proofs
set_option linter.unusedVariables false
set_option linter.unusedSimpArgs false
set_option maxRecDepth 100000
set_option maxHeartbeats 4000000
theorem ac_d_l2Draw {p : Option Addr} {bs : List Int} (c : Nat) (st : St) (hc : Cur st c p bs) (hs : bs.length < 1099511627776) : C 157 [vP c 0] st (fun v s => ∃ e : Ent,v = .agg #[vI e.inc,vI e.rank,vI e.beat,vI e.ver,.string e.data] ∧ e.data.size ≤ 9 ∧ Cur s c p bs ∧ PresC c st s) := by
 refine AC.enterX (i := ⟨[2,3],[2,3,13,19,25,31,34],[0,2,3,7,8,14,20,26,32],[]⟩) [] Try.func157 rfl rfl (by kernel_rfl) (by kernel_rfl) Try.ntmps157 (Nat.le_of_ble_eq_true rfl) rfl ?_
 refine ⟨_,rfl,?_⟩
 refine AW.cutM (1) st [(0,vP c 0),(2,vL 2 0 (0))] [(2,0,[vI 0,vI 0,vI 0,vI 0,.string ⟨#[]⟩])] ⟨rfl,rfl,trivial⟩ ⟨rfl,trivial⟩ rfl fun ρ0 ff => ?_
 refine ⟨_,rfl,(ac_d_l2Right c st hc (by first | assumption | omega)).mono ?_⟩
 rintro _ s5 ⟨e5,rfl,h5,hC5,hL5⟩
 refine ⟨_,rfl,?_⟩
 refine ⟨_,op_sto rfl rfl rfl rfl rfl rfl rfl,?_⟩
 refine AW.cutM (2) s5 [(0,vP c 0),(2,vL 2 0 (0)),(3,vL 3 0 (1))] [(2,0,[vI 0,vI 0,vI 0,vI 0,.string ⟨#[]⟩]),(3,1,[vI e5.inc,vI e5.rank,vI e5.beat,vI e5.ver,.string e5.data])] ⟨rfl,rfl,rfl,trivial⟩ ⟨rfl,rfl,trivial⟩ rfl fun ρ0 ff => ?_
 have hd : e5.data.size ≤ 9 := Nat.le_trans h5.2.2.2.2 (by decide)
 refine ⟨_,rfl,(ac_d_l1Below c 14 s5 hC5 (by first | assumption | omega)).mono ?_⟩
 rintro _ s7 ⟨r7,rfl,h7,h7',h7'',hC7,hL7⟩
 refine AW.cutM (2) s7 [(0,vP c 0),(2,vL 2 0 (0)),(3,vL 3 0 (1)),(7,vI r7)] [(2,0,[vI 0,vI 0,vI 0,vI 0,.string ⟨#[]⟩]),(3,1,[vI e5.inc,vI e5.rank,vI e5.beat,vI e5.ver,.string e5.data])] ⟨rfl,rfl,rfl,rfl,trivial⟩ ⟨rfl,rfl,trivial⟩ rfl fun ρ0 ff => ?_
 refine ⟨_,rfl,?_⟩
 rintro (_|_) h9
 ·replace h9 : ¬ (r7 = (0)) := beq_eq_false_iff_ne.1 h9
  refine AW.cutM (2) s7 [(0,vP c 0),(2,vL 2 0 (0)),(3,vL 3 0 (1)),(7,vI r7),(8,vB false)] [(2,0,[vI 0,vI 0,vI 0,vI 0,.string ⟨#[]⟩]),(3,1,[vI e5.inc,vI e5.rank,vI e5.beat,vI e5.ver,.string e5.data])] ⟨rfl,rfl,rfl,rfl,rfl,trivial⟩ ⟨rfl,rfl,trivial⟩ rfl fun ρ0 ff => ?_
  refine ⟨_,rfl,?_⟩
  rintro (_|_) h15
  ·replace h15 : ¬ (r7 = (1)) := beq_eq_false_iff_ne.1 h15
   refine AW.cutM (2) s7 [(0,vP c 0),(2,vL 2 0 (0)),(3,vL 3 0 (1)),(7,vI r7),(14,vB false)] [(2,0,[vI 0,vI 0,vI 0,vI 0,.string ⟨#[]⟩]),(3,1,[vI e5.inc,vI e5.rank,vI e5.beat,vI e5.ver,.string e5.data])] ⟨rfl,rfl,rfl,rfl,rfl,trivial⟩ ⟨rfl,rfl,trivial⟩ rfl fun ρ0 ff => ?_
   refine ⟨_,rfl,?_⟩
   rintro (_|_) h21
   ·replace h21 : ¬ (r7 = (2)) := beq_eq_false_iff_ne.1 h21
    refine AW.cutM (2) s7 [(0,vP c 0),(2,vL 2 0 (0)),(3,vL 3 0 (1)),(7,vI r7),(20,vB false)] [(2,0,[vI 0,vI 0,vI 0,vI 0,.string ⟨#[]⟩]),(3,1,[vI e5.inc,vI e5.rank,vI e5.beat,vI e5.ver,.string e5.data])] ⟨rfl,rfl,rfl,rfl,rfl,trivial⟩ ⟨rfl,rfl,trivial⟩ rfl fun ρ0 ff => ?_
    refine ⟨_,rfl,?_⟩
    rintro (_|_) h27
    ·replace h27 : ¬ (r7 = (3)) := beq_eq_false_iff_ne.1 h27
     refine AW.cutM (2) s7 [(0,vP c 0),(2,vL 2 0 (0)),(3,vL 3 0 (1)),(7,vI r7),(26,vB false)] [(2,0,[vI 0,vI 0,vI 0,vI 0,.string ⟨#[]⟩]),(3,1,[vI e5.inc,vI e5.rank,vI e5.beat,vI e5.ver,.string e5.data])] ⟨rfl,rfl,rfl,rfl,rfl,trivial⟩ ⟨rfl,rfl,trivial⟩ rfl fun ρ0 ff => ?_
     refine ⟨_,rfl,?_⟩
     rintro (_|_) h33
     ·replace h33 : ¬ (r7 = (4)) := beq_eq_false_iff_ne.1 h33
      refine AW.cutM (2) s7 [(2,vL 2 0 (0)),(3,vL 3 0 (1)),(32,vB false)] [(2,0,[vI 0,vI 0,vI 0,vI 0,.string ⟨#[]⟩]),(3,1,[vI e5.inc,vI e5.rank,vI e5.beat,vI e5.ver,.string e5.data])] ⟨rfl,rfl,rfl,trivial⟩ ⟨rfl,rfl,trivial⟩ rfl fun ρ0 ff => ?_
      refine cxs ?_
      refine ⟨_,op_ldo rfl rfl rfl rfl,?_⟩
      refine ⟨_,op_sto rfl rfl rfl rfl rfl rfl rfl,?_⟩
      refine cxs ?_
      exact ⟨.inl rfl,_,rfl,e5,rfl,hd,hC7,hL5.trans hL7⟩
     ·replace h33 : r7 = (4) := beq_iff_eq.1 h33
      refine AW.cutM (2) s7 [(2,vL 2 0 (0)),(3,vL 3 0 (1)),(32,vB true)] [(2,0,[vI 0,vI 0,vI 0,vI 0,.string ⟨#[]⟩]),(3,1,[vI e5.inc,vI e5.rank,vI e5.beat,vI e5.ver,.string e5.data])] ⟨rfl,rfl,rfl,trivial⟩ ⟨rfl,rfl,trivial⟩ rfl fun ρ0 ff => ?_
      refine ⟨_,rfl,?_⟩
      refine ⟨_,op_sto rfl rfl rfl rfl rfl rfl rfl,?_⟩
      refine AW.cutM (2) s7 [(2,vL 2 0 (0)),(3,vL 3 0 (1))] [(2,0,[vI 0,vI 0,vI 0,vI 0,.string ⟨#[]⟩]),(3,1,[vI e5.inc,vI e5.rank,vI e5.beat,vI e5.ver,.string ⟨#[49,50,51,52,53,54,55,56,57]⟩])] ⟨rfl,rfl,trivial⟩ ⟨rfl,rfl,trivial⟩ rfl fun ρ0 ff => ?_
      refine ⟨_,op_ldo rfl rfl rfl rfl,?_⟩
      refine ⟨_,op_sto rfl rfl rfl rfl rfl rfl rfl,?_⟩
      refine cxs ?_
      exact ⟨.inl rfl,_,rfl,⟨e5.inc,e5.rank,e5.beat,e5.ver,⟨#[49,50,51,52,53,54,55,56,57]⟩⟩,rfl,by show 9 ≤ 9; exact Nat.le_refl 9,hC7,hL5.trans hL7⟩
    ·replace h27 : r7 = (3) := beq_iff_eq.1 h27
     refine AW.cutM (2) s7 [(0,vP c 0),(2,vL 2 0 (0)),(3,vL 3 0 (1)),(7,vI r7),(26,vB true)] [(2,0,[vI 0,vI 0,vI 0,vI 0,.string ⟨#[]⟩]),(3,1,[vI e5.inc,vI e5.rank,vI e5.beat,vI e5.ver,.string e5.data])] ⟨rfl,rfl,rfl,rfl,rfl,trivial⟩ ⟨rfl,rfl,trivial⟩ rfl fun ρ0 ff => ?_
     refine op_litI (k := .i64) (l := [-1,1000,1001]) rfl rfl rfl rfl rfl rfl (Nat.le_of_ble_eq_true rfl) ?_
     intro q29 s29 hO29 hP29 hN29
     refine ⟨_,rfl,(ac_d_l1PickInt c q29 ([-1,1000,1001]) s29 (hC7.pres hP29) (by first | assumption | omega) (by first | assumption | omega | decide) (by first | assumption | omega) (by first | assumption | exact NC.new (by assumption) (Cur.lt (by assumption)))).mono ?_⟩
     rintro _ s30 ⟨r30,rfl,h30,hC30,hL30⟩
     refine ⟨_,rfl,?_⟩
     refine ⟨_,op_sto rfl rfl rfl rfl rfl rfl rfl,?_⟩
     refine AW.cutM (2) s30 [(2,vL 2 0 (0)),(3,vL 3 0 (1))] [(2,0,[vI 0,vI 0,vI 0,vI 0,.string ⟨#[]⟩]),(3,1,[vI e5.inc,vI e5.rank,vI e5.beat,vI r30,.string e5.data])] ⟨rfl,rfl,trivial⟩ ⟨rfl,rfl,trivial⟩ rfl fun ρ0 ff => ?_
     refine ⟨_,op_ldo rfl rfl rfl rfl,?_⟩
     refine ⟨_,op_sto rfl rfl rfl rfl rfl rfl rfl,?_⟩
     refine cxs ?_
     exact ⟨.inl rfl,_,rfl,⟨e5.inc,e5.rank,e5.beat,r30,e5.data⟩,rfl,hd,hC30,((hL5.trans hL7).trans hP29.c).trans hL30⟩
   ·replace h21 : r7 = (2) := beq_iff_eq.1 h21
    refine AW.cutM (2) s7 [(0,vP c 0),(2,vL 2 0 (0)),(3,vL 3 0 (1)),(7,vI r7),(20,vB true)] [(2,0,[vI 0,vI 0,vI 0,vI 0,.string ⟨#[]⟩]),(3,1,[vI e5.inc,vI e5.rank,vI e5.beat,vI e5.ver,.string e5.data])] ⟨rfl,rfl,rfl,rfl,rfl,trivial⟩ ⟨rfl,rfl,trivial⟩ rfl fun ρ0 ff => ?_
    refine op_litI (k := .i64) (l := [-1,100000,100001]) rfl rfl rfl rfl rfl rfl (Nat.le_of_ble_eq_true rfl) ?_
    intro q23 s23 hO23 hP23 hN23
    refine ⟨_,rfl,(ac_d_l1PickInt c q23 ([-1,100000,100001]) s23 (hC7.pres hP23) (by first | assumption | omega) (by first | assumption | omega | decide) (by first | assumption | omega) (by first | assumption | exact NC.new (by assumption) (Cur.lt (by assumption)))).mono ?_⟩
    rintro _ s24 ⟨r24,rfl,h24,hC24,hL24⟩
    refine ⟨_,rfl,?_⟩
    refine ⟨_,op_sto rfl rfl rfl rfl rfl rfl rfl,?_⟩
    refine AW.cutM (2) s24 [(2,vL 2 0 (0)),(3,vL 3 0 (1))] [(2,0,[vI 0,vI 0,vI 0,vI 0,.string ⟨#[]⟩]),(3,1,[vI e5.inc,vI e5.rank,vI r24,vI e5.ver,.string e5.data])] ⟨rfl,rfl,trivial⟩ ⟨rfl,rfl,trivial⟩ rfl fun ρ0 ff => ?_
    refine ⟨_,op_ldo rfl rfl rfl rfl,?_⟩
    refine ⟨_,op_sto rfl rfl rfl rfl rfl rfl rfl,?_⟩
    refine cxs ?_
    exact ⟨.inl rfl,_,rfl,⟨e5.inc,e5.rank,r24,e5.ver,e5.data⟩,rfl,hd,hC24,((hL5.trans hL7).trans hP23.c).trans hL24⟩
  ·replace h15 : r7 = (1) := beq_iff_eq.1 h15
   refine AW.cutM (2) s7 [(0,vP c 0),(2,vL 2 0 (0)),(3,vL 3 0 (1)),(7,vI r7),(14,vB true)] [(2,0,[vI 0,vI 0,vI 0,vI 0,.string ⟨#[]⟩]),(3,1,[vI e5.inc,vI e5.rank,vI e5.beat,vI e5.ver,.string e5.data])] ⟨rfl,rfl,rfl,rfl,rfl,trivial⟩ ⟨rfl,rfl,trivial⟩ rfl fun ρ0 ff => ?_
   refine op_litI (k := .i64) (l := [-1,2]) rfl rfl rfl rfl rfl rfl (Nat.le_of_ble_eq_true rfl) ?_
   intro q17 s17 hO17 hP17 hN17
   refine ⟨_,rfl,(ac_d_l1PickInt c q17 ([-1,2]) s17 (hC7.pres hP17) (by first | assumption | omega) (by first | assumption | omega | decide) (by first | assumption | omega) (by first | assumption | exact NC.new (by assumption) (Cur.lt (by assumption)))).mono ?_⟩
   rintro _ s18 ⟨r18,rfl,h18,hC18,hL18⟩
   refine ⟨_,rfl,?_⟩
   refine ⟨_,op_sto rfl rfl rfl rfl rfl rfl rfl,?_⟩
   refine AW.cutM (2) s18 [(2,vL 2 0 (0)),(3,vL 3 0 (1))] [(2,0,[vI 0,vI 0,vI 0,vI 0,.string ⟨#[]⟩]),(3,1,[vI e5.inc,vI r18,vI e5.beat,vI e5.ver,.string e5.data])] ⟨rfl,rfl,trivial⟩ ⟨rfl,rfl,trivial⟩ rfl fun ρ0 ff => ?_
   refine ⟨_,op_ldo rfl rfl rfl rfl,?_⟩
   refine ⟨_,op_sto rfl rfl rfl rfl rfl rfl rfl,?_⟩
   refine cxs ?_
   exact ⟨.inl rfl,_,rfl,⟨e5.inc,r18,e5.beat,e5.ver,e5.data⟩,rfl,hd,hC18,((hL5.trans hL7).trans hP17.c).trans hL18⟩
 ·replace h9 : r7 = (0) := beq_iff_eq.1 h9
  refine AW.cutM (2) s7 [(0,vP c 0),(2,vL 2 0 (0)),(3,vL 3 0 (1)),(7,vI r7),(8,vB true)] [(2,0,[vI 0,vI 0,vI 0,vI 0,.string ⟨#[]⟩]),(3,1,[vI e5.inc,vI e5.rank,vI e5.beat,vI e5.ver,.string e5.data])] ⟨rfl,rfl,rfl,rfl,rfl,trivial⟩ ⟨rfl,rfl,trivial⟩ rfl fun ρ0 ff => ?_
  refine op_litI (k := .i64) (l := [0,1000,1001,-1]) rfl rfl rfl rfl rfl rfl (Nat.le_of_ble_eq_true rfl) ?_
  intro q11 s11 hO11 hP11 hN11
  refine ⟨_,rfl,(ac_d_l1PickInt c q11 ([0,1000,1001,-1]) s11 (hC7.pres hP11) (by first | assumption | omega) (by first | assumption | omega | decide) (by first | assumption | omega) (by first | assumption | exact NC.new (by assumption) (Cur.lt (by assumption)))).mono ?_⟩
  rintro _ s12 ⟨r12,rfl,h12,hC12,hL12⟩
  refine ⟨_,rfl,?_⟩
  refine ⟨_,op_sto rfl rfl rfl rfl rfl rfl rfl,?_⟩
  refine AW.cutM (2) s12 [(2,vL 2 0 (0)),(3,vL 3 0 (1))] [(2,0,[vI 0,vI 0,vI 0,vI 0,.string ⟨#[]⟩]),(3,1,[vI r12,vI e5.rank,vI e5.beat,vI e5.ver,.string e5.data])] ⟨rfl,rfl,trivial⟩ ⟨rfl,rfl,trivial⟩ rfl fun ρ0 ff => ?_
  refine ⟨_,op_ldo rfl rfl rfl rfl,?_⟩
  refine ⟨_,op_sto rfl rfl rfl rfl rfl rfl rfl,?_⟩
  refine cxs ?_
  exact ⟨.inl rfl,_,rfl,⟨r12,e5.rank,e5.beat,e5.ver,e5.data⟩,rfl,hd,hC12,((hL5.trans hL7).trans hP11.c).trans hL12⟩
open Classical in
noncomputable def singF (id : Int) (e : Ent) : Sta × Bool := if stateOk ⟨[⟨id,e⟩],[]⟩ then (⟨[⟨id,e⟩],[]⟩,true) else (nilS,false)
theorem sing_ok {id : Int} {e : Ent} {x : Sta} {b : Bool} (h : (x,b) = singF id e) : stateOk x := by
 unfold singF at h
 split at h
 ·injection h with h _; rw [h]; assumption
 ·injection h with h _; rw [h]; exact stateOk_nil
theorem ac_spec_Single (id : Int) (e : Ent) (st : St) (hz : e.data.size ≤ 1048576) : C 179 [vI id,.agg #[vI e.inc,vI e.rank,vI e.beat,vI e.ver,.string e.data]] st (fun v s => ∃ (u : SV) (b : Bool),v = .tuple #[.agg #[vS u.p u.x.items.length,vS u.q u.x.floors.length],vB b] ∧ (u.x,b) = singF id e ∧ OwnP s (pcS u) ∧ NewP st.next (pcS u) ∧ Pres st s) := by
 refine AC.enterX (i := ⟨[3,4,6],[3,4,6],[0,1,3,4,5,6,14],[]⟩) [] Try.func179 rfl rfl (by kernel_rfl) (by kernel_rfl) Try.ntmps179 (Nat.le_of_ble_eq_true rfl) rfl ?_
 iterate 2 refine ⟨_,rfl,?_⟩
 refine AW.cutM (2) st [(0,vI id),(3,vL 3 0 (0)),(4,vL 4 0 (1)),(5,vB false)] [(3,0,[vI e.inc,vI e.rank,vI e.beat,vI e.ver,.string e.data]),(4,1,[.slice none 0 0,.slice none 0 0])] ⟨rfl,rfl,rfl,rfl,trivial⟩ ⟨rfl,rfl,trivial⟩ rfl fun ρ0 ff => ?_
 refine ⟨_,op_ldo rfl rfl rfl rfl,?_⟩
 refine ⟨_,rfl,?_⟩
 refine op_one (z := 6) (a := (⟨id,e⟩ : Itm)) (f := cItm) rfl rfl rfl rfl rfl (by decide) rfl (Nat.le_of_ble_eq_true rfl) rfl rfl rfl ?_
 iterate 2 refine ⟨_,rfl,?_⟩
 refine ⟨_,op_sto rfl rfl rfl rfl rfl rfl rfl,?_⟩
 refine AW.cutM (3) (st.push 6 ([(⟨id,e⟩ : Itm)].flatMap cItm)) [(4,vL 4 0 (1)),(5,vB false),(6,vL 6 0 (2))] [(4,1,[.slice none 0 0,.slice none 0 0]),(6,2,[vS (some ⟨st.next,0,none⟩) 1,.slice none 0 0])] ⟨rfl,rfl,rfl,trivial⟩ ⟨rfl,rfl,trivial⟩ rfl fun ρ0 ff => ?_
 have hO : OwnR (st.push 6 ([(⟨id,e⟩ : Itm)].flatMap cItm)) 6 cItm (some ⟨st.next,0,none⟩) [(⟨id,e⟩ : Itm)] := OwnR.push
 obtain ⟨s1,hs1⟩ : ∃ s,s = st.push 6 ([(⟨id,e⟩ : Itm)].flatMap cItm) := ⟨_,rfl⟩
 have hP1 : Pres st (st.push 6 ([(⟨id,e⟩ : Itm)].flatMap cItm)) := Pres.push
 rw [← hs1] at hO hP1 ⊢
 have hF : Frs st s1 (pcS ⟨some ⟨st.next,0,none⟩,none,⟨[⟨id,e⟩],[]⟩⟩) := ⟨⟨fun d hd => by
  rcases List.mem_cons.1 hd with rfl | hd
  ·exact own_pc hO
  ·rw [List.mem_singleton.1 hd]; exact .inl ⟨rfl,rfl⟩,List.pairwise_pair.2 (Dis.symm Dis.none)⟩,NewP.cons (by intro r hr; injection hr with hr; rw [← hr]; exact Nat.le_refl _) (NewP.cons New.none NewP.nil),hP1⟩
 have hb : bigS ⟨[⟨id,e⟩],[]⟩ := ⟨show 1 ≤ 1048576 by decide,Nat.zero_le _,fun y hy => by rw [List.mem_singleton.1 hy]; exact hz⟩
 refine ⟨_,op_ldo rfl rfl rfl rfl,?_⟩
 refine ⟨_,rfl,(ac_spec_StateOk ⟨some ⟨st.next,0,none⟩,none,⟨[⟨id,e⟩],[]⟩⟩ s1 hF.1.rdS hb).mono ?_⟩
 rintro _ s1 ⟨x13,rfl,h13,rfl⟩
 rcases x13 with _|_
 ·replace h13 := fun k => Bool.false_ne_true (h13.2 k)
  refine ⟨_,rfl,?_⟩
  refine AW.cutM (3) s1 [(4,vL 4 0 (1)),(5,vB false),(6,vL 6 0 (2)),(14,vB true)] [(4,1,[.slice none 0 0,.slice none 0 0]),(6,2,[vS (some ⟨st.next,0,none⟩) 1,.slice none 0 0])] ⟨rfl,rfl,rfl,rfl,trivial⟩ ⟨rfl,rfl,trivial⟩ rfl fun ρ0 ff => ?_
  refine ⟨_,rfl,?_⟩
  refine ⟨_,op_sto rfl rfl rfl rfl rfl rfl rfl,?_⟩
  refine cxs ?_
  exact ⟨.inl rfl,_,rfl,⟨none,none,nilS⟩,false,rfl,(if_neg h13).symm,pcS_nil,newS_nil,hP1⟩
 ·replace h13 := h13.1 rfl
  refine ⟨_,rfl,?_⟩
  refine AW.cutM (3) s1 [(4,vL 4 0 (1)),(5,vB false),(6,vL 6 0 (2)),(14,vB false)] [(4,1,[.slice none 0 0,.slice none 0 0]),(6,2,[vS (some ⟨st.next,0,none⟩) 1,.slice none 0 0])] ⟨rfl,rfl,rfl,rfl,trivial⟩ ⟨rfl,rfl,trivial⟩ rfl fun ρ0 ff => ?_
  refine cxs ?_
  refine ⟨_,op_ldo rfl rfl rfl rfl,?_⟩
  refine ⟨_,op_sto rfl rfl rfl rfl rfl rfl rfl,?_⟩
  refine cxs ?_
  exact ⟨.inl rfl,_,rfl,⟨some ⟨st.next,0,none⟩,none,⟨[⟨id,e⟩],[]⟩⟩,true,rfl,(if_pos h13).symm,hF.1,hF.2.1,hP1⟩
theorem frs_floor1 {a : St} {x : Flr} : Frs a (a.push 2 ([x].flatMap cFlr)) (pcS ⟨none,some ⟨a.next,0,none⟩,⟨[],[x]⟩⟩) := ⟨⟨fun d hd => by
  rcases List.mem_cons.1 hd with rfl | hd
  ·exact .inl ⟨rfl,rfl⟩
  ·rw [List.mem_singleton.1 hd]; exact own_pc OwnR.push,List.pairwise_pair.2 Dis.none⟩,NewP.cons New.none (NewP.cons (by intro r hr; injection hr with hr; rw [← hr]; exact Nat.le_refl _) NewP.nil),Pres.push⟩
theorem ok_floor1 {id inc : Int} (h : 0 ≤ id ∧ id ≤ 4) (k : 1 ≤ inc ∧ inc ≤ 1000) : stateOk ⟨[],[⟨id,inc⟩]⟩ := stateOk_floors fun j x hx => by
 cases j with
 | zero => injection hx with hx; rw [← hx]; exact ⟨h,k,fun y hy => by omega⟩
 | succ j => simp at hx
theorem ac_d_l3Right {p : Option Addr} {bs : List Int} (c : Nat) (st : St) (hc : Cur st c p bs) (hs : bs.length < 1099511627776) : C 151 [vP c 0] st (fun v s => ∃ u : SV,v = .agg #[vS u.p u.x.items.length,vS u.q u.x.floors.length] ∧ stateOk u.x ∧ FrC c st s (pcS u) ∧ Cur s c p bs) := by
 refine AC.enterX (i := ⟨[2,3,6],[2,3,6],[0,2,3,4,5,6,8,9,15,33],[]⟩) [(2012,[],[1]),(12,[2,4,7],[0])] Try.func151 rfl rfl (by kernel_rfl) (by kernel_rfl) Try.ntmps151 (Nat.le_of_ble_eq_true rfl) rfl ?_
 refine ⟨_,rfl,?_⟩
 refine AW.cutM (1) st [(0,vP c 0),(2,vL 2 0 (0))] [(2,0,[.slice none 0 0,.slice none 0 0])] ⟨rfl,rfl,trivial⟩ ⟨rfl,trivial⟩ rfl fun ρ0 ff => ?_
 iterate 2 refine ⟨_,rfl,?_⟩
 refine ⟨_,op_sto rfl rfl rfl rfl rfl rfl rfl,?_⟩
 refine AW.cutM (2) st [(0,vP c 0),(2,vL 2 0 (0)),(3,vL 3 0 (1))] [(2,0,[.slice none 0 0,.slice none 0 0]),(3,1,[.slice none 0 0,.slice none 0 0])] ⟨rfl,rfl,rfl,trivial⟩ ⟨rfl,rfl,trivial⟩ rfl fun ρ0 ff => ?_
 refine ⟨_,rfl,(ac_d_l1Below c 7 st hc (by first | assumption | omega)).mono ?_⟩
 rintro _ s12 ⟨r12,rfl,h12,h12',h12'',hC12,hL12⟩
 refine cxs ?_
 refine AW.cutM (2) s12 [(0,vP c 0),(2,vL 2 0 (0)),(3,vL 3 0 (1)),(4,vI r12),(5,vI (0))] [(2,0,[.slice none 0 0,.slice none 0 0]),(3,1,[.slice none 0 0,.slice none 0 0])] ⟨rfl,rfl,rfl,rfl,rfl,trivial⟩ ⟨rfl,rfl,trivial⟩ rfl fun ρ0 ff => ?_
 refine AW.loopM (fun x : Nat × SV => [(0,vP c 0),(2,vL 2 0 (0)),(3,vL 3 0 (1)),(4,vI r12),(5,vI (x.1 : Int))]) (fun x : Nat × SV => [(2,0,[.slice none 0 0,.slice none 0 0]),(3,1,[vS x.2.p x.2.x.items.length,vS x.2.q x.2.x.floors.length])]) (fun m (x : Nat × SV) st' => m = r12.toNat - x.1 ∧ (x.1 : Int) ≤ r12 ∧ stateOk x.2.x ∧ FrC c st st' (pcS x.2) ∧ Cur st' c p bs) (0,⟨none,none,nilS⟩) _ ⟨rfl,rfl,rfl,rfl,rfl,trivial⟩ ⟨rfl,rfl,trivial⟩ ⟨rfl,h12,stateOk_nil,(Frs.nilS.toC hC12.lt).sooner hL12 hc.lt,hC12⟩ ?_
 rintro m ⟨i,u⟩ ρ0 ff gg st' ⟨rfl,hi,hk,hF,hC⟩
 simp only at hi hk hF
 refine ⟨_,rfl,?_⟩
 rintro (_|_) h15
 ·replace h15 : ¬ ((i : Int) < r12) := of_decide_eq_false h15
  refine AW.cutM (gg) st' [(0,vP c 0),(2,vL 2 0 (0)),(3,vL 3 0 (1)),(4,vI r12),(5,vI (i : Int)),(15,vB false)] [(2,0,[.slice none 0 0,.slice none 0 0]),(3,1,[vS u.p u.x.items.length,vS u.q u.x.floors.length])] ⟨rfl,rfl,rfl,rfl,rfl,rfl,trivial⟩ ⟨rfl,rfl,trivial⟩ rfl fun ρ0 ff => ?_
  refine cxs ?_
  refine ⟨_,rfl,(ac_d_l1Below c 3 st' hC (by first | assumption | omega)).mono ?_⟩
  rintro _ s30 ⟨r30,rfl,h30,h30',h30'',hC30,hL30⟩
  refine cxs ?_
  have hF30 := hF.later hL30
  refine AW.cutM (gg) s30 [(0,vP c 0),(2,vL 2 0 (0)),(3,vL 3 0 (1)),(8,vI r30),(9,vI (0))] [(2,0,[.slice none 0 0,.slice none 0 0]),(3,1,[vS u.p u.x.items.length,vS u.q u.x.floors.length])] ⟨rfl,rfl,rfl,rfl,rfl,trivial⟩ ⟨rfl,rfl,trivial⟩ rfl fun ρ0 ff => ?_
  refine AW.loopM (fun x : Nat × SV => [(0,vP c 0),(2,vL 2 0 (0)),(3,vL 3 0 (1)),(8,vI r30),(9,vI (x.1 : Int))]) (fun x : Nat × SV => [(2,0,[.slice none 0 0,.slice none 0 0]),(3,1,[vS x.2.p x.2.x.items.length,vS x.2.q x.2.x.floors.length])]) (fun m (x : Nat × SV) st' => m = r30.toNat - x.1 ∧ (x.1 : Int) ≤ r30 ∧ stateOk x.2.x ∧ FrC c st st' (pcS x.2) ∧ Cur st' c p bs) (0,u) _ ⟨rfl,rfl,rfl,rfl,rfl,trivial⟩ ⟨rfl,rfl,trivial⟩ ⟨rfl,h30,hk,hF30,hC30⟩ ?_
  rintro m ⟨i,u⟩ ρ0 ff gg st' ⟨rfl,hi,hk,hF,hC⟩
  simp only at hi hk hF
  refine ⟨_,rfl,?_⟩
  rintro (_|_) h33
  ·replace h33 : ¬ ((i : Int) < r30) := of_decide_eq_false h33
   refine AW.cutM (gg) st' [(0,vP c 0),(2,vL 2 0 (0)),(3,vL 3 0 (1)),(8,vI r30),(9,vI (i : Int)),(33,vB false)] [(2,0,[.slice none 0 0,.slice none 0 0]),(3,1,[vS u.p u.x.items.length,vS u.q u.x.floors.length])] ⟨rfl,rfl,rfl,rfl,rfl,rfl,trivial⟩ ⟨rfl,rfl,trivial⟩ rfl fun ρ0 ff => ?_
   refine cxs ?_
   refine ⟨_,op_ldo rfl rfl rfl rfl,?_⟩
   refine ⟨_,op_sto rfl rfl rfl rfl rfl rfl rfl,?_⟩
   refine cxs ?_
   exact ⟨.inl rfl,_,rfl,u,rfl,hk,hF,hC⟩
  ·replace h33 : (i : Int) < r30 := of_decide_eq_true h33
   refine AW.cutM (gg) st' [(0,vP c 0),(2,vL 2 0 (0)),(3,vL 3 0 (1)),(8,vI r30),(9,vI (i : Int)),(33,vB true)] [(2,0,[.slice none 0 0,.slice none 0 0]),(3,1,[vS u.p u.x.items.length,vS u.q u.x.floors.length])] ⟨rfl,rfl,rfl,rfl,rfl,rfl,trivial⟩ ⟨rfl,rfl,trivial⟩ rfl fun ρ0 ff => ?_
   refine cxs ?_
   refine ⟨fun _ => False,?_⟩
   refine ⟨_,op_ldo rfl rfl rfl rfl,?_⟩
   refine ⟨ld_own rfl rfl rfl,?_⟩
   refine ⟨_,rfl,(ac_d_l1Below c 5 st' hC (by first | assumption | omega)).mono ?_⟩
   rintro _ s38 ⟨r38,rfl,h38,h38',h38'',hC38,hL38⟩
   refine ⟨fun _ h => h.elim,?_⟩
   refine ⟨_,rfl,(ac_d_l1Below c 2 s38 hC38 (by first | assumption | omega)).mono ?_⟩
   rintro _ s40 ⟨r40,rfl,h40,h40',h40'',hC40,hL40⟩
   refine ⟨fun _ h => h.elim,?_⟩
   have ew41 : IntKind.wrap .i64 ((1) + r40) = (1) + r40 := wrap_i64 (by omega) (by omega)
   iterate 2 refine ⟨_,rfl,?_⟩
   refine op_one (z := 2) (a := ((⟨r38,IntKind.wrap .i64 (1 + r40)⟩ : Flr) : Flr)) (f := cFlr) rfl rfl rfl rfl rfl (by decide) rfl (Nat.le_of_ble_eq_true rfl) rfl rfl rfl ?_
   refine ⟨fun _ h => h.elim,?_⟩
   refine ⟨_,rfl,?_⟩
   have hF40 := (hF.later hL38).later hL40
   have hP43 : Pres s40 (s40.push 2 ([(⟨r38,IntKind.wrap .i64 (1 + r40)⟩ : Flr)].flatMap cFlr)) := Pres.push
   have hF43 : Frs s40 (s40.push 2 ([(⟨r38,IntKind.wrap .i64 (1 + r40)⟩ : Flr)].flatMap cFlr)) (pcS ⟨none,some ⟨s40.next,0,none⟩,⟨[],[⟨r38,IntKind.wrap .i64 (1 + r40)⟩]⟩⟩) := frs_floor1
   have hR43 := (hF40.step hP43).1.rdS
   have hC43 := hC40.pres hP43
   have hk43 : stateOk ⟨[],[⟨r38,IntKind.wrap .i64 (1 + r40)⟩]⟩ := ok_floor1 (by omega) (by omega)
   refine ⟨_,rfl,(ac_spec_l3Join u ⟨none,some ⟨s40.next,0,none⟩,⟨[],[⟨r38,IntKind.wrap .i64 (1 + r40)⟩]⟩⟩ (s40.push 2 ([(⟨r38,IntKind.wrap .i64 (1 + r40)⟩ : Flr)].flatMap cFlr)) hR43 hF43.1.rdS (big_ok hk) (big_ok hk43) hk hk43).mono ?_⟩
   rintro _ s45 ⟨u45,rfl,h45,hO45,hN45,hP45⟩
   refine ⟨_,op_sto rfl rfl rfl rfl rfl rfl rfl,?_⟩
   refine AW.cutM (gg) s45 [(0,vP c 0),(2,vL 2 0 (0)),(3,vL 3 0 (1)),(8,vI r30),(9,vI (i : Int)),(33,vB true)] [(2,0,[.slice none 0 0,.slice none 0 0]),(3,1,[vS u45.p u45.x.items.length,vS u45.q u45.x.floors.length])] ⟨rfl,rfl,rfl,rfl,rfl,rfl,trivial⟩ ⟨rfl,rfl,trivial⟩ rfl fun ρ0 ff => ?_
   have hF45 : FrC c st s45 (pcS u45) := (Frs.toC ⟨hO45,hN45,hP45⟩ (hF40.step hP43).lt).sooner (hF40.step hP43).2.2.1 hc.lt
   have ew35 : IntKind.wrap .i64 ((i : Int) + (1)) = ((i + 1 : Nat) : Int) := (wrap_i64 (by omega) (by omega)).trans (by omega)
   refine ⟨_,rfl,?_⟩
   exact ⟨(i + 1,u45),r30.toNat - (i + 1),by omega,⟨rfl,rfl,rfl,rfl,congrArg (Value.int .i64) ew35,trivial⟩,⟨rfl,rfl,trivial⟩,rfl,by simp only; omega,by rw [h45]; exact stateOk_join hk hk43,hF45,hC43.pres hP45⟩
 ·replace h15 : (i : Int) < r12 := of_decide_eq_true h15
  refine AW.cutM (gg) st' [(0,vP c 0),(2,vL 2 0 (0)),(3,vL 3 0 (1)),(4,vI r12),(5,vI (i : Int)),(15,vB true)] [(2,0,[.slice none 0 0,.slice none 0 0]),(3,1,[vS u.p u.x.items.length,vS u.q u.x.floors.length])] ⟨rfl,rfl,rfl,rfl,rfl,rfl,trivial⟩ ⟨rfl,rfl,trivial⟩ rfl fun ρ0 ff => ?_
  refine cxs ?_
  refine ⟨_,rfl,(ac_d_l1Below c 5 st' hC (by first | assumption | omega)).mono ?_⟩
  rintro _ s20 ⟨r20,rfl,h20,h20',h20'',hC20,hL20⟩
  refine ⟨_,rfl,(ac_d_l2Right c s20 hC20 (by first | assumption | omega)).mono ?_⟩
  rintro _ s22 ⟨e22,rfl,h22,hC22,hL22⟩
  refine ⟨_,rfl,(ac_spec_Single r20 e22 s22 (Nat.le_trans h22.2.2.2.2 (by decide))).mono ?_⟩
  rintro _ s23 ⟨u23,b23,rfl,h23,hO23,hN23,hP23⟩
  iterate 3 refine ⟨_,rfl,?_⟩
  refine ⟨_,op_sto rfl rfl rfl rfl rfl rfl rfl,?_⟩
  refine AW.cutM (gg + 1) s23 [(0,vP c 0),(2,vL 2 0 (0)),(3,vL 3 0 (1)),(4,vI r12),(5,vI (i : Int)),(6,vL 6 0 (gg)),(15,vB true)] [(2,0,[.slice none 0 0,.slice none 0 0]),(3,1,[vS u.p u.x.items.length,vS u.q u.x.floors.length]),(6,gg,[vS u23.p u23.x.items.length,vS u23.q u23.x.floors.length])] ⟨rfl,rfl,rfl,rfl,rfl,rfl,rfl,trivial⟩ ⟨rfl,rfl,rfl,trivial⟩ rfl fun ρ0 ff => ?_
  have hF22 := (hF.later hL20).later hL22
  have hF23 : FrC c st s23 (pcS u23) := (Frs.toC ⟨hO23,hN23,hP23⟩ hF22.lt).sooner hF22.2.2.1 hc.lt
  have hR23 : RdS s23 u := (hF22.step hP23).1.rdS
  have hC23 := hC22.pres hP23
  have hk23 := sing_ok h23
  have hbu := big_ok hk
  have hbv := big_ok hk23
  refine ⟨_,op_ldo rfl rfl rfl rfl,?_⟩
  refine ⟨_,op_ldo rfl rfl rfl rfl,?_⟩
  refine ⟨_,rfl,(ac_spec_l3Join u u23 s23 hR23 hF23.1.rdS (by first | assumption | omega) (by first | assumption | omega) (by first | assumption | omega) (by first | assumption | omega)).mono ?_⟩
  rintro _ s28 ⟨u28,rfl,h28,hO28,hN28,hP28⟩
  refine ⟨_,op_sto rfl rfl rfl rfl rfl rfl rfl,?_⟩
  refine AW.cutM (gg + 1) s28 [(0,vP c 0),(2,vL 2 0 (0)),(3,vL 3 0 (1)),(4,vI r12),(5,vI (i : Int)),(6,vL 6 0 (gg)),(15,vB true)] [(2,0,[.slice none 0 0,.slice none 0 0]),(3,1,[vS u28.p u28.x.items.length,vS u28.q u28.x.floors.length]),(6,gg,[vS u23.p u23.x.items.length,vS u23.q u23.x.floors.length])] ⟨rfl,rfl,rfl,rfl,rfl,rfl,rfl,trivial⟩ ⟨rfl,rfl,rfl,trivial⟩ rfl fun ρ0 ff => ?_
  have ew17 : IntKind.wrap .i64 ((i : Int) + (1)) = ((i + 1 : Nat) : Int) := (wrap_i64 (by omega) (by omega)).trans (by omega)
  refine ⟨_,rfl,?_⟩
  exact ⟨(i + 1,u28),r12.toNat - (i + 1),by omega,⟨rfl,rfl,rfl,rfl,congrArg (Value.int .i64) ew17,trivial⟩,⟨rfl,rfl,trivial⟩,rfl,by simp only; omega,by rw [h28]; exact stateOk_join hk hk23,(Frs.toC ⟨hO28,hN28,hP28⟩ hF23.lt).sooner hF23.2.2.1 hc.lt,hC23.pres hP28⟩
theorem smS.snocI {n : Nat} {x : Sta} {y : Itm} (h : smS n x) (hy : y.e.data.size ≤ 9) : smS (n + 1) ⟨x.items ++ [y],x.floors⟩ := ⟨by rw [List.length_append]; exact Nat.succ_le_succ h.i,Nat.le_succ_of_le h.f,fun z hz => by
 rcases List.mem_append.1 hz with hz | hz
 ·exact h.d z hz
 ·rw [List.mem_singleton.1 hz]; exact hy⟩
theorem smS.snocF {n : Nat} {x : Sta} {y : Flr} (h : smS n x) : smS (n + 1) ⟨x.items,x.floors ++ [y]⟩ := ⟨Nat.le_succ_of_le h.i,by rw [List.length_append]; exact Nat.succ_le_succ h.f,h.d⟩
theorem smS.setI {n i : Nat} {x : Sta} {y : Itm} (h : smS n x) (hy : y.e.data.size ≤ 9) : smS (n + 1) ⟨x.items.set i y,x.floors⟩ := ⟨by rw [List.length_set]; exact Nat.le_succ_of_le h.i,Nat.le_succ_of_le h.f,fun z hz => by
 rcases List.mem_or_eq_of_mem_set hz with hz | rfl
 ·exact h.d z hz
 ·exact hy⟩
theorem ac_d_l3Draw {p : Option Addr} {bs : List Int} (c : Nat) (st : St) (hc : Cur st c p bs) (hs : bs.length < 1099511627776) : C 85 [vP c 0] st (fun v s => ∃ u : SV,v = .agg #[vS u.p u.x.items.length,vS u.q u.x.floors.length] ∧ smS 6 u.x ∧ FrC c st s (pcS u) ∧ Cur s c p bs) := by
 refine AC.enterX (i := ⟨[2,3],[2,3,10,20,23,34,37,41,44,54,58,60],[0,2,3,7,8,21,35,40,52,57],[]⟩) [(2004,[],[1]),(2006,[],[1]),(2009,[],[1]),(4,[3,6,8],[1]),(6,[3,6,7,9],[1]),(9,[6,8],[1]),(12,[],[])] Try.func85 rfl rfl (by kernel_rfl) (by kernel_rfl) Try.ntmps85 (Nat.le_of_ble_eq_true rfl) rfl ?_
 refine ⟨_,rfl,?_⟩
 refine AW.cutM (1) st [(0,vP c 0),(2,vL 2 0 (0))] [(2,0,[.slice none 0 0,.slice none 0 0])] ⟨rfl,rfl,trivial⟩ ⟨rfl,trivial⟩ rfl fun ρ0 ff => ?_
 refine ⟨_,rfl,(ac_d_l3Right c st hc (by first | assumption | omega)).mono ?_⟩
 rintro _ s5 ⟨u5,rfl,h5,hF5,hC5⟩
 refine ⟨_,rfl,?_⟩
 refine ⟨_,op_sto rfl rfl rfl rfl rfl rfl rfl,?_⟩
 refine AW.cutM (2) s5 [(0,vP c 0),(2,vL 2 0 (0)),(3,vL 3 0 (1))] [(2,0,[.slice none 0 0,.slice none 0 0]),(3,1,[vS u5.p u5.x.items.length,vS u5.q u5.x.floors.length])] ⟨rfl,rfl,rfl,trivial⟩ ⟨rfl,rfl,trivial⟩ rfl fun ρ0 ff => ?_
 have hsm := sm_ok h5
 have hNi : New st.next u5.p := hF5.2.1 _ (List.mem_cons_self ..)
 have hNf : New st.next u5.q := hF5.2.1 _ (List.mem_cons_of_mem _ (List.mem_cons_self ..))
 refine ⟨_,rfl,(ac_d_l1Below c 14 s5 hC5 (by first | assumption | omega)).mono ?_⟩
 rintro _ s7 ⟨r7,rfl,h7,h7',h7'',hC7,hL7⟩
 refine AW.cutM (2) s7 [(0,vP c 0),(2,vL 2 0 (0)),(3,vL 3 0 (1)),(7,vI r7)] [(2,0,[.slice none 0 0,.slice none 0 0]),(3,1,[vS u5.p u5.x.items.length,vS u5.q u5.x.floors.length])] ⟨rfl,rfl,rfl,rfl,trivial⟩ ⟨rfl,rfl,trivial⟩ rfl fun ρ0 ff => ?_
 have hF7 := hF5.later hL7
 have hR7 := hF7.1.rdS
 refine ⟨_,rfl,?_⟩
 rintro (_|_) h9
 ·replace h9 : ¬ (r7 = (0)) := beq_eq_false_iff_ne.1 h9
  refine AW.cutM (2) s7 [(0,vP c 0),(2,vL 2 0 (0)),(3,vL 3 0 (1)),(7,vI r7),(8,vB false)] [(2,0,[.slice none 0 0,.slice none 0 0]),(3,1,[vS u5.p u5.x.items.length,vS u5.q u5.x.floors.length])] ⟨rfl,rfl,rfl,rfl,rfl,trivial⟩ ⟨rfl,rfl,trivial⟩ rfl fun ρ0 ff => ?_
  refine ⟨_,rfl,?_⟩
  rintro (_|_) h22
  ·replace h22 : ¬ (r7 = (1)) := beq_eq_false_iff_ne.1 h22
   refine AW.cutM (2) s7 [(0,vP c 0),(2,vL 2 0 (0)),(3,vL 3 0 (1)),(7,vI r7),(21,vB false)] [(2,0,[.slice none 0 0,.slice none 0 0]),(3,1,[vS u5.p u5.x.items.length,vS u5.q u5.x.floors.length])] ⟨rfl,rfl,rfl,rfl,rfl,trivial⟩ ⟨rfl,rfl,trivial⟩ rfl fun ρ0 ff => ?_
   refine ⟨_,rfl,?_⟩
   rintro (_|_) h36
   ·replace h36 : ¬ (r7 = (2)) := beq_eq_false_iff_ne.1 h36
    refine AW.cutM (2) s7 [(0,vP c 0),(2,vL 2 0 (0)),(3,vL 3 0 (1)),(7,vI r7),(35,vB false)] [(2,0,[.slice none 0 0,.slice none 0 0]),(3,1,[vS u5.p u5.x.items.length,vS u5.q u5.x.floors.length])] ⟨rfl,rfl,rfl,rfl,rfl,trivial⟩ ⟨rfl,rfl,trivial⟩ rfl fun ρ0 ff => ?_
    refine ⟨_,rfl,?_⟩
    rintro (_|_) h53
    ·replace h53 : ¬ (r7 = (3)) := beq_eq_false_iff_ne.1 h53
     refine AW.cutM (2) s7 [(2,vL 2 0 (0)),(3,vL 3 0 (1)),(52,vB false)] [(2,0,[.slice none 0 0,.slice none 0 0]),(3,1,[vS u5.p u5.x.items.length,vS u5.q u5.x.floors.length])] ⟨rfl,rfl,rfl,trivial⟩ ⟨rfl,rfl,trivial⟩ rfl fun ρ0 ff => ?_
     refine cxs ?_
     refine ⟨_,op_ldo rfl rfl rfl rfl,?_⟩
     refine ⟨_,op_sto rfl rfl rfl rfl rfl rfl rfl,?_⟩
     refine cxs ?_
     exact ⟨.inl rfl,_,rfl,u5,rfl,hsm.le (by decide),hF7,hC7⟩
    ·replace h53 : r7 = (3) := beq_iff_eq.1 h53
     refine AW.cutM (2) s7 [(2,vL 2 0 (0)),(3,vL 3 0 (1)),(52,vB true)] [(2,0,[.slice none 0 0,.slice none 0 0]),(3,1,[vS u5.p u5.x.items.length,vS u5.q u5.x.floors.length])] ⟨rfl,rfl,rfl,trivial⟩ ⟨rfl,rfl,trivial⟩ rfl fun ρ0 ff => ?_
     refine ⟨_,rfl,?_⟩
     refine ⟨_,op_ldo rfl rfl rfl rfl,?_⟩
     iterate 2 refine ⟨_,rfl,?_⟩
     rintro (_|_) h57
     ·replace h57 : ¬ ((u5.x.items.length : Int) > (1)) := of_decide_eq_false h57
      refine AW.cutM (2) s7 [(2,vL 2 0 (0)),(3,vL 3 0 (1)),(57,vB false)] [(2,0,[.slice none 0 0,.slice none 0 0]),(3,1,[vS u5.p u5.x.items.length,vS u5.q u5.x.floors.length])] ⟨rfl,rfl,rfl,trivial⟩ ⟨rfl,rfl,trivial⟩ rfl fun ρ0 ff => ?_
      refine cxs ?_
      refine ⟨_,op_ldo rfl rfl rfl rfl,?_⟩
      refine ⟨_,op_sto rfl rfl rfl rfl rfl rfl rfl,?_⟩
      refine cxs ?_
      exact ⟨.inl rfl,_,rfl,u5,rfl,hsm.le (by decide),hF7,hC7⟩
     ·replace h57 : (u5.x.items.length : Int) > (1) := of_decide_eq_true h57
      refine AW.cutM (2) s7 [(2,vL 2 0 (0)),(3,vL 3 0 (1)),(57,vB true)] [(2,0,[.slice none 0 0,.slice none 0 0]),(3,1,[vS u5.p u5.x.items.length,vS u5.q u5.x.floors.length])] ⟨rfl,rfl,rfl,trivial⟩ ⟨rfl,rfl,trivial⟩ rfl fun ρ0 ff => ?_
      refine ⟨_,rfl,?_⟩
      refine ⟨_,op_ldo rfl rfl rfl rfl,?_⟩
      refine ⟨_,rfl,?_⟩
      refine ⟨_,op_ldo rfl rfl rfl rfl,?_⟩
      refine op_at 1 hR7.1 (by omega) rfl rfl rfl rfl rfl rfl rfl ?_
      intro x62 b62 d62 k62 hy62 hb62 hm62 hc62 ho62
      refine ⟨_,op_lda rfl rfl rfl rfl rfl hm62 hc62 rfl,?_⟩
      have hO7 : OwnR s7 6 cItm u5.p u5.x.items := hF7.1.items
      obtain ⟨a,ha⟩ := hO7.some (by omega)
      have hd62 : x62.e.data.size ≤ 9 := hsm.d _ (List.mem_of_getElem? hy62)
      refine ⟨_,op_idx (j := 0) (n := u5.x.items.length) (q := ⟨a,0,none⟩) rfl (congrArg (fun v => vS v u5.x.items.length) ha) rfl rfl rfl (Int.le_refl 0) (by omega),?_⟩
      refine op_put (st := s7) (f := cItm) (j := 0) (l := u5.x.items) (y := x62) (p := u5.p) (d := 0 + (0 : Int).toNat * 6) rfl rfl rfl rfl rfl len_cItm rfl rfl (by omega) hO7 ha ?_
      intro s64 hO64 hP64 hn64
      refine AW.cutM (2) s64 [(2,vL 2 0 (0)),(3,vL 3 0 (1))] [(2,0,[.slice none 0 0,.slice none 0 0]),(3,1,[vS u5.p u5.x.items.length,vS u5.q u5.x.floors.length])] ⟨rfl,rfl,trivial⟩ ⟨rfl,rfl,trivial⟩ rfl fun ρ0 ff => ?_
      refine ⟨_,op_ldo rfl rfl rfl rfl,?_⟩
      refine ⟨_,op_sto rfl rfl rfl rfl rfl rfl rfl,?_⟩
      refine cxs ?_
      have hF64 := hF7.setItems hP64 hO64
      exact ⟨.inl rfl,_,rfl,⟨u5.p,u5.q,⟨u5.x.items.set 0 x62,u5.x.floors⟩⟩,congrArg (fun n => Value.agg #[vS u5.p n,vS u5.q u5.x.floors.length]) List.length_set.symm,hsm.setI hd62,hF64.1,hC7.thenNew hc hF7.2.2.1 hP64 hNi⟩
   ·replace h36 : r7 = (2) := beq_iff_eq.1 h36
    refine AW.cutM (2) s7 [(0,vP c 0),(2,vL 2 0 (0)),(3,vL 3 0 (1)),(7,vI r7),(35,vB true)] [(2,0,[.slice none 0 0,.slice none 0 0]),(3,1,[vS u5.p u5.x.items.length,vS u5.q u5.x.floors.length])] ⟨rfl,rfl,rfl,rfl,rfl,trivial⟩ ⟨rfl,rfl,trivial⟩ rfl fun ρ0 ff => ?_
    refine ⟨_,rfl,?_⟩
    refine ⟨_,op_ldo rfl rfl rfl rfl,?_⟩
    iterate 2 refine ⟨_,rfl,?_⟩
    rintro (_|_) h40
    ·replace h40 : ¬ ((u5.x.items.length : Int) > (0)) := of_decide_eq_false h40
     refine AW.cutM (2) s7 [(0,vP c 0),(2,vL 2 0 (0)),(3,vL 3 0 (1)),(40,vB false)] [(2,0,[.slice none 0 0,.slice none 0 0]),(3,1,[vS u5.p u5.x.items.length,vS u5.q u5.x.floors.length])] ⟨rfl,rfl,rfl,rfl,trivial⟩ ⟨rfl,rfl,trivial⟩ rfl fun ρ0 ff => ?_
     refine cxs ?_
     refine ⟨_,op_ldo rfl rfl rfl rfl,?_⟩
     refine ⟨_,op_sto rfl rfl rfl rfl rfl rfl rfl,?_⟩
     refine cxs ?_
     exact ⟨.inl rfl,_,rfl,u5,rfl,hsm.le (by decide),hF7,hC7⟩
    ·replace h40 : (u5.x.items.length : Int) > (0) := of_decide_eq_true h40
     refine AW.cutM (2) s7 [(0,vP c 0),(2,vL 2 0 (0)),(3,vL 3 0 (1)),(40,vB true)] [(2,0,[.slice none 0 0,.slice none 0 0]),(3,1,[vS u5.p u5.x.items.length,vS u5.q u5.x.floors.length])] ⟨rfl,rfl,rfl,rfl,trivial⟩ ⟨rfl,rfl,trivial⟩ rfl fun ρ0 ff => ?_
     refine ⟨fun _ => False,?_⟩
     refine ⟨_,rfl,?_⟩
     refine ⟨_,op_ldo rfl rfl rfl rfl,?_⟩
     refine ⟨ld_own rfl rfl rfl,?_⟩
     refine ⟨_,rfl,?_⟩
     refine ⟨_,op_ldo rfl rfl rfl rfl,?_⟩
     refine ⟨_,rfl,?_⟩
     refine ⟨_,rfl,(ac_d_l1Below c (u5.x.items.length : Int) s7 hC7 (by first | assumption | omega)).mono ?_⟩
     rintro _ s47 ⟨r47,rfl,h47,h47',h47'',hC47,hL47⟩
     refine ⟨fun _ h => h.elim,?_⟩
     refine ⟨_,rfl,(ac_d_l2Draw c s47 hC47 (by first | assumption | omega)).mono ?_⟩
     rintro _ s49 ⟨e49,rfl,h49,hC49,hL49⟩
     refine ⟨fun _ h => h.elim,?_⟩
     have hF49 := (hF7.later hL47).later hL49
     have hO49 : OwnR s49 6 cItm u5.p u5.x.items := hF49.1.items
     have h47l := h47' (by omega)
     obtain ⟨a,ha⟩ := hO49.some (by omega)
     obtain ⟨w,hw⟩ : ∃ w,u5.x.items[r47.toNat]? = some w := ⟨_,List.getElem?_eq_getElem (by omega)⟩
     refine ⟨_,op_idx (j := r47) (n := u5.x.items.length) (q := ⟨a,0,none⟩) rfl (congrArg (fun v => vS v u5.x.items.length) ha) rfl rfl rfl h47 (by omega),?_⟩
     refine ⟨_,rfl,?_⟩
     refine op_putw (st := s49) (f := cItm) (z := 6) (i := 1) (j := r47.toNat) (l := u5.x.items) (w := w) (y := (⟨w.id,e49⟩ : Itm)) (ws := cEnt e49) (p := u5.p) (d := 0 + r47.toNat * 6 + 1) rfl rfl (congrArg (· + 1) (Nat.zero_add _)) rfl rfl len_cItm rfl rfl hw ⟨[vI w.id],cEnt w.e,[],rfl,rfl,rfl,rfl⟩ hO49 ha ?_
     intro s51 hO51 hP51 hn51
     refine AW.cutM (2) s51 [(2,vL 2 0 (0)),(3,vL 3 0 (1))] [(2,0,[.slice none 0 0,.slice none 0 0]),(3,1,[vS u5.p u5.x.items.length,vS u5.q u5.x.floors.length])] ⟨rfl,rfl,trivial⟩ ⟨rfl,rfl,trivial⟩ rfl fun ρ0 ff => ?_
     refine ⟨_,op_ldo rfl rfl rfl rfl,?_⟩
     refine ⟨_,op_sto rfl rfl rfl rfl rfl rfl rfl,?_⟩
     refine cxs ?_
     have hF51 := hF49.setItems hP51 hO51
     exact ⟨.inl rfl,_,rfl,⟨u5.p,u5.q,⟨u5.x.items.set r47.toNat ⟨w.id,e49⟩,u5.x.floors⟩⟩,congrArg (fun n => Value.agg #[vS u5.p n,vS u5.q u5.x.floors.length]) List.length_set.symm,hsm.setI h49,hF51.1,hC49.thenNew hc hF49.2.2.1 hP51 hNi⟩
  ·replace h22 : r7 = (1) := beq_iff_eq.1 h22
   refine AW.cutM (2) s7 [(0,vP c 0),(2,vL 2 0 (0)),(3,vL 3 0 (1)),(7,vI r7),(21,vB true)] [(2,0,[.slice none 0 0,.slice none 0 0]),(3,1,[vS u5.p u5.x.items.length,vS u5.q u5.x.floors.length])] ⟨rfl,rfl,rfl,rfl,rfl,trivial⟩ ⟨rfl,rfl,trivial⟩ rfl fun ρ0 ff => ?_
   refine ⟨fun _ => False,?_⟩
   refine ⟨_,rfl,?_⟩
   refine ⟨_,op_ldo rfl rfl rfl rfl,?_⟩
   refine ⟨ld_own rfl rfl rfl,?_⟩
   refine ⟨_,rfl,(ac_d_l1Below c 7 s7 hC7 (by first | assumption | omega)).mono ?_⟩
   rintro _ s26 ⟨r26,rfl,h26,h26',h26'',hC26,hL26⟩
   refine ⟨fun _ h => h.elim,?_⟩
   have ew27 : IntKind.wrap .i64 (r26 - (1)) = r26 - (1) := wrap_i64 (by omega) (by omega)
   refine ⟨_,rfl,?_⟩
   refine op_litI (k := .i64) (l := [0,1,5,1001]) rfl rfl rfl rfl rfl rfl (Nat.le_of_ble_eq_true rfl) ?_
   intro q29 s29 hO29 hP29 hN29
   refine ⟨fun _ h => h.elim,?_⟩
   refine ⟨_,rfl,(ac_d_l1PickInt c q29 ([0,1,5,1001]) s29 (hC26.pres hP29) (by first | assumption | omega) (by first | assumption | omega | decide) (by first | assumption | omega) (by first | assumption | exact NC.new (by assumption) (Cur.lt (by assumption)))).mono ?_⟩
   rintro _ s30 ⟨r30,rfl,h30,hC30,hL30⟩
   refine ⟨fun _ h => h.elim,?_⟩
   refine ⟨_,rfl,?_⟩
   refine op_one (z := 2) (a := ((⟨IntKind.wrap .i64 (r26 - 1),r30⟩ : Flr) : Flr)) (f := cFlr) rfl rfl rfl rfl rfl (by decide) rfl (Nat.le_of_ble_eq_true rfl) rfl rfl rfl ?_
   refine ⟨fun _ h => h.elim,?_⟩
   have hF30 := ((hF7.later hL26).step hP29).later hL30
   have hO30 : OwnR s30 2 cFlr u5.q u5.x.floors := hF30.1.floors
   have hfl : u5.x.floors.length ≤ 5 := hsm.f
   refine op_snoc (z := 2) (st := s30) (f := cFlr) (b := 16) (l := u5.x.floors) (x := (⟨IntKind.wrap .i64 (r26 - 1),r30⟩ : Flr)) rfl rfl rfl rfl rfl rfl rfl (by decide) len_cFlr rfl rfl rfl (by omega) (by unfold maxLen; omega) hO30 ?_
   intro q33 s33 hO33 hP33 hN33
   refine ⟨_,rfl,?_⟩
   refine ⟨_,op_sto rfl rfl rfl rfl rfl rfl rfl,?_⟩
   refine AW.cutM (2) s33 [(2,vL 2 0 (0)),(3,vL 3 0 (1))] [(2,0,[.slice none 0 0,.slice none 0 0]),(3,1,[vS u5.p u5.x.items.length,vS q33 (u5.x.floors ++ [(⟨IntKind.wrap .i64 (r26 - 1),r30⟩ : Flr)]).length])] ⟨rfl,rfl,trivial⟩ ⟨rfl,rfl,trivial⟩ rfl fun ρ0 ff => ?_
   refine ⟨_,op_ldo rfl rfl rfl rfl,?_⟩
   refine ⟨_,op_sto rfl rfl rfl rfl rfl rfl rfl,?_⟩
   refine cxs ?_
   have hF33 := hF30.floors hP33 hO33 hN33
   exact ⟨.inl rfl,_,rfl,_,rfl,hsm.snocF,hF33.1,hC30.thenNew hc hF30.2.2.1 hP33 hNf⟩
 ·replace h9 : r7 = (0) := beq_iff_eq.1 h9
  refine AW.cutM (2) s7 [(0,vP c 0),(2,vL 2 0 (0)),(3,vL 3 0 (1)),(7,vI r7),(8,vB true)] [(2,0,[.slice none 0 0,.slice none 0 0]),(3,1,[vS u5.p u5.x.items.length,vS u5.q u5.x.floors.length])] ⟨rfl,rfl,rfl,rfl,rfl,trivial⟩ ⟨rfl,rfl,trivial⟩ rfl fun ρ0 ff => ?_
  refine ⟨fun _ => False,?_⟩
  refine ⟨_,rfl,?_⟩
  refine ⟨_,op_ldo rfl rfl rfl rfl,?_⟩
  refine ⟨ld_own rfl rfl rfl,?_⟩
  refine ⟨_,rfl,(ac_d_l1Below c 7 s7 hC7 (by first | assumption | omega)).mono ?_⟩
  rintro _ s13 ⟨r13,rfl,h13,h13',h13'',hC13,hL13⟩
  refine ⟨fun _ h => h.elim,?_⟩
  have ew14 : IntKind.wrap .i64 (r13 - (1)) = r13 - (1) := wrap_i64 (by omega) (by omega)
  refine ⟨_,rfl,?_⟩
  refine ⟨_,rfl,(ac_d_l2Draw c s13 hC13 (by first | assumption | omega)).mono ?_⟩
  rintro _ s16 ⟨e16,rfl,h16,hC16,hL16⟩
  refine ⟨fun _ h => h.elim,?_⟩
  refine ⟨_,rfl,?_⟩
  refine op_one (z := 6) (a := ((⟨IntKind.wrap .i64 (r13 - 1),e16⟩ : Itm) : Itm)) (f := cItm) rfl rfl rfl rfl rfl (by decide) rfl (Nat.le_of_ble_eq_true rfl) rfl rfl rfl ?_
  refine ⟨fun _ h => h.elim,?_⟩
  have hF16 := (hF7.later hL13).later hL16
  have hO16 : OwnR s16 6 cItm u5.p u5.x.items := hF16.1.items
  have hil : u5.x.items.length ≤ 5 := hsm.i
  refine op_snoc (z := 6) (st := s16) (f := cItm) (b := 56) (l := u5.x.items) (x := (⟨IntKind.wrap .i64 (r13 - 1),e16⟩ : Itm)) rfl rfl rfl rfl rfl rfl rfl (by decide) len_cItm rfl rfl rfl (by omega) (by unfold maxLen; omega) hO16 ?_
  intro q19 s19 hO19 hP19 hN19
  refine ⟨_,rfl,?_⟩
  refine ⟨_,op_sto rfl rfl rfl rfl rfl rfl rfl,?_⟩
  refine AW.cutM (2) s19 [(2,vL 2 0 (0)),(3,vL 3 0 (1))] [(2,0,[.slice none 0 0,.slice none 0 0]),(3,1,[vS q19 (u5.x.items ++ [(⟨IntKind.wrap .i64 (r13 - 1),e16⟩ : Itm)]).length,vS u5.q u5.x.floors.length])] ⟨rfl,rfl,trivial⟩ ⟨rfl,rfl,trivial⟩ rfl fun ρ0 ff => ?_
  refine ⟨_,op_ldo rfl rfl rfl rfl,?_⟩
  refine ⟨_,op_sto rfl rfl rfl rfl rfl rfl rfl,?_⟩
  refine cxs ?_
  have hF19 := hF16.items hP19 hO19 hN19
  exact ⟨.inl rfl,_,rfl,_,rfl,hsm.snocI h16,hF19.1,hC16.thenNew hc hF16.2.2.1 hP19 hNi⟩
theorem cmpS {A : Option Value} {Q : Prop} {K : Bool → Prop} (h : ∃ b,A = some (.bool b) ∧ (b = true ↔ Q)) (hk : ∀ c,(c = true ↔ Q) → K c) : ∃ b,A = some (.bool b) ∧ ∀ c,b = c → K c := by
 obtain ⟨b,h1,h2⟩ := h
 exact ⟨b,h1,fun c hc => hc ▸ hk b h2⟩
theorem same_next {α β : Type} {f : α → β} {a b : List α} {i : Nat} {x y : α} (hx : a[i]? = some x) (hy : b[i]? = some y) (h : f x = f y) (heq : ∀ (j : Nat) x y,j < i → a[j]? = some x → b[j]? = some y → f x = f y) : ∀ (j : Nat) x y,j < i + 1 → a[j]? = some x → b[j]? = some y → f x = f y := by
 intro j u v hj hu hv
 rcases Nat.lt_or_ge j i with h2 | h2
 ·exact heq j u v h2 hu hv
 ·obtain rfl : j = i := by omega
  rw [hx] at hu; rw [hy] at hv
  injection hu with hu; injection hv with hv
  rw [← hu,← hv]; exact h
theorem same_at {α : Type} {a b : List α} {i : Nat} {x y : α} (hx : a[i]? = some x) (hy : b[i]? = some y) (h : a = b) : x = y := by
 subst h; rw [hx] at hy; injection hy
theorem sta_ext {a b : Sta} (h1 : a.items = b.items) (h2 : a.floors = b.floors) : a = b := by cases a; cases b; simp only at h1 h2; rw [h1,h2]
theorem neq_Floor (x y : Flr) : ∃ b,abin Try.prog .neq 112 (.agg #[vI x.id,vI x.inc]) (.agg #[vI y.id,vI y.inc]) = some (.bool b) ∧ (b = true ↔ ¬ x = y) := by
 refine ⟨!((if (x.id == y.id) = true then (if (x.inc == y.inc) = true then true else false) else false)),?_,?_⟩
 ·have h : abin Try.prog .neq 112 (.agg #[vI x.id,vI x.inc]) (.agg #[vI y.id,vI y.inc]) = (((some (x.id == y.id)).bind fun r => if r = true then ((some (x.inc == y.inc)).bind fun r => if r = true then some true else some false) else some false)).map fun b => Value.bool !b := by kernel_rfl
  rw [h]; cases x.id == y.id <;> cases x.inc == y.inc <;> rfl
 ·cases x; cases y; simp [Classical.or_iff_not_imp_left]
theorem neq_Item (x y : Itm) : ∃ b,abin Try.prog .neq 110 (.agg #[vI x.id,vI x.e.inc,vI x.e.rank,vI x.e.beat,vI x.e.ver,.string x.e.data]) (.agg #[vI y.id,vI y.e.inc,vI y.e.rank,vI y.e.beat,vI y.e.ver,.string y.e.data]) = some (.bool b) ∧ (b = true ↔ ¬ x = y) := by
 refine ⟨!(x.id == y.id && (x.e.inc == y.e.inc && (x.e.rank == y.e.rank && (x.e.beat == y.e.beat && (x.e.ver == y.e.ver && x.e.data.toList == y.e.data.toList))))),?_,?_⟩
 ·have h : abin Try.prog .neq 110 (.agg #[vI x.id,vI x.e.inc,vI x.e.rank,vI x.e.beat,vI x.e.ver,.string x.e.data]) (.agg #[vI y.id,vI y.e.inc,vI y.e.rank,vI y.e.beat,vI y.e.ver,.string y.e.data]) = ((some (x.id == y.id)).bind fun r => if r = true then (((some (x.e.inc == y.e.inc)).bind fun r => if r = true then ((some (x.e.rank == y.e.rank)).bind fun r => if r = true then ((some (x.e.beat == y.e.beat)).bind fun r => if r = true then ((some (x.e.ver == y.e.ver)).bind fun r => if r = true then ((some (x.e.data.toList == y.e.data.toList)).bind fun r => if r = true then some true else some false) else some false) else some false) else some false) else some false).bind fun r => if r = true then some true else some false) else some false).map fun b => Value.bool !b := by kernel_rfl
  rw [h]; cases x.id == y.id <;> cases x.e.inc == y.e.inc <;> cases x.e.rank == y.e.rank <;> cases x.e.beat == y.e.beat <;> cases x.e.ver == y.e.ver <;> cases x.e.data.toList == y.e.data.toList <;> rfl
 ·rcases x with ⟨i,a,b,c,d,s⟩
  rcases y with ⟨j,a',b',c',d',s'⟩
  have hb : (s.toList == s'.toList) = true ↔ s = s' := beq_bytes
  cases hs : (s.toList == s'.toList) with
  | true => simp [hs,hb.1 hs,Classical.or_iff_not_imp_left]
  | false =>
   have : ¬ s = s' := fun h => by rw [hb.2 h] at hs; cases hs
   simp [hs,this]
theorem ac_spec_StateSame (a b : SV) (st : St) (hA : RdS st a) (hB : RdS st b) (hb : bigS a.x) : C 49 [.agg #[vS a.p a.x.items.length,vS a.q a.x.floors.length],.agg #[vS b.p b.x.items.length,vS b.q b.x.floors.length]] st (fun v s => ∃ x,v = .bool x ∧ (x = true ↔ a.x = b.x) ∧ s = st) := by
 have hs1 : a.x.items.length ≤ 1048576 := hb.1
 have hs2 : a.x.floors.length ≤ 1048576 := hb.2.1
 refine AC.enterX (i := ⟨[2,3],[2,3,7,10,15,18,24,30,35,42,48,53],[0,1,2,3,4,5,6,22,27,40,45,58],[]⟩) [(6,[],[]),(11,[],[])] Try.func49 rfl rfl (by kernel_rfl) (by kernel_rfl) Try.ntmps49 (Nat.le_of_ble_eq_true rfl) rfl ?_
 iterate 2 refine ⟨_,rfl,?_⟩
 refine AW.cutM (2) st [(2,vL 2 0 (0)),(3,vL 3 0 (1)),(4,vB false)] [(2,0,[vS a.p a.x.items.length,vS a.q a.x.floors.length]),(3,1,[vS b.p b.x.items.length,vS b.q b.x.floors.length])] ⟨rfl,rfl,rfl,trivial⟩ ⟨rfl,rfl,trivial⟩ rfl fun ρ0 ff => ?_
 refine ⟨_,rfl,?_⟩
 refine ⟨_,op_ldo rfl rfl rfl rfl,?_⟩
 iterate 2 refine ⟨_,rfl,?_⟩
 refine ⟨_,op_ldo rfl rfl rfl rfl,?_⟩
 iterate 2 refine ⟨_,rfl,?_⟩
 rintro (_|_) h13
 ·replace h13 : (a.x.items.length : Int) = (b.x.items.length : Int) := bne_eq_false_iff_eq.1 h13
  refine ⟨_,rfl,?_⟩
  refine ⟨_,op_ldo rfl rfl rfl rfl,?_⟩
  iterate 2 refine ⟨_,rfl,?_⟩
  refine ⟨_,op_ldo rfl rfl rfl rfl,?_⟩
  iterate 2 refine ⟨_,rfl,?_⟩
  rintro (_|_) h21
  ·replace h21 : (a.x.floors.length : Int) = (b.x.floors.length : Int) := bne_eq_false_iff_eq.1 h21
   refine ⟨_,rfl,?_⟩
   refine AW.cutM (2) st [(2,vL 2 0 (0)),(3,vL 3 0 (1)),(4,vB false),(22,vB false)] [(2,0,[vS a.p a.x.items.length,vS a.q a.x.floors.length]),(3,1,[vS b.p b.x.items.length,vS b.q b.x.floors.length])] ⟨rfl,rfl,rfl,rfl,trivial⟩ ⟨rfl,rfl,trivial⟩ rfl fun ρ0 ff => ?_
   refine cxs ?_
   refine AW.cutM (2) st [(2,vL 2 0 (0)),(3,vL 3 0 (1)),(4,vB false),(5,vI (0))] [(2,0,[vS a.p a.x.items.length,vS a.q a.x.floors.length]),(3,1,[vS b.p b.x.items.length,vS b.q b.x.floors.length])] ⟨rfl,rfl,rfl,rfl,trivial⟩ ⟨rfl,rfl,trivial⟩ rfl fun ρ0 ff => ?_
   refine AW.loopM (fun i : Nat => [(2,vL 2 0 (0)),(3,vL 3 0 (1)),(5,vI (i : Int))]) (fun i : Nat => [(2,0,[vS a.p a.x.items.length,vS a.q a.x.floors.length]),(3,1,[vS b.p b.x.items.length,vS b.q b.x.floors.length])]) (fun m (i : Nat) st' => m = a.x.items.length - i ∧ i ≤ a.x.items.length ∧ (∀ (j : Nat) x y,j < i → a.x.items[j]? = some x → b.x.items[j]? = some y → x = y) ∧ st = st') 0 _ ⟨rfl,rfl,rfl,trivial⟩ ⟨rfl,rfl,trivial⟩ ⟨rfl,Nat.zero_le _,fun j x y h => absurd h (Nat.not_lt_zero _),rfl⟩ ?_
   rintro m i ρ0 ff gg st' ⟨rfl,hi,heq,rfl⟩
   refine ⟨_,rfl,?_⟩
   refine ⟨_,op_ldo rfl rfl rfl rfl,?_⟩
   iterate 2 refine ⟨_,rfl,?_⟩
   rintro (_|_) h27
   ·replace h27 : ¬ ((i : Int) < (a.x.items.length : Int)) := of_decide_eq_false h27
    refine AW.cutM (gg) st [(2,vL 2 0 (0)),(3,vL 3 0 (1)),(5,vI (i : Int)),(27,vB false)] [(2,0,[vS a.p a.x.items.length,vS a.q a.x.floors.length]),(3,1,[vS b.p b.x.items.length,vS b.q b.x.floors.length])] ⟨rfl,rfl,rfl,rfl,trivial⟩ ⟨rfl,rfl,trivial⟩ rfl fun ρ0 ff => ?_
    have hI : a.x.items = b.x.items := iff_lists (by omega) fun j x y hj hx hy => heq j x y (by omega) hx hy
    clear heq
    refine cxs ?_
    refine AW.cutM (gg) st [(2,vL 2 0 (0)),(3,vL 3 0 (1)),(6,vI (0))] [(2,0,[vS a.p a.x.items.length,vS a.q a.x.floors.length]),(3,1,[vS b.p b.x.items.length,vS b.q b.x.floors.length])] ⟨rfl,rfl,rfl,trivial⟩ ⟨rfl,rfl,trivial⟩ rfl fun ρ0 ff => ?_
    refine AW.loopM (fun i : Nat => [(2,vL 2 0 (0)),(3,vL 3 0 (1)),(6,vI (i : Int))]) (fun i : Nat => [(2,0,[vS a.p a.x.items.length,vS a.q a.x.floors.length]),(3,1,[vS b.p b.x.items.length,vS b.q b.x.floors.length])]) (fun m (i : Nat) st' => m = a.x.floors.length - i ∧ i ≤ a.x.floors.length ∧ (∀ (j : Nat) x y,j < i → a.x.floors[j]? = some x → b.x.floors[j]? = some y → x = y) ∧ st = st') 0 _ ⟨rfl,rfl,rfl,trivial⟩ ⟨rfl,rfl,trivial⟩ ⟨rfl,Nat.zero_le _,fun j x y h => absurd h (Nat.not_lt_zero _),rfl⟩ ?_
    rintro m i ρ0 ff gg st' ⟨rfl,hi,heq,rfl⟩
    refine ⟨_,rfl,?_⟩
    refine ⟨_,op_ldo rfl rfl rfl rfl,?_⟩
    iterate 2 refine ⟨_,rfl,?_⟩
    rintro (_|_) h45
    ·replace h45 : ¬ ((i : Int) < (a.x.floors.length : Int)) := of_decide_eq_false h45
     refine AW.cutM (gg) st [(2,vL 2 0 (0)),(3,vL 3 0 (1)),(6,vI (i : Int)),(45,vB false)] [(2,0,[vS a.p a.x.items.length,vS a.q a.x.floors.length]),(3,1,[vS b.p b.x.items.length,vS b.q b.x.floors.length])] ⟨rfl,rfl,rfl,rfl,trivial⟩ ⟨rfl,rfl,trivial⟩ rfl fun ρ0 ff => ?_
     refine cxs ?_
     refine cxs ?_
     exact ⟨.inl rfl,_,rfl,true,rfl,⟨fun _ => sta_ext hI (iff_lists (by omega) fun j x y hj hx hy => heq j x y (by omega) hx hy),fun _ => rfl⟩,rfl⟩
    ·replace h45 : (i : Int) < (a.x.floors.length : Int) := of_decide_eq_true h45
     refine AW.cutM (gg) st [(2,vL 2 0 (0)),(3,vL 3 0 (1)),(6,vI (i : Int)),(45,vB true)] [(2,0,[vS a.p a.x.items.length,vS a.q a.x.floors.length]),(3,1,[vS b.p b.x.items.length,vS b.q b.x.floors.length])] ⟨rfl,rfl,rfl,rfl,trivial⟩ ⟨rfl,rfl,trivial⟩ rfl fun ρ0 ff => ?_
     refine cxs ?_
     refine ⟨_,rfl,?_⟩
     refine ⟨_,op_ldo rfl rfl rfl rfl,?_⟩
     refine op_at i hA.2 (by omega) rfl rfl rfl rfl rfl rfl rfl ?_
     intro x51 b51 d51 k51 hy51 hb51 hm51 hc51 ho51
     refine ⟨_,op_lda rfl rfl rfl rfl rfl hm51 hc51 rfl,?_⟩
     refine ⟨_,rfl,?_⟩
     refine ⟨_,op_ldo rfl rfl rfl rfl,?_⟩
     refine op_at i hB.2 (by omega) rfl rfl rfl rfl rfl rfl rfl ?_
     intro x56 b56 d56 k56 hy56 hb56 hm56 hc56 ho56
     refine ⟨_,op_lda rfl rfl rfl rfl rfl hm56 hc56 rfl,?_⟩
     refine cmpS (neq_Floor x51 x56) ?_
     rintro (_|_) h58
     ·replace h58 : x51 = x56 := Classical.byContradiction fun k => Bool.false_ne_true (h58.2 k)
      refine AW.cutM (gg) st [(2,vL 2 0 (0)),(3,vL 3 0 (1)),(6,vI (i : Int)),(45,vB true),(58,vB false)] [(2,0,[vS a.p a.x.items.length,vS a.q a.x.floors.length]),(3,1,[vS b.p b.x.items.length,vS b.q b.x.floors.length])] ⟨rfl,rfl,rfl,rfl,rfl,trivial⟩ ⟨rfl,rfl,trivial⟩ rfl fun ρ0 ff => ?_
      refine cxs ?_
      have ew47 : IntKind.wrap .i64 ((i : Int) + (1)) = ((i + 1 : Nat) : Int) := (wrap_i64 (by omega) (by omega)).trans (by omega)
      refine ⟨_,rfl,?_⟩
      exact ⟨i + 1,a.x.floors.length - (i + 1),by omega,⟨rfl,rfl,congrArg (Value.int .i64) ew47,trivial⟩,⟨rfl,rfl,trivial⟩,rfl,by omega,same_next (f := fun x => x) hy51 hy56 h58 heq,rfl⟩
     ·replace h58 : ¬ x51 = x56 := h58.1 rfl
      refine AW.cutM (gg) st [(2,vL 2 0 (0)),(3,vL 3 0 (1)),(6,vI (i : Int)),(45,vB true),(58,vB true)] [(2,0,[vS a.p a.x.items.length,vS a.q a.x.floors.length]),(3,1,[vS b.p b.x.items.length,vS b.q b.x.floors.length])] ⟨rfl,rfl,rfl,rfl,rfl,trivial⟩ ⟨rfl,rfl,trivial⟩ rfl fun ρ0 ff => ?_
      refine cxs ?_
      exact ⟨.inl rfl,_,rfl,false,rfl,⟨fun h => absurd h Bool.false_ne_true,fun h => (show False from (absurd (same_at hy51 hy56 (congrArg Sta.floors h)) h58)).elim⟩,rfl⟩
   ·replace h27 : (i : Int) < (a.x.items.length : Int) := of_decide_eq_true h27
    refine AW.cutM (gg) st [(2,vL 2 0 (0)),(3,vL 3 0 (1)),(5,vI (i : Int)),(27,vB true)] [(2,0,[vS a.p a.x.items.length,vS a.q a.x.floors.length]),(3,1,[vS b.p b.x.items.length,vS b.q b.x.floors.length])] ⟨rfl,rfl,rfl,rfl,trivial⟩ ⟨rfl,rfl,trivial⟩ rfl fun ρ0 ff => ?_
    refine cxs ?_
    refine ⟨_,rfl,?_⟩
    refine ⟨_,op_ldo rfl rfl rfl rfl,?_⟩
    refine op_at i hA.1 (by omega) rfl rfl rfl rfl rfl rfl rfl ?_
    intro x33 b33 d33 k33 hy33 hb33 hm33 hc33 ho33
    refine ⟨_,op_lda rfl rfl rfl rfl rfl hm33 hc33 rfl,?_⟩
    refine ⟨_,rfl,?_⟩
    refine ⟨_,op_ldo rfl rfl rfl rfl,?_⟩
    refine op_at i hB.1 (by omega) rfl rfl rfl rfl rfl rfl rfl ?_
    intro x38 b38 d38 k38 hy38 hb38 hm38 hc38 ho38
    refine ⟨_,op_lda rfl rfl rfl rfl rfl hm38 hc38 rfl,?_⟩
    refine cmpS (neq_Item x33 x38) ?_
    rintro (_|_) h40
    ·replace h40 : x33 = x38 := Classical.byContradiction fun k => Bool.false_ne_true (h40.2 k)
     refine AW.cutM (gg) st [(2,vL 2 0 (0)),(3,vL 3 0 (1)),(5,vI (i : Int)),(27,vB true),(40,vB false)] [(2,0,[vS a.p a.x.items.length,vS a.q a.x.floors.length]),(3,1,[vS b.p b.x.items.length,vS b.q b.x.floors.length])] ⟨rfl,rfl,rfl,rfl,rfl,trivial⟩ ⟨rfl,rfl,trivial⟩ rfl fun ρ0 ff => ?_
     refine cxs ?_
     have ew29 : IntKind.wrap .i64 ((i : Int) + (1)) = ((i + 1 : Nat) : Int) := (wrap_i64 (by omega) (by omega)).trans (by omega)
     refine ⟨_,rfl,?_⟩
     exact ⟨i + 1,a.x.items.length - (i + 1),by omega,⟨rfl,rfl,congrArg (Value.int .i64) ew29,trivial⟩,⟨rfl,rfl,trivial⟩,rfl,by omega,same_next (f := fun x => x) hy33 hy38 h40 heq,rfl⟩
    ·replace h40 : ¬ x33 = x38 := h40.1 rfl
     refine AW.cutM (gg) st [(2,vL 2 0 (0)),(3,vL 3 0 (1)),(5,vI (i : Int)),(27,vB true),(40,vB true)] [(2,0,[vS a.p a.x.items.length,vS a.q a.x.floors.length]),(3,1,[vS b.p b.x.items.length,vS b.q b.x.floors.length])] ⟨rfl,rfl,rfl,rfl,rfl,trivial⟩ ⟨rfl,rfl,trivial⟩ rfl fun ρ0 ff => ?_
     refine cxs ?_
     exact ⟨.inl rfl,_,rfl,false,rfl,⟨fun h => absurd h Bool.false_ne_true,fun h => (show False from (absurd (same_at hy33 hy38 (congrArg Sta.items h)) h40)).elim⟩,rfl⟩
  ·replace h21 : ¬ ((a.x.floors.length : Int) = (b.x.floors.length : Int)) := bne_iff_ne.1 h21
   refine ⟨_,rfl,?_⟩
   refine AW.cutM (2) st [(2,vL 2 0 (0)),(3,vL 3 0 (1)),(4,vB false),(22,vB true)] [(2,0,[vS a.p a.x.items.length,vS a.q a.x.floors.length]),(3,1,[vS b.p b.x.items.length,vS b.q b.x.floors.length])] ⟨rfl,rfl,rfl,rfl,trivial⟩ ⟨rfl,rfl,trivial⟩ rfl fun ρ0 ff => ?_
   refine cxs ?_
   exact ⟨.inl rfl,_,rfl,false,rfl,⟨fun h => absurd h Bool.false_ne_true,fun h => (show False from (absurd (congrArg (fun l : Sta => (l.floors.length : Int)) h) h21)).elim⟩,rfl⟩
 ·replace h13 : ¬ ((a.x.items.length : Int) = (b.x.items.length : Int)) := bne_iff_ne.1 h13
  refine ⟨_,rfl,?_⟩
  refine AW.cutM (2) st [(2,vL 2 0 (0)),(3,vL 3 0 (1)),(4,vB false),(22,vB true)] [(2,0,[vS a.p a.x.items.length,vS a.q a.x.floors.length]),(3,1,[vS b.p b.x.items.length,vS b.q b.x.floors.length])] ⟨rfl,rfl,rfl,rfl,trivial⟩ ⟨rfl,rfl,trivial⟩ rfl fun ρ0 ff => ?_
  refine cxs ?_
  exact ⟨.inl rfl,_,rfl,false,rfl,⟨fun h => absurd h Bool.false_ne_true,fun h => (show False from (absurd (congrArg (fun l : Sta => (l.items.length : Int)) h) h13)).elim⟩,rfl⟩
theorem ac_spec_DrawStateBytes (p : Option Addr) (bs : List Int) (st : St) (hI : Ints st .u8 p bs) (hs : bs.length < 1099511627776) : C 46 [vS p bs.length] st (fun v s => ∃ (u : SV),v = .agg #[vS u.p u.x.items.length,vS u.q u.x.floors.length] ∧ smS 6 u.x ∧ Frs st s (pcS u)) := by
 refine AC.enterX (i := ⟨[2],[2],[0,2],[]⟩) [] Try.func46 rfl rfl (by kernel_rfl) (by kernel_rfl) Try.ntmps46 (Nat.le_of_ble_eq_true rfl) rfl ?_
 refine ⟨_,rfl,?_⟩
 refine AW.cutM (1) st [(0,vS p bs.length),(2,vL 2 0 (0))] [(2,0,[.slice none 0 0,.slice none 0 0])] ⟨rfl,rfl,trivial⟩ ⟨rfl,trivial⟩ rfl fun ρ0 ff => ?_
 refine ⟨_,rfl,(ac_spec_l1New p bs st hI (by first | assumption | omega)).mono ?_⟩
 rintro _ s4 ⟨rfl,hC4,hP4,h4⟩
 refine ⟨_,rfl,(ac_d_l3Draw st.next s4 hC4 (by first | assumption | omega)).mono ?_⟩
 rintro _ s5 ⟨u5,rfl,h5,hF5,hC5⟩
 refine ⟨_,op_sto rfl rfl rfl rfl rfl rfl rfl,?_⟩
 refine cxs ?_
 exact ⟨.inl rfl,_,rfl,u5,rfl,h5,hF5.out hP4⟩
def putT {α : Type} (t : List α) (K : Nat) (x : α) : List α := t.take K ++ x :: t.drop (K + 1)
theorem OwnP.put {st st' : St} {q : Option Addr} {u : List RV} {K : Nat} {a : Option Addr} {l l' : List Int} (h : OwnP st (pcT q (putT u K ⟨a,l⟩))) (hp : Pr a st st') (ho : OwnR st' 1 fI a l') (hl : l'.length = l.length) : OwnP st' (pcT q (putT u K ⟨a,l'⟩)) := by
 have h1 : pcT q (putT u K ⟨a,l⟩) = (pcR 1 cRV q (putT u K ⟨a,l⟩) :: (u.take K).map pcRV) ++ pcRV ⟨a,l⟩ :: (u.drop (K + 1)).map pcRV := by simp [pcT,putT]
 have h2 : pcT q (putT u K ⟨a,l'⟩) = (pcR 1 cRV q (putT u K ⟨a,l⟩) :: (u.take K).map pcRV) ++ pcRV ⟨a,l'⟩ :: (u.drop (K + 1)).map pcRV := by simp [pcT,putT,pcR,hl]
 rw [h1] at h
 rw [h2]
 exact OwnP.update h hp (own_pc ho) rfl
theorem mem_ps {q : Option Addr} {t : List RV} {p : Option Addr} (h : p ∈ t.map (·.p)) : ∃ c ∈ pcT q t,c.p = p := by
 obtain ⟨r,hr,rfl⟩ := List.mem_map.1 h
 exact ⟨pcRV r,List.mem_cons_of_mem _ (List.mem_map_of_mem hr),rfl⟩
theorem OwnP.after {st0 s s' : St} {l : List Pc} {q : Option Addr} {t : List RV} {n : Nat} (h : OwnP s l) (h0 : OwnP st0 l) (hn : st0.next ≤ n) (hN : NewP n (pcT q t)) (hL : PrL (t.map (·.p)) s s') : OwnP s' l :=
 h.prl hL fun c hc p hp => by
  obtain ⟨d,hd,rfl⟩ := mem_ps (q := q) hp
  exact (Dis.of (((h0.1 c hc).old).le hn) (hN d hd)).symm
theorem OwnP.before {st0 s s' : St} {l : List Pc} {q : Option Addr} {t : List RV} {n : Nat} (h : OwnP s l) (hN : NewP n l) (h0 : OwnP st0 (pcT q t)) (hn : st0.next ≤ n) (hL : PrL (t.map (·.p)) s s') : OwnP s' l :=
 h.prl hL fun c hc p hp => by
  obtain ⟨d,hd,rfl⟩ := mem_ps (q := q) hp
  exact Dis.of (((h0.1 d hd).old).le hn) (hN c hc)
theorem FrC.oneF {c : Nat} {a b : St} {z : Nat} {α : Type} {f : α → List Value} {q : Option Addr} {l : List α} (hO : OwnR b z f q l) (hN : New a.next q) (hP : Pres a b) (hc : c < a.next) : FrC c a b [pcR z f q l] := ⟨OwnP.one (own_pc hO),NewP.cons hN NewP.nil,hP.c,hc⟩
section
variable {P : Program} {ls : List Tmp} {call : ACallT} {o : Oper} {e : Operand → Value} {lo : Lo} {st : St}
theorem op_slH {t el : TypeId} {x w : Operand} {p : Option Addr} {n j z : Nat} {b : Int} (ho : o.op = .slice t x none (some w) none) (hx : e x = .slice p n n) (hw : e w = vI b) (hb : b = (j : Int)) (he : telem P t = some el) (hz : tsize P el = some z) (h1 : j ≤ n) : aoper P ls call o e lo st = some (.slice p j j,lo,st) := by
 obtain ⟨d,op,ty,pos,after,gd⟩ := o
 simp only at ho
 subst ho hb
 have hp : (p.map fun q => (⟨q.block,q.off + 0 * z,q.spot⟩ : Addr)) = p := by cases p <;> simp
 simp only [aoper,rop,hx,hw,aslice,he,hz,Option.bind_some,Option.map_none,Option.map_some,abound,Option.bind]
 rw [if_pos (Int.natCast_nonneg j)]
 simp only [Int.toNat_natCast]
 rw [if_pos ⟨Nat.zero_le _,h1⟩,hp]
 rfl
end
theorem AC.fls {f : FuncId} {args : List Value} {st : St} {P : Prop} (h : C f args st (fun v s => ∃ x,v = .bool x ∧ (x = true ↔ P) ∧ s = st)) (hp : ¬ P) : C f args st (fun v s => v = vB false ∧ s = st) :=
 h.mono fun v s ⟨x,h1,h2,h3⟩ => ⟨by rw [h1]; cases x; rfl; exact absurd (h2.1 rfl) hp,h3⟩
theorem putN_inj {n m : Int} {r t : List Int} (hn : 0 ≤ n ∧ n ≤ 2147483647) (hm : 0 ≤ m ∧ m ≤ 2147483647) (h : putN n ++ r = putN m ++ t) : n = m ∧ r = t := by
 have h1 : Sf (putN n ++ r) 0 (putN n ++ r) := Sf.start _
 have h2 : Sf (putN n ++ r) 0 (putN m ++ t) := by rw [← h]; exact Sf.start _
 rcases hr : rnF (putN n ++ r) 0 false with ⟨x,k,b⟩
 obtain ⟨e1,_,e2⟩ := h1.num hn rfl hr.symm
 obtain ⟨e3,_,e4⟩ := h2.num hm rfl hr.symm
 obtain ⟨k1,rfl,_,e2⟩ := e2
 obtain ⟨k2,hk,_,e4⟩ := e4
 have : k1 = k2 := by omega
 subst this
 exact ⟨by rw [← e1,e3],by rw [← e2,e4]⟩
theorem putS_inj {n m : ByteArray} {r t : List Int} (hn : n.size ≤ 2147483647) (hm : m.size ≤ 2147483647) (h : putS n ++ r = putS m ++ t) : n = m ∧ r = t := by
 have h1 : Sf (putS n ++ r) 0 (putS n ++ r) := Sf.start _
 have h2 : Sf (putS n ++ r) 0 (putS m ++ t) := by rw [← h]; exact Sf.start _
 rcases hr : gtR (putS n ++ r) 0 with ⟨x,k,b⟩
 obtain ⟨e1,_,e2⟩ := h1.gt hn hr.symm
 obtain ⟨e3,_,e4⟩ := h2.gt hm hr.symm
 obtain ⟨k1,rfl,_,e2⟩ := e2
 obtain ⟨k2,hk,_,e4⟩ := e4
 have : k1 = k2 := by omega
 subst this
 exact ⟨by rw [← e1,e3],by rw [← e2,e4]⟩
def itR (x : Itm) : Prop := (0 ≤ x.id ∧ x.id ≤ 2147483647) ∧ (0 ≤ x.e.inc ∧ x.e.inc ≤ 2147483647) ∧ (0 ≤ x.e.rank ∧ x.e.rank ≤ 2147483647) ∧ (0 ≤ x.e.beat ∧ x.e.beat ≤ 2147483647) ∧ (0 ≤ x.e.ver ∧ x.e.ver ≤ 2147483647) ∧ x.e.data.size ≤ 2147483647
def flR (x : Flr) : Prop := (0 ≤ x.id ∧ x.id ≤ 2147483647) ∧ (0 ≤ x.inc ∧ x.inc ≤ 2147483647)
theorem itB_inj {x y : Itm} {r t : List Int} (hx : itR x) (hy : itR y) (h : itB x ++ r = itB y ++ t) : x = y ∧ r = t := by
 have e : ∀ (x : Itm) (r : List Int),itB x ++ r = putN x.id ++ (putN x.e.inc ++ (putN x.e.rank ++ (putN x.e.beat ++ (putN x.e.ver ++ (putS x.e.data ++ r))))) := fun x r => by simp [itB,numsB,itL,List.append_assoc]
 rw [e,e] at h
 obtain ⟨x1,x2,x3,x4,x5,x6⟩ := hx
 obtain ⟨y1,y2,y3,y4,y5,y6⟩ := hy
 obtain ⟨a1,h⟩ := putN_inj x1 y1 h
 obtain ⟨a2,h⟩ := putN_inj x2 y2 h
 obtain ⟨a3,h⟩ := putN_inj x3 y3 h
 obtain ⟨a4,h⟩ := putN_inj x4 y4 h
 obtain ⟨a5,h⟩ := putN_inj x5 y5 h
 obtain ⟨a6,hfin⟩ := putS_inj x6 y6 h
 obtain ⟨i,⟨b,c,d,f,g⟩⟩ := x
 obtain ⟨i',⟨b',c',d',f',g'⟩⟩ := y
 simp only at a1 a2 a3 a4 a5 a6
 subst a1 a2 a3 a4 a5 a6
 exact ⟨rfl,hfin⟩
theorem flB_inj {x y : Flr} {r t : List Int} (hx : flR x) (hy : flR y) (h : flB x ++ r = flB y ++ t) : x = y ∧ r = t := by
 simp only [flB,List.append_assoc] at h
 obtain ⟨a1,h⟩ := putN_inj hx.1 hy.1 h
 obtain ⟨a2,hfin⟩ := putN_inj hx.2 hy.2 h
 obtain ⟨i,b⟩ := x
 obtain ⟨i',b'⟩ := y
 simp only at a1 a2
 subst a1 a2
 exact ⟨rfl,hfin⟩
theorem rows_inj {α : Type} {g : α → List Int} {Q : α → Prop} (hg : ∀ {x y : α} {r t : List Int},Q x → Q y → g x ++ r = g y ++ t → x = y ∧ r = t) : ∀ {a b : List α} {r t : List Int},a.length = b.length → (∀ x ∈ a,Q x) → (∀ x ∈ b,Q x) → a.flatMap g ++ r = b.flatMap g ++ t → a = b ∧ r = t
 | [],[],r,t,_,_,_,h => ⟨rfl,h⟩
 | [],y :: b,r,t,hl,_,_,_ => by cases hl
 | x :: a,[],r,t,hl,_,_,_ => by cases hl
 | x :: a,y :: b,r,t,hl,ha,hb,h => by
  simp only [List.flatMap_cons,List.append_assoc] at h
  obtain ⟨h1,h2⟩ := hg (ha x (List.mem_cons_self ..)) (hb y (List.mem_cons_self ..)) h
  obtain ⟨h3,h4⟩ := rows_inj hg (by simpa using hl) (fun z hz => ha z (List.mem_cons_of_mem _ hz)) (fun z hz => hb z (List.mem_cons_of_mem _ hz)) h2
  rw [h1,h3]; exact ⟨rfl,h4⟩
theorem items_R {s : Sta} (h : stateOk s) : ∀ x ∈ s.items,itR x := fun x hx => by
 obtain ⟨j,hj⟩ := List.getElem?_of_mem hx
 exact item_rng h hj
theorem floors_R {s : Sta} (h : stateOk s) : ∀ x ∈ s.floors,flR x := fun x hx => by
 obtain ⟨j,hj⟩ := List.getElem?_of_mem hx
 exact floor_rng h hj
theorem stB_app {a b : Sta} {r t : List Int} (ha : stateOk a) (hb : stateOk b) (h : stB a ++ r = stB b ++ t) : a = b ∧ r = t := by
 rw [stB_eq,stB_eq] at h
 simp only [List.append_assoc] at h
 have a5 := items_len ha
 have b5 := items_len hb
 have a6 := marks_len ha.2
 have b6 := marks_len hb.2
 obtain ⟨e1,h⟩ := putN_inj ⟨by omega,by omega⟩ ⟨by omega,by omega⟩ h
 obtain ⟨e2,h⟩ := rows_inj (g := itB) (Q := itR) itB_inj (by omega) (items_R ha) (items_R hb) h
 obtain ⟨e3,h⟩ := putN_inj ⟨by omega,by omega⟩ ⟨by omega,by omega⟩ h
 obtain ⟨e4,h⟩ := rows_inj (g := flB) (Q := flR) flB_inj (by omega) (floors_R ha) (floors_R hb) h
 exact ⟨sta_of e2 e4,h⟩
theorem stB_inj {a b : Sta} (ha : stateOk a) (hb : stateOk b) (h : stB a = stB b) : a = b := (stB_app (r := []) (t := []) ha hb (by rw [h])).1
open Classical in
noncomputable def stBz (s : Sta) : List Int := if stateOk s then stB s else []
theorem stBz_ok (s : Sta) : bytesOk (stBz s) := by
 unfold stBz
 split
 ·exact stB_ok s
 ·exact fun x hx => by cases hx
theorem stBz_len (s : Sta) : (stBz s).length ≤ 260 := by
 unfold stBz
 split
 ·rename_i h
  have := stB_len h
  have := items_len h
  have := marks_len h.2
  omega
 ·exact Nat.zero_le _
theorem an_impl_StateBytes (s : SV) (st : St) (hR : RdS st s) (hb : bigS s.x) (hk : ¬ stateOk s.x) : C 47 [.agg #[vS s.p s.x.items.length,vS s.q s.x.floors.length]] st (fun v s' => v = vS none 0 ∧ s' = st) := by
 refine AC.enterX (i := ⟨[1,5,6,8],[1,5,6,8,12,16,23,26,29,32,35,38,41,48,54,62,65],[0,1,2,3,5,6,8,11,17,18,19,20,55,56,57,58],[]⟩) [(8,[3,6,9,12,15],[5,8,11,14,17]),(14,[3],[5])] Try.func47 rfl rfl (by kernel_rfl) (by kernel_rfl) Try.ntmps47 (Nat.le_of_ble_eq_true rfl) rfl ?_
 refine ⟨_,rfl,?_⟩
 refine AW.cutM (1) st [(1,vL 1 0 (0)),(2,.slice none 0 0)] [(1,0,[vS s.p s.x.items.length,vS s.q s.x.floors.length])] ⟨rfl,rfl,trivial⟩ ⟨rfl,trivial⟩ rfl fun ρ0 ff => ?_
 refine ⟨_,op_ldo rfl rfl rfl rfl,?_⟩
 refine ⟨_,rfl,(AC.fls (ac_impl_StateOk s st hR hb) hk).mono ?_⟩
 rintro _ st ⟨rfl,rfl⟩
 refine ⟨_,rfl,?_⟩
 refine AW.cutM (1) st [(1,vL 1 0 (0)),(2,.slice none 0 0),(11,vB true)] [(1,0,[vS s.p s.x.items.length,vS s.q s.x.floors.length])] ⟨rfl,rfl,rfl,trivial⟩ ⟨rfl,trivial⟩ rfl fun ρ0 ff => ?_
 refine cxs ?_
 exact ⟨.inl rfl,_,rfl,rfl,rfl⟩
theorem az_impl_StateBytes (s : SV) (st : St) (hR : RdS st s) (hb : bigS s.x) : C 47 [.agg #[vS s.p s.x.items.length,vS s.q s.x.floors.length]] st (fun v s' => ∃ q,v = vS q (stBz s.x).length ∧ OwnR s' 1 fB q (stBz s.x) ∧ New st.next q ∧ Pres st s') := by
 by_cases hk : stateOk s.x
 ·rw [show stBz s.x = stB s.x from if_pos hk]
  exact ac_impl_StateBytes s st hR hb hk
 ·rw [show stBz s.x = [] from if_neg hk]
  exact (an_impl_StateBytes s st hR hb hk).mono fun v s' ⟨h1,h2⟩ => ⟨none,h1,.inl ⟨rfl,rfl⟩,New.none,h2 ▸ Pres.refl _⟩
theorem az_spec_StateBytes (s : SV) (st : St) (hR : RdS st s) (hb : bigS s.x) : C 114 [.agg #[vS s.p s.x.items.length,vS s.q s.x.floors.length]] st (fun v s' => ∃ q,v = vS q (stBz s.x).length ∧ OwnR s' 1 fB q (stBz s.x) ∧ New st.next q ∧ Pres st s') := by
 refine AC.enterX (i := ⟨[1],[1],[0,1,2,5],[]⟩) [] Try.func114 rfl rfl (by kernel_rfl) (by kernel_rfl) Try.ntmps114 (Nat.le_of_ble_eq_true rfl) rfl ?_
 refine ⟨_,rfl,?_⟩
 refine AW.cutM (1) st [(1,vL 1 0 (0)),(2,.slice none 0 0)] [(1,0,[vS s.p s.x.items.length,vS s.q s.x.floors.length])] ⟨rfl,rfl,trivial⟩ ⟨rfl,trivial⟩ rfl fun ρ0 ff => ?_
 refine ⟨_,op_ldo rfl rfl rfl rfl,?_⟩
 refine ⟨_,rfl,(ac_spec_StateOk s st hR (by first | assumption | omega)).mono ?_⟩
 rintro _ st ⟨x4,rfl,h4,rfl⟩
 rcases x4 with _|_
 ·replace h4 := fun k => Bool.false_ne_true (h4.2 k)
  refine ⟨_,rfl,?_⟩
  refine AW.cutM (1) st [(1,vL 1 0 (0)),(2,.slice none 0 0),(5,vB true)] [(1,0,[vS s.p s.x.items.length,vS s.q s.x.floors.length])] ⟨rfl,rfl,rfl,trivial⟩ ⟨rfl,trivial⟩ rfl fun ρ0 ff => ?_
  refine op_nilK (z := 1) (f := fB) rfl rfl rfl rfl (by decide) rfl ?_
  intro q6 s6 hO6 hP6 hN6
  refine cxs ?_
  exact ⟨.inl rfl,_,rfl,q6,by rw [show stBz s.x = [] from if_neg h4]; rfl,by rw [show stBz s.x = [] from if_neg h4]; exact hO6,hN6,hP6⟩
 ·replace h4 := h4.1 rfl
  refine ⟨_,rfl,?_⟩
  refine AW.cutM (1) st [(1,vL 1 0 (0)),(2,.slice none 0 0),(5,vB false)] [(1,0,[vS s.p s.x.items.length,vS s.q s.x.floors.length])] ⟨rfl,rfl,rfl,trivial⟩ ⟨rfl,trivial⟩ rfl fun ρ0 ff => ?_
  refine cxs ?_
  refine ⟨_,op_ldo rfl rfl rfl rfl,?_⟩
  refine ⟨_,rfl,(ac_spec_l6Bytes s st hR (by first | assumption | omega) (by first | assumption | omega)).mono ?_⟩
  rintro _ s8 ⟨q8,rfl,hO8,hN8,hP8⟩
  refine cxs ?_
  exact ⟨.inl rfl,_,rfl,q8,by rw [show stBz s.x = stB s.x from if_pos h4]; rfl,by rw [show stBz s.x = stB s.x from if_pos h4]; exact hO8,hN8,hP8⟩
theorem ac_spec_DrawStateOf (p : Option Addr) (bs : List Int) (st : St) (hI : Ints st .u8 p bs) (hs : bs.length < 1099511627776) : C 50 [vS p bs.length] st (fun v s => ∃ (q : Option Addr) (l : List Int),v = vS q l.length ∧ bytesOk l ∧ l.length ≤ 300 ∧ Rows s 1 fB q l ∧ Pres st s) := by
 refine AC.enterX (i := ⟨[],[],[0,2,3,4,12,14,15,20,28],[]⟩) [] Try.func50 rfl rfl (by kernel_rfl) (by kernel_rfl) Try.ntmps50 (Nat.le_of_ble_eq_true rfl) rfl ?_
 refine AW.cut lo0 st [(0,vS p bs.length),(2,.slice none 0 0)] ⟨rfl,rfl,trivial⟩ fun ρ0 => ?_
 refine ⟨_,rfl,(ac_spec_l1New p bs st hI (by first | assumption | omega)).mono ?_⟩
 rintro _ s6 ⟨rfl,hC6,hP6,h6⟩
 refine AW.cut lo0 s6 [(2,.slice none 0 0),(3,vP st.next 0)] ⟨rfl,rfl,trivial⟩ fun ρ0 => ?_
 refine ⟨_,rfl,(ac_d_l3Draw st.next s6 hC6 (by first | assumption | omega)).mono ?_⟩
 rintro _ s8 ⟨u8,rfl,h8,hF8,hC8⟩
 refine ⟨_,rfl,(az_spec_StateBytes u8 s8 hF8.1.rdS (h8.big (by decide))).mono ?_⟩
 rintro _ s9 ⟨q9,rfl,hO9,hN9,hP9⟩
 refine AW.cut lo0 s9 [(2,.slice none 0 0),(3,vP st.next 0),(4,vS q9 (stBz u8.x).length)] ⟨rfl,rfl,rfl,trivial⟩ fun ρ0 => ?_
 have hC9 := hC8.pres hP9
 have hlen := stBz_len u8.x
 have hby := stBz_ok u8.x
 have hPs : Pres st s9 := (hF8.out hP6).2.2.trans hP9
 have hF9 : FrC st.next s6 s9 [pcR 1 fB q9 (stBz u8.x)] := (FrC.oneF hO9 hN9 hP9 hF8.lt).sooner hF8.2.2.1 hC6.lt
 iterate 2 refine ⟨_,rfl,?_⟩
 rintro (_|_) h12
 ·replace h12 : ¬ (((stBz u8.x).length : Int) > (0)) := of_decide_eq_false h12
  refine AW.cut lo0 s9 [(2,.slice none 0 0),(3,vP st.next 0),(4,vS q9 (stBz u8.x).length),(12,vB false)] ⟨rfl,rfl,rfl,rfl,trivial⟩ fun ρ0 => ?_
  refine cxs ?_
  refine cxs ?_
  exact ⟨.inl rfl,_,rfl,q9,_,rfl,hby,by omega,hO9.rows fB_len,hPs⟩
 ·replace h12 : ((stBz u8.x).length : Int) > (0) := of_decide_eq_true h12
  refine AW.cut lo0 s9 [(2,.slice none 0 0),(3,vP st.next 0),(4,vS q9 (stBz u8.x).length),(12,vB true)] ⟨rfl,rfl,rfl,rfl,trivial⟩ fun ρ0 => ?_
  refine ⟨_,rfl,(ac_d_l1Below st.next 5 s9 hC9 (by first | assumption | omega)).mono ?_⟩
  rintro _ s14 ⟨r14,rfl,h14,h14',h14'',hC14,hL14⟩
  refine AW.cut lo0 s14 [(2,.slice none 0 0),(3,vP st.next 0),(4,vS q9 (stBz u8.x).length),(14,vI r14)] ⟨rfl,rfl,rfl,rfl,trivial⟩ fun ρ0 => ?_
  have hF14 := hF9.later hL14
  have hO14 : OwnR s14 1 fB q9 (stBz u8.x) := own_one (by decide) fB_len hF14.1
  have hP14 : Pres st s14 := (hF14.out hP6).2.2
  refine ⟨_,rfl,?_⟩
  rintro (_|_) h16
  ·replace h16 : ¬ (r14 = (0)) := beq_eq_false_iff_ne.1 h16
   refine AW.cut lo0 s14 [(2,.slice none 0 0),(3,vP st.next 0),(4,vS q9 (stBz u8.x).length),(14,vI r14),(15,vB false)] ⟨rfl,rfl,rfl,rfl,rfl,trivial⟩ fun ρ0 => ?_
   refine ⟨_,rfl,?_⟩
   rintro (_|_) h21
   ·replace h21 : ¬ (r14 = (1)) := beq_eq_false_iff_ne.1 h21
    refine AW.cut lo0 s14 [(2,.slice none 0 0),(3,vP st.next 0),(4,vS q9 (stBz u8.x).length),(14,vI r14),(20,vB false)] ⟨rfl,rfl,rfl,rfl,rfl,trivial⟩ fun ρ0 => ?_
    refine ⟨_,rfl,?_⟩
    rintro (_|_) h29
    ·replace h29 : ¬ (r14 = (2)) := beq_eq_false_iff_ne.1 h29
     refine AW.cut lo0 s14 [(2,.slice none 0 0),(3,vP st.next 0),(4,vS q9 (stBz u8.x).length),(28,vB false)] ⟨rfl,rfl,rfl,rfl,trivial⟩ fun ρ0 => ?_
     refine cxs ?_
     refine cxs ?_
     exact ⟨.inl rfl,_,rfl,q9,_,rfl,hby,by omega,hO14.rows fB_len,hP14⟩
    ·replace h29 : r14 = (2) := beq_iff_eq.1 h29
     refine AW.cut lo0 s14 [(2,.slice none 0 0),(3,vP st.next 0),(4,vS q9 (stBz u8.x).length),(28,vB true)] ⟨rfl,rfl,rfl,rfl,trivial⟩ fun ρ0 => ?_
     refine ⟨_,rfl,?_⟩
     refine ⟨_,rfl,(ac_d_l1Below st.next ((stBz u8.x).length : Int) s14 hC14 (by first | assumption | omega)).mono ?_⟩
     rintro _ s34 ⟨r34,rfl,h34,h34',h34'',hC34,hL34⟩
     refine ⟨_,rfl,(ac_l1Byte st.next p bs s34 hC34 (by omega)).mono ?_⟩
     rintro _ s36 ⟨r36,rfl,h36,h36',hC36,hL36⟩
     refine ⟨_,op_toB (r := r36) rfl rfl rfl rfl rfl rfl h36 h36',?_⟩
     have hF36 := (hF14.later hL34).later hL36
     have hO36 : OwnR s36 1 fB q9 (stBz u8.x) := own_one (by decide) fB_len hF36.1
     have hr34 := h34' (by omega)
     obtain ⟨a,ha⟩ := hO36.some (by omega)
     refine ⟨_,op_idx (j := r34) (n := (stBz u8.x).length) (q := ⟨a,0,none⟩) rfl (congrArg (fun v => vS v (stBz u8.x).length) ha) rfl rfl rfl h34 hr34,?_⟩
     refine op_put (st := s36) (f := fB) (j := r34.toNat) (l := stBz u8.x) (y := r36) (p := q9) (d := 0 + r34.toNat * 1) rfl rfl (Nat.zero_add _) rfl rfl fB_len rfl rfl (by omega) hO36 ha ?_
     intro s38 hO38 hP38 hn38
     refine cxs ?_
     refine cxs ?_
     exact ⟨.inl rfl,_,rfl,q9,(stBz u8.x).set r34.toNat r36,congrArg (vS q9) List.length_set.symm,fun x hx => by
      rcases List.mem_or_eq_of_mem_set hx with hx | rfl
      ·exact hby x hx
      ·exact ⟨h36,h36'⟩,by rw [List.length_set]; omega,hO38.rows fB_len,hP38.pres (hF36.out hP6).2.2 (hF36.2.1.le hP6.1 _ (List.mem_cons_self ..))⟩
   ·replace h21 : r14 = (1) := beq_iff_eq.1 h21
    refine AW.cut lo0 s14 [(2,.slice none 0 0),(3,vP st.next 0),(4,vS q9 (stBz u8.x).length),(14,vI r14),(20,vB true)] ⟨rfl,rfl,rfl,rfl,rfl,trivial⟩ fun ρ0 => ?_
    refine ⟨_,rfl,?_⟩
    refine ⟨_,rfl,(ac_d_l1Below st.next ((stBz u8.x).length : Int) s14 hC14 (by first | assumption | omega)).mono ?_⟩
    rintro _ s26 ⟨r26,rfl,h26,h26',h26'',hC26,hL26⟩
    have hF26 := hF14.later hL26
    have hr26 := h26' (by omega)
    obtain ⟨j,hj⟩ : ∃ j : Nat,r26 = (j : Int) := ⟨r26.toNat,by omega⟩
    have hlt : ((stBz u8.x).take j).length = j := by rw [List.length_take]; omega
    refine ⟨_,op_slH (p := q9) (n := (stBz u8.x).length) (j := j) rfl rfl rfl hj rfl rfl (by omega),?_⟩
    refine cxs ?_
    refine cxs ?_
    exact ⟨.inl rfl,_,rfl,q9,(stBz u8.x).take j,congrArg (vS q9) hlt.symm,fun x hx => hby x (List.mem_of_mem_take hx),by omega,((own_one (by decide) fB_len hF26.1).rows fB_len).take j,(hF26.out hP6).2.2⟩
  ·replace h16 : r14 = (0) := beq_iff_eq.1 h16
   refine AW.cut lo0 s14 [(2,.slice none 0 0),(3,vP st.next 0),(4,vS q9 (stBz u8.x).length),(14,vI r14),(15,vB true)] ⟨rfl,rfl,rfl,rfl,rfl,trivial⟩ fun ρ0 => ?_
   refine op_one (z := 1) (a := ((0 : Int) : Int)) (f := fB) rfl rfl rfl rfl rfl (by decide) rfl (Nat.le_of_ble_eq_true rfl) rfl rfl rfl ?_
   refine op_snoc (z := 1) (st := s14) (f := fB) (b := 1) (l := stBz u8.x) (x := (0 : Int)) rfl rfl rfl rfl rfl rfl rfl (by decide) fB_len rfl rfl rfl (by omega) (by unfold maxLen; omega) hO14 ?_
   intro q19 s19 hO19 hP19 hN19
   refine cxs ?_
   refine cxs ?_
   exact ⟨.inl rfl,_,rfl,q19,_,rfl,hby.app (fun x hx => by rw [List.mem_singleton.1 hx]; decide),by rw [List.length_append,List.length_singleton]; omega,hO19.rows fB_len,hP19.pres hP14 (hF14.2.1.le hP6.1 _ (List.mem_cons_self ..))⟩
theorem parse_of {s u : Sta} {b : Bool} (h : stateOk s) (he : (u,b) = parseS (stB s)) : b = true ∧ u = s := by
 cases b with
 | true =>
  obtain ⟨h1,h2⟩ := parse_yes he
  exact ⟨rfl,stB_inj h1 h h2⟩
 | false =>
  unfold parseS at he
  rw [dif_pos ⟨s,h,rfl⟩] at he
  injection he with _ he; cases he
theorem stB_nil {s : Sta} (h : stateOk s) : stB s ≠ [] := fun e => by have := stB_pos h; rw [e] at this; cases this
theorem parse_nil {u : Sta} {b : Bool} (he : (u,b) = parseS []) : b = false := by
 cases b with
 | false => rfl
 | true => exact absurd (parse_yes he).2 (stB_nil (parse_yes he).1)
theorem ac_laws_FnStateBytes (p : Option Addr) (bs : List Int) (st : St) (hI : Ints st .u8 p bs) : C 8 [vS p bs.length] st (fun v s => v = vB true) := by
 refine AC.enterX (i := ⟨[3,5,8,10],[3,5,8,10],[0,2,3,4,5,6,7,8,9,11,13,35],[]⟩) [(11,[8],[11])] Try.func8 rfl rfl (by kernel_rfl) (by kernel_rfl) Try.ntmps8 (Nat.le_of_ble_eq_true rfl) rfl ?_
 refine AW.cutM (0) st [(0,vS p bs.length),(2,vB false)] [] ⟨rfl,rfl,trivial⟩ trivial rfl fun ρ0 ff => ?_
 refine ⟨_,rfl,(ac_laws_big p bs.length st).mono ?_⟩
 rintro _ st ⟨x13,rfl,h13,rfl⟩
 rcases x13 with _|_
 ·replace h13 := of_decide_eq_false h13.symm
  refine AW.cutM (0) st [(0,vS p bs.length),(2,vB false),(13,vB false)] [] ⟨rfl,rfl,rfl,trivial⟩ trivial rfl fun ρ0 ff => ?_
  refine cxs ?_
  refine ⟨_,rfl,(ac_spec_DrawStateBytes p bs st hI (by first | assumption | omega)).mono ?_⟩
  rintro _ s15 ⟨u15,rfl,h15,hF15⟩
  refine ⟨_,rfl,?_⟩
  refine ⟨_,op_sto rfl rfl rfl rfl rfl rfl rfl,?_⟩
  refine AW.cutM (1) s15 [(0,vS p bs.length),(2,vB false),(3,vL 3 0 (0))] [(3,0,[vS u15.p u15.x.items.length,vS u15.q u15.x.floors.length])] ⟨rfl,rfl,rfl,trivial⟩ ⟨rfl,trivial⟩ rfl fun ρ0 ff => ?_
  have hb15 := h15.big (by decide)
  refine ⟨_,op_ldo rfl rfl rfl rfl,?_⟩
  refine ⟨_,rfl,(az_impl_StateBytes u15 s15 hF15.1.rdS hb15).mono ?_⟩
  rintro _ s17 ⟨q17,rfl,hO17,hN17,hP17⟩
  refine AW.cutM (1) s17 [(0,vS p bs.length),(2,vB false),(3,vL 3 0 (0)),(4,vS q17 (stBz u15.x).length)] [(3,0,[vS u15.p u15.x.items.length,vS u15.q u15.x.floors.length])] ⟨rfl,rfl,rfl,rfl,trivial⟩ ⟨rfl,trivial⟩ rfl fun ρ0 ff => ?_
  have hl17 := stBz_len u15.x
  have hr17 : Rows s17 1 fB q17 (stBz u15.x) := hO17.rows fB_len
  refine ⟨_,rfl,(ac_impl_StateOf q17 (stBz u15.x) s17 hr17 (stBz_ok _) (by omega)).mono ?_⟩
  rintro _ s20 ⟨u20,b20,rfl,h20,hO20,hN20,hP20⟩
  rcases b20 with _|_
  ·iterate 3 refine ⟨_,rfl,?_⟩
   refine ⟨_,op_sto rfl rfl rfl rfl rfl rfl rfl,?_⟩
   refine AW.cutM (2) s20 [(0,vS p bs.length),(2,vB false),(3,vL 3 0 (0)),(5,vL 5 0 (1)),(6,vB false)] [(3,0,[vS u15.p u15.x.items.length,vS u15.q u15.x.floors.length]),(5,1,[vS u20.p u20.x.items.length,vS u20.q u20.x.floors.length])] ⟨rfl,rfl,rfl,rfl,rfl,trivial⟩ ⟨rfl,rfl,trivial⟩ rfl fun ρ0 ff => ?_
   have hR20 : RdS s20 u15 := ((hF15.1.rdS).pres hP17).pres hP20
   refine ⟨_,op_ldo rfl rfl rfl rfl,?_⟩
   refine ⟨_,rfl,(AC.fls (ac_spec_StateOk u15 s20 hR20 hb15) (fun k => by have h20 := h20; rw [show stBz u15.x = stB u15.x from if_pos k] at h20; have := (parse_of k h20).1; cases this)).mono ?_⟩
   rintro _ s20 ⟨rfl,rfl⟩
   refine ⟨_,rfl,?_⟩
   rintro (_|_) h26
   rotate_left
   ·exact absurd (rfl) (b_ne h26)
   iterate 2 refine ⟨_,rfl,?_⟩
   refine AW.cutM (2) s20 [(0,vS p bs.length),(2,vB false),(35,vB false)] [] ⟨rfl,rfl,rfl,trivial⟩ trivial rfl fun ρ0 ff => ?_
   refine cxs ?_
   refine ⟨_,rfl,(ac_spec_DrawStateOf p bs s20 (((hF15.2.2.trans hP17).trans hP20).ints hI) (by omega)).mono ?_⟩
   rintro _ s37 ⟨q37,l37,rfl,hb37,hl37,hR37,hP37⟩
   refine AW.cutM (2) s37 [(2,vB false),(7,vS q37 l37.length)] [] ⟨rfl,rfl,trivial⟩ trivial rfl fun ρ0 ff => ?_
   refine ⟨_,rfl,(ac_impl_StateOf q37 l37 s37 hR37 hb37 (by omega)).mono ?_⟩
   rintro _ s40 ⟨u40,b40,rfl,h40,hO40,hN40,hP40⟩
   rcases b40 with _|_
   ·iterate 3 refine ⟨_,rfl,?_⟩
    refine ⟨_,op_sto rfl rfl rfl rfl rfl rfl rfl,?_⟩
    refine AW.cutM (3) s40 [(2,vB false),(7,vS q37 l37.length),(8,vL 8 0 (2)),(9,vB false)] [(8,2,[vS u40.p u40.x.items.length,vS u40.q u40.x.floors.length])] ⟨rfl,rfl,rfl,rfl,trivial⟩ ⟨rfl,trivial⟩ rfl fun ρ0 ff => ?_
    refine ⟨_,rfl,(ac_spec_StateOf q37 l37 s40 (hP40.rows hR37) hb37 (by omega)).mono ?_⟩
    rintro _ s45 ⟨u45,b45,rfl,h45,hO45,hN45,hP45⟩
    iterate 3 refine ⟨_,rfl,?_⟩
    refine ⟨_,op_sto rfl rfl rfl rfl rfl rfl rfl,?_⟩
    refine AW.cutM (4) s45 [(2,vB false),(7,vS q37 l37.length),(8,vL 8 0 (2)),(9,vB false),(11,vB b45)] [(8,2,[vS u40.p u40.x.items.length,vS u40.q u40.x.floors.length])] ⟨rfl,rfl,rfl,rfl,rfl,trivial⟩ ⟨rfl,trivial⟩ rfl fun ρ0 ff => ?_
    refine ⟨_,rfl,?_⟩
    rintro (_|_) h50
    ·exact absurd ((congrArg Prod.snd (h40.trans h45.symm))) (beq_eq_false_iff_ne.1 h50)
    iterate 3 refine ⟨_,rfl,?_⟩
    refine cxs ?_
    exact ⟨.inl rfl,_,rfl,rfl⟩
   ·iterate 3 refine ⟨_,rfl,?_⟩
    refine ⟨_,op_sto rfl rfl rfl rfl rfl rfl rfl,?_⟩
    refine AW.cutM (3) s40 [(2,vB false),(7,vS q37 l37.length),(8,vL 8 0 (2)),(9,vB true)] [(8,2,[vS u40.p u40.x.items.length,vS u40.q u40.x.floors.length])] ⟨rfl,rfl,rfl,rfl,trivial⟩ ⟨rfl,trivial⟩ rfl fun ρ0 ff => ?_
    refine ⟨_,rfl,(ac_spec_StateOf q37 l37 s40 (hP40.rows hR37) hb37 (by omega)).mono ?_⟩
    rintro _ s45 ⟨u45,b45,rfl,h45,hO45,hN45,hP45⟩
    iterate 3 refine ⟨_,rfl,?_⟩
    refine ⟨_,op_sto rfl rfl rfl rfl rfl rfl rfl,?_⟩
    refine AW.cutM (4) s45 [(2,vB false),(7,vS q37 l37.length),(8,vL 8 0 (2)),(9,vB true),(11,vB b45)] [(8,2,[vS u40.p u40.x.items.length,vS u40.q u40.x.floors.length])] ⟨rfl,rfl,rfl,rfl,rfl,trivial⟩ ⟨rfl,trivial⟩ rfl fun ρ0 ff => ?_
    have ⟨hk40,hs40⟩ := parse_yes h40
    have hR40 : RdS s45 u40 := hO40.rdS.pres hP45
    have hb40 := big_ok hk40
    have hz40 : stBz u40.x = l37 := by rw [show stBz u40.x = stB u40.x from if_pos hk40]; exact hs40
    have hl0 : 0 < l37.length := by rw [← hs40]; exact stB_pos hk40
    have hR37' : Rows s45 1 fB q37 l37 := hP45.rows (hP40.rows hR37)
    refine ⟨_,rfl,?_⟩
    rintro (_|_) h50
    ·exact absurd ((congrArg Prod.snd (h40.trans h45.symm))) (beq_eq_false_iff_ne.1 h50)
    refine ⟨_,rfl,?_⟩
    refine ⟨_,op_ldo rfl rfl rfl rfl,?_⟩
    refine ⟨_,rfl,(az_impl_StateBytes u40 s45 hR40 hb40).mono ?_⟩
    rintro _ s56 ⟨q56,rfl,hO56,hN56,hP56⟩
    refine ⟨hP56.2,?_⟩
    refine ⟨_,op_strW (l := stBz u40.x) rfl rfl rfl rfl rfl rfl (hO56.rows fB_len) (by rw [hz40]; exact hl0),?_⟩
    refine ⟨_,op_strW (l := l37) rfl rfl rfl rfl rfl rfl (hP56.rows hR37') hl0,?_⟩
    refine ⟨ld_str rfl rfl (rows_lt hR37' hl0),?_⟩
    refine ⟨_,rfl,?_⟩
    rintro (_|_) h60
    ·exact absurd ((by rw [hz40])) (str_bne h60)
    refine ⟨_,op_ldo rfl rfl rfl rfl,?_⟩
    refine ⟨_,rfl,(AC.tru (ac_impl_StateOk u40 s56 (hR40.pres hP56) hb40) hk40).mono ?_⟩
    rintro _ s56 ⟨rfl,rfl⟩
    iterate 3 refine ⟨_,rfl,?_⟩
    refine cxs ?_
    exact ⟨.inl rfl,_,rfl,rfl⟩
  ·iterate 3 refine ⟨_,rfl,?_⟩
   refine ⟨_,op_sto rfl rfl rfl rfl rfl rfl rfl,?_⟩
   refine AW.cutM (2) s20 [(0,vS p bs.length),(2,vB false),(3,vL 3 0 (0)),(5,vL 5 0 (1)),(6,vB true)] [(3,0,[vS u15.p u15.x.items.length,vS u15.q u15.x.floors.length]),(5,1,[vS u20.p u20.x.items.length,vS u20.q u20.x.floors.length])] ⟨rfl,rfl,rfl,rfl,rfl,trivial⟩ ⟨rfl,rfl,trivial⟩ rfl fun ρ0 ff => ?_
   have hR20 : RdS s20 u15 := ((hF15.1.rdS).pres hP17).pres hP20
   refine ⟨_,op_ldo rfl rfl rfl rfl,?_⟩
   refine ⟨_,rfl,(AC.tru (ac_spec_StateOk u15 s20 hR20 hb15) (Classical.byContradiction fun k => by have h20 := h20; rw [show stBz u15.x = [] from if_neg k] at h20; have := parse_nil h20; cases this)).mono ?_⟩
   rintro _ s20 ⟨rfl,rfl⟩
   refine ⟨_,rfl,?_⟩
   rintro (_|_) h26
   rotate_left
   ·exact absurd (rfl) (b_ne h26)
   refine ⟨_,op_ldo rfl rfl rfl rfl,?_⟩
   refine ⟨_,op_ldo rfl rfl rfl rfl,?_⟩
   refine ⟨_,rfl,(AC.tru (ac_spec_StateSame u15 u20 s20 hR20 hO20.rdS hb15) (by
  have hk : stateOk u15.x := Classical.byContradiction fun k => by have h20 := h20; rw [show stBz u15.x = [] from if_neg k] at h20; have := parse_nil h20; cases this
  have h20 := h20
  rw [show stBz u15.x = stB u15.x from if_pos hk] at h20
  exact (parse_of hk h20).2.symm)).mono ?_⟩
   rintro _ s20 ⟨rfl,rfl⟩
   iterate 3 refine ⟨_,rfl,?_⟩
   refine AW.cutM (2) s20 [(0,vS p bs.length),(2,vB false),(35,vB false)] [] ⟨rfl,rfl,rfl,trivial⟩ trivial rfl fun ρ0 ff => ?_
   refine cxs ?_
   refine ⟨_,rfl,(ac_spec_DrawStateOf p bs s20 (((hF15.2.2.trans hP17).trans hP20).ints hI) (by omega)).mono ?_⟩
   rintro _ s37 ⟨q37,l37,rfl,hb37,hl37,hR37,hP37⟩
   refine AW.cutM (2) s37 [(2,vB false),(7,vS q37 l37.length)] [] ⟨rfl,rfl,trivial⟩ trivial rfl fun ρ0 ff => ?_
   refine ⟨_,rfl,(ac_impl_StateOf q37 l37 s37 hR37 hb37 (by omega)).mono ?_⟩
   rintro _ s40 ⟨u40,b40,rfl,h40,hO40,hN40,hP40⟩
   rcases b40 with _|_
   ·iterate 3 refine ⟨_,rfl,?_⟩
    refine ⟨_,op_sto rfl rfl rfl rfl rfl rfl rfl,?_⟩
    refine AW.cutM (3) s40 [(2,vB false),(7,vS q37 l37.length),(8,vL 8 0 (2)),(9,vB false)] [(8,2,[vS u40.p u40.x.items.length,vS u40.q u40.x.floors.length])] ⟨rfl,rfl,rfl,rfl,trivial⟩ ⟨rfl,trivial⟩ rfl fun ρ0 ff => ?_
    refine ⟨_,rfl,(ac_spec_StateOf q37 l37 s40 (hP40.rows hR37) hb37 (by omega)).mono ?_⟩
    rintro _ s45 ⟨u45,b45,rfl,h45,hO45,hN45,hP45⟩
    iterate 3 refine ⟨_,rfl,?_⟩
    refine ⟨_,op_sto rfl rfl rfl rfl rfl rfl rfl,?_⟩
    refine AW.cutM (4) s45 [(2,vB false),(7,vS q37 l37.length),(8,vL 8 0 (2)),(9,vB false),(11,vB b45)] [(8,2,[vS u40.p u40.x.items.length,vS u40.q u40.x.floors.length])] ⟨rfl,rfl,rfl,rfl,rfl,trivial⟩ ⟨rfl,trivial⟩ rfl fun ρ0 ff => ?_
    refine ⟨_,rfl,?_⟩
    rintro (_|_) h50
    ·exact absurd ((congrArg Prod.snd (h40.trans h45.symm))) (beq_eq_false_iff_ne.1 h50)
    iterate 3 refine ⟨_,rfl,?_⟩
    refine cxs ?_
    exact ⟨.inl rfl,_,rfl,rfl⟩
   ·iterate 3 refine ⟨_,rfl,?_⟩
    refine ⟨_,op_sto rfl rfl rfl rfl rfl rfl rfl,?_⟩
    refine AW.cutM (3) s40 [(2,vB false),(7,vS q37 l37.length),(8,vL 8 0 (2)),(9,vB true)] [(8,2,[vS u40.p u40.x.items.length,vS u40.q u40.x.floors.length])] ⟨rfl,rfl,rfl,rfl,trivial⟩ ⟨rfl,trivial⟩ rfl fun ρ0 ff => ?_
    refine ⟨_,rfl,(ac_spec_StateOf q37 l37 s40 (hP40.rows hR37) hb37 (by omega)).mono ?_⟩
    rintro _ s45 ⟨u45,b45,rfl,h45,hO45,hN45,hP45⟩
    iterate 3 refine ⟨_,rfl,?_⟩
    refine ⟨_,op_sto rfl rfl rfl rfl rfl rfl rfl,?_⟩
    refine AW.cutM (4) s45 [(2,vB false),(7,vS q37 l37.length),(8,vL 8 0 (2)),(9,vB true),(11,vB b45)] [(8,2,[vS u40.p u40.x.items.length,vS u40.q u40.x.floors.length])] ⟨rfl,rfl,rfl,rfl,rfl,trivial⟩ ⟨rfl,trivial⟩ rfl fun ρ0 ff => ?_
    have ⟨hk40,hs40⟩ := parse_yes h40
    have hR40 : RdS s45 u40 := hO40.rdS.pres hP45
    have hb40 := big_ok hk40
    have hz40 : stBz u40.x = l37 := by rw [show stBz u40.x = stB u40.x from if_pos hk40]; exact hs40
    have hl0 : 0 < l37.length := by rw [← hs40]; exact stB_pos hk40
    have hR37' : Rows s45 1 fB q37 l37 := hP45.rows (hP40.rows hR37)
    refine ⟨_,rfl,?_⟩
    rintro (_|_) h50
    ·exact absurd ((congrArg Prod.snd (h40.trans h45.symm))) (beq_eq_false_iff_ne.1 h50)
    refine ⟨_,rfl,?_⟩
    refine ⟨_,op_ldo rfl rfl rfl rfl,?_⟩
    refine ⟨_,rfl,(az_impl_StateBytes u40 s45 hR40 hb40).mono ?_⟩
    rintro _ s56 ⟨q56,rfl,hO56,hN56,hP56⟩
    refine ⟨hP56.2,?_⟩
    refine ⟨_,op_strW (l := stBz u40.x) rfl rfl rfl rfl rfl rfl (hO56.rows fB_len) (by rw [hz40]; exact hl0),?_⟩
    refine ⟨_,op_strW (l := l37) rfl rfl rfl rfl rfl rfl (hP56.rows hR37') hl0,?_⟩
    refine ⟨ld_str rfl rfl (rows_lt hR37' hl0),?_⟩
    refine ⟨_,rfl,?_⟩
    rintro (_|_) h60
    ·exact absurd ((by rw [hz40])) (str_bne h60)
    refine ⟨_,op_ldo rfl rfl rfl rfl,?_⟩
    refine ⟨_,rfl,(AC.tru (ac_impl_StateOk u40 s56 (hR40.pres hP56) hb40) hk40).mono ?_⟩
    rintro _ s56 ⟨rfl,rfl⟩
    iterate 3 refine ⟨_,rfl,?_⟩
    refine cxs ?_
    exact ⟨.inl rfl,_,rfl,rfl⟩
 ·replace h13 := of_decide_eq_true h13.symm
  refine AW.cutM (0) st [(0,vS p bs.length),(2,vB false),(13,vB true)] [] ⟨rfl,rfl,rfl,trivial⟩ trivial rfl fun ρ0 ff => ?_
  refine cxs ?_
  exact ⟨.inl rfl,_,rfl,rfl⟩
end Go.Proofs.Yteabadoaeadcgaa.AM
