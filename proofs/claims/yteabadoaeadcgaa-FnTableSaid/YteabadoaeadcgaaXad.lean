/- Part 4 of the texts on which the law's proof rests. -/
import Derived.Test.YteabadoaeadcgaaXac
namespace Go.Proofs.Yteabadoaeadcgaa.AM
open Go Go.Proofs
set_option linter.unusedVariables false
set_option linter.unusedSimpArgs false
set_option maxRecDepth 100000
set_option maxHeartbeats 4000000
theorem ac_spec_l3Two (p : Option Addr) (bs : List Int) (st : St) (hI : Ints st .u8 p bs) (hs : bs.length < 1099511627776) : C 79 [vS p bs.length] st (fun v s => ∃ (u w : SV),v = .tuple #[.agg #[vS u.p u.x.items.length,vS u.q u.x.floors.length],.agg #[vS w.p w.x.items.length,vS w.q w.x.floors.length]] ∧ smS 6 u.x ∧ smS 6 w.x ∧ Frs st s (pcS u ++ pcS w)) := by
 refine AC.enterX (i := ⟨[2,3,5,6],[2,3,5,6],[0,2,3,4,5,6,14,15,19,26],[]⟩) [(10,[2],[1]),(1010,[],[6])] Try.func79 rfl rfl (by kernel_rfl) (by kernel_rfl) Try.ntmps79 (Nat.le_of_ble_eq_true rfl) rfl ?_
 iterate 2 refine ⟨_,rfl,?_⟩
 refine AW.cutM (2) st [(0,vS p bs.length),(2,vL 2 0 (0)),(3,vL 3 0 (1))] [(2,0,[.slice none 0 0,.slice none 0 0]),(3,1,[.slice none 0 0,.slice none 0 0])] ⟨rfl,rfl,rfl,trivial⟩ ⟨rfl,rfl,trivial⟩ rfl fun ρ0 ff => ?_
 refine ⟨_,rfl,(ac_spec_l1New p bs st hI (by first | assumption | omega)).mono ?_⟩
 rintro _ s8 ⟨rfl,hC8,hP8,h8⟩
 refine AW.cutM (2) s8 [(2,vL 2 0 (0)),(3,vL 3 0 (1)),(4,vP st.next 0)] [(2,0,[.slice none 0 0,.slice none 0 0]),(3,1,[.slice none 0 0,.slice none 0 0])] ⟨rfl,rfl,rfl,trivial⟩ ⟨rfl,rfl,trivial⟩ rfl fun ρ0 ff => ?_
 refine ⟨_,rfl,(ac_d_l3Draw st.next s8 hC8 (by first | assumption | omega)).mono ?_⟩
 rintro _ s10 ⟨u10,rfl,h10,hF10,hC10⟩
 refine ⟨_,rfl,?_⟩
 refine ⟨_,op_sto rfl rfl rfl rfl rfl rfl rfl,?_⟩
 refine AW.cutM (3) s10 [(2,vL 2 0 (0)),(3,vL 3 0 (1)),(4,vP st.next 0),(5,vL 5 0 (2))] [(2,0,[.slice none 0 0,.slice none 0 0]),(3,1,[.slice none 0 0,.slice none 0 0]),(5,2,[vS u10.p u10.x.items.length,vS u10.q u10.x.floors.length])] ⟨rfl,rfl,rfl,rfl,trivial⟩ ⟨rfl,rfl,rfl,trivial⟩ rfl fun ρ0 ff => ?_
 refine ⟨_,rfl,(ac_d_l3Draw st.next s10 hC10 (by first | assumption | omega)).mono ?_⟩
 rintro _ s12 ⟨u12,rfl,h12,hF12,hC12⟩
 refine ⟨_,rfl,?_⟩
 refine ⟨_,op_sto rfl rfl rfl rfl rfl rfl rfl,?_⟩
 refine AW.cutM (4) s12 [(2,vL 2 0 (0)),(3,vL 3 0 (1)),(4,vP st.next 0),(5,vL 5 0 (2)),(6,vL 6 0 (3))] [(2,0,[.slice none 0 0,.slice none 0 0]),(3,1,[.slice none 0 0,.slice none 0 0]),(5,2,[vS u10.p u10.x.items.length,vS u10.q u10.x.floors.length]),(6,3,[vS u12.p u12.x.items.length,vS u12.q u12.x.floors.length])] ⟨rfl,rfl,rfl,rfl,rfl,trivial⟩ ⟨rfl,rfl,rfl,rfl,trivial⟩ rfl fun ρ0 ff => ?_
 refine ⟨_,rfl,(ac_d_l1Below st.next 5 s12 hC12 (by first | assumption | omega)).mono ?_⟩
 rintro _ s14 ⟨r14,rfl,h14,h14',h14'',hC14,hL14⟩
 refine AW.cutM (4) s14 [(2,vL 2 0 (0)),(3,vL 3 0 (1)),(5,vL 5 0 (2)),(6,vL 6 0 (3)),(14,vI r14)] [(2,0,[.slice none 0 0,.slice none 0 0]),(3,1,[.slice none 0 0,.slice none 0 0]),(5,2,[vS u10.p u10.x.items.length,vS u10.q u10.x.floors.length]),(6,3,[vS u12.p u12.x.items.length,vS u12.q u12.x.floors.length])] ⟨rfl,rfl,rfl,rfl,rfl,trivial⟩ ⟨rfl,rfl,rfl,rfl,trivial⟩ rfl fun ρ0 ff => ?_
 have hFa := (hF10.join hF12).later hL14
 have hb10 := h10.big (by decide)
 have hb12 := h12.big (by decide)
 refine ⟨_,rfl,?_⟩
 rintro (_|_) h16
 ·replace h16 : ¬ (r14 = (0)) := beq_eq_false_iff_ne.1 h16
  refine AW.cutM (4) s14 [(2,vL 2 0 (0)),(3,vL 3 0 (1)),(5,vL 5 0 (2)),(6,vL 6 0 (3)),(14,vI r14),(15,vB false)] [(2,0,[.slice none 0 0,.slice none 0 0]),(3,1,[.slice none 0 0,.slice none 0 0]),(5,2,[vS u10.p u10.x.items.length,vS u10.q u10.x.floors.length]),(6,3,[vS u12.p u12.x.items.length,vS u12.q u12.x.floors.length])] ⟨rfl,rfl,rfl,rfl,rfl,rfl,trivial⟩ ⟨rfl,rfl,rfl,rfl,trivial⟩ rfl fun ρ0 ff => ?_
  refine ⟨_,rfl,?_⟩
  rintro (_|_) h20
  ·replace h20 : ¬ (r14 = (1)) := beq_eq_false_iff_ne.1 h20
   refine AW.cutM (4) s14 [(2,vL 2 0 (0)),(3,vL 3 0 (1)),(5,vL 5 0 (2)),(6,vL 6 0 (3)),(19,vB false)] [(2,0,[.slice none 0 0,.slice none 0 0]),(3,1,[.slice none 0 0,.slice none 0 0]),(5,2,[vS u10.p u10.x.items.length,vS u10.q u10.x.floors.length]),(6,3,[vS u12.p u12.x.items.length,vS u12.q u12.x.floors.length])] ⟨rfl,rfl,rfl,rfl,rfl,trivial⟩ ⟨rfl,rfl,rfl,rfl,trivial⟩ rfl fun ρ0 ff => ?_
   refine cxs ?_
   refine ⟨_,op_ldo rfl rfl rfl rfl,?_⟩
   refine ⟨_,op_ldo rfl rfl rfl rfl,?_⟩
   refine ⟨ld_own rfl rfl rfl,?_⟩
   refine ⟨_,op_sto rfl rfl rfl rfl rfl rfl rfl,?_⟩
   refine ⟨sx_cons ⟨_,_,_,rfl,rfl,rfl,by decide⟩ (sx_nil),?_⟩
   refine ⟨_,op_sto rfl rfl rfl rfl rfl rfl rfl,?_⟩
   refine cxs ?_
   exact ⟨.inl rfl,_,rfl,u10,u12,rfl,h10,h12,hFa.out hP8⟩
  ·replace h20 : r14 = (1) := beq_iff_eq.1 h20
   refine AW.cutM (4) s14 [(2,vL 2 0 (0)),(3,vL 3 0 (1)),(5,vL 5 0 (2)),(6,vL 6 0 (3)),(19,vB true)] [(2,0,[.slice none 0 0,.slice none 0 0]),(3,1,[.slice none 0 0,.slice none 0 0]),(5,2,[vS u10.p u10.x.items.length,vS u10.q u10.x.floors.length]),(6,3,[vS u12.p u12.x.items.length,vS u12.q u12.x.floors.length])] ⟨rfl,rfl,rfl,rfl,rfl,trivial⟩ ⟨rfl,rfl,rfl,rfl,trivial⟩ rfl fun ρ0 ff => ?_
   refine ⟨_,op_ldo rfl rfl rfl rfl,?_⟩
   refine ⟨_,rfl,(ac_spec_StateOk u10 s14 hFa.left.1.rdS (by first | assumption | omega)).mono ?_⟩
   rintro _ s14 ⟨x22,rfl,h22,rfl⟩
   rcases x22 with _|_
   ·replace h22 := fun k => Bool.false_ne_true (h22.2 k)
    refine ⟨_,rfl,?_⟩
    refine AW.cutM (4) s14 [(2,vL 2 0 (0)),(3,vL 3 0 (1)),(5,vL 5 0 (2)),(6,vL 6 0 (3)),(26,vB false)] [(2,0,[.slice none 0 0,.slice none 0 0]),(3,1,[.slice none 0 0,.slice none 0 0]),(5,2,[vS u10.p u10.x.items.length,vS u10.q u10.x.floors.length]),(6,3,[vS u12.p u12.x.items.length,vS u12.q u12.x.floors.length])] ⟨rfl,rfl,rfl,rfl,rfl,trivial⟩ ⟨rfl,rfl,rfl,rfl,trivial⟩ rfl fun ρ0 ff => ?_
    refine cxs ?_
    refine ⟨_,op_ldo rfl rfl rfl rfl,?_⟩
    refine ⟨_,op_ldo rfl rfl rfl rfl,?_⟩
    refine ⟨ld_own rfl rfl rfl,?_⟩
    refine ⟨_,op_sto rfl rfl rfl rfl rfl rfl rfl,?_⟩
    refine ⟨sx_cons ⟨_,_,_,rfl,rfl,rfl,by decide⟩ (sx_nil),?_⟩
    refine ⟨_,op_sto rfl rfl rfl rfl rfl rfl rfl,?_⟩
    refine cxs ?_
    exact ⟨.inl rfl,_,rfl,u10,u12,rfl,h10,h12,hFa.out hP8⟩
   ·replace h22 := h22.1 rfl
    refine ⟨_,op_ldo rfl rfl rfl rfl,?_⟩
    refine ⟨_,rfl,(ac_spec_StateOk u12 s14 hFa.right.1.rdS (by first | assumption | omega)).mono ?_⟩
    rintro _ s14 ⟨x25,rfl,h25,rfl⟩
    rcases x25 with _|_
    ·replace h25 := fun k => Bool.false_ne_true (h25.2 k)
     refine ⟨_,rfl,?_⟩
     refine AW.cutM (4) s14 [(2,vL 2 0 (0)),(3,vL 3 0 (1)),(5,vL 5 0 (2)),(6,vL 6 0 (3)),(26,vB false)] [(2,0,[.slice none 0 0,.slice none 0 0]),(3,1,[.slice none 0 0,.slice none 0 0]),(5,2,[vS u10.p u10.x.items.length,vS u10.q u10.x.floors.length]),(6,3,[vS u12.p u12.x.items.length,vS u12.q u12.x.floors.length])] ⟨rfl,rfl,rfl,rfl,rfl,trivial⟩ ⟨rfl,rfl,rfl,rfl,trivial⟩ rfl fun ρ0 ff => ?_
     refine cxs ?_
     refine ⟨_,op_ldo rfl rfl rfl rfl,?_⟩
     refine ⟨_,op_ldo rfl rfl rfl rfl,?_⟩
     refine ⟨ld_own rfl rfl rfl,?_⟩
     refine ⟨_,op_sto rfl rfl rfl rfl rfl rfl rfl,?_⟩
     refine ⟨sx_cons ⟨_,_,_,rfl,rfl,rfl,by decide⟩ (sx_nil),?_⟩
     refine ⟨_,op_sto rfl rfl rfl rfl rfl rfl rfl,?_⟩
     refine cxs ?_
     exact ⟨.inl rfl,_,rfl,u10,u12,rfl,h10,h12,hFa.out hP8⟩
    ·replace h25 := h25.1 rfl
     refine ⟨_,rfl,?_⟩
     refine AW.cutM (4) s14 [(2,vL 2 0 (0)),(3,vL 3 0 (1)),(5,vL 5 0 (2)),(6,vL 6 0 (3)),(26,vB true)] [(2,0,[.slice none 0 0,.slice none 0 0]),(3,1,[.slice none 0 0,.slice none 0 0]),(5,2,[vS u10.p u10.x.items.length,vS u10.q u10.x.floors.length]),(6,3,[vS u12.p u12.x.items.length,vS u12.q u12.x.floors.length])] ⟨rfl,rfl,rfl,rfl,rfl,trivial⟩ ⟨rfl,rfl,rfl,rfl,trivial⟩ rfl fun ρ0 ff => ?_
     refine ⟨_,op_ldo rfl rfl rfl rfl,?_⟩
     refine ⟨_,op_ldo rfl rfl rfl rfl,?_⟩
     refine ⟨_,rfl,(ac_spec_l3Join u10 u12 s14 hFa.left.1.rdS hFa.right.1.rdS (by first | assumption | omega) (by first | assumption | omega) (by first | assumption | omega) (by first | assumption | omega)).mono ?_⟩
     rintro _ s29 ⟨u29,rfl,h29,hO29,hN29,hP29⟩
     refine ⟨_,op_sto rfl rfl rfl rfl rfl rfl rfl,?_⟩
     refine AW.cutM (4) s29 [(2,vL 2 0 (0)),(3,vL 3 0 (1)),(5,vL 5 0 (2)),(6,vL 6 0 (3))] [(2,0,[.slice none 0 0,.slice none 0 0]),(3,1,[.slice none 0 0,.slice none 0 0]),(5,2,[vS u10.p u10.x.items.length,vS u10.q u10.x.floors.length]),(6,3,[vS u29.p u29.x.items.length,vS u29.q u29.x.floors.length])] ⟨rfl,rfl,rfl,rfl,trivial⟩ ⟨rfl,rfl,rfl,rfl,trivial⟩ rfl fun ρ0 ff => ?_
     refine ⟨_,op_ldo rfl rfl rfl rfl,?_⟩
     refine ⟨_,op_ldo rfl rfl rfl rfl,?_⟩
     refine ⟨ld_own rfl rfl rfl,?_⟩
     refine ⟨_,op_sto rfl rfl rfl rfl rfl rfl rfl,?_⟩
     refine ⟨sx_cons ⟨_,_,_,rfl,rfl,rfl,by decide⟩ (sx_nil),?_⟩
     refine ⟨_,op_sto rfl rfl rfl rfl rfl rfl rfl,?_⟩
     refine cxs ?_
     exact ⟨.inl rfl,_,rfl,u10,u29,rfl,h10,by rw [h29]; exact (sm_ok (stateOk_join h22 h25)).le (by decide),(hFa.left.add ⟨hO29,hN29,hP29⟩).out hP8⟩
 ·replace h16 : r14 = (0) := beq_iff_eq.1 h16
  refine AW.cutM (4) s14 [(2,vL 2 0 (0)),(3,vL 3 0 (1)),(5,vL 5 0 (2)),(6,vL 6 0 (3)),(14,vI r14),(15,vB true)] [(2,0,[.slice none 0 0,.slice none 0 0]),(3,1,[.slice none 0 0,.slice none 0 0]),(5,2,[vS u10.p u10.x.items.length,vS u10.q u10.x.floors.length]),(6,3,[vS u12.p u12.x.items.length,vS u12.q u12.x.floors.length])] ⟨rfl,rfl,rfl,rfl,rfl,rfl,trivial⟩ ⟨rfl,rfl,rfl,rfl,trivial⟩ rfl fun ρ0 ff => ?_
  refine ⟨_,op_ldo rfl rfl rfl rfl,?_⟩
  refine ⟨_,rfl,(ac_spec_l3Copy u10 s14 hFa.left.1.rdS (by first | assumption | omega)).mono ?_⟩
  rintro _ s18 ⟨u18,rfl,h18,hO18,hN18,hP18⟩
  refine ⟨_,op_sto rfl rfl rfl rfl rfl rfl rfl,?_⟩
  refine AW.cutM (4) s18 [(2,vL 2 0 (0)),(3,vL 3 0 (1)),(5,vL 5 0 (2)),(6,vL 6 0 (3))] [(2,0,[.slice none 0 0,.slice none 0 0]),(3,1,[.slice none 0 0,.slice none 0 0]),(5,2,[vS u10.p u10.x.items.length,vS u10.q u10.x.floors.length]),(6,3,[vS u18.p u18.x.items.length,vS u18.q u18.x.floors.length])] ⟨rfl,rfl,rfl,rfl,trivial⟩ ⟨rfl,rfl,rfl,rfl,trivial⟩ rfl fun ρ0 ff => ?_
  refine ⟨_,op_ldo rfl rfl rfl rfl,?_⟩
  refine ⟨_,op_ldo rfl rfl rfl rfl,?_⟩
  refine ⟨ld_own rfl rfl rfl,?_⟩
  refine ⟨_,op_sto rfl rfl rfl rfl rfl rfl rfl,?_⟩
  refine ⟨sx_cons ⟨_,_,_,rfl,rfl,rfl,by decide⟩ (sx_nil),?_⟩
  refine ⟨_,op_sto rfl rfl rfl rfl rfl rfl rfl,?_⟩
  refine cxs ?_
  exact ⟨.inl rfl,_,rfl,u10,u18,rfl,h10,by rw [h18]; exact h10,(hFa.left.add ⟨hO18,hN18,hP18⟩).out hP8⟩
theorem ac_spec_DrawStateJoin (p : Option Addr) (bs : List Int) (st : St) (hI : Ints st .u8 p bs) (hs : bs.length < 1099511627776) : C 23 [vS p bs.length] st (fun v s => ∃ (u w : SV),v = .tuple #[.agg #[vS u.p u.x.items.length,vS u.q u.x.floors.length],.agg #[vS w.p w.x.items.length,vS w.q w.x.floors.length]] ∧ smS 6 u.x ∧ smS 6 w.x ∧ Frs st s (pcS u ++ pcS w)) := by
 refine AC.enterX (i := ⟨[2,3],[2,3],[0,2,3],[]⟩) [] Try.func23 rfl rfl (by kernel_rfl) (by kernel_rfl) Try.ntmps23 (Nat.le_of_ble_eq_true rfl) rfl ?_
 iterate 2 refine ⟨_,rfl,?_⟩
 refine AW.cutM (2) st [(0,vS p bs.length),(2,vL 2 0 (0)),(3,vL 3 0 (1))] [(2,0,[.slice none 0 0,.slice none 0 0]),(3,1,[.slice none 0 0,.slice none 0 0])] ⟨rfl,rfl,rfl,trivial⟩ ⟨rfl,rfl,trivial⟩ rfl fun ρ0 ff => ?_
 refine ⟨_,rfl,(ac_spec_l3Two p bs st hI (by first | assumption | omega)).mono ?_⟩
 rintro _ s5 ⟨u5,w5,rfl,h5,h5',hF5⟩
 iterate 2 refine ⟨_,rfl,?_⟩
 refine ⟨_,op_sto rfl rfl rfl rfl rfl rfl rfl,?_⟩
 refine ⟨_,op_sto rfl rfl rfl rfl rfl rfl rfl,?_⟩
 refine cxs ?_
 exact ⟨.inl rfl,_,rfl,u5,w5,rfl,h5,h5',hF5⟩
open Classical in
noncomputable def joinP (a b : Sta) : Sta × Bool := if stateOk a ∧ stateOk b then (joinF a b 5,true) else (nilS,false)
theorem ac_impl_StateJoin (A B : SV) (st : St) (hA : RdS st A) (hB : RdS st B) (ha : bigS A.x) (hb : bigS B.x) : C 24 [.agg #[vS A.p A.x.items.length,vS A.q A.x.floors.length],.agg #[vS B.p B.x.items.length,vS B.q B.x.floors.length]] st (fun v s => ∃ (u : SV) (b : Bool),v = .tuple #[.agg #[vS u.p u.x.items.length,vS u.q u.x.floors.length],vB b] ∧ (u.x,b) = joinP A.x B.x ∧ OwnP s (pcS u) ∧ NewP st.next (pcS u) ∧ Pres st s) := by
 refine AC.enterX (i := ⟨[2,3,4],[2,3,4],[0,1,2,3,4,5,13],[]⟩) [] Try.func24 rfl rfl (by kernel_rfl) (by kernel_rfl) Try.ntmps24 (Nat.le_of_ble_eq_true rfl) rfl ?_
 iterate 3 refine ⟨_,rfl,?_⟩
 refine AW.cutM (3) st [(2,vL 2 0 (0)),(3,vL 3 0 (1)),(4,vL 4 0 (2)),(5,vB false)] [(2,0,[vS A.p A.x.items.length,vS A.q A.x.floors.length]),(3,1,[vS B.p B.x.items.length,vS B.q B.x.floors.length]),(4,2,[.slice none 0 0,.slice none 0 0])] ⟨rfl,rfl,rfl,rfl,trivial⟩ ⟨rfl,rfl,rfl,trivial⟩ rfl fun ρ0 ff => ?_
 refine ⟨_,op_ldo rfl rfl rfl rfl,?_⟩
 refine ⟨_,rfl,(ac_impl_StateOk A st hA (by first | assumption | omega)).mono ?_⟩
 rintro _ st ⟨x7,rfl,h7,rfl⟩
 rcases x7 with _|_
 ·replace h7 := fun k => Bool.false_ne_true (h7.2 k)
  iterate 2 refine ⟨_,rfl,?_⟩
  refine AW.cutM (3) st [(2,vL 2 0 (0)),(3,vL 3 0 (1)),(4,vL 4 0 (2)),(5,vB false),(13,vB true)] [(2,0,[vS A.p A.x.items.length,vS A.q A.x.floors.length]),(3,1,[vS B.p B.x.items.length,vS B.q B.x.floors.length]),(4,2,[.slice none 0 0,.slice none 0 0])] ⟨rfl,rfl,rfl,rfl,rfl,trivial⟩ ⟨rfl,rfl,rfl,trivial⟩ rfl fun ρ0 ff => ?_
  refine ⟨_,rfl,?_⟩
  refine ⟨_,op_sto rfl rfl rfl rfl rfl rfl rfl,?_⟩
  refine cxs ?_
  exact ⟨.inl rfl,_,rfl,⟨none,none,nilS⟩,false,rfl,(if_neg (fun k => h7 k.1)).symm,pcS_nil,newS_nil,Pres.refl _⟩
 ·replace h7 := h7.1 rfl
  refine ⟨_,rfl,?_⟩
  refine ⟨_,op_ldo rfl rfl rfl rfl,?_⟩
  refine ⟨_,rfl,(ac_impl_StateOk B st hB (by first | assumption | omega)).mono ?_⟩
  rintro _ st ⟨x11,rfl,h11,rfl⟩
  rcases x11 with _|_
  ·replace h11 := fun k => Bool.false_ne_true (h11.2 k)
   iterate 2 refine ⟨_,rfl,?_⟩
   refine AW.cutM (3) st [(2,vL 2 0 (0)),(3,vL 3 0 (1)),(4,vL 4 0 (2)),(5,vB false),(13,vB true)] [(2,0,[vS A.p A.x.items.length,vS A.q A.x.floors.length]),(3,1,[vS B.p B.x.items.length,vS B.q B.x.floors.length]),(4,2,[.slice none 0 0,.slice none 0 0])] ⟨rfl,rfl,rfl,rfl,rfl,trivial⟩ ⟨rfl,rfl,rfl,trivial⟩ rfl fun ρ0 ff => ?_
   refine ⟨_,rfl,?_⟩
   refine ⟨_,op_sto rfl rfl rfl rfl rfl rfl rfl,?_⟩
   refine cxs ?_
   exact ⟨.inl rfl,_,rfl,⟨none,none,nilS⟩,false,rfl,(if_neg (fun k => h11 k.2)).symm,pcS_nil,newS_nil,Pres.refl _⟩
  ·replace h11 := h11.1 rfl
   iterate 2 refine ⟨_,rfl,?_⟩
   refine AW.cutM (3) st [(2,vL 2 0 (0)),(3,vL 3 0 (1)),(4,vL 4 0 (2)),(5,vB false),(13,vB false)] [(2,0,[vS A.p A.x.items.length,vS A.q A.x.floors.length]),(3,1,[vS B.p B.x.items.length,vS B.q B.x.floors.length]),(4,2,[.slice none 0 0,.slice none 0 0])] ⟨rfl,rfl,rfl,rfl,rfl,trivial⟩ ⟨rfl,rfl,rfl,trivial⟩ rfl fun ρ0 ff => ?_
   refine cxs ?_
   refine ⟨_,op_ldo rfl rfl rfl rfl,?_⟩
   refine ⟨_,op_ldo rfl rfl rfl rfl,?_⟩
   refine ⟨_,rfl,(ac_impl_stateJoin A B st hA hB (by first | assumption | omega) (by first | assumption | omega)).mono ?_⟩
   rintro _ s17 ⟨u17,rfl,h17,hO17,hN17,hP17⟩
   refine ⟨_,op_sto rfl rfl rfl rfl rfl rfl rfl,?_⟩
   refine cxs ?_
   exact ⟨.inl rfl,_,rfl,u17,true,rfl,(by rw [h17]; exact (if_pos ⟨h7,h11⟩).symm),hO17,hN17,hP17⟩
theorem ac_spec_StateJoin (A B : SV) (st : St) (hA : RdS st A) (hB : RdS st B) (ha : bigS A.x) (hb : bigS B.x) : C 25 [.agg #[vS A.p A.x.items.length,vS A.q A.x.floors.length],.agg #[vS B.p B.x.items.length,vS B.q B.x.floors.length]] st (fun v s => ∃ (u : SV) (b : Bool),v = .tuple #[.agg #[vS u.p u.x.items.length,vS u.q u.x.floors.length],vB b] ∧ (u.x,b) = joinP A.x B.x ∧ OwnP s (pcS u) ∧ NewP st.next (pcS u) ∧ Pres st s) := by
 refine AC.enterX (i := ⟨[2,3,4],[2,3,4],[0,1,2,3,4,5,13],[]⟩) [] Try.func25 rfl rfl (by kernel_rfl) (by kernel_rfl) Try.ntmps25 (Nat.le_of_ble_eq_true rfl) rfl ?_
 iterate 3 refine ⟨_,rfl,?_⟩
 refine AW.cutM (3) st [(2,vL 2 0 (0)),(3,vL 3 0 (1)),(4,vL 4 0 (2)),(5,vB false)] [(2,0,[vS A.p A.x.items.length,vS A.q A.x.floors.length]),(3,1,[vS B.p B.x.items.length,vS B.q B.x.floors.length]),(4,2,[.slice none 0 0,.slice none 0 0])] ⟨rfl,rfl,rfl,rfl,trivial⟩ ⟨rfl,rfl,rfl,trivial⟩ rfl fun ρ0 ff => ?_
 refine ⟨_,op_ldo rfl rfl rfl rfl,?_⟩
 refine ⟨_,rfl,(ac_spec_StateOk A st hA (by first | assumption | omega)).mono ?_⟩
 rintro _ st ⟨x7,rfl,h7,rfl⟩
 rcases x7 with _|_
 ·replace h7 := fun k => Bool.false_ne_true (h7.2 k)
  iterate 2 refine ⟨_,rfl,?_⟩
  refine AW.cutM (3) st [(2,vL 2 0 (0)),(3,vL 3 0 (1)),(4,vL 4 0 (2)),(5,vB false),(13,vB true)] [(2,0,[vS A.p A.x.items.length,vS A.q A.x.floors.length]),(3,1,[vS B.p B.x.items.length,vS B.q B.x.floors.length]),(4,2,[.slice none 0 0,.slice none 0 0])] ⟨rfl,rfl,rfl,rfl,rfl,trivial⟩ ⟨rfl,rfl,rfl,trivial⟩ rfl fun ρ0 ff => ?_
  refine ⟨_,rfl,?_⟩
  refine ⟨_,op_sto rfl rfl rfl rfl rfl rfl rfl,?_⟩
  refine cxs ?_
  exact ⟨.inl rfl,_,rfl,⟨none,none,nilS⟩,false,rfl,(if_neg (fun k => h7 k.1)).symm,pcS_nil,newS_nil,Pres.refl _⟩
 ·replace h7 := h7.1 rfl
  refine ⟨_,rfl,?_⟩
  refine ⟨_,op_ldo rfl rfl rfl rfl,?_⟩
  refine ⟨_,rfl,(ac_spec_StateOk B st hB (by first | assumption | omega)).mono ?_⟩
  rintro _ st ⟨x11,rfl,h11,rfl⟩
  rcases x11 with _|_
  ·replace h11 := fun k => Bool.false_ne_true (h11.2 k)
   iterate 2 refine ⟨_,rfl,?_⟩
   refine AW.cutM (3) st [(2,vL 2 0 (0)),(3,vL 3 0 (1)),(4,vL 4 0 (2)),(5,vB false),(13,vB true)] [(2,0,[vS A.p A.x.items.length,vS A.q A.x.floors.length]),(3,1,[vS B.p B.x.items.length,vS B.q B.x.floors.length]),(4,2,[.slice none 0 0,.slice none 0 0])] ⟨rfl,rfl,rfl,rfl,rfl,trivial⟩ ⟨rfl,rfl,rfl,trivial⟩ rfl fun ρ0 ff => ?_
   refine ⟨_,rfl,?_⟩
   refine ⟨_,op_sto rfl rfl rfl rfl rfl rfl rfl,?_⟩
   refine cxs ?_
   exact ⟨.inl rfl,_,rfl,⟨none,none,nilS⟩,false,rfl,(if_neg (fun k => h11 k.2)).symm,pcS_nil,newS_nil,Pres.refl _⟩
  ·replace h11 := h11.1 rfl
   iterate 2 refine ⟨_,rfl,?_⟩
   refine AW.cutM (3) st [(2,vL 2 0 (0)),(3,vL 3 0 (1)),(4,vL 4 0 (2)),(5,vB false),(13,vB false)] [(2,0,[vS A.p A.x.items.length,vS A.q A.x.floors.length]),(3,1,[vS B.p B.x.items.length,vS B.q B.x.floors.length]),(4,2,[.slice none 0 0,.slice none 0 0])] ⟨rfl,rfl,rfl,rfl,rfl,trivial⟩ ⟨rfl,rfl,rfl,trivial⟩ rfl fun ρ0 ff => ?_
   refine cxs ?_
   refine ⟨_,op_ldo rfl rfl rfl rfl,?_⟩
   refine ⟨_,op_ldo rfl rfl rfl rfl,?_⟩
   refine ⟨_,rfl,(ac_spec_l3Join A B st hA hB (by first | assumption | omega) (by first | assumption | omega) (by first | assumption | omega) (by first | assumption | omega)).mono ?_⟩
   rintro _ s17 ⟨u17,rfl,h17,hO17,hN17,hP17⟩
   refine ⟨_,op_sto rfl rfl rfl rfl rfl rfl rfl,?_⟩
   refine cxs ?_
   exact ⟨.inl rfl,_,rfl,u17,true,rfl,(by rw [h17]; exact (if_pos ⟨h7,h11⟩).symm),hO17,hN17,hP17⟩
end Go.Proofs.Yteabadoaeadcgaa.AM
