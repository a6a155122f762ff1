/- Part 8 of the texts on which the law's proof rests. -/
import Derived.Test.YtpnolkhfeliehaaGreatXbg
namespace Go.Proofs.YtpnolkhfeliehaaGreat.AM
open Go Go.Proofs
set_option linter.unusedVariables false
set_option linter.unusedSimpArgs false
set_option maxRecDepth 100000
set_option maxHeartbeats 4000000
theorem tr_nil0 : trOk ⟨[],0⟩ := by
 unfold trOk
 rw [if_pos (show ([] : List Int).length = 0 from rfl)]
theorem tree_tr (s : Sta) : trOk (treeF s) := by
 unfold treeF
 split
 ·have hl := sums_len s 4
  unfold trOk
  rw [if_neg (show ¬ (sums s 4).length = 0 by omega)]
  refine ⟨hl,fun j x hx => ?_,?_⟩
  ·obtain ⟨k,_,hk⟩ := List.mem_map.1 (List.mem_of_getElem? hx)
   rw [← hk]
   unfold leafSum
   split <;> omega
  ·show 0 ≤ rootF (sums s 4) ∧ rootF (sums s 4) ≤ 1023
   unfold rootF
   omega
 ·exact tr_nil0
theorem tr_nil : trOk ⟨[],0⟩ := tr_nil0
theorem msg_ok {x : Nd} {k to n : Int} {t : Tr} {p : Sta} (h : nodeOk x) (hp : peerOf x to) (hk : 0 ≤ k ∧ k ≤ 5) (hn : 0 ≤ n ∧ n ≤ 100000) (ht : trOk t) (hs : stateOk p) : msgOk { msgF x k to n with tree := t,part := p } := by
 have h1 := h.n
 have h2 := h.id
 obtain ⟨h3,h4⟩ := hp
 have h5 := h.got
 refine ⟨⟨hk,show 0 ≤ x.id ∧ x.id ≤ 4 by omega,show 0 ≤ to ∧ to ≤ 4 by omega,fun e => h4 e.symm⟩,⟨hn,logSeq_rng x.g⟩,ht,⟨show (x.got.length : Int) ≤ 5 by have := h5.2.1; omega,h5.2.2⟩,fun j y hy => (nomatch hy),hs,marks_ok h.s⟩
structure Pushed (x : Nd) (to : Int) (m : Mg) : Prop where
 ok : msgOk m
 to : m.to = to
 hi : m.hi = logSeq x.g
theorem pushF_yes {x : Nd} {t : Int} {m : Mg} (h : (m,true) = pushF x t) : Pushed x t m := by
 unfold pushF at h
 split at h
 ·rename_i hk
  injection h with h _
  rw [h]
  have hs := (ship_st (x := x) (n := x.acked[t.toNat]?.getD 0) (u := (ship1 x (x.acked[t.toNat]?.getD 0)).1) (b := (ship1 x (x.acked[t.toNat]?.getD 0)).2) rfl hk.1).1
  exact ⟨msg_ok hk.1 hk.2 (by decide) (by decide) tr_nil hs,rfl,rfl⟩
 ·injection h with _ h; cases h
theorem pushF_eq {x : Nd} {t : Int} {m w : Mg} {b c : Bool} (h : (m,b) = pushF x t) (k : (w,c) = pushF x t) : b = c := by
 have := h.trans k.symm
 injection this
theorem synF_eq {x u v : Nd} {t : Int} {m w : Mg} {b c : Bool} (h : (u,m,b) = synF x t) (k : (v,w,c) = synF x t) : b = c := by
 have := h.trans k.symm
 injection this with _ this
 injection this
theorem synF_no {x u : Nd} {t : Int} {m : Mg} (h : (u,m,false) = synF x t) : u = x := by
 unfold synF at h
 split at h
 ·injection h with _ h
  injection h with _ h
  cases h
 ·injection h
theorem slot_app : ∀ (l : List Ses) (y : Ses) (k : Nat),(∀ z ∈ l,¬ (z.peer = y.peer ∧ z.inn = y.inn)) → slotF (l ++ [y]) y.peer y.inn k = ((k + l.length : Nat) : Int)
 | [],y,k,_ => by
  show slotF [y] y.peer y.inn k = _
  unfold slotF
  rw [if_pos ⟨rfl,rfl⟩]
  rfl
 | x :: l,y,k,h => by
  show slotF (x :: (l ++ [y])) y.peer y.inn k = _
  unfold slotF
  rw [if_neg (h x (List.mem_cons_self ..)),slot_app l y (k + 1) fun z hz => h z (List.mem_cons_of_mem _ hz),List.length_cons]
  congr 1
  omega
structure Began (x u : Nd) (t : Int) (m : Mg) : Prop where
 ok : nodeOk u
 msg : msgOk m
 num : m.num = u.num
 slot : slotF u.sess t false 0 = (x.sess.length : Int)
 room : (u.sess.length : Int) ≤ u.slots
 s : u.s = x.s
 again : ¬ synOk u t
theorem synF_yes {x u : Nd} {t : Int} {m : Mg} (h : (u,m,true) = synF x t) : Began x u t m := by
 unfold synF at h
 split at h
 ·rename_i hk
  injection h with h1 h2
  injection h2 with h2 _
  have hb := begun_ok hk
  have hsl : slotF (begun x t).sess t false 0 = (x.sess.length : Int) := by
   have := slot_app x.sess ⟨t,x.num + 1,false,0⟩ 0 (slot_none _ _ _ _ hk.slot)
   rw [Nat.zero_add] at this
   exact this
  have hn : 0 ≤ x.num + 1 ∧ x.num + 1 ≤ 100000 := by have := hk.ok.num; have := hk.num; omega
  rw [h1,h2]
  refine ⟨hb,?_,rfl,hsl,hb.sess.1,rfl,fun k => k.slot (by show slotF (begun x t).sess t false 0 ≥ 0; rw [hsl]; omega)⟩
  have ht : trOk x.t := by rw [hk.ok.t]; exact tree_tr x.s
  exact msg_ok (x := begun x t) (k := 2) (n := x.num + 1) hb hk.peer (by decide) hn ht stateOk_nil
 ·injection h with _ h
  injection h with _ h
  cases h
theorem msg_bg {m : Mg} {x : Nd} {t : Int} {b : Bool} (h : (m,b) = pushF x t) (hb : bigN x) : bigM m := by
 unfold pushF at h
 have hml := marksF_len (goneAt x.s) 5
 split at h
 ·rename_i hk
  injection h with h _
  have hs := (ship_st (x := x) (n := x.acked[t.toNat]?.getD 0) (u := (ship1 x (x.acked[t.toNat]?.getD 0)).1) (b := (ship1 x (x.acked[t.toNat]?.getD 0)).2) rfl hk.1).1
  rw [h]
  exact ⟨Nat.zero_le _,hb.got,Nat.zero_le _,big_ok hs,by show (marksF (goneAt x.s) 5).length ≤ 1048576; omega⟩
 ·injection h with h _
  rw [h]
  exact ⟨Nat.zero_le _,Nat.zero_le _,Nat.zero_le _,bigS_nil,Nat.zero_le _⟩
theorem syn_bg {m : Mg} {x u : Nd} {t : Int} {b : Bool} (h : (u,m,b) = synF x t) (hb : bigN x) : bigM m := by
 unfold synF at h
 have hml := marksF_len (goneAt (begun x t).s) 5
 split at h
 ·injection h with _ h
  injection h with h _
  rw [h]
  exact ⟨hb.t,hb.got,Nat.zero_le _,bigS_nil,by show (marksF (goneAt (begun x t).s) 5).length ≤ 1048576; omega⟩
 ·injection h with _ h
  injection h with h _
  rw [h]
  exact ⟨Nat.zero_le _,Nat.zero_le _,Nat.zero_le _,bigS_nil,Nat.zero_le _⟩
theorem ac_laws_FnBegun (p : Option Addr) (bs : List Int) (st : St) (hI : Ints st .u8 p bs) : C 6 [vS p bs.length] st (fun v s => v = vB true) := by
 refine AC.enterX (i := ⟨[3,5,6,8,9,11,13,15,16],[3,5,6,8,9,11,13,15,16,64,70,72,98,100,108,114,117,126,128],[0,2,3,4,5,6,7,10,11,12,14,17,19,41,78,80],[]⟩) [(10,[20],[17]),(15,[16],[18])] Tryz.func6 rfl rfl (by kernel_rfl) (by kernel_rfl) Tryz.ntmps6 (Lb rfl) rfl ?_
 refine Cm 0 st [(0,vS p bs.length),(2,vB false)] [] fun _ _ => ?_
 refine ⟨_,rfl,(ac_laws_big p bs.length st).mono ?_⟩
 rintro _ st ⟨x19,rfl,h19,rfl⟩
 rcases x19 with _|_
 ·replace h19 := of_decide_eq_false h19.symm
  refine Cm 0 st [(0,vS p bs.length),(2,vB false),(19,vB false)] [] fun _ _ => ?_
  refine cxs ?_
  refine ⟨_,rfl,(ac_spec_DrawSyn p bs st hI (by first | assumption | omega)).mono ?_⟩
  rintro _ s22 ⟨g22,n22,rfl,h22,h22',hP22⟩
  iterate 3 refine ⟨_,rfl,?_⟩
  refine ⟨_,op_stw (vs := cNV g22) rfl rfl rfl rfl rfl rfl rfl rfl,?_⟩
  refine Cm 1 s22 [(2,vB false),Ml 3 0,(4,vI n22)] [(3,0,cNV g22)] fun _ _ => ?_
  refine ⟨_,op_ldo (v := (vNV g22)) rfl rfl rfl rfl,?_⟩
  refine ⟨_,rfl,(ac_impl_Syn g22 n22 s22 h22' h22).mono ?_⟩
  rintro _ s28 ⟨u28,m28,b28,rfl,h28,hO28,hN28,hP28⟩
  rcases b28 with _|_
  ·iterate 5 refine ⟨_,rfl,?_⟩
   refine ⟨_,op_stw (vs := cNV u28.v) rfl rfl rfl rfl rfl rfl rfl rfl,?_⟩
   refine ⟨_,op_stw (vs := cMV m28) rfl rfl rfl rfl rfl rfl rfl rfl,?_⟩
   refine Cm 3 s28 [(2,vB false),Ml 3 0,(4,vI n22),Ml 5 1,Ml 6 2,(7,vB false)] [(3,0,cNV g22),(5,1,cNV u28.v),(6,2,cMV m28)] fun _ _ => ?_
   refine ⟨_,op_ldo (v := (vNV g22)) rfl rfl rfl rfl,?_⟩
   refine ⟨_,rfl,(ac_spec_Syn g22 n22 s28 (h22'.pres hP28) h22).mono ?_⟩
   rintro _ s35 ⟨u35,m35,b35,rfl,h35,hO35,hN35,hP35⟩
   iterate 5 refine ⟨_,rfl,?_⟩
   refine ⟨_,op_stw (vs := cNV u35.v) rfl rfl rfl rfl rfl rfl rfl rfl,?_⟩
   refine ⟨_,op_stw (vs := cMV m35) rfl rfl rfl rfl rfl rfl rfl rfl,?_⟩
   refine Cm 5 s35 [(2,vB false),Ml 3 0,(4,vI n22),Ml 5 1,Ml 6 2,(7,vB false),(10,vB b35)] [(3,0,cNV g22),(5,1,cNV u28.v),(6,2,cMV m28)] fun _ _ => ?_
   refine ⟨_,rfl,?_⟩
   rintro (_|_) h41
   rotate_left
   ·exact absurd ((synF_eq h28 h35)) (b_ne h41)
   refine Cm 5 s35 [(2,vB false),Ml 3 0,(4,vI n22),Ml 5 1,Ml 6 2,(7,vB false),(41,vB false)] [(3,0,cNV g22),(5,1,cNV u28.v),(6,2,cMV m28)] fun _ _ => ?_
   have hR35 := h22'.pres (hP28.trans hP35)
   refine cxs ?_
   refine ⟨_,op_ldo (v := (vNV g22)) rfl rfl rfl rfl,?_⟩
   refine ⟨_,rfl,(ac_impl_Push g22 n22 s35 hR35 h22).mono ?_⟩
   rintro _ s45 ⟨u45,b45,rfl,h45,hO45,hN45,hP45⟩
   rcases b45 with _|_
   ·iterate 3 refine ⟨_,rfl,?_⟩
    refine ⟨_,op_stw (vs := cMV u45) rfl rfl rfl rfl rfl rfl rfl rfl,?_⟩
    refine Cm 6 s45 [(2,vB false),Ml 3 0,(4,vI n22),Ml 5 1,Ml 6 2,(7,vB false),Ml 11 5,(12,vB false)] [(3,0,cNV g22),(5,1,cNV u28.v),(6,2,cMV m28),(11,5,cMV u45)] fun _ _ => ?_
    refine ⟨_,op_ldo (v := (vNV g22)) rfl rfl rfl rfl,?_⟩
    refine ⟨_,rfl,(ac_spec_Push g22 n22 s45 (hR35.pres hP45) h22).mono ?_⟩
    rintro _ s51 ⟨u51,b51,rfl,h51,hO51,hN51,hP51⟩
    iterate 3 refine ⟨_,rfl,?_⟩
    refine ⟨_,op_stw (vs := cMV u51) rfl rfl rfl rfl rfl rfl rfl rfl,?_⟩
    refine Cm 7 s51 [(2,vB false),Ml 3 0,(4,vI n22),Ml 5 1,Ml 6 2,(7,vB false),Ml 11 5,(12,vB false),(14,vB b51)] [(3,0,cNV g22),(5,1,cNV u28.v),(6,2,cMV m28),(11,5,cMV u45)] fun _ _ => ?_
    have hR51 := hR35.pres (hP45.trans hP51)
    have hM45 : RdM s51 u45 := hO45.rdM.pres hP51
    have hbm45 := msg_bg h45 h22
    have hbg22 : bigL g22.g.l := bigLog_iff.1 h22.g
    have hR28 : RdN s51 u28.v := (hO28.left.rdN).pres ((hP35.trans hP45).trans hP51)
    have hM28 : RdM s51 m28 := (hO28.right.rdM).pres ((hP35.trans hP45).trans hP51)
    have hbm28 := syn_bg h28 h22
    refine ⟨_,rfl,?_⟩
    rintro (_|_) h56
    rotate_left
    ·exact absurd ((pushF_eq h45 h51)) (b_ne h56)
    iterate 2 refine ⟨_,rfl,?_⟩
    refine Cm 7 s51 [(2,vB false),Ml 3 0,(4,vI n22),Ml 5 1,Ml 6 2,(7,vB false),(78,vB false)] [(3,0,cNV g22),(5,1,cNV u28.v),(6,2,cMV m28)] fun _ _ => ?_
    refine cxs ?_
    refine ⟨_,rfl,?_⟩
    refine Cm 7 s51 [(2,vB false),Ml 3 0,(4,vI n22),Ml 5 1,Ml 6 2,(80,vB true)] [(3,0,cNV g22),(5,1,cNV u28.v),(6,2,cMV m28)] fun _ _ => ?_
    refine ⟨_,op_ldo (v := (vNV u28.v)) rfl rfl rfl rfl,?_⟩
    refine ⟨_,op_ldo (v := (vNV g22)) rfl rfl rfl rfl,?_⟩
    refine ⟨_,rfl,(AC.tru (ac_spec_NodeSame u28.v g22 s51 hR28 hR51 (show bigN u28.x from (synF_no h28).symm ▸ h22)) (synF_no h28)).mono ?_⟩
    rintro _ s51 ⟨rfl,rfl⟩
    refine cxs ?_
    exact ⟨.inl rfl,_,rfl,rfl⟩
   ·iterate 3 refine ⟨_,rfl,?_⟩
    refine ⟨_,op_stw (vs := cMV u45) rfl rfl rfl rfl rfl rfl rfl rfl,?_⟩
    refine Cm 6 s45 [(2,vB false),Ml 3 0,(4,vI n22),Ml 5 1,Ml 6 2,(7,vB false),Ml 11 5,(12,vB true)] [(3,0,cNV g22),(5,1,cNV u28.v),(6,2,cMV m28),(11,5,cMV u45)] fun _ _ => ?_
    refine ⟨_,op_ldo (v := (vNV g22)) rfl rfl rfl rfl,?_⟩
    refine ⟨_,rfl,(ac_spec_Push g22 n22 s45 (hR35.pres hP45) h22).mono ?_⟩
    rintro _ s51 ⟨u51,b51,rfl,h51,hO51,hN51,hP51⟩
    iterate 3 refine ⟨_,rfl,?_⟩
    refine ⟨_,op_stw (vs := cMV u51) rfl rfl rfl rfl rfl rfl rfl rfl,?_⟩
    refine Cm 7 s51 [(2,vB false),Ml 3 0,(4,vI n22),Ml 5 1,Ml 6 2,(7,vB false),Ml 11 5,(12,vB true),(14,vB b51)] [(3,0,cNV g22),(5,1,cNV u28.v),(6,2,cMV m28),(11,5,cMV u45)] fun _ _ => ?_
    have hR51 := hR35.pres (hP45.trans hP51)
    have hM45 : RdM s51 u45 := hO45.rdM.pres hP51
    have hbm45 := msg_bg h45 h22
    have hbg22 : bigL g22.g.l := bigLog_iff.1 h22.g
    have hR28 : RdN s51 u28.v := (hO28.left.rdN).pres ((hP35.trans hP45).trans hP51)
    have hM28 : RdM s51 m28 := (hO28.right.rdM).pres ((hP35.trans hP45).trans hP51)
    have hbm28 := syn_bg h28 h22
    have hPu := pushF_yes h45
    refine ⟨_,rfl,?_⟩
    rintro (_|_) h56
    rotate_left
    ·exact absurd ((pushF_eq h45 h51)) (b_ne h56)
    refine ⟨_,op_ldo (v := (vMV u45)) rfl rfl rfl rfl,?_⟩
    refine ⟨_,rfl,(AC.tru (ac_impl_MsgOk u45 s51 hM45 hbm45) hPu.ok).mono ?_⟩
    rintro _ s51 ⟨rfl,rfl⟩
    iterate 2 refine ⟨_,rfl,?_⟩
    refine ⟨_,Od rfl,?_⟩
    refine ⟨_,rfl,?_⟩
    rintro (_|_) h67
    rotate_left
    ·exact absurd (hPu.to) (bne_iff_ne.1 h67)
    iterate 2 refine ⟨_,rfl,?_⟩
    refine ⟨_,Od rfl,?_⟩
    refine ⟨ld_own rfl rfl rfl,?_⟩
    refine ⟨_,rfl,?_⟩
    refine ⟨_,Od rfl,?_⟩
    refine ⟨_,rfl,(ac_impl_LogSeq g22.g s51 hR51.g hbg22).mono ?_⟩
    rintro _ s51 ⟨rfl,rfl⟩
    refine ⟨fun _ _ => rfl,?_⟩
    refine ⟨_,rfl,?_⟩
    rintro (_|_) h75
    rotate_left
    ·exact absurd (hPu.hi) (bne_iff_ne.1 h75)
    iterate 3 refine ⟨_,rfl,?_⟩
    refine Cm 7 s51 [(2,vB false),Ml 3 0,(4,vI n22),Ml 5 1,Ml 6 2,(7,vB false),(78,vB false)] [(3,0,cNV g22),(5,1,cNV u28.v),(6,2,cMV m28)] fun _ _ => ?_
    refine cxs ?_
    refine ⟨_,rfl,?_⟩
    refine Cm 7 s51 [(2,vB false),Ml 3 0,(4,vI n22),Ml 5 1,Ml 6 2,(80,vB true)] [(3,0,cNV g22),(5,1,cNV u28.v),(6,2,cMV m28)] fun _ _ => ?_
    refine ⟨_,op_ldo (v := (vNV u28.v)) rfl rfl rfl rfl,?_⟩
    refine ⟨_,op_ldo (v := (vNV g22)) rfl rfl rfl rfl,?_⟩
    refine ⟨_,rfl,(AC.tru (ac_spec_NodeSame u28.v g22 s51 hR28 hR51 (show bigN u28.x from (synF_no h28).symm ▸ h22)) (synF_no h28)).mono ?_⟩
    rintro _ s51 ⟨rfl,rfl⟩
    refine cxs ?_
    exact ⟨.inl rfl,_,rfl,rfl⟩
  ·iterate 5 refine ⟨_,rfl,?_⟩
   refine ⟨_,op_stw (vs := cNV u28.v) rfl rfl rfl rfl rfl rfl rfl rfl,?_⟩
   refine ⟨_,op_stw (vs := cMV m28) rfl rfl rfl rfl rfl rfl rfl rfl,?_⟩
   refine Cm 3 s28 [(2,vB false),Ml 3 0,(4,vI n22),Ml 5 1,Ml 6 2,(7,vB true)] [(3,0,cNV g22),(5,1,cNV u28.v),(6,2,cMV m28)] fun _ _ => ?_
   refine ⟨_,op_ldo (v := (vNV g22)) rfl rfl rfl rfl,?_⟩
   refine ⟨_,rfl,(ac_spec_Syn g22 n22 s28 (h22'.pres hP28) h22).mono ?_⟩
   rintro _ s35 ⟨u35,m35,b35,rfl,h35,hO35,hN35,hP35⟩
   iterate 5 refine ⟨_,rfl,?_⟩
   refine ⟨_,op_stw (vs := cNV u35.v) rfl rfl rfl rfl rfl rfl rfl rfl,?_⟩
   refine ⟨_,op_stw (vs := cMV m35) rfl rfl rfl rfl rfl rfl rfl rfl,?_⟩
   refine Cm 5 s35 [(2,vB false),Ml 3 0,(4,vI n22),Ml 5 1,Ml 6 2,(7,vB true),(10,vB b35)] [(3,0,cNV g22),(5,1,cNV u28.v),(6,2,cMV m28)] fun _ _ => ?_
   refine ⟨_,rfl,?_⟩
   rintro (_|_) h41
   rotate_left
   ·exact absurd ((synF_eq h28 h35)) (b_ne h41)
   refine Cm 5 s35 [(2,vB false),Ml 3 0,(4,vI n22),Ml 5 1,Ml 6 2,(7,vB true),(41,vB false)] [(3,0,cNV g22),(5,1,cNV u28.v),(6,2,cMV m28)] fun _ _ => ?_
   have hR35 := h22'.pres (hP28.trans hP35)
   refine cxs ?_
   refine ⟨_,op_ldo (v := (vNV g22)) rfl rfl rfl rfl,?_⟩
   refine ⟨_,rfl,(ac_impl_Push g22 n22 s35 hR35 h22).mono ?_⟩
   rintro _ s45 ⟨u45,b45,rfl,h45,hO45,hN45,hP45⟩
   rcases b45 with _|_
   ·iterate 3 refine ⟨_,rfl,?_⟩
    refine ⟨_,op_stw (vs := cMV u45) rfl rfl rfl rfl rfl rfl rfl rfl,?_⟩
    refine Cm 6 s45 [(2,vB false),Ml 3 0,(4,vI n22),Ml 5 1,Ml 6 2,(7,vB true),Ml 11 5,(12,vB false)] [(3,0,cNV g22),(5,1,cNV u28.v),(6,2,cMV m28),(11,5,cMV u45)] fun _ _ => ?_
    refine ⟨_,op_ldo (v := (vNV g22)) rfl rfl rfl rfl,?_⟩
    refine ⟨_,rfl,(ac_spec_Push g22 n22 s45 (hR35.pres hP45) h22).mono ?_⟩
    rintro _ s51 ⟨u51,b51,rfl,h51,hO51,hN51,hP51⟩
    iterate 3 refine ⟨_,rfl,?_⟩
    refine ⟨_,op_stw (vs := cMV u51) rfl rfl rfl rfl rfl rfl rfl rfl,?_⟩
    refine Cm 7 s51 [(2,vB false),Ml 3 0,(4,vI n22),Ml 5 1,Ml 6 2,(7,vB true),Ml 11 5,(12,vB false),(14,vB b51)] [(3,0,cNV g22),(5,1,cNV u28.v),(6,2,cMV m28),(11,5,cMV u45)] fun _ _ => ?_
    have hR51 := hR35.pres (hP45.trans hP51)
    have hM45 : RdM s51 u45 := hO45.rdM.pres hP51
    have hbm45 := msg_bg h45 h22
    have hbg22 : bigL g22.g.l := bigLog_iff.1 h22.g
    have hR28 : RdN s51 u28.v := (hO28.left.rdN).pres ((hP35.trans hP45).trans hP51)
    have hM28 : RdM s51 m28 := (hO28.right.rdM).pres ((hP35.trans hP45).trans hP51)
    have hbm28 := syn_bg h28 h22
    refine ⟨_,rfl,?_⟩
    rintro (_|_) h56
    rotate_left
    ·exact absurd ((pushF_eq h45 h51)) (b_ne h56)
    iterate 2 refine ⟨_,rfl,?_⟩
    refine Cm 7 s51 [(2,vB false),Ml 3 0,(4,vI n22),Ml 5 1,Ml 6 2,(7,vB true),(78,vB false)] [(3,0,cNV g22),(5,1,cNV u28.v),(6,2,cMV m28)] fun _ _ => ?_
    refine cxs ?_
    refine ⟨_,rfl,?_⟩
    refine Cm 7 s51 [(2,vB false),Ml 3 0,(4,vI n22),Ml 5 1,Ml 6 2,(80,vB false)] [(3,0,cNV g22),(5,1,cNV u28.v),(6,2,cMV m28)] fun _ _ => ?_
    have hB := synF_yes h28
    have hb28 := node_big hB.ok
    refine cxs ?_
    refine ⟨_,op_ldo (v := (vNV u28.v)) rfl rfl rfl rfl,?_⟩
    refine ⟨_,rfl,(ac_impl_Syn u28.v n22 s51 hR28 hb28).mono ?_⟩
    rintro _ s87 ⟨u87,m87,b87,rfl,h87,hO87,hN87,hP87⟩
    iterate 5 refine ⟨_,rfl,?_⟩
    refine ⟨_,op_stw (vs := cNV u87.v) rfl rfl rfl rfl rfl rfl rfl rfl,?_⟩
    refine ⟨_,op_stw (vs := cMV m87) rfl rfl rfl rfl rfl rfl rfl rfl,?_⟩
    refine Cm 9 s87 [(2,vB false),Ml 3 0,(4,vI n22),Ml 5 1,Ml 6 2,(17,vB b87)] [(3,0,cNV g22),(5,1,cNV u28.v),(6,2,cMV m28)] fun _ _ => ?_
    have h87 : (u87.x,m87.x,b87) = synF u28.x n22 := h87
    have hb87 : b87 = false := by
     have := h87.trans (syn_no hB.again rfl).symm
     injection this with _ this
     injection this
    subst hb87
    have hR28' := hR28.pres hP87
    have hM28' : RdM s87 m28 := hM28.pres hP87
    have hR51' := hR51.pres hP87
    refine ⟨_,op_ldo (v := (vNV u28.v)) rfl rfl rfl rfl,?_⟩
    refine ⟨_,rfl,(AC.truP (ac_impl_NodeOk u28.v s87 hR28' hb28) hB.ok).mono ?_⟩
    rintro _ s92 ⟨rfl,hP92⟩
    refine ⟨_,op_ldo (v := (vMV m28)) rfl rfl rfl rfl,?_⟩
    refine ⟨_,rfl,(AC.tru (ac_impl_MsgOk m28 s92 (hM28'.pres hP92) hbm28) hB.msg).mono ?_⟩
    rintro _ s92 ⟨rfl,rfl⟩
    iterate 2 refine ⟨_,rfl,?_⟩
    refine ⟨_,Od rfl,?_⟩
    refine ⟨_,rfl,?_⟩
    refine ⟨_,Od rfl,?_⟩
    refine ⟨_,rfl,?_⟩
    rintro (_|_) h102
    ·exact absurd (hB.num) (beq_eq_false_iff_ne.1 h102)
    refine ⟨_,rfl,?_⟩
    refine ⟨_,op_ldo (v := (vNV u28.v)) rfl rfl rfl rfl,?_⟩
    refine ⟨_,rfl,(ac_impl_Slot u28.v n22 false s92 (hR28'.pres hP92) hb28).mono ?_⟩
    rintro _ s92 ⟨rfl,rfl⟩
    refine ⟨fun _ _ => rfl,?_⟩
    refine ⟨_,rfl,?_⟩
    refine owE_cut [(2,vB false),(3,vL 3 0 (0)),(5,vL 5 0 (1)),(17,vB false),(104,vB true),(107,vI (slotF u28.sess.l n22 false 0)),(108,vL 3 14 (0))] ⟨rfl,rfl,rfl,rfl,rfl,rfl,rfl,trivial⟩ fun _ => ?_
    refine ⟨_,Od rfl,?_⟩
    refine ⟨ld_own rfl rfl rfl,?_⟩
    iterate 2 refine ⟨_,rfl,?_⟩
    rintro (_|_) h111
    ·exact absurd (hB.slot) (beq_eq_false_iff_ne.1 h111)
    iterate 2 refine ⟨_,rfl,?_⟩
    refine ⟨_,Od rfl,?_⟩
    iterate 2 refine ⟨_,rfl,?_⟩
    refine ⟨_,Od rfl,?_⟩
    refine ⟨_,rfl,?_⟩
    rintro (_|_) h119
    ·exact absurd (hB.room) (of_decide_eq_false h119)
    iterate 4 refine ⟨_,rfl,?_⟩
    refine ⟨_,Od rfl,?_⟩
    refine ⟨_,rfl,?_⟩
    refine ⟨_,Od rfl,?_⟩
    refine ⟨_,rfl,(AC.tru (ac_spec_StateSame u28.s g22.s s92 (hR28'.pres hP92).s (hR51'.pres hP92).s hb28.s) hB.s).mono ?_⟩
    rintro _ s92 ⟨rfl,rfl⟩
    refine ⟨_,rfl,?_⟩
    refine cxs ?_
    exact ⟨.inl rfl,_,rfl,rfl⟩
   ·iterate 3 refine ⟨_,rfl,?_⟩
    refine ⟨_,op_stw (vs := cMV u45) rfl rfl rfl rfl rfl rfl rfl rfl,?_⟩
    refine Cm 6 s45 [(2,vB false),Ml 3 0,(4,vI n22),Ml 5 1,Ml 6 2,(7,vB true),Ml 11 5,(12,vB true)] [(3,0,cNV g22),(5,1,cNV u28.v),(6,2,cMV m28),(11,5,cMV u45)] fun _ _ => ?_
    refine ⟨_,op_ldo (v := (vNV g22)) rfl rfl rfl rfl,?_⟩
    refine ⟨_,rfl,(ac_spec_Push g22 n22 s45 (hR35.pres hP45) h22).mono ?_⟩
    rintro _ s51 ⟨u51,b51,rfl,h51,hO51,hN51,hP51⟩
    iterate 3 refine ⟨_,rfl,?_⟩
    refine ⟨_,op_stw (vs := cMV u51) rfl rfl rfl rfl rfl rfl rfl rfl,?_⟩
    refine Cm 7 s51 [(2,vB false),Ml 3 0,(4,vI n22),Ml 5 1,Ml 6 2,(7,vB true),Ml 11 5,(12,vB true),(14,vB b51)] [(3,0,cNV g22),(5,1,cNV u28.v),(6,2,cMV m28),(11,5,cMV u45)] fun _ _ => ?_
    have hR51 := hR35.pres (hP45.trans hP51)
    have hM45 : RdM s51 u45 := hO45.rdM.pres hP51
    have hbm45 := msg_bg h45 h22
    have hbg22 : bigL g22.g.l := bigLog_iff.1 h22.g
    have hR28 : RdN s51 u28.v := (hO28.left.rdN).pres ((hP35.trans hP45).trans hP51)
    have hM28 : RdM s51 m28 := (hO28.right.rdM).pres ((hP35.trans hP45).trans hP51)
    have hbm28 := syn_bg h28 h22
    have hPu := pushF_yes h45
    refine ⟨_,rfl,?_⟩
    rintro (_|_) h56
    rotate_left
    ·exact absurd ((pushF_eq h45 h51)) (b_ne h56)
    refine ⟨_,op_ldo (v := (vMV u45)) rfl rfl rfl rfl,?_⟩
    refine ⟨_,rfl,(AC.tru (ac_impl_MsgOk u45 s51 hM45 hbm45) hPu.ok).mono ?_⟩
    rintro _ s51 ⟨rfl,rfl⟩
    iterate 2 refine ⟨_,rfl,?_⟩
    refine ⟨_,Od rfl,?_⟩
    refine ⟨_,rfl,?_⟩
    rintro (_|_) h67
    rotate_left
    ·exact absurd (hPu.to) (bne_iff_ne.1 h67)
    iterate 2 refine ⟨_,rfl,?_⟩
    refine ⟨_,Od rfl,?_⟩
    refine ⟨ld_own rfl rfl rfl,?_⟩
    refine ⟨_,rfl,?_⟩
    refine ⟨_,Od rfl,?_⟩
    refine ⟨_,rfl,(ac_impl_LogSeq g22.g s51 hR51.g hbg22).mono ?_⟩
    rintro _ s51 ⟨rfl,rfl⟩
    refine ⟨fun _ _ => rfl,?_⟩
    refine ⟨_,rfl,?_⟩
    rintro (_|_) h75
    rotate_left
    ·exact absurd (hPu.hi) (bne_iff_ne.1 h75)
    iterate 3 refine ⟨_,rfl,?_⟩
    refine Cm 7 s51 [(2,vB false),Ml 3 0,(4,vI n22),Ml 5 1,Ml 6 2,(7,vB true),(78,vB false)] [(3,0,cNV g22),(5,1,cNV u28.v),(6,2,cMV m28)] fun _ _ => ?_
    refine cxs ?_
    refine ⟨_,rfl,?_⟩
    refine Cm 7 s51 [(2,vB false),Ml 3 0,(4,vI n22),Ml 5 1,Ml 6 2,(80,vB false)] [(3,0,cNV g22),(5,1,cNV u28.v),(6,2,cMV m28)] fun _ _ => ?_
    have hB := synF_yes h28
    have hb28 := node_big hB.ok
    refine cxs ?_
    refine ⟨_,op_ldo (v := (vNV u28.v)) rfl rfl rfl rfl,?_⟩
    refine ⟨_,rfl,(ac_impl_Syn u28.v n22 s51 hR28 hb28).mono ?_⟩
    rintro _ s87 ⟨u87,m87,b87,rfl,h87,hO87,hN87,hP87⟩
    iterate 5 refine ⟨_,rfl,?_⟩
    refine ⟨_,op_stw (vs := cNV u87.v) rfl rfl rfl rfl rfl rfl rfl rfl,?_⟩
    refine ⟨_,op_stw (vs := cMV m87) rfl rfl rfl rfl rfl rfl rfl rfl,?_⟩
    refine Cm 9 s87 [(2,vB false),Ml 3 0,(4,vI n22),Ml 5 1,Ml 6 2,(17,vB b87)] [(3,0,cNV g22),(5,1,cNV u28.v),(6,2,cMV m28)] fun _ _ => ?_
    have h87 : (u87.x,m87.x,b87) = synF u28.x n22 := h87
    have hb87 : b87 = false := by
     have := h87.trans (syn_no hB.again rfl).symm
     injection this with _ this
     injection this
    subst hb87
    have hR28' := hR28.pres hP87
    have hM28' : RdM s87 m28 := hM28.pres hP87
    have hR51' := hR51.pres hP87
    refine ⟨_,op_ldo (v := (vNV u28.v)) rfl rfl rfl rfl,?_⟩
    refine ⟨_,rfl,(AC.truP (ac_impl_NodeOk u28.v s87 hR28' hb28) hB.ok).mono ?_⟩
    rintro _ s92 ⟨rfl,hP92⟩
    refine ⟨_,op_ldo (v := (vMV m28)) rfl rfl rfl rfl,?_⟩
    refine ⟨_,rfl,(AC.tru (ac_impl_MsgOk m28 s92 (hM28'.pres hP92) hbm28) hB.msg).mono ?_⟩
    rintro _ s92 ⟨rfl,rfl⟩
    iterate 2 refine ⟨_,rfl,?_⟩
    refine ⟨_,Od rfl,?_⟩
    refine ⟨_,rfl,?_⟩
    refine ⟨_,Od rfl,?_⟩
    refine ⟨_,rfl,?_⟩
    rintro (_|_) h102
    ·exact absurd (hB.num) (beq_eq_false_iff_ne.1 h102)
    refine ⟨_,rfl,?_⟩
    refine ⟨_,op_ldo (v := (vNV u28.v)) rfl rfl rfl rfl,?_⟩
    refine ⟨_,rfl,(ac_impl_Slot u28.v n22 false s92 (hR28'.pres hP92) hb28).mono ?_⟩
    rintro _ s92 ⟨rfl,rfl⟩
    refine ⟨fun _ _ => rfl,?_⟩
    refine ⟨_,rfl,?_⟩
    refine owE_cut [(2,vB false),(3,vL 3 0 (0)),(5,vL 5 0 (1)),(17,vB false),(104,vB true),(107,vI (slotF u28.sess.l n22 false 0)),(108,vL 3 14 (0))] ⟨rfl,rfl,rfl,rfl,rfl,rfl,rfl,trivial⟩ fun _ => ?_
    refine ⟨_,Od rfl,?_⟩
    refine ⟨ld_own rfl rfl rfl,?_⟩
    iterate 2 refine ⟨_,rfl,?_⟩
    rintro (_|_) h111
    ·exact absurd (hB.slot) (beq_eq_false_iff_ne.1 h111)
    iterate 2 refine ⟨_,rfl,?_⟩
    refine ⟨_,Od rfl,?_⟩
    iterate 2 refine ⟨_,rfl,?_⟩
    refine ⟨_,Od rfl,?_⟩
    refine ⟨_,rfl,?_⟩
    rintro (_|_) h119
    ·exact absurd (hB.room) (of_decide_eq_false h119)
    iterate 4 refine ⟨_,rfl,?_⟩
    refine ⟨_,Od rfl,?_⟩
    refine ⟨_,rfl,?_⟩
    refine ⟨_,Od rfl,?_⟩
    refine ⟨_,rfl,(AC.tru (ac_spec_StateSame u28.s g22.s s92 (hR28'.pres hP92).s (hR51'.pres hP92).s hb28.s) hB.s).mono ?_⟩
    rintro _ s92 ⟨rfl,rfl⟩
    refine ⟨_,rfl,?_⟩
    refine cxs ?_
    exact ⟨.inl rfl,_,rfl,rfl⟩
 ·replace h19 := of_decide_eq_true h19.symm
  refine Cm 0 st [(0,vS p bs.length),(2,vB false),(19,vB true)] [] fun _ _ => ?_
  refine cxs ?_
  exact ⟨.inl rfl,_,rfl,rfl⟩
end Go.Proofs.YtpnolkhfeliehaaGreat.AM
