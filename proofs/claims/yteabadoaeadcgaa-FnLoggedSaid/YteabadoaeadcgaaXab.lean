/- Part 2 of the texts on which the law's proof rests. -/
import Derived.Test.YteabadoaeadcgaaXaa
import Derived.Lib.Bytealg
namespace Go.Proofs.Yteabadoaeadcgaa.AM
open Go Go.Proofs
set_option linter.unusedVariables false
set_option linter.unusedSimpArgs false
set_option maxRecDepth 100000
set_option maxHeartbeats 4000000
theorem row_sub {cs r q : List Value} {d z i n : Nat} (hc : (cs.drop d).take z = r) (hq : (r.drop i).take n = q) (hle : i + n ≤ z) : (cs.drop (d + i)).take n = q := by
 subst hc hq
 rw [List.drop_take,List.take_take,List.drop_drop,Nat.min_eq_left (by omega)]
theorem copy_facts {st s1 s2 : St} {q1 q2 : Option Addr} {A B : Prop} {m : Nat} (hP : Pres st s1) (hN : New st.next q1) (hPr : Pr q1 s1 s2) (h : (q2 = q1 ∧ A ∧ B) ∨ (0 < m ∧ New s1.next q2)) : Pres st s2 ∧ New st.next q2 := by
 refine ⟨hPr.pres hP hN,?_⟩
 rcases h with ⟨h,_⟩ | ⟨_,h⟩
 ·rw [h]; exact hN
 ·exact h.le hP.1
theorem Pr.low {p : Option Addr} {st0 s s' : St} (h : Pr p s s') (hP : Pres st0 s) (hN : New st0.next p) : ∀ a,a < st0.next → s'.mem a = s.mem a :=
 fun a ha => h.2 a (Nat.lt_of_lt_of_le ha hP.1) fun q hq e => by have := hN q hq; omega
theorem Pres.low {st0 s s' : St} (h : Pres s s') (hP : Pres st0 s) : ∀ a,a < st0.next → s'.mem a = s.mem a := fun a ha => h.2 a (Nat.lt_of_lt_of_le ha hP.1)
theorem ac_impl_copyState (s : SV) (st : St) (hR : RdS st s) (hb : bigS s.x) : C 87 [.agg #[vS s.p s.x.items.length,vS s.q s.x.floors.length]] st (fun v s' => ∃ u : SV,v = .agg #[vS u.p u.x.items.length,vS u.q u.x.floors.length] ∧ u.x = s.x ∧ OwnP s' (pcS u) ∧ NewP st.next (pcS u) ∧ Pres st s') := by
 have hs1 : s.x.items.length ≤ 1048576 := hb.1
 have hs2 : s.x.floors.length ≤ 1048576 := hb.2.1
 refine AC.enterX (i := ⟨[1,2],[1,2,4,8],[0,1,2],[]⟩) [(1,[3],[6])] Try.func87 rfl rfl (by kernel_rfl) (by kernel_rfl) Try.ntmps87 (Nat.le_of_ble_eq_true rfl) rfl ?_
 iterate 2 refine ⟨_,rfl,?_⟩
 refine AW.cutM (2) st [(1,vL 1 0 (0)),(2,vL 2 0 (1))] [(1,0,[vS s.p s.x.items.length,vS s.q s.x.floors.length]),(2,1,[.slice none 0 0,.slice none 0 0])] ⟨rfl,rfl,trivial⟩ ⟨rfl,rfl,trivial⟩ rfl fun ρ0 ff => ?_
 refine op_nilK (z := 6) (f := cItm) rfl rfl rfl rfl (by decide) rfl ?_
 intro q1 s1 hO1 hP1 hN1
 iterate 2 refine ⟨_,rfl,?_⟩
 refine op_app (z := 6) (st := s1) (f := cItm) (b := 56) (l := []) (l2 := s.x.items) rfl rfl rfl rfl rfl rfl rfl (by decide) len_cItm rfl rfl rfl rfl (by omega) (by unfold maxLen; omega) hO1 (hP1.rows hR.1) ?_
 intro q2 s2 hO2 hPr2 hN2
 refine ⟨hPr2.low hP1 hN1,?_⟩
 have ⟨hP2,hN2⟩ := copy_facts hP1 hN1 hPr2 hN2
 refine op_nilK (z := 2) (f := cFlr) rfl rfl rfl rfl (by decide) rfl ?_
 intro q3 s3 hO3 hP3 hN3
 iterate 2 refine ⟨_,rfl,?_⟩
 refine ⟨ld_own rfl rfl rfl,?_⟩
 refine op_app (z := 2) (st := s3) (f := cFlr) (b := 16) (l := []) (l2 := s.x.floors) rfl rfl rfl rfl rfl rfl rfl (by decide) len_cFlr rfl rfl rfl rfl (by omega) (by unfold maxLen; omega) hO3 ((hP2.trans hP3).rows hR.2) ?_
 intro q4 s4 hO4 hPr4 hN4
 iterate 2 refine ⟨_,rfl,?_⟩
 refine cxs ?_
 have ⟨hP4,hN4⟩ := copy_facts hP3 hN3 hPr4 hN4
 refine ⟨.inl rfl,_,rfl,⟨q2,q4,s.x⟩,?_,rfl,OwnP.join (l := [pcR 6 cItm q2 s.x.items]) (OwnP.one (own_pc hO2)) hP4 (OwnP.one (own_pc hO4)) (NewP.cons hN4 NewP.nil),NewP.cons hN2 (NewP.cons (hN4.le hP2.1) NewP.nil),hP2.trans hP4⟩
 show Value.agg #[vS q2 (0 + s.x.items.length),vS q4 (0 + s.x.floors.length)] = _
 rw [Nat.zero_add,Nat.zero_add]
theorem ac_spec_l3Copy (s : SV) (st : St) (hR : RdS st s) (hb : bigS s.x) : C 90 [.agg #[vS s.p s.x.items.length,vS s.q s.x.floors.length]] st (fun v s' => ∃ u : SV,v = .agg #[vS u.p u.x.items.length,vS u.q u.x.floors.length] ∧ u.x = s.x ∧ OwnP s' (pcS u) ∧ NewP st.next (pcS u) ∧ Pres st s') := by
 have hs1 : s.x.items.length ≤ 1048576 := hb.1
 have hs2 : s.x.floors.length ≤ 1048576 := hb.2.1
 refine AC.enterX (i := ⟨[1,2],[1,2,4,8],[0,1,2],[]⟩) [(1,[3],[6])] Try.func90 rfl rfl (by kernel_rfl) (by kernel_rfl) Try.ntmps90 (Nat.le_of_ble_eq_true rfl) rfl ?_
 iterate 2 refine ⟨_,rfl,?_⟩
 refine AW.cutM (2) st [(1,vL 1 0 (0)),(2,vL 2 0 (1))] [(1,0,[vS s.p s.x.items.length,vS s.q s.x.floors.length]),(2,1,[.slice none 0 0,.slice none 0 0])] ⟨rfl,rfl,trivial⟩ ⟨rfl,rfl,trivial⟩ rfl fun ρ0 ff => ?_
 refine op_nilK (z := 6) (f := cItm) rfl rfl rfl rfl (by decide) rfl ?_
 intro q1 s1 hO1 hP1 hN1
 iterate 2 refine ⟨_,rfl,?_⟩
 refine op_app (z := 6) (st := s1) (f := cItm) (b := 56) (l := []) (l2 := s.x.items) rfl rfl rfl rfl rfl rfl rfl (by decide) len_cItm rfl rfl rfl rfl (by omega) (by unfold maxLen; omega) hO1 (hP1.rows hR.1) ?_
 intro q2 s2 hO2 hPr2 hN2
 refine ⟨hPr2.low hP1 hN1,?_⟩
 have ⟨hP2,hN2⟩ := copy_facts hP1 hN1 hPr2 hN2
 refine op_nilK (z := 2) (f := cFlr) rfl rfl rfl rfl (by decide) rfl ?_
 intro q3 s3 hO3 hP3 hN3
 iterate 2 refine ⟨_,rfl,?_⟩
 refine ⟨ld_own rfl rfl rfl,?_⟩
 refine op_app (z := 2) (st := s3) (f := cFlr) (b := 16) (l := []) (l2 := s.x.floors) rfl rfl rfl rfl rfl rfl rfl (by decide) len_cFlr rfl rfl rfl rfl (by omega) (by unfold maxLen; omega) hO3 ((hP2.trans hP3).rows hR.2) ?_
 intro q4 s4 hO4 hPr4 hN4
 iterate 2 refine ⟨_,rfl,?_⟩
 refine cxs ?_
 have ⟨hP4,hN4⟩ := copy_facts hP3 hN3 hPr4 hN4
 refine ⟨.inl rfl,_,rfl,⟨q2,q4,s.x⟩,?_,rfl,OwnP.join (l := [pcR 6 cItm q2 s.x.items]) (OwnP.one (own_pc hO2)) hP4 (OwnP.one (own_pc hO4)) (NewP.cons hN4 NewP.nil),NewP.cons hN2 (NewP.cons (hN4.le hP2.1) NewP.nil),hP2.trans hP4⟩
 show Value.agg #[vS q2 (0 + s.x.items.length),vS q4 (0 + s.x.floors.length)] = _
 rw [Nat.zero_add,Nat.zero_add]
def entP : List Itm → Int → Ent × Bool
 | [],_ => (zEnt,false)
 | x :: l,id => if x.id = id then (x.e,true) else entP l id
theorem ac_impl_EntryOf (s : SV) (id : Int) (st : St) (hR : RdS st s) (hb : bigS s.x) : C 82 [.agg #[vS s.p s.x.items.length,vS s.q s.x.floors.length],vI id] st (fun v s' => ∃ e b,v = .tuple #[.agg #[vI e.inc,vI e.rank,vI e.beat,vI e.ver,.string e.data],vB b] ∧ (e,b) = entP s.x.items id ∧ s' = st) := by
 have hs1 : s.x.items.length ≤ 1048576 := hb.1
 refine AC.enterX (i := ⟨[2,4,7],[2,4,7,8,15,19],[0,1,2,4,5,7,9,10,11,12,18],[]⟩) [] Try.func82 rfl rfl (by kernel_rfl) (by kernel_rfl) Try.ntmps82 (Nat.le_of_ble_eq_true rfl) rfl ?_
 iterate 2 refine ⟨_,rfl,?_⟩
 refine AW.cutM (2) st [(1,vI id),(2,vL 2 0 (0)),(4,vL 4 0 (1)),(5,vB false)] [(2,0,[vS s.p s.x.items.length,vS s.q s.x.floors.length]),(4,1,[vI 0,vI 0,vI 0,vI 0,.string ⟨#[]⟩])] ⟨rfl,rfl,rfl,rfl,trivial⟩ ⟨rfl,rfl,trivial⟩ rfl fun ρ0 ff => ?_
 iterate 3 refine ⟨_,rfl,?_⟩
 refine AW.cutM (2) st [(1,vI id),(2,vL 2 0 (0)),(4,vL 4 0 (1)),(5,vB false),(9,vS s.p s.x.items.length),(10,vI (s.x.items.length)),(11,vI (0))] [(2,0,[vS s.p s.x.items.length,vS s.q s.x.floors.length]),(4,1,[vI 0,vI 0,vI 0,vI 0,.string ⟨#[]⟩])] ⟨rfl,rfl,rfl,rfl,rfl,rfl,rfl,trivial⟩ ⟨rfl,rfl,trivial⟩ rfl fun ρ0 ff => ?_
 refine AW.loopM (fun i : Nat => [(1,vI id),(2,vL 2 0 (0)),(4,vL 4 0 (1)),(5,vB false),(9,vS s.p s.x.items.length),(10,vI (s.x.items.length : Int)),(11,vI (i : Int))]) (fun i : Nat => [(2,0,[vS s.p s.x.items.length,vS s.q s.x.floors.length]),(4,1,[vI 0,vI 0,vI 0,vI 0,.string ⟨#[]⟩])]) (fun m (i : Nat) st' => m = s.x.items.length - i ∧ i ≤ s.x.items.length ∧ entP s.x.items id = entP (s.x.items.drop i) id ∧ st = st') 0 _ ⟨rfl,rfl,rfl,rfl,rfl,rfl,rfl,trivial⟩ ⟨rfl,rfl,trivial⟩ ⟨rfl,Nat.zero_le _,rfl,rfl⟩ ?_
 rintro m i ρ0 ff gg st' ⟨rfl,hi,hf,rfl⟩
 refine ⟨_,rfl,?_⟩
 rintro (_|_) h1
 ·replace h1 : ¬ ((i : Int) < (s.x.items.length : Int)) := of_decide_eq_false h1
  refine AW.cutM (gg) st [(1,vI id),(2,vL 2 0 (0)),(4,vL 4 0 (1)),(5,vB false),(9,vS s.p s.x.items.length),(10,vI (s.x.items.length : Int)),(11,vI (i : Int)),(12,vB false)] [(2,0,[vS s.p s.x.items.length,vS s.q s.x.floors.length]),(4,1,[vI 0,vI 0,vI 0,vI 0,.string ⟨#[]⟩])] ⟨rfl,rfl,rfl,rfl,rfl,rfl,rfl,rfl,trivial⟩ ⟨rfl,rfl,trivial⟩ rfl fun ρ0 ff => ?_
  refine cxs ?_
  refine ⟨_,rfl,?_⟩
  refine ⟨_,op_sto rfl rfl rfl rfl rfl rfl rfl,?_⟩
  refine cxs ?_
  have hil : i = s.x.items.length := by omega
  exact ⟨.inl rfl,_,rfl,zEnt,false,rfl,by rw [hf,hil,List.drop_length]; rfl,rfl⟩
 ·replace h1 : (i : Int) < (s.x.items.length : Int) := of_decide_eq_true h1
  refine AW.cutM (gg) st [(1,vI id),(2,vL 2 0 (0)),(4,vL 4 0 (1)),(5,vB false),(9,vS s.p s.x.items.length),(10,vI (s.x.items.length : Int)),(11,vI (i : Int)),(12,vB true)] [(2,0,[vS s.p s.x.items.length,vS s.q s.x.floors.length]),(4,1,[vI 0,vI 0,vI 0,vI 0,.string ⟨#[]⟩])] ⟨rfl,rfl,rfl,rfl,rfl,rfl,rfl,rfl,trivial⟩ ⟨rfl,rfl,trivial⟩ rfl fun ρ0 ff => ?_
  have h1' := Int.ofNat_lt.1 h1
  have ⟨b1,o1,k1,x,hpe,hx,hm1,hc1,hb1⟩ := hR.1.atB h1'
  rw [(split_at' hx).2.2,entP] at hf
  refine cxs ?_
  refine ⟨_,op_idx (j := (i : Int)) (n := s.x.items.length) (q := ⟨b1,o1,none⟩) rfl (congrArg (fun u => vS u s.x.items.length) hpe) rfl rfl rfl (Int.natCast_nonneg _) h1,?_⟩
  refine ⟨_,op_lda rfl rfl rfl rfl rfl hm1 hc1 rfl,?_⟩
  refine ⟨_,rfl,?_⟩
  refine ⟨_,op_sto rfl rfl rfl rfl rfl rfl rfl,?_⟩
  refine AW.cutM (gg + 1) st [(1,vI id),(2,vL 2 0 (0)),(4,vL 4 0 (1)),(5,vB false),(7,vL 7 0 (gg)),(9,vS s.p s.x.items.length),(10,vI (s.x.items.length : Int)),(11,vI (i : Int)),(12,vB true)] [(2,0,[vS s.p s.x.items.length,vS s.q s.x.floors.length]),(4,1,[vI 0,vI 0,vI 0,vI 0,.string ⟨#[]⟩]),(7,gg,[vI x.id,vI x.e.inc,vI x.e.rank,vI x.e.beat,vI x.e.ver,.string x.e.data])] ⟨rfl,rfl,rfl,rfl,rfl,rfl,rfl,rfl,rfl,trivial⟩ ⟨rfl,rfl,rfl,trivial⟩ rfl fun ρ0 ff => ?_
  refine ⟨_,rfl,?_⟩
  refine ⟨_,op_ldo rfl rfl rfl rfl,?_⟩
  refine ⟨_,rfl,?_⟩
  rintro (_|_) h2
  ·replace h2 : ¬ (x.id = id) := beq_eq_false_iff_ne.1 h2
   refine AW.cutM (gg + 1) st [(1,vI id),(2,vL 2 0 (0)),(4,vL 4 0 (1)),(5,vB false),(7,vL 7 0 (gg)),(9,vS s.p s.x.items.length),(10,vI (s.x.items.length : Int)),(11,vI (i : Int)),(12,vB true),(18,vB false)] [(2,0,[vS s.p s.x.items.length,vS s.q s.x.floors.length]),(4,1,[vI 0,vI 0,vI 0,vI 0,.string ⟨#[]⟩]),(7,gg,[vI x.id,vI x.e.inc,vI x.e.rank,vI x.e.beat,vI x.e.ver,.string x.e.data])] ⟨rfl,rfl,rfl,rfl,rfl,rfl,rfl,rfl,rfl,rfl,trivial⟩ ⟨rfl,rfl,rfl,trivial⟩ rfl fun ρ0 ff => ?_
   refine cxs ?_
   have e21 : IntKind.wrap .i64 ((i : Int) + 1) = ((i + 1 : Nat) : Int) := (wrap_i64 (by omega) (by omega)).trans (by omega)
   refine ⟨_,rfl,?_⟩
   exact ⟨i + 1,s.x.items.length - (i + 1),by omega,⟨rfl,rfl,rfl,rfl,rfl,rfl,congrArg (Value.int .i64) e21,trivial⟩,⟨rfl,rfl,trivial⟩,rfl,h1',by rw [hf,if_neg h2],rfl⟩
  ·replace h2 : x.id = id := beq_iff_eq.1 h2
   refine AW.cutM (gg + 1) st [(1,vI id),(2,vL 2 0 (0)),(4,vL 4 0 (1)),(5,vB false),(7,vL 7 0 (gg)),(9,vS s.p s.x.items.length),(10,vI (s.x.items.length : Int)),(11,vI (i : Int)),(12,vB true),(18,vB true)] [(2,0,[vS s.p s.x.items.length,vS s.q s.x.floors.length]),(4,1,[vI 0,vI 0,vI 0,vI 0,.string ⟨#[]⟩]),(7,gg,[vI x.id,vI x.e.inc,vI x.e.rank,vI x.e.beat,vI x.e.ver,.string x.e.data])] ⟨rfl,rfl,rfl,rfl,rfl,rfl,rfl,rfl,rfl,rfl,trivial⟩ ⟨rfl,rfl,rfl,trivial⟩ rfl fun ρ0 ff => ?_
   refine ⟨_,rfl,?_⟩
   refine ⟨_,op_ldo rfl rfl rfl rfl,?_⟩
   refine ⟨_,op_sto rfl rfl rfl rfl rfl rfl rfl,?_⟩
   refine cxs ?_
   exact ⟨.inl rfl,_,rfl,x.e,true,rfl,by rw [hf,if_pos h2],rfl⟩
theorem ac_spec_EntryOf (s : SV) (id : Int) (st : St) (hR : RdS st s) (hb : bigS s.x) : C 154 [.agg #[vS s.p s.x.items.length,vS s.q s.x.floors.length],vI id] st (fun v s' => ∃ e b,v = .tuple #[.agg #[vI e.inc,vI e.rank,vI e.beat,vI e.ver,.string e.data],vB b] ∧ (e,b) = entP s.x.items id ∧ s' = st) := by
 have hs1 : s.x.items.length ≤ 1048576 := hb.1
 refine AC.enterX (i := ⟨[2,4],[2,4,8,14,22],[0,1,2,4,5,6,11,21],[]⟩) [] Try.func154 rfl rfl (by kernel_rfl) (by kernel_rfl) Try.ntmps154 (Nat.le_of_ble_eq_true rfl) rfl ?_
 iterate 2 refine ⟨_,rfl,?_⟩
 refine cxs ?_
 refine AW.cutM (2) st [(1,vI id),(2,vL 2 0 (0)),(4,vL 4 0 (1)),(5,vB false),(6,vI (0))] [(2,0,[vS s.p s.x.items.length,vS s.q s.x.floors.length]),(4,1,[vI 0,vI 0,vI 0,vI 0,.string ⟨#[]⟩])] ⟨rfl,rfl,rfl,rfl,rfl,trivial⟩ ⟨rfl,rfl,trivial⟩ rfl fun ρ0 ff => ?_
 refine AW.loopM (fun i : Nat => [(1,vI id),(2,vL 2 0 (0)),(4,vL 4 0 (1)),(5,vB false),(6,vI (i : Int))]) (fun i : Nat => [(2,0,[vS s.p s.x.items.length,vS s.q s.x.floors.length]),(4,1,[vI 0,vI 0,vI 0,vI 0,.string ⟨#[]⟩])]) (fun m (i : Nat) st' => m = s.x.items.length - i ∧ i ≤ s.x.items.length ∧ entP s.x.items id = entP (s.x.items.drop i) id ∧ st = st') 0 _ ⟨rfl,rfl,rfl,rfl,rfl,trivial⟩ ⟨rfl,rfl,trivial⟩ ⟨rfl,Nat.zero_le _,rfl,rfl⟩ ?_
 rintro m i ρ0 ff gg st' ⟨rfl,hi,hf,rfl⟩
 refine ⟨_,rfl,?_⟩
 refine ⟨_,op_ldo rfl rfl rfl rfl,?_⟩
 iterate 2 refine ⟨_,rfl,?_⟩
 rintro (_|_) h1
 ·replace h1 : ¬ ((i : Int) < (s.x.items.length : Int)) := of_decide_eq_false h1
  refine AW.cutM (gg) st [(1,vI id),(2,vL 2 0 (0)),(4,vL 4 0 (1)),(5,vB false),(6,vI (i : Int)),(11,vB false)] [(2,0,[vS s.p s.x.items.length,vS s.q s.x.floors.length]),(4,1,[vI 0,vI 0,vI 0,vI 0,.string ⟨#[]⟩])] ⟨rfl,rfl,rfl,rfl,rfl,rfl,trivial⟩ ⟨rfl,rfl,trivial⟩ rfl fun ρ0 ff => ?_
  refine cxs ?_
  refine ⟨_,rfl,?_⟩
  refine ⟨_,op_sto rfl rfl rfl rfl rfl rfl rfl,?_⟩
  refine cxs ?_
  have hil : i = s.x.items.length := by omega
  exact ⟨.inl rfl,_,rfl,zEnt,false,rfl,by rw [hf,hil,List.drop_length]; rfl,rfl⟩
 ·replace h1 : (i : Int) < (s.x.items.length : Int) := of_decide_eq_true h1
  refine AW.cutM (gg) st [(1,vI id),(2,vL 2 0 (0)),(4,vL 4 0 (1)),(5,vB false),(6,vI (i : Int)),(11,vB true)] [(2,0,[vS s.p s.x.items.length,vS s.q s.x.floors.length]),(4,1,[vI 0,vI 0,vI 0,vI 0,.string ⟨#[]⟩])] ⟨rfl,rfl,rfl,rfl,rfl,rfl,trivial⟩ ⟨rfl,rfl,trivial⟩ rfl fun ρ0 ff => ?_
  have h1' := Int.ofNat_lt.1 h1
  have ⟨b1,o1,k1,x,hpe,hx,hm1,hc1,hb1⟩ := hR.1.atB h1'
  rw [(split_at' hx).2.2,entP] at hf
  have hc5 : (k1.cells.drop (o1 + i * 6 + 1)).take 5 = cEnt x.e := row_sub (i := 1) hc1 rfl (by decide)
  refine cxs ?_
  refine ⟨_,rfl,?_⟩
  refine ⟨_,op_ldo rfl rfl rfl rfl,?_⟩
  refine ⟨_,op_idx (j := (i : Int)) (n := s.x.items.length) (q := ⟨b1,o1,none⟩) rfl (congrArg (fun u => vS u s.x.items.length) hpe) rfl rfl rfl (Int.natCast_nonneg _) h1,?_⟩
  refine ⟨_,rfl,?_⟩
  refine ⟨_,op_ldc (i := 0) rfl rfl rfl rfl hm1 hc1 rfl rfl,?_⟩
  refine ⟨_,rfl,?_⟩
  rintro (_|_) h2
  ·replace h2 : ¬ (x.id = id) := beq_eq_false_iff_ne.1 h2
   refine AW.cutM (gg) st [(1,vI id),(2,vL 2 0 (0)),(4,vL 4 0 (1)),(5,vB false),(6,vI (i : Int)),(11,vB true),(21,vB false)] [(2,0,[vS s.p s.x.items.length,vS s.q s.x.floors.length]),(4,1,[vI 0,vI 0,vI 0,vI 0,.string ⟨#[]⟩])] ⟨rfl,rfl,rfl,rfl,rfl,rfl,rfl,trivial⟩ ⟨rfl,rfl,trivial⟩ rfl fun ρ0 ff => ?_
   refine cxs ?_
   have e13 : IntKind.wrap .i64 ((i : Int) + 1) = ((i + 1 : Nat) : Int) := (wrap_i64 (by omega) (by omega)).trans (by omega)
   refine ⟨_,rfl,?_⟩
   exact ⟨i + 1,s.x.items.length - (i + 1),by omega,⟨rfl,rfl,rfl,rfl,congrArg (Value.int .i64) e13,trivial⟩,⟨rfl,rfl,trivial⟩,rfl,h1',by rw [hf,if_neg h2],rfl⟩
  ·replace h2 : x.id = id := beq_iff_eq.1 h2
   refine AW.cutM (gg) st [(1,vI id),(2,vL 2 0 (0)),(4,vL 4 0 (1)),(5,vB false),(6,vI (i : Int)),(11,vB true),(21,vB true)] [(2,0,[vS s.p s.x.items.length,vS s.q s.x.floors.length]),(4,1,[vI 0,vI 0,vI 0,vI 0,.string ⟨#[]⟩])] ⟨rfl,rfl,rfl,rfl,rfl,rfl,rfl,trivial⟩ ⟨rfl,rfl,trivial⟩ rfl fun ρ0 ff => ?_
   refine ⟨_,rfl,?_⟩
   refine ⟨_,op_ldo rfl rfl rfl rfl,?_⟩
   refine ⟨_,op_idx (j := (i : Int)) (n := s.x.items.length) (q := ⟨b1,o1,none⟩) rfl (congrArg (fun u => vS u s.x.items.length) hpe) rfl rfl rfl (Int.natCast_nonneg _) h1,?_⟩
   refine ⟨_,rfl,?_⟩
   refine ⟨_,op_lda rfl rfl rfl rfl rfl hm1 hc5 rfl,?_⟩
   refine ⟨_,op_sto rfl rfl rfl rfl rfl rfl rfl,?_⟩
   refine cxs ?_
   exact ⟨.inl rfl,_,rfl,x.e,true,rfl,by rw [hf,if_pos h2],rfl⟩
open Classical in
noncomputable def goneAt (s : Sta) (id : Int) : Int :=
 if stateOk s then (if (entP s.items id).2 = true then (if (entP s.items id).1.rank = 1 then (entP s.items id).1.inc else (entP s.items id).1.inc - 1) else floorOf s.floors id) else 0
theorem entP_mem : ∀ {l : List Itm} {id : Int} {e : Ent},(e,true) = entP l id → ∃ (j : Nat) (x : Itm),l[j]? = some x ∧ x.e = e ∧ x.id = id
 | [],id,e,h => by simp [entP] at h
 | x :: l,id,e,h => by
  rw [entP] at h
  split at h
  ·rename_i hx
   injection h with h
   exact ⟨0,x,rfl,h.symm,hx⟩
  ·obtain ⟨j,y,h1,h2⟩ := entP_mem h
   exact ⟨j + 1,y,by simpa using h1,h2⟩
theorem ent_ok {s : Sta} (h : stateOk s) {id : Int} {e : Ent} (he : (e,true) = entP s.items id) : entOk e := by
 obtain ⟨j,x,h1,h2,_⟩ := entP_mem he
 rw [← h2]; exact (h.1 j x h1).2.1
theorem ac_impl_GoneAt (s : SV) (id : Int) (st : St) (hR : RdS st s) (hb : bigS s.x) : C 27 [.agg #[vS s.p s.x.items.length,vS s.q s.x.floors.length],vI id] st (fun v s' => v = vI (goneAt s.x id) ∧ s' = st) := by
 refine AC.enterX (i := ⟨[2,5],[2,5,23,26,28],[0,1,2,4,5,6,9,16,22],[]⟩) [] Try.func27 rfl rfl (by kernel_rfl) (by kernel_rfl) Try.ntmps27 (Nat.le_of_ble_eq_true rfl) rfl ?_
 refine ⟨_,rfl,?_⟩
 refine AW.cutM (1) st [(1,vI id),(2,vL 2 0 (0)),(4,vI (0))] [(2,0,[vS s.p s.x.items.length,vS s.q s.x.floors.length])] ⟨rfl,rfl,rfl,trivial⟩ ⟨rfl,trivial⟩ rfl fun ρ0 ff => ?_
 refine ⟨_,rfl,?_⟩
 refine ⟨_,rfl,(ac_impl_StateOk s st hR hb).mono ?_⟩
 rintro _ st ⟨c,rfl,hk,rfl⟩
 rcases c with _|_
 ·replace hk := fun k => Bool.false_ne_true (hk.2 k)
  refine ⟨_,rfl,?_⟩
  refine AW.cutM (1) st [(1,vI id),(2,vL 2 0 (0)),(4,vI (0)),(9,vB true)] [(2,0,[vS s.p s.x.items.length,vS s.q s.x.floors.length])] ⟨rfl,rfl,rfl,rfl,trivial⟩ ⟨rfl,trivial⟩ rfl fun ρ0 ff => ?_
  refine cxs ?_
  exact ⟨.inl rfl,_,rfl,congrArg vI (by rw [goneAt,if_neg hk]),rfl⟩
 ·replace hk := hk.1 rfl
  refine ⟨_,rfl,?_⟩
  refine AW.cutM (1) st [(1,vI id),(2,vL 2 0 (0)),(4,vI (0)),(9,vB false)] [(2,0,[vS s.p s.x.items.length,vS s.q s.x.floors.length])] ⟨rfl,rfl,rfl,rfl,trivial⟩ ⟨rfl,trivial⟩ rfl fun ρ0 ff => ?_
  refine cxs ?_
  refine ⟨_,rfl,?_⟩
  refine ⟨_,rfl,(ac_impl_EntryOf s id st hR hb).mono ?_⟩
  rintro _ st ⟨e,b,rfl,he,rfl⟩
  rcases b with _|_
  ·iterate 4 refine ⟨_,rfl,?_⟩
   refine AW.cutM (2) st [(1,vI id),(2,vL 2 0 (0)),(4,vI (0)),(5,vL 5 0 (1)),(6,vB false)] [(2,0,[vS s.p s.x.items.length,vS s.q s.x.floors.length]),(5,1,[vI e.inc,vI e.rank,vI e.beat,vI e.ver,.string e.data])] ⟨rfl,rfl,rfl,rfl,rfl,trivial⟩ ⟨rfl,rfl,trivial⟩ rfl fun ρ0 ff => ?_
   refine ⟨_,rfl,?_⟩
   refine AW.cutM (2) st [(1,vI id),(2,vL 2 0 (0)),(4,vI (0)),(5,vL 5 0 (1)),(16,vB true)] [(2,0,[vS s.p s.x.items.length,vS s.q s.x.floors.length]),(5,1,[vI e.inc,vI e.rank,vI e.beat,vI e.ver,.string e.data])] ⟨rfl,rfl,rfl,rfl,rfl,trivial⟩ ⟨rfl,rfl,trivial⟩ rfl fun ρ0 ff => ?_
   refine ⟨_,rfl,?_⟩
   refine ⟨_,rfl,(ac_impl_FloorOf s id st hR hb).mono ?_⟩
   rintro _ st ⟨rfl,rfl⟩
   refine cxs ?_
   exact ⟨.inl rfl,_,rfl,congrArg vI (by simp [goneAt,hk,← he]),rfl⟩
  ·iterate 4 refine ⟨_,rfl,?_⟩
   refine AW.cutM (2) st [(1,vI id),(2,vL 2 0 (0)),(4,vI (0)),(5,vL 5 0 (1)),(6,vB true)] [(2,0,[vS s.p s.x.items.length,vS s.q s.x.floors.length]),(5,1,[vI e.inc,vI e.rank,vI e.beat,vI e.ver,.string e.data])] ⟨rfl,rfl,rfl,rfl,rfl,trivial⟩ ⟨rfl,rfl,trivial⟩ rfl fun ρ0 ff => ?_
   refine ⟨_,rfl,?_⟩
   refine AW.cutM (2) st [(1,vI id),(2,vL 2 0 (0)),(4,vI (0)),(5,vL 5 0 (1)),(16,vB false)] [(2,0,[vS s.p s.x.items.length,vS s.q s.x.floors.length]),(5,1,[vI e.inc,vI e.rank,vI e.beat,vI e.ver,.string e.data])] ⟨rfl,rfl,rfl,rfl,rfl,trivial⟩ ⟨rfl,rfl,trivial⟩ rfl fun ρ0 ff => ?_
   iterate 3 refine ⟨_,rfl,?_⟩
   rintro (_|_) h3
   ·replace h3 : ¬ (e.rank = 1) := beq_eq_false_iff_ne.1 h3
    refine AW.cutM (2) st [(4,vI (0)),(5,vL 5 0 (1)),(22,vB false)] [(5,1,[vI e.inc,vI e.rank,vI e.beat,vI e.ver,.string e.data])] ⟨rfl,rfl,rfl,trivial⟩ ⟨rfl,trivial⟩ rfl fun ρ0 ff => ?_
    refine cxs ?_
    iterate 2 refine ⟨_,rfl,?_⟩
    have hee := (ent_ok hk he).1
    have e30 : IntKind.wrap .i64 (e.inc - 1) = e.inc - 1 := wrap_i64 (by omega) (by omega)
    refine ⟨_,rfl,?_⟩
    refine cxs ?_
    exact ⟨.inl rfl,_,rfl,congrArg vI (by simp [goneAt,hk,← he,h3,e30]),rfl⟩
   ·replace h3 : e.rank = 1 := beq_iff_eq.1 h3
    refine AW.cutM (2) st [(4,vI (0)),(5,vL 5 0 (1)),(22,vB true)] [(5,1,[vI e.inc,vI e.rank,vI e.beat,vI e.ver,.string e.data])] ⟨rfl,rfl,rfl,trivial⟩ ⟨rfl,trivial⟩ rfl fun ρ0 ff => ?_
    iterate 2 refine ⟨_,rfl,?_⟩
    refine cxs ?_
    exact ⟨.inl rfl,_,rfl,congrArg vI (by simp [goneAt,hk,← he,h3]),rfl⟩
theorem ac_spec_GoneAt (s : SV) (id : Int) (st : St) (hR : RdS st s) (hb : bigS s.x) : C 178 [.agg #[vS s.p s.x.items.length,vS s.q s.x.floors.length],vI id] st (fun v s' => v = vI (goneAt s.x id) ∧ s' = st) := by
 refine AC.enterX (i := ⟨[2,5],[2,5,21,24,27],[0,1,2,4,5,6,9,17,23],[]⟩) [] Try.func178 rfl rfl (by kernel_rfl) (by kernel_rfl) Try.ntmps178 (Nat.le_of_ble_eq_true rfl) rfl ?_
 refine ⟨_,rfl,?_⟩
 refine AW.cutM (1) st [(1,vI id),(2,vL 2 0 (0)),(4,vI (0))] [(2,0,[vS s.p s.x.items.length,vS s.q s.x.floors.length])] ⟨rfl,rfl,rfl,trivial⟩ ⟨rfl,trivial⟩ rfl fun ρ0 ff => ?_
 refine ⟨_,rfl,?_⟩
 refine ⟨_,rfl,(ac_spec_StateOk s st hR hb).mono ?_⟩
 rintro _ st ⟨c,rfl,hk,rfl⟩
 rcases c with _|_
 ·replace hk := fun k => Bool.false_ne_true (hk.2 k)
  refine ⟨_,rfl,?_⟩
  refine AW.cutM (1) st [(1,vI id),(2,vL 2 0 (0)),(4,vI (0)),(9,vB true)] [(2,0,[vS s.p s.x.items.length,vS s.q s.x.floors.length])] ⟨rfl,rfl,rfl,rfl,trivial⟩ ⟨rfl,trivial⟩ rfl fun ρ0 ff => ?_
  refine cxs ?_
  exact ⟨.inl rfl,_,rfl,congrArg vI (by rw [goneAt,if_neg hk]),rfl⟩
 ·replace hk := hk.1 rfl
  refine ⟨_,rfl,?_⟩
  refine AW.cutM (1) st [(1,vI id),(2,vL 2 0 (0)),(4,vI (0)),(9,vB false)] [(2,0,[vS s.p s.x.items.length,vS s.q s.x.floors.length])] ⟨rfl,rfl,rfl,rfl,trivial⟩ ⟨rfl,trivial⟩ rfl fun ρ0 ff => ?_
  refine cxs ?_
  refine ⟨_,rfl,?_⟩
  refine ⟨_,rfl,(ac_spec_EntryOf s id st hR hb).mono ?_⟩
  rintro _ st ⟨e,b,rfl,he,rfl⟩
  rcases b with _|_
  ·iterate 4 refine ⟨_,rfl,?_⟩
   refine AW.cutM (2) st [(1,vI id),(2,vL 2 0 (0)),(4,vI (0)),(5,vL 5 0 (1)),(6,vB false)] [(2,0,[vS s.p s.x.items.length,vS s.q s.x.floors.length]),(5,1,[vI e.inc,vI e.rank,vI e.beat,vI e.ver,.string e.data])] ⟨rfl,rfl,rfl,rfl,rfl,trivial⟩ ⟨rfl,rfl,trivial⟩ rfl fun ρ0 ff => ?_
   refine ⟨_,rfl,?_⟩
   refine AW.cutM (2) st [(1,vI id),(2,vL 2 0 (0)),(4,vI (0)),(5,vL 5 0 (1)),(17,vB true)] [(2,0,[vS s.p s.x.items.length,vS s.q s.x.floors.length]),(5,1,[vI e.inc,vI e.rank,vI e.beat,vI e.ver,.string e.data])] ⟨rfl,rfl,rfl,rfl,rfl,trivial⟩ ⟨rfl,rfl,trivial⟩ rfl fun ρ0 ff => ?_
   refine ⟨_,rfl,?_⟩
   refine ⟨_,rfl,(ac_spec_FloorOf s id st hR hb).mono ?_⟩
   rintro _ st ⟨rfl,rfl⟩
   refine cxs ?_
   exact ⟨.inl rfl,_,rfl,congrArg vI (by simp [goneAt,hk,← he]),rfl⟩
  ·iterate 4 refine ⟨_,rfl,?_⟩
   refine AW.cutM (2) st [(1,vI id),(2,vL 2 0 (0)),(4,vI (0)),(5,vL 5 0 (1)),(6,vB true)] [(2,0,[vS s.p s.x.items.length,vS s.q s.x.floors.length]),(5,1,[vI e.inc,vI e.rank,vI e.beat,vI e.ver,.string e.data])] ⟨rfl,rfl,rfl,rfl,rfl,trivial⟩ ⟨rfl,rfl,trivial⟩ rfl fun ρ0 ff => ?_
   refine ⟨_,rfl,?_⟩
   refine AW.cutM (2) st [(1,vI id),(2,vL 2 0 (0)),(4,vI (0)),(5,vL 5 0 (1)),(17,vB false)] [(2,0,[vS s.p s.x.items.length,vS s.q s.x.floors.length]),(5,1,[vI e.inc,vI e.rank,vI e.beat,vI e.ver,.string e.data])] ⟨rfl,rfl,rfl,rfl,rfl,trivial⟩ ⟨rfl,rfl,trivial⟩ rfl fun ρ0 ff => ?_
   refine cxs ?_
   iterate 3 refine ⟨_,rfl,?_⟩
   rintro (_|_) h3
   ·replace h3 : ¬ (e.rank = 0) := beq_eq_false_iff_ne.1 h3
    refine AW.cutM (2) st [(4,vI (0)),(5,vL 5 0 (1)),(23,vB false)] [(5,1,[vI e.inc,vI e.rank,vI e.beat,vI e.ver,.string e.data])] ⟨rfl,rfl,rfl,trivial⟩ ⟨rfl,trivial⟩ rfl fun ρ0 ff => ?_
    refine cxs ?_
    iterate 2 refine ⟨_,rfl,?_⟩
    refine cxs ?_
    have hr := (ent_ok hk he).2.1
    have h4 : e.rank = 1 := by omega
    exact ⟨.inl rfl,_,rfl,congrArg vI (by simp [goneAt,hk,← he,h4]),rfl⟩
   ·replace h3 : e.rank = 0 := beq_iff_eq.1 h3
    refine AW.cutM (2) st [(4,vI (0)),(5,vL 5 0 (1)),(23,vB true)] [(5,1,[vI e.inc,vI e.rank,vI e.beat,vI e.ver,.string e.data])] ⟨rfl,rfl,rfl,trivial⟩ ⟨rfl,trivial⟩ rfl fun ρ0 ff => ?_
    iterate 2 refine ⟨_,rfl,?_⟩
    have hee := (ent_ok hk he).1
    have e26 : IntKind.wrap .i64 (e.inc - 1) = e.inc - 1 := wrap_i64 (by omega) (by omega)
    refine ⟨_,rfl,?_⟩
    refine cxs ?_
    exact ⟨.inl rfl,_,rfl,congrArg vI (by simp [goneAt,hk,← he,h3,e26]),rfl⟩
def marksF (g : Int → Int) (i : Nat) : List Flr := (List.range i).filterMap fun (j : Nat) => if g (j : Int) > 0 then some ⟨(j : Int),g (j : Int)⟩ else none
theorem marksF_succ (g : Int → Int) (i : Nat) : marksF g (i + 1) = if g (i : Int) > 0 then marksF g i ++ [⟨(i : Int),g (i : Int)⟩] else marksF g i := by
 unfold marksF
 rw [List.range_succ,List.filterMap_append]
 split <;> simp [*]
theorem marksF_len (g : Int → Int) : ∀ i,(marksF g i).length ≤ i
 | 0 => by simp [marksF]
 | i + 1 => by
  have := marksF_len g i
  rw [marksF_succ]
  split <;> simp <;> omega
theorem ac_impl_MarksOf (s : SV) (st : St) (hR : RdS st s) (hb : bigS s.x) : C 26 [.agg #[vS s.p s.x.items.length,vS s.q s.x.floors.length]] st (fun v s' => ∃ q,v = vS q (marksF (goneAt s.x) 5).length ∧ OwnR s' 2 cFlr q (marksF (goneAt s.x) 5) ∧ Pres st s' ∧ New st.next q) := by
 refine AC.enterX (i := ⟨[1],[1],[0,1,2,3,4,5,8,15],[]⟩) [] Try.func26 rfl rfl (by kernel_rfl) (by kernel_rfl) Try.ntmps26 (Nat.le_of_ble_eq_true rfl) rfl ?_
 refine ⟨_,rfl,?_⟩
 refine AW.cutM (1) st [(1,vL 1 0 (0)),(2,.slice none 0 0)] [(1,0,[vS s.p s.x.items.length,vS s.q s.x.floors.length])] ⟨rfl,rfl,trivial⟩ ⟨rfl,trivial⟩ rfl fun ρ0 ff => ?_
 refine op_nilK (z := 2) (f := cFlr) rfl rfl rfl rfl (by decide) rfl ?_
 intro q0 s0 hO0 hP0 hN0
 refine cxs ?_
 refine AW.cutM (1) s0 [(1,vL 1 0 (0)),(2,.slice none 0 0),(3,vS q0 0),(4,vI (0))] [(1,0,[vS s.p s.x.items.length,vS s.q s.x.floors.length])] ⟨rfl,rfl,rfl,rfl,trivial⟩ ⟨rfl,trivial⟩ rfl fun ρ0 ff => ?_
 refine AW.loopM (fun x : Nat × Option Addr => [(1,vL 1 0 (0)),(3,vS x.2 (marksF (goneAt s.x) x.1).length),(4,vI (x.1 : Int))]) (fun x : Nat × Option Addr => [(1,0,[vS s.p s.x.items.length,vS s.q s.x.floors.length])]) (fun m (x : Nat × Option Addr) st' => m = 5 - x.1 ∧ x.1 ≤ 5 ∧ OwnR st' 2 cFlr x.2 (marksF (goneAt s.x) x.1) ∧ New st.next x.2 ∧ Pres st st') (0,q0) _ ⟨rfl,rfl,rfl,trivial⟩ ⟨rfl,trivial⟩ ⟨rfl,Nat.zero_le _,(show OwnR s0 2 cFlr q0 (marksF (goneAt s.x) 0) from hO0),hN0,hP0⟩ ?_
 rintro m x ρ0 ff gg st' ⟨rfl,hi,hO,hN,hP⟩
 have hml := marksF_len (goneAt s.x) x.1
 refine ⟨_,rfl,?_⟩
 rintro (_|_) h1
 ·replace h1 : ¬ ((x.1 : Int) < 5) := of_decide_eq_false h1
  refine AW.cutM (gg) st' [(1,vL 1 0 (0)),(3,vS x.2 (marksF (goneAt s.x) x.1).length),(4,vI (x.1 : Int)),(8,vB false)] [(1,0,[vS s.p s.x.items.length,vS s.q s.x.floors.length])] ⟨rfl,rfl,rfl,rfl,trivial⟩ ⟨rfl,trivial⟩ rfl fun ρ0 ff => ?_
  refine cxs ?_
  refine cxs ?_
  have hil : x.1 = 5 := by omega
  rw [hil] at hO
  exact ⟨.inl rfl,_,rfl,x.2,congrArg (fun i => vS x.2 (marksF (goneAt s.x) i).length) hil,hO,hP,hN⟩
 ·replace h1 : (x.1 : Int) < 5 := of_decide_eq_true h1
  refine AW.cutM (gg) st' [(1,vL 1 0 (0)),(3,vS x.2 (marksF (goneAt s.x) x.1).length),(4,vI (x.1 : Int)),(8,vB true)] [(1,0,[vS s.p s.x.items.length,vS s.q s.x.floors.length])] ⟨rfl,rfl,rfl,rfl,trivial⟩ ⟨rfl,trivial⟩ rfl fun ρ0 ff => ?_
  refine cxs ?_
  refine ⟨_,op_ldo rfl rfl rfl rfl,?_⟩
  refine ⟨_,rfl,(ac_impl_GoneAt s x.1 st' (hR.pres hP) hb).mono ?_⟩
  rintro _ st' ⟨rfl,rfl⟩
  refine AW.cutM (gg) st' [(1,vL 1 0 (0)),(3,vS x.2 (marksF (goneAt s.x) x.1).length),(4,vI (x.1 : Int)),(5,vI (goneAt s.x (x.1 : Int))),(8,vB true)] [(1,0,[vS s.p s.x.items.length,vS s.q s.x.floors.length])] ⟨rfl,rfl,rfl,rfl,rfl,trivial⟩ ⟨rfl,trivial⟩ rfl fun ρ0 ff => ?_
  refine ⟨_,rfl,?_⟩
  rintro (_|_) h2
  ·replace h2 : ¬ (goneAt s.x (x.1 : Int) > 0) := of_decide_eq_false h2
   refine AW.cutM (gg) st' [(1,vL 1 0 (0)),(3,vS x.2 (marksF (goneAt s.x) x.1).length),(4,vI (x.1 : Int)),(5,vI (goneAt s.x (x.1 : Int))),(8,vB true),(15,vB false)] [(1,0,[vS s.p s.x.items.length,vS s.q s.x.floors.length])] ⟨rfl,rfl,rfl,rfl,rfl,rfl,trivial⟩ ⟨rfl,trivial⟩ rfl fun ρ0 ff => ?_
   refine cxs ?_
   have e10 : IntKind.wrap .i64 ((x.1 : Int) + 1) = ((x.1 + 1 : Nat) : Int) := (wrap_i64 (by omega) (by omega)).trans (by omega)
   refine ⟨_,rfl,?_⟩
   have hm := marksF_succ (goneAt s.x) x.1
   rw [if_neg h2] at hm
   exact ⟨(x.1 + 1,x.2),5 - (x.1 + 1),by omega,⟨rfl,congrArg (fun l : List Flr => vS x.2 l.length) hm.symm,congrArg (Value.int .i64) e10,trivial⟩,⟨rfl,trivial⟩,rfl,by omega,by rw [hm]; exact hO,hN,hP⟩
  ·replace h2 : goneAt s.x (x.1 : Int) > 0 := of_decide_eq_true h2
   refine AW.cutM (gg) st' [(1,vL 1 0 (0)),(3,vS x.2 (marksF (goneAt s.x) x.1).length),(4,vI (x.1 : Int)),(5,vI (goneAt s.x (x.1 : Int))),(8,vB true),(15,vB true)] [(1,0,[vS s.p s.x.items.length,vS s.q s.x.floors.length])] ⟨rfl,rfl,rfl,rfl,rfl,rfl,trivial⟩ ⟨rfl,trivial⟩ rfl fun ρ0 ff => ?_
   refine ⟨_,rfl,?_⟩
   refine op_one (z := 2) (a := (⟨(x.1 : Int),goneAt s.x (x.1 : Int)⟩ : Flr)) (f := cFlr) rfl rfl rfl rfl rfl (by decide) rfl (Nat.le_of_ble_eq_true rfl) rfl rfl rfl ?_
   refine op_add (z := 2) (st := st') (f := cFlr) (b := 16) (l := marksF (goneAt s.x) x.1) rfl rfl rfl rfl rfl rfl rfl (by decide) len_cFlr rfl rfl rfl (by omega) (by unfold maxLen; omega) hO ?_
   intro q4 s4 hO4 hP4 hN4
   refine AW.cutM (gg) s4 [(1,vL 1 0 (0)),(3,vS q4 ((marksF (goneAt s.x) x.1).length + 1)),(4,vI (x.1 : Int)),(5,vI (goneAt s.x (x.1 : Int))),(8,vB true),(15,vB true)] [(1,0,[vS s.p s.x.items.length,vS s.q s.x.floors.length])] ⟨rfl,rfl,rfl,rfl,rfl,rfl,trivial⟩ ⟨rfl,trivial⟩ rfl fun ρ0 ff => ?_
   have e10 : IntKind.wrap .i64 ((x.1 : Int) + 1) = ((x.1 + 1 : Nat) : Int) := (wrap_i64 (by omega) (by omega)).trans (by omega)
   refine ⟨_,rfl,?_⟩
   have hm := marksF_succ (goneAt s.x) x.1
   rw [if_pos h2] at hm
   exact ⟨(x.1 + 1,q4),5 - (x.1 + 1),by omega,⟨rfl,(show vS q4 ((marksF (goneAt s.x) x.1).length + 1) = vS q4 (marksF (goneAt s.x) (x.1 + 1)).length by rw [hm,List.length_append]; rfl),congrArg (Value.int .i64) e10,trivial⟩,⟨rfl,trivial⟩,rfl,by omega,by rw [hm]; exact hO4,hN4.le hP.1,hP4.pres hP hN⟩
theorem ac_spec_MarksOf (s : SV) (st : St) (hR : RdS st s) (hb : bigS s.x) : C 150 [.agg #[vS s.p s.x.items.length,vS s.q s.x.floors.length]] st (fun v s' => ∃ q,v = vS q (marksF (goneAt s.x) 5).length ∧ OwnR s' 2 cFlr q (marksF (goneAt s.x) 5) ∧ Pres st s' ∧ New st.next q) := by
 refine AC.enterX (i := ⟨[1],[1],[0,1,2,3,4,5,8,15],[]⟩) [] Try.func150 rfl rfl (by kernel_rfl) (by kernel_rfl) Try.ntmps150 (Nat.le_of_ble_eq_true rfl) rfl ?_
 refine ⟨_,rfl,?_⟩
 refine AW.cutM (1) st [(1,vL 1 0 (0)),(2,.slice none 0 0)] [(1,0,[vS s.p s.x.items.length,vS s.q s.x.floors.length])] ⟨rfl,rfl,trivial⟩ ⟨rfl,trivial⟩ rfl fun ρ0 ff => ?_
 refine op_nilK (z := 2) (f := cFlr) rfl rfl rfl rfl (by decide) rfl ?_
 intro q0 s0 hO0 hP0 hN0
 refine cxs ?_
 refine AW.cutM (1) s0 [(1,vL 1 0 (0)),(2,.slice none 0 0),(3,vS q0 0),(4,vI (0))] [(1,0,[vS s.p s.x.items.length,vS s.q s.x.floors.length])] ⟨rfl,rfl,rfl,rfl,trivial⟩ ⟨rfl,trivial⟩ rfl fun ρ0 ff => ?_
 refine AW.loopM (fun x : Nat × Option Addr => [(1,vL 1 0 (0)),(3,vS x.2 (marksF (goneAt s.x) x.1).length),(4,vI (x.1 : Int))]) (fun x : Nat × Option Addr => [(1,0,[vS s.p s.x.items.length,vS s.q s.x.floors.length])]) (fun m (x : Nat × Option Addr) st' => m = 5 - x.1 ∧ x.1 ≤ 5 ∧ OwnR st' 2 cFlr x.2 (marksF (goneAt s.x) x.1) ∧ New st.next x.2 ∧ Pres st st') (0,q0) _ ⟨rfl,rfl,rfl,trivial⟩ ⟨rfl,trivial⟩ ⟨rfl,Nat.zero_le _,(show OwnR s0 2 cFlr q0 (marksF (goneAt s.x) 0) from hO0),hN0,hP0⟩ ?_
 rintro m x ρ0 ff gg st' ⟨rfl,hi,hO,hN,hP⟩
 have hml := marksF_len (goneAt s.x) x.1
 refine ⟨_,rfl,?_⟩
 rintro (_|_) h1
 ·replace h1 : ¬ ((x.1 : Int) < 5) := of_decide_eq_false h1
  refine AW.cutM (gg) st' [(1,vL 1 0 (0)),(3,vS x.2 (marksF (goneAt s.x) x.1).length),(4,vI (x.1 : Int)),(8,vB false)] [(1,0,[vS s.p s.x.items.length,vS s.q s.x.floors.length])] ⟨rfl,rfl,rfl,rfl,trivial⟩ ⟨rfl,trivial⟩ rfl fun ρ0 ff => ?_
  refine cxs ?_
  refine cxs ?_
  have hil : x.1 = 5 := by omega
  rw [hil] at hO
  exact ⟨.inl rfl,_,rfl,x.2,congrArg (fun i => vS x.2 (marksF (goneAt s.x) i).length) hil,hO,hP,hN⟩
 ·replace h1 : (x.1 : Int) < 5 := of_decide_eq_true h1
  refine AW.cutM (gg) st' [(1,vL 1 0 (0)),(3,vS x.2 (marksF (goneAt s.x) x.1).length),(4,vI (x.1 : Int)),(8,vB true)] [(1,0,[vS s.p s.x.items.length,vS s.q s.x.floors.length])] ⟨rfl,rfl,rfl,rfl,trivial⟩ ⟨rfl,trivial⟩ rfl fun ρ0 ff => ?_
  refine cxs ?_
  refine ⟨_,op_ldo rfl rfl rfl rfl,?_⟩
  refine ⟨_,rfl,(ac_spec_GoneAt s x.1 st' (hR.pres hP) hb).mono ?_⟩
  rintro _ st' ⟨rfl,rfl⟩
  refine AW.cutM (gg) st' [(1,vL 1 0 (0)),(3,vS x.2 (marksF (goneAt s.x) x.1).length),(4,vI (x.1 : Int)),(5,vI (goneAt s.x (x.1 : Int))),(8,vB true)] [(1,0,[vS s.p s.x.items.length,vS s.q s.x.floors.length])] ⟨rfl,rfl,rfl,rfl,rfl,trivial⟩ ⟨rfl,trivial⟩ rfl fun ρ0 ff => ?_
  refine ⟨_,rfl,?_⟩
  rintro (_|_) h2
  ·replace h2 : ¬ (goneAt s.x (x.1 : Int) > 0) := of_decide_eq_false h2
   refine AW.cutM (gg) st' [(1,vL 1 0 (0)),(3,vS x.2 (marksF (goneAt s.x) x.1).length),(4,vI (x.1 : Int)),(5,vI (goneAt s.x (x.1 : Int))),(8,vB true),(15,vB false)] [(1,0,[vS s.p s.x.items.length,vS s.q s.x.floors.length])] ⟨rfl,rfl,rfl,rfl,rfl,rfl,trivial⟩ ⟨rfl,trivial⟩ rfl fun ρ0 ff => ?_
   refine cxs ?_
   have e10 : IntKind.wrap .i64 ((x.1 : Int) + 1) = ((x.1 + 1 : Nat) : Int) := (wrap_i64 (by omega) (by omega)).trans (by omega)
   refine ⟨_,rfl,?_⟩
   have hm := marksF_succ (goneAt s.x) x.1
   rw [if_neg h2] at hm
   exact ⟨(x.1 + 1,x.2),5 - (x.1 + 1),by omega,⟨rfl,congrArg (fun l : List Flr => vS x.2 l.length) hm.symm,congrArg (Value.int .i64) e10,trivial⟩,⟨rfl,trivial⟩,rfl,by omega,by rw [hm]; exact hO,hN,hP⟩
  ·replace h2 : goneAt s.x (x.1 : Int) > 0 := of_decide_eq_true h2
   refine AW.cutM (gg) st' [(1,vL 1 0 (0)),(3,vS x.2 (marksF (goneAt s.x) x.1).length),(4,vI (x.1 : Int)),(5,vI (goneAt s.x (x.1 : Int))),(8,vB true),(15,vB true)] [(1,0,[vS s.p s.x.items.length,vS s.q s.x.floors.length])] ⟨rfl,rfl,rfl,rfl,rfl,rfl,trivial⟩ ⟨rfl,trivial⟩ rfl fun ρ0 ff => ?_
   refine ⟨_,rfl,?_⟩
   refine op_one (z := 2) (a := (⟨(x.1 : Int),goneAt s.x (x.1 : Int)⟩ : Flr)) (f := cFlr) rfl rfl rfl rfl rfl (by decide) rfl (Nat.le_of_ble_eq_true rfl) rfl rfl rfl ?_
   refine op_add (z := 2) (st := st') (f := cFlr) (b := 16) (l := marksF (goneAt s.x) x.1) rfl rfl rfl rfl rfl rfl rfl (by decide) len_cFlr rfl rfl rfl (by omega) (by unfold maxLen; omega) hO ?_
   intro q4 s4 hO4 hP4 hN4
   refine AW.cutM (gg) s4 [(1,vL 1 0 (0)),(3,vS q4 ((marksF (goneAt s.x) x.1).length + 1)),(4,vI (x.1 : Int)),(5,vI (goneAt s.x (x.1 : Int))),(8,vB true),(15,vB true)] [(1,0,[vS s.p s.x.items.length,vS s.q s.x.floors.length])] ⟨rfl,rfl,rfl,rfl,rfl,rfl,trivial⟩ ⟨rfl,trivial⟩ rfl fun ρ0 ff => ?_
   have e10 : IntKind.wrap .i64 ((x.1 : Int) + 1) = ((x.1 + 1 : Nat) : Int) := (wrap_i64 (by omega) (by omega)).trans (by omega)
   refine ⟨_,rfl,?_⟩
   have hm := marksF_succ (goneAt s.x) x.1
   rw [if_pos h2] at hm
   exact ⟨(x.1 + 1,q4),5 - (x.1 + 1),by omega,⟨rfl,(show vS q4 ((marksF (goneAt s.x) x.1).length + 1) = vS q4 (marksF (goneAt s.x) (x.1 + 1)).length by rw [hm,List.length_append]; rfl),congrArg (Value.int .i64) e10,trivial⟩,⟨rfl,trivial⟩,rfl,by omega,by rw [hm]; exact hO4,hN4.le hP.1,hP4.pres hP hN⟩
def cmpI (a b : Int) : Int := if a < b then -1 else if a > b then 1 else 0
def firstNZ : List Int → Int
 | [] => 0
 | x :: l => if x = 0 then firstNZ l else x
def cmpB (a b : ByteArray) : Int := Lib.compareBytes a.data.toList b.data.toList
def entCmp (a b : Ent) : Int := firstNZ [cmpI a.inc b.inc,cmpI a.rank b.rank,cmpI a.beat b.beat,cmpI a.ver b.ver,cmpB a.data b.data]
def entMax (a b : Ent) : Ent := if entCmp a b < 0 then b else a
theorem compareBytes_less : ∀ (a b : List UInt8),Lib.compareBytes a b = if Op.bytesLess a b = true then -1 else if (a == b) = true then 0 else 1
 | [],[] => by simp [Lib.compareBytes,Op.bytesLess]
 | [],b :: bs => by simp [Lib.compareBytes,Op.bytesLess]
 | a :: l,[] => by simp [Lib.compareBytes,Op.bytesLess]
 | a :: l,b :: bs => by
  have ih := compareBytes_less l bs
  unfold Lib.compareBytes
  by_cases h1 : a < b
  ·simp [Op.bytesLess,h1]
  ·by_cases h2 : b < a
   ·have hne : ¬ a = b := fun h => by rw [h] at h2; exact UInt8.lt_irrefl _ h2
    simp [Op.bytesLess,h1,h2,hne]
   ·have he : a = b := UInt8.le_antisymm (UInt8.not_lt.1 h2) (UInt8.not_lt.1 h1)
    subst he
    simp only [h1,if_false,ih,Op.bytesLess,beq_self_eq_true,Bool.true_and,Bool.false_or,decide_false]
    simp
theorem ac_cmpstring (a b : ByteArray) (st : St) : C 203 [.string a,.string b] st (fun v s => v = vI (cmpB a b) ∧ s = st) :=
 AC.ext Try.func203 rfl rfl ⟨rfl,rfl⟩
theorem ac_bytealg_CompareString (a b : ByteArray) (st : St) : C 202 [.string a,.string b] st (fun v s => v = vI (cmpB a b) ∧ s = st) := by
 refine AC.enterX (i := ⟨[],[],[0,1,4],[]⟩) [] Try.func202 rfl rfl (by kernel_rfl) (by kernel_rfl) Try.ntmps202 (Nat.le_of_ble_eq_true rfl) rfl ?_
 refine AW.cut lo0 st [(0,.string a),(1,.string b),(4,vI (0))] ⟨rfl,rfl,rfl,trivial⟩ fun ρ0 => ?_
 refine ⟨_,rfl,(ac_cmpstring a b st).mono ?_⟩
 rintro _ st ⟨rfl,rfl⟩
 refine cxs ?_
 exact ⟨.inl rfl,_,rfl,rfl,rfl⟩
theorem ac_strings_Compare (a b : ByteArray) (st : St) : C 194 [.string a,.string b] st (fun v s => v = vI (cmpB a b) ∧ s = st) := by
 refine AC.enterX (i := ⟨[],[],[0,1,4],[]⟩) [] Try.func194 rfl rfl (by kernel_rfl) (by kernel_rfl) Try.ntmps194 (Nat.le_of_ble_eq_true rfl) rfl ?_
 refine AW.cut lo0 st [(0,.string a),(1,.string b),(4,vI (0))] ⟨rfl,rfl,rfl,trivial⟩ fun ρ0 => ?_
 refine ⟨_,rfl,(ac_bytealg_CompareString a b st).mono ?_⟩
 rintro _ st ⟨rfl,rfl⟩
 refine cxs ?_
 exact ⟨.inl rfl,_,rfl,rfl,rfl⟩
theorem ac_cmp_isNaN (a : Int) (st : St) : C 201 [vI a] st (fun v s => v = vB false ∧ s = st) := by
 refine AC.enterX (i := ⟨[],[],[0,2],[]⟩) [] Try.func201 rfl rfl (by kernel_rfl) (by kernel_rfl) Try.ntmps201 (Nat.le_of_ble_eq_true rfl) rfl ?_
 refine AW.cut lo0 st [(0,vI a),(2,vB false)] ⟨rfl,rfl,trivial⟩ fun ρ0 => ?_
 refine ⟨_,rfl,?_⟩
 rintro (_|_) h
 rotate_left
 ·exact absurd (rfl) (bne_iff_ne.1 h)
 refine cxs ?_
 exact ⟨.inl rfl,_,rfl,rfl,rfl⟩
theorem ac_cmp_Compare (a b : Int) (st : St) : C 193 [vI a,vI b] st (fun v s => v = vI (cmpI a b) ∧ s = st) := by
 refine AC.enterX (i := ⟨[],[],[0,1,4,5,6,11,12,13,16,19],[]⟩) [] Try.func193 rfl rfl (by kernel_rfl) (by kernel_rfl) Try.ntmps193 (Nat.le_of_ble_eq_true rfl) rfl ?_
 refine AW.cut lo0 st [(0,vI a),(1,vI b),(4,vI (0))] ⟨rfl,rfl,rfl,trivial⟩ fun ρ0 => ?_
 refine ⟨_,rfl,(ac_cmp_isNaN a st).mono ?_⟩
 rintro _ st ⟨rfl,rfl⟩
 refine AW.cut lo0 st [(0,vI a),(1,vI b),(4,vI (0)),(5,vB false)] ⟨rfl,rfl,rfl,rfl,trivial⟩ fun ρ0 => ?_
 refine ⟨_,rfl,(ac_cmp_isNaN b st).mono ?_⟩
 rintro _ st ⟨rfl,rfl⟩
 refine cxs ?_
 refine AW.cut lo0 st [(0,vI a),(1,vI b),(4,vI (0)),(6,vB false),(11,vB false)] ⟨rfl,rfl,rfl,rfl,rfl,trivial⟩ fun ρ0 => ?_
 refine cxs ?_
 refine AW.cut lo0 st [(0,vI a),(1,vI b),(4,vI (0)),(13,vB false)] ⟨rfl,rfl,rfl,rfl,trivial⟩ fun ρ0 => ?_
 refine cxs ?_
 refine ⟨_,rfl,?_⟩
 rintro (_|_) h1
 ·replace h1 : ¬ (a < b) := of_decide_eq_false h1
  refine AW.cut lo0 st [(0,vI a),(1,vI b),(4,vI (0)),(16,vB false)] ⟨rfl,rfl,rfl,rfl,trivial⟩ fun ρ0 => ?_
  refine cxs ?_
  refine ⟨_,rfl,?_⟩
  rintro (_|_) h2
  ·replace h2 : ¬ (a > b) := of_decide_eq_false h2
   refine AW.cut lo0 st [(4,vI (0)),(19,vB false)] ⟨rfl,rfl,trivial⟩ fun ρ0 => ?_
   refine cxs ?_
   refine cxs ?_
   exact ⟨.inl rfl,_,rfl,congrArg vI (by rw [cmpI,if_neg h1,if_neg h2]),rfl⟩
  ·replace h2 : a > b := of_decide_eq_true h2
   refine AW.cut lo0 st [(4,vI (0)),(19,vB true)] ⟨rfl,rfl,trivial⟩ fun ρ0 => ?_
   refine cxs ?_
   exact ⟨.inl rfl,_,rfl,congrArg vI (by rw [cmpI,if_neg h1,if_pos h2]),rfl⟩
 ·replace h1 : a < b := of_decide_eq_true h1
  refine AW.cut lo0 st [(0,vI a),(1,vI b),(4,vI (0)),(16,vB true)] ⟨rfl,rfl,rfl,rfl,trivial⟩ fun ρ0 => ?_
  refine cxs ?_
  exact ⟨.inl rfl,_,rfl,congrArg vI (by rw [cmpI,if_pos h1]),rfl⟩
theorem ac_cmp_Or (p : Option Addr) (l : List Int) (st : St) (hR : Rows st 1 fI p l) (hs : szOk l.length) : C 192 [vS p l.length] st (fun v s => v = vI (firstNZ l) ∧ s = st) := by
 have hs : l.length ≤ 1048576 := hs
 refine AC.enterX (i := ⟨[],[],[0,2,3,5,6,7,8,9,14],[]⟩) [] Try.func192 rfl rfl (by kernel_rfl) (by kernel_rfl) Try.ntmps192 (Nat.le_of_ble_eq_true rfl) rfl ?_
 refine cxs ?_
 refine AW.cut lo0 st [(0,vS p l.length),(2,vI (0)),(3,vI (0))] ⟨rfl,rfl,rfl,trivial⟩ fun ρ0 => ?_
 refine ⟨_,rfl,?_⟩
 refine AW.cut lo0 st [(2,vI (0)),(3,vI (0)),(6,vS p l.length),(7,vI (l.length)),(8,vI (0))] ⟨rfl,rfl,rfl,rfl,rfl,trivial⟩ fun ρ0 => ?_
 refine AW.loop0 (fun i : Nat => [(3,vI 0),(6,vS p l.length),(7,vI (l.length : Int)),(8,vI (i : Int))]) (fun m (i : Nat) st' => m = l.length - i ∧ i ≤ l.length ∧ firstNZ l = firstNZ (l.drop i) ∧ st = st') 0 _ ⟨rfl,rfl,rfl,rfl,trivial⟩ rfl ⟨rfl,Nat.zero_le _,rfl,rfl⟩ ?_
 rintro m i ρ0 st' ⟨rfl,hi,hf,rfl⟩
 refine ⟨_,rfl,?_⟩
 rintro (_|_) h1
 ·replace h1 : ¬ ((i : Int) < (l.length : Int)) := of_decide_eq_false h1
  refine AW.cut lo0 st [(3,vI 0),(6,vS p l.length),(7,vI (l.length : Int)),(8,vI (i : Int)),(9,vB false)] ⟨rfl,rfl,rfl,rfl,rfl,trivial⟩ fun ρ0 => ?_
  refine cxs ?_
  refine cxs ?_
  have hil : i = l.length := by omega
  exact ⟨.inl rfl,_,rfl,congrArg vI (by rw [hf,hil,List.drop_length]; rfl),rfl⟩
 ·replace h1 : (i : Int) < (l.length : Int) := of_decide_eq_true h1
  refine AW.cut lo0 st [(3,vI 0),(6,vS p l.length),(7,vI (l.length : Int)),(8,vI (i : Int)),(9,vB true)] ⟨rfl,rfl,rfl,rfl,rfl,trivial⟩ fun ρ0 => ?_
  have h1' := Int.ofNat_lt.1 h1
  have ⟨b1,o1,k1,x,hpe,hx,hm1,hc1,hb1⟩ := hR.atB h1'
  rw [(split_at' hx).2.2,firstNZ] at hf
  refine cxs ?_
  refine ⟨_,op_idx (j := (i : Int)) (n := l.length) (q := ⟨b1,o1,none⟩) rfl (congrArg (fun u => vS u l.length) hpe) rfl rfl rfl (Int.natCast_nonneg _) h1,?_⟩
  refine ⟨_,op_ldc (i := 0) rfl rfl rfl rfl hm1 hc1 rfl rfl,?_⟩
  refine AW.cut lo0 st [(3,vI 0),(5,vI x),(6,vS p l.length),(7,vI (l.length : Int)),(8,vI (i : Int)),(9,vB true)] ⟨rfl,rfl,rfl,rfl,rfl,rfl,trivial⟩ fun ρ0 => ?_
  refine ⟨_,rfl,?_⟩
  rintro (_|_) h2
  ·replace h2 : x = 0 := bne_eq_false_iff_eq.1 h2
   refine AW.cut lo0 st [(3,vI 0),(5,vI x),(6,vS p l.length),(7,vI (l.length : Int)),(8,vI (i : Int)),(9,vB true),(14,vB false)] ⟨rfl,rfl,rfl,rfl,rfl,rfl,rfl,trivial⟩ fun ρ0 => ?_
   refine cxs ?_
   have e16 : IntKind.wrap .i64 ((i : Int) + 1) = ((i + 1 : Nat) : Int) := (wrap_i64 (by omega) (by omega)).trans (by omega)
   refine ⟨_,rfl,?_⟩
   exact ⟨i + 1,l.length - (i + 1),by omega,⟨rfl,rfl,rfl,congrArg (Value.int .i64) e16,trivial⟩,rfl,rfl,h1',by rw [hf,if_pos h2],rfl⟩
  ·replace h2 : ¬ (x = 0) := bne_iff_ne.1 h2
   refine AW.cut lo0 st [(3,vI 0),(5,vI x),(6,vS p l.length),(7,vI (l.length : Int)),(8,vI (i : Int)),(9,vB true),(14,vB true)] ⟨rfl,rfl,rfl,rfl,rfl,rfl,rfl,trivial⟩ fun ρ0 => ?_
   refine cxs ?_
   exact ⟨.inl rfl,_,rfl,congrArg vI (by rw [hf,if_neg h2]),rfl⟩
theorem ac_impl_EntryCmp (a b : Ent) (st : St) : C 181 [.agg #[vI a.inc,vI a.rank,vI a.beat,vI a.ver,.string a.data],.agg #[vI b.inc,vI b.rank,vI b.beat,vI b.ver,.string b.data]] st (fun v s => v = vI (entCmp a b) ∧ Pres st s) := by
 refine AC.enterX (i := ⟨[2,3],[2,3,5,7,10,12,15,17,20,22,25,27],[0,1,2,3,4],[]⟩) [(1,[4,9,14,19],[6,8,11,13,16,18,21,23])] Try.func181 rfl rfl (by kernel_rfl) (by kernel_rfl) Try.ntmps181 (Nat.le_of_ble_eq_true rfl) rfl ?_
 iterate 2 refine ⟨_,rfl,?_⟩
 refine AW.cutM (2) st [(2,vL 2 0 (0)),(3,vL 3 0 (1)),(4,vI (0))] [(2,0,[vI a.inc,vI a.rank,vI a.beat,vI a.ver,.string a.data]),(3,1,[vI b.inc,vI b.rank,vI b.beat,vI b.ver,.string b.data])] ⟨rfl,rfl,rfl,trivial⟩ ⟨rfl,rfl,trivial⟩ rfl fun ρ0 ff => ?_
 iterate 4 refine ⟨_,rfl,?_⟩
 refine ⟨_,rfl,(ac_cmp_Compare a.inc b.inc st).mono ?_⟩
 rintro _ st ⟨rfl,rfl⟩
 refine ⟨fun _ _ => rfl,?_⟩
 iterate 2 refine ⟨_,rfl,?_⟩
 refine ⟨ld_own rfl rfl rfl,?_⟩
 iterate 2 refine ⟨_,rfl,?_⟩
 refine ⟨ld_own rfl rfl rfl,?_⟩
 refine ⟨_,rfl,(ac_cmp_Compare a.rank b.rank st).mono ?_⟩
 rintro _ st ⟨rfl,rfl⟩
 refine ⟨fun _ _ => rfl,?_⟩
 iterate 2 refine ⟨_,rfl,?_⟩
 refine ⟨ld_own rfl rfl rfl,?_⟩
 iterate 2 refine ⟨_,rfl,?_⟩
 refine ⟨ld_own rfl rfl rfl,?_⟩
 refine ⟨_,rfl,(ac_cmp_Compare a.beat b.beat st).mono ?_⟩
 rintro _ st ⟨rfl,rfl⟩
 refine ⟨fun _ _ => rfl,?_⟩
 iterate 2 refine ⟨_,rfl,?_⟩
 refine ⟨ld_own rfl rfl rfl,?_⟩
 iterate 2 refine ⟨_,rfl,?_⟩
 refine ⟨ld_own rfl rfl rfl,?_⟩
 refine ⟨_,rfl,(ac_cmp_Compare a.ver b.ver st).mono ?_⟩
 rintro _ st ⟨rfl,rfl⟩
 refine ⟨fun _ _ => rfl,?_⟩
 iterate 2 refine ⟨_,rfl,?_⟩
 refine ⟨ld_own rfl rfl rfl,?_⟩
 iterate 2 refine ⟨_,rfl,?_⟩
 refine ⟨ld_own rfl rfl rfl,?_⟩
 refine ⟨_,rfl,(ac_strings_Compare a.data b.data st).mono ?_⟩
 rintro _ st ⟨rfl,rfl⟩
 refine op_litI (k := .i64) (l := [cmpI a.inc b.inc,cmpI a.rank b.rank,cmpI a.beat b.beat,cmpI a.ver b.ver,cmpB a.data b.data]) rfl rfl rfl rfl rfl rfl (Nat.le_of_ble_eq_true rfl) ?_
 intro q s1 hO1 hP1 hN1
 refine ⟨_,rfl,(ac_cmp_Or q [cmpI a.inc b.inc,cmpI a.rank b.rank,cmpI a.beat b.beat,cmpI a.ver b.ver,cmpB a.data b.data] s1 (hO1.rows fI_len) (show 5 ≤ 1048576 by decide)).mono ?_⟩
 rintro _ s1 ⟨rfl,rfl⟩
 refine cxs ?_
 exact ⟨.inl rfl,_,rfl,rfl,hP1⟩
theorem ac_impl_EntryMax (a b : Ent) (st : St) : C 153 [.agg #[vI a.inc,vI a.rank,vI a.beat,vI a.ver,.string a.data],.agg #[vI b.inc,vI b.rank,vI b.beat,vI b.ver,.string b.data]] st (fun v s => ∃ e,v = .agg #[vI e.inc,vI e.rank,vI e.beat,vI e.ver,.string e.data] ∧ e = entMax a b ∧ Pres st s) := by
 refine AC.enterX (i := ⟨[2,3,4],[2,3,4],[0,1,2,3,4,8],[]⟩) [] Try.func153 rfl rfl (by kernel_rfl) (by kernel_rfl) Try.ntmps153 (Nat.le_of_ble_eq_true rfl) rfl ?_
 iterate 3 refine ⟨_,rfl,?_⟩
 refine AW.cutM (3) st [(2,vL 2 0 (0)),(3,vL 3 0 (1)),(4,vL 4 0 (2))] [(2,0,[vI a.inc,vI a.rank,vI a.beat,vI a.ver,.string a.data]),(3,1,[vI b.inc,vI b.rank,vI b.beat,vI b.ver,.string b.data]),(4,2,[vI 0,vI 0,vI 0,vI 0,.string ⟨#[]⟩])] ⟨rfl,rfl,rfl,trivial⟩ ⟨rfl,rfl,rfl,trivial⟩ rfl fun ρ0 ff => ?_
 iterate 2 refine ⟨_,rfl,?_⟩
 refine ⟨_,rfl,(ac_impl_EntryCmp a b st).mono ?_⟩
 rintro _ s1 ⟨rfl,hP1⟩
 refine ⟨_,rfl,?_⟩
 rintro (_|_) h1
 ·replace h1 : ¬ (entCmp a b < 0) := of_decide_eq_false h1
  refine AW.cutM (3) s1 [(2,vL 2 0 (0)),(3,vL 3 0 (1)),(4,vL 4 0 (2)),(8,vB false)] [(2,0,[vI a.inc,vI a.rank,vI a.beat,vI a.ver,.string a.data]),(3,1,[vI b.inc,vI b.rank,vI b.beat,vI b.ver,.string b.data]),(4,2,[vI 0,vI 0,vI 0,vI 0,.string ⟨#[]⟩])] ⟨rfl,rfl,rfl,rfl,trivial⟩ ⟨rfl,rfl,rfl,trivial⟩ rfl fun ρ0 ff => ?_
  refine cxs ?_
  iterate 2 refine ⟨_,rfl,?_⟩
  refine cxs ?_
  exact ⟨.inl rfl,_,rfl,a,rfl,by rw [entMax,if_neg h1],hP1⟩
 ·replace h1 : entCmp a b < 0 := of_decide_eq_true h1
  refine AW.cutM (3) s1 [(2,vL 2 0 (0)),(3,vL 3 0 (1)),(4,vL 4 0 (2)),(8,vB true)] [(2,0,[vI a.inc,vI a.rank,vI a.beat,vI a.ver,.string a.data]),(3,1,[vI b.inc,vI b.rank,vI b.beat,vI b.ver,.string b.data]),(4,2,[vI 0,vI 0,vI 0,vI 0,.string ⟨#[]⟩])] ⟨rfl,rfl,rfl,rfl,trivial⟩ ⟨rfl,rfl,rfl,trivial⟩ rfl fun ρ0 ff => ?_
  iterate 2 refine ⟨_,rfl,?_⟩
  refine cxs ?_
  exact ⟨.inl rfl,_,rfl,b,rfl,by rw [entMax,if_pos h1],hP1⟩
theorem ac_spec_l1BitT (st : St) : C 183 [vB true] st (fun v s => v = vI 1 ∧ s = st) := by
 refine AC.enterX (i := ⟨[],[],[0,2,3],[]⟩) [] Try.func183 rfl rfl (by kernel_rfl) (by kernel_rfl) Try.ntmps183 (Nat.le_of_ble_eq_true rfl) rfl ?_
 refine cxs ?_
 refine AW.cut lo0 st [(2,vI (0)),(3,vB true)] ⟨rfl,rfl,trivial⟩ fun ρ0 => ?_
 refine cxs ?_
 exact ⟨.inl rfl,_,rfl,rfl,rfl⟩
theorem ac_spec_l1BitF (st : St) : C 183 [vB false] st (fun v s => v = vI 0 ∧ s = st) := by
 refine AC.enterX (i := ⟨[],[],[0,2,3],[]⟩) [] Try.func183 rfl rfl (by kernel_rfl) (by kernel_rfl) Try.ntmps183 (Nat.le_of_ble_eq_true rfl) rfl ?_
 refine cxs ?_
 refine AW.cut lo0 st [(2,vI (0)),(3,vB false)] ⟨rfl,rfl,trivial⟩ fun ρ0 => ?_
 refine cxs ?_
 refine cxs ?_
 exact ⟨.inl rfl,_,rfl,rfl,rfl⟩
theorem ac_spec_l2Cmp (a b : Int) (st : St) : C 182 [vI a,vI b] st (fun v s => v = vI (cmpI a b) ∧ s = st) := by
 refine AC.enterX (i := ⟨[],[],[0,1,4,7],[]⟩) [] Try.func182 rfl rfl (by kernel_rfl) (by kernel_rfl) Try.ntmps182 (Nat.le_of_ble_eq_true rfl) rfl ?_
 refine AW.cut lo0 st [(0,vI a),(1,vI b),(4,vI (0))] ⟨rfl,rfl,rfl,trivial⟩ fun ρ0 => ?_
 refine ⟨_,rfl,?_⟩
 rintro (_|_) h1
 ·replace h1 : ¬ (a < b) := of_decide_eq_false h1
  refine AW.cut lo0 st [(0,vI a),(1,vI b),(4,vI (0)),(7,vB false)] ⟨rfl,rfl,rfl,rfl,trivial⟩ fun ρ0 => ?_
  refine cxs ?_
  refine ⟨_,rfl,?_⟩
  rintro (_|_) h2
  ·replace h2 : ¬ (a > b) := of_decide_eq_false h2
   refine ⟨_,rfl,(ac_spec_l1BitF st).mono ?_⟩
   rintro _ st ⟨rfl,rfl⟩
   refine cxs ?_
   exact ⟨.inl rfl,_,rfl,congrArg vI (by rw [cmpI,if_neg h1,if_neg h2]),rfl⟩
  ·replace h2 : a > b := of_decide_eq_true h2
   refine ⟨_,rfl,(ac_spec_l1BitT st).mono ?_⟩
   rintro _ st ⟨rfl,rfl⟩
   refine cxs ?_
   exact ⟨.inl rfl,_,rfl,congrArg vI (by rw [cmpI,if_neg h1,if_pos h2]),rfl⟩
 ·replace h1 : a < b := of_decide_eq_true h1
  refine AW.cut lo0 st [(0,vI a),(1,vI b),(4,vI (0)),(7,vB true)] ⟨rfl,rfl,rfl,rfl,trivial⟩ fun ρ0 => ?_
  refine cxs ?_
  exact ⟨.inl rfl,_,rfl,congrArg vI (by rw [cmpI,if_pos h1]),rfl⟩
abbrev four (a b : Ent) : List Int := [cmpI a.inc b.inc,cmpI a.rank b.rank,cmpI a.beat b.beat,cmpI a.ver b.ver]
theorem ac_spec_EntryCmp (a b : Ent) (st : St) : C 155 [.agg #[vI a.inc,vI a.rank,vI a.beat,vI a.ver,.string a.data],.agg #[vI b.inc,vI b.rank,vI b.beat,vI b.ver,.string b.data]] st (fun v s => v = vI (entCmp a b) ∧ Pres st s) := by
 refine AC.enterX (i := ⟨[2,3],[2,3,7,9,12,14,17,19,22,24,43,45,48,50],[0,1,2,3,4,5,6,31,38,47],[]⟩) [(1,[4,9,14],[6,8,11,13,16,18])] Try.func155 rfl rfl (by kernel_rfl) (by kernel_rfl) Try.ntmps155 (Nat.le_of_ble_eq_true rfl) rfl ?_
 iterate 2 refine ⟨_,rfl,?_⟩
 refine AW.cutM (2) st [(2,vL 2 0 (0)),(3,vL 3 0 (1)),(4,vI (0))] [(2,0,[vI a.inc,vI a.rank,vI a.beat,vI a.ver,.string a.data]),(3,1,[vI b.inc,vI b.rank,vI b.beat,vI b.ver,.string b.data])] ⟨rfl,rfl,rfl,trivial⟩ ⟨rfl,rfl,trivial⟩ rfl fun ρ0 ff => ?_
 iterate 4 refine ⟨_,rfl,?_⟩
 refine ⟨_,rfl,(ac_spec_l2Cmp a.inc b.inc st).mono ?_⟩
 rintro _ st ⟨rfl,rfl⟩
 refine ⟨fun _ _ => rfl,?_⟩
 iterate 2 refine ⟨_,rfl,?_⟩
 refine ⟨ld_own rfl rfl rfl,?_⟩
 iterate 2 refine ⟨_,rfl,?_⟩
 refine ⟨ld_own rfl rfl rfl,?_⟩
 refine ⟨_,rfl,(ac_spec_l2Cmp a.rank b.rank st).mono ?_⟩
 rintro _ st ⟨rfl,rfl⟩
 refine ⟨fun _ _ => rfl,?_⟩
 iterate 2 refine ⟨_,rfl,?_⟩
 refine ⟨ld_own rfl rfl rfl,?_⟩
 iterate 2 refine ⟨_,rfl,?_⟩
 refine ⟨ld_own rfl rfl rfl,?_⟩
 refine ⟨_,rfl,(ac_spec_l2Cmp a.beat b.beat st).mono ?_⟩
 rintro _ st ⟨rfl,rfl⟩
 refine ⟨fun _ _ => rfl,?_⟩
 iterate 2 refine ⟨_,rfl,?_⟩
 refine ⟨ld_own rfl rfl rfl,?_⟩
 iterate 2 refine ⟨_,rfl,?_⟩
 refine ⟨ld_own rfl rfl rfl,?_⟩
 refine ⟨_,rfl,(ac_spec_l2Cmp a.ver b.ver st).mono ?_⟩
 rintro _ st ⟨rfl,rfl⟩
 refine op_litI (k := .i64) (l := four a b) rfl rfl rfl rfl rfl rfl (Nat.le_of_ble_eq_true rfl) ?_
 intro q s1 hO1 hP1 hN1
 refine cxs ?_
 refine AW.cutM (2) s1 [(2,vL 2 0 (0)),(3,vL 3 0 (1)),(4,vI (0)),(5,vS q 4),(6,vI (0))] [(2,0,[vI a.inc,vI a.rank,vI a.beat,vI a.ver,.string a.data]),(3,1,[vI b.inc,vI b.rank,vI b.beat,vI b.ver,.string b.data])] ⟨rfl,rfl,rfl,rfl,rfl,trivial⟩ ⟨rfl,rfl,trivial⟩ rfl fun ρ0 ff => ?_
 refine AW.loopM (fun i : Nat => [(2,vL 2 0 (0)),(3,vL 3 0 (1)),(5,vS q 4),(6,vI (i : Int))]) (fun i : Nat => [(2,0,[vI a.inc,vI a.rank,vI a.beat,vI a.ver,.string a.data]),(3,1,[vI b.inc,vI b.rank,vI b.beat,vI b.ver,.string b.data])]) (fun m (i : Nat) st' => m = 4 - i ∧ i ≤ 4 ∧ entCmp a b = firstNZ ((four a b).drop i ++ [cmpB a.data b.data]) ∧ s1 = st') 0 _ ⟨rfl,rfl,rfl,rfl,trivial⟩ ⟨rfl,rfl,trivial⟩ ⟨rfl,Nat.zero_le _,rfl,rfl⟩ ?_
 rintro m i ρ0 ff gg st' ⟨rfl,hi,hf,rfl⟩
 iterate 2 refine ⟨_,rfl,?_⟩
 rintro (_|_) h1
 ·replace h1 : ¬ ((i : Int) < 4) := of_decide_eq_false h1
  refine AW.cutM (gg) s1 [(2,vL 2 0 (0)),(3,vL 3 0 (1)),(5,vS q 4),(6,vI (i : Int)),(31,vB false)] [(2,0,[vI a.inc,vI a.rank,vI a.beat,vI a.ver,.string a.data]),(3,1,[vI b.inc,vI b.rank,vI b.beat,vI b.ver,.string b.data])] ⟨rfl,rfl,rfl,rfl,rfl,trivial⟩ ⟨rfl,rfl,trivial⟩ rfl fun ρ0 ff => ?_
  have hil : i = 4 := by omega
  have hf : entCmp a b = firstNZ [cmpB a.data b.data] := by rw [hf,hil]; rfl
  have hf : entCmp a b = cmpB a.data b.data := by rw [hf,firstNZ,firstNZ]; split <;> simp [*]
  have hcb := compareBytes_less a.data.data.toList b.data.data.toList
  have hcb : cmpB a.data b.data = if Op.bytesLess a.data.toList b.data.toList = true then -1 else if (a.data.toList == b.data.toList) = true then 0 else 1 := by rw [ByteArray.toList_eq,ByteArray.toList_eq]; exact hcb
  refine cxs ?_
  refine ⟨_,rfl,?_⟩
  refine ⟨_,op_ldo rfl rfl rfl rfl,?_⟩
  refine ⟨_,rfl,?_⟩
  refine ⟨_,op_ldo rfl rfl rfl rfl,?_⟩
  refine ⟨_,rfl,?_⟩
  rintro (_|_) h3
  ·refine AW.cutM (gg) s1 [(2,vL 2 0 (0)),(3,vL 3 0 (1)),(47,vB false)] [(2,0,[vI a.inc,vI a.rank,vI a.beat,vI a.ver,.string a.data]),(3,1,[vI b.inc,vI b.rank,vI b.beat,vI b.ver,.string b.data])] ⟨rfl,rfl,rfl,trivial⟩ ⟨rfl,rfl,trivial⟩ rfl fun ρ0 ff => ?_
   refine cxs ?_
   refine ⟨_,rfl,?_⟩
   refine ⟨_,op_ldo rfl rfl rfl rfl,?_⟩
   refine ⟨_,rfl,?_⟩
   refine ⟨_,op_ldo rfl rfl rfl rfl,?_⟩
   refine ⟨_,rfl,?_⟩
   rintro (_|_) h4
   ·refine ⟨_,rfl,(ac_spec_l1BitF s1).mono ?_⟩
    rintro _ s1 ⟨rfl,rfl⟩
    refine cxs ?_
    have h3 : Op.bytesLess a.data.toList b.data.toList = false := h3
    have h4 : (!(Op.bytesLess a.data.toList b.data.toList || a.data.toList == b.data.toList)) = false := h4
    have h5 : (a.data.toList == b.data.toList) = true := by rw [h3,Bool.false_or] at h4; simpa using h4
    exact ⟨.inl rfl,_,rfl,congrArg vI (by rw [hf,hcb,h3,h5]; rfl),hP1⟩
   ·refine ⟨_,rfl,(ac_spec_l1BitT s1).mono ?_⟩
    rintro _ s1 ⟨rfl,rfl⟩
    refine cxs ?_
    have h3 : Op.bytesLess a.data.toList b.data.toList = false := h3
    have h4 : (!(Op.bytesLess a.data.toList b.data.toList || a.data.toList == b.data.toList)) = true := h4
    have h5 : (a.data.toList == b.data.toList) = false := by rw [h3,Bool.false_or] at h4; simpa using h4
    exact ⟨.inl rfl,_,rfl,congrArg vI (by rw [hf,hcb,h3,h5]; rfl),hP1⟩
  ·refine AW.cutM (gg) s1 [(2,vL 2 0 (0)),(3,vL 3 0 (1)),(47,vB true)] [(2,0,[vI a.inc,vI a.rank,vI a.beat,vI a.ver,.string a.data]),(3,1,[vI b.inc,vI b.rank,vI b.beat,vI b.ver,.string b.data])] ⟨rfl,rfl,rfl,trivial⟩ ⟨rfl,rfl,trivial⟩ rfl fun ρ0 ff => ?_
   refine cxs ?_
   have h3 : Op.bytesLess a.data.toList b.data.toList = true := h3
   exact ⟨.inl rfl,_,rfl,congrArg vI (by rw [hf,hcb,if_pos h3]),hP1⟩
 ·replace h1 : (i : Int) < 4 := of_decide_eq_true h1
  refine AW.cutM (gg) s1 [(2,vL 2 0 (0)),(3,vL 3 0 (1)),(5,vS q 4),(6,vI (i : Int)),(31,vB true)] [(2,0,[vI a.inc,vI a.rank,vI a.beat,vI a.ver,.string a.data]),(3,1,[vI b.inc,vI b.rank,vI b.beat,vI b.ver,.string b.data])] ⟨rfl,rfl,rfl,rfl,rfl,trivial⟩ ⟨rfl,rfl,trivial⟩ rfl fun ρ0 ff => ?_
  have h1' : i < (four a b).length := by simp only [List.length_cons,List.length_nil]; omega
  have ⟨b1,o1,k1,x,hpe,hx,hm1,hc1,hb1⟩ := (hO1.rows fI_len).atB h1'
  rw [(split_at' hx).2.2,List.cons_append,firstNZ] at hf
  refine cxs ?_
  refine ⟨_,op_idx (j := (i : Int)) (n := 4) (q := ⟨b1,o1,none⟩) rfl (congrArg (fun u => vS u 4) hpe) rfl rfl rfl (Int.natCast_nonneg _) h1,?_⟩
  refine ⟨_,op_ldc (i := 0) rfl rfl rfl rfl hm1 hc1 rfl rfl,?_⟩
  refine ⟨_,rfl,?_⟩
  rintro (_|_) h2
  ·replace h2 : x = 0 := bne_eq_false_iff_eq.1 h2
   refine AW.cutM (gg) s1 [(2,vL 2 0 (0)),(3,vL 3 0 (1)),(5,vS q 4),(6,vI (i : Int)),(31,vB true),(38,vB false)] [(2,0,[vI a.inc,vI a.rank,vI a.beat,vI a.ver,.string a.data]),(3,1,[vI b.inc,vI b.rank,vI b.beat,vI b.ver,.string b.data])] ⟨rfl,rfl,rfl,rfl,rfl,rfl,trivial⟩ ⟨rfl,rfl,trivial⟩ rfl fun ρ0 ff => ?_
   refine cxs ?_
   have e33 : IntKind.wrap .i64 ((i : Int) + 1) = ((i + 1 : Nat) : Int) := (wrap_i64 (by omega) (by omega)).trans (by omega)
   refine ⟨_,rfl,?_⟩
   exact ⟨i + 1,4 - (i + 1),by omega,⟨rfl,rfl,rfl,congrArg (Value.int .i64) e33,trivial⟩,⟨rfl,rfl,trivial⟩,rfl,by omega,by rw [hf,if_pos h2],rfl⟩
  ·replace h2 : ¬ (x = 0) := bne_iff_ne.1 h2
   refine AW.cutM (gg) s1 [(2,vL 2 0 (0)),(3,vL 3 0 (1)),(5,vS q 4),(6,vI (i : Int)),(31,vB true),(38,vB true)] [(2,0,[vI a.inc,vI a.rank,vI a.beat,vI a.ver,.string a.data]),(3,1,[vI b.inc,vI b.rank,vI b.beat,vI b.ver,.string b.data])] ⟨rfl,rfl,rfl,rfl,rfl,rfl,trivial⟩ ⟨rfl,rfl,trivial⟩ rfl fun ρ0 ff => ?_
   refine ⟨_,op_idx (j := (i : Int)) (n := 4) (q := ⟨b1,o1,none⟩) rfl (congrArg (fun u => vS u 4) hpe) rfl rfl rfl (Int.natCast_nonneg _) h1,?_⟩
   refine ⟨_,op_ldc (i := 0) rfl rfl rfl rfl hm1 hc1 rfl rfl,?_⟩
   refine cxs ?_
   exact ⟨.inl rfl,_,rfl,congrArg vI (by rw [hf,if_neg h2]),hP1⟩
abbrev topF (a b : Sta) (id : Int) : Int := max (floorOf a.floors id) (floorOf b.floors id)
abbrev topE (a b : Sta) (id : Int) : Ent := entMax (entP a.items id).1 (entP b.items id).1
def joinF (a b : Sta) (n : Nat) : Sta := ⟨(List.range n).filterMap fun (j : Nat) => if (topE a b (j : Int)).inc > topF a b (j : Int) then some ⟨(j : Int),topE a b (j : Int)⟩ else none,
 (List.range n).filterMap fun (j : Nat) => if topF a b (j : Int) > 0 then some ⟨(j : Int),topF a b (j : Int)⟩ else none⟩
theorem joinF_items (a b : Sta) (n : Nat) : (joinF a b (n + 1)).items = if (topE a b (n : Int)).inc > topF a b (n : Int) then (joinF a b n).items ++ [⟨(n : Int),topE a b (n : Int)⟩] else (joinF a b n).items := by
 unfold joinF
 simp only [List.range_succ,List.filterMap_append]
 split <;> simp [*]
theorem joinF_floors (a b : Sta) (n : Nat) : (joinF a b (n + 1)).floors = if topF a b (n : Int) > 0 then (joinF a b n).floors ++ [⟨(n : Int),topF a b (n : Int)⟩] else (joinF a b n).floors := by
 unfold joinF
 simp only [List.range_succ,List.filterMap_append]
 split <;> simp [*]
theorem joinF_len (a b : Sta) : ∀ n,(joinF a b n).items.length ≤ n ∧ (joinF a b n).floors.length ≤ n
 | 0 => by simp [joinF]
 | n + 1 => by
  have := joinF_len a b n
  rw [joinF_items,joinF_floors]
  refine ⟨?_,?_⟩ <;> split <;> (try rw [List.length_append,List.length_singleton]) <;> omega
theorem pcS_items {st st' : St} {q1 q2 q : Option Addr} {l1 l1' : List Itm} {l2 : List Flr} (h : OwnP st [pcR 6 cItm q1 l1,pcR 2 cFlr q2 l2]) (hp : Pr q1 st st') (ho : OwnR st' 6 cItm q l1') (hn : New st.next q) : OwnP st' [pcR 6 cItm q l1',pcR 2 cFlr q2 l2] :=
 OwnP.renew (l := []) (m := [pcR 2 cFlr q2 l2]) h hp (own_pc ho) hn
theorem pcS_floors {st st' : St} {q1 q2 q : Option Addr} {l1 : List Itm} {l2 l2' : List Flr} (h : OwnP st [pcR 6 cItm q1 l1,pcR 2 cFlr q2 l2]) (hp : Pr q2 st st') (ho : OwnR st' 2 cFlr q l2') (hn : New st.next q) : OwnP st' [pcR 6 cItm q1 l1,pcR 2 cFlr q l2'] :=
 OwnP.renew (l := [pcR 6 cItm q1 l1]) (m := []) h hp (own_pc ho) hn
theorem pcS_i {st : St} {q1 q2 : Option Addr} {l1 : List Itm} {l2 : List Flr} (h : OwnP st [pcR 6 cItm q1 l1,pcR 2 cFlr q2 l2]) : OwnR st 6 cItm q1 l1 := pc_own (by decide) len_cItm (h.1 _ (List.mem_cons_self ..))
theorem pcS_f {st : St} {q1 q2 : Option Addr} {l1 : List Itm} {l2 : List Flr} (h : OwnP st [pcR 6 cItm q1 l1,pcR 2 cFlr q2 l2]) : OwnR st 2 cFlr q2 l2 := pc_own (by decide) len_cFlr (h.1 _ (List.mem_cons_of_mem _ (List.mem_cons_self ..)))
theorem ac_impl_stateJoin (A B : SV) (st : St) (hA : RdS st A) (hB : RdS st B) (ha : bigS A.x) (hb : bigS B.x) : C 80 [.agg #[vS A.p A.x.items.length,vS A.q A.x.floors.length],.agg #[vS B.p B.x.items.length,vS B.q B.x.floors.length]] st (fun v s => ∃ u : SV,v = .agg #[vS u.p u.x.items.length,vS u.q u.x.floors.length] ∧ u.x = joinF A.x B.x 5 ∧ OwnP s (pcS u) ∧ NewP st.next (pcS u) ∧ Pres st s) := by
 refine AC.enterX (i := ⟨[2,3,4,5,7,9,11],[2,3,4,5,7,9,11,40,44,51,54,61],[0,1,2,3,4,5,6,7,9,11,12,15,43,53],[]⟩) [(8,[2],[3])] Try.func80 rfl rfl (by kernel_rfl) (by kernel_rfl) Try.ntmps80 (Nat.le_of_ble_eq_true rfl) rfl ?_
 iterate 3 refine ⟨_,rfl,?_⟩
 refine AW.cutM (3) st [(2,vL 2 0 (0)),(3,vL 3 0 (1)),(4,vL 4 0 (2))] [(2,0,[vS A.p A.x.items.length,vS A.q A.x.floors.length]),(3,1,[vS B.p B.x.items.length,vS B.q B.x.floors.length]),(4,2,[.slice none 0 0,.slice none 0 0])] ⟨rfl,rfl,rfl,trivial⟩ ⟨rfl,rfl,rfl,trivial⟩ rfl fun ρ0 ff => ?_
 iterate 3 refine ⟨_,rfl,?_⟩
 refine cxs ?_
 refine AW.cutM (4) st [(2,vL 2 0 (0)),(3,vL 3 0 (1)),(4,vL 4 0 (2)),(5,vL 5 0 (3)),(6,vI (0))] [(2,0,[vS A.p A.x.items.length,vS A.q A.x.floors.length]),(3,1,[vS B.p B.x.items.length,vS B.q B.x.floors.length]),(4,2,[.slice none 0 0,.slice none 0 0]),(5,3,[.slice none 0 0,.slice none 0 0])] ⟨rfl,rfl,rfl,rfl,rfl,trivial⟩ ⟨rfl,rfl,rfl,rfl,trivial⟩ rfl fun ρ0 ff => ?_
 refine AW.loopM (fun x : Nat × Option Addr × Option Addr => [(2,vL 2 0 (0)),(3,vL 3 0 (1)),(4,vL 4 0 (2)),(5,vL 5 0 (3)),(6,vI (x.1 : Int))]) (fun x : Nat × Option Addr × Option Addr => [(2,0,[vS A.p A.x.items.length,vS A.q A.x.floors.length]),(3,1,[vS B.p B.x.items.length,vS B.q B.x.floors.length]),(4,2,[.slice none 0 0,.slice none 0 0]),(5,3,[vS x.2.1 (joinF A.x B.x x.1).items.length,vS x.2.2 (joinF A.x B.x x.1).floors.length])]) (fun m (x : Nat × Option Addr × Option Addr) st' => m = 5 - x.1 ∧ x.1 ≤ 5 ∧ OwnP st' [pcR 6 cItm x.2.1 (joinF A.x B.x x.1).items,pcR 2 cFlr x.2.2 (joinF A.x B.x x.1).floors] ∧ New st.next x.2.1 ∧ New st.next x.2.2 ∧ Pres st st') (0,none,none) _ ⟨rfl,rfl,rfl,rfl,rfl,trivial⟩ ⟨rfl,rfl,rfl,rfl,trivial⟩ ⟨rfl,Nat.zero_le _,pcS_nil,New.none,New.none,Pres.refl _⟩ ?_
 rintro m ⟨i,q1,q2⟩ ρ0 ff gg st' ⟨rfl,hi,hO,hN1,hN2,hP⟩
 simp only at hi hO hN1 hN2
 have hJ := joinF_len A.x B.x i
 have hJi := joinF_items A.x B.x i
 have hJf := joinF_floors A.x B.x i
 refine ⟨_,rfl,?_⟩
 rintro (_|_) h1
 ·replace h1 : ¬ ((i : Int) < 5) := of_decide_eq_false h1
  refine AW.cutM (gg) st' [(2,vL 2 0 (0)),(3,vL 3 0 (1)),(4,vL 4 0 (2)),(5,vL 5 0 (3)),(6,vI (i : Int)),(15,vB false)] [(2,0,[vS A.p A.x.items.length,vS A.q A.x.floors.length]),(3,1,[vS B.p B.x.items.length,vS B.q B.x.floors.length]),(4,2,[.slice none 0 0,.slice none 0 0]),(5,3,[vS q1 (joinF A.x B.x i).items.length,vS q2 (joinF A.x B.x i).floors.length])] ⟨rfl,rfl,rfl,rfl,rfl,rfl,trivial⟩ ⟨rfl,rfl,rfl,rfl,trivial⟩ rfl fun ρ0 ff => ?_
  refine cxs ?_
  refine ⟨_,op_ldo rfl rfl rfl rfl,?_⟩
  refine ⟨_,op_sto rfl rfl rfl rfl rfl rfl rfl,?_⟩
  refine cxs ?_
  have hil : i = 5 := by omega
  subst hil
  exact ⟨.inl rfl,_,rfl,⟨q1,q2,joinF A.x B.x 5⟩,rfl,rfl,hO,NewP.cons hN1 (NewP.cons hN2 NewP.nil),hP⟩
 ·replace h1 : (i : Int) < 5 := of_decide_eq_true h1
  refine AW.cutM (gg) st' [(2,vL 2 0 (0)),(3,vL 3 0 (1)),(4,vL 4 0 (2)),(5,vL 5 0 (3)),(6,vI (i : Int)),(15,vB true)] [(2,0,[vS A.p A.x.items.length,vS A.q A.x.floors.length]),(3,1,[vS B.p B.x.items.length,vS B.q B.x.floors.length]),(4,2,[.slice none 0 0,.slice none 0 0]),(5,3,[vS q1 (joinF A.x B.x i).items.length,vS q2 (joinF A.x B.x i).floors.length])] ⟨rfl,rfl,rfl,rfl,rfl,rfl,trivial⟩ ⟨rfl,rfl,rfl,rfl,trivial⟩ rfl fun ρ0 ff => ?_
  refine cxs ?_
  refine ⟨_,op_ldo rfl rfl rfl rfl,?_⟩
  refine ⟨_,rfl,(ac_impl_EntryOf A i st' (hA.pres hP) ha).mono ?_⟩
  rintro _ st' ⟨e1,b1,rfl,he1,rfl⟩
  iterate 3 refine ⟨_,rfl,?_⟩
  refine ⟨_,op_sto rfl rfl rfl rfl rfl rfl rfl,?_⟩
  refine AW.cutM (gg + 1) st' [(2,vL 2 0 (0)),(3,vL 3 0 (1)),(4,vL 4 0 (2)),(5,vL 5 0 (3)),(6,vI (i : Int)),(7,vL 7 0 (gg)),(15,vB true)] [(2,0,[vS A.p A.x.items.length,vS A.q A.x.floors.length]),(3,1,[vS B.p B.x.items.length,vS B.q B.x.floors.length]),(4,2,[.slice none 0 0,.slice none 0 0]),(5,3,[vS q1 (joinF A.x B.x i).items.length,vS q2 (joinF A.x B.x i).floors.length]),(7,gg,[vI e1.inc,vI e1.rank,vI e1.beat,vI e1.ver,.string e1.data])] ⟨rfl,rfl,rfl,rfl,rfl,rfl,rfl,trivial⟩ ⟨rfl,rfl,rfl,rfl,rfl,trivial⟩ rfl fun ρ0 ff => ?_
  refine ⟨_,op_ldo rfl rfl rfl rfl,?_⟩
  refine ⟨_,rfl,(ac_impl_EntryOf B i st' (hB.pres hP) hb).mono ?_⟩
  rintro _ st' ⟨e2,b2,rfl,he2,rfl⟩
  iterate 3 refine ⟨_,rfl,?_⟩
  refine ⟨_,op_sto rfl rfl rfl rfl rfl rfl rfl,?_⟩
  refine AW.cutM (gg + 2) st' [(2,vL 2 0 (0)),(3,vL 3 0 (1)),(4,vL 4 0 (2)),(5,vL 5 0 (3)),(6,vI (i : Int)),(7,vL 7 0 (gg)),(9,vL 9 0 (gg + 1)),(15,vB true)] [(2,0,[vS A.p A.x.items.length,vS A.q A.x.floors.length]),(3,1,[vS B.p B.x.items.length,vS B.q B.x.floors.length]),(4,2,[.slice none 0 0,.slice none 0 0]),(5,3,[vS q1 (joinF A.x B.x i).items.length,vS q2 (joinF A.x B.x i).floors.length]),(7,gg,[vI e1.inc,vI e1.rank,vI e1.beat,vI e1.ver,.string e1.data]),(9,gg + 1,[vI e2.inc,vI e2.rank,vI e2.beat,vI e2.ver,.string e2.data])] ⟨rfl,rfl,rfl,rfl,rfl,rfl,rfl,rfl,trivial⟩ ⟨rfl,rfl,rfl,rfl,rfl,rfl,trivial⟩ rfl fun ρ0 ff => ?_
  refine ⟨_,op_ldo rfl rfl rfl rfl,?_⟩
  refine ⟨_,op_ldo rfl rfl rfl rfl,?_⟩
  refine ⟨_,rfl,(ac_impl_EntryMax e1 e2 st').mono ?_⟩
  rintro _ s1 ⟨e,rfl,hem,hP1⟩
  refine ⟨_,rfl,?_⟩
  refine ⟨_,op_sto rfl rfl rfl rfl rfl rfl rfl,?_⟩
  refine AW.cutM (gg + 3) s1 [(2,vL 2 0 (0)),(3,vL 3 0 (1)),(4,vL 4 0 (2)),(5,vL 5 0 (3)),(6,vI (i : Int)),(7,vL 7 0 (gg)),(9,vL 9 0 (gg + 1)),(11,vL 11 0 (gg + 2)),(15,vB true)] [(2,0,[vS A.p A.x.items.length,vS A.q A.x.floors.length]),(3,1,[vS B.p B.x.items.length,vS B.q B.x.floors.length]),(4,2,[.slice none 0 0,.slice none 0 0]),(5,3,[vS q1 (joinF A.x B.x i).items.length,vS q2 (joinF A.x B.x i).floors.length]),(7,gg,[vI e1.inc,vI e1.rank,vI e1.beat,vI e1.ver,.string e1.data]),(9,gg + 1,[vI e2.inc,vI e2.rank,vI e2.beat,vI e2.ver,.string e2.data]),(11,gg + 2,[vI e.inc,vI e.rank,vI e.beat,vI e.ver,.string e.data])] ⟨rfl,rfl,rfl,rfl,rfl,rfl,rfl,rfl,rfl,trivial⟩ ⟨rfl,rfl,rfl,rfl,rfl,rfl,rfl,trivial⟩ rfl fun ρ0 ff => ?_
  have hE : topE A.x B.x (i : Int) = e := by rw [topE,← he1,← he2,hem]
  have hO1 := hO.pres hP1
  have hP' := hP.trans hP1
  rw [hE] at hJi
  refine ⟨_,op_ldo rfl rfl rfl rfl,?_⟩
  refine ⟨_,rfl,(ac_impl_FloorOf A i s1 (hA.pres hP') ha).mono ?_⟩
  rintro _ s1 ⟨rfl,rfl⟩
  refine ⟨fun _ _ => rfl,?_⟩
  refine ⟨_,op_ldo rfl rfl rfl rfl,?_⟩
  refine ⟨ld_own rfl rfl rfl,?_⟩
  refine ⟨_,rfl,(ac_impl_FloorOf B i s1 (hB.pres hP') hb).mono ?_⟩
  rintro _ s1 ⟨rfl,rfl⟩
  refine ⟨.int .i64 (max (floorOf A.x.floors (i : Int)) (floorOf B.x.floors (i : Int))),ammL_max _ _,?_⟩
  refine AW.cutM (gg + 3) s1 [(2,vL 2 0 (0)),(3,vL 3 0 (1)),(4,vL 4 0 (2)),(5,vL 5 0 (3)),(6,vI (i : Int)),(7,vL 7 0 (gg)),(9,vL 9 0 (gg + 1)),(11,vL 11 0 (gg + 2)),(12,vI (topF A.x B.x (i : Int))),(15,vB true)] [(2,0,[vS A.p A.x.items.length,vS A.q A.x.floors.length]),(3,1,[vS B.p B.x.items.length,vS B.q B.x.floors.length]),(4,2,[.slice none 0 0,.slice none 0 0]),(5,3,[vS q1 (joinF A.x B.x i).items.length,vS q2 (joinF A.x B.x i).floors.length]),(7,gg,[vI e1.inc,vI e1.rank,vI e1.beat,vI e1.ver,.string e1.data]),(9,gg + 1,[vI e2.inc,vI e2.rank,vI e2.beat,vI e2.ver,.string e2.data]),(11,gg + 2,[vI e.inc,vI e.rank,vI e.beat,vI e.ver,.string e.data])] ⟨rfl,rfl,rfl,rfl,rfl,rfl,rfl,rfl,rfl,rfl,trivial⟩ ⟨rfl,rfl,rfl,rfl,rfl,rfl,rfl,trivial⟩ rfl fun ρ0 ff => ?_
  refine ⟨_,rfl,?_⟩
  refine ⟨_,op_ldo rfl rfl rfl rfl,?_⟩
  refine ⟨_,rfl,?_⟩
  rintro (_|_) h2
  ·replace h2 : ¬ (e.inc > topF A.x B.x (i : Int)) := of_decide_eq_false h2
   refine AW.cutM (gg + 3) s1 [(2,vL 2 0 (0)),(3,vL 3 0 (1)),(4,vL 4 0 (2)),(5,vL 5 0 (3)),(6,vI (i : Int)),(7,vL 7 0 (gg)),(9,vL 9 0 (gg + 1)),(11,vL 11 0 (gg + 2)),(12,vI (topF A.x B.x (i : Int))),(15,vB true),(43,vB false)] [(2,0,[vS A.p A.x.items.length,vS A.q A.x.floors.length]),(3,1,[vS B.p B.x.items.length,vS B.q B.x.floors.length]),(4,2,[.slice none 0 0,.slice none 0 0]),(5,3,[vS q1 (joinF A.x B.x i).items.length,vS q2 (joinF A.x B.x i).floors.length]),(7,gg,[vI e1.inc,vI e1.rank,vI e1.beat,vI e1.ver,.string e1.data]),(9,gg + 1,[vI e2.inc,vI e2.rank,vI e2.beat,vI e2.ver,.string e2.data]),(11,gg + 2,[vI e.inc,vI e.rank,vI e.beat,vI e.ver,.string e.data])] ⟨rfl,rfl,rfl,rfl,rfl,rfl,rfl,rfl,rfl,rfl,rfl,trivial⟩ ⟨rfl,rfl,rfl,rfl,rfl,rfl,rfl,trivial⟩ rfl fun ρ0 ff => ?_
   refine cxs ?_
   refine ⟨_,rfl,?_⟩
   rintro (_|_) h3
   ·replace h3 : ¬ (topF A.x B.x (i : Int) > 0) := of_decide_eq_false h3
    refine AW.cutM (gg + 3) s1 [(2,vL 2 0 (0)),(3,vL 3 0 (1)),(4,vL 4 0 (2)),(5,vL 5 0 (3)),(6,vI (i : Int)),(7,vL 7 0 (gg)),(9,vL 9 0 (gg + 1)),(11,vL 11 0 (gg + 2)),(12,vI (topF A.x B.x (i : Int))),(15,vB true),(43,vB false),(53,vB false)] [(2,0,[vS A.p A.x.items.length,vS A.q A.x.floors.length]),(3,1,[vS B.p B.x.items.length,vS B.q B.x.floors.length]),(4,2,[.slice none 0 0,.slice none 0 0]),(5,3,[vS q1 (joinF A.x B.x i).items.length,vS q2 (joinF A.x B.x i).floors.length]),(7,gg,[vI e1.inc,vI e1.rank,vI e1.beat,vI e1.ver,.string e1.data]),(9,gg + 1,[vI e2.inc,vI e2.rank,vI e2.beat,vI e2.ver,.string e2.data]),(11,gg + 2,[vI e.inc,vI e.rank,vI e.beat,vI e.ver,.string e.data])] ⟨rfl,rfl,rfl,rfl,rfl,rfl,rfl,rfl,rfl,rfl,rfl,rfl,trivial⟩ ⟨rfl,rfl,rfl,rfl,rfl,rfl,rfl,trivial⟩ rfl fun ρ0 ff => ?_
    refine cxs ?_
    have e17 : IntKind.wrap .i64 ((i : Int) + 1) = ((i + 1 : Nat) : Int) := (wrap_i64 (by omega) (by omega)).trans (by omega)
    refine ⟨_,rfl,?_⟩
    rw [if_neg h2] at hJi
    rw [if_neg h3] at hJf
    exact ⟨(i + 1,q1,q2),5 - (i + 1),by omega,⟨rfl,rfl,rfl,rfl,congrArg (Value.int .i64) e17,trivial⟩,⟨rfl,rfl,rfl,(show some (3,[vS q1 (joinF A.x B.x i).items.length,vS q2 (joinF A.x B.x i).floors.length]) = some (3,[vS q1 (joinF A.x B.x (i + 1)).items.length,vS q2 (joinF A.x B.x (i + 1)).floors.length]) by rw [hJi,hJf]),trivial⟩,rfl,by omega,by rw [hJi,hJf]; exact hO1,hN1,hN2,hP'⟩
   ·replace h3 : topF A.x B.x (i : Int) > 0 := of_decide_eq_true h3
    refine AW.cutM (gg + 3) s1 [(2,vL 2 0 (0)),(3,vL 3 0 (1)),(4,vL 4 0 (2)),(5,vL 5 0 (3)),(6,vI (i : Int)),(7,vL 7 0 (gg)),(9,vL 9 0 (gg + 1)),(11,vL 11 0 (gg + 2)),(12,vI (topF A.x B.x (i : Int))),(15,vB true),(43,vB false),(53,vB true)] [(2,0,[vS A.p A.x.items.length,vS A.q A.x.floors.length]),(3,1,[vS B.p B.x.items.length,vS B.q B.x.floors.length]),(4,2,[.slice none 0 0,.slice none 0 0]),(5,3,[vS q1 (joinF A.x B.x i).items.length,vS q2 (joinF A.x B.x i).floors.length]),(7,gg,[vI e1.inc,vI e1.rank,vI e1.beat,vI e1.ver,.string e1.data]),(9,gg + 1,[vI e2.inc,vI e2.rank,vI e2.beat,vI e2.ver,.string e2.data]),(11,gg + 2,[vI e.inc,vI e.rank,vI e.beat,vI e.ver,.string e.data])] ⟨rfl,rfl,rfl,rfl,rfl,rfl,rfl,rfl,rfl,rfl,rfl,rfl,trivial⟩ ⟨rfl,rfl,rfl,rfl,rfl,rfl,rfl,trivial⟩ rfl fun ρ0 ff => ?_
    refine ⟨_,rfl,?_⟩
    refine ⟨_,op_ldo rfl rfl rfl rfl,?_⟩
    refine ⟨_,rfl,?_⟩
    refine op_one (z := 2) (a := (⟨(i : Int),topF A.x B.x (i : Int)⟩ : Flr)) (f := cFlr) rfl rfl rfl rfl rfl (by decide) rfl (Nat.le_of_ble_eq_true rfl) rfl rfl rfl ?_
    refine op_add (z := 2) (st := s1) (f := cFlr) (b := 16) (l := (joinF A.x B.x i).floors) rfl rfl rfl rfl rfl rfl rfl (by decide) len_cFlr rfl rfl rfl (by omega) (by unfold maxLen; omega) (pcS_f hO1) ?_
    intro q6 s6 hO6 hP6 hN6
    refine ⟨_,rfl,?_⟩
    refine ⟨_,op_sto rfl rfl rfl rfl rfl rfl rfl,?_⟩
    refine AW.cutM (gg + 3) s6 [(2,vL 2 0 (0)),(3,vL 3 0 (1)),(4,vL 4 0 (2)),(5,vL 5 0 (3)),(6,vI (i : Int)),(7,vL 7 0 (gg)),(9,vL 9 0 (gg + 1)),(11,vL 11 0 (gg + 2)),(12,vI (topF A.x B.x (i : Int))),(15,vB true),(43,vB false),(53,vB true)] [(2,0,[vS A.p A.x.items.length,vS A.q A.x.floors.length]),(3,1,[vS B.p B.x.items.length,vS B.q B.x.floors.length]),(4,2,[.slice none 0 0,.slice none 0 0]),(5,3,[vS q1 (joinF A.x B.x i).items.length,vS q6 ((joinF A.x B.x i).floors.length + 1)]),(7,gg,[vI e1.inc,vI e1.rank,vI e1.beat,vI e1.ver,.string e1.data]),(9,gg + 1,[vI e2.inc,vI e2.rank,vI e2.beat,vI e2.ver,.string e2.data]),(11,gg + 2,[vI e.inc,vI e.rank,vI e.beat,vI e.ver,.string e.data])] ⟨rfl,rfl,rfl,rfl,rfl,rfl,rfl,rfl,rfl,rfl,rfl,rfl,trivial⟩ ⟨rfl,rfl,rfl,rfl,rfl,rfl,rfl,trivial⟩ rfl fun ρ0 ff => ?_
    have e17 : IntKind.wrap .i64 ((i : Int) + 1) = ((i + 1 : Nat) : Int) := (wrap_i64 (by omega) (by omega)).trans (by omega)
    refine ⟨_,rfl,?_⟩
    rw [if_neg h2] at hJi
    rw [if_pos h3] at hJf
    exact ⟨(i + 1,q1,q6),5 - (i + 1),by omega,⟨rfl,rfl,rfl,rfl,congrArg (Value.int .i64) e17,trivial⟩,⟨rfl,rfl,rfl,(show some (3,[vS q1 (joinF A.x B.x i).items.length,vS q6 ((joinF A.x B.x i).floors.length + 1)]) = some (3,[vS q1 (joinF A.x B.x (i + 1)).items.length,vS q6 (joinF A.x B.x (i + 1)).floors.length]) by rw [hJi,hJf,List.length_append]; rfl),trivial⟩,rfl,by omega,by rw [hJi,hJf]; exact pcS_floors hO1 hP6 hO6 hN6,hN1,hN6.le hP'.1,hP6.pres hP' hN2⟩
  ·replace h2 : e.inc > topF A.x B.x (i : Int) := of_decide_eq_true h2
   refine AW.cutM (gg + 3) s1 [(2,vL 2 0 (0)),(3,vL 3 0 (1)),(4,vL 4 0 (2)),(5,vL 5 0 (3)),(6,vI (i : Int)),(7,vL 7 0 (gg)),(9,vL 9 0 (gg + 1)),(11,vL 11 0 (gg + 2)),(12,vI (topF A.x B.x (i : Int))),(15,vB true),(43,vB true)] [(2,0,[vS A.p A.x.items.length,vS A.q A.x.floors.length]),(3,1,[vS B.p B.x.items.length,vS B.q B.x.floors.length]),(4,2,[.slice none 0 0,.slice none 0 0]),(5,3,[vS q1 (joinF A.x B.x i).items.length,vS q2 (joinF A.x B.x i).floors.length]),(7,gg,[vI e1.inc,vI e1.rank,vI e1.beat,vI e1.ver,.string e1.data]),(9,gg + 1,[vI e2.inc,vI e2.rank,vI e2.beat,vI e2.ver,.string e2.data]),(11,gg + 2,[vI e.inc,vI e.rank,vI e.beat,vI e.ver,.string e.data])] ⟨rfl,rfl,rfl,rfl,rfl,rfl,rfl,rfl,rfl,rfl,rfl,trivial⟩ ⟨rfl,rfl,rfl,rfl,rfl,rfl,rfl,trivial⟩ rfl fun ρ0 ff => ?_
   refine ⟨_,rfl,?_⟩
   refine ⟨_,op_ldo rfl rfl rfl rfl,?_⟩
   refine ⟨_,op_ldo rfl rfl rfl rfl,?_⟩
   refine ⟨_,rfl,?_⟩
   refine op_one (z := 6) (a := (⟨(i : Int),e⟩ : Itm)) (f := cItm) rfl rfl rfl rfl rfl (by decide) rfl (Nat.le_of_ble_eq_true rfl) rfl rfl rfl ?_
   refine op_add (z := 6) (st := s1) (f := cItm) (b := 56) (l := (joinF A.x B.x i).items) rfl rfl rfl rfl rfl rfl rfl (by decide) len_cItm rfl rfl rfl (by omega) (by unfold maxLen; omega) (pcS_i hO1) ?_
   intro q4 s4 hO4 hP4 hN4
   refine ⟨_,rfl,?_⟩
   refine ⟨_,op_sto rfl rfl rfl rfl rfl rfl rfl,?_⟩
   refine AW.cutM (gg + 3) s4 [(2,vL 2 0 (0)),(3,vL 3 0 (1)),(4,vL 4 0 (2)),(5,vL 5 0 (3)),(6,vI (i : Int)),(7,vL 7 0 (gg)),(9,vL 9 0 (gg + 1)),(11,vL 11 0 (gg + 2)),(12,vI (topF A.x B.x (i : Int))),(15,vB true),(43,vB true)] [(2,0,[vS A.p A.x.items.length,vS A.q A.x.floors.length]),(3,1,[vS B.p B.x.items.length,vS B.q B.x.floors.length]),(4,2,[.slice none 0 0,.slice none 0 0]),(5,3,[vS q4 ((joinF A.x B.x i).items.length + 1),vS q2 (joinF A.x B.x i).floors.length]),(7,gg,[vI e1.inc,vI e1.rank,vI e1.beat,vI e1.ver,.string e1.data]),(9,gg + 1,[vI e2.inc,vI e2.rank,vI e2.beat,vI e2.ver,.string e2.data]),(11,gg + 2,[vI e.inc,vI e.rank,vI e.beat,vI e.ver,.string e.data])] ⟨rfl,rfl,rfl,rfl,rfl,rfl,rfl,rfl,rfl,rfl,rfl,trivial⟩ ⟨rfl,rfl,rfl,rfl,rfl,rfl,rfl,trivial⟩ rfl fun ρ0 ff => ?_
   have hO5 := pcS_items hO1 hP4 hO4 hN4
   have hP5 := hP4.pres hP' hN1
   refine ⟨_,rfl,?_⟩
   rintro (_|_) h3
   ·replace h3 : ¬ (topF A.x B.x (i : Int) > 0) := of_decide_eq_false h3
    refine AW.cutM (gg + 3) s4 [(2,vL 2 0 (0)),(3,vL 3 0 (1)),(4,vL 4 0 (2)),(5,vL 5 0 (3)),(6,vI (i : Int)),(7,vL 7 0 (gg)),(9,vL 9 0 (gg + 1)),(11,vL 11 0 (gg + 2)),(12,vI (topF A.x B.x (i : Int))),(15,vB true),(43,vB true),(53,vB false)] [(2,0,[vS A.p A.x.items.length,vS A.q A.x.floors.length]),(3,1,[vS B.p B.x.items.length,vS B.q B.x.floors.length]),(4,2,[.slice none 0 0,.slice none 0 0]),(5,3,[vS q4 ((joinF A.x B.x i).items.length + 1),vS q2 (joinF A.x B.x i).floors.length]),(7,gg,[vI e1.inc,vI e1.rank,vI e1.beat,vI e1.ver,.string e1.data]),(9,gg + 1,[vI e2.inc,vI e2.rank,vI e2.beat,vI e2.ver,.string e2.data]),(11,gg + 2,[vI e.inc,vI e.rank,vI e.beat,vI e.ver,.string e.data])] ⟨rfl,rfl,rfl,rfl,rfl,rfl,rfl,rfl,rfl,rfl,rfl,rfl,trivial⟩ ⟨rfl,rfl,rfl,rfl,rfl,rfl,rfl,trivial⟩ rfl fun ρ0 ff => ?_
    refine cxs ?_
    have e17 : IntKind.wrap .i64 ((i : Int) + 1) = ((i + 1 : Nat) : Int) := (wrap_i64 (by omega) (by omega)).trans (by omega)
    refine ⟨_,rfl,?_⟩
    rw [if_pos h2] at hJi
    rw [if_neg h3] at hJf
    exact ⟨(i + 1,q4,q2),5 - (i + 1),by omega,⟨rfl,rfl,rfl,rfl,congrArg (Value.int .i64) e17,trivial⟩,⟨rfl,rfl,rfl,(show some (3,[vS q4 ((joinF A.x B.x i).items.length + 1),vS q2 (joinF A.x B.x i).floors.length]) = some (3,[vS q4 (joinF A.x B.x (i + 1)).items.length,vS q2 (joinF A.x B.x (i + 1)).floors.length]) by rw [hJi,hJf,List.length_append]; rfl),trivial⟩,rfl,by omega,by rw [hJi,hJf]; exact hO5,hN4.le hP'.1,hN2,hP5⟩
   ·replace h3 : topF A.x B.x (i : Int) > 0 := of_decide_eq_true h3
    refine AW.cutM (gg + 3) s4 [(2,vL 2 0 (0)),(3,vL 3 0 (1)),(4,vL 4 0 (2)),(5,vL 5 0 (3)),(6,vI (i : Int)),(7,vL 7 0 (gg)),(9,vL 9 0 (gg + 1)),(11,vL 11 0 (gg + 2)),(12,vI (topF A.x B.x (i : Int))),(15,vB true),(43,vB true),(53,vB true)] [(2,0,[vS A.p A.x.items.length,vS A.q A.x.floors.length]),(3,1,[vS B.p B.x.items.length,vS B.q B.x.floors.length]),(4,2,[.slice none 0 0,.slice none 0 0]),(5,3,[vS q4 ((joinF A.x B.x i).items.length + 1),vS q2 (joinF A.x B.x i).floors.length]),(7,gg,[vI e1.inc,vI e1.rank,vI e1.beat,vI e1.ver,.string e1.data]),(9,gg + 1,[vI e2.inc,vI e2.rank,vI e2.beat,vI e2.ver,.string e2.data]),(11,gg + 2,[vI e.inc,vI e.rank,vI e.beat,vI e.ver,.string e.data])] ⟨rfl,rfl,rfl,rfl,rfl,rfl,rfl,rfl,rfl,rfl,rfl,rfl,trivial⟩ ⟨rfl,rfl,rfl,rfl,rfl,rfl,rfl,trivial⟩ rfl fun ρ0 ff => ?_
    refine ⟨_,rfl,?_⟩
    refine ⟨_,op_ldo rfl rfl rfl rfl,?_⟩
    refine ⟨_,rfl,?_⟩
    refine op_one (z := 2) (a := (⟨(i : Int),topF A.x B.x (i : Int)⟩ : Flr)) (f := cFlr) rfl rfl rfl rfl rfl (by decide) rfl (Nat.le_of_ble_eq_true rfl) rfl rfl rfl ?_
    refine op_add (z := 2) (st := s4) (f := cFlr) (b := 16) (l := (joinF A.x B.x i).floors) rfl rfl rfl rfl rfl rfl rfl (by decide) len_cFlr rfl rfl rfl (by omega) (by unfold maxLen; omega) (pcS_f hO5) ?_
    intro q6 s6 hO6 hP6 hN6
    refine ⟨_,rfl,?_⟩
    refine ⟨_,op_sto rfl rfl rfl rfl rfl rfl rfl,?_⟩
    refine AW.cutM (gg + 3) s6 [(2,vL 2 0 (0)),(3,vL 3 0 (1)),(4,vL 4 0 (2)),(5,vL 5 0 (3)),(6,vI (i : Int)),(7,vL 7 0 (gg)),(9,vL 9 0 (gg + 1)),(11,vL 11 0 (gg + 2)),(12,vI (topF A.x B.x (i : Int))),(15,vB true),(43,vB true),(53,vB true)] [(2,0,[vS A.p A.x.items.length,vS A.q A.x.floors.length]),(3,1,[vS B.p B.x.items.length,vS B.q B.x.floors.length]),(4,2,[.slice none 0 0,.slice none 0 0]),(5,3,[vS q4 ((joinF A.x B.x i).items.length + 1),vS q6 ((joinF A.x B.x i).floors.length + 1)]),(7,gg,[vI e1.inc,vI e1.rank,vI e1.beat,vI e1.ver,.string e1.data]),(9,gg + 1,[vI e2.inc,vI e2.rank,vI e2.beat,vI e2.ver,.string e2.data]),(11,gg + 2,[vI e.inc,vI e.rank,vI e.beat,vI e.ver,.string e.data])] ⟨rfl,rfl,rfl,rfl,rfl,rfl,rfl,rfl,rfl,rfl,rfl,rfl,trivial⟩ ⟨rfl,rfl,rfl,rfl,rfl,rfl,rfl,trivial⟩ rfl fun ρ0 ff => ?_
    have e17 : IntKind.wrap .i64 ((i : Int) + 1) = ((i + 1 : Nat) : Int) := (wrap_i64 (by omega) (by omega)).trans (by omega)
    refine ⟨_,rfl,?_⟩
    rw [if_pos h2] at hJi
    rw [if_pos h3] at hJf
    exact ⟨(i + 1,q4,q6),5 - (i + 1),by omega,⟨rfl,rfl,rfl,rfl,congrArg (Value.int .i64) e17,trivial⟩,⟨rfl,rfl,rfl,(show some (3,[vS q4 ((joinF A.x B.x i).items.length + 1),vS q6 ((joinF A.x B.x i).floors.length + 1)]) = some (3,[vS q4 (joinF A.x B.x (i + 1)).items.length,vS q6 (joinF A.x B.x (i + 1)).floors.length]) by rw [hJi,hJf,List.length_append,List.length_append]; rfl),trivial⟩,rfl,by omega,by rw [hJi,hJf]; exact pcS_floors hO5 hP6 hO6 hN6,hN4.le hP'.1,hN6.le hP5.1,hP6.pres hP5 hN2⟩
theorem firstNZ_neg : ∀ l : List Int,firstNZ (l.map fun x => -x) = - firstNZ l
 | [] => rfl
 | x :: l => by
  have ih := firstNZ_neg l
  rw [List.map_cons,firstNZ,firstNZ]
  by_cases h : x = 0
  ·rw [if_pos h,if_pos (by omega),ih]
  ·rw [if_neg h,if_neg (by omega)]
theorem cmpI_neg (a b : Int) : cmpI b a = - cmpI a b := by
 unfold cmpI
 split <;> split <;> (try split) <;> omega
theorem compareBytes_neg : ∀ a b : List UInt8,Lib.compareBytes b a = - Lib.compareBytes a b
 | [],[] => by simp [Lib.compareBytes]
 | [],b :: bs => by simp [Lib.compareBytes]
 | a :: l,[] => by simp [Lib.compareBytes]
 | a :: l,b :: bs => by
  have ih := compareBytes_neg l bs
  unfold Lib.compareBytes
  by_cases h1 : a < b
  ·have h2 : ¬ b < a := fun h => UInt8.lt_irrefl _ (UInt8.lt_trans h h1)
   simp [h1,h2]
  ·by_cases h2 : b < a
   ·simp [h1,h2]
   ·simp [h1,h2,ih]
theorem entCmp_neg (a b : Ent) : entCmp b a = - entCmp a b := by
 unfold entCmp
 rw [← firstNZ_neg]
 simp only [List.map_cons,List.map_nil,cmpB,cmpI_neg a.inc b.inc,cmpI_neg a.rank b.rank,cmpI_neg a.beat b.beat,cmpI_neg a.ver b.ver,compareBytes_neg a.data.data.toList b.data.data.toList]
theorem entMax_zero {a : Ent} (h : 1 ≤ a.inc) : entMax a zEnt = a ∧ entMax zEnt a = a := by
 have h1 : entCmp a zEnt = 1 := by
  unfold entCmp firstNZ
  have : cmpI a.inc zEnt.inc = 1 := by unfold cmpI zEnt; simp only; rw [if_neg (by omega),if_pos (by omega)]
  rw [this]; rfl
 have h2 : entCmp zEnt a = -1 := by rw [entCmp_neg,h1]
 exact ⟨by rw [entMax,h1]; rfl,by rw [entMax,h2]; rfl⟩
theorem entMax_zz : entMax zEnt zEnt = zEnt := by unfold entMax; split <;> rfl
theorem floorOf_pos {l : List Flr} (h : marksOk l) (id : Int) : 0 ≤ floorOf l id ∧ floorOf l id ≤ 1000 := by
 have key : ∀ m : List Flr,(∀ x ∈ m,1 ≤ x.inc ∧ x.inc ≤ 1000) → 0 ≤ floorOf m id ∧ floorOf m id ≤ 1000 := by
  intro m
  induction m with
  | nil => intro _; simp [floorOf]
  | cons x m ih =>
   intro h
   have hx := h x (List.mem_cons_self ..)
   rw [floorOf]
   split
   ·omega
   ·exact ih fun y hy => h y (List.mem_cons_of_mem _ hy)
 refine key l fun x hx => ?_
 obtain ⟨i,hi⟩ := List.getElem?_of_mem hx
 exact (h i x hi).2.1
theorem entP_none {l : List Itm} {id : Int} {e : Ent} (h : (e,false) = entP l id) : e = zEnt := by
 induction l with
 | nil => rw [entP] at h; injection h
 | cons x l ih =>
  rw [entP] at h
  split at h
  ·injection h with _ h; cases h
  ·exact ih h
theorem ac_spec_l3Join (A B : SV) (st : St) (hA : RdS st A) (hB : RdS st B) (ha : bigS A.x) (hb : bigS B.x) (oa : stateOk A.x) (ob : stateOk B.x) : C 81 [.agg #[vS A.p A.x.items.length,vS A.q A.x.floors.length],.agg #[vS B.p B.x.items.length,vS B.q B.x.floors.length]] st (fun v s => ∃ u : SV,v = .agg #[vS u.p u.x.items.length,vS u.q u.x.floors.length] ∧ u.x = joinF A.x B.x 5 ∧ OwnP s (pcS u) ∧ NewP st.next (pcS u) ∧ Pres st s) := by
 refine AC.enterX (i := ⟨[2,3,4,5,8,10,12],[2,3,4,5,8,10,12,27,34,66,70,77],[0,1,2,3,4,5,6,7,8,9,10,11,12,15,26,52,64,69],[]⟩) [(5,[2],[3])] Try.func81 rfl rfl (by kernel_rfl) (by kernel_rfl) Try.ntmps81 (Nat.le_of_ble_eq_true rfl) rfl ?_
 iterate 3 refine ⟨_,rfl,?_⟩
 refine AW.cutM (3) st [(2,vL 2 0 (0)),(3,vL 3 0 (1)),(4,vL 4 0 (2))] [(2,0,[vS A.p A.x.items.length,vS A.q A.x.floors.length]),(3,1,[vS B.p B.x.items.length,vS B.q B.x.floors.length]),(4,2,[.slice none 0 0,.slice none 0 0])] ⟨rfl,rfl,rfl,trivial⟩ ⟨rfl,rfl,rfl,trivial⟩ rfl fun ρ0 ff => ?_
 iterate 3 refine ⟨_,rfl,?_⟩
 refine cxs ?_
 refine AW.cutM (4) st [(2,vL 2 0 (0)),(3,vL 3 0 (1)),(4,vL 4 0 (2)),(5,vL 5 0 (3)),(6,vI (0))] [(2,0,[vS A.p A.x.items.length,vS A.q A.x.floors.length]),(3,1,[vS B.p B.x.items.length,vS B.q B.x.floors.length]),(4,2,[.slice none 0 0,.slice none 0 0]),(5,3,[.slice none 0 0,.slice none 0 0])] ⟨rfl,rfl,rfl,rfl,rfl,trivial⟩ ⟨rfl,rfl,rfl,rfl,trivial⟩ rfl fun ρ0 ff => ?_
 refine AW.loopM (fun x : Nat × Option Addr × Option Addr => [(2,vL 2 0 (0)),(3,vL 3 0 (1)),(4,vL 4 0 (2)),(5,vL 5 0 (3)),(6,vI (x.1 : Int))]) (fun x : Nat × Option Addr × Option Addr => [(2,0,[vS A.p A.x.items.length,vS A.q A.x.floors.length]),(3,1,[vS B.p B.x.items.length,vS B.q B.x.floors.length]),(4,2,[.slice none 0 0,.slice none 0 0]),(5,3,[vS x.2.1 (joinF A.x B.x x.1).items.length,vS x.2.2 (joinF A.x B.x x.1).floors.length])]) (fun m (x : Nat × Option Addr × Option Addr) st' => m = 5 - x.1 ∧ x.1 ≤ 5 ∧ OwnP st' [pcR 6 cItm x.2.1 (joinF A.x B.x x.1).items,pcR 2 cFlr x.2.2 (joinF A.x B.x x.1).floors] ∧ New st.next x.2.1 ∧ New st.next x.2.2 ∧ Pres st st') (0,none,none) _ ⟨rfl,rfl,rfl,rfl,rfl,trivial⟩ ⟨rfl,rfl,rfl,rfl,trivial⟩ ⟨rfl,Nat.zero_le _,pcS_nil,New.none,New.none,Pres.refl _⟩ ?_
 rintro m ⟨i,q1,q2⟩ ρ0 ff gg st' ⟨rfl,hi,hO,hN1,hN2,hP⟩
 simp only at hi hO hN1 hN2
 have hJ := joinF_len A.x B.x i
 have hJi := joinF_items A.x B.x i
 have hJf := joinF_floors A.x B.x i
 refine ⟨_,rfl,?_⟩
 rintro (_|_) h1
 ·replace h1 : ¬ ((i : Int) < 5) := of_decide_eq_false h1
  refine AW.cutM (gg) st' [(2,vL 2 0 (0)),(3,vL 3 0 (1)),(4,vL 4 0 (2)),(5,vL 5 0 (3)),(6,vI (i : Int)),(15,vB false)] [(2,0,[vS A.p A.x.items.length,vS A.q A.x.floors.length]),(3,1,[vS B.p B.x.items.length,vS B.q B.x.floors.length]),(4,2,[.slice none 0 0,.slice none 0 0]),(5,3,[vS q1 (joinF A.x B.x i).items.length,vS q2 (joinF A.x B.x i).floors.length])] ⟨rfl,rfl,rfl,rfl,rfl,rfl,trivial⟩ ⟨rfl,rfl,rfl,rfl,trivial⟩ rfl fun ρ0 ff => ?_
  refine cxs ?_
  refine ⟨_,op_ldo rfl rfl rfl rfl,?_⟩
  refine ⟨_,op_sto rfl rfl rfl rfl rfl rfl rfl,?_⟩
  refine cxs ?_
  have hil : i = 5 := by omega
  subst hil
  exact ⟨.inl rfl,_,rfl,⟨q1,q2,joinF A.x B.x 5⟩,rfl,rfl,hO,NewP.cons hN1 (NewP.cons hN2 NewP.nil),hP⟩
 ·replace h1 : (i : Int) < 5 := of_decide_eq_true h1
  refine AW.cutM (gg) st' [(2,vL 2 0 (0)),(3,vL 3 0 (1)),(4,vL 4 0 (2)),(5,vL 5 0 (3)),(6,vI (i : Int)),(15,vB true)] [(2,0,[vS A.p A.x.items.length,vS A.q A.x.floors.length]),(3,1,[vS B.p B.x.items.length,vS B.q B.x.floors.length]),(4,2,[.slice none 0 0,.slice none 0 0]),(5,3,[vS q1 (joinF A.x B.x i).items.length,vS q2 (joinF A.x B.x i).floors.length])] ⟨rfl,rfl,rfl,rfl,rfl,rfl,trivial⟩ ⟨rfl,rfl,rfl,rfl,trivial⟩ rfl fun ρ0 ff => ?_
  refine cxs ?_
  refine ⟨_,op_ldo rfl rfl rfl rfl,?_⟩
  refine ⟨_,rfl,(ac_spec_FloorOf A i st' (hA.pres hP) ha).mono ?_⟩
  rintro _ st' ⟨rfl,rfl⟩
  refine ⟨fun _ _ => rfl,?_⟩
  refine ⟨_,op_ldo rfl rfl rfl rfl,?_⟩
  refine ⟨ld_own rfl rfl rfl,?_⟩
  refine ⟨_,rfl,(ac_spec_FloorOf B i st' (hB.pres hP) hb).mono ?_⟩
  rintro _ st' ⟨rfl,rfl⟩
  refine ⟨_,rfl,(ac_spec_l1Max (floorOf A.x.floors (i : Int)) (floorOf B.x.floors (i : Int)) st').mono ?_⟩
  rintro _ st' ⟨rfl,rfl⟩
  refine AX.meet 5 (fun x : Option Addr × Ent × Nat => [(2,vL 2 0 (0)),(3,vL 3 0 (1)),(4,vL 4 0 (2)),(5,vL 5 0 (3)),(6,vI (i : Int)),(7,vI (topF A.x B.x (i : Int))),(12,vL 12 0 (x.2.2)),(15,vB true)]) (fun x : Option Addr × Ent × Nat => [(2,0,[vS A.p A.x.items.length,vS A.q A.x.floors.length]),(3,1,[vS B.p B.x.items.length,vS B.q B.x.floors.length]),(4,2,[.slice none 0 0,.slice none 0 0]),(5,3,[vS q1 (joinF A.x B.x i).items.length,vS x.1 (joinF A.x B.x (i + 1)).floors.length]),(12,x.2.2,[vI x.2.1.inc,vI x.2.1.rank,vI x.2.1.beat,vI x.2.1.ver,.string x.2.1.data])]) (fun (x : Option Addr × Ent × Nat) st' => (joinF A.x B.x (i + 1)).items = (if x.2.1.inc > topF A.x B.x (i : Int) then (joinF A.x B.x i).items ++ [⟨(i : Int),x.2.1⟩] else (joinF A.x B.x i).items) ∧ OwnP st' [pcR 6 cItm q1 (joinF A.x B.x i).items,pcR 2 cFlr x.1 (joinF A.x B.x (i + 1)).floors] ∧ New st.next x.1 ∧ Pres st st') ?_ ?_
  ·refine AX.meet 0 (fun q6 : Option Addr => [(2,vL 2 0 (0)),(3,vL 3 0 (1)),(4,vL 4 0 (2)),(5,vL 5 0 (3)),(6,vI (i : Int)),(7,vI (topF A.x B.x (i : Int))),(15,vB true)]) (fun q6 : Option Addr => [(2,0,[vS A.p A.x.items.length,vS A.q A.x.floors.length]),(3,1,[vS B.p B.x.items.length,vS B.q B.x.floors.length]),(4,2,[.slice none 0 0,.slice none 0 0]),(5,3,[vS q1 (joinF A.x B.x i).items.length,vS q6 (joinF A.x B.x (i + 1)).floors.length])]) (fun (q6 : Option Addr) st' => OwnP st' [pcR 6 cItm q1 (joinF A.x B.x i).items,pcR 2 cFlr q6 (joinF A.x B.x (i + 1)).floors] ∧ New st.next q6 ∧ Pres st st') ?_ ?_
   ·refine AW.cutM (gg) st' [(2,vL 2 0 (0)),(3,vL 3 0 (1)),(4,vL 4 0 (2)),(5,vL 5 0 (3)),(6,vI (i : Int)),(7,vI (topF A.x B.x (i : Int))),(15,vB true)] [(2,0,[vS A.p A.x.items.length,vS A.q A.x.floors.length]),(3,1,[vS B.p B.x.items.length,vS B.q B.x.floors.length]),(4,2,[.slice none 0 0,.slice none 0 0]),(5,3,[vS q1 (joinF A.x B.x i).items.length,vS q2 (joinF A.x B.x i).floors.length])] ⟨rfl,rfl,rfl,rfl,rfl,rfl,rfl,trivial⟩ ⟨rfl,rfl,rfl,rfl,trivial⟩ rfl fun ρ0 ff => ?_
    refine ⟨_,rfl,?_⟩
    rintro (_|_) h2
    ·replace h2 : ¬ (topF A.x B.x (i : Int) > 0) := of_decide_eq_false h2
     refine AW.cutM (gg) st' [(2,vL 2 0 (0)),(3,vL 3 0 (1)),(4,vL 4 0 (2)),(5,vL 5 0 (3)),(6,vI (i : Int)),(7,vI (topF A.x B.x (i : Int))),(15,vB true),(26,vB false)] [(2,0,[vS A.p A.x.items.length,vS A.q A.x.floors.length]),(3,1,[vS B.p B.x.items.length,vS B.q B.x.floors.length]),(4,2,[.slice none 0 0,.slice none 0 0]),(5,3,[vS q1 (joinF A.x B.x i).items.length,vS q2 (joinF A.x B.x i).floors.length])] ⟨rfl,rfl,rfl,rfl,rfl,rfl,rfl,rfl,trivial⟩ ⟨rfl,rfl,rfl,rfl,trivial⟩ rfl fun ρ0 ff => ?_
     have hfe : (joinF A.x B.x (i + 1)).floors = (joinF A.x B.x i).floors := by rw [hJf,if_neg h2]
     exact ⟨q2,⟨rfl,rfl,rfl,rfl,rfl,rfl,rfl,trivial⟩,⟨rfl,rfl,rfl,(show some (3,[vS q1 (joinF A.x B.x i).items.length,vS q2 (joinF A.x B.x i).floors.length]) = _ by rw [hfe]),trivial⟩,by rw [hfe]; exact hO,hN2,hP⟩
    ·replace h2 : topF A.x B.x (i : Int) > 0 := of_decide_eq_true h2
     refine AW.cutM (gg) st' [(2,vL 2 0 (0)),(3,vL 3 0 (1)),(4,vL 4 0 (2)),(5,vL 5 0 (3)),(6,vI (i : Int)),(7,vI (topF A.x B.x (i : Int))),(15,vB true),(26,vB true)] [(2,0,[vS A.p A.x.items.length,vS A.q A.x.floors.length]),(3,1,[vS B.p B.x.items.length,vS B.q B.x.floors.length]),(4,2,[.slice none 0 0,.slice none 0 0]),(5,3,[vS q1 (joinF A.x B.x i).items.length,vS q2 (joinF A.x B.x i).floors.length])] ⟨rfl,rfl,rfl,rfl,rfl,rfl,rfl,rfl,trivial⟩ ⟨rfl,rfl,rfl,rfl,trivial⟩ rfl fun ρ0 ff => ?_
     refine ⟨_,rfl,?_⟩
     refine ⟨_,op_ldo rfl rfl rfl rfl,?_⟩
     refine ⟨_,rfl,?_⟩
     refine op_one (z := 2) (a := (⟨(i : Int),topF A.x B.x (i : Int)⟩ : Flr)) (f := cFlr) rfl rfl rfl rfl rfl (by decide) rfl (Nat.le_of_ble_eq_true rfl) rfl rfl rfl ?_
     refine op_add (z := 2) (st := st') (f := cFlr) (b := 16) (l := (joinF A.x B.x i).floors) rfl rfl rfl rfl rfl rfl rfl (by decide) len_cFlr rfl rfl rfl (by omega) (by unfold maxLen; omega) (pcS_f hO) ?_
     intro q6 s6 hO6 hP6 hN6
     refine ⟨_,rfl,?_⟩
     refine ⟨_,op_sto rfl rfl rfl rfl rfl rfl rfl,?_⟩
     have hfe : (joinF A.x B.x (i + 1)).floors = (joinF A.x B.x i).floors ++ [⟨(i : Int),topF A.x B.x (i : Int)⟩] := by rw [hJf,if_pos h2]
     exact ⟨q6,⟨rfl,rfl,rfl,rfl,rfl,rfl,rfl,trivial⟩,⟨rfl,rfl,rfl,(show some (3,[vS q1 (joinF A.x B.x i).items.length,vS q6 ((joinF A.x B.x i).floors.length + 1)]) = _ by rw [hfe,List.length_append]; rfl),trivial⟩,by rw [hfe]; exact pcS_floors hO hP6 hO6 hN6,hN6.le hP.1,hP6.pres hP hN2⟩
   ·rintro q6 ρ0 ff gg st' ⟨hO6,hN6,hP6⟩
    refine ⟨_,op_ldo rfl rfl rfl rfl,?_⟩
    refine ⟨_,rfl,(ac_spec_EntryOf A i st' (hA.pres hP6) ha).mono ?_⟩
    rintro _ st' ⟨e1,b1,rfl,he1,rfl⟩
    rcases b1 with _|_
    ·iterate 3 refine ⟨_,rfl,?_⟩
     refine ⟨_,op_sto rfl rfl rfl rfl rfl rfl rfl,?_⟩
     refine AW.cutM (gg + 1) st' [(2,vL 2 0 (0)),(3,vL 3 0 (1)),(4,vL 4 0 (2)),(5,vL 5 0 (3)),(6,vI (i : Int)),(7,vI (topF A.x B.x (i : Int))),(8,vL 8 0 (gg)),(9,vB false),(15,vB true)] [(2,0,[vS A.p A.x.items.length,vS A.q A.x.floors.length]),(3,1,[vS B.p B.x.items.length,vS B.q B.x.floors.length]),(4,2,[.slice none 0 0,.slice none 0 0]),(5,3,[vS q1 (joinF A.x B.x i).items.length,vS q6 (joinF A.x B.x (i + 1)).floors.length]),(8,gg,[vI e1.inc,vI e1.rank,vI e1.beat,vI e1.ver,.string e1.data])] ⟨rfl,rfl,rfl,rfl,rfl,rfl,rfl,rfl,rfl,trivial⟩ ⟨rfl,rfl,rfl,rfl,rfl,trivial⟩ rfl fun ρ0 ff => ?_
     refine ⟨_,op_ldo rfl rfl rfl rfl,?_⟩
     refine ⟨_,rfl,(ac_spec_EntryOf B i st' (hB.pres hP6) hb).mono ?_⟩
     rintro _ st' ⟨e2,b2,rfl,he2,rfl⟩
     rcases b2 with _|_
     ·iterate 3 refine ⟨_,rfl,?_⟩
      refine ⟨_,op_sto rfl rfl rfl rfl rfl rfl rfl,?_⟩
      refine AW.cutM (gg + 2) st' [(2,vL 2 0 (0)),(3,vL 3 0 (1)),(4,vL 4 0 (2)),(5,vL 5 0 (3)),(6,vI (i : Int)),(7,vI (topF A.x B.x (i : Int))),(8,vL 8 0 (gg)),(9,vB false),(10,vL 10 0 (gg + 1)),(11,vB false),(15,vB true)] [(2,0,[vS A.p A.x.items.length,vS A.q A.x.floors.length]),(3,1,[vS B.p B.x.items.length,vS B.q B.x.floors.length]),(4,2,[.slice none 0 0,.slice none 0 0]),(5,3,[vS q1 (joinF A.x B.x i).items.length,vS q6 (joinF A.x B.x (i + 1)).floors.length]),(8,gg,[vI e1.inc,vI e1.rank,vI e1.beat,vI e1.ver,.string e1.data]),(10,gg + 1,[vI e2.inc,vI e2.rank,vI e2.beat,vI e2.ver,.string e2.data])] ⟨rfl,rfl,rfl,rfl,rfl,rfl,rfl,rfl,rfl,rfl,rfl,trivial⟩ ⟨rfl,rfl,rfl,rfl,rfl,rfl,trivial⟩ rfl fun ρ0 ff => ?_
      have hE : topE A.x B.x (i : Int) = zEnt := by rw [topE,← he1,← he2,entP_none he1,entP_none he2]; exact entMax_zz
      have hfa := (floorOf_pos oa.2 (i : Int)).1
      have hle : ¬ (topE A.x B.x (i : Int)).inc > topF A.x B.x (i : Int) := by rw [hE]; unfold topF zEnt; simp only; omega
      rw [if_neg hle] at hJi
      iterate 3 refine ⟨_,rfl,?_⟩
      refine AW.cutM (gg + 2) st' [(2,vL 2 0 (0)),(3,vL 3 0 (1)),(4,vL 4 0 (2)),(5,vL 5 0 (3)),(6,vI (i : Int)),(7,vI (topF A.x B.x (i : Int))),(8,vL 8 0 (gg)),(9,vB false),(10,vL 10 0 (gg + 1)),(11,vB false),(15,vB true),(52,vB true)] [(2,0,[vS A.p A.x.items.length,vS A.q A.x.floors.length]),(3,1,[vS B.p B.x.items.length,vS B.q B.x.floors.length]),(4,2,[.slice none 0 0,.slice none 0 0]),(5,3,[vS q1 (joinF A.x B.x i).items.length,vS q6 (joinF A.x B.x (i + 1)).floors.length]),(8,gg,[vI e1.inc,vI e1.rank,vI e1.beat,vI e1.ver,.string e1.data]),(10,gg + 1,[vI e2.inc,vI e2.rank,vI e2.beat,vI e2.ver,.string e2.data])] ⟨rfl,rfl,rfl,rfl,rfl,rfl,rfl,rfl,rfl,rfl,rfl,rfl,trivial⟩ ⟨rfl,rfl,rfl,rfl,rfl,rfl,trivial⟩ rfl fun ρ0 ff => ?_
      refine cxs ?_
      have e17 : IntKind.wrap .i64 ((i : Int) + 1) = ((i + 1 : Nat) : Int) := (wrap_i64 (by omega) (by omega)).trans (by omega)
      refine ⟨_,rfl,?_⟩
      rw [← hJi] at hO6
      exact ⟨(i + 1,q1,q6),5 - (i + 1),by omega,⟨rfl,rfl,rfl,rfl,congrArg (Value.int .i64) e17,trivial⟩,⟨rfl,rfl,rfl,(show some (3,[vS q1 (joinF A.x B.x i).items.length,vS q6 (joinF A.x B.x (i + 1)).floors.length]) = _ by rw [hJi]),trivial⟩,rfl,by omega,hO6,hN1,hN6,hP6⟩
     ·iterate 3 refine ⟨_,rfl,?_⟩
      refine ⟨_,op_sto rfl rfl rfl rfl rfl rfl rfl,?_⟩
      refine AW.cutM (gg + 2) st' [(2,vL 2 0 (0)),(3,vL 3 0 (1)),(4,vL 4 0 (2)),(5,vL 5 0 (3)),(6,vI (i : Int)),(7,vI (topF A.x B.x (i : Int))),(8,vL 8 0 (gg)),(9,vB false),(10,vL 10 0 (gg + 1)),(11,vB true),(15,vB true)] [(2,0,[vS A.p A.x.items.length,vS A.q A.x.floors.length]),(3,1,[vS B.p B.x.items.length,vS B.q B.x.floors.length]),(4,2,[.slice none 0 0,.slice none 0 0]),(5,3,[vS q1 (joinF A.x B.x i).items.length,vS q6 (joinF A.x B.x (i + 1)).floors.length]),(8,gg,[vI e1.inc,vI e1.rank,vI e1.beat,vI e1.ver,.string e1.data]),(10,gg + 1,[vI e2.inc,vI e2.rank,vI e2.beat,vI e2.ver,.string e2.data])] ⟨rfl,rfl,rfl,rfl,rfl,rfl,rfl,rfl,rfl,rfl,rfl,trivial⟩ ⟨rfl,rfl,rfl,rfl,rfl,rfl,trivial⟩ rfl fun ρ0 ff => ?_
      have hE : topE A.x B.x (i : Int) = entMax e1 e2 := by rw [topE,← he1,← he2]
      have hfa := (floorOf_pos oa.2 (i : Int)).1
      rw [hE] at hJi
      iterate 3 refine ⟨_,rfl,?_⟩
      refine AW.cutM (gg + 2) st' [(2,vL 2 0 (0)),(3,vL 3 0 (1)),(4,vL 4 0 (2)),(5,vL 5 0 (3)),(6,vI (i : Int)),(7,vI (topF A.x B.x (i : Int))),(8,vL 8 0 (gg)),(9,vB false),(10,vL 10 0 (gg + 1)),(11,vB true),(15,vB true),(52,vB false)] [(2,0,[vS A.p A.x.items.length,vS A.q A.x.floors.length]),(3,1,[vS B.p B.x.items.length,vS B.q B.x.floors.length]),(4,2,[.slice none 0 0,.slice none 0 0]),(5,3,[vS q1 (joinF A.x B.x i).items.length,vS q6 (joinF A.x B.x (i + 1)).floors.length]),(8,gg,[vI e1.inc,vI e1.rank,vI e1.beat,vI e1.ver,.string e1.data]),(10,gg + 1,[vI e2.inc,vI e2.rank,vI e2.beat,vI e2.ver,.string e2.data])] ⟨rfl,rfl,rfl,rfl,rfl,rfl,rfl,rfl,rfl,rfl,rfl,rfl,trivial⟩ ⟨rfl,rfl,rfl,rfl,rfl,rfl,trivial⟩ rfl fun ρ0 ff => ?_
      refine cxs ?_
      refine ⟨_,op_ldo rfl rfl rfl rfl,?_⟩
      refine ⟨_,rfl,?_⟩
      refine ⟨_,op_sto rfl rfl rfl rfl rfl rfl rfl,?_⟩
      refine AW.cutM (gg + 3) st' [(2,vL 2 0 (0)),(3,vL 3 0 (1)),(4,vL 4 0 (2)),(5,vL 5 0 (3)),(6,vI (i : Int)),(7,vI (topF A.x B.x (i : Int))),(8,vL 8 0 (gg)),(9,vB false),(10,vL 10 0 (gg + 1)),(11,vB true),(12,vL 12 0 (gg + 2)),(15,vB true),(52,vB false)] [(2,0,[vS A.p A.x.items.length,vS A.q A.x.floors.length]),(3,1,[vS B.p B.x.items.length,vS B.q B.x.floors.length]),(4,2,[.slice none 0 0,.slice none 0 0]),(5,3,[vS q1 (joinF A.x B.x i).items.length,vS q6 (joinF A.x B.x (i + 1)).floors.length]),(8,gg,[vI e1.inc,vI e1.rank,vI e1.beat,vI e1.ver,.string e1.data]),(10,gg + 1,[vI e2.inc,vI e2.rank,vI e2.beat,vI e2.ver,.string e2.data]),(12,gg + 2,[vI e1.inc,vI e1.rank,vI e1.beat,vI e1.ver,.string e1.data])] ⟨rfl,rfl,rfl,rfl,rfl,rfl,rfl,rfl,rfl,rfl,rfl,rfl,rfl,trivial⟩ ⟨rfl,rfl,rfl,rfl,rfl,rfl,rfl,trivial⟩ rfl fun ρ0 ff => ?_
      iterate 2 refine ⟨_,rfl,?_⟩
      refine AW.cutM (gg + 3) st' [(2,vL 2 0 (0)),(3,vL 3 0 (1)),(4,vL 4 0 (2)),(5,vL 5 0 (3)),(6,vI (i : Int)),(7,vI (topF A.x B.x (i : Int))),(8,vL 8 0 (gg)),(9,vB false),(10,vL 10 0 (gg + 1)),(11,vB true),(12,vL 12 0 (gg + 2)),(15,vB true),(52,vB false),(64,vB true)] [(2,0,[vS A.p A.x.items.length,vS A.q A.x.floors.length]),(3,1,[vS B.p B.x.items.length,vS B.q B.x.floors.length]),(4,2,[.slice none 0 0,.slice none 0 0]),(5,3,[vS q1 (joinF A.x B.x i).items.length,vS q6 (joinF A.x B.x (i + 1)).floors.length]),(8,gg,[vI e1.inc,vI e1.rank,vI e1.beat,vI e1.ver,.string e1.data]),(10,gg + 1,[vI e2.inc,vI e2.rank,vI e2.beat,vI e2.ver,.string e2.data]),(12,gg + 2,[vI e1.inc,vI e1.rank,vI e1.beat,vI e1.ver,.string e1.data])] ⟨rfl,rfl,rfl,rfl,rfl,rfl,rfl,rfl,rfl,rfl,rfl,rfl,rfl,rfl,trivial⟩ ⟨rfl,rfl,rfl,rfl,rfl,rfl,rfl,trivial⟩ rfl fun ρ0 ff => ?_
      have hm : entMax e1 e2 = e2 := by rw [entP_none he1]; exact (entMax_zero (ent_ok ob he2).1.1).2
      rw [hm] at hJi
      have hO7 := hO6
      have hP8 := hP6
      refine ⟨_,op_ldo rfl rfl rfl rfl,?_⟩
      refine ⟨_,op_sto rfl rfl rfl rfl rfl rfl rfl,?_⟩
      exact ⟨(q6,e2,_),⟨rfl,rfl,rfl,rfl,rfl,rfl,rfl,rfl,trivial⟩,⟨rfl,rfl,rfl,rfl,rfl,trivial⟩,hJi,hO7,hN6,hP8⟩
    ·iterate 3 refine ⟨_,rfl,?_⟩
     refine ⟨_,op_sto rfl rfl rfl rfl rfl rfl rfl,?_⟩
     refine AW.cutM (gg + 1) st' [(2,vL 2 0 (0)),(3,vL 3 0 (1)),(4,vL 4 0 (2)),(5,vL 5 0 (3)),(6,vI (i : Int)),(7,vI (topF A.x B.x (i : Int))),(8,vL 8 0 (gg)),(9,vB true),(15,vB true)] [(2,0,[vS A.p A.x.items.length,vS A.q A.x.floors.length]),(3,1,[vS B.p B.x.items.length,vS B.q B.x.floors.length]),(4,2,[.slice none 0 0,.slice none 0 0]),(5,3,[vS q1 (joinF A.x B.x i).items.length,vS q6 (joinF A.x B.x (i + 1)).floors.length]),(8,gg,[vI e1.inc,vI e1.rank,vI e1.beat,vI e1.ver,.string e1.data])] ⟨rfl,rfl,rfl,rfl,rfl,rfl,rfl,rfl,rfl,trivial⟩ ⟨rfl,rfl,rfl,rfl,rfl,trivial⟩ rfl fun ρ0 ff => ?_
     refine ⟨_,op_ldo rfl rfl rfl rfl,?_⟩
     refine ⟨_,rfl,(ac_spec_EntryOf B i st' (hB.pres hP6) hb).mono ?_⟩
     rintro _ st' ⟨e2,b2,rfl,he2,rfl⟩
     rcases b2 with _|_
     ·iterate 3 refine ⟨_,rfl,?_⟩
      refine ⟨_,op_sto rfl rfl rfl rfl rfl rfl rfl,?_⟩
      refine AW.cutM (gg + 2) st' [(2,vL 2 0 (0)),(3,vL 3 0 (1)),(4,vL 4 0 (2)),(5,vL 5 0 (3)),(6,vI (i : Int)),(7,vI (topF A.x B.x (i : Int))),(8,vL 8 0 (gg)),(9,vB true),(10,vL 10 0 (gg + 1)),(11,vB false),(15,vB true)] [(2,0,[vS A.p A.x.items.length,vS A.q A.x.floors.length]),(3,1,[vS B.p B.x.items.length,vS B.q B.x.floors.length]),(4,2,[.slice none 0 0,.slice none 0 0]),(5,3,[vS q1 (joinF A.x B.x i).items.length,vS q6 (joinF A.x B.x (i + 1)).floors.length]),(8,gg,[vI e1.inc,vI e1.rank,vI e1.beat,vI e1.ver,.string e1.data]),(10,gg + 1,[vI e2.inc,vI e2.rank,vI e2.beat,vI e2.ver,.string e2.data])] ⟨rfl,rfl,rfl,rfl,rfl,rfl,rfl,rfl,rfl,rfl,rfl,trivial⟩ ⟨rfl,rfl,rfl,rfl,rfl,rfl,trivial⟩ rfl fun ρ0 ff => ?_
      have hE : topE A.x B.x (i : Int) = entMax e1 e2 := by rw [topE,← he1,← he2]
      have hfa := (floorOf_pos oa.2 (i : Int)).1
      rw [hE] at hJi
      iterate 2 refine ⟨_,rfl,?_⟩
      refine AW.cutM (gg + 2) st' [(2,vL 2 0 (0)),(3,vL 3 0 (1)),(4,vL 4 0 (2)),(5,vL 5 0 (3)),(6,vI (i : Int)),(7,vI (topF A.x B.x (i : Int))),(8,vL 8 0 (gg)),(9,vB true),(10,vL 10 0 (gg + 1)),(11,vB false),(15,vB true),(52,vB false)] [(2,0,[vS A.p A.x.items.length,vS A.q A.x.floors.length]),(3,1,[vS B.p B.x.items.length,vS B.q B.x.floors.length]),(4,2,[.slice none 0 0,.slice none 0 0]),(5,3,[vS q1 (joinF A.x B.x i).items.length,vS q6 (joinF A.x B.x (i + 1)).floors.length]),(8,gg,[vI e1.inc,vI e1.rank,vI e1.beat,vI e1.ver,.string e1.data]),(10,gg + 1,[vI e2.inc,vI e2.rank,vI e2.beat,vI e2.ver,.string e2.data])] ⟨rfl,rfl,rfl,rfl,rfl,rfl,rfl,rfl,rfl,rfl,rfl,rfl,trivial⟩ ⟨rfl,rfl,rfl,rfl,rfl,rfl,trivial⟩ rfl fun ρ0 ff => ?_
      refine cxs ?_
      refine ⟨_,op_ldo rfl rfl rfl rfl,?_⟩
      refine ⟨_,rfl,?_⟩
      refine ⟨_,op_sto rfl rfl rfl rfl rfl rfl rfl,?_⟩
      refine AW.cutM (gg + 3) st' [(2,vL 2 0 (0)),(3,vL 3 0 (1)),(4,vL 4 0 (2)),(5,vL 5 0 (3)),(6,vI (i : Int)),(7,vI (topF A.x B.x (i : Int))),(8,vL 8 0 (gg)),(9,vB true),(10,vL 10 0 (gg + 1)),(11,vB false),(12,vL 12 0 (gg + 2)),(15,vB true),(52,vB false)] [(2,0,[vS A.p A.x.items.length,vS A.q A.x.floors.length]),(3,1,[vS B.p B.x.items.length,vS B.q B.x.floors.length]),(4,2,[.slice none 0 0,.slice none 0 0]),(5,3,[vS q1 (joinF A.x B.x i).items.length,vS q6 (joinF A.x B.x (i + 1)).floors.length]),(8,gg,[vI e1.inc,vI e1.rank,vI e1.beat,vI e1.ver,.string e1.data]),(10,gg + 1,[vI e2.inc,vI e2.rank,vI e2.beat,vI e2.ver,.string e2.data]),(12,gg + 2,[vI e1.inc,vI e1.rank,vI e1.beat,vI e1.ver,.string e1.data])] ⟨rfl,rfl,rfl,rfl,rfl,rfl,rfl,rfl,rfl,rfl,rfl,rfl,rfl,trivial⟩ ⟨rfl,rfl,rfl,rfl,rfl,rfl,rfl,trivial⟩ rfl fun ρ0 ff => ?_
      iterate 3 refine ⟨_,rfl,?_⟩
      refine AW.cutM (gg + 3) st' [(2,vL 2 0 (0)),(3,vL 3 0 (1)),(4,vL 4 0 (2)),(5,vL 5 0 (3)),(6,vI (i : Int)),(7,vI (topF A.x B.x (i : Int))),(8,vL 8 0 (gg)),(9,vB true),(10,vL 10 0 (gg + 1)),(11,vB false),(12,vL 12 0 (gg + 2)),(15,vB true),(52,vB false),(64,vB false)] [(2,0,[vS A.p A.x.items.length,vS A.q A.x.floors.length]),(3,1,[vS B.p B.x.items.length,vS B.q B.x.floors.length]),(4,2,[.slice none 0 0,.slice none 0 0]),(5,3,[vS q1 (joinF A.x B.x i).items.length,vS q6 (joinF A.x B.x (i + 1)).floors.length]),(8,gg,[vI e1.inc,vI e1.rank,vI e1.beat,vI e1.ver,.string e1.data]),(10,gg + 1,[vI e2.inc,vI e2.rank,vI e2.beat,vI e2.ver,.string e2.data]),(12,gg + 2,[vI e1.inc,vI e1.rank,vI e1.beat,vI e1.ver,.string e1.data])] ⟨rfl,rfl,rfl,rfl,rfl,rfl,rfl,rfl,rfl,rfl,rfl,rfl,rfl,rfl,trivial⟩ ⟨rfl,rfl,rfl,rfl,rfl,rfl,rfl,trivial⟩ rfl fun ρ0 ff => ?_
      have hm : entMax e1 e2 = e1 := by rw [entP_none he2]; exact (entMax_zero (ent_ok oa he1).1.1).1
      rw [hm] at hJi
      have hO7 := hO6
      have hP8 := hP6
      exact ⟨(q6,e1,_),⟨rfl,rfl,rfl,rfl,rfl,rfl,rfl,rfl,trivial⟩,⟨rfl,rfl,rfl,rfl,rfl,trivial⟩,hJi,hO7,hN6,hP8⟩
     ·iterate 3 refine ⟨_,rfl,?_⟩
      refine ⟨_,op_sto rfl rfl rfl rfl rfl rfl rfl,?_⟩
      refine AW.cutM (gg + 2) st' [(2,vL 2 0 (0)),(3,vL 3 0 (1)),(4,vL 4 0 (2)),(5,vL 5 0 (3)),(6,vI (i : Int)),(7,vI (topF A.x B.x (i : Int))),(8,vL 8 0 (gg)),(9,vB true),(10,vL 10 0 (gg + 1)),(11,vB true),(15,vB true)] [(2,0,[vS A.p A.x.items.length,vS A.q A.x.floors.length]),(3,1,[vS B.p B.x.items.length,vS B.q B.x.floors.length]),(4,2,[.slice none 0 0,.slice none 0 0]),(5,3,[vS q1 (joinF A.x B.x i).items.length,vS q6 (joinF A.x B.x (i + 1)).floors.length]),(8,gg,[vI e1.inc,vI e1.rank,vI e1.beat,vI e1.ver,.string e1.data]),(10,gg + 1,[vI e2.inc,vI e2.rank,vI e2.beat,vI e2.ver,.string e2.data])] ⟨rfl,rfl,rfl,rfl,rfl,rfl,rfl,rfl,rfl,rfl,rfl,trivial⟩ ⟨rfl,rfl,rfl,rfl,rfl,rfl,trivial⟩ rfl fun ρ0 ff => ?_
      have hE : topE A.x B.x (i : Int) = entMax e1 e2 := by rw [topE,← he1,← he2]
      have hfa := (floorOf_pos oa.2 (i : Int)).1
      rw [hE] at hJi
      iterate 2 refine ⟨_,rfl,?_⟩
      refine AW.cutM (gg + 2) st' [(2,vL 2 0 (0)),(3,vL 3 0 (1)),(4,vL 4 0 (2)),(5,vL 5 0 (3)),(6,vI (i : Int)),(7,vI (topF A.x B.x (i : Int))),(8,vL 8 0 (gg)),(9,vB true),(10,vL 10 0 (gg + 1)),(11,vB true),(15,vB true),(52,vB false)] [(2,0,[vS A.p A.x.items.length,vS A.q A.x.floors.length]),(3,1,[vS B.p B.x.items.length,vS B.q B.x.floors.length]),(4,2,[.slice none 0 0,.slice none 0 0]),(5,3,[vS q1 (joinF A.x B.x i).items.length,vS q6 (joinF A.x B.x (i + 1)).floors.length]),(8,gg,[vI e1.inc,vI e1.rank,vI e1.beat,vI e1.ver,.string e1.data]),(10,gg + 1,[vI e2.inc,vI e2.rank,vI e2.beat,vI e2.ver,.string e2.data])] ⟨rfl,rfl,rfl,rfl,rfl,rfl,rfl,rfl,rfl,rfl,rfl,rfl,trivial⟩ ⟨rfl,rfl,rfl,rfl,rfl,rfl,trivial⟩ rfl fun ρ0 ff => ?_
      refine cxs ?_
      refine ⟨_,op_ldo rfl rfl rfl rfl,?_⟩
      refine ⟨_,rfl,?_⟩
      refine ⟨_,op_sto rfl rfl rfl rfl rfl rfl rfl,?_⟩
      refine AW.cutM (gg + 3) st' [(2,vL 2 0 (0)),(3,vL 3 0 (1)),(4,vL 4 0 (2)),(5,vL 5 0 (3)),(6,vI (i : Int)),(7,vI (topF A.x B.x (i : Int))),(8,vL 8 0 (gg)),(9,vB true),(10,vL 10 0 (gg + 1)),(11,vB true),(12,vL 12 0 (gg + 2)),(15,vB true),(52,vB false)] [(2,0,[vS A.p A.x.items.length,vS A.q A.x.floors.length]),(3,1,[vS B.p B.x.items.length,vS B.q B.x.floors.length]),(4,2,[.slice none 0 0,.slice none 0 0]),(5,3,[vS q1 (joinF A.x B.x i).items.length,vS q6 (joinF A.x B.x (i + 1)).floors.length]),(8,gg,[vI e1.inc,vI e1.rank,vI e1.beat,vI e1.ver,.string e1.data]),(10,gg + 1,[vI e2.inc,vI e2.rank,vI e2.beat,vI e2.ver,.string e2.data]),(12,gg + 2,[vI e1.inc,vI e1.rank,vI e1.beat,vI e1.ver,.string e1.data])] ⟨rfl,rfl,rfl,rfl,rfl,rfl,rfl,rfl,rfl,rfl,rfl,rfl,rfl,trivial⟩ ⟨rfl,rfl,rfl,rfl,rfl,rfl,rfl,trivial⟩ rfl fun ρ0 ff => ?_
      refine ⟨_,rfl,?_⟩
      refine ⟨_,op_ldo rfl rfl rfl rfl,?_⟩
      refine ⟨_,op_ldo rfl rfl rfl rfl,?_⟩
      refine ⟨_,rfl,(ac_spec_EntryCmp e2 e1 st').mono ?_⟩
      rintro _ s7 ⟨rfl,hP7⟩
      refine ⟨_,rfl,?_⟩
      rintro (_|_) h3
      ·replace h3 : ¬ (entCmp e2 e1 > 0) := of_decide_eq_false h3
       iterate 2 refine ⟨_,rfl,?_⟩
       refine AW.cutM (gg + 3) s7 [(2,vL 2 0 (0)),(3,vL 3 0 (1)),(4,vL 4 0 (2)),(5,vL 5 0 (3)),(6,vI (i : Int)),(7,vI (topF A.x B.x (i : Int))),(8,vL 8 0 (gg)),(9,vB true),(10,vL 10 0 (gg + 1)),(11,vB true),(12,vL 12 0 (gg + 2)),(15,vB true),(52,vB false),(64,vB false)] [(2,0,[vS A.p A.x.items.length,vS A.q A.x.floors.length]),(3,1,[vS B.p B.x.items.length,vS B.q B.x.floors.length]),(4,2,[.slice none 0 0,.slice none 0 0]),(5,3,[vS q1 (joinF A.x B.x i).items.length,vS q6 (joinF A.x B.x (i + 1)).floors.length]),(8,gg,[vI e1.inc,vI e1.rank,vI e1.beat,vI e1.ver,.string e1.data]),(10,gg + 1,[vI e2.inc,vI e2.rank,vI e2.beat,vI e2.ver,.string e2.data]),(12,gg + 2,[vI e1.inc,vI e1.rank,vI e1.beat,vI e1.ver,.string e1.data])] ⟨rfl,rfl,rfl,rfl,rfl,rfl,rfl,rfl,rfl,rfl,rfl,rfl,rfl,rfl,trivial⟩ ⟨rfl,rfl,rfl,rfl,rfl,rfl,rfl,trivial⟩ rfl fun ρ0 ff => ?_
       have hm : entMax e1 e2 = e1 := by rw [entMax,if_neg (by have := entCmp_neg e1 e2; omega)]
       rw [hm] at hJi
       have hO7 := hO6.pres hP7
       have hP8 := hP6.trans hP7
       exact ⟨(q6,e1,_),⟨rfl,rfl,rfl,rfl,rfl,rfl,rfl,rfl,trivial⟩,⟨rfl,rfl,rfl,rfl,rfl,trivial⟩,hJi,hO7,hN6,hP8⟩
      ·replace h3 : entCmp e2 e1 > 0 := of_decide_eq_true h3
       iterate 2 refine ⟨_,rfl,?_⟩
       refine AW.cutM (gg + 3) s7 [(2,vL 2 0 (0)),(3,vL 3 0 (1)),(4,vL 4 0 (2)),(5,vL 5 0 (3)),(6,vI (i : Int)),(7,vI (topF A.x B.x (i : Int))),(8,vL 8 0 (gg)),(9,vB true),(10,vL 10 0 (gg + 1)),(11,vB true),(12,vL 12 0 (gg + 2)),(15,vB true),(52,vB false),(64,vB true)] [(2,0,[vS A.p A.x.items.length,vS A.q A.x.floors.length]),(3,1,[vS B.p B.x.items.length,vS B.q B.x.floors.length]),(4,2,[.slice none 0 0,.slice none 0 0]),(5,3,[vS q1 (joinF A.x B.x i).items.length,vS q6 (joinF A.x B.x (i + 1)).floors.length]),(8,gg,[vI e1.inc,vI e1.rank,vI e1.beat,vI e1.ver,.string e1.data]),(10,gg + 1,[vI e2.inc,vI e2.rank,vI e2.beat,vI e2.ver,.string e2.data]),(12,gg + 2,[vI e1.inc,vI e1.rank,vI e1.beat,vI e1.ver,.string e1.data])] ⟨rfl,rfl,rfl,rfl,rfl,rfl,rfl,rfl,rfl,rfl,rfl,rfl,rfl,rfl,trivial⟩ ⟨rfl,rfl,rfl,rfl,rfl,rfl,rfl,trivial⟩ rfl fun ρ0 ff => ?_
       have hm : entMax e1 e2 = e2 := by rw [entMax,if_pos (by have := entCmp_neg e1 e2; omega)]
       rw [hm] at hJi
       have hO7 := hO6.pres hP7
       have hP8 := hP6.trans hP7
       refine ⟨_,op_ldo rfl rfl rfl rfl,?_⟩
       refine ⟨_,op_sto rfl rfl rfl rfl rfl rfl rfl,?_⟩
       exact ⟨(q6,e2,_),⟨rfl,rfl,rfl,rfl,rfl,rfl,rfl,rfl,trivial⟩,⟨rfl,rfl,rfl,rfl,rfl,trivial⟩,hJi,hO7,hN6,hP8⟩
  ·rintro ⟨q6,e,g12⟩ ρ0 ff gg st' ⟨hJi2,hO7,hN6,hP8⟩
   simp only at hJi2 hO7 hN6
   refine ⟨_,rfl,?_⟩
   refine ⟨_,op_ldo rfl rfl rfl rfl,?_⟩
   refine ⟨_,rfl,?_⟩
   rintro (_|_) h4
   ·replace h4 : ¬ (e.inc > topF A.x B.x (i : Int)) := of_decide_eq_false h4
    refine AW.cutM (gg) st' [(2,vL 2 0 (0)),(3,vL 3 0 (1)),(4,vL 4 0 (2)),(5,vL 5 0 (3)),(6,vI (i : Int)),(7,vI (topF A.x B.x (i : Int))),(12,vL 12 0 (g12)),(15,vB true),(69,vB false)] [(2,0,[vS A.p A.x.items.length,vS A.q A.x.floors.length]),(3,1,[vS B.p B.x.items.length,vS B.q B.x.floors.length]),(4,2,[.slice none 0 0,.slice none 0 0]),(5,3,[vS q1 (joinF A.x B.x i).items.length,vS q6 (joinF A.x B.x (i + 1)).floors.length]),(12,g12,[vI e.inc,vI e.rank,vI e.beat,vI e.ver,.string e.data])] ⟨rfl,rfl,rfl,rfl,rfl,rfl,rfl,rfl,rfl,trivial⟩ ⟨rfl,rfl,rfl,rfl,rfl,trivial⟩ rfl fun ρ0 ff => ?_
    refine cxs ?_
    have e17 : IntKind.wrap .i64 ((i : Int) + 1) = ((i + 1 : Nat) : Int) := (wrap_i64 (by omega) (by omega)).trans (by omega)
    refine ⟨_,rfl,?_⟩
    rw [if_neg h4] at hJi2
    exact ⟨(i + 1,q1,q6),5 - (i + 1),by omega,⟨rfl,rfl,rfl,rfl,congrArg (Value.int .i64) e17,trivial⟩,⟨rfl,rfl,rfl,(show some (3,[vS q1 (joinF A.x B.x i).items.length,vS q6 (joinF A.x B.x (i + 1)).floors.length]) = _ by rw [hJi2]),trivial⟩,rfl,by omega,by rw [hJi2]; exact hO7,hN1,hN6,hP8⟩
   ·replace h4 : e.inc > topF A.x B.x (i : Int) := of_decide_eq_true h4
    refine AW.cutM (gg) st' [(2,vL 2 0 (0)),(3,vL 3 0 (1)),(4,vL 4 0 (2)),(5,vL 5 0 (3)),(6,vI (i : Int)),(7,vI (topF A.x B.x (i : Int))),(12,vL 12 0 (g12)),(15,vB true),(69,vB true)] [(2,0,[vS A.p A.x.items.length,vS A.q A.x.floors.length]),(3,1,[vS B.p B.x.items.length,vS B.q B.x.floors.length]),(4,2,[.slice none 0 0,.slice none 0 0]),(5,3,[vS q1 (joinF A.x B.x i).items.length,vS q6 (joinF A.x B.x (i + 1)).floors.length]),(12,g12,[vI e.inc,vI e.rank,vI e.beat,vI e.ver,.string e.data])] ⟨rfl,rfl,rfl,rfl,rfl,rfl,rfl,rfl,rfl,trivial⟩ ⟨rfl,rfl,rfl,rfl,rfl,trivial⟩ rfl fun ρ0 ff => ?_
    refine ⟨_,rfl,?_⟩
    refine ⟨_,op_ldo rfl rfl rfl rfl,?_⟩
    refine ⟨_,op_ldo rfl rfl rfl rfl,?_⟩
    refine ⟨_,rfl,?_⟩
    refine op_one (z := 6) (a := (⟨(i : Int),e⟩ : Itm)) (f := cItm) rfl rfl rfl rfl rfl (by decide) rfl (Nat.le_of_ble_eq_true rfl) rfl rfl rfl ?_
    refine op_add (z := 6) (st := st') (f := cItm) (b := 56) (l := (joinF A.x B.x i).items) rfl rfl rfl rfl rfl rfl rfl (by decide) len_cItm rfl rfl rfl (by omega) (by unfold maxLen; omega) (pcS_i hO7) ?_
    intro q8 s8 hO8 hP9 hN8
    refine ⟨_,rfl,?_⟩
    refine ⟨_,op_sto rfl rfl rfl rfl rfl rfl rfl,?_⟩
    refine AW.cutM (gg) s8 [(2,vL 2 0 (0)),(3,vL 3 0 (1)),(4,vL 4 0 (2)),(5,vL 5 0 (3)),(6,vI (i : Int)),(7,vI (topF A.x B.x (i : Int))),(12,vL 12 0 (g12)),(15,vB true),(69,vB true)] [(2,0,[vS A.p A.x.items.length,vS A.q A.x.floors.length]),(3,1,[vS B.p B.x.items.length,vS B.q B.x.floors.length]),(4,2,[.slice none 0 0,.slice none 0 0]),(5,3,[vS q8 ((joinF A.x B.x i).items.length + 1),vS q6 (joinF A.x B.x (i + 1)).floors.length]),(12,g12,[vI e.inc,vI e.rank,vI e.beat,vI e.ver,.string e.data])] ⟨rfl,rfl,rfl,rfl,rfl,rfl,rfl,rfl,rfl,trivial⟩ ⟨rfl,rfl,rfl,rfl,rfl,trivial⟩ rfl fun ρ0 ff => ?_
    have e17 : IntKind.wrap .i64 ((i : Int) + 1) = ((i + 1 : Nat) : Int) := (wrap_i64 (by omega) (by omega)).trans (by omega)
    refine ⟨_,rfl,?_⟩
    rw [if_pos h4] at hJi2
    exact ⟨(i + 1,q8,q6),5 - (i + 1),by omega,⟨rfl,rfl,rfl,rfl,congrArg (Value.int .i64) e17,trivial⟩,⟨rfl,rfl,rfl,(show some (3,[vS q8 ((joinF A.x B.x i).items.length + 1),vS q6 (joinF A.x B.x (i + 1)).floors.length]) = _ by rw [hJi2,List.length_append]; rfl),trivial⟩,rfl,by omega,by rw [hJi2]; exact pcS_items hO7 hP9 hO8 hN8,hN8.le hP8.1,hN6,hP9.pres hP8 hN1⟩
theorem pick_get {β : Type} {f : Nat → Option β} {n i : Nat} {x : β} (h : ((List.range n).filterMap f)[i]? = some x) : ∃ j,j < n ∧ f j = some x := by
 obtain ⟨j,hj,hf⟩ := List.mem_filterMap.1 (List.mem_of_getElem? h)
 exact ⟨j,List.mem_range.1 hj,hf⟩
theorem pick_lt {β : Type} {f : Nat → Option β} {id : β → Int} (hid : ∀ j x,f j = some x → id x = (j : Int)) {n i : Nat} {x y : β} (h : ((List.range n).filterMap f)[i]? = some x) (h0 : 0 < i) (hy : ((List.range n).filterMap f)[i - 1]? = some y) : id y < id x := by
 have hp : ((List.range n).filterMap f).Pairwise fun a b => id a < id b := by
  rw [List.pairwise_filterMap]
  refine List.Pairwise.imp ?_ List.pairwise_lt_range
  intro a b hab u hu v hv
  rw [hid a u hu,hid b v hv]
  omega
 rw [List.pairwise_iff_getElem] at hp
 obtain ⟨h1,h2⟩ := List.getElem?_eq_some_iff.1 h
 obtain ⟨h3,h4⟩ := List.getElem?_eq_some_iff.1 hy
 rw [← h2,← h4]
 exact hp _ _ h3 h1 (by omega)
theorem floorOf_snoc (l : List Flr) (x : Flr) (id : Int) : floorOf (l ++ [x]) id = if (∃ y ∈ l,y.id = id) then floorOf l id else if x.id = id then x.inc else 0 := by
 induction l with
 | nil => simp [floorOf]
 | cons y l ih =>
  rw [List.cons_append,floorOf,floorOf,ih]
  by_cases h : y.id = id
  ·simp [h]
  ·simp [h]
theorem floorOf_pick (t : Int → Int) (id : Nat) : ∀ n,floorOf ((List.range n).filterMap fun (j : Nat) => if t (j : Int) > 0 then some (⟨(j : Int),t (j : Int)⟩ : Flr) else none) (id : Int) = if id < n ∧ t (id : Int) > 0 then t (id : Int) else 0
 | 0 => by simp [floorOf]
 | n + 1 => by
  have ih := floorOf_pick t id n
  rw [List.range_succ,List.filterMap_append]
  have hex : (∃ y ∈ (List.range n).filterMap (fun (j : Nat) => if t (j : Int) > 0 then some (⟨(j : Int),t (j : Int)⟩ : Flr) else none),y.id = (id : Int)) ↔ id < n ∧ t (id : Int) > 0 := by
   constructor
   ·rintro ⟨y,hy,hid⟩
    obtain ⟨j,hj,hf⟩ := List.mem_filterMap.1 hy
    split at hf
    ·rename_i ht
     injection hf with hf
     rw [← hf] at hid
     have hid : (j : Int) = (id : Int) := hid
     have : j = id := by omega
     exact ⟨by rw [← this]; exact List.mem_range.1 hj,by rw [← this]; exact ht⟩
    ·cases hf
   ·rintro ⟨h1,h2⟩
    exact ⟨⟨(id : Int),t (id : Int)⟩,List.mem_filterMap.2 ⟨id,List.mem_range.2 h1,by rw [if_pos h2]⟩,rfl⟩
  by_cases hn : t (n : Int) > 0
  ·simp only [List.filterMap_cons,List.filterMap_nil,hn,if_true]
   rw [floorOf_snoc]
   by_cases h1 : id < n ∧ t (id : Int) > 0
   ·rw [if_pos (hex.2 h1),ih,if_pos h1,if_pos ⟨by omega,h1.2⟩]
   ·rw [if_neg (fun h => h1 (hex.1 h))]
    by_cases h2 : n = id
    ·subst h2; rw [if_pos rfl,if_pos ⟨Nat.lt_succ_self _,hn⟩]
    ·rw [if_neg (by simp only; omega),if_neg (fun h => h1 ⟨by omega,h.2⟩)]
  ·simp only [List.filterMap_cons,List.filterMap_nil,hn,if_false,List.append_nil]
   rw [ih]
   by_cases h1 : id < n ∧ t (id : Int) > 0
   ·rw [if_pos h1,if_pos ⟨by omega,h1.2⟩]
   ·rw [if_neg h1,if_neg (fun h => h1 ⟨by
     rcases Nat.lt_or_ge id n with h3 | h3
     ·exact h3
     ·have : id = n := by omega
      subst this; exact absurd h.2 hn,h.2⟩)]
theorem topF_pos {a b : Sta} (ha : marksOk a.floors) (hb : marksOk b.floors) (id : Int) : 0 ≤ topF a b id ∧ topF a b id ≤ 1000 := by
 have h1 := floorOf_pos ha id
 have h2 := floorOf_pos hb id
 unfold topF
 omega
theorem floorOf_join {a b : Sta} (ha : marksOk a.floors) (hb : marksOk b.floors) {n id : Nat} (h : id < n) : floorOf (joinF a b n).floors (id : Int) = topF a b (id : Int) := by
 have h1 := (topF_pos ha hb (id : Int)).1
 show floorOf ((List.range n).filterMap fun (j : Nat) => if topF a b (j : Int) > 0 then some (⟨(j : Int),topF a b (j : Int)⟩ : Flr) else none) (id : Int) = _
 rw [floorOf_pick (fun i => topF a b i) id n]
 by_cases h2 : topF a b (id : Int) > 0
 ·rw [if_pos ⟨h,h2⟩]
 ·rw [if_neg (fun h => h2 h.2)]; omega
theorem entP_cases {s : Sta} (h : ∀ (j : Nat) x,s.items[j]? = some x → itemOk s j x) (id : Int) : (entP s.items id).1 = zEnt ∨ entOk (entP s.items id).1 := by
 rcases hb : (entP s.items id) with ⟨e,b⟩
 cases b with
 | false => exact .inl (entP_none (e := e) (id := id) hb.symm)
 | true =>
  obtain ⟨j,x,h1,h2,_⟩ := entP_mem (e := e) (id := id) hb.symm
  exact .inr (h2 ▸ (h j x h1).2.1)
theorem stateOk_join {a b : Sta} (ha : stateOk a) (hb : stateOk b) : stateOk (joinF a b 5) := by
 refine ⟨fun i x hx => ?_,fun i x hx => ?_⟩
 ·have hx' : ((List.range 5).filterMap fun (j : Nat) => if (topE a b (j : Int)).inc > topF a b (j : Int) then some (⟨(j : Int),topE a b (j : Int)⟩ : Itm) else none)[i]? = some x := hx
  obtain ⟨j,hj,hf⟩ := pick_get hx'
  split at hf
  ·rename_i ht
   injection hf with hf
   have hfl := floorOf_join ha.2 hb.2 hj
   have htp := (topF_pos ha.2 hb.2 (j : Int)).1
   have he : entOk (topE a b (j : Int)) := by
    have key : topE a b (j : Int) = (entP a.items (j : Int)).1 ∨ topE a b (j : Int) = (entP b.items (j : Int)).1 := by unfold topE entMax; split; exact .inr rfl; exact .inl rfl
    rcases key with h | h
    ·rcases entP_cases ha.1 (j : Int) with h2 | h2
     ·rw [h,h2] at ht; simp only [zEnt] at ht; omega
     ·rw [h]; exact h2
    ·rcases entP_cases hb.1 (j : Int) with h2 | h2
     ·rw [h,h2] at ht; simp only [zEnt] at ht; omega
     ·rw [h]; exact h2
   rw [← hf]
   refine ⟨⟨by simp only; omega,by simp only; omega⟩,he,by simp only; rw [hfl]; exact ht,fun y h0 hy => ?_⟩
   have := pick_lt (id := Itm.id) (fun j x hx => by
    split at hx
    ·injection hx with hx; rw [← hx]
    ·cases hx) hx' h0 hy
   rw [← hf] at this
   exact this
  ·cases hf
 ·have hx' : ((List.range 5).filterMap fun (j : Nat) => if topF a b (j : Int) > 0 then some (⟨(j : Int),topF a b (j : Int)⟩ : Flr) else none)[i]? = some x := hx
  obtain ⟨j,hj,hf⟩ := pick_get hx'
  split at hf
  ·rename_i ht
   injection hf with hf
   have htp := (topF_pos ha.2 hb.2 (j : Int))
   rw [← hf]
   refine ⟨⟨by simp only; omega,by simp only; omega⟩,⟨by simp only; omega,htp.2⟩,fun y h0 hy => ?_⟩
   have := pick_lt (id := Flr.id) (fun j x hx => by
    split at hx
    ·injection hx with hx; rw [← hx]
    ·cases hx) hx' h0 hy
   rw [← hf] at this
   exact this
  ·cases hf
theorem stateOk_nil : stateOk ⟨[],[]⟩ := ⟨fun j x h => (by cases h),fun j x h => (by cases h)⟩
def tnew (n : Int) : List (List Int) := if 1 ≤ n ∧ n ≤ 5 then List.replicate n.toNat [0,0,0,0,0] else []
abbrev zRow : List Int := List.replicate 5 0
theorem ac_spec_TableNew (n : Int) (st : St) : C 177 [vI n] st (fun v s => ∃ p t,v = vS p t.length ∧ OwnP s (pcT p t) ∧ NewP st.next (pcT p t) ∧ Pres st s ∧ t.map (·.l) = tnew n) := by
 refine AC.enterX (i := ⟨[],[],[0,2,3,4,8,12],[]⟩) [] Try.func177 rfl rfl (by kernel_rfl) (by kernel_rfl) Try.ntmps177 (Nat.le_of_ble_eq_true rfl) rfl ?_
 refine AW.cut lo0 st [(0,vI n),(2,.slice none 0 0)] ⟨rfl,rfl,trivial⟩ fun ρ0 => ?_
 refine op_nilK (z := 1) (f := cRV) rfl rfl rfl rfl Nat.one_pos rfl ?_
 intro q0 s0 hO0 hP0 hN0
 refine AW.cut lo0 s0 [(0,vI n),(2,.slice none 0 0),(3,vS q0 0)] ⟨rfl,rfl,rfl,trivial⟩ fun ρ0 => ?_
 refine ⟨_,rfl,(ac_spec_l1In n 1 5 s0).mono ?_⟩
 rintro _ s0 ⟨x,rfl,hx,rfl⟩
 rcases x with _|_
 ·replace hx := of_decide_eq_false hx.symm
  refine ⟨_,rfl,?_⟩
  refine AW.cut lo0 s0 [(0,vI n),(2,.slice none 0 0),(3,vS q0 0),(8,vB true)] ⟨rfl,rfl,rfl,rfl,trivial⟩ fun ρ0 => ?_
  refine cxs ?_
  exact ⟨.inl rfl,_,rfl,q0,[],rfl,OwnP.one (own_pc hO0),NewP.cons hN0 NewP.nil,hP0,by rw [tnew,if_neg hx]; rfl⟩
 ·replace hx := of_decide_eq_true hx.symm
  refine ⟨_,rfl,?_⟩
  refine AW.cut lo0 s0 [(0,vI n),(2,.slice none 0 0),(3,vS q0 0),(8,vB false)] ⟨rfl,rfl,rfl,rfl,trivial⟩ fun ρ0 => ?_
  obtain ⟨N,rfl⟩ : ∃ N : Nat,n = N := ⟨n.toNat,by omega⟩
  refine cxs ?_
  refine AW.cut lo0 s0 [(0,vI (N : Int)),(2,.slice none 0 0),(3,vS q0 0),(4,vI (0))] ⟨rfl,rfl,rfl,rfl,trivial⟩ fun ρ0 => ?_
  refine AW.loop0 (fun x : List RV × Option Addr => [(0,vI (N : Int)),(3,vS x.2 x.1.length),(4,vI (x.1.length : Int))]) (fun m (x : List RV × Option Addr) st' => m = N - x.1.length ∧ x.1.length ≤ N ∧ OwnP st' (pcT x.2 x.1) ∧ NewP st.next (pcT x.2 x.1) ∧ Pres st st' ∧ x.1.map (·.l) = List.replicate x.1.length zRow) ([],q0) _ ⟨rfl,rfl,rfl,trivial⟩ rfl ⟨rfl,Nat.zero_le _,OwnP.one (own_pc hO0),NewP.cons hN0 NewP.nil,hP0,rfl⟩ ?_
  rintro m x ρ0 st' ⟨rfl,hi,hO,hN,hP,hl⟩
  refine ⟨_,rfl,?_⟩
  rintro (_|_) h1
  ·replace h1 : ¬ ((x.1.length : Int) < (N : Int)) := of_decide_eq_false h1
   refine AW.cut lo0 st' [(0,vI (N : Int)),(3,vS x.2 x.1.length),(4,vI (x.1.length : Int)),(12,vB false)] ⟨rfl,rfl,rfl,rfl,trivial⟩ fun ρ0 => ?_
   refine cxs ?_
   refine cxs ?_
   have hil : x.1.length = N := by omega
   exact ⟨.inl rfl,_,rfl,x.2,x.1,rfl,hO,hN,hP,by rw [hl,hil,tnew,if_pos hx,Int.toNat_natCast]; rfl⟩
  ·replace h1 : (x.1.length : Int) < (N : Int) := of_decide_eq_true h1
   refine AW.cut lo0 st' [(0,vI (N : Int)),(3,vS x.2 x.1.length),(4,vI (x.1.length : Int)),(12,vB true)] ⟨rfl,rfl,rfl,rfl,trivial⟩ fun ρ0 => ?_
   have h1' := Int.ofNat_lt.1 h1
   refine cxs ?_
   refine op_mkK (z := 1) (f := fI) (a := (0 : Int)) (b := 8) (i := 5) rfl rfl rfl rfl rfl rfl rfl rfl rfl Nat.one_pos rfl rfl (Nat.le_of_ble_eq_true rfl) (Nat.le_of_ble_eq_true rfl) ?_
   intro q1 s1 hO1 hP1 hN1
   refine op_one (z := 1) (a := (⟨q1,zRow⟩ : RV)) (f := cRV) rfl rfl rfl rfl rfl Nat.one_pos rfl (Nat.le_of_ble_eq_true rfl) rfl rfl rfl ?_
   refine op_add (z := 1) (st := s1) (f := cRV) (b := 24) (l := x.1) rfl rfl rfl rfl rfl rfl rfl Nat.one_pos cRV_len rfl rfl rfl (by omega) (by unfold maxLen; omega) (hP1.ownR hO.outer) ?_
   intro q4 s4 hO4 hP4 hN4
   refine AW.cut lo0 s4 [(0,vI (N : Int)),(3,vS q4 (x.1.length + 1)),(4,vI (x.1.length : Int)),(12,vB true)] ⟨rfl,rfl,rfl,rfl,trivial⟩ fun ρ0 => ?_
   have hA := OwnP.renew (l := []) (m := x.1.map pcRV ++ [pcRV ⟨q1,zRow⟩]) (c := pcR 1 cRV x.2 x.1) (OwnP.join (l := pcT x.2 x.1) (m := [pcRV ⟨q1,zRow⟩]) hO hP1 (OwnP.one (own_pc hO1)) (NewP.cons hN1 NewP.nil)) hP4 (own_pc hO4) hN4
   have hA : OwnP s4 (pcT q4 (x.1 ++ [⟨q1,zRow⟩])) := by simpa [pcT] using hA
   have e14 : IntKind.wrap .i64 ((x.1.length : Int) + 1) = ((x.1.length + 1 : Nat) : Int) := (wrap_i64 (by omega) (by omega)).trans (by omega)
   refine ⟨_,rfl,?_⟩
   refine ⟨(x.1 ++ [⟨q1,zRow⟩],q4),N - (x.1.length + 1),by omega,⟨rfl,?_,?_,trivial⟩,rfl,?_,?_,hA,?_,?_,?_⟩
   ·rw [List.length_append]; rfl
   ·rw [List.length_append]; exact congrArg (Value.int .i64) e14
   ·rw [List.length_append]; rfl
   ·rw [List.length_append]; exact h1'
   ·refine NewP.cons (hN4.le (Nat.le_trans hP.1 hP1.1)) ?_
    rw [List.map_append]
    exact NewP.app (fun c hc => hN c (List.mem_cons_of_mem _ hc)) (NewP.cons (hN1.le hP.1) NewP.nil)
   ·exact hP4.pres (hP.trans hP1) (hN _ (List.mem_cons_self ..))
   ·rw [List.map_append,hl,List.length_append,List.length_singleton,List.replicate_succ']; rfl
theorem ac_impl_TableNew (n : Int) (st : St) : C 20 [vI n] st (fun v s => ∃ p t,v = vS p t.length ∧ OwnP s (pcT p t) ∧ NewP st.next (pcT p t) ∧ Pres st s ∧ t.map (·.l) = tnew n) := by
 refine AC.enterX (i := ⟨[],[],[0,2,3,7,9,10,11],[]⟩) [] Try.func20 rfl rfl (by kernel_rfl) (by kernel_rfl) Try.ntmps20 (Nat.le_of_ble_eq_true rfl) rfl ?_
 refine AW.cut lo0 st [(0,vI n),(2,.slice none 0 0)] ⟨rfl,rfl,trivial⟩ fun ρ0 => ?_
 refine op_nilK (z := 1) (f := cRV) rfl rfl rfl rfl Nat.one_pos rfl ?_
 intro q0 s0 hO0 hP0 hN0
 refine AW.cut lo0 s0 [(0,vI n),(2,.slice none 0 0),(3,vS q0 0)] ⟨rfl,rfl,rfl,trivial⟩ fun ρ0 => ?_
 refine ⟨_,rfl,(ac_impl_within n 1 5 s0).mono ?_⟩
 rintro _ s0 ⟨x,rfl,hx,rfl⟩
 rcases x with _|_
 ·replace hx := of_decide_eq_false hx.symm
  refine ⟨_,rfl,?_⟩
  refine AW.cut lo0 s0 [(0,vI n),(2,.slice none 0 0),(3,vS q0 0),(7,vB true)] ⟨rfl,rfl,rfl,rfl,trivial⟩ fun ρ0 => ?_
  refine cxs ?_
  exact ⟨.inl rfl,_,rfl,q0,[],rfl,OwnP.one (own_pc hO0),NewP.cons hN0 NewP.nil,hP0,by rw [tnew,if_neg hx]; rfl⟩
 ·replace hx := of_decide_eq_true hx.symm
  refine ⟨_,rfl,?_⟩
  refine AW.cut lo0 s0 [(0,vI n),(2,.slice none 0 0),(3,vS q0 0),(7,vB false)] ⟨rfl,rfl,rfl,rfl,trivial⟩ fun ρ0 => ?_
  obtain ⟨N,rfl⟩ : ∃ N : Nat,n = N := ⟨n.toNat,by omega⟩
  refine cxs ?_
  refine AW.cut lo0 s0 [(0,vI (N : Int)),(2,.slice none 0 0),(3,vS q0 0),(9,vI (N : Int)),(10,vI (0))] ⟨rfl,rfl,rfl,rfl,rfl,trivial⟩ fun ρ0 => ?_
  refine AW.loop0 (fun x : List RV × Option Addr => [(0,vI (N : Int)),(3,vS x.2 x.1.length),(9,vI (N : Int)),(10,vI (x.1.length : Int))]) (fun m (x : List RV × Option Addr) st' => m = N - x.1.length ∧ x.1.length ≤ N ∧ OwnP st' (pcT x.2 x.1) ∧ NewP st.next (pcT x.2 x.1) ∧ Pres st st' ∧ x.1.map (·.l) = List.replicate x.1.length zRow) ([],q0) _ ⟨rfl,rfl,rfl,rfl,trivial⟩ rfl ⟨rfl,Nat.zero_le _,OwnP.one (own_pc hO0),NewP.cons hN0 NewP.nil,hP0,rfl⟩ ?_
  rintro m x ρ0 st' ⟨rfl,hi,hO,hN,hP,hl⟩
  refine ⟨_,rfl,?_⟩
  rintro (_|_) h1
  ·replace h1 : ¬ ((x.1.length : Int) < (N : Int)) := of_decide_eq_false h1
   refine AW.cut lo0 st' [(0,vI (N : Int)),(3,vS x.2 x.1.length),(9,vI (N : Int)),(10,vI (x.1.length : Int)),(11,vB false)] ⟨rfl,rfl,rfl,rfl,rfl,trivial⟩ fun ρ0 => ?_
   refine cxs ?_
   refine cxs ?_
   have hil : x.1.length = N := by omega
   exact ⟨.inl rfl,_,rfl,x.2,x.1,rfl,hO,hN,hP,by rw [hl,hil,tnew,if_pos hx,Int.toNat_natCast]; rfl⟩
  ·replace h1 : (x.1.length : Int) < (N : Int) := of_decide_eq_true h1
   refine AW.cut lo0 st' [(0,vI (N : Int)),(3,vS x.2 x.1.length),(9,vI (N : Int)),(10,vI (x.1.length : Int)),(11,vB true)] ⟨rfl,rfl,rfl,rfl,rfl,trivial⟩ fun ρ0 => ?_
   have h1' := Int.ofNat_lt.1 h1
   refine cxs ?_
   refine op_mkK (z := 1) (f := fI) (a := (0 : Int)) (b := 8) (i := 5) rfl rfl rfl rfl rfl rfl rfl rfl rfl Nat.one_pos rfl rfl (Nat.le_of_ble_eq_true rfl) (Nat.le_of_ble_eq_true rfl) ?_
   intro q1 s1 hO1 hP1 hN1
   refine op_one (z := 1) (a := (⟨q1,zRow⟩ : RV)) (f := cRV) rfl rfl rfl rfl rfl Nat.one_pos rfl (Nat.le_of_ble_eq_true rfl) rfl rfl rfl ?_
   refine op_add (z := 1) (st := s1) (f := cRV) (b := 24) (l := x.1) rfl rfl rfl rfl rfl rfl rfl Nat.one_pos cRV_len rfl rfl rfl (by omega) (by unfold maxLen; omega) (hP1.ownR hO.outer) ?_
   intro q4 s4 hO4 hP4 hN4
   refine AW.cut lo0 s4 [(0,vI (N : Int)),(3,vS q4 (x.1.length + 1)),(9,vI (N : Int)),(10,vI (x.1.length : Int)),(11,vB true)] ⟨rfl,rfl,rfl,rfl,rfl,trivial⟩ fun ρ0 => ?_
   have hA := OwnP.renew (l := []) (m := x.1.map pcRV ++ [pcRV ⟨q1,zRow⟩]) (c := pcR 1 cRV x.2 x.1) (OwnP.join (l := pcT x.2 x.1) (m := [pcRV ⟨q1,zRow⟩]) hO hP1 (OwnP.one (own_pc hO1)) (NewP.cons hN1 NewP.nil)) hP4 (own_pc hO4) hN4
   have hA : OwnP s4 (pcT q4 (x.1 ++ [⟨q1,zRow⟩])) := by simpa [pcT] using hA
   have e16 : IntKind.wrap .i64 ((x.1.length : Int) + 1) = ((x.1.length + 1 : Nat) : Int) := (wrap_i64 (by omega) (by omega)).trans (by omega)
   refine ⟨_,rfl,?_⟩
   refine ⟨(x.1 ++ [⟨q1,zRow⟩],q4),N - (x.1.length + 1),by omega,⟨rfl,?_,rfl,?_,trivial⟩,rfl,?_,?_,hA,?_,?_,?_⟩
   ·rw [List.length_append]; rfl
   ·rw [List.length_append]; exact congrArg (Value.int .i64) e16
   ·rw [List.length_append]; rfl
   ·rw [List.length_append]; exact h1'
   ·refine NewP.cons (hN4.le (Nat.le_trans hP.1 hP1.1)) ?_
    rw [List.map_append]
    exact NewP.app (fun c hc => hN c (List.mem_cons_of_mem _ hc)) (NewP.cons (hN1.le hP.1) NewP.nil)
   ·exact hP4.pres (hP.trans hP1) (hN _ (List.mem_cons_self ..))
   ·rw [List.map_append,hl,List.length_append,List.length_singleton,List.replicate_succ']; rfl
def cntT (t : List RV) : Nat := (t.map fun r => r.l.length).sum
theorem split_at {α : Type} {l : List α} {i : Nat} {x : α} (h : l[i]? = some x) : l = l.take i ++ x :: l.drop (i + 1) ∧ l.take (i + 1) = l.take i ++ [x] ∧ l.drop i = x :: l.drop (i + 1) := by
 obtain ⟨hi,hx⟩ := List.getElem?_eq_some_iff.1 h
 have h3 : l.drop i = x :: l.drop (i + 1) := by rw [List.drop_eq_getElem_cons hi,hx]
 refine ⟨?_,?_,h3⟩
 ·rw [← h3,List.take_append_drop]
 ·rw [List.take_add_one,h]; rfl
theorem tnew_len (n : Int) : (tnew n).length ≤ 5 ∧ ∀ l ∈ tnew n,l.length = 5 := by
 unfold tnew
 split
 ·refine ⟨by rw [List.length_replicate]; omega,fun l hl => ?_⟩
  rw [(List.mem_replicate.1 hl).2]; rfl
 ·exact ⟨by simp,fun l hl => by cases hl⟩
theorem tnew_rows {t : List RV} {n : Int} (h : t.map (·.l) = tnew n) : t.length ≤ 5 ∧ (∀ r ∈ t,r.l.length = 5) ∧ cntT t ≤ 25 := by
 obtain ⟨h1,h2⟩ := tnew_len n
 have h3 : t.length ≤ 5 := by rw [← h,List.length_map] at h1; exact h1
 have h4 : ∀ r ∈ t,r.l.length = 5 := fun r hr => h2 r.l (by rw [← h]; exact List.mem_map_of_mem hr)
 refine ⟨h3,h4,?_⟩
 have : ∀ t : List RV,(∀ r ∈ t,r.l.length = 5) → cntT t = 5 * t.length := by
  intro t
  induction t with
  | nil => intro _; rfl
  | cons r t ih =>
   intro h
   have h5 := ih fun r hr => h r (List.mem_cons_of_mem _ hr)
   have h6 := h r (List.mem_cons_self ..)
   simp [cntT] at h5 ⊢
   omega
 have := this t h4
 omega
def commonGo (id : Int) : List (List Int) → Bool → Int → Int
 | [],_,v => v
 | r :: t,b,v => if 0 ≤ id ∧ id ≤ (r.length : Int) - 1 then (if b = true ∨ r.getD id.toNat 0 < v then commonGo id t false (r.getD id.toNat 0) else commonGo id t false v) else 0
def common (t : List (List Int)) (id : Int) : Int := commonGo id t true 0
theorem getD_of {l : List Int} {i : Nat} {x : Int} (h : l[i]? = some x) : l.getD i 0 = x := by rw [List.getD_eq_getElem?_getD,h]; rfl
theorem ac_impl_Common (p : Option Addr) (t : List RV) (id : Int) (st : St) (hR : RdT st p t) (hs : szOk t.length) (hr : ∀ r ∈ t,szOk r.l.length) : C 18 [vS p t.length,vI id] st (fun v s => v = vI (common (t.map (·.l)) id) ∧ s = st) := by
 have hs : t.length ≤ 1048576 := hs
 refine AC.enterX (i := ⟨[],[],[0,1,4,5,6,7,8,9,10,11,20,30],[]⟩) [] Try.func18 rfl rfl (by kernel_rfl) (by kernel_rfl) Try.ntmps18 (Nat.le_of_ble_eq_true rfl) rfl ?_
 refine cxs ?_
 refine AW.cut lo0 st [(0,vS p t.length),(1,vI id),(4,vI (0)),(5,vI (0))] ⟨rfl,rfl,rfl,rfl,trivial⟩ fun ρ0 => ?_
 refine ⟨_,rfl,?_⟩
 refine AW.cut lo0 st [(0,vS p t.length),(1,vI id),(4,vI (0)),(5,vI (0)),(8,vS p t.length),(9,vI (t.length)),(10,vI (0))] ⟨rfl,rfl,rfl,rfl,rfl,rfl,rfl,trivial⟩ fun ρ0 => ?_
 refine AW.loop0 (fun x : Nat × Int => [(0,vS p t.length),(1,vI id),(5,vI x.2),(8,vS p t.length),(9,vI (t.length : Int)),(10,vI (x.1 : Int))]) (fun m (x : Nat × Int) st' => m = t.length - x.1 ∧ x.1 ≤ t.length ∧ common (t.map (·.l)) id = commonGo id ((t.drop x.1).map (·.l)) (decide (x.1 = 0)) x.2 ∧ st = st') (0,0) _ ⟨rfl,rfl,rfl,rfl,rfl,rfl,trivial⟩ rfl ⟨rfl,Nat.zero_le _,rfl,rfl⟩ ?_
 rintro m x ρ0 st' ⟨rfl,hi,hc,rfl⟩
 refine ⟨_,rfl,?_⟩
 rintro (_|_) h1
 ·replace h1 : ¬ ((x.1 : Int) < (t.length : Int)) := of_decide_eq_false h1
  refine AW.cut lo0 st [(0,vS p t.length),(1,vI id),(5,vI x.2),(8,vS p t.length),(9,vI (t.length : Int)),(10,vI (x.1 : Int)),(11,vB false)] ⟨rfl,rfl,rfl,rfl,rfl,rfl,rfl,trivial⟩ fun ρ0 => ?_
  refine cxs ?_
  refine cxs ?_
  have hil : x.1 = t.length := by omega
  rw [hil,List.drop_length] at hc
  exact ⟨.inl rfl,_,rfl,congrArg vI hc.symm,rfl⟩
 ·replace h1 : (x.1 : Int) < (t.length : Int) := of_decide_eq_true h1
  refine AW.cut lo0 st [(0,vS p t.length),(1,vI id),(5,vI x.2),(8,vS p t.length),(9,vI (t.length : Int)),(10,vI (x.1 : Int)),(11,vB true)] ⟨rfl,rfl,rfl,rfl,rfl,rfl,rfl,trivial⟩ fun ρ0 => ?_
  have h1' := Int.ofNat_lt.1 h1
  have ⟨b1,o1,k1,r,hpe,hr1,hm1,hc1,hb1⟩ := hR.1.atB h1'
  have hmem := List.mem_of_getElem? hr1
  have hrs : r.l.length ≤ 1048576 := hr r hmem
  obtain ⟨d1,d2,d3⟩ := split_at hr1
  rw [d3,List.map_cons,commonGo] at hc
  have e18 : IntKind.wrap .i64 ((r.l.length : Int) - 1) = (r.l.length : Int) - 1 := wrap_i64 (by omega) (by omega)
  refine cxs ?_
  refine ⟨_,op_idx (j := (x.1 : Int)) (n := t.length) (q := ⟨b1,o1,none⟩) rfl (congrArg (fun u => vS u t.length) hpe) rfl rfl rfl (Int.natCast_nonneg _) h1,?_⟩
  refine ⟨_,op_ldc (i := 0) (v := vS r.p r.l.length) rfl rfl rfl rfl hm1 hc1 rfl rfl,?_⟩
  refine AW.cut lo0 st [(0,vS p t.length),(1,vI id),(5,vI x.2),(6,vI (x.1 : Int)),(7,vS r.p r.l.length),(8,vS p t.length),(9,vI (t.length : Int)),(10,vI (x.1 : Int)),(11,vB true)] ⟨rfl,rfl,rfl,rfl,rfl,rfl,rfl,rfl,rfl,trivial⟩ fun ρ0 => ?_
  iterate 2 refine ⟨_,rfl,?_⟩
  refine ⟨_,rfl,(ac_impl_within id 0 _ st).mono ?_⟩
  rintro _ st ⟨y,rfl,hy,rfl⟩
  rcases y with _|_
  ·replace hy := of_decide_eq_false hy.symm
   refine ⟨_,rfl,?_⟩
   refine AW.cut lo0 st [(0,vS p t.length),(1,vI id),(5,vI x.2),(6,vI (x.1 : Int)),(7,vS r.p r.l.length),(8,vS p t.length),(9,vI (t.length : Int)),(10,vI (x.1 : Int)),(11,vB true),(20,vB true)] ⟨rfl,rfl,rfl,rfl,rfl,rfl,rfl,rfl,rfl,rfl,trivial⟩ fun ρ0 => ?_
   replace hy : ¬ (0 ≤ id ∧ id ≤ (r.l.length : Int) - 1) := fun h => hy (by rw [e18]; exact h)
   rw [if_neg hy] at hc
   refine cxs ?_
   exact ⟨.inl rfl,_,rfl,congrArg vI hc.symm,rfl⟩
  ·replace hy := of_decide_eq_true hy.symm
   refine ⟨_,rfl,?_⟩
   refine AW.cut lo0 st [(0,vS p t.length),(1,vI id),(5,vI x.2),(6,vI (x.1 : Int)),(7,vS r.p r.l.length),(8,vS p t.length),(9,vI (t.length : Int)),(10,vI (x.1 : Int)),(11,vB true),(20,vB false)] ⟨rfl,rfl,rfl,rfl,rfl,rfl,rfl,rfl,rfl,rfl,trivial⟩ fun ρ0 => ?_
   replace hy : 0 ≤ id ∧ id ≤ IntKind.wrap .i64 ((r.l.length : Int) - 1) := hy
   rw [e18] at hy
   rw [if_pos hy] at hc
   have ⟨b2,o2,k2,z,hqe,hz,hm2,hc2,hb2⟩ := (hR.2 r hmem).atB (j := id.toNat) (by omega)
   rw [getD_of hz] at hc
   refine cxs ?_
   refine ⟨_,rfl,?_⟩
   rintro (_|_) h2
   ·replace h2 : ¬ ((x.1 : Int) = 0) := beq_eq_false_iff_ne.1 h2
    refine ⟨_,op_idx (j := id) (n := r.l.length) (q := ⟨b2,o2,none⟩) rfl (congrArg (fun u => vS u r.l.length) hqe) rfl rfl rfl hy.1 (by omega),?_⟩
    refine ⟨_,op_ldc (i := 0) (v := vI z) rfl rfl rfl rfl hm2 hc2 rfl rfl,?_⟩
    refine ⟨_,rfl,?_⟩
    rintro (_|_) h3
    ·replace h3 : ¬ (z < x.2) := of_decide_eq_false h3
     refine ⟨_,rfl,?_⟩
     refine AW.cut lo0 st [(0,vS p t.length),(1,vI id),(5,vI x.2),(6,vI (x.1 : Int)),(7,vS r.p r.l.length),(8,vS p t.length),(9,vI (t.length : Int)),(10,vI (x.1 : Int)),(11,vB true),(20,vB false),(30,vB false)] ⟨rfl,rfl,rfl,rfl,rfl,rfl,rfl,rfl,rfl,rfl,rfl,trivial⟩ fun ρ0 => ?_
     refine cxs ?_
     have e35 : IntKind.wrap .i64 ((x.1 : Int) + 1) = ((x.1 + 1 : Nat) : Int) := (wrap_i64 (by omega) (by omega)).trans (by omega)
     refine ⟨_,rfl,?_⟩
     exact ⟨(x.1 + 1,x.2),t.length - (x.1 + 1),by omega,⟨rfl,rfl,rfl,rfl,rfl,congrArg (Value.int .i64) e35,trivial⟩,rfl,rfl,h1',by rw [if_neg (fun h => by rcases h with h | h; exact absurd (of_decide_eq_true h) (by omega); exact h3 h)] at hc; exact hc,rfl⟩
    ·replace h3 : z < x.2 := of_decide_eq_true h3
     refine ⟨_,rfl,?_⟩
     refine AW.cut lo0 st [(0,vS p t.length),(1,vI id),(5,vI x.2),(6,vI (x.1 : Int)),(7,vS r.p r.l.length),(8,vS p t.length),(9,vI (t.length : Int)),(10,vI (x.1 : Int)),(11,vB true),(20,vB false),(30,vB true)] ⟨rfl,rfl,rfl,rfl,rfl,rfl,rfl,rfl,rfl,rfl,rfl,trivial⟩ fun ρ0 => ?_
     refine ⟨_,op_idx (j := id) (n := r.l.length) (q := ⟨b2,o2,none⟩) rfl (congrArg (fun u => vS u r.l.length) hqe) rfl rfl rfl hy.1 (by omega),?_⟩
     refine ⟨_,op_ldc (i := 0) (v := vI z) rfl rfl rfl rfl hm2 hc2 rfl rfl,?_⟩
     refine AW.cut lo0 st [(0,vS p t.length),(1,vI id),(5,vI z),(6,vI (x.1 : Int)),(7,vS r.p r.l.length),(8,vS p t.length),(9,vI (t.length : Int)),(10,vI (x.1 : Int)),(11,vB true),(20,vB false),(30,vB true)] ⟨rfl,rfl,rfl,rfl,rfl,rfl,rfl,rfl,rfl,rfl,rfl,trivial⟩ fun ρ0 => ?_
     have e35 : IntKind.wrap .i64 ((x.1 : Int) + 1) = ((x.1 + 1 : Nat) : Int) := (wrap_i64 (by omega) (by omega)).trans (by omega)
     refine ⟨_,rfl,?_⟩
     exact ⟨(x.1 + 1,z),t.length - (x.1 + 1),by omega,⟨rfl,rfl,rfl,rfl,rfl,congrArg (Value.int .i64) e35,trivial⟩,rfl,rfl,h1',by rw [if_pos (.inr h3)] at hc; exact hc,rfl⟩
   ·replace h2 : (x.1 : Int) = 0 := beq_iff_eq.1 h2
    refine ⟨_,rfl,?_⟩
    refine AW.cut lo0 st [(0,vS p t.length),(1,vI id),(5,vI x.2),(6,vI (x.1 : Int)),(7,vS r.p r.l.length),(8,vS p t.length),(9,vI (t.length : Int)),(10,vI (x.1 : Int)),(11,vB true),(20,vB false),(30,vB true)] ⟨rfl,rfl,rfl,rfl,rfl,rfl,rfl,rfl,rfl,rfl,rfl,trivial⟩ fun ρ0 => ?_
    refine ⟨_,op_idx (j := id) (n := r.l.length) (q := ⟨b2,o2,none⟩) rfl (congrArg (fun u => vS u r.l.length) hqe) rfl rfl rfl hy.1 (by omega),?_⟩
    refine ⟨_,op_ldc (i := 0) (v := vI z) rfl rfl rfl rfl hm2 hc2 rfl rfl,?_⟩
    refine AW.cut lo0 st [(0,vS p t.length),(1,vI id),(5,vI z),(6,vI (x.1 : Int)),(7,vS r.p r.l.length),(8,vS p t.length),(9,vI (t.length : Int)),(10,vI (x.1 : Int)),(11,vB true),(20,vB false),(30,vB true)] ⟨rfl,rfl,rfl,rfl,rfl,rfl,rfl,rfl,rfl,rfl,rfl,trivial⟩ fun ρ0 => ?_
    have e35 : IntKind.wrap .i64 ((x.1 : Int) + 1) = ((x.1 + 1 : Nat) : Int) := (wrap_i64 (by omega) (by omega)).trans (by omega)
    refine ⟨_,rfl,?_⟩
    exact ⟨(x.1 + 1,z),t.length - (x.1 + 1),by omega,⟨rfl,rfl,rfl,rfl,rfl,congrArg (Value.int .i64) e35,trivial⟩,rfl,rfl,h1',by rw [if_pos (.inl (decide_eq_true (by omega)))] at hc; exact hc,rfl⟩
theorem goneAt_le {s : Sta} (h : stateOk s) (id : Int) : 0 ≤ goneAt s id ∧ goneAt s id ≤ 1000 := by
 rw [goneAt,if_pos h]
 rcases hb : entP s.items id with ⟨e,b⟩
 cases b with
 | false => simpa using floorOf_pos h.2 id
 | true =>
  have he := (ent_ok h hb.symm).1
  simp only [if_true]
  split <;> omega
theorem marksOk_F {g : Int → Int} (h : ∀ i,g i ≤ 1000) : marksOk (marksF g 5) := by
 intro j x hx
 have hx' : ((List.range 5).filterMap fun (j : Nat) => if g (j : Int) > 0 then some (⟨(j : Int),g (j : Int)⟩ : Flr) else none)[j]? = some x := hx
 obtain ⟨k,hk,hf⟩ := pick_get hx'
 split at hf
 ·rename_i hp
  injection hf with hf
  have h1 := h (k : Int)
  rw [← hf]
  refine ⟨⟨by simp only; omega,by simp only; omega⟩,⟨by simp only; omega,h1⟩,fun y h0 hy => ?_⟩
  have := pick_lt (id := Flr.id) (fun j x hx => by
   split at hx
   ·injection hx with hx; rw [← hx]
   ·cases hx) hx' h0 hy
  rw [← hf] at this
  exact this
 ·cases hf
theorem stateOk_floors {l : List Flr} (h : marksOk l) : stateOk ⟨[],l⟩ := ⟨fun j x hx => (nomatch hx),h⟩
theorem ac_spec_l1Min (a b : Int) (st : St) : C 184 [vI a,vI b] st (fun v s => v = vI (min a b) ∧ s = st) := by
 refine AC.enterX (i := ⟨[],[],[0,1,4,7],[]⟩) [] Try.func184 rfl rfl (by kernel_rfl) (by kernel_rfl) Try.ntmps184 (Nat.le_of_ble_eq_true rfl) rfl ?_
 refine AW.cut lo0 st [(0,vI a),(1,vI b),(4,vI (0))] ⟨rfl,rfl,rfl,trivial⟩ fun ρ0 => ?_
 refine ⟨_,rfl,?_⟩
 rintro (_|_) h7
 ·replace h7 : ¬ (a < b) := of_decide_eq_false h7
  refine AW.cut lo0 st [(0,vI a),(1,vI b),(4,vI (0)),(7,vB false)] ⟨rfl,rfl,rfl,rfl,trivial⟩ fun ρ0 => ?_
  refine cxs ?_
  refine cxs ?_
  exact ⟨.inl rfl,_,rfl,congrArg vI (by omega),rfl⟩
 ·replace h7 : a < b := of_decide_eq_true h7
  refine AW.cut lo0 st [(0,vI a),(1,vI b),(4,vI (0)),(7,vB true)] ⟨rfl,rfl,rfl,rfl,trivial⟩ fun ρ0 => ?_
  refine cxs ?_
  exact ⟨.inl rfl,_,rfl,congrArg vI (by omega),rfl⟩
end Go.Proofs.Yteabadoaeadcgaa.AM
