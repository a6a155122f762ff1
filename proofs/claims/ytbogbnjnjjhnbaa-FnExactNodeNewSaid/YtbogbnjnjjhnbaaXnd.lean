/- Part 4 of the texts on which the law's proof rests. -/
import Derived.Test.YtbogbnjnjjhnbaaXnc
namespace Go.Proofs.Ytbogbnjnjjhnbaa.AM
open Go Go.Proofs
set_option linter.unusedVariables false
set_option linter.unusedSimpArgs false
set_option maxRecDepth 100000
set_option maxHeartbeats 4000000
theorem uc_eqNode (a b : NW) (st : St) (hA : RdN st a.v) (hB : RdN st b.v) (hb : bigN a.x) : C 30 [.agg #[vI a.id,vI a.n,vS a.s.p a.s.x.items.length,vS a.s.q a.s.x.floors.length,vS a.t.p a.t.l.length,vI a.t.root,vI a.g.cap,vI a.g.frm,vS a.g.p a.g.l.length,vS a.got.p a.got.l.length,vS a.acked.p a.acked.l.length,vS a.seen.p a.seen.t.length,vI a.num,vI a.slots,vS a.sess.p a.sess.l.length,vI a.wait,vI a.limit,vI a.clock,vS a.rises.p a.rises.l.length],.agg #[vI b.id,vI b.n,vS b.s.p b.s.x.items.length,vS b.s.q b.s.x.floors.length,vS b.t.p b.t.l.length,vI b.t.root,vI b.g.cap,vI b.g.frm,vS b.g.p b.g.l.length,vS b.got.p b.got.l.length,vS b.acked.p b.acked.l.length,vS b.seen.p b.seen.t.length,vI b.num,vI b.slots,vS b.sess.p b.sess.l.length,vI b.wait,vI b.limit,vI b.clock,vS b.rises.p b.rises.l.length]] st (fun v s => ∃ x,v = .bool x ∧ (x = true ↔ a.x = b.x) ∧ s = st) := ac_laws_eqNode a.v b.v st hA hB hb
def slotF : List Ses → Int → Bool → Nat → Int
 | [],_,_,_ => -1
 | x :: l,p,b,k => if x.peer = p ∧ x.inn = b then (k : Int) else slotF l p b (k + 1)
theorem ac_impl_Slot (g : NV) (p : Int) (b : Bool) (st : St) (hR : RdN st g) (hb : bigN g.x) : C 158 [.agg #[vI g.id,vI g.n,vS g.s.p g.s.x.items.length,vS g.s.q g.s.x.floors.length,vS g.t.p g.t.l.length,vI g.t.root,vI g.g.cap,vI g.g.frm,vS g.g.p g.g.l.length,vS g.got.p g.got.l.length,vS g.acked.p g.acked.l.length,vS g.seen.p g.seen.t.length,vI g.num,vI g.slots,vS g.sess.p g.sess.l.length,vI g.wait,vI g.limit,vI g.clock,vS g.rises.p g.rises.l.length],vI p,vB b] st (fun v s => v = vI (slotF g.sess.l p b 0) ∧ s = st) := by
 have hs : g.sess.l.length ≤ 1048576 := hb.sess
 refine AC.enterX (i := ⟨[3,8],[3,8,9,17,22],[0,1,2,3,6,7,8,10,11,12,13,26],[]⟩) [] Try.func158 rfl rfl (by kernel_rfl) (by kernel_rfl) Try.ntmps158 (Nat.le_of_ble_eq_true rfl) rfl ?_
 refine ⟨_,rfl,?_⟩
 refine AW.cutM (1) st [(1,vI p),(2,vB b),(3,vL 3 0 (0)),(6,vI (0))] [(3,0,cNV g)] ⟨rfl,rfl,rfl,rfl,trivial⟩ ⟨rfl,trivial⟩ rfl fun ρ0 ff => ?_
 refine ⟨_,rfl,?_⟩
 refine ⟨_,op_ldo rfl rfl rfl rfl,?_⟩
 refine ⟨_,rfl,?_⟩
 refine AW.cutM (1) st [(1,vI p),(2,vB b),(6,vI (0)),(10,vS g.sess.p g.sess.l.length),(11,vI (g.sess.l.length : Int)),(12,vI (0))] [] ⟨rfl,rfl,rfl,rfl,rfl,rfl,trivial⟩ trivial rfl fun ρ0 ff => ?_
 refine AW.loopM (fun i : Nat => [(1,vI p),(2,vB b),(10,vS g.sess.p g.sess.l.length),(11,vI (g.sess.l.length : Int)),(12,vI (i : Int))]) (fun i : Nat => []) (fun m (i : Nat) st' => m = g.sess.l.length - i ∧ i ≤ g.sess.l.length ∧ slotF g.sess.l p b 0 = slotF (g.sess.l.drop i) p b i ∧ st = st') 0 _ ⟨rfl,rfl,rfl,rfl,rfl,trivial⟩ trivial ⟨rfl,Nat.zero_le _,rfl,rfl⟩ ?_
 rintro m i ρ0 ff gg st' ⟨rfl,hi,hf,rfl⟩
 refine ⟨_,rfl,?_⟩
 rintro (_|_) h13
 ·replace h13 : ¬ ((i : Int) < (g.sess.l.length : Int)) := of_decide_eq_false h13
  refine AW.cutM (gg) st [(1,vI p),(2,vB b),(10,vS g.sess.p g.sess.l.length),(11,vI (g.sess.l.length : Int)),(12,vI (i : Int)),(13,vB false)] [] ⟨rfl,rfl,rfl,rfl,rfl,rfl,trivial⟩ trivial rfl fun ρ0 ff => ?_
  refine cxs ?_
  refine cxs ?_
  have hil : i = g.sess.l.length := by omega
  exact ⟨.inl rfl,_,rfl,congrArg vI (by rw [hf,hil,List.drop_length]; rfl),rfl⟩
 ·replace h13 : (i : Int) < (g.sess.l.length : Int) := of_decide_eq_true h13
  refine AW.cutM (gg) st [(1,vI p),(2,vB b),(10,vS g.sess.p g.sess.l.length),(11,vI (g.sess.l.length : Int)),(12,vI (i : Int)),(13,vB true)] [] ⟨rfl,rfl,rfl,rfl,rfl,rfl,trivial⟩ trivial rfl fun ρ0 ff => ?_
  refine cxs ?_
  refine op_at i hR.sess (by omega) rfl rfl rfl rfl rfl rfl rfl ?_
  intro x15 b15 d15 k15 hy15 hb15 hm15 hc15 ho15
  refine ⟨_,op_lda rfl rfl rfl rfl rfl hm15 hc15 rfl,?_⟩
  refine ⟨_,rfl,?_⟩
  refine ⟨_,op_sto rfl rfl rfl rfl rfl rfl rfl,?_⟩
  refine AW.cutM (gg + 1) st [(1,vI p),(2,vB b),(7,vI (i : Int)),(8,vL 8 0 (gg)),(10,vS g.sess.p g.sess.l.length),(11,vI (g.sess.l.length : Int)),(12,vI (i : Int)),(13,vB true)] [(8,gg,[vI x15.peer,vI x15.num,vB x15.inn,vI x15.age])] ⟨rfl,rfl,rfl,rfl,rfl,rfl,rfl,rfl,trivial⟩ ⟨rfl,trivial⟩ rfl fun ρ0 ff => ?_
  rw [(split_at' hy15).2.2,slotF] at hf
  refine ⟨_,rfl,?_⟩
  refine ⟨_,op_ldo rfl rfl rfl rfl,?_⟩
  refine ⟨_,rfl,?_⟩
  rintro (_|_) h20
  ·replace h20 : ¬ (x15.peer = p) := beq_eq_false_iff_ne.1 h20
   refine ⟨_,rfl,?_⟩
   refine AW.cutM (gg + 1) st [(1,vI p),(2,vB b),(7,vI (i : Int)),(8,vL 8 0 (gg)),(10,vS g.sess.p g.sess.l.length),(11,vI (g.sess.l.length : Int)),(12,vI (i : Int)),(13,vB true),(26,vB false)] [(8,gg,[vI x15.peer,vI x15.num,vB x15.inn,vI x15.age])] ⟨rfl,rfl,rfl,rfl,rfl,rfl,rfl,rfl,rfl,trivial⟩ ⟨rfl,trivial⟩ rfl fun ρ0 ff => ?_
   have hno : ¬ (x15.peer = p ∧ x15.inn = b) := fun h => h20 h.1
   refine cxs ?_
   have ew28 : IntKind.wrap .i64 ((i : Int) + (1)) = ((i + 1 : Nat) : Int) := (wrap_i64 (by omega) (by omega)).trans (by omega)
   refine ⟨_,rfl,?_⟩
   exact ⟨i + 1,g.sess.l.length - (i + 1),by omega,⟨rfl,rfl,rfl,rfl,congrArg (Value.int .i64) ew28,trivial⟩,trivial,rfl,by omega,by rw [hf,if_neg hno],rfl⟩
  ·replace h20 : x15.peer = p := beq_iff_eq.1 h20
   refine ⟨_,rfl,?_⟩
   refine ⟨_,op_ldo rfl rfl rfl rfl,?_⟩
   refine ⟨_,rfl,?_⟩
   rintro (_|_) h25
   ·replace h25 : ¬ (x15.inn = b) := beq_eq_false_iff_ne.1 h25
    refine ⟨_,rfl,?_⟩
    refine AW.cutM (gg + 1) st [(1,vI p),(2,vB b),(7,vI (i : Int)),(8,vL 8 0 (gg)),(10,vS g.sess.p g.sess.l.length),(11,vI (g.sess.l.length : Int)),(12,vI (i : Int)),(13,vB true),(26,vB false)] [(8,gg,[vI x15.peer,vI x15.num,vB x15.inn,vI x15.age])] ⟨rfl,rfl,rfl,rfl,rfl,rfl,rfl,rfl,rfl,trivial⟩ ⟨rfl,trivial⟩ rfl fun ρ0 ff => ?_
    have hno : ¬ (x15.peer = p ∧ x15.inn = b) := fun h => h25 h.2
    refine cxs ?_
    have ew28 : IntKind.wrap .i64 ((i : Int) + (1)) = ((i + 1 : Nat) : Int) := (wrap_i64 (by omega) (by omega)).trans (by omega)
    refine ⟨_,rfl,?_⟩
    exact ⟨i + 1,g.sess.l.length - (i + 1),by omega,⟨rfl,rfl,rfl,rfl,congrArg (Value.int .i64) ew28,trivial⟩,trivial,rfl,by omega,by rw [hf,if_neg hno],rfl⟩
   ·replace h25 : x15.inn = b := beq_iff_eq.1 h25
    refine ⟨_,rfl,?_⟩
    refine AW.cutM (gg + 1) st [(1,vI p),(2,vB b),(7,vI (i : Int)),(8,vL 8 0 (gg)),(10,vS g.sess.p g.sess.l.length),(11,vI (g.sess.l.length : Int)),(12,vI (i : Int)),(13,vB true),(26,vB true)] [(8,gg,[vI x15.peer,vI x15.num,vB x15.inn,vI x15.age])] ⟨rfl,rfl,rfl,rfl,rfl,rfl,rfl,rfl,rfl,trivial⟩ ⟨rfl,trivial⟩ rfl fun ρ0 ff => ?_
    refine cxs ?_
    exact ⟨.inl rfl,_,rfl,congrArg vI (by rw [hf,if_pos ⟨h20,h25⟩]),rfl⟩
def rowOk (l : List Int) : Prop := l.length = 5 ∧ ∀ (j : Nat) x,l[j]? = some x → 0 ≤ x ∧ x ≤ 1000
def tableOk (t : List (List Int)) (n : Int) : Prop := (1 ≤ n ∧ n ≤ 5) ∧ (t.length : Int) = n ∧ ∀ l ∈ t,rowOk l
theorem rows_of {t : List RV} {n : Int} (h : tableOk (t.map (·.l)) n) {i : Nat} {r : RV} (hr : t[i]? = some r) : rowOk r.l := h.2.2 _ (List.mem_map_of_mem (List.mem_of_getElem? hr))
theorem rows_to {t : List RV} (h : ∀ (j : Nat) r,t[j]? = some r → rowOk r.l) : ∀ l ∈ t.map (·.l),rowOk l := fun l hl => by
 obtain ⟨r,hr,rfl⟩ := List.mem_map.1 hl
 obtain ⟨i,hi⟩ := List.getElem?_of_mem hr
 exact h i r hi
theorem ac_spec_TableOk (p : Option Addr) (t : List RV) (n : Int) (st : St) (hR : RdT st p t) (hs : szOk t.length) (hr : ∀ r ∈ t,szOk r.l.length) : C 88 [vS p t.length,vI n] st (fun v s => ∃ x,v = .bool x ∧ (x = true ↔ tableOk (t.map (·.l)) n) ∧ s = st) := by
 have hs : t.length ≤ 1048576 := hs
 refine AC.enterX (i := ⟨[],[],[0,1,4,5,6,15,18,26,33,44],[]⟩) [] Try.func88 rfl rfl (by kernel_rfl) (by kernel_rfl) Try.ntmps88 (Nat.le_of_ble_eq_true rfl) rfl ?_
 refine AW.cut lo0 st [(0,vS p t.length),(1,vI n),(4,vB false)] ⟨rfl,rfl,rfl,trivial⟩ fun ρ0 => ?_
 refine ⟨_,rfl,(ac_spec_l1In n 1 5 st).mono ?_⟩
 rintro _ st ⟨y,rfl,hy,rfl⟩
 rcases y with _|_
 ·replace hy := of_decide_eq_false hy.symm
  iterate 2 refine ⟨_,rfl,?_⟩
  refine AW.cut lo0 st [(0,vS p t.length),(1,vI n),(4,vB false),(15,vB true)] ⟨rfl,rfl,rfl,rfl,trivial⟩ fun ρ0 => ?_
  refine cxs ?_
  exact ⟨.inl rfl,_,rfl,false,rfl,⟨fun h => absurd h Bool.false_ne_true,fun h => absurd h.1 hy⟩,rfl⟩
 ·replace hy := of_decide_eq_true hy.symm
  iterate 3 refine ⟨_,rfl,?_⟩
  rintro (_|_) h0
  ·replace h0 : (t.length : Int) = n := bne_eq_false_iff_eq.1 h0
   refine ⟨_,rfl,?_⟩
   refine AW.cut lo0 st [(0,vS p t.length),(1,vI n),(4,vB false),(15,vB false)] ⟨rfl,rfl,rfl,rfl,trivial⟩ fun ρ0 => ?_
   refine cxs ?_
   refine AW.cut lo0 st [(0,vS p t.length),(1,vI n),(4,vB false),(5,vI (0))] ⟨rfl,rfl,rfl,rfl,trivial⟩ fun ρ0 => ?_
   refine AW.loop0 (fun i : Nat => [(0,vS p t.length),(1,vI n),(5,vI (i : Int))]) (fun m (i : Nat) st' => m = t.length - i ∧ i ≤ t.length ∧ (∀ (j : Nat) r,j < i → t[j]? = some r → rowOk r.l) ∧ st = st') 0 _ ⟨rfl,rfl,rfl,trivial⟩ rfl ⟨rfl,Nat.zero_le _,fun j r h => absurd h (Nat.not_lt_zero _),rfl⟩ ?_
   rintro m i ρ0 st' ⟨rfl,hi,hok,rfl⟩
   refine ⟨_,rfl,?_⟩
   rintro (_|_) h1
   ·replace h1 : ¬ ((i : Int) < n) := of_decide_eq_false h1
    refine AW.cut lo0 st [(0,vS p t.length),(1,vI n),(5,vI (i : Int)),(18,vB false)] ⟨rfl,rfl,rfl,rfl,trivial⟩ fun ρ0 => ?_
    refine cxs ?_
    refine cxs ?_
    exact ⟨.inl rfl,_,rfl,true,rfl,⟨fun _ => ⟨hy,by rw [List.length_map]; exact h0,rows_to fun j r hr => hok j r (by have := (List.getElem?_eq_some_iff.1 hr).1; omega) hr⟩,fun _ => rfl⟩,rfl⟩
   ·replace h1 : (i : Int) < n := of_decide_eq_true h1
    refine AW.cut lo0 st [(0,vS p t.length),(1,vI n),(5,vI (i : Int)),(18,vB true)] ⟨rfl,rfl,rfl,rfl,trivial⟩ fun ρ0 => ?_
    have h1' : i < t.length := by omega
    have ⟨b1,o1,k1,r,hpe,hr1,hm1,hc1⟩ := hR.1.at h1'
    have hmem := List.mem_of_getElem? hr1
    have hrs : r.l.length ≤ 1048576 := hr r hmem
    refine cxs ?_
    refine ⟨_,op_idx (j := (i : Int)) (n := t.length) (q := ⟨b1,o1,none⟩) rfl (congrArg (fun u => vS u t.length) hpe) rfl rfl rfl (Int.natCast_nonneg _) (Int.ofNat_lt.2 h1'),?_⟩
    refine ⟨_,op_ldc (i := 0) (v := vS r.p r.l.length) rfl rfl rfl rfl hm1 hc1 rfl rfl,?_⟩
    iterate 2 refine ⟨_,rfl,?_⟩
    rintro (_|_) h2
    ·replace h2 : (r.l.length : Int) = 5 := bne_eq_false_iff_eq.1 h2
     refine AW.cut lo0 st [(0,vS p t.length),(1,vI n),(5,vI (i : Int)),(18,vB true),(26,vB false)] ⟨rfl,rfl,rfl,rfl,rfl,trivial⟩ fun ρ0 => ?_
     refine cxs ?_
     refine AW.cut lo0 st [(0,vS p t.length),(1,vI n),(5,vI (i : Int)),(6,vI (0)),(18,vB true),(26,vB false)] ⟨rfl,rfl,rfl,rfl,rfl,rfl,trivial⟩ fun ρ0 => ?_
     refine AW.loop0 (fun j : Nat => [(0,vS p t.length),(1,vI n),(5,vI (i : Int)),(6,vI (j : Int))]) (fun m (j : Nat) st' => m = r.l.length - j ∧ j ≤ r.l.length ∧ (∀ (u : Nat) x,u < j → r.l[u]? = some x → 0 ≤ x ∧ x ≤ 1000) ∧ st = st') 0 _ ⟨rfl,rfl,rfl,rfl,trivial⟩ rfl ⟨rfl,Nat.zero_le _,fun u x h => absurd h (Nat.not_lt_zero _),rfl⟩ ?_
     rintro m j ρ0 st' ⟨rfl,hj,hel,rfl⟩
     refine ⟨_,op_idx (j := (i : Int)) (n := t.length) (q := ⟨b1,o1,none⟩) rfl (congrArg (fun u => vS u t.length) hpe) rfl rfl rfl (Int.natCast_nonneg _) (Int.ofNat_lt.2 h1'),?_⟩
     refine ⟨_,op_ldc (i := 0) (v := vS r.p r.l.length) rfl rfl rfl rfl hm1 hc1 rfl rfl,?_⟩
     iterate 2 refine ⟨_,rfl,?_⟩
     rintro (_|_) h3
     ·replace h3 : ¬ ((j : Int) < (r.l.length : Int)) := of_decide_eq_false h3
      refine AW.cut lo0 st [(0,vS p t.length),(1,vI n),(5,vI (i : Int)),(6,vI (j : Int)),(33,vB false)] ⟨rfl,rfl,rfl,rfl,rfl,trivial⟩ fun ρ0 => ?_
      refine cxs ?_
      have e20 : IntKind.wrap .i64 ((i : Int) + 1) = ((i + 1 : Nat) : Int) := (wrap_i64 (by omega) (by omega)).trans (by omega)
      refine ⟨_,rfl,?_⟩
      refine ⟨i + 1,t.length - (i + 1),by omega,⟨rfl,rfl,congrArg (Value.int .i64) e20,trivial⟩,rfl,rfl,h1',fun u x hu hx => ?_,rfl⟩
      rcases Nat.lt_or_ge u i with h | h
      ·exact hok u x h hx
      ·obtain rfl : u = i := by omega
       rw [hr1] at hx
       injection hx with hx
       rw [← hx]
       exact ⟨by omega,fun v y hy => hel v y (by have := (List.getElem?_eq_some_iff.1 hy).1; omega) hy⟩
     ·replace h3 : (j : Int) < (r.l.length : Int) := of_decide_eq_true h3
      refine AW.cut lo0 st [(0,vS p t.length),(1,vI n),(5,vI (i : Int)),(6,vI (j : Int)),(33,vB true)] ⟨rfl,rfl,rfl,rfl,rfl,trivial⟩ fun ρ0 => ?_
      have h3' := Int.ofNat_lt.1 h3
      have ⟨b2,o2,k2,z,hqe,hz,hm2,hc2⟩ := (hR.2 r hmem).at h3'
      refine cxs ?_
      refine ⟨_,op_idx (j := (i : Int)) (n := t.length) (q := ⟨b1,o1,none⟩) rfl (congrArg (fun u => vS u t.length) hpe) rfl rfl rfl (Int.natCast_nonneg _) (Int.ofNat_lt.2 h1'),?_⟩
      refine ⟨_,op_ldc (i := 0) (v := vS r.p r.l.length) rfl rfl rfl rfl hm1 hc1 rfl rfl,?_⟩
      refine ⟨_,op_idx (j := (j : Int)) (n := r.l.length) (q := ⟨b2,o2,none⟩) rfl (congrArg (fun u => vS u r.l.length) hqe) rfl rfl rfl (Int.natCast_nonneg _) h3,?_⟩
      refine ⟨_,op_ldc (i := 0) (v := vI z) rfl rfl rfl rfl hm2 hc2 rfl rfl,?_⟩
      refine ⟨_,rfl,(ac_spec_l1In z 0 1000 st).mono ?_⟩
      rintro _ st ⟨c,rfl,h4,rfl⟩
      rcases c with _|_
      ·replace h4 := of_decide_eq_false h4.symm
       refine ⟨_,rfl,?_⟩
       refine AW.cut lo0 st [(0,vS p t.length),(1,vI n),(5,vI (i : Int)),(6,vI (j : Int)),(33,vB true),(44,vB true)] ⟨rfl,rfl,rfl,rfl,rfl,rfl,trivial⟩ fun ρ0 => ?_
       refine cxs ?_
       exact ⟨.inl rfl,_,rfl,false,rfl,⟨fun h => absurd h Bool.false_ne_true,fun h => absurd ((rows_of h hr1).2 j z hz) h4⟩,rfl⟩
      ·replace h4 := of_decide_eq_true h4.symm
       refine ⟨_,rfl,?_⟩
       refine AW.cut lo0 st [(0,vS p t.length),(1,vI n),(5,vI (i : Int)),(6,vI (j : Int)),(33,vB true),(44,vB false)] ⟨rfl,rfl,rfl,rfl,rfl,rfl,trivial⟩ fun ρ0 => ?_
       refine cxs ?_
       have e35 : IntKind.wrap .i64 ((j : Int) + 1) = ((j + 1 : Nat) : Int) := (wrap_i64 (by omega) (by omega)).trans (by omega)
       refine ⟨_,rfl,?_⟩
       refine ⟨j + 1,r.l.length - (j + 1),by omega,⟨rfl,rfl,rfl,congrArg (Value.int .i64) e35,trivial⟩,rfl,rfl,h3',fun u x hu hx => ?_,rfl⟩
       rcases Nat.lt_or_ge u j with h | h
       ·exact hel u x h hx
       ·obtain rfl : u = j := by omega
        rw [hz] at hx
        injection hx with hx
        rw [← hx]; exact h4
    ·replace h2 : ¬ ((r.l.length : Int) = 5) := bne_iff_ne.1 h2
     refine AW.cut lo0 st [(0,vS p t.length),(1,vI n),(5,vI (i : Int)),(18,vB true),(26,vB true)] ⟨rfl,rfl,rfl,rfl,rfl,trivial⟩ fun ρ0 => ?_
     refine cxs ?_
     exact ⟨.inl rfl,_,rfl,false,rfl,⟨fun h => absurd h Bool.false_ne_true,fun h => absurd (by have := (rows_of h hr1).1; omega) h2⟩,rfl⟩
  ·replace h0 : ¬ ((t.length : Int) = n) := bne_iff_ne.1 h0
   refine ⟨_,rfl,?_⟩
   refine AW.cut lo0 st [(0,vS p t.length),(1,vI n),(4,vB false),(15,vB true)] ⟨rfl,rfl,rfl,rfl,trivial⟩ fun ρ0 => ?_
   refine cxs ?_
   exact ⟨.inl rfl,_,rfl,false,rfl,⟨fun h => absurd h Bool.false_ne_true,fun h => absurd (by have := h.2.1; rwa [List.length_map] at this) h0⟩,rfl⟩
theorem ac_impl_TableOk (p : Option Addr) (t : List RV) (n : Int) (st : St) (hR : RdT st p t) (hs : szOk t.length) (hr : ∀ r ∈ t,szOk r.l.length) : C 101 [vS p t.length,vI n] st (fun v s => ∃ x,v = .bool x ∧ (x = true ↔ tableOk (t.map (·.l)) n) ∧ s = st) := by
 have hs : t.length ≤ 1048576 := hs
 refine AC.enterX (i := ⟨[],[],[0,1,4,6,8,9,10,11,12,15,16,17,18,23,27],[]⟩) [] Try.func101 rfl rfl (by kernel_rfl) (by kernel_rfl) Try.ntmps101 (Nat.le_of_ble_eq_true rfl) rfl ?_
 refine AW.cut lo0 st [(0,vS p t.length),(1,vI n),(4,vB false)] ⟨rfl,rfl,rfl,trivial⟩ fun ρ0 => ?_
 refine ⟨_,rfl,?_⟩
 refine AW.cut lo0 st [(0,vS p t.length),(1,vI n),(4,vB false),(9,vS p t.length),(10,vI (t.length)),(11,vI (0))] ⟨rfl,rfl,rfl,rfl,rfl,rfl,trivial⟩ fun ρ0 => ?_
 refine AW.loop0 (fun i : Nat => [(0,vS p t.length),(1,vI n),(9,vS p t.length),(10,vI (t.length : Int)),(11,vI (i : Int))]) (fun m (i : Nat) st' => m = t.length - i ∧ i ≤ t.length ∧ (∀ (j : Nat) r,j < i → t[j]? = some r → rowOk r.l) ∧ st = st') 0 _ ⟨rfl,rfl,rfl,rfl,rfl,trivial⟩ rfl ⟨rfl,Nat.zero_le _,fun j r h => absurd h (Nat.not_lt_zero _),rfl⟩ ?_
 rintro m i ρ0 st' ⟨rfl,hi,hok,rfl⟩
 refine ⟨_,rfl,?_⟩
 rintro (_|_) h1
 ·replace h1 : ¬ ((i : Int) < (t.length : Int)) := of_decide_eq_false h1
  refine AW.cut lo0 st [(0,vS p t.length),(1,vI n),(9,vS p t.length),(10,vI (t.length : Int)),(11,vI (i : Int)),(12,vB false)] ⟨rfl,rfl,rfl,rfl,rfl,rfl,trivial⟩ fun ρ0 => ?_
  refine cxs ?_
  refine ⟨_,rfl,(ac_impl_within n 1 5 st).mono ?_⟩
  rintro _ st ⟨y,rfl,hy,rfl⟩
  rcases y with _|_
  ·replace hy := of_decide_eq_false hy.symm
   refine ⟨_,rfl,?_⟩
   refine cxs ?_
   exact ⟨.inl rfl,_,rfl,false,rfl,⟨fun h => absurd h Bool.false_ne_true,fun h => absurd h.1 hy⟩,rfl⟩
  ·replace hy := of_decide_eq_true hy.symm
   iterate 2 refine ⟨_,rfl,?_⟩
   rintro (_|_) h0
   ·replace h0 : ¬ ((t.length : Int) = n) := beq_eq_false_iff_ne.1 h0
    refine ⟨_,rfl,?_⟩
    refine cxs ?_
    exact ⟨.inl rfl,_,rfl,false,rfl,⟨fun h => absurd h Bool.false_ne_true,fun h => absurd (by have := h.2.1; rwa [List.length_map] at this) h0⟩,rfl⟩
   ·replace h0 : (t.length : Int) = n := beq_iff_eq.1 h0
    refine ⟨_,rfl,?_⟩
    refine cxs ?_
    exact ⟨.inl rfl,_,rfl,true,rfl,⟨fun _ => ⟨hy,by rw [List.length_map]; exact h0,rows_to fun j r hr => hok j r (by have := (List.getElem?_eq_some_iff.1 hr).1; omega) hr⟩,fun _ => rfl⟩,rfl⟩
 ·replace h1 : (i : Int) < (t.length : Int) := of_decide_eq_true h1
  refine AW.cut lo0 st [(0,vS p t.length),(1,vI n),(9,vS p t.length),(10,vI (t.length : Int)),(11,vI (i : Int)),(12,vB true)] ⟨rfl,rfl,rfl,rfl,rfl,rfl,trivial⟩ fun ρ0 => ?_
  have h1' : i < t.length := by omega
  have ⟨b1,o1,k1,r,hpe,hr1,hm1,hc1⟩ := hR.1.at h1'
  have hmem := List.mem_of_getElem? hr1
  have hrs : r.l.length ≤ 1048576 := hr r hmem
  refine cxs ?_
  refine ⟨_,op_idx (j := (i : Int)) (n := t.length) (q := ⟨b1,o1,none⟩) rfl (congrArg (fun u => vS u t.length) hpe) rfl rfl rfl (Int.natCast_nonneg _) (Int.ofNat_lt.2 h1'),?_⟩
  refine ⟨_,op_ldc (i := 0) (v := vS r.p r.l.length) rfl rfl rfl rfl hm1 hc1 rfl rfl,?_⟩
  refine AW.cut lo0 st [(0,vS p t.length),(1,vI n),(6,vS r.p r.l.length),(9,vS p t.length),(10,vI (t.length : Int)),(11,vI (i : Int)),(12,vB true)] ⟨rfl,rfl,rfl,rfl,rfl,rfl,rfl,trivial⟩ fun ρ0 => ?_
  refine ⟨_,rfl,?_⟩
  refine AW.cut lo0 st [(0,vS p t.length),(1,vI n),(6,vS r.p r.l.length),(9,vS p t.length),(10,vI (t.length : Int)),(11,vI (i : Int)),(12,vB true),(15,vS r.p r.l.length),(16,vI (r.l.length)),(17,vI (0))] ⟨rfl,rfl,rfl,rfl,rfl,rfl,rfl,rfl,rfl,rfl,trivial⟩ fun ρ0 => ?_
  refine AW.loop0 (fun j : Nat => [(0,vS p t.length),(1,vI n),(6,vS r.p r.l.length),(9,vS p t.length),(10,vI (t.length : Int)),(11,vI (i : Int)),(15,vS r.p r.l.length),(16,vI (r.l.length : Int)),(17,vI (j : Int))]) (fun m (j : Nat) st' => m = r.l.length - j ∧ j ≤ r.l.length ∧ (∀ (u : Nat) x,u < j → r.l[u]? = some x → 0 ≤ x ∧ x ≤ 1000) ∧ st = st') 0 _ ⟨rfl,rfl,rfl,rfl,rfl,rfl,rfl,rfl,rfl,trivial⟩ rfl ⟨rfl,Nat.zero_le _,fun u x h => absurd h (Nat.not_lt_zero _),rfl⟩ ?_
  rintro m j ρ0 st' ⟨rfl,hj,hel,rfl⟩
  refine ⟨_,rfl,?_⟩
  rintro (_|_) h3
  ·replace h3 : ¬ ((j : Int) < (r.l.length : Int)) := of_decide_eq_false h3
   refine AW.cut lo0 st [(0,vS p t.length),(1,vI n),(6,vS r.p r.l.length),(9,vS p t.length),(10,vI (t.length : Int)),(11,vI (i : Int)),(15,vS r.p r.l.length),(16,vI (r.l.length : Int)),(17,vI (j : Int)),(18,vB false)] ⟨rfl,rfl,rfl,rfl,rfl,rfl,rfl,rfl,rfl,rfl,trivial⟩ fun ρ0 => ?_
   refine cxs ?_
   iterate 2 refine ⟨_,rfl,?_⟩
   rintro (_|_) h2
   ·replace h2 : (r.l.length : Int) = 5 := bne_eq_false_iff_eq.1 h2
    refine AW.cut lo0 st [(0,vS p t.length),(1,vI n),(6,vS r.p r.l.length),(9,vS p t.length),(10,vI (t.length : Int)),(11,vI (i : Int)),(15,vS r.p r.l.length),(16,vI (r.l.length : Int)),(17,vI (j : Int)),(18,vB false),(27,vB false)] ⟨rfl,rfl,rfl,rfl,rfl,rfl,rfl,rfl,rfl,rfl,rfl,trivial⟩ fun ρ0 => ?_
    refine cxs ?_
    have e28 : IntKind.wrap .i64 ((i : Int) + 1) = ((i + 1 : Nat) : Int) := (wrap_i64 (by omega) (by omega)).trans (by omega)
    refine ⟨_,rfl,?_⟩
    refine ⟨i + 1,t.length - (i + 1),by omega,⟨rfl,rfl,rfl,rfl,congrArg (Value.int .i64) e28,trivial⟩,rfl,rfl,h1',fun u x hu hx => ?_,rfl⟩
    rcases Nat.lt_or_ge u i with h | h
    ·exact hok u x h hx
    ·obtain rfl : u = i := by omega
     rw [hr1] at hx
     injection hx with hx
     rw [← hx]
     exact ⟨by omega,fun v y hy => hel v y (by have := (List.getElem?_eq_some_iff.1 hy).1; omega) hy⟩
   ·replace h2 : ¬ ((r.l.length : Int) = 5) := bne_iff_ne.1 h2
    refine AW.cut lo0 st [(0,vS p t.length),(1,vI n),(6,vS r.p r.l.length),(9,vS p t.length),(10,vI (t.length : Int)),(11,vI (i : Int)),(15,vS r.p r.l.length),(16,vI (r.l.length : Int)),(17,vI (j : Int)),(18,vB false),(27,vB true)] ⟨rfl,rfl,rfl,rfl,rfl,rfl,rfl,rfl,rfl,rfl,rfl,trivial⟩ fun ρ0 => ?_
    refine cxs ?_
    exact ⟨.inl rfl,_,rfl,false,rfl,⟨fun h => absurd h Bool.false_ne_true,fun h => absurd (by have := (rows_of h hr1).1; omega) h2⟩,rfl⟩
  ·replace h3 : (j : Int) < (r.l.length : Int) := of_decide_eq_true h3
   refine AW.cut lo0 st [(0,vS p t.length),(1,vI n),(6,vS r.p r.l.length),(9,vS p t.length),(10,vI (t.length : Int)),(11,vI (i : Int)),(15,vS r.p r.l.length),(16,vI (r.l.length : Int)),(17,vI (j : Int)),(18,vB true)] ⟨rfl,rfl,rfl,rfl,rfl,rfl,rfl,rfl,rfl,rfl,trivial⟩ fun ρ0 => ?_
   have h3' := Int.ofNat_lt.1 h3
   have ⟨b2,o2,k2,z,hqe,hz,hm2,hc2⟩ := (hR.2 r hmem).at h3'
   refine cxs ?_
   refine ⟨_,op_idx (j := (j : Int)) (n := r.l.length) (q := ⟨b2,o2,none⟩) rfl (congrArg (fun u => vS u r.l.length) hqe) rfl rfl rfl (Int.natCast_nonneg _) h3,?_⟩
   refine ⟨_,op_ldc (i := 0) (v := vI z) rfl rfl rfl rfl hm2 hc2 rfl rfl,?_⟩
   refine AW.cut lo0 st [(0,vS p t.length),(1,vI n),(6,vS r.p r.l.length),(8,vI z),(9,vS p t.length),(10,vI (t.length : Int)),(11,vI (i : Int)),(15,vS r.p r.l.length),(16,vI (r.l.length : Int)),(17,vI (j : Int)),(18,vB true)] ⟨rfl,rfl,rfl,rfl,rfl,rfl,rfl,rfl,rfl,rfl,rfl,trivial⟩ fun ρ0 => ?_
   refine ⟨_,rfl,(ac_impl_within z 0 1000 st).mono ?_⟩
   rintro _ st ⟨c,rfl,h4,rfl⟩
   rcases c with _|_
   ·replace h4 := of_decide_eq_false h4.symm
    refine ⟨_,rfl,?_⟩
    refine AW.cut lo0 st [(0,vS p t.length),(1,vI n),(6,vS r.p r.l.length),(8,vI z),(9,vS p t.length),(10,vI (t.length : Int)),(11,vI (i : Int)),(15,vS r.p r.l.length),(16,vI (r.l.length : Int)),(17,vI (j : Int)),(18,vB true),(23,vB true)] ⟨rfl,rfl,rfl,rfl,rfl,rfl,rfl,rfl,rfl,rfl,rfl,rfl,trivial⟩ fun ρ0 => ?_
    refine cxs ?_
    exact ⟨.inl rfl,_,rfl,false,rfl,⟨fun h => absurd h Bool.false_ne_true,fun h => absurd ((rows_of h hr1).2 j z hz) h4⟩,rfl⟩
   ·replace h4 := of_decide_eq_true h4.symm
    refine ⟨_,rfl,?_⟩
    refine AW.cut lo0 st [(0,vS p t.length),(1,vI n),(6,vS r.p r.l.length),(8,vI z),(9,vS p t.length),(10,vI (t.length : Int)),(11,vI (i : Int)),(15,vS r.p r.l.length),(16,vI (r.l.length : Int)),(17,vI (j : Int)),(18,vB true),(23,vB false)] ⟨rfl,rfl,rfl,rfl,rfl,rfl,rfl,rfl,rfl,rfl,rfl,rfl,trivial⟩ fun ρ0 => ?_
    refine cxs ?_
    have e24 : IntKind.wrap .i64 ((j : Int) + 1) = ((j + 1 : Nat) : Int) := (wrap_i64 (by omega) (by omega)).trans (by omega)
    refine ⟨_,rfl,?_⟩
    refine ⟨j + 1,r.l.length - (j + 1),by omega,⟨rfl,rfl,rfl,rfl,rfl,rfl,rfl,rfl,congrArg (Value.int .i64) e24,trivial⟩,rfl,rfl,h3',fun u x hu hx => ?_,rfl⟩
    rcases Nat.lt_or_ge u j with h | h
    ·exact hel u x h hx
    ·obtain rfl : u = j := by omega
     rw [hz] at hx
     injection hx with hx
     rw [← hx]; exact h4
def vecOk (l : List Int) (n : Int) : Prop := (1 ≤ n ∧ n ≤ 5) ∧ (l.length : Int) = n ∧ ∀ (j : Nat) x,l[j]? = some x → 0 ≤ x ∧ x ≤ 100000
theorem upto {α : Type} {l : List α} {P : Nat → α → Prop} {i : Nat} {y : α} (h : ∀ (j : Nat) x,j < i → l[j]? = some x → P j x) (hy : l[i]? = some y) (hp : P i y) : ∀ (j : Nat) x,j < i + 1 → l[j]? = some x → P j x := fun j x hj hx => by
 rcases Nat.lt_or_ge j i with h1 | h1
 ·exact h j x h1 hx
 ·obtain rfl : j = i := by omega
  rw [hy] at hx
  injection hx with hx
  rw [← hx]; exact hp
theorem upall {α : Type} {l : List α} {P : Nat → α → Prop} {i : Nat} (h : ∀ (j : Nat) x,j < i → l[j]? = some x → P j x) (hi : l.length ≤ i) : ∀ (j : Nat) x,l[j]? = some x → P j x := fun j x hx => h j x (by have := (List.getElem?_eq_some_iff.1 hx).1; omega) hx
theorem ac_impl_VecOk (p : Option Addr) (l : List Int) (n : Int) (st : St) (hR : Rows st 1 fI p l) (hs : szOk l.length) : C 99 [vS p l.length,vI n] st (fun v s => ∃ x,v = .bool x ∧ (x = true ↔ vecOk l n) ∧ s = st) := by
 have hs : l.length ≤ 1048576 := hs
 refine AC.enterX (i := ⟨[],[],[0,1,4,6,7,8,9,10,15],[]⟩) [] Try.func99 rfl rfl (by kernel_rfl) (by kernel_rfl) Try.ntmps99 (Nat.le_of_ble_eq_true rfl) rfl ?_
 refine AW.cut lo0 st [(0,vS p l.length),(1,vI n),(4,vB false)] ⟨rfl,rfl,rfl,trivial⟩ fun ρ0 => ?_
 refine ⟨_,rfl,?_⟩
 refine AW.cut lo0 st [(0,vS p l.length),(1,vI n),(4,vB false),(7,vS p l.length),(8,vI (l.length : Int)),(9,vI (0))] ⟨rfl,rfl,rfl,rfl,rfl,rfl,trivial⟩ fun ρ0 => ?_
 refine AW.loop0 (fun i : Nat => [(0,vS p l.length),(1,vI n),(7,vS p l.length),(8,vI (l.length : Int)),(9,vI (i : Int))]) (fun m (i : Nat) st' => m = l.length - i ∧ i ≤ l.length ∧ (∀ (j : Nat) x,j < i → l[j]? = some x → 0 ≤ x ∧ x ≤ 100000) ∧ st = st') 0 _ ⟨rfl,rfl,rfl,rfl,rfl,trivial⟩ rfl ⟨rfl,Nat.zero_le _,fun j x h => absurd h (Nat.not_lt_zero _),rfl⟩ ?_
 rintro m i ρ0 st' ⟨rfl,hi,hok,rfl⟩
 refine ⟨_,rfl,?_⟩
 rintro (_|_) h10
 ·replace h10 : ¬ ((i : Int) < (l.length : Int)) := of_decide_eq_false h10
  refine AW.cut lo0 st [(0,vS p l.length),(1,vI n),(7,vS p l.length),(8,vI (l.length : Int)),(9,vI (i : Int)),(10,vB false)] ⟨rfl,rfl,rfl,rfl,rfl,rfl,trivial⟩ fun ρ0 => ?_
  refine cxs ?_
  refine ⟨_,rfl,(ac_impl_within n 1 5 st).mono ?_⟩
  rintro _ st ⟨x18,rfl,h18,rfl⟩
  rcases x18 with _|_
  ·replace h18 := of_decide_eq_false h18.symm
   refine ⟨_,rfl,?_⟩
   refine cxs ?_
   exact ⟨.inl rfl,_,rfl,false,rfl,⟨fun h => absurd h Bool.false_ne_true,fun h => (show False from (h18 h.1)).elim⟩,rfl⟩
  ·replace h18 := of_decide_eq_true h18.symm
   iterate 2 refine ⟨_,rfl,?_⟩
   rintro (_|_) h23
   ·replace h23 : ¬ ((l.length : Int) = n) := beq_eq_false_iff_ne.1 h23
    refine ⟨_,rfl,?_⟩
    refine cxs ?_
    exact ⟨.inl rfl,_,rfl,false,rfl,⟨fun h => absurd h Bool.false_ne_true,fun h => (show False from (h23 h.2.1)).elim⟩,rfl⟩
   ·replace h23 : (l.length : Int) = n := beq_iff_eq.1 h23
    refine ⟨_,rfl,?_⟩
    refine cxs ?_
    exact ⟨.inl rfl,_,rfl,true,rfl,⟨fun _ => ⟨h18,h23,upall (P := fun _ x => 0 ≤ x ∧ x ≤ 100000) hok (by omega)⟩,fun _ => rfl⟩,rfl⟩
 ·replace h10 : (i : Int) < (l.length : Int) := of_decide_eq_true h10
  refine AW.cut lo0 st [(0,vS p l.length),(1,vI n),(7,vS p l.length),(8,vI (l.length : Int)),(9,vI (i : Int)),(10,vB true)] ⟨rfl,rfl,rfl,rfl,rfl,rfl,trivial⟩ fun ρ0 => ?_
  refine cxs ?_
  refine op_at i hR (by omega) rfl rfl rfl rfl rfl rfl rfl ?_
  intro x11 b11 d11 k11 hy11 hb11 hm11 hc11 ho11
  refine ⟨_,op_ldc (i := 0) rfl rfl rfl rfl hm11 hc11 rfl rfl,?_⟩
  refine AW.cut lo0 st [(0,vS p l.length),(1,vI n),(6,vI x11),(7,vS p l.length),(8,vI (l.length : Int)),(9,vI (i : Int)),(10,vB true)] ⟨rfl,rfl,rfl,rfl,rfl,rfl,rfl,trivial⟩ fun ρ0 => ?_
  refine ⟨_,rfl,(ac_impl_within x11 0 100000 st).mono ?_⟩
  rintro _ st ⟨x14,rfl,h14,rfl⟩
  rcases x14 with _|_
  ·replace h14 := of_decide_eq_false h14.symm
   refine ⟨_,rfl,?_⟩
   refine AW.cut lo0 st [(0,vS p l.length),(1,vI n),(6,vI x11),(7,vS p l.length),(8,vI (l.length : Int)),(9,vI (i : Int)),(10,vB true),(15,vB true)] ⟨rfl,rfl,rfl,rfl,rfl,rfl,rfl,rfl,trivial⟩ fun ρ0 => ?_
   refine cxs ?_
   exact ⟨.inl rfl,_,rfl,false,rfl,⟨fun h => absurd h Bool.false_ne_true,fun h => (show False from (absurd (h.2.2 i x11 hy11) h14)).elim⟩,rfl⟩
  ·replace h14 := of_decide_eq_true h14.symm
   refine ⟨_,rfl,?_⟩
   refine AW.cut lo0 st [(0,vS p l.length),(1,vI n),(6,vI x11),(7,vS p l.length),(8,vI (l.length : Int)),(9,vI (i : Int)),(10,vB true),(15,vB false)] ⟨rfl,rfl,rfl,rfl,rfl,rfl,rfl,rfl,trivial⟩ fun ρ0 => ?_
   refine cxs ?_
   have ew16 : IntKind.wrap .i64 ((i : Int) + (1)) = ((i + 1 : Nat) : Int) := (wrap_i64 (by omega) (by omega)).trans (by omega)
   refine ⟨_,rfl,?_⟩
   exact ⟨i + 1,l.length - (i + 1),by omega,⟨rfl,rfl,rfl,rfl,congrArg (Value.int .i64) ew16,trivial⟩,rfl,rfl,by omega,upto (P := fun _ x => 0 ≤ x ∧ x ≤ 100000) hok hy11 h14,rfl⟩
theorem ac_spec_VecOk (p : Option Addr) (l : List Int) (n : Int) (st : St) (hR : Rows st 1 fI p l) (hs : szOk l.length) : C 86 [vS p l.length,vI n] st (fun v s => ∃ x,v = .bool x ∧ (x = true ↔ vecOk l n) ∧ s = st) := by
 have hs : l.length ≤ 1048576 := hs
 refine AC.enterX (i := ⟨[],[],[0,1,4,5,14,17,25],[]⟩) [] Try.func86 rfl rfl (by kernel_rfl) (by kernel_rfl) Try.ntmps86 (Nat.le_of_ble_eq_true rfl) rfl ?_
 refine AW.cut lo0 st [(0,vS p l.length),(1,vI n),(4,vB false)] ⟨rfl,rfl,rfl,trivial⟩ fun ρ0 => ?_
 refine ⟨_,rfl,(ac_spec_l1In n 1 5 st).mono ?_⟩
 rintro _ st ⟨x7,rfl,h7,rfl⟩
 rcases x7 with _|_
 ·replace h7 := of_decide_eq_false h7.symm
  iterate 2 refine ⟨_,rfl,?_⟩
  refine AW.cut lo0 st [(0,vS p l.length),(1,vI n),(4,vB false),(14,vB true)] ⟨rfl,rfl,rfl,rfl,trivial⟩ fun ρ0 => ?_
  refine cxs ?_
  exact ⟨.inl rfl,_,rfl,false,rfl,⟨fun h => absurd h Bool.false_ne_true,fun h => (show False from (h7 h.1)).elim⟩,rfl⟩
 ·replace h7 := of_decide_eq_true h7.symm
  iterate 3 refine ⟨_,rfl,?_⟩
  rintro (_|_) h13
  ·replace h13 : (l.length : Int) = n := bne_eq_false_iff_eq.1 h13
   refine ⟨_,rfl,?_⟩
   refine AW.cut lo0 st [(0,vS p l.length),(1,vI n),(4,vB false),(14,vB false)] ⟨rfl,rfl,rfl,rfl,trivial⟩ fun ρ0 => ?_
   refine cxs ?_
   refine AW.cut lo0 st [(0,vS p l.length),(1,vI n),(4,vB false),(5,vI (0))] ⟨rfl,rfl,rfl,rfl,trivial⟩ fun ρ0 => ?_
   refine AW.loop0 (fun i : Nat => [(0,vS p l.length),(1,vI n),(5,vI (i : Int))]) (fun m (i : Nat) st' => m = l.length - i ∧ i ≤ l.length ∧ (∀ (j : Nat) x,j < i → l[j]? = some x → 0 ≤ x ∧ x ≤ 100000) ∧ st = st') 0 _ ⟨rfl,rfl,rfl,trivial⟩ rfl ⟨rfl,Nat.zero_le _,fun j x h => absurd h (Nat.not_lt_zero _),rfl⟩ ?_
   rintro m i ρ0 st' ⟨rfl,hi,hok,rfl⟩
   refine ⟨_,rfl,?_⟩
   rintro (_|_) h17
   ·replace h17 : ¬ ((i : Int) < n) := of_decide_eq_false h17
    refine AW.cut lo0 st [(0,vS p l.length),(1,vI n),(5,vI (i : Int)),(17,vB false)] ⟨rfl,rfl,rfl,rfl,trivial⟩ fun ρ0 => ?_
    refine cxs ?_
    refine cxs ?_
    exact ⟨.inl rfl,_,rfl,true,rfl,⟨fun _ => ⟨h7,h13,upall (P := fun _ x => 0 ≤ x ∧ x ≤ 100000) hok (by omega)⟩,fun _ => rfl⟩,rfl⟩
   ·replace h17 : (i : Int) < n := of_decide_eq_true h17
    refine AW.cut lo0 st [(0,vS p l.length),(1,vI n),(5,vI (i : Int)),(17,vB true)] ⟨rfl,rfl,rfl,rfl,trivial⟩ fun ρ0 => ?_
    refine cxs ?_
    refine op_at i hR (by omega) rfl rfl rfl rfl rfl rfl rfl ?_
    intro x22 b22 d22 k22 hy22 hb22 hm22 hc22 ho22
    refine ⟨_,op_ldc (i := 0) rfl rfl rfl rfl hm22 hc22 rfl rfl,?_⟩
    refine ⟨_,rfl,(ac_spec_l1In x22 0 100000 st).mono ?_⟩
    rintro _ st ⟨x24,rfl,h24,rfl⟩
    rcases x24 with _|_
    ·replace h24 := of_decide_eq_false h24.symm
     refine ⟨_,rfl,?_⟩
     refine AW.cut lo0 st [(0,vS p l.length),(1,vI n),(5,vI (i : Int)),(17,vB true),(25,vB true)] ⟨rfl,rfl,rfl,rfl,rfl,trivial⟩ fun ρ0 => ?_
     refine cxs ?_
     exact ⟨.inl rfl,_,rfl,false,rfl,⟨fun h => absurd h Bool.false_ne_true,fun h => (show False from (absurd (h.2.2 i x22 hy22) h24)).elim⟩,rfl⟩
    ·replace h24 := of_decide_eq_true h24.symm
     refine ⟨_,rfl,?_⟩
     refine AW.cut lo0 st [(0,vS p l.length),(1,vI n),(5,vI (i : Int)),(17,vB true),(25,vB false)] ⟨rfl,rfl,rfl,rfl,rfl,trivial⟩ fun ρ0 => ?_
     refine cxs ?_
     have ew19 : IntKind.wrap .i64 ((i : Int) + (1)) = ((i + 1 : Nat) : Int) := (wrap_i64 (by omega) (by omega)).trans (by omega)
     refine ⟨_,rfl,?_⟩
     exact ⟨i + 1,l.length - (i + 1),by omega,⟨rfl,rfl,congrArg (Value.int .i64) ew19,trivial⟩,rfl,rfl,by omega,upto (P := fun _ x => 0 ≤ x ∧ x ≤ 100000) hok hy22 h24,rfl⟩
  ·replace h13 : ¬ ((l.length : Int) = n) := bne_iff_ne.1 h13
   refine ⟨_,rfl,?_⟩
   refine AW.cut lo0 st [(0,vS p l.length),(1,vI n),(4,vB false),(14,vB true)] ⟨rfl,rfl,rfl,rfl,trivial⟩ fun ρ0 => ?_
   refine cxs ?_
   exact ⟨.inl rfl,_,rfl,false,rfl,⟨fun h => absurd h Bool.false_ne_true,fun h => (show False from (h13 h.2.1)).elim⟩,rfl⟩
theorem ac_slices_Max (p : Option Addr) (l : List Int) (st : St) (hR : Rows st 1 fI p l) (hs : szOk l.length) (h0 : 0 < l.length) : C 100 [vS p l.length] st (fun v s => ∃ x,v = vI x ∧ (∀ (c : Int),x ≤ c ↔ ∀ (j : Nat) y,l[j]? = some y → y ≤ c) ∧ s = st) := by
 have hs : l.length ≤ 1048576 := hs
 refine AC.enterX (i := ⟨[],[],[0,2,3,4,7,15],[]⟩) [] Try.func100 rfl rfl (by kernel_rfl) (by kernel_rfl) Try.ntmps100 (Nat.le_of_ble_eq_true rfl) rfl ?_
 refine AW.cut lo0 st [(0,vS p l.length),(2,vI (0))] ⟨rfl,rfl,trivial⟩ fun ρ0 => ?_
 iterate 2 refine ⟨_,rfl,?_⟩
 rintro (_|_) h7
 rotate_left
 ·exact absurd (of_decide_eq_true h7) ((by omega))
 refine AW.cut lo0 st [(0,vS p l.length),(2,vI (0)),(7,vB false)] ⟨rfl,rfl,rfl,trivial⟩ fun ρ0 => ?_
 refine cxs ?_
 refine op_at 0 hR (by omega) rfl rfl rfl rfl rfl rfl rfl ?_
 intro x10 b10 d10 k10 hy10 hb10 hm10 hc10 ho10
 refine ⟨_,op_ldc (i := 0) rfl rfl rfl rfl hm10 hc10 rfl rfl,?_⟩
 refine cxs ?_
 refine AW.cut lo0 st [(0,vS p l.length),(2,vI (0)),(3,vI x10),(4,vI (1))] ⟨rfl,rfl,rfl,rfl,trivial⟩ fun ρ0 => ?_
 refine AW.loop0 (fun x : Nat × Int => [(0,vS p l.length),(2,vI (0)),(3,vI x.2),(4,vI (x.1 : Int))]) (fun m (x : Nat × Int) st' => m = l.length - x.1 ∧ x.1 ≤ l.length ∧ (∀ (c : Int),x.2 ≤ c ↔ ∀ (j : Nat) y,j < x.1 → l[j]? = some y → y ≤ c) ∧ st = st') (1,x10) _ ⟨rfl,rfl,rfl,rfl,trivial⟩ rfl ⟨rfl,h0,fun c => ⟨fun h j y hj hy => by obtain rfl : j = 0 := (by omega : j = 0); rw [hy10] at hy; injection hy with hy; rw [← hy]; exact h,fun h => h 0 x10 Nat.one_pos hy10⟩,rfl⟩ ?_
 rintro m ⟨i,w⟩ ρ0 st' ⟨rfl,hi,hok,rfl⟩
 simp only at hi hok
 iterate 2 refine ⟨_,rfl,?_⟩
 rintro (_|_) h15
 ·replace h15 : ¬ ((i : Int) < (l.length : Int)) := of_decide_eq_false h15
  refine AW.cut lo0 st [(0,vS p l.length),(2,vI (0)),(3,vI w),(4,vI (i : Int)),(15,vB false)] ⟨rfl,rfl,rfl,rfl,rfl,trivial⟩ fun ρ0 => ?_
  refine cxs ?_
  refine cxs ?_
  exact ⟨.inl rfl,_,rfl,w,rfl,fun c => (hok c).trans ⟨fun h => upall (P := fun _ x => x ≤ c) h (by omega),fun h j y _ hy => h j y hy⟩,rfl⟩
 ·replace h15 : (i : Int) < (l.length : Int) := of_decide_eq_true h15
  refine AW.cut lo0 st [(0,vS p l.length),(2,vI (0)),(3,vI w),(4,vI (i : Int)),(15,vB true)] ⟨rfl,rfl,rfl,rfl,rfl,trivial⟩ fun ρ0 => ?_
  refine cxs ?_
  refine op_at i hR (by omega) rfl rfl rfl rfl rfl rfl rfl ?_
  intro x21 b21 d21 k21 hy21 hb21 hm21 hc21 ho21
  refine ⟨_,op_ldc (i := 0) rfl rfl rfl rfl hm21 hc21 rfl rfl,?_⟩
  refine ⟨.int .i64 (max w x21),ammL_max _ _,?_⟩
  refine AW.cut lo0 st [(0,vS p l.length),(2,vI (0)),(3,vI (max w x21)),(4,vI (i : Int)),(15,vB true)] ⟨rfl,rfl,rfl,rfl,rfl,trivial⟩ fun ρ0 => ?_
  have ew17 : IntKind.wrap .i64 ((i : Int) + (1)) = ((i + 1 : Nat) : Int) := (wrap_i64 (by omega) (by omega)).trans (by omega)
  refine ⟨_,rfl,?_⟩
  refine ⟨(i + 1,max w x21),l.length - (i + 1),by omega,⟨rfl,rfl,rfl,congrArg (Value.int .i64) ew17,trivial⟩,rfl,rfl,by simp only; omega,fun c => ⟨fun h => ?_,fun h => ?_⟩,rfl⟩
  ·simp only at h
   exact upto (P := fun _ x => x ≤ c) ((hok c).1 (by omega)) hy21 (by omega)
  ·have h1 := (hok c).2 fun j y hj hy => h j y (Nat.lt_succ_of_lt hj) hy
   have h2 := h i x21 (Nat.lt_succ_self i) hy21
   show max w x21 ≤ c
   omega
theorem ac_impl_isPeer (g : NV) (k : Int) (st : St) (hn : 1 ≤ g.n ∧ g.n ≤ 5) : C 157 [.agg #[vI g.id,vI g.n,vS g.s.p g.s.x.items.length,vS g.s.q g.s.x.floors.length,vS g.t.p g.t.l.length,vI g.t.root,vI g.g.cap,vI g.g.frm,vS g.g.p g.g.l.length,vS g.got.p g.got.l.length,vS g.acked.p g.acked.l.length,vS g.seen.p g.seen.t.length,vI g.num,vI g.slots,vS g.sess.p g.sess.l.length,vI g.wait,vI g.limit,vI g.clock,vS g.rises.p g.rises.l.length],vI k] st (fun v s => ∃ x,v = .bool x ∧ (x = true ↔ (0 ≤ k ∧ k ≤ g.n - 1) ∧ ¬ k = g.id) ∧ s = st) := by
 refine AC.enterX (i := ⟨[2],[2,6,12],[0,1,2,4],[]⟩) [] Try.func157 rfl rfl (by kernel_rfl) (by kernel_rfl) Try.ntmps157 (Nat.le_of_ble_eq_true rfl) rfl ?_
 refine ⟨_,rfl,?_⟩
 refine AW.cutM (1) st [(1,vI k),(2,vL 2 0 (0)),(4,vB false)] [(2,0,cNV g)] ⟨rfl,rfl,rfl,trivial⟩ ⟨rfl,trivial⟩ rfl fun ρ0 ff => ?_
 refine ⟨_,rfl,?_⟩
 refine ⟨_,op_ldo rfl rfl rfl rfl,?_⟩
 have ew8 : IntKind.wrap .i64 (g.n - (1)) = g.n - (1) := wrap_i64 (by omega) (by omega)
 refine ⟨_,rfl,?_⟩
 refine ⟨_,rfl,(ac_impl_within k 0 (IntKind.wrap .i64 (g.n - (1))) st).mono ?_⟩
 rintro _ st ⟨x9,rfl,h9,rfl⟩
 rcases x9 with _|_
 ·replace h9 := of_decide_eq_false h9.symm
  rw [ew8] at h9
  refine ⟨_,rfl,?_⟩
  refine cxs ?_
  exact ⟨.inl rfl,_,rfl,false,rfl,⟨fun h => absurd h Bool.false_ne_true,fun h => (show False from (h9 h.1)).elim⟩,rfl⟩
 ·replace h9 := of_decide_eq_true h9.symm
  rw [ew8] at h9
  refine ⟨_,rfl,?_⟩
  refine ⟨_,op_ldo rfl rfl rfl rfl,?_⟩
  refine ⟨_,rfl,?_⟩
  rintro (_|_) h14
  ·replace h14 : k = g.id := bne_eq_false_iff_eq.1 h14
   refine ⟨_,rfl,?_⟩
   refine cxs ?_
   exact ⟨.inl rfl,_,rfl,false,rfl,⟨fun h => absurd h Bool.false_ne_true,fun h => (show False from (h.2 h14)).elim⟩,rfl⟩
  ·replace h14 : ¬ (k = g.id) := bne_iff_ne.1 h14
   refine ⟨_,rfl,?_⟩
   refine cxs ?_
   exact ⟨.inl rfl,_,rfl,true,rfl,⟨fun _ => ⟨h9,h14⟩,fun _ => rfl⟩,rfl⟩
def sesOk (x : Nd) (j : Nat) (y : Ses) : Prop := ((0 ≤ y.peer ∧ y.peer ≤ x.n - 1) ∧ ¬ y.peer = x.id) ∧ (0 ≤ y.num ∧ y.num ≤ 100000) ∧ (0 ≤ y.age ∧ y.age ≤ x.wait) ∧ ∀ (k : Nat) z,k < j → x.sess[k]? = some z → ¬ (z.peer = y.peer ∧ z.inn = y.inn)
def sessOk (x : Nd) : Prop := (x.sess.length : Int) ≤ x.slots ∧ ∀ (j : Nat) y,x.sess[j]? = some y → sesOk x j y
def risOk (x : Nd) (r : Ris) : Prop := (0 ≤ r.inc ∧ r.inc ≤ 1000) ∧ (0 ≤ r.beat ∧ r.beat ≤ 100000) ∧ (0 ≤ r.tick ∧ r.tick ≤ x.clock)
def risesOk (x : Nd) : Prop := x.rises.length = 5 ∧ ∀ (j : Nat) r,x.rises[j]? = some r → risOk x r
theorem slot_first : ∀ (l : List Ses) (p : Int) (b : Bool) (k j : Nat) (y : Ses),l[j]? = some y → y.peer = p → y.inn = b → (slotF l p b k = ((k + j : Nat) : Int) ↔ ∀ (i : Nat) z,i < j → l[i]? = some z → ¬ (z.peer = p ∧ z.inn = b))
 | [],_,_,_,_,_,h,_,_ => by cases h
 | x :: l,p,b,k,0,y,h,h1,h2 => by
  rw [List.getElem?_cons_zero] at h
  injection h with h
  subst h
  rw [slotF,if_pos ⟨h1,h2⟩]
  exact ⟨fun _ i z hi => absurd hi (Nat.not_lt_zero _),fun _ => rfl⟩
 | x :: l,p,b,k,j + 1,y,h,h1,h2 => by
  rw [List.getElem?_cons_succ] at h
  have ih := slot_first l p b (k + 1) j y h h1 h2
  rw [slotF]
  by_cases hx : x.peer = p ∧ x.inn = b
  ·rw [if_pos hx]
   exact ⟨fun h => by omega,fun h => absurd hx (h 0 x (Nat.succ_pos _) List.getElem?_cons_zero)⟩
  ·rw [if_neg hx,show k + (j + 1) = k + 1 + j by omega,ih]
   refine ⟨fun h i z hi hz => ?_,fun h i z hi hz => h (i + 1) z (by omega) (by rw [List.getElem?_cons_succ]; exact hz)⟩
   cases i with
   | zero =>
    rw [List.getElem?_cons_zero] at hz
    injection hz with hz
    rw [← hz]; exact hx
   | succ i =>
    rw [List.getElem?_cons_succ] at hz
    exact h i z (by omega) hz
theorem slot_at {l : List Ses} {j : Nat} {y : Ses} (h : l[j]? = some y) : slotF l y.peer y.inn 0 = (j : Int) ↔ ∀ (i : Nat) z,i < j → l[i]? = some z → ¬ (z.peer = y.peer ∧ z.inn = y.inn) := by
 have := slot_first l y.peer y.inn 0 j y h rfl rfl
 rwa [Nat.zero_add] at this
theorem ac_impl_sessOk (g : NV) (st : St) (hR : RdN st g) (hb : bigN g.x) (hn : 1 ≤ g.n ∧ g.n ≤ 5) : C 102 [.agg #[vI g.id,vI g.n,vS g.s.p g.s.x.items.length,vS g.s.q g.s.x.floors.length,vS g.t.p g.t.l.length,vI g.t.root,vI g.g.cap,vI g.g.frm,vS g.g.p g.g.l.length,vS g.got.p g.got.l.length,vS g.acked.p g.acked.l.length,vS g.seen.p g.seen.t.length,vI g.num,vI g.slots,vS g.sess.p g.sess.l.length,vI g.wait,vI g.limit,vI g.clock,vS g.rises.p g.rises.l.length]] st (fun v s => ∃ x,v = .bool x ∧ (x = true ↔ (1 ≤ g.slots ∧ g.slots ≤ 4) ∧ sessOk g.x) ∧ s = st) := by
 have hs : g.sess.l.length ≤ 1048576 := hb.sess
 refine AC.enterX (i := ⟨[1,4],[1,4,5,14,19,25,27,34,36,43,47,50],[0,1,2,3,4,6,7,8,9,41],[]⟩) [] Try.func102 rfl rfl (by kernel_rfl) (by kernel_rfl) Try.ntmps102 (Nat.le_of_ble_eq_true rfl) rfl ?_
 refine ⟨_,rfl,?_⟩
 refine AW.cutM (1) st [(1,vL 1 0 (0)),(2,vB false)] [(1,0,cNV g)] ⟨rfl,rfl,trivial⟩ ⟨rfl,trivial⟩ rfl fun ρ0 ff => ?_
 refine ⟨_,rfl,?_⟩
 refine ⟨_,op_ldo rfl rfl rfl rfl,?_⟩
 refine ⟨_,rfl,?_⟩
 refine AW.cutM (1) st [(1,vL 1 0 (0)),(2,vB false),(6,vS g.sess.p g.sess.l.length),(7,vI (g.sess.l.length : Int)),(8,vI (0))] [(1,0,cNV g)] ⟨rfl,rfl,rfl,rfl,rfl,trivial⟩ ⟨rfl,trivial⟩ rfl fun ρ0 ff => ?_
 refine AW.loopM (fun i : Nat => [(1,vL 1 0 (0)),(6,vS g.sess.p g.sess.l.length),(7,vI (g.sess.l.length : Int)),(8,vI (i : Int))]) (fun i : Nat => [(1,0,cNV g)]) (fun m (i : Nat) st' => m = g.sess.l.length - i ∧ i ≤ g.sess.l.length ∧ (∀ (j : Nat) x,j < i → g.sess.l[j]? = some x → sesOk g.x j x) ∧ st = st') 0 _ ⟨rfl,rfl,rfl,rfl,trivial⟩ ⟨rfl,trivial⟩ ⟨rfl,Nat.zero_le _,fun j x h => absurd h (Nat.not_lt_zero _),rfl⟩ ?_
 rintro m i ρ0 ff gg st' ⟨rfl,hi,hok,rfl⟩
 refine ⟨_,rfl,?_⟩
 rintro (_|_) h9
 ·replace h9 : ¬ ((i : Int) < (g.sess.l.length : Int)) := of_decide_eq_false h9
  refine AW.cutM (gg) st [(1,vL 1 0 (0)),(6,vS g.sess.p g.sess.l.length),(7,vI (g.sess.l.length : Int)),(8,vI (i : Int)),(9,vB false)] [(1,0,cNV g)] ⟨rfl,rfl,rfl,rfl,rfl,trivial⟩ ⟨rfl,trivial⟩ rfl fun ρ0 ff => ?_
  refine cxs ?_
  refine ⟨_,rfl,?_⟩
  refine ⟨_,op_ldo rfl rfl rfl rfl,?_⟩
  refine ⟨_,rfl,(ac_impl_within g.slots 1 4 st).mono ?_⟩
  rintro _ st ⟨x45,rfl,h45,rfl⟩
  rcases x45 with _|_
  ·replace h45 := of_decide_eq_false h45.symm
   refine ⟨_,rfl,?_⟩
   refine cxs ?_
   exact ⟨.inl rfl,_,rfl,false,rfl,⟨fun h => absurd h Bool.false_ne_true,fun h => (show False from (h45 h.1)).elim⟩,rfl⟩
  ·replace h45 := of_decide_eq_true h45.symm
   refine ⟨_,rfl,?_⟩
   refine ⟨_,op_ldo rfl rfl rfl rfl,?_⟩
   iterate 2 refine ⟨_,rfl,?_⟩
   refine ⟨_,op_ldo rfl rfl rfl rfl,?_⟩
   refine ⟨_,rfl,?_⟩
   rintro (_|_) h52
   ·replace h52 : ¬ ((g.sess.l.length : Int) ≤ g.slots) := of_decide_eq_false h52
    refine ⟨_,rfl,?_⟩
    refine cxs ?_
    exact ⟨.inl rfl,_,rfl,false,rfl,⟨fun h => absurd h Bool.false_ne_true,fun h => (show False from (h52 h.2.1)).elim⟩,rfl⟩
   ·replace h52 : (g.sess.l.length : Int) ≤ g.slots := of_decide_eq_true h52
    refine ⟨_,rfl,?_⟩
    refine cxs ?_
    exact ⟨.inl rfl,_,rfl,true,rfl,⟨fun _ => ⟨h45,h52,upall (P := sesOk g.x) hok (by show g.sess.l.length ≤ i; omega)⟩,fun _ => rfl⟩,rfl⟩
 ·replace h9 : (i : Int) < (g.sess.l.length : Int) := of_decide_eq_true h9
  refine AW.cutM (gg) st [(1,vL 1 0 (0)),(6,vS g.sess.p g.sess.l.length),(7,vI (g.sess.l.length : Int)),(8,vI (i : Int)),(9,vB true)] [(1,0,cNV g)] ⟨rfl,rfl,rfl,rfl,rfl,trivial⟩ ⟨rfl,trivial⟩ rfl fun ρ0 ff => ?_
  refine cxs ?_
  refine op_at i hR.sess (by omega) rfl rfl rfl rfl rfl rfl rfl ?_
  intro x11 b11 d11 k11 hy11 hb11 hm11 hc11 ho11
  refine ⟨_,op_lda rfl rfl rfl rfl rfl hm11 hc11 rfl,?_⟩
  refine ⟨_,rfl,?_⟩
  refine ⟨_,op_sto rfl rfl rfl rfl rfl rfl rfl,?_⟩
  refine AW.cutM (gg + 1) st [(1,vL 1 0 (0)),(3,vI (i : Int)),(4,vL 4 0 (gg)),(6,vS g.sess.p g.sess.l.length),(7,vI (g.sess.l.length : Int)),(8,vI (i : Int)),(9,vB true)] [(1,0,cNV g),(4,gg,[vI x11.peer,vI x11.num,vB x11.inn,vI x11.age])] ⟨rfl,rfl,rfl,rfl,rfl,rfl,rfl,trivial⟩ ⟨rfl,rfl,trivial⟩ rfl fun ρ0 ff => ?_
  refine ⟨_,op_ldo (v := (vNV g)) rfl rfl rfl rfl,?_⟩
  refine ⟨_,rfl,?_⟩
  refine ⟨_,op_ldo rfl rfl rfl rfl,?_⟩
  refine ⟨_,rfl,(ac_impl_isPeer g x11.peer st (by first | assumption | omega)).mono ?_⟩
  rintro _ st ⟨x16,rfl,h16,rfl⟩
  rcases x16 with _|_
  ·replace h16 := fun k => Bool.false_ne_true (h16.2 k)
   iterate 3 refine ⟨_,rfl,?_⟩
   refine ow_cut [(1,vL 1 0 (0)),(3,vI (i : Int)),(4,vL 4 0 (gg)),(6,vS g.sess.p g.sess.l.length),(7,vI (g.sess.l.length : Int)),(8,vI (i : Int)),(9,vB true),(31,vB true)] ⟨rfl,rfl,rfl,rfl,rfl,rfl,rfl,rfl,trivial⟩ fun ρ0 => ?_
   refine ⟨_,rfl,?_⟩
   refine AW.cutM (gg + 1) st [(1,vL 1 0 (0)),(3,vI (i : Int)),(4,vL 4 0 (gg)),(6,vS g.sess.p g.sess.l.length),(7,vI (g.sess.l.length : Int)),(8,vI (i : Int)),(9,vB true),(41,vB true)] [(1,0,cNV g),(4,gg,[vI x11.peer,vI x11.num,vB x11.inn,vI x11.age])] ⟨rfl,rfl,rfl,rfl,rfl,rfl,rfl,rfl,trivial⟩ ⟨rfl,rfl,trivial⟩ rfl fun ρ0 ff => ?_
   refine cxs ?_
   exact ⟨.inl rfl,_,rfl,false,rfl,⟨fun h => absurd h Bool.false_ne_true,fun h => (show False from (h16 (h.2.2 i x11 hy11).1)).elim⟩,rfl⟩
  ·replace h16 := h16.1 rfl
   iterate 2 refine ⟨_,rfl,?_⟩
   refine ⟨_,op_ldo rfl rfl rfl rfl,?_⟩
   refine ⟨_,rfl,(ac_impl_within x11.num 0 100000 st).mono ?_⟩
   rintro _ st ⟨x21,rfl,h21,rfl⟩
   rcases x21 with _|_
   ·replace h21 := of_decide_eq_false h21.symm
    iterate 3 refine ⟨_,rfl,?_⟩
    refine ow_cut [(1,vL 1 0 (0)),(3,vI (i : Int)),(4,vL 4 0 (gg)),(6,vS g.sess.p g.sess.l.length),(7,vI (g.sess.l.length : Int)),(8,vI (i : Int)),(9,vB true),(31,vB true)] ⟨rfl,rfl,rfl,rfl,rfl,rfl,rfl,rfl,trivial⟩ fun ρ0 => ?_
    refine ⟨_,rfl,?_⟩
    refine AW.cutM (gg + 1) st [(1,vL 1 0 (0)),(3,vI (i : Int)),(4,vL 4 0 (gg)),(6,vS g.sess.p g.sess.l.length),(7,vI (g.sess.l.length : Int)),(8,vI (i : Int)),(9,vB true),(41,vB true)] [(1,0,cNV g),(4,gg,[vI x11.peer,vI x11.num,vB x11.inn,vI x11.age])] ⟨rfl,rfl,rfl,rfl,rfl,rfl,rfl,rfl,trivial⟩ ⟨rfl,rfl,trivial⟩ rfl fun ρ0 ff => ?_
    refine cxs ?_
    exact ⟨.inl rfl,_,rfl,false,rfl,⟨fun h => absurd h Bool.false_ne_true,fun h => (show False from (h21 (h.2.2 i x11 hy11).2.1)).elim⟩,rfl⟩
   ·replace h21 := of_decide_eq_true h21.symm
    iterate 3 refine ⟨_,rfl,?_⟩
    refine ⟨_,op_ldo rfl rfl rfl rfl,?_⟩
    refine ⟨_,rfl,?_⟩
    refine ⟨_,op_ldo rfl rfl rfl rfl,?_⟩
    refine ⟨_,rfl,(ac_impl_within x11.age 0 g.wait st).mono ?_⟩
    rintro _ st ⟨x29,rfl,h29,rfl⟩
    rcases x29 with _|_
    ·replace h29 := of_decide_eq_false h29.symm
     refine ⟨_,rfl,?_⟩
     refine ow_cut [(1,vL 1 0 (0)),(3,vI (i : Int)),(4,vL 4 0 (gg)),(6,vS g.sess.p g.sess.l.length),(7,vI (g.sess.l.length : Int)),(8,vI (i : Int)),(9,vB true),(24,vB false),(30,vB true)] ⟨rfl,rfl,rfl,rfl,rfl,rfl,rfl,rfl,rfl,trivial⟩ fun ρ0 => ?_
     iterate 2 refine ⟨_,rfl,?_⟩
     refine AW.cutM (gg + 1) st [(1,vL 1 0 (0)),(3,vI (i : Int)),(4,vL 4 0 (gg)),(6,vS g.sess.p g.sess.l.length),(7,vI (g.sess.l.length : Int)),(8,vI (i : Int)),(9,vB true),(41,vB true)] [(1,0,cNV g),(4,gg,[vI x11.peer,vI x11.num,vB x11.inn,vI x11.age])] ⟨rfl,rfl,rfl,rfl,rfl,rfl,rfl,rfl,trivial⟩ ⟨rfl,rfl,trivial⟩ rfl fun ρ0 ff => ?_
     refine cxs ?_
     exact ⟨.inl rfl,_,rfl,false,rfl,⟨fun h => absurd h Bool.false_ne_true,fun h => (show False from (h29 (h.2.2 i x11 hy11).2.2.1)).elim⟩,rfl⟩
    ·replace h29 := of_decide_eq_true h29.symm
     refine ⟨_,rfl,?_⟩
     refine ow_cut [(1,vL 1 0 (0)),(3,vI (i : Int)),(4,vL 4 0 (gg)),(6,vS g.sess.p g.sess.l.length),(7,vI (g.sess.l.length : Int)),(8,vI (i : Int)),(9,vB true),(24,vB false),(30,vB false)] ⟨rfl,rfl,rfl,rfl,rfl,rfl,rfl,rfl,rfl,trivial⟩ fun ρ0 => ?_
     refine ⟨_,rfl,?_⟩
     refine ⟨_,op_ldo (v := (vNV g)) rfl rfl rfl rfl,?_⟩
     refine ⟨_,rfl,?_⟩
     refine ⟨_,op_ldo rfl rfl rfl rfl,?_⟩
     refine ⟨_,rfl,?_⟩
     refine ⟨_,op_ldo rfl rfl rfl rfl,?_⟩
     refine ⟨_,rfl,(ac_impl_Slot g x11.peer x11.inn st hR (by first | assumption | omega)).mono ?_⟩
     rintro _ st ⟨rfl,rfl⟩
     refine ⟨_,rfl,?_⟩
     rintro (_|_) h40
     ·replace h40 : (slotF g.sess.l x11.peer x11.inn 0) = (i : Int) := bne_eq_false_iff_eq.1 h40
      refine ⟨_,rfl,?_⟩
      refine AW.cutM (gg + 1) st [(1,vL 1 0 (0)),(3,vI (i : Int)),(4,vL 4 0 (gg)),(6,vS g.sess.p g.sess.l.length),(7,vI (g.sess.l.length : Int)),(8,vI (i : Int)),(9,vB true),(41,vB false)] [(1,0,cNV g),(4,gg,[vI x11.peer,vI x11.num,vB x11.inn,vI x11.age])] ⟨rfl,rfl,rfl,rfl,rfl,rfl,rfl,rfl,trivial⟩ ⟨rfl,rfl,trivial⟩ rfl fun ρ0 ff => ?_
      refine cxs ?_
      have ew42 : IntKind.wrap .i64 ((i : Int) + (1)) = ((i + 1 : Nat) : Int) := (wrap_i64 (by omega) (by omega)).trans (by omega)
      refine ⟨_,rfl,?_⟩
      exact ⟨i + 1,g.sess.l.length - (i + 1),by omega,⟨rfl,rfl,rfl,congrArg (Value.int .i64) ew42,trivial⟩,⟨rfl,trivial⟩,rfl,by omega,upto (P := sesOk g.x) hok hy11 ⟨h16,h21,h29,(slot_at hy11).1 h40⟩,rfl⟩
     ·replace h40 : ¬ ((slotF g.sess.l x11.peer x11.inn 0) = (i : Int)) := bne_iff_ne.1 h40
      refine ⟨_,rfl,?_⟩
      refine AW.cutM (gg + 1) st [(1,vL 1 0 (0)),(3,vI (i : Int)),(4,vL 4 0 (gg)),(6,vS g.sess.p g.sess.l.length),(7,vI (g.sess.l.length : Int)),(8,vI (i : Int)),(9,vB true),(41,vB true)] [(1,0,cNV g),(4,gg,[vI x11.peer,vI x11.num,vB x11.inn,vI x11.age])] ⟨rfl,rfl,rfl,rfl,rfl,rfl,rfl,rfl,trivial⟩ ⟨rfl,rfl,trivial⟩ rfl fun ρ0 ff => ?_
      refine cxs ?_
      exact ⟨.inl rfl,_,rfl,false,rfl,⟨fun h => absurd h Bool.false_ne_true,fun h => (show False from (h40 ((slot_at hy11).2 (h.2.2 i x11 hy11).2.2.2))).elim⟩,rfl⟩
theorem ac_spec_l11Sess (g : NV) (st : St) (hR : RdN st g) (hb : bigN g.x) (hn : 1 ≤ g.n ∧ g.n ≤ 5) : C 89 [.agg #[vI g.id,vI g.n,vS g.s.p g.s.x.items.length,vS g.s.q g.s.x.floors.length,vS g.t.p g.t.l.length,vI g.t.root,vI g.g.cap,vI g.g.frm,vS g.g.p g.g.l.length,vS g.got.p g.got.l.length,vS g.acked.p g.acked.l.length,vS g.seen.p g.seen.t.length,vI g.num,vI g.slots,vS g.sess.p g.sess.l.length,vI g.wait,vI g.limit,vI g.clock,vS g.rises.p g.rises.l.length]] st (fun v s => ∃ x,v = .bool x ∧ (x = true ↔ sessOk g.x) ∧ s = st) := by
 have hs : g.sess.l.length ≤ 1048576 := hb.sess
 refine AC.enterX (i := ⟨[1,4],[1,4,6,9,13,19,24,26,32,34,39,45,47,57,63,67,73],[0,1,2,3,4,5,11,16,51,54,76],[]⟩) [(12,[],[])] Try.func89 rfl rfl (by kernel_rfl) (by kernel_rfl) Try.ntmps89 (Nat.le_of_ble_eq_true rfl) rfl ?_
 refine ⟨_,rfl,?_⟩
 refine AW.cutM (1) st [(1,vL 1 0 (0)),(2,vB false)] [(1,0,cNV g)] ⟨rfl,rfl,trivial⟩ ⟨rfl,trivial⟩ rfl fun ρ0 ff => ?_
 refine ⟨_,rfl,?_⟩
 refine ⟨_,op_ldo rfl rfl rfl rfl,?_⟩
 iterate 2 refine ⟨_,rfl,?_⟩
 refine ⟨_,op_ldo rfl rfl rfl rfl,?_⟩
 refine ⟨_,rfl,?_⟩
 rintro (_|_) h11
 ·replace h11 : ¬ ((g.sess.l.length : Int) > g.slots) := of_decide_eq_false h11
  refine AW.cutM (1) st [(1,vL 1 0 (0)),(2,vB false),(11,vB false)] [(1,0,cNV g)] ⟨rfl,rfl,rfl,trivial⟩ ⟨rfl,trivial⟩ rfl fun ρ0 ff => ?_
  refine cxs ?_
  refine AW.cutM (1) st [(1,vL 1 0 (0)),(2,vB false),(3,vI (0))] [(1,0,cNV g)] ⟨rfl,rfl,rfl,trivial⟩ ⟨rfl,trivial⟩ rfl fun ρ0 ff => ?_
  refine AW.loopM (fun i : Nat => [(1,vL 1 0 (0)),(3,vI (i : Int))]) (fun i : Nat => [(1,0,cNV g)]) (fun m (i : Nat) st' => m = g.sess.l.length - i ∧ i ≤ g.sess.l.length ∧ (∀ (j : Nat) x,j < i → g.sess.l[j]? = some x → sesOk g.x j x) ∧ st = st') 0 _ ⟨rfl,rfl,trivial⟩ ⟨rfl,trivial⟩ ⟨rfl,Nat.zero_le _,fun j x h => absurd h (Nat.not_lt_zero _),rfl⟩ ?_
  rintro m i ρ0 ff gg st' ⟨rfl,hi,hok,rfl⟩
  refine ⟨_,rfl,?_⟩
  refine ⟨_,op_ldo rfl rfl rfl rfl,?_⟩
  iterate 2 refine ⟨_,rfl,?_⟩
  rintro (_|_) h16
  ·replace h16 : ¬ ((i : Int) < (g.sess.l.length : Int)) := of_decide_eq_false h16
   refine AW.cutM (gg) st [(1,vL 1 0 (0)),(3,vI (i : Int)),(16,vB false)] [(1,0,cNV g)] ⟨rfl,rfl,rfl,trivial⟩ ⟨rfl,trivial⟩ rfl fun ρ0 ff => ?_
   refine cxs ?_
   refine cxs ?_
   exact ⟨.inl rfl,_,rfl,true,rfl,⟨fun _ => ⟨by show (g.sess.l.length : Int) ≤ g.slots; omega,upall (P := sesOk g.x) hok (by show g.sess.l.length ≤ i; omega)⟩,fun _ => rfl⟩,rfl⟩
  ·replace h16 : (i : Int) < (g.sess.l.length : Int) := of_decide_eq_true h16
   refine AW.cutM (gg) st [(1,vL 1 0 (0)),(3,vI (i : Int)),(16,vB true)] [(1,0,cNV g)] ⟨rfl,rfl,rfl,trivial⟩ ⟨rfl,trivial⟩ rfl fun ρ0 ff => ?_
   refine cxs ?_
   refine ⟨_,rfl,?_⟩
   refine ⟨_,op_ldo rfl rfl rfl rfl,?_⟩
   refine op_at i hR.sess (by omega) rfl rfl rfl rfl rfl rfl rfl ?_
   intro x22 b22 d22 k22 hy22 hb22 hm22 hc22 ho22
   refine ⟨_,op_lda rfl rfl rfl rfl rfl hm22 hc22 rfl,?_⟩
   refine ⟨_,rfl,?_⟩
   refine ⟨_,op_sto rfl rfl rfl rfl rfl rfl rfl,?_⟩
   refine AW.cutM (gg + 1) st [(1,vL 1 0 (0)),(3,vI (i : Int)),(4,vL 4 0 (gg)),(16,vB true)] [(1,0,cNV g),(4,gg,[vI x22.peer,vI x22.num,vB x22.inn,vI x22.age])] ⟨rfl,rfl,rfl,rfl,trivial⟩ ⟨rfl,rfl,trivial⟩ rfl fun ρ0 ff => ?_
   refine ⟨_,rfl,?_⟩
   refine ⟨_,op_ldo rfl rfl rfl rfl,?_⟩
   refine ⟨_,rfl,?_⟩
   refine ⟨_,op_ldo rfl rfl rfl rfl,?_⟩
   have ew28 : IntKind.wrap .i64 (g.n - (1)) = g.n - (1) := wrap_i64 (by omega) (by omega)
   refine ⟨_,rfl,?_⟩
   refine ⟨_,rfl,(ac_spec_l1In x22.peer 0 (IntKind.wrap .i64 (g.n - (1))) st).mono ?_⟩
   rintro _ st ⟨x29,rfl,h29,rfl⟩
   rcases x29 with _|_
   ·replace h29 := of_decide_eq_false h29.symm
    rw [ew28] at h29
    iterate 3 refine ⟨_,rfl,?_⟩
    refine ow_cut [(1,vL 1 0 (0)),(3,vI (i : Int)),(4,vL 4 0 (gg)),(16,vB true),(43,vB true)] ⟨rfl,rfl,rfl,rfl,rfl,trivial⟩ fun ρ0 => ?_
    refine ⟨_,rfl,?_⟩
    refine AW.cutM (gg + 1) st [(1,vL 1 0 (0)),(3,vI (i : Int)),(4,vL 4 0 (gg)),(16,vB true),(51,vB true)] [(1,0,cNV g),(4,gg,[vI x22.peer,vI x22.num,vB x22.inn,vI x22.age])] ⟨rfl,rfl,rfl,rfl,rfl,trivial⟩ ⟨rfl,rfl,trivial⟩ rfl fun ρ0 ff => ?_
    refine cxs ?_
    exact ⟨.inl rfl,_,rfl,false,rfl,⟨fun h => absurd h Bool.false_ne_true,fun h => (show False from (h29 (h.2 i x22 hy22).1.1)).elim⟩,rfl⟩
   ·replace h29 := of_decide_eq_true h29.symm
    rw [ew28] at h29
    iterate 2 refine ⟨_,rfl,?_⟩
    refine ⟨_,op_ldo rfl rfl rfl rfl,?_⟩
    refine ⟨_,rfl,?_⟩
    refine ⟨_,op_ldo rfl rfl rfl rfl,?_⟩
    refine ⟨_,rfl,?_⟩
    rintro (_|_) h36
    ·replace h36 : ¬ (x22.peer = g.id) := beq_eq_false_iff_ne.1 h36
     iterate 2 refine ⟨_,rfl,?_⟩
     refine ⟨_,op_ldo rfl rfl rfl rfl,?_⟩
     refine ⟨_,rfl,(ac_spec_l1In x22.num 0 100000 st).mono ?_⟩
     rintro _ st ⟨x41,rfl,h41,rfl⟩
     rcases x41 with _|_
     ·replace h41 := of_decide_eq_false h41.symm
      refine ow_cut [(1,vL 1 0 (0)),(3,vI (i : Int)),(4,vL 4 0 (gg)),(16,vB true),(38,vB false),(41,vB false)] ⟨rfl,rfl,rfl,rfl,rfl,rfl,trivial⟩ fun ρ0 => ?_
      iterate 3 refine ⟨_,rfl,?_⟩
      refine AW.cutM (gg + 1) st [(1,vL 1 0 (0)),(3,vI (i : Int)),(4,vL 4 0 (gg)),(16,vB true),(51,vB true)] [(1,0,cNV g),(4,gg,[vI x22.peer,vI x22.num,vB x22.inn,vI x22.age])] ⟨rfl,rfl,rfl,rfl,rfl,trivial⟩ ⟨rfl,rfl,trivial⟩ rfl fun ρ0 ff => ?_
      refine cxs ?_
      exact ⟨.inl rfl,_,rfl,false,rfl,⟨fun h => absurd h Bool.false_ne_true,fun h => (show False from (h41 (h.2 i x22 hy22).2.1)).elim⟩,rfl⟩
     ·replace h41 := of_decide_eq_true h41.symm
      refine ow_cut [(1,vL 1 0 (0)),(3,vI (i : Int)),(4,vL 4 0 (gg)),(16,vB true),(38,vB false),(41,vB true)] ⟨rfl,rfl,rfl,rfl,rfl,rfl,trivial⟩ fun ρ0 => ?_
      iterate 3 refine ⟨_,rfl,?_⟩
      refine ⟨_,op_ldo rfl rfl rfl rfl,?_⟩
      refine ⟨_,rfl,?_⟩
      refine ⟨_,op_ldo rfl rfl rfl rfl,?_⟩
      refine ⟨_,rfl,(ac_spec_l1In x22.age 0 g.wait st).mono ?_⟩
      rintro _ st ⟨x49,rfl,h49,rfl⟩
      rcases x49 with _|_
      ·replace h49 := of_decide_eq_false h49.symm
       iterate 2 refine ⟨_,rfl,?_⟩
       refine AW.cutM (gg + 1) st [(1,vL 1 0 (0)),(3,vI (i : Int)),(4,vL 4 0 (gg)),(16,vB true),(51,vB true)] [(1,0,cNV g),(4,gg,[vI x22.peer,vI x22.num,vB x22.inn,vI x22.age])] ⟨rfl,rfl,rfl,rfl,rfl,trivial⟩ ⟨rfl,rfl,trivial⟩ rfl fun ρ0 ff => ?_
       refine cxs ?_
       exact ⟨.inl rfl,_,rfl,false,rfl,⟨fun h => absurd h Bool.false_ne_true,fun h => (show False from (h49 (h.2 i x22 hy22).2.2.1)).elim⟩,rfl⟩
      ·replace h49 := of_decide_eq_true h49.symm
       iterate 2 refine ⟨_,rfl,?_⟩
       refine AW.cutM (gg + 1) st [(1,vL 1 0 (0)),(3,vI (i : Int)),(4,vL 4 0 (gg)),(16,vB true),(51,vB false)] [(1,0,cNV g),(4,gg,[vI x22.peer,vI x22.num,vB x22.inn,vI x22.age])] ⟨rfl,rfl,rfl,rfl,rfl,trivial⟩ ⟨rfl,rfl,trivial⟩ rfl fun ρ0 ff => ?_
       refine cxs ?_
       refine AW.cutM (gg + 1) st [(1,vL 1 0 (0)),(3,vI (i : Int)),(4,vL 4 0 (gg)),(5,vI (0)),(16,vB true),(51,vB false)] [(1,0,cNV g),(4,gg,[vI x22.peer,vI x22.num,vB x22.inn,vI x22.age])] ⟨rfl,rfl,rfl,rfl,rfl,rfl,trivial⟩ ⟨rfl,rfl,trivial⟩ rfl fun ρ0 ff => ?_
       refine AW.loopM (fun k : Nat => [(1,vL 1 0 (0)),(3,vI (i : Int)),(4,vL 4 0 (gg)),(5,vI (k : Int)),(16,vB true),(51,vB false)]) (fun k : Nat => [(1,0,cNV g),(4,gg,[vI x22.peer,vI x22.num,vB x22.inn,vI x22.age])]) (fun m (k : Nat) st' => m = i - k ∧ k ≤ i ∧ (∀ (j : Nat) z,j < k → g.sess.l[j]? = some z → ¬ (z.peer = x22.peer ∧ z.inn = x22.inn)) ∧ st = st') 0 _ ⟨rfl,rfl,rfl,rfl,rfl,rfl,trivial⟩ ⟨rfl,rfl,trivial⟩ ⟨rfl,Nat.zero_le _,fun j x h => absurd h (Nat.not_lt_zero _),rfl⟩ ?_
       rintro m k ρ0 ff gg2 st' ⟨rfl,hk,hno,rfl⟩
       refine ⟨_,rfl,?_⟩
       rintro (_|_) h54
       ·replace h54 : ¬ ((k : Int) < (i : Int)) := of_decide_eq_false h54
        refine AW.cutM (gg2) st [(1,vL 1 0 (0)),(3,vI (i : Int)),(4,vL 4 0 (gg)),(5,vI (k : Int)),(16,vB true),(51,vB false),(54,vB false)] [(1,0,cNV g),(4,gg,[vI x22.peer,vI x22.num,vB x22.inn,vI x22.age])] ⟨rfl,rfl,rfl,rfl,rfl,rfl,rfl,trivial⟩ ⟨rfl,rfl,trivial⟩ rfl fun ρ0 ff => ?_
        refine cxs ?_
        have ew18 : IntKind.wrap .i64 ((i : Int) + (1)) = ((i + 1 : Nat) : Int) := (wrap_i64 (by omega) (by omega)).trans (by omega)
        refine ⟨_,rfl,?_⟩
        exact ⟨i + 1,g.sess.l.length - (i + 1),by omega,⟨rfl,congrArg (Value.int .i64) ew18,trivial⟩,⟨rfl,trivial⟩,rfl,by omega,upto (P := sesOk g.x) hok hy22 ⟨⟨h29,h36⟩,h41,h49,fun j z hj hz => hno j z (by omega) hz⟩,rfl⟩
       ·replace h54 : (k : Int) < (i : Int) := of_decide_eq_true h54
        refine AW.cutM (gg2) st [(1,vL 1 0 (0)),(3,vI (i : Int)),(4,vL 4 0 (gg)),(5,vI (k : Int)),(16,vB true),(51,vB false),(54,vB true)] [(1,0,cNV g),(4,gg,[vI x22.peer,vI x22.num,vB x22.inn,vI x22.age])] ⟨rfl,rfl,rfl,rfl,rfl,rfl,rfl,trivial⟩ ⟨rfl,rfl,trivial⟩ rfl fun ρ0 ff => ?_
        refine cxs ?_
        refine ⟨_,rfl,?_⟩
        refine ⟨_,op_ldo rfl rfl rfl rfl,?_⟩
        refine op_at k hR.sess (by omega) rfl rfl rfl rfl rfl rfl rfl ?_
        intro x60 b60 d60 k60 hy60 hb60 hm60 hc60 ho60
        refine ⟨_,rfl,?_⟩
        refine ⟨_,op_ldc (i := 0) rfl rfl rfl rfl hm60 hc60 rfl rfl,?_⟩
        refine ⟨_,rfl,?_⟩
        refine ⟨_,op_ldo rfl rfl rfl rfl,?_⟩
        refine ⟨_,rfl,?_⟩
        rintro (_|_) h65
        ·replace h65 : ¬ (x60.peer = x22.peer) := beq_eq_false_iff_ne.1 h65
         refine ⟨_,rfl,?_⟩
         refine AW.cutM (gg2) st [(1,vL 1 0 (0)),(3,vI (i : Int)),(4,vL 4 0 (gg)),(5,vI (k : Int)),(16,vB true),(51,vB false),(54,vB true),(76,vB false)] [(1,0,cNV g),(4,gg,[vI x22.peer,vI x22.num,vB x22.inn,vI x22.age])] ⟨rfl,rfl,rfl,rfl,rfl,rfl,rfl,rfl,trivial⟩ ⟨rfl,rfl,trivial⟩ rfl fun ρ0 ff => ?_
         refine cxs ?_
         have ew56 : IntKind.wrap .i64 ((k : Int) + (1)) = ((k + 1 : Nat) : Int) := (wrap_i64 (by omega) (by omega)).trans (by omega)
         refine ⟨_,rfl,?_⟩
         exact ⟨k + 1,i - (k + 1),by omega,⟨rfl,rfl,rfl,congrArg (Value.int .i64) ew56,rfl,rfl,trivial⟩,⟨rfl,rfl,trivial⟩,rfl,by omega,upto (P := fun _ (z : Ses) => ¬ (z.peer = x22.peer ∧ z.inn = x22.inn)) hno hy60 (fun q => h65 q.1),rfl⟩
        ·replace h65 : x60.peer = x22.peer := beq_iff_eq.1 h65
         refine ⟨_,rfl,?_⟩
         refine ⟨_,op_ldo rfl rfl rfl rfl,?_⟩
         refine op_el k hR.sess hy60 rfl rfl rfl rfl rfl rfl rfl ?_
         intro b70 d70 k70 hb70 hm70 hc70 ho70
         refine ⟨_,rfl,?_⟩
         refine ⟨_,op_ldc (i := 2) rfl rfl rfl rfl hm70 hc70 rfl rfl,?_⟩
         refine ⟨_,rfl,?_⟩
         refine ⟨_,op_ldo rfl rfl rfl rfl,?_⟩
         refine ⟨_,rfl,?_⟩
         rintro (_|_) h75
         ·replace h75 : ¬ (x60.inn = x22.inn) := beq_eq_false_iff_ne.1 h75
          refine ⟨_,rfl,?_⟩
          refine AW.cutM (gg2) st [(1,vL 1 0 (0)),(3,vI (i : Int)),(4,vL 4 0 (gg)),(5,vI (k : Int)),(16,vB true),(51,vB false),(54,vB true),(76,vB false)] [(1,0,cNV g),(4,gg,[vI x22.peer,vI x22.num,vB x22.inn,vI x22.age])] ⟨rfl,rfl,rfl,rfl,rfl,rfl,rfl,rfl,trivial⟩ ⟨rfl,rfl,trivial⟩ rfl fun ρ0 ff => ?_
          refine cxs ?_
          have ew56 : IntKind.wrap .i64 ((k : Int) + (1)) = ((k + 1 : Nat) : Int) := (wrap_i64 (by omega) (by omega)).trans (by omega)
          refine ⟨_,rfl,?_⟩
          exact ⟨k + 1,i - (k + 1),by omega,⟨rfl,rfl,rfl,congrArg (Value.int .i64) ew56,rfl,rfl,trivial⟩,⟨rfl,rfl,trivial⟩,rfl,by omega,upto (P := fun _ (z : Ses) => ¬ (z.peer = x22.peer ∧ z.inn = x22.inn)) hno hy60 (fun q => h75 q.2),rfl⟩
         ·replace h75 : x60.inn = x22.inn := beq_iff_eq.1 h75
          refine ⟨_,rfl,?_⟩
          refine AW.cutM (gg2) st [(1,vL 1 0 (0)),(3,vI (i : Int)),(4,vL 4 0 (gg)),(5,vI (k : Int)),(16,vB true),(51,vB false),(54,vB true),(76,vB true)] [(1,0,cNV g),(4,gg,[vI x22.peer,vI x22.num,vB x22.inn,vI x22.age])] ⟨rfl,rfl,rfl,rfl,rfl,rfl,rfl,rfl,trivial⟩ ⟨rfl,rfl,trivial⟩ rfl fun ρ0 ff => ?_
          refine cxs ?_
          exact ⟨.inl rfl,_,rfl,false,rfl,⟨fun h => absurd h Bool.false_ne_true,fun h => (show False from ((h.2 i x22 hy22).2.2.2 k x60 (by omega) hy60 ⟨h65,h75⟩)).elim⟩,rfl⟩
    ·replace h36 : x22.peer = g.id := beq_iff_eq.1 h36
     iterate 2 refine ⟨_,rfl,?_⟩
     refine ow_cut [(1,vL 1 0 (0)),(3,vI (i : Int)),(4,vL 4 0 (gg)),(16,vB true),(43,vB true)] ⟨rfl,rfl,rfl,rfl,rfl,trivial⟩ fun ρ0 => ?_
     refine ⟨_,rfl,?_⟩
     refine AW.cutM (gg + 1) st [(1,vL 1 0 (0)),(3,vI (i : Int)),(4,vL 4 0 (gg)),(16,vB true),(51,vB true)] [(1,0,cNV g),(4,gg,[vI x22.peer,vI x22.num,vB x22.inn,vI x22.age])] ⟨rfl,rfl,rfl,rfl,rfl,trivial⟩ ⟨rfl,rfl,trivial⟩ rfl fun ρ0 ff => ?_
     refine cxs ?_
     exact ⟨.inl rfl,_,rfl,false,rfl,⟨fun h => absurd h Bool.false_ne_true,fun h => (show False from ((h.2 i x22 hy22).1.2 h36)).elim⟩,rfl⟩
 ·replace h11 : (g.sess.l.length : Int) > g.slots := of_decide_eq_true h11
  refine AW.cutM (1) st [(1,vL 1 0 (0)),(2,vB false),(11,vB true)] [(1,0,cNV g)] ⟨rfl,rfl,rfl,trivial⟩ ⟨rfl,trivial⟩ rfl fun ρ0 ff => ?_
  refine cxs ?_
  exact ⟨.inl rfl,_,rfl,false,rfl,⟨fun h => absurd h Bool.false_ne_true,fun h => (show False from (absurd h.1 (by show ¬ (g.sess.l.length : Int) ≤ g.slots; omega))).elim⟩,rfl⟩
theorem ac_impl_risesOk (g : NV) (st : St) (hR : RdN st g) (hb : bigN g.x) : C 103 [.agg #[vI g.id,vI g.n,vS g.s.p g.s.x.items.length,vS g.s.q g.s.x.floors.length,vS g.t.p g.t.l.length,vI g.t.root,vI g.g.cap,vI g.g.frm,vS g.g.p g.g.l.length,vS g.got.p g.got.l.length,vS g.acked.p g.acked.l.length,vS g.seen.p g.seen.t.length,vI g.num,vI g.slots,vS g.sess.p g.sess.l.length,vI g.wait,vI g.limit,vI g.clock,vS g.rises.p g.rises.l.length]] st (fun v s => ∃ x,v = .bool x ∧ (x = true ↔ risesOk g.x) ∧ s = st) := by
 have hs : g.rises.l.length ≤ 1048576 := hb.rises
 refine AC.enterX (i := ⟨[1,4],[1,4,5,12,17,23,25,31],[0,1,2,4,6,7,8,9,29],[]⟩) [] Try.func103 rfl rfl (by kernel_rfl) (by kernel_rfl) Try.ntmps103 (Nat.le_of_ble_eq_true rfl) rfl ?_
 refine ⟨_,rfl,?_⟩
 refine AW.cutM (1) st [(1,vL 1 0 (0)),(2,vB false)] [(1,0,cNV g)] ⟨rfl,rfl,trivial⟩ ⟨rfl,trivial⟩ rfl fun ρ0 ff => ?_
 refine ⟨_,rfl,?_⟩
 refine ⟨_,op_ldo rfl rfl rfl rfl,?_⟩
 refine ⟨_,rfl,?_⟩
 refine AW.cutM (1) st [(1,vL 1 0 (0)),(2,vB false),(6,vS g.rises.p g.rises.l.length),(7,vI (g.rises.l.length : Int)),(8,vI (0))] [(1,0,cNV g)] ⟨rfl,rfl,rfl,rfl,rfl,trivial⟩ ⟨rfl,trivial⟩ rfl fun ρ0 ff => ?_
 refine AW.loopM (fun i : Nat => [(1,vL 1 0 (0)),(6,vS g.rises.p g.rises.l.length),(7,vI (g.rises.l.length : Int)),(8,vI (i : Int))]) (fun i : Nat => [(1,0,cNV g)]) (fun m (i : Nat) st' => m = g.rises.l.length - i ∧ i ≤ g.rises.l.length ∧ (∀ (j : Nat) x,j < i → g.rises.l[j]? = some x → risOk g.x x) ∧ st = st') 0 _ ⟨rfl,rfl,rfl,rfl,trivial⟩ ⟨rfl,trivial⟩ ⟨rfl,Nat.zero_le _,fun j x h => absurd h (Nat.not_lt_zero _),rfl⟩ ?_
 rintro m i ρ0 ff gg st' ⟨rfl,hi,hok,rfl⟩
 refine ⟨_,rfl,?_⟩
 rintro (_|_) h9
 ·replace h9 : ¬ ((i : Int) < (g.rises.l.length : Int)) := of_decide_eq_false h9
  refine AW.cutM (gg) st [(1,vL 1 0 (0)),(6,vS g.rises.p g.rises.l.length),(7,vI (g.rises.l.length : Int)),(8,vI (i : Int)),(9,vB false)] [(1,0,cNV g)] ⟨rfl,rfl,rfl,rfl,rfl,trivial⟩ ⟨rfl,trivial⟩ rfl fun ρ0 ff => ?_
  refine cxs ?_
  refine ⟨_,rfl,?_⟩
  refine ⟨_,op_ldo rfl rfl rfl rfl,?_⟩
  iterate 2 refine ⟨_,rfl,?_⟩
  rintro (_|_) h34
  ·replace h34 : ¬ ((g.rises.l.length : Int) = (5)) := beq_eq_false_iff_ne.1 h34
   refine cxs ?_
   exact ⟨.inl rfl,_,rfl,false,rfl,⟨fun h => absurd h Bool.false_ne_true,fun h => (show False from (h34 (by have h1 : g.rises.l.length = 5 := h.1; omega))).elim⟩,rfl⟩
  ·replace h34 : (g.rises.l.length : Int) = (5) := beq_iff_eq.1 h34
   refine cxs ?_
   exact ⟨.inl rfl,_,rfl,true,rfl,⟨fun _ => ⟨by show g.rises.l.length = 5; omega,upall (P := fun _ => risOk g.x) hok (by show g.rises.l.length ≤ i; omega)⟩,fun _ => rfl⟩,rfl⟩
 ·replace h9 : (i : Int) < (g.rises.l.length : Int) := of_decide_eq_true h9
  refine AW.cutM (gg) st [(1,vL 1 0 (0)),(6,vS g.rises.p g.rises.l.length),(7,vI (g.rises.l.length : Int)),(8,vI (i : Int)),(9,vB true)] [(1,0,cNV g)] ⟨rfl,rfl,rfl,rfl,rfl,trivial⟩ ⟨rfl,trivial⟩ rfl fun ρ0 ff => ?_
  refine cxs ?_
  refine op_at i hR.rises (by omega) rfl rfl rfl rfl rfl rfl rfl ?_
  intro x10 b10 d10 k10 hy10 hb10 hm10 hc10 ho10
  refine ⟨_,op_lda rfl rfl rfl rfl rfl hm10 hc10 rfl,?_⟩
  refine ⟨_,rfl,?_⟩
  refine ⟨_,op_sto rfl rfl rfl rfl rfl rfl rfl,?_⟩
  refine AW.cutM (gg + 1) st [(1,vL 1 0 (0)),(4,vL 4 0 (gg)),(6,vS g.rises.p g.rises.l.length),(7,vI (g.rises.l.length : Int)),(8,vI (i : Int)),(9,vB true)] [(1,0,cNV g),(4,gg,[vI x10.inc,vI x10.beat,vI x10.tick])] ⟨rfl,rfl,rfl,rfl,rfl,rfl,trivial⟩ ⟨rfl,rfl,trivial⟩ rfl fun ρ0 ff => ?_
  refine ⟨_,rfl,?_⟩
  refine ⟨_,op_ldo rfl rfl rfl rfl,?_⟩
  refine ⟨_,rfl,(ac_impl_within x10.inc 0 1000 st).mono ?_⟩
  rintro _ st ⟨x14,rfl,h14,rfl⟩
  rcases x14 with _|_
  ·replace h14 := of_decide_eq_false h14.symm
   iterate 3 refine ⟨_,rfl,?_⟩
   refine AW.cutM (gg + 1) st [(1,vL 1 0 (0)),(4,vL 4 0 (gg)),(6,vS g.rises.p g.rises.l.length),(7,vI (g.rises.l.length : Int)),(8,vI (i : Int)),(9,vB true),(29,vB true)] [(1,0,cNV g),(4,gg,[vI x10.inc,vI x10.beat,vI x10.tick])] ⟨rfl,rfl,rfl,rfl,rfl,rfl,rfl,trivial⟩ ⟨rfl,rfl,trivial⟩ rfl fun ρ0 ff => ?_
   refine cxs ?_
   exact ⟨.inl rfl,_,rfl,false,rfl,⟨fun h => absurd h Bool.false_ne_true,fun h => (show False from (h14 (h.2 i x10 hy10).1)).elim⟩,rfl⟩
  ·replace h14 := of_decide_eq_true h14.symm
   iterate 2 refine ⟨_,rfl,?_⟩
   refine ⟨_,op_ldo rfl rfl rfl rfl,?_⟩
   refine ⟨_,rfl,(ac_impl_within x10.beat 0 100000 st).mono ?_⟩
   rintro _ st ⟨x19,rfl,h19,rfl⟩
   rcases x19 with _|_
   ·replace h19 := of_decide_eq_false h19.symm
    iterate 3 refine ⟨_,rfl,?_⟩
    refine AW.cutM (gg + 1) st [(1,vL 1 0 (0)),(4,vL 4 0 (gg)),(6,vS g.rises.p g.rises.l.length),(7,vI (g.rises.l.length : Int)),(8,vI (i : Int)),(9,vB true),(29,vB true)] [(1,0,cNV g),(4,gg,[vI x10.inc,vI x10.beat,vI x10.tick])] ⟨rfl,rfl,rfl,rfl,rfl,rfl,rfl,trivial⟩ ⟨rfl,rfl,trivial⟩ rfl fun ρ0 ff => ?_
    refine cxs ?_
    exact ⟨.inl rfl,_,rfl,false,rfl,⟨fun h => absurd h Bool.false_ne_true,fun h => (show False from (h19 (h.2 i x10 hy10).2.1)).elim⟩,rfl⟩
   ·replace h19 := of_decide_eq_true h19.symm
    iterate 3 refine ⟨_,rfl,?_⟩
    refine ⟨_,op_ldo rfl rfl rfl rfl,?_⟩
    refine ⟨_,rfl,?_⟩
    refine ⟨_,op_ldo rfl rfl rfl rfl,?_⟩
    refine ⟨_,rfl,(ac_impl_within x10.tick 0 g.clock st).mono ?_⟩
    rintro _ st ⟨x27,rfl,h27,rfl⟩
    rcases x27 with _|_
    ·replace h27 := of_decide_eq_false h27.symm
     iterate 2 refine ⟨_,rfl,?_⟩
     refine AW.cutM (gg + 1) st [(1,vL 1 0 (0)),(4,vL 4 0 (gg)),(6,vS g.rises.p g.rises.l.length),(7,vI (g.rises.l.length : Int)),(8,vI (i : Int)),(9,vB true),(29,vB true)] [(1,0,cNV g),(4,gg,[vI x10.inc,vI x10.beat,vI x10.tick])] ⟨rfl,rfl,rfl,rfl,rfl,rfl,rfl,trivial⟩ ⟨rfl,rfl,trivial⟩ rfl fun ρ0 ff => ?_
     refine cxs ?_
     exact ⟨.inl rfl,_,rfl,false,rfl,⟨fun h => absurd h Bool.false_ne_true,fun h => (show False from (h27 (h.2 i x10 hy10).2.2)).elim⟩,rfl⟩
    ·replace h27 := of_decide_eq_true h27.symm
     iterate 2 refine ⟨_,rfl,?_⟩
     refine AW.cutM (gg + 1) st [(1,vL 1 0 (0)),(4,vL 4 0 (gg)),(6,vS g.rises.p g.rises.l.length),(7,vI (g.rises.l.length : Int)),(8,vI (i : Int)),(9,vB true),(29,vB false)] [(1,0,cNV g),(4,gg,[vI x10.inc,vI x10.beat,vI x10.tick])] ⟨rfl,rfl,rfl,rfl,rfl,rfl,rfl,trivial⟩ ⟨rfl,rfl,trivial⟩ rfl fun ρ0 ff => ?_
     refine cxs ?_
     have ew30 : IntKind.wrap .i64 ((i : Int) + (1)) = ((i + 1 : Nat) : Int) := (wrap_i64 (by omega) (by omega)).trans (by omega)
     refine ⟨_,rfl,?_⟩
     exact ⟨i + 1,g.rises.l.length - (i + 1),by omega,⟨rfl,rfl,rfl,congrArg (Value.int .i64) ew30,trivial⟩,⟨rfl,trivial⟩,rfl,by omega,upto (P := fun _ => risOk g.x) hok hy10 ⟨h14,h19,h27⟩,rfl⟩
structure nodeOk (x : Nd) : Prop where
 n : 1 ≤ x.n ∧ x.n ≤ 5
 id : 0 ≤ x.id ∧ x.id ≤ x.n - 1
 s : stateOk x.s
 t : x.t = treeF x.s
 g : logOk x.g
 got : vecOk x.got x.n
 acked : vecOk x.acked x.n
 seq : x.got[x.id.toNat]? = some (logSeq x.g)
 ack : ∀ (j : Nat) y,x.acked[j]? = some y → y ≤ logSeq x.g
 seen : tableOk x.seen x.n
 num : 0 ≤ x.num ∧ x.num ≤ 100000
 clock : 0 ≤ x.clock ∧ x.clock ≤ 100000
 wait : 1 ≤ x.wait ∧ x.wait ≤ 20
 limit : 1 ≤ x.limit ∧ x.limit ≤ 50
 slots : 1 ≤ x.slots ∧ x.slots ≤ 4
 sess : sessOk x
 rises : risesOk x
theorem ac_impl_NodeOk (g : NV) (st : St) (hR : RdN st g) (hb : bigN g.x) : C 29 [.agg #[vI g.id,vI g.n,vS g.s.p g.s.x.items.length,vS g.s.q g.s.x.floors.length,vS g.t.p g.t.l.length,vI g.t.root,vI g.g.cap,vI g.g.frm,vS g.g.p g.g.l.length,vS g.got.p g.got.l.length,vS g.acked.p g.acked.l.length,vS g.seen.p g.seen.t.length,vI g.num,vI g.slots,vS g.sess.p g.sess.l.length,vI g.wait,vI g.limit,vI g.clock,vS g.rises.p g.rises.l.length]] st (fun v s => ∃ x,v = .bool x ∧ (x = true ↔ nodeOk g.x) ∧ Pres st s) := by
 have hs1 : g.got.l.length ≤ 1048576 := hb.got
 have hs2 : g.acked.l.length ≤ 1048576 := hb.acked
 refine AC.enterX (i := ⟨[1],[1,4,9,11,18,24,26,32,35,40,42,48,50,56,58,66,72,74,79,85,90,94],[0,1,2,3,31,71,89],[]⟩) [(1,[24],[21])] Try.func29 rfl rfl (by kernel_rfl) (by kernel_rfl) Try.ntmps29 (Nat.le_of_ble_eq_true rfl) rfl ?_
 refine ⟨_,rfl,?_⟩
 refine AW.cutM (1) st [(1,vL 1 0 (0)),(2,vB false)] [(1,0,cNV g)] ⟨rfl,rfl,trivial⟩ ⟨rfl,trivial⟩ rfl fun ρ0 ff => ?_
 refine ⟨_,rfl,?_⟩
 refine ⟨_,op_ldo rfl rfl rfl rfl,?_⟩
 refine ⟨_,rfl,(ac_impl_within g.n 1 5 st).mono ?_⟩
 rintro _ st ⟨x6,rfl,h6,rfl⟩
 rcases x6 with _|_
 ·replace h6 := of_decide_eq_false h6.symm
  iterate 3 refine ⟨_,rfl,?_⟩
  refine owE_cut [(1,vL 1 0 (0)),(2,vB false),(22,vB true)] ⟨rfl,rfl,rfl,trivial⟩ fun ρ0 => ?_
  refine ⟨_,rfl,?_⟩
  refine AW.cutM (1) st [(1,vL 1 0 (0)),(2,vB false),(31,vB true)] [(1,0,cNV g)] ⟨rfl,rfl,rfl,trivial⟩ ⟨rfl,trivial⟩ rfl fun ρ0 ff => ?_
  refine cxs ?_
  exact ⟨.inl rfl,_,rfl,false,rfl,⟨fun h => absurd h Bool.false_ne_true,fun h => (show False from (h6 h.n)).elim⟩,Pres.refl _⟩
 ·replace h6 := of_decide_eq_true h6.symm
  iterate 2 refine ⟨_,rfl,?_⟩
  refine ⟨_,op_ldo rfl rfl rfl rfl,?_⟩
  refine ⟨_,rfl,?_⟩
  refine ⟨_,op_ldo rfl rfl rfl rfl,?_⟩
  have ew13 : IntKind.wrap .i64 (g.n - (1)) = g.n - (1) := wrap_i64 (by omega) (by omega)
  refine ⟨_,rfl,?_⟩
  refine ⟨_,rfl,(ac_impl_within g.id 0 (IntKind.wrap .i64 (g.n - (1))) st).mono ?_⟩
  rintro _ st ⟨x14,rfl,h14,rfl⟩
  rcases x14 with _|_
  ·replace h14 := of_decide_eq_false h14.symm
   rw [ew13] at h14
   iterate 3 refine ⟨_,rfl,?_⟩
   refine owE_cut [(1,vL 1 0 (0)),(2,vB false),(22,vB true)] ⟨rfl,rfl,rfl,trivial⟩ fun ρ0 => ?_
   refine ⟨_,rfl,?_⟩
   refine AW.cutM (1) st [(1,vL 1 0 (0)),(2,vB false),(31,vB true)] [(1,0,cNV g)] ⟨rfl,rfl,rfl,trivial⟩ ⟨rfl,trivial⟩ rfl fun ρ0 ff => ?_
   refine cxs ?_
   exact ⟨.inl rfl,_,rfl,false,rfl,⟨fun h => absurd h Bool.false_ne_true,fun h => (show False from (h14 h.id)).elim⟩,Pres.refl _⟩
  ·replace h14 := of_decide_eq_true h14.symm
   rw [ew13] at h14
   iterate 3 refine ⟨_,rfl,?_⟩
   refine ⟨_,op_ldo rfl rfl rfl rfl,?_⟩
   refine ⟨_,rfl,(ac_impl_StateOk g.s st hR.s (hb.s)).mono ?_⟩
   rintro _ st ⟨x20,rfl,h20,rfl⟩
   rcases x20 with _|_
   ·replace h20 := fun k => Bool.false_ne_true (h20.2 k)
    refine ⟨_,rfl,?_⟩
    refine owE_cut [(1,vL 1 0 (0)),(2,vB false),(17,vB false),(21,vB true)] ⟨rfl,rfl,rfl,rfl,trivial⟩ fun ρ0 => ?_
    iterate 2 refine ⟨_,rfl,?_⟩
    refine AW.cutM (1) st [(1,vL 1 0 (0)),(2,vB false),(31,vB true)] [(1,0,cNV g)] ⟨rfl,rfl,rfl,trivial⟩ ⟨rfl,trivial⟩ rfl fun ρ0 ff => ?_
    refine cxs ?_
    exact ⟨.inl rfl,_,rfl,false,rfl,⟨fun h => absurd h Bool.false_ne_true,fun h => (show False from (h20 h.s)).elim⟩,Pres.refl _⟩
   ·replace h20 := h20.1 rfl
    refine ⟨_,rfl,?_⟩
    refine owE_cut [(1,vL 1 0 (0)),(2,vB false),(17,vB false),(21,vB false)] ⟨rfl,rfl,rfl,rfl,trivial⟩ fun ρ0 => ?_
    iterate 2 refine ⟨_,rfl,?_⟩
    refine ⟨_,op_ldo rfl rfl rfl rfl,?_⟩
    refine ⟨ld_own rfl rfl rfl,?_⟩
    refine ⟨_,rfl,?_⟩
    refine ⟨_,op_ldo rfl rfl rfl rfl,?_⟩
    refine ⟨_,rfl,(ac_impl_TreeOf g.s st hR.s (hb.s)).mono ?_⟩
    rintro _ s28 ⟨u28,rfl,h28,hO28,hN28,hP28⟩
    refine ⟨hP28.2,?_⟩
    refine ⟨_,rfl,(ac_impl_treeSame g.t u28 s28 (hP28.rows hR.t) (hO28.rows fI_len) (hb.t)).mono ?_⟩
    rintro _ s28 ⟨x29,rfl,h29,rfl⟩
    rcases x29 with _|_
    ·replace h29 := fun k => Bool.false_ne_true (h29.2 k)
     iterate 2 refine ⟨_,rfl,?_⟩
     refine AW.cutM (1) s28 [(1,vL 1 0 (0)),(2,vB false),(31,vB true)] [(1,0,cNV g)] ⟨rfl,rfl,rfl,trivial⟩ ⟨rfl,trivial⟩ rfl fun ρ0 ff => ?_
     refine cxs ?_
     exact ⟨.inl rfl,_,rfl,false,rfl,⟨fun h => absurd h Bool.false_ne_true,fun h => (show False from (h29 (h.t.trans h28.symm))).elim⟩,hP28⟩
    ·replace h29 := h29.1 rfl
     iterate 2 refine ⟨_,rfl,?_⟩
     refine AW.cutM (1) s28 [(1,vL 1 0 (0)),(2,vB false),(31,vB false)] [(1,0,cNV g)] ⟨rfl,rfl,rfl,trivial⟩ ⟨rfl,trivial⟩ rfl fun ρ0 ff => ?_
     refine cxs ?_
     refine ⟨_,rfl,?_⟩
     refine ⟨_,op_ldo rfl rfl rfl rfl,?_⟩
     refine ⟨_,rfl,(ac_impl_LogSeq g.g s28 (hR.g.pres hP28) (bigLog_iff.1 hb.g)).mono ?_⟩
     rintro _ s28 ⟨rfl,rfl⟩
     refine AW.cutM (1) s28 [(1,vL 1 0 (0)),(2,vB false),(3,vI (logSeq g.g.x))] [(1,0,cNV g)] ⟨rfl,rfl,rfl,trivial⟩ ⟨rfl,trivial⟩ rfl fun ρ0 ff => ?_
     refine ⟨_,rfl,?_⟩
     refine ⟨_,op_ldo rfl rfl rfl rfl,?_⟩
     refine ⟨_,rfl,(ac_impl_LogOk g.g s28 (hR.g.pres hP28) (bigLog_iff.1 hb.g)).mono ?_⟩
     rintro _ s28 ⟨x37,rfl,h37,rfl⟩
     rcases x37 with _|_
     ·replace h37 := fun k => Bool.false_ne_true (h37.2 k)
      iterate 3 refine ⟨_,rfl,?_⟩
      refine ow_cut [(1,vL 1 0 (0)),(2,vB false),(3,vI (logSeq g.g.x)),(54,vB true)] ⟨rfl,rfl,rfl,rfl,trivial⟩ fun ρ0 => ?_
      iterate 2 refine ⟨_,rfl,?_⟩
      refine AW.cutM (1) s28 [(1,vL 1 0 (0)),(2,vB false),(71,vB true)] [(1,0,cNV g)] ⟨rfl,rfl,rfl,trivial⟩ ⟨rfl,trivial⟩ rfl fun ρ0 ff => ?_
      refine cxs ?_
      exact ⟨.inl rfl,_,rfl,false,rfl,⟨fun h => absurd h Bool.false_ne_true,fun h => (show False from (h37 h.g)).elim⟩,hP28⟩
     ·replace h37 := h37.1 rfl
      iterate 2 refine ⟨_,rfl,?_⟩
      refine ⟨_,op_ldo rfl rfl rfl rfl,?_⟩
      refine ⟨_,rfl,?_⟩
      refine ⟨_,op_ldo rfl rfl rfl rfl,?_⟩
      refine ⟨_,rfl,(ac_impl_VecOk g.got.p g.got.l g.n s28 (hP28.rows hR.got) (hb.got)).mono ?_⟩
      rintro _ s28 ⟨x44,rfl,h44,rfl⟩
      rcases x44 with _|_
      ·replace h44 := fun k => Bool.false_ne_true (h44.2 k)
       iterate 3 refine ⟨_,rfl,?_⟩
       refine ow_cut [(1,vL 1 0 (0)),(2,vB false),(3,vI (logSeq g.g.x)),(54,vB true)] ⟨rfl,rfl,rfl,rfl,trivial⟩ fun ρ0 => ?_
       iterate 2 refine ⟨_,rfl,?_⟩
       refine AW.cutM (1) s28 [(1,vL 1 0 (0)),(2,vB false),(71,vB true)] [(1,0,cNV g)] ⟨rfl,rfl,rfl,trivial⟩ ⟨rfl,trivial⟩ rfl fun ρ0 ff => ?_
       refine cxs ?_
       exact ⟨.inl rfl,_,rfl,false,rfl,⟨fun h => absurd h Bool.false_ne_true,fun h => (show False from (h44 h.got)).elim⟩,hP28⟩
      ·replace h44 := h44.1 rfl
       iterate 3 refine ⟨_,rfl,?_⟩
       refine ⟨_,op_ldo rfl rfl rfl rfl,?_⟩
       refine ⟨_,rfl,?_⟩
       refine ⟨_,op_ldo rfl rfl rfl rfl,?_⟩
       refine ⟨_,rfl,(ac_impl_VecOk g.acked.p g.acked.l g.n s28 (hP28.rows hR.acked) (hb.acked)).mono ?_⟩
       rintro _ s28 ⟨x52,rfl,h52,rfl⟩
       rcases x52 with _|_
       ·replace h52 := fun k => Bool.false_ne_true (h52.2 k)
        refine ow_cut [(1,vL 1 0 (0)),(2,vB false),(3,vI (logSeq g.g.x)),(47,vB false),(52,vB false)] ⟨rfl,rfl,rfl,rfl,rfl,trivial⟩ fun ρ0 => ?_
        iterate 4 refine ⟨_,rfl,?_⟩
        refine AW.cutM (1) s28 [(1,vL 1 0 (0)),(2,vB false),(71,vB true)] [(1,0,cNV g)] ⟨rfl,rfl,rfl,trivial⟩ ⟨rfl,trivial⟩ rfl fun ρ0 ff => ?_
        refine cxs ?_
        exact ⟨.inl rfl,_,rfl,false,rfl,⟨fun h => absurd h Bool.false_ne_true,fun h => (show False from (h52 h.acked)).elim⟩,hP28⟩
       ·replace h52 := h52.1 rfl
        refine ow_cut [(1,vL 1 0 (0)),(2,vB false),(3,vI (logSeq g.g.x)),(47,vB false),(52,vB true)] ⟨rfl,rfl,rfl,rfl,rfl,trivial⟩ fun ρ0 => ?_
        iterate 3 refine ⟨_,rfl,?_⟩
        refine ⟨_,op_ldo rfl rfl rfl rfl,?_⟩
        refine ⟨_,rfl,?_⟩
        refine ⟨_,op_ldo rfl rfl rfl rfl,?_⟩
        have hgl : (g.got.l.length : Int) = g.n := h44.2.1
        refine op_at ((g.id).toNat) (hP28.rows hR.got) (by omega) rfl rfl rfl rfl (by omega) rfl rfl ?_
        intro x60 b60 d60 k60 hy60 hb60 hm60 hc60 ho60
        refine ⟨_,op_ldc (i := 0) rfl rfl rfl rfl hm60 hc60 rfl rfl,?_⟩
        refine ⟨_,rfl,?_⟩
        rintro (_|_) h63
        ·replace h63 : x60 = (logSeq g.g.x) := bne_eq_false_iff_eq.1 h63
         iterate 2 refine ⟨_,rfl,?_⟩
         refine ⟨_,op_ldo rfl rfl rfl rfl,?_⟩
         have hal : (g.acked.l.length : Int) = g.n := h52.2.1
         refine ⟨_,rfl,(ac_slices_Max g.acked.p g.acked.l s28 (hP28.rows hR.acked) (hb.acked) (by first | assumption | omega)).mono ?_⟩
         rintro _ s28 ⟨x68,rfl,h68,rfl⟩
         refine ⟨_,rfl,?_⟩
         rintro (_|_) h70
         ·replace h70 : ¬ (x68 > (logSeq g.g.x)) := of_decide_eq_false h70
          refine ⟨_,rfl,?_⟩
          refine AW.cutM (1) s28 [(1,vL 1 0 (0)),(2,vB false),(71,vB false)] [(1,0,cNV g)] ⟨rfl,rfl,rfl,trivial⟩ ⟨rfl,trivial⟩ rfl fun ρ0 ff => ?_
          refine cxs ?_
          refine ⟨_,rfl,?_⟩
          refine ⟨_,op_ldo rfl rfl rfl rfl,?_⟩
          refine ⟨_,rfl,?_⟩
          refine ⟨_,op_ldo rfl rfl rfl rfl,?_⟩
          refine ⟨_,rfl,(ac_impl_TableOk g.seen.p g.seen.t g.n s28 (hR.seen.pres hP28) ((bigT_iff.1 hb.seen).1) ((bigT_iff.1 hb.seen).2)).mono ?_⟩
          rintro _ s28 ⟨x76,rfl,h76,rfl⟩
          rcases x76 with _|_
          ·replace h76 := fun k => Bool.false_ne_true (h76.2 k)
           iterate 3 refine ⟨_,rfl,?_⟩
           refine AW.cutM (1) s28 [(1,vL 1 0 (0)),(2,vB false),(89,vB true)] [(1,0,cNV g)] ⟨rfl,rfl,rfl,trivial⟩ ⟨rfl,trivial⟩ rfl fun ρ0 ff => ?_
           refine cxs ?_
           exact ⟨.inl rfl,_,rfl,false,rfl,⟨fun h => absurd h Bool.false_ne_true,fun h => (show False from (h76 h.seen)).elim⟩,hP28⟩
          ·replace h76 := h76.1 rfl
           iterate 2 refine ⟨_,rfl,?_⟩
           refine ⟨_,op_ldo rfl rfl rfl rfl,?_⟩
           refine ⟨_,rfl,(ac_impl_within g.num 0 100000 s28).mono ?_⟩
           rintro _ s28 ⟨x81,rfl,h81,rfl⟩
           rcases x81 with _|_
           ·replace h81 := of_decide_eq_false h81.symm
            iterate 3 refine ⟨_,rfl,?_⟩
            refine AW.cutM (1) s28 [(1,vL 1 0 (0)),(2,vB false),(89,vB true)] [(1,0,cNV g)] ⟨rfl,rfl,rfl,trivial⟩ ⟨rfl,trivial⟩ rfl fun ρ0 ff => ?_
            refine cxs ?_
            exact ⟨.inl rfl,_,rfl,false,rfl,⟨fun h => absurd h Bool.false_ne_true,fun h => (show False from (h81 h.num)).elim⟩,hP28⟩
           ·replace h81 := of_decide_eq_true h81.symm
            iterate 3 refine ⟨_,rfl,?_⟩
            refine ⟨_,op_ldo rfl rfl rfl rfl,?_⟩
            refine ⟨_,rfl,(ac_impl_within g.clock 0 100000 s28).mono ?_⟩
            rintro _ s28 ⟨x87,rfl,h87,rfl⟩
            rcases x87 with _|_
            ·replace h87 := of_decide_eq_false h87.symm
             iterate 2 refine ⟨_,rfl,?_⟩
             refine AW.cutM (1) s28 [(1,vL 1 0 (0)),(2,vB false),(89,vB true)] [(1,0,cNV g)] ⟨rfl,rfl,rfl,trivial⟩ ⟨rfl,trivial⟩ rfl fun ρ0 ff => ?_
             refine cxs ?_
             exact ⟨.inl rfl,_,rfl,false,rfl,⟨fun h => absurd h Bool.false_ne_true,fun h => (show False from (h87 h.clock)).elim⟩,hP28⟩
            ·replace h87 := of_decide_eq_true h87.symm
             iterate 2 refine ⟨_,rfl,?_⟩
             refine AW.cutM (1) s28 [(1,vL 1 0 (0)),(2,vB false),(89,vB false)] [(1,0,cNV g)] ⟨rfl,rfl,rfl,trivial⟩ ⟨rfl,trivial⟩ rfl fun ρ0 ff => ?_
             refine cxs ?_
             refine ⟨_,rfl,?_⟩
             refine ⟨_,op_ldo rfl rfl rfl rfl,?_⟩
             refine ⟨_,rfl,(ac_impl_within g.wait 1 20 s28).mono ?_⟩
             rintro _ s28 ⟨x92,rfl,h92,rfl⟩
             rcases x92 with _|_
             ·replace h92 := of_decide_eq_false h92.symm
              iterate 3 refine ⟨_,rfl,?_⟩
              refine cxs ?_
              exact ⟨.inl rfl,_,rfl,false,rfl,⟨fun h => absurd h Bool.false_ne_true,fun h => (show False from (h92 h.wait)).elim⟩,hP28⟩
             ·replace h92 := of_decide_eq_true h92.symm
              refine ⟨_,rfl,?_⟩
              refine ⟨_,op_ldo rfl rfl rfl rfl,?_⟩
              refine ⟨_,rfl,(ac_impl_within g.limit 1 50 s28).mono ?_⟩
              rintro _ s28 ⟨x96,rfl,h96,rfl⟩
              rcases x96 with _|_
              ·replace h96 := of_decide_eq_false h96.symm
               iterate 3 refine ⟨_,rfl,?_⟩
               refine cxs ?_
               exact ⟨.inl rfl,_,rfl,false,rfl,⟨fun h => absurd h Bool.false_ne_true,fun h => (show False from (h96 h.limit)).elim⟩,hP28⟩
              ·replace h96 := of_decide_eq_true h96.symm
               refine ⟨_,rfl,?_⟩
               refine ⟨_,op_ldo (v := (vNV g)) rfl rfl rfl rfl,?_⟩
               refine ⟨_,rfl,(ac_impl_sessOk g s28 (hR.pres hP28) (by first | assumption | omega) (by first | assumption | omega)).mono ?_⟩
               rintro _ s28 ⟨x100,rfl,h100,rfl⟩
               rcases x100 with _|_
               ·replace h100 := fun k => Bool.false_ne_true (h100.2 k)
                iterate 2 refine ⟨_,rfl,?_⟩
                refine cxs ?_
                exact ⟨.inl rfl,_,rfl,false,rfl,⟨fun h => absurd h Bool.false_ne_true,fun h => (show False from (h100 ⟨h.slots,h.sess⟩)).elim⟩,hP28⟩
               ·replace h100 := h100.1 rfl
                refine ⟨_,rfl,?_⟩
                refine ⟨_,op_ldo (v := (vNV g)) rfl rfl rfl rfl,?_⟩
                refine ⟨_,rfl,(ac_impl_risesOk g s28 (hR.pres hP28) (by first | assumption | omega)).mono ?_⟩
                rintro _ s28 ⟨x104,rfl,h104,rfl⟩
                rcases x104 with _|_
                ·replace h104 := fun k => Bool.false_ne_true (h104.2 k)
                 refine ⟨_,rfl,?_⟩
                 refine cxs ?_
                 exact ⟨.inl rfl,_,rfl,false,rfl,⟨fun h => absurd h Bool.false_ne_true,fun h => (show False from (h104 h.rises)).elim⟩,hP28⟩
                ·replace h104 := h104.1 rfl
                 refine ⟨_,rfl,?_⟩
                 refine cxs ?_
                 exact ⟨.inl rfl,_,rfl,true,rfl,⟨fun _ => ⟨h6,h14,h20,h29.trans h28,h37,h44,h52,h63 ▸ hy60,(h68 (logSeq g.g.x)).1 (Int.not_lt.1 h70),h76,h81,h87,h92,h96,h100.1,h100.2,h104⟩,fun _ => rfl⟩,hP28⟩
         ·replace h70 : x68 > (logSeq g.g.x) := of_decide_eq_true h70
          refine ⟨_,rfl,?_⟩
          refine AW.cutM (1) s28 [(1,vL 1 0 (0)),(2,vB false),(71,vB true)] [(1,0,cNV g)] ⟨rfl,rfl,rfl,trivial⟩ ⟨rfl,trivial⟩ rfl fun ρ0 ff => ?_
          refine cxs ?_
          exact ⟨.inl rfl,_,rfl,false,rfl,⟨fun h => absurd h Bool.false_ne_true,fun h => (show False from (absurd h70 (by have h1 : x68 ≤ logSeq g.g.x := (h68 _).2 h.ack; omega))).elim⟩,hP28⟩
        ·replace h63 : ¬ (x60 = (logSeq g.g.x)) := bne_iff_ne.1 h63
         iterate 2 refine ⟨_,rfl,?_⟩
         refine AW.cutM (1) s28 [(1,vL 1 0 (0)),(2,vB false),(71,vB true)] [(1,0,cNV g)] ⟨rfl,rfl,rfl,trivial⟩ ⟨rfl,trivial⟩ rfl fun ρ0 ff => ?_
         refine cxs ?_
         exact ⟨.inl rfl,_,rfl,false,rfl,⟨fun h => absurd h Bool.false_ne_true,fun h => (show False from (h63 (Option.some.inj (hy60.symm.trans h.seq)))).elim⟩,hP28⟩
theorem ac_spec_NodeOk (g : NV) (st : St) (hR : RdN st g) (hb : bigN g.x) : C 27 [.agg #[vI g.id,vI g.n,vS g.s.p g.s.x.items.length,vS g.s.q g.s.x.floors.length,vS g.t.p g.t.l.length,vI g.t.root,vI g.g.cap,vI g.g.frm,vS g.g.p g.g.l.length,vS g.got.p g.got.l.length,vS g.acked.p g.acked.l.length,vS g.seen.p g.seen.t.length,vI g.num,vI g.slots,vS g.sess.p g.sess.l.length,vI g.wait,vI g.limit,vI g.clock,vS g.rises.p g.rises.l.length]] st (fun v s => ∃ x,v = .bool x ∧ (x = true ↔ nodeOk g.x) ∧ Pres st s) := by
 have hs1 : g.got.l.length ≤ 1048576 := hb.got
 have hs2 : g.acked.l.length ≤ 1048576 := hb.acked
 have hs3 : g.rises.l.length ≤ 1048576 := hb.rises
 refine AC.enterX (i := ⟨[1,5],[1,5,6,11,13,20,26,28,35,40,42,47,49,55,57,61,67,69,75,80,85,89,94,100,106,112,118,127,132,137,143,145],[0,1,2,3,4,5,39,73,77,88,122,124,149],[]⟩) [(1,[24],[21]),(3,[23],[16,18,20]),(8,[7],[1,4])] Try.func27 rfl rfl (by kernel_rfl) (by kernel_rfl) Try.ntmps27 (Nat.le_of_ble_eq_true rfl) rfl ?_
 refine ⟨_,rfl,?_⟩
 refine AW.cutM (1) st [(1,vL 1 0 (0)),(2,vB false)] [(1,0,cNV g)] ⟨rfl,rfl,trivial⟩ ⟨rfl,trivial⟩ rfl fun ρ0 ff => ?_
 refine ⟨_,rfl,?_⟩
 refine ⟨_,op_ldo rfl rfl rfl rfl,?_⟩
 refine ⟨_,rfl,(ac_spec_l1In g.n 1 5 st).mono ?_⟩
 rintro _ st ⟨x8,rfl,h8,rfl⟩
 rcases x8 with _|_
 ·replace h8 := of_decide_eq_false h8.symm
  iterate 3 refine ⟨_,rfl,?_⟩
  refine owE_cut [(1,vL 1 0 (0)),(2,vB false),(24,vB true)] ⟨rfl,rfl,rfl,trivial⟩ fun ρ0 => ?_
  iterate 2 refine ⟨_,rfl,?_⟩
  refine AW.cutM (1) st [(1,vL 1 0 (0)),(2,vB false),(39,vB true)] [(1,0,cNV g)] ⟨rfl,rfl,rfl,trivial⟩ ⟨rfl,trivial⟩ rfl fun ρ0 ff => ?_
  refine cxs ?_
  exact ⟨.inl rfl,_,rfl,false,rfl,⟨fun h => absurd h Bool.false_ne_true,fun h => (show False from (h8 h.n)).elim⟩,Pres.refl _⟩
 ·replace h8 := of_decide_eq_true h8.symm
  iterate 2 refine ⟨_,rfl,?_⟩
  refine ⟨_,op_ldo rfl rfl rfl rfl,?_⟩
  refine ⟨_,rfl,?_⟩
  refine ⟨_,op_ldo rfl rfl rfl rfl,?_⟩
  have ew15 : IntKind.wrap .i64 (g.n - (1)) = g.n - (1) := wrap_i64 (by omega) (by omega)
  refine ⟨_,rfl,?_⟩
  refine ⟨_,rfl,(ac_spec_l1In g.id 0 (IntKind.wrap .i64 (g.n - (1))) st).mono ?_⟩
  rintro _ st ⟨x16,rfl,h16,rfl⟩
  rcases x16 with _|_
  ·replace h16 := of_decide_eq_false h16.symm
   rw [ew15] at h16
   iterate 3 refine ⟨_,rfl,?_⟩
   refine owE_cut [(1,vL 1 0 (0)),(2,vB false),(24,vB true)] ⟨rfl,rfl,rfl,trivial⟩ fun ρ0 => ?_
   iterate 2 refine ⟨_,rfl,?_⟩
   refine AW.cutM (1) st [(1,vL 1 0 (0)),(2,vB false),(39,vB true)] [(1,0,cNV g)] ⟨rfl,rfl,rfl,trivial⟩ ⟨rfl,trivial⟩ rfl fun ρ0 ff => ?_
   refine cxs ?_
   exact ⟨.inl rfl,_,rfl,false,rfl,⟨fun h => absurd h Bool.false_ne_true,fun h => (show False from (h16 h.id)).elim⟩,Pres.refl _⟩
  ·replace h16 := of_decide_eq_true h16.symm
   rw [ew15] at h16
   iterate 3 refine ⟨_,rfl,?_⟩
   refine ⟨_,op_ldo rfl rfl rfl rfl,?_⟩
   refine ⟨_,rfl,(ac_spec_StateOk g.s st hR.s (hb.s)).mono ?_⟩
   rintro _ st ⟨x22,rfl,h22,rfl⟩
   rcases x22 with _|_
   ·replace h22 := fun k => Bool.false_ne_true (h22.2 k)
    refine ⟨_,rfl,?_⟩
    refine owE_cut [(1,vL 1 0 (0)),(2,vB false),(19,vB false),(23,vB true)] ⟨rfl,rfl,rfl,rfl,trivial⟩ fun ρ0 => ?_
    iterate 3 refine ⟨_,rfl,?_⟩
    refine AW.cutM (1) st [(1,vL 1 0 (0)),(2,vB false),(39,vB true)] [(1,0,cNV g)] ⟨rfl,rfl,rfl,trivial⟩ ⟨rfl,trivial⟩ rfl fun ρ0 ff => ?_
    refine cxs ?_
    exact ⟨.inl rfl,_,rfl,false,rfl,⟨fun h => absurd h Bool.false_ne_true,fun h => (show False from (h22 h.s)).elim⟩,Pres.refl _⟩
   ·replace h22 := h22.1 rfl
    refine ⟨_,rfl,?_⟩
    refine owE_cut [(1,vL 1 0 (0)),(2,vB false),(19,vB false),(23,vB false)] ⟨rfl,rfl,rfl,rfl,trivial⟩ fun ρ0 => ?_
    iterate 2 refine ⟨_,rfl,?_⟩
    refine ⟨_,op_ldo rfl rfl rfl rfl,?_⟩
    refine ⟨ld_own rfl rfl rfl,?_⟩
    refine ⟨_,rfl,?_⟩
    refine ⟨_,op_ldo rfl rfl rfl rfl,?_⟩
    refine ⟨_,rfl,(ac_spec_TreeOf g.s st hR.s (hb.s)).mono ?_⟩
    rintro _ s30 ⟨u30,rfl,h30,hO30,hN30,hP30⟩
    refine ⟨hP30.2,?_⟩
    refine ⟨_,rfl,(ac_spec_l11Tree g.t u30 s30 (hP30.rows hR.t) (hO30.rows fI_len) (hb.t)).mono ?_⟩
    rintro _ s30 ⟨x31,rfl,h31,rfl⟩
    rcases x31 with _|_
    ·replace h31 := fun k => Bool.false_ne_true (h31.2 k)
     iterate 3 refine ⟨_,rfl,?_⟩
     refine AW.cutM (1) s30 [(1,vL 1 0 (0)),(2,vB false),(39,vB true)] [(1,0,cNV g)] ⟨rfl,rfl,rfl,trivial⟩ ⟨rfl,trivial⟩ rfl fun ρ0 ff => ?_
     refine cxs ?_
     exact ⟨.inl rfl,_,rfl,false,rfl,⟨fun h => absurd h Bool.false_ne_true,fun h => (show False from (h31 (h.t.trans h30.symm))).elim⟩,hP30⟩
    ·replace h31 := h31.1 rfl
     iterate 3 refine ⟨_,rfl,?_⟩
     refine ⟨_,op_ldo rfl rfl rfl rfl,?_⟩
     refine ⟨_,rfl,(ac_spec_LogOk g.g s30 (hR.g.pres hP30) (bigLog_iff.1 hb.g)).mono ?_⟩
     rintro _ s30 ⟨x37,rfl,h37,rfl⟩
     rcases x37 with _|_
     ·replace h37 := fun k => Bool.false_ne_true (h37.2 k)
      iterate 2 refine ⟨_,rfl,?_⟩
      refine AW.cutM (1) s30 [(1,vL 1 0 (0)),(2,vB false),(39,vB true)] [(1,0,cNV g)] ⟨rfl,rfl,rfl,trivial⟩ ⟨rfl,trivial⟩ rfl fun ρ0 ff => ?_
      refine cxs ?_
      exact ⟨.inl rfl,_,rfl,false,rfl,⟨fun h => absurd h Bool.false_ne_true,fun h => (show False from (h37 h.g)).elim⟩,hP30⟩
     ·replace h37 := h37.1 rfl
      iterate 2 refine ⟨_,rfl,?_⟩
      refine AW.cutM (1) s30 [(1,vL 1 0 (0)),(2,vB false),(39,vB false)] [(1,0,cNV g)] ⟨rfl,rfl,rfl,trivial⟩ ⟨rfl,trivial⟩ rfl fun ρ0 ff => ?_
      refine cxs ?_
      refine ⟨_,rfl,?_⟩
      refine ⟨_,op_ldo rfl rfl rfl rfl,?_⟩
      refine ⟨_,rfl,?_⟩
      refine ⟨_,op_ldo rfl rfl rfl rfl,?_⟩
      refine ⟨_,rfl,(ac_spec_VecOk g.got.p g.got.l g.n s30 (hP30.rows hR.got) (hb.got)).mono ?_⟩
      rintro _ s30 ⟨x44,rfl,h44,rfl⟩
      rcases x44 with _|_
      ·replace h44 := fun k => Bool.false_ne_true (h44.2 k)
       iterate 3 refine ⟨_,rfl,?_⟩
       refine owE_cut [(1,vL 1 0 (0)),(2,vB false),(65,vB true)] ⟨rfl,rfl,rfl,trivial⟩ fun ρ0 => ?_
       refine ⟨_,rfl,?_⟩
       refine AW.cutM (1) s30 [(1,vL 1 0 (0)),(2,vB false),(73,vB true)] [(1,0,cNV g)] ⟨rfl,rfl,rfl,trivial⟩ ⟨rfl,trivial⟩ rfl fun ρ0 ff => ?_
       refine cxs ?_
       exact ⟨.inl rfl,_,rfl,false,rfl,⟨fun h => absurd h Bool.false_ne_true,fun h => (show False from (h44 h.got)).elim⟩,hP30⟩
      ·replace h44 := h44.1 rfl
       iterate 2 refine ⟨_,rfl,?_⟩
       refine ⟨_,op_ldo rfl rfl rfl rfl,?_⟩
       refine ⟨_,rfl,?_⟩
       refine ⟨_,op_ldo rfl rfl rfl rfl,?_⟩
       refine ⟨_,rfl,(ac_spec_VecOk g.acked.p g.acked.l g.n s30 (hP30.rows hR.acked) (hb.acked)).mono ?_⟩
       rintro _ s30 ⟨x51,rfl,h51,rfl⟩
       rcases x51 with _|_
       ·replace h51 := fun k => Bool.false_ne_true (h51.2 k)
        iterate 3 refine ⟨_,rfl,?_⟩
        refine owE_cut [(1,vL 1 0 (0)),(2,vB false),(65,vB true)] ⟨rfl,rfl,rfl,trivial⟩ fun ρ0 => ?_
        refine ⟨_,rfl,?_⟩
        refine AW.cutM (1) s30 [(1,vL 1 0 (0)),(2,vB false),(73,vB true)] [(1,0,cNV g)] ⟨rfl,rfl,rfl,trivial⟩ ⟨rfl,trivial⟩ rfl fun ρ0 ff => ?_
        refine cxs ?_
        exact ⟨.inl rfl,_,rfl,false,rfl,⟨fun h => absurd h Bool.false_ne_true,fun h => (show False from (h51 h.acked)).elim⟩,hP30⟩
       ·replace h51 := h51.1 rfl
        iterate 3 refine ⟨_,rfl,?_⟩
        refine ⟨_,op_ldo rfl rfl rfl rfl,?_⟩
        refine ⟨ld_own rfl rfl rfl,?_⟩
        refine ⟨_,rfl,?_⟩
        refine owE_cut [(1,vL 1 0 (0)),(2,vB false),(54,vB false),(56,vS g.got.p g.got.l.length),(57,vL 1 0 (0))] ⟨rfl,rfl,rfl,rfl,rfl,trivial⟩ fun ρ0 => ?_
        refine ⟨_,op_ldo rfl rfl rfl rfl,?_⟩
        refine ⟨ld_own rfl rfl rfl,?_⟩
        have hgl : (g.got.l.length : Int) = g.n := h44.2.1
        refine op_at ((g.id).toNat) (hP30.rows hR.got) (by omega) rfl rfl rfl rfl (by omega) rfl rfl ?_
        intro x59 b59 d59 k59 hy59 hb59 hm59 hc59 ho59
        refine ⟨_,op_ldc (i := 0) rfl rfl rfl rfl hm59 hc59 rfl rfl,?_⟩
        refine ⟨ld_lt rfl rfl hb59,?_⟩
        refine ⟨_,rfl,?_⟩
        refine ⟨_,op_ldo rfl rfl rfl rfl,?_⟩
        refine ⟨_,rfl,(ac_spec_LogSeq g.g s30 (hR.g.pres hP30) (bigLog_iff.1 hb.g)).mono ?_⟩
        rintro _ s30 ⟨rfl,rfl⟩
        refine ⟨fun _ _ => rfl,?_⟩
        refine ⟨_,rfl,?_⟩
        rintro (_|_) h64
        ·replace h64 : x59 = (logSeq g.g.x) := bne_eq_false_iff_eq.1 h64
         iterate 2 refine ⟨_,rfl,?_⟩
         refine ⟨_,op_ldo rfl rfl rfl rfl,?_⟩
         refine ⟨_,rfl,?_⟩
         refine ⟨_,op_ldo rfl rfl rfl rfl,?_⟩
         refine ⟨_,rfl,(ac_spec_TableOk g.seen.p g.seen.t g.n s30 (hR.seen.pres hP30) ((bigT_iff.1 hb.seen).1) ((bigT_iff.1 hb.seen).2)).mono ?_⟩
         rintro _ s30 ⟨x71,rfl,h71,rfl⟩
         rcases x71 with _|_
         ·replace h71 := fun k => Bool.false_ne_true (h71.2 k)
          iterate 2 refine ⟨_,rfl,?_⟩
          refine AW.cutM (1) s30 [(1,vL 1 0 (0)),(2,vB false),(73,vB true)] [(1,0,cNV g)] ⟨rfl,rfl,rfl,trivial⟩ ⟨rfl,trivial⟩ rfl fun ρ0 ff => ?_
          refine cxs ?_
          exact ⟨.inl rfl,_,rfl,false,rfl,⟨fun h => absurd h Bool.false_ne_true,fun h => (show False from (h71 h.seen)).elim⟩,hP30⟩
         ·replace h71 := h71.1 rfl
          iterate 2 refine ⟨_,rfl,?_⟩
          refine AW.cutM (1) s30 [(1,vL 1 0 (0)),(2,vB false),(73,vB false)] [(1,0,cNV g)] ⟨rfl,rfl,rfl,trivial⟩ ⟨rfl,trivial⟩ rfl fun ρ0 ff => ?_
          have hal : (g.acked.l.length : Int) = g.n := h51.2.1
          refine cxs ?_
          refine AW.cutM (1) s30 [(1,vL 1 0 (0)),(2,vB false),(3,vI (0))] [(1,0,cNV g)] ⟨rfl,rfl,rfl,trivial⟩ ⟨rfl,trivial⟩ rfl fun ρ0 ff => ?_
          refine AW.loopM (fun i : Nat => [(1,vL 1 0 (0)),(3,vI (i : Int))]) (fun i : Nat => [(1,0,cNV g)]) (fun m (i : Nat) st' => m = g.acked.l.length - i ∧ i ≤ g.acked.l.length ∧ (∀ (j : Nat) x,j < i → g.acked.l[j]? = some x → x ≤ logSeq g.g.x) ∧ s30 = st') 0 _ ⟨rfl,rfl,trivial⟩ ⟨rfl,trivial⟩ ⟨rfl,Nat.zero_le _,fun j x h => absurd h (Nat.not_lt_zero _),rfl⟩ ?_
          rintro m i ρ0 ff gg st' ⟨rfl,hi,hok,rfl⟩
          refine ⟨_,rfl,?_⟩
          refine ⟨_,op_ldo rfl rfl rfl rfl,?_⟩
          refine ⟨_,rfl,?_⟩
          rintro (_|_) h77
          ·replace h77 : ¬ ((i : Int) < g.n) := of_decide_eq_false h77
           refine AW.cutM (gg) s30 [(1,vL 1 0 (0)),(3,vI (i : Int)),(77,vB false)] [(1,0,cNV g)] ⟨rfl,rfl,rfl,trivial⟩ ⟨rfl,trivial⟩ rfl fun ρ0 ff => ?_
           refine cxs ?_
           refine ⟨_,rfl,?_⟩
           refine ⟨_,op_ldo rfl rfl rfl rfl,?_⟩
           refine ⟨_,rfl,(ac_spec_l1In g.num 0 100000 s30).mono ?_⟩
           rintro _ s30 ⟨x91,rfl,h91,rfl⟩
           rcases x91 with _|_
           ·replace h91 := of_decide_eq_false h91.symm
            iterate 4 refine ⟨_,rfl,?_⟩
            refine ow_cut [(1,vL 1 0 (0)),(110,vB true)] ⟨rfl,rfl,trivial⟩ fun ρ0 => ?_
            iterate 2 refine ⟨_,rfl,?_⟩
            refine AW.cutM (gg) s30 [(1,vL 1 0 (0)),(122,vB true)] [(1,0,cNV g)] ⟨rfl,rfl,trivial⟩ ⟨rfl,trivial⟩ rfl fun ρ0 ff => ?_
            refine cxs ?_
            exact ⟨.inl rfl,_,rfl,false,rfl,⟨fun h => absurd h Bool.false_ne_true,fun h => (show False from (h91 h.num)).elim⟩,hP30⟩
           ·replace h91 := of_decide_eq_true h91.symm
            iterate 2 refine ⟨_,rfl,?_⟩
            refine ⟨_,op_ldo rfl rfl rfl rfl,?_⟩
            refine ⟨_,rfl,(ac_spec_l1In g.clock 0 100000 s30).mono ?_⟩
            rintro _ s30 ⟨x96,rfl,h96,rfl⟩
            rcases x96 with _|_
            ·replace h96 := of_decide_eq_false h96.symm
             iterate 4 refine ⟨_,rfl,?_⟩
             refine ow_cut [(1,vL 1 0 (0)),(110,vB true)] ⟨rfl,rfl,trivial⟩ fun ρ0 => ?_
             iterate 2 refine ⟨_,rfl,?_⟩
             refine AW.cutM (gg) s30 [(1,vL 1 0 (0)),(122,vB true)] [(1,0,cNV g)] ⟨rfl,rfl,trivial⟩ ⟨rfl,trivial⟩ rfl fun ρ0 ff => ?_
             refine cxs ?_
             exact ⟨.inl rfl,_,rfl,false,rfl,⟨fun h => absurd h Bool.false_ne_true,fun h => (show False from (h96 h.clock)).elim⟩,hP30⟩
            ·replace h96 := of_decide_eq_true h96.symm
             iterate 3 refine ⟨_,rfl,?_⟩
             refine ⟨_,op_ldo rfl rfl rfl rfl,?_⟩
             refine ⟨_,rfl,(ac_spec_l1In g.slots 1 4 s30).mono ?_⟩
             rintro _ s30 ⟨x102,rfl,h102,rfl⟩
             rcases x102 with _|_
             ·replace h102 := of_decide_eq_false h102.symm
              iterate 3 refine ⟨_,rfl,?_⟩
              refine ow_cut [(1,vL 1 0 (0)),(110,vB true)] ⟨rfl,rfl,trivial⟩ fun ρ0 => ?_
              iterate 2 refine ⟨_,rfl,?_⟩
              refine AW.cutM (gg) s30 [(1,vL 1 0 (0)),(122,vB true)] [(1,0,cNV g)] ⟨rfl,rfl,trivial⟩ ⟨rfl,trivial⟩ rfl fun ρ0 ff => ?_
              refine cxs ?_
              exact ⟨.inl rfl,_,rfl,false,rfl,⟨fun h => absurd h Bool.false_ne_true,fun h => (show False from (h102 h.slots)).elim⟩,hP30⟩
             ·replace h102 := of_decide_eq_true h102.symm
              iterate 3 refine ⟨_,rfl,?_⟩
              refine ow_cut [(1,vL 1 0 (0)),(105,vB false),(106,vL 1 15 (0))] ⟨rfl,rfl,rfl,trivial⟩ fun ρ0 => ?_
              refine ⟨_,op_ldo rfl rfl rfl rfl,?_⟩
              refine ⟨_,rfl,(ac_spec_l1In g.wait 1 20 s30).mono ?_⟩
              rintro _ s30 ⟨x108,rfl,h108,rfl⟩
              rcases x108 with _|_
              ·replace h108 := of_decide_eq_false h108.symm
               iterate 4 refine ⟨_,rfl,?_⟩
               refine AW.cutM (gg) s30 [(1,vL 1 0 (0)),(122,vB true)] [(1,0,cNV g)] ⟨rfl,rfl,trivial⟩ ⟨rfl,trivial⟩ rfl fun ρ0 ff => ?_
               refine cxs ?_
               exact ⟨.inl rfl,_,rfl,false,rfl,⟨fun h => absurd h Bool.false_ne_true,fun h => (show False from (h108 h.wait)).elim⟩,hP30⟩
              ·replace h108 := of_decide_eq_true h108.symm
               iterate 3 refine ⟨_,rfl,?_⟩
               refine ⟨_,op_ldo rfl rfl rfl rfl,?_⟩
               refine ⟨_,rfl,(ac_spec_l1In g.limit 1 50 s30).mono ?_⟩
               rintro _ s30 ⟨x114,rfl,h114,rfl⟩
               rcases x114 with _|_
               ·replace h114 := of_decide_eq_false h114.symm
                iterate 3 refine ⟨_,rfl,?_⟩
                refine AW.cutM (gg) s30 [(1,vL 1 0 (0)),(122,vB true)] [(1,0,cNV g)] ⟨rfl,rfl,trivial⟩ ⟨rfl,trivial⟩ rfl fun ρ0 ff => ?_
                refine cxs ?_
                exact ⟨.inl rfl,_,rfl,false,rfl,⟨fun h => absurd h Bool.false_ne_true,fun h => (show False from (h114 h.limit)).elim⟩,hP30⟩
               ·replace h114 := of_decide_eq_true h114.symm
                iterate 3 refine ⟨_,rfl,?_⟩
                refine ⟨_,op_ldo rfl rfl rfl rfl,?_⟩
                iterate 2 refine ⟨_,rfl,?_⟩
                rintro (_|_) h121
                ·replace h121 : (g.rises.l.length : Int) = (5) := bne_eq_false_iff_eq.1 h121
                 refine ⟨_,rfl,?_⟩
                 refine AW.cutM (gg) s30 [(1,vL 1 0 (0)),(122,vB false)] [(1,0,cNV g)] ⟨rfl,rfl,trivial⟩ ⟨rfl,trivial⟩ rfl fun ρ0 ff => ?_
                 refine cxs ?_
                 refine AW.cutM (gg) s30 [(1,vL 1 0 (0)),(4,vI (0))] [(1,0,cNV g)] ⟨rfl,rfl,trivial⟩ ⟨rfl,trivial⟩ rfl fun ρ0 ff => ?_
                 refine AW.loopM (fun i : Nat => [(1,vL 1 0 (0)),(4,vI (i : Int))]) (fun i : Nat => [(1,0,cNV g)]) (fun m (i : Nat) st' => m = 5 - i ∧ i ≤ 5 ∧ (∀ (j : Nat) x,j < i → g.rises.l[j]? = some x → risOk g.x x) ∧ s30 = st') 0 _ ⟨rfl,rfl,trivial⟩ ⟨rfl,trivial⟩ ⟨rfl,Nat.zero_le _,fun j x h => absurd h (Nat.not_lt_zero _),rfl⟩ ?_
                 rintro m i ρ0 ff gg st' ⟨rfl,hi2,hris,rfl⟩
                 refine ⟨_,rfl,?_⟩
                 rintro (_|_) h124
                 ·replace h124 : ¬ ((i : Int) < (5)) := of_decide_eq_false h124
                  refine AW.cutM (gg) s30 [(1,vL 1 0 (0)),(4,vI (i : Int)),(124,vB false)] [(1,0,cNV g)] ⟨rfl,rfl,rfl,trivial⟩ ⟨rfl,trivial⟩ rfl fun ρ0 ff => ?_
                  refine cxs ?_
                  refine ⟨_,op_ldo (v := (vNV g)) rfl rfl rfl rfl,?_⟩
                  refine ⟨_,rfl,(ac_spec_l11Sess g s30 (hR.pres hP30) (by first | assumption | omega) (by first | assumption | omega)).mono ?_⟩
                  rintro _ s30 ⟨x151,rfl,h151,rfl⟩
                  rcases x151 with _|_
                  ·replace h151 := fun k => Bool.false_ne_true (h151.2 k)
                   refine cxs ?_
                   exact ⟨.inl rfl,_,rfl,false,rfl,⟨fun h => absurd h Bool.false_ne_true,fun h => (show False from (h151 h.sess)).elim⟩,hP30⟩
                  ·replace h151 := h151.1 rfl
                   refine cxs ?_
                   exact ⟨.inl rfl,_,rfl,true,rfl,⟨fun _ => ⟨h8,h16,h22,h31.trans h30,h37,h44,h51,h64 ▸ hy59,upall (P := fun _ x => x ≤ logSeq g.g.x) hok (by show g.acked.l.length ≤ _; omega),h71,h91,h96,h108,h114,h102,h151,by show g.rises.l.length = 5; omega,upall (P := fun _ => risOk g.x) hris (by show g.rises.l.length ≤ i; omega)⟩,fun _ => rfl⟩,hP30⟩
                 ·replace h124 : (i : Int) < (5) := of_decide_eq_true h124
                  refine AW.cutM (gg) s30 [(1,vL 1 0 (0)),(4,vI (i : Int)),(124,vB true)] [(1,0,cNV g)] ⟨rfl,rfl,rfl,trivial⟩ ⟨rfl,trivial⟩ rfl fun ρ0 ff => ?_
                  refine cxs ?_
                  refine ⟨_,rfl,?_⟩
                  refine ⟨_,op_ldo rfl rfl rfl rfl,?_⟩
                  refine op_at i (hP30.rows hR.rises) (by omega) rfl rfl rfl rfl rfl rfl rfl ?_
                  intro x130 b130 d130 k130 hy130 hb130 hm130 hc130 ho130
                  refine ⟨_,op_lda rfl rfl rfl rfl rfl hm130 hc130 rfl,?_⟩
                  refine ⟨_,rfl,?_⟩
                  refine ⟨_,op_sto rfl rfl rfl rfl rfl rfl rfl,?_⟩
                  refine AW.cutM (gg + 1) s30 [(1,vL 1 0 (0)),(4,vI (i : Int)),(5,vL 5 0 (gg)),(124,vB true)] [(1,0,cNV g),(5,gg,[vI x130.inc,vI x130.beat,vI x130.tick])] ⟨rfl,rfl,rfl,rfl,trivial⟩ ⟨rfl,rfl,trivial⟩ rfl fun ρ0 ff => ?_
                  refine ⟨_,rfl,?_⟩
                  refine ⟨_,op_ldo rfl rfl rfl rfl,?_⟩
                  refine ⟨_,rfl,(ac_spec_l1In x130.inc 0 1000 s30).mono ?_⟩
                  rintro _ s30 ⟨x134,rfl,h134,rfl⟩
                  rcases x134 with _|_
                  ·replace h134 := of_decide_eq_false h134.symm
                   iterate 3 refine ⟨_,rfl,?_⟩
                   refine AW.cutM (gg + 1) s30 [(1,vL 1 0 (0)),(4,vI (i : Int)),(5,vL 5 0 (gg)),(124,vB true),(149,vB true)] [(1,0,cNV g),(5,gg,[vI x130.inc,vI x130.beat,vI x130.tick])] ⟨rfl,rfl,rfl,rfl,rfl,trivial⟩ ⟨rfl,rfl,trivial⟩ rfl fun ρ0 ff => ?_
                   refine cxs ?_
                   exact ⟨.inl rfl,_,rfl,false,rfl,⟨fun h => absurd h Bool.false_ne_true,fun h => (show False from (h134 (h.rises.2 i x130 hy130).1)).elim⟩,hP30⟩
                  ·replace h134 := of_decide_eq_true h134.symm
                   iterate 2 refine ⟨_,rfl,?_⟩
                   refine ⟨_,op_ldo rfl rfl rfl rfl,?_⟩
                   refine ⟨_,rfl,(ac_spec_l1In x130.beat 0 100000 s30).mono ?_⟩
                   rintro _ s30 ⟨x139,rfl,h139,rfl⟩
                   rcases x139 with _|_
                   ·replace h139 := of_decide_eq_false h139.symm
                    iterate 3 refine ⟨_,rfl,?_⟩
                    refine AW.cutM (gg + 1) s30 [(1,vL 1 0 (0)),(4,vI (i : Int)),(5,vL 5 0 (gg)),(124,vB true),(149,vB true)] [(1,0,cNV g),(5,gg,[vI x130.inc,vI x130.beat,vI x130.tick])] ⟨rfl,rfl,rfl,rfl,rfl,trivial⟩ ⟨rfl,rfl,trivial⟩ rfl fun ρ0 ff => ?_
                    refine cxs ?_
                    exact ⟨.inl rfl,_,rfl,false,rfl,⟨fun h => absurd h Bool.false_ne_true,fun h => (show False from (h139 (h.rises.2 i x130 hy130).2.1)).elim⟩,hP30⟩
                   ·replace h139 := of_decide_eq_true h139.symm
                    iterate 3 refine ⟨_,rfl,?_⟩
                    refine ⟨_,op_ldo rfl rfl rfl rfl,?_⟩
                    refine ⟨_,rfl,?_⟩
                    refine ⟨_,op_ldo rfl rfl rfl rfl,?_⟩
                    refine ⟨_,rfl,(ac_spec_l1In x130.tick 0 g.clock s30).mono ?_⟩
                    rintro _ s30 ⟨x147,rfl,h147,rfl⟩
                    rcases x147 with _|_
                    ·replace h147 := of_decide_eq_false h147.symm
                     iterate 2 refine ⟨_,rfl,?_⟩
                     refine AW.cutM (gg + 1) s30 [(1,vL 1 0 (0)),(4,vI (i : Int)),(5,vL 5 0 (gg)),(124,vB true),(149,vB true)] [(1,0,cNV g),(5,gg,[vI x130.inc,vI x130.beat,vI x130.tick])] ⟨rfl,rfl,rfl,rfl,rfl,trivial⟩ ⟨rfl,rfl,trivial⟩ rfl fun ρ0 ff => ?_
                     refine cxs ?_
                     exact ⟨.inl rfl,_,rfl,false,rfl,⟨fun h => absurd h Bool.false_ne_true,fun h => (show False from (h147 (h.rises.2 i x130 hy130).2.2)).elim⟩,hP30⟩
                    ·replace h147 := of_decide_eq_true h147.symm
                     iterate 2 refine ⟨_,rfl,?_⟩
                     refine AW.cutM (gg + 1) s30 [(1,vL 1 0 (0)),(4,vI (i : Int)),(5,vL 5 0 (gg)),(124,vB true),(149,vB false)] [(1,0,cNV g),(5,gg,[vI x130.inc,vI x130.beat,vI x130.tick])] ⟨rfl,rfl,rfl,rfl,rfl,trivial⟩ ⟨rfl,rfl,trivial⟩ rfl fun ρ0 ff => ?_
                     refine cxs ?_
                     have ew126 : IntKind.wrap .i64 ((i : Int) + (1)) = ((i + 1 : Nat) : Int) := (wrap_i64 (by omega) (by omega)).trans (by omega)
                     refine ⟨_,rfl,?_⟩
                     exact ⟨i + 1,5 - (i + 1),by omega,⟨rfl,congrArg (Value.int .i64) ew126,trivial⟩,⟨rfl,trivial⟩,rfl,by omega,upto (P := fun _ => risOk g.x) hris hy130 ⟨h134,h139,h147⟩,rfl⟩
                ·replace h121 : ¬ ((g.rises.l.length : Int) = (5)) := bne_iff_ne.1 h121
                 refine ⟨_,rfl,?_⟩
                 refine AW.cutM (gg) s30 [(1,vL 1 0 (0)),(122,vB true)] [(1,0,cNV g)] ⟨rfl,rfl,trivial⟩ ⟨rfl,trivial⟩ rfl fun ρ0 ff => ?_
                 refine cxs ?_
                 exact ⟨.inl rfl,_,rfl,false,rfl,⟨fun h => absurd h Bool.false_ne_true,fun h => (show False from (h121 (by have h1 : g.rises.l.length = 5 := h.rises.1; omega))).elim⟩,hP30⟩
          ·replace h77 : (i : Int) < g.n := of_decide_eq_true h77
           refine AW.cutM (gg) s30 [(1,vL 1 0 (0)),(3,vI (i : Int)),(77,vB true)] [(1,0,cNV g)] ⟨rfl,rfl,rfl,trivial⟩ ⟨rfl,trivial⟩ rfl fun ρ0 ff => ?_
           refine cxs ?_
           refine ⟨_,rfl,?_⟩
           refine ⟨_,op_ldo rfl rfl rfl rfl,?_⟩
           refine ⟨ld_own rfl rfl rfl,?_⟩
           refine op_at i (hP30.rows hR.acked) (by omega) rfl rfl rfl rfl rfl rfl rfl ?_
           intro x83 b83 d83 k83 hy83 hb83 hm83 hc83 ho83
           refine ⟨_,op_ldc (i := 0) rfl rfl rfl rfl hm83 hc83 rfl rfl,?_⟩
           refine ⟨ld_lt rfl rfl hb83,?_⟩
           refine ⟨_,rfl,?_⟩
           refine ⟨_,op_ldo rfl rfl rfl rfl,?_⟩
           refine ⟨_,rfl,(ac_spec_LogSeq g.g s30 (hR.g.pres hP30) (bigLog_iff.1 hb.g)).mono ?_⟩
           rintro _ s30 ⟨rfl,rfl⟩
           refine ⟨fun _ _ => rfl,?_⟩
           refine ⟨_,rfl,?_⟩
           rintro (_|_) h88
           ·replace h88 : ¬ (x83 > (logSeq g.g.x)) := of_decide_eq_false h88
            refine AW.cutM (gg) s30 [(1,vL 1 0 (0)),(3,vI (i : Int)),(77,vB true),(88,vB false)] [(1,0,cNV g)] ⟨rfl,rfl,rfl,rfl,trivial⟩ ⟨rfl,trivial⟩ rfl fun ρ0 ff => ?_
            refine cxs ?_
            have ew79 : IntKind.wrap .i64 ((i : Int) + (1)) = ((i + 1 : Nat) : Int) := (wrap_i64 (by omega) (by omega)).trans (by omega)
            refine ⟨_,rfl,?_⟩
            exact ⟨i + 1,g.acked.l.length - (i + 1),by omega,⟨rfl,congrArg (Value.int .i64) ew79,trivial⟩,⟨rfl,trivial⟩,rfl,by omega,upto (P := fun _ x => x ≤ logSeq g.g.x) hok hy83 (by omega),rfl⟩
           ·replace h88 : x83 > (logSeq g.g.x) := of_decide_eq_true h88
            refine AW.cutM (gg) s30 [(1,vL 1 0 (0)),(3,vI (i : Int)),(77,vB true),(88,vB true)] [(1,0,cNV g)] ⟨rfl,rfl,rfl,rfl,trivial⟩ ⟨rfl,trivial⟩ rfl fun ρ0 ff => ?_
            refine cxs ?_
            exact ⟨.inl rfl,_,rfl,false,rfl,⟨fun h => absurd h Bool.false_ne_true,fun h => (show False from (absurd (h.ack i x83 hy83) (by show ¬ x83 ≤ logSeq g.g.x; omega))).elim⟩,hP30⟩
        ·replace h64 : ¬ (x59 = (logSeq g.g.x)) := bne_iff_ne.1 h64
         iterate 2 refine ⟨_,rfl,?_⟩
         refine AW.cutM (1) s30 [(1,vL 1 0 (0)),(2,vB false),(73,vB true)] [(1,0,cNV g)] ⟨rfl,rfl,rfl,trivial⟩ ⟨rfl,trivial⟩ rfl fun ρ0 ff => ?_
         refine cxs ?_
         exact ⟨.inl rfl,_,rfl,false,rfl,⟨fun h => absurd h Bool.false_ne_true,fun h => (show False from (h64 (Option.some.inj (hy59.symm.trans h.seq)))).elim⟩,hP30⟩
def putT {α : Type} (t : List α) (K : Nat) (x : α) : List α := t.take K ++ x :: t.drop (K + 1)
theorem OwnP.put {st st' : St} {q : Option Addr} {u : List RV} {K : Nat} {a : Option Addr} {l l' : List Int} (h : OwnP st (pcT q (putT u K ⟨a,l⟩))) (hp : Pr a st st') (ho : OwnR st' 1 fI a l') (hl : l'.length = l.length) : OwnP st' (pcT q (putT u K ⟨a,l'⟩)) := by
 have h1 : pcT q (putT u K ⟨a,l⟩) = (pcR 1 cRV q (putT u K ⟨a,l⟩) :: (u.take K).map pcRV) ++ pcRV ⟨a,l⟩ :: (u.drop (K + 1)).map pcRV := by simp [pcT,putT]
 have h2 : pcT q (putT u K ⟨a,l'⟩) = (pcR 1 cRV q (putT u K ⟨a,l⟩) :: (u.take K).map pcRV) ++ pcRV ⟨a,l'⟩ :: (u.drop (K + 1)).map pcRV := by simp [pcT,putT,pcR,hl]
 rw [h1] at h
 rw [h2]
 exact OwnP.update h hp (own_pc ho) rfl
theorem Frs.one {α : Type} {a b : St} {z : Nat} {f : α → List Value} {p : Option Addr} {l : List α} (hO : OwnR b z f p l) (hN : New a.next p) (hP : Pres a b) : Frs a b [pcR z f p l] := ⟨OwnP.one (own_pc hO),NewP.cons hN NewP.nil,hP⟩
theorem Frs.nil (a : St) : Frs a a [] := ⟨OwnP.nil,NewP.nil,Pres.refl _⟩
theorem nd_mk {id n num slots wait limit clock : Int} {s s' : Sta} {t t' : Tr} {g g' : Lg} {got acked : List Int} {seen seen' : List (List Int)} {sess : List Ses} {rises : List Ris} (h1 : s = s') (h2 : t = t') (h3 : g = g') (h4 : seen = seen') : (⟨id,n,s,t,g,got,acked,seen,num,slots,sess,wait,limit,clock,rises⟩ : Nd) = ⟨id,n,s',t',g',got,acked,seen',num,slots,sess,wait,limit,clock,rises⟩ := by rw [h1,h2,h3,h4]
theorem OwnP.swap {st st' : St} {a c d b : List Pc} (h : OwnP st (a ++ (c ++ b))) (hF : Frs st st' d) : OwnP st' (a ++ (d ++ b)) :=
 (OwnP.joinF (OwnP.right (OwnP.front1 h)) hF.2.2 hF.1 hF.2.1).front1
theorem NewP.left {n : Nat} {a b : List Pc} (h : NewP n (a ++ b)) : NewP n a := fun c hc => h c (List.mem_append_left _ hc)
theorem NewP.right {n : Nat} {a b : List Pc} (h : NewP n (a ++ b)) : NewP n b := fun c hc => h c (List.mem_append_right _ hc)
theorem Frs.swap {s0 st st' : St} {a c d b : List Pc} (h : Frs s0 st (a ++ (c ++ b))) (hF : Frs st st' d) : Frs s0 st' (a ++ (d ++ b)) :=
 ⟨h.1.swap hF,h.2.1.left.app ((hF.2.1.le h.2.2.1).app h.2.1.right.right),h.2.2.trans hF.2.2⟩
theorem Frs.sess {s0 st st' : St} {v : NW} {q : SesV} (h : Frs s0 st (pcNW v)) (hF : Frs st st' (pcSes q)) : Frs s0 st' (pcNW { v with sess := q }) := by
 have e : ∀ x : SesV,pcNW { v with sess := x } = (pcS v.s ++ (pcIs v.t.toRV ++ (pcLog v.g ++ (pcIs v.got ++ (pcIs v.acked ++ pcTT v.seen))))) ++ (pcSes x ++ pcRis v.rises) := fun x => by simp only [List.append_assoc]
 rw [e]
 exact Frs.swap (c := pcSes v.sess) (by rw [← e]; exact h) hF
theorem Frs.ses0 {a : St} : Frs a a (pcSes ⟨none,[]⟩) := ⟨OwnP.one (.inl ⟨rfl,rfl⟩),NewP.cons New.none NewP.nil,Pres.refl _⟩
def zI (n : Int) : List Int := List.replicate n.toNat 0
theorem zI_len (n : Int) : (zI n).length = n.toNat := List.length_replicate
theorem zI_int {n : Int} (h : 1 ≤ n ∧ n ≤ 5) : n = ((zI n).length : Int) := by rw [zI_len]; omega
theorem zI_mk (n : Int) : List.replicate (zI n).length (0 : Int) = zI n := by rw [zI_len]; rfl
abbrev zLW (cap : Int) : LW := ⟨cap,0,none,[],pcR 2 cSV none [],.inl rfl⟩
theorem Frs.lg0 {a : St} {cap : Int} : Frs a a (pcLog (zLW cap)) := ⟨OwnP.one (.inl ⟨rfl,rfl⟩),NewP.cons New.none NewP.nil,Pres.refl _⟩
theorem Frs.i0 {a : St} : Frs a a (pcIs ⟨none,[]⟩) := ⟨OwnP.one (.inl ⟨rfl,rfl⟩),NewP.cons New.none NewP.nil,Pres.refl _⟩
theorem Frs.t0 {a : St} : Frs a a (pcTT ⟨none,[]⟩) := ⟨OwnP.one (.inl ⟨rfl,rfl⟩),NewP.cons New.none NewP.nil,Pres.refl _⟩
theorem Frs.r0 {a : St} : Frs a a (pcRis ⟨none,[]⟩) := ⟨OwnP.one (.inl ⟨rfl,rfl⟩),NewP.cons New.none NewP.nil,Pres.refl _⟩
theorem Frs.s0 {a : St} : Frs a a (pcS ⟨none,none,nilS⟩) := ⟨pcS_nil,newS_nil,Pres.refl _⟩
theorem Frs.got {s0 st st' : St} {v : NW} {q : RV} (h : Frs s0 st (pcNW v)) (hF : Frs st st' (pcIs q)) : Frs s0 st' (pcNW { v with got := q }) := by
 have e : ∀ x : RV,pcNW { v with got := x } = (pcS v.s ++ (pcIs v.t.toRV ++ pcLog v.g)) ++ (pcIs x ++ (pcIs v.acked ++ (pcTT v.seen ++ (pcSes v.sess ++ pcRis v.rises)))) := fun x => by simp only [List.append_assoc]
 rw [e]
 exact Frs.swap (c := pcIs v.got) (by rw [← e]; exact h) hF
theorem Frs.acked {s0 st st' : St} {v : NW} {q : RV} (h : Frs s0 st (pcNW v)) (hF : Frs st st' (pcIs q)) : Frs s0 st' (pcNW { v with acked := q }) := by
 have e : ∀ x : RV,pcNW { v with acked := x } = (pcS v.s ++ (pcIs v.t.toRV ++ (pcLog v.g ++ pcIs v.got))) ++ (pcIs x ++ (pcTT v.seen ++ (pcSes v.sess ++ pcRis v.rises))) := fun x => by simp only [List.append_assoc]
 rw [e]
 exact Frs.swap (c := pcIs v.acked) (by rw [← e]; exact h) hF
theorem Frs.rise {s0 st st' : St} {v : NW} {q : RisV} (h : Frs s0 st (pcNW v)) (hF : Frs st st' (pcRis q)) : Frs s0 st' (pcNW { v with rises := q }) := by
 have e : ∀ x : RisV,pcNW { v with rises := x } = (pcS v.s ++ (pcIs v.t.toRV ++ (pcLog v.g ++ (pcIs v.got ++ (pcIs v.acked ++ (pcTT v.seen ++ pcSes v.sess)))))) ++ (pcRis x ++ []) := fun x => by simp only [List.append_assoc,List.append_nil]
 rw [e]
 exact Frs.swap (c := pcRis v.rises) (by rw [← e]; exact h) hF
def zNd : Nd := ⟨0,0,nilS,⟨[],0⟩,⟨0,0,[]⟩,[],[],[],0,0,[],0,0,0,[]⟩
abbrev zNW : NW := ⟨0,0,⟨none,none,nilS⟩,⟨⟨none,[]⟩,0⟩,zLW 0,⟨none,[]⟩,⟨none,[]⟩,⟨none,[]⟩,0,0,⟨none,[]⟩,0,0,0,⟨none,[]⟩⟩
theorem Frs.nd0 {a : St} : Frs a a (pcNW zNW) := Frs.s0.join (Frs.i0.join (Frs.lg0.join (Frs.i0.join (Frs.i0.join (Frs.t0.join (Frs.ses0.join Frs.r0))))))
noncomputable def newN (id n cap slots wait limit : Int) : Nd := ⟨id,n,nilS,treeF nilS,⟨cap,0,[]⟩,zI n,zI n,tnew n,0,slots,[],wait,limit,0,List.replicate 5 zRis⟩
abbrev newW (id n cap slots wait limit : Int) (t : TV) (q1 q2 : Option Addr) (tt : TT) (q3 : Option Addr) : NW := ⟨id,n,⟨none,none,nilS⟩,t,zLW cap,⟨q1,zI n⟩,⟨q2,zI n⟩,tt,0,slots,⟨none,[]⟩,wait,limit,0,⟨q3,List.replicate 5 zRis⟩⟩
open Classical in
noncomputable def newF (id n cap slots wait limit : Int) : Nd × Bool := if (1 ≤ n ∧ n ≤ 5) ∧ nodeOk (newN id n cap slots wait limit) then (newN id n cap slots wait limit,true) else (zNd,false)
theorem newF_no {id n cap slots wait limit : Int} (h : ¬ ((1 ≤ n ∧ n ≤ 5) ∧ nodeOk (newN id n cap slots wait limit))) : (zNd,false) = newF id n cap slots wait limit := (if_neg h).symm
theorem newF_yes {id n cap slots wait limit : Int} {x : Nd} (h : (1 ≤ n ∧ n ≤ 5) ∧ nodeOk (newN id n cap slots wait limit)) (hx : x = newN id n cap slots wait limit) : (x,true) = newF id n cap slots wait limit := by rw [hx]; exact (if_pos h).symm
theorem tree_len (s : Sta) : (treeF s).leaves.length ≤ 4 := by
 unfold treeF
 split
 ·exact Nat.le_of_eq (sums_len s 4)
 ·exact Nat.zero_le _
theorem newN_big {id n cap slots wait limit : Int} (h : 1 ≤ n ∧ n ≤ 5) : bigN (newN id n cap slots wait limit) := by
 have h1 := zI_len n
 have h2 := tnew_len n
 have h3 := tree_len nilS
 exact ⟨bigS_nil,by show (treeF nilS).leaves.length ≤ 1048576; omega,⟨Nat.zero_le _,fun s hs => by cases hs⟩,by show (zI n).length ≤ 1048576; omega,by show (zI n).length ≤ 1048576; omega,⟨by show (tnew n).length ≤ 1048576; omega,fun l hl => by have := h2.2 l hl; show l.length ≤ 1048576; omega⟩,Nat.zero_le _,by show (List.replicate 5 zRis).length ≤ 1048576; decide⟩
theorem ac_impl_NodeNew (id n cap slots wait limit : Int) (st : St) : C 32 [vI id,vI n,vI cap,vI slots,vI wait,vI limit] st (fun v s => ∃ (u : NW) (b : Bool),v = .tuple #[.agg #[vI u.id,vI u.n,vS u.s.p u.s.x.items.length,vS u.s.q u.s.x.floors.length,vS u.t.p u.t.l.length,vI u.t.root,vI u.g.cap,vI u.g.frm,vS u.g.p u.g.l.length,vS u.got.p u.got.l.length,vS u.acked.p u.acked.l.length,vS u.seen.p u.seen.t.length,vI u.num,vI u.slots,vS u.sess.p u.sess.l.length,vI u.wait,vI u.limit,vI u.clock,vS u.rises.p u.rises.l.length],vB b] ∧ (u.x,b) = newF id n cap slots wait limit ∧ OwnP s (pcNW u) ∧ NewP st.next (pcNW u) ∧ Pres st s) := by
 refine AC.enterX (i := ⟨[12,14],[12,14,36,37,38,39,40],[0,1,2,3,4,5,12,13,14,17,43],[(3,[0,1,2,3,4,5,6,8,7,9,10,11,12]),(4,[0,1,2,3,4,6,7,8,9,10,11,12,13,5,14,15])]⟩) [(3,[],[]),(4,[],[])] Try.func32 rfl rfl (by kernel_rfl) (by kernel_rfl) Try.ntmps32 (Nat.le_of_ble_eq_true rfl) rfl ?_
 refine ⟨_,rfl,?_⟩
 refine AW.cutM (1) st [(0,vI id),(1,vI n),(2,vI cap),(3,vI slots),(4,vI wait),(5,vI limit),(12,vL 12 0 (0)),(13,vB false)] [(12,0,[vI 0,vI 0,.slice none 0 0,.slice none 0 0,.slice none 0 0,vI 0,vI 0,vI 0,.slice none 0 0,.slice none 0 0,.slice none 0 0,.slice none 0 0,vI 0,vI 0,.slice none 0 0,vI 0,vI 0,vI 0,.slice none 0 0])] ⟨rfl,rfl,rfl,rfl,rfl,rfl,rfl,rfl,trivial⟩ ⟨rfl,trivial⟩ rfl fun ρ0 ff => ?_
 refine ⟨_,rfl,(ac_impl_within n 1 5 st).mono ?_⟩
 rintro _ st ⟨x16,rfl,h16,rfl⟩
 rcases x16 with _|_
 ·replace h16 := of_decide_eq_false h16.symm
  refine ⟨_,rfl,?_⟩
  refine AW.cutM (1) st [(0,vI id),(1,vI n),(2,vI cap),(3,vI slots),(4,vI wait),(5,vI limit),(12,vL 12 0 (0)),(13,vB false),(17,vB true)] [(12,0,[vI 0,vI 0,.slice none 0 0,.slice none 0 0,.slice none 0 0,vI 0,vI 0,vI 0,.slice none 0 0,.slice none 0 0,.slice none 0 0,.slice none 0 0,vI 0,vI 0,.slice none 0 0,vI 0,vI 0,vI 0,.slice none 0 0])] ⟨rfl,rfl,rfl,rfl,rfl,rfl,rfl,rfl,rfl,trivial⟩ ⟨rfl,trivial⟩ rfl fun ρ0 ff => ?_
  refine ⟨_,rfl,?_⟩
  refine ⟨_,op_stw (vs := [vI 0,vI 0,.slice none 0 0,.slice none 0 0,.slice none 0 0,vI 0,vI 0,vI 0,.slice none 0 0,.slice none 0 0,.slice none 0 0,.slice none 0 0,vI 0,vI 0,.slice none 0 0,vI 0,vI 0,vI 0,.slice none 0 0]) rfl rfl rfl rfl rfl rfl rfl rfl,?_⟩
  refine cxs ?_
  exact ⟨.inl rfl,_,rfl,zNW,false,rfl,newF_no (fun k => h16 k.1),Frs.nd0.1,Frs.nd0.2.1,Pres.refl _⟩
 ·replace h16 := of_decide_eq_true h16.symm
  refine ⟨_,rfl,?_⟩
  refine AW.cutM (1) st [(0,vI id),(1,vI n),(2,vI cap),(3,vI slots),(4,vI wait),(5,vI limit),(12,vL 12 0 (0)),(13,vB false),(17,vB false)] [(12,0,[vI 0,vI 0,.slice none 0 0,.slice none 0 0,.slice none 0 0,vI 0,vI 0,vI 0,.slice none 0 0,.slice none 0 0,.slice none 0 0,.slice none 0 0,vI 0,vI 0,.slice none 0 0,vI 0,vI 0,vI 0,.slice none 0 0])] ⟨rfl,rfl,rfl,rfl,rfl,rfl,rfl,rfl,rfl,trivial⟩ ⟨rfl,trivial⟩ rfl fun ρ0 ff => ?_
  refine cxs ?_
  refine ⟨_,rfl,?_⟩
  refine ⟨_,rfl,(ac_impl_TreeOf ⟨none,none,nilS⟩ st ⟨Rows.nil,Rows.nil⟩ bigS_nil).mono ?_⟩
  rintro _ s22 ⟨u22,rfl,h22,hO22,hN22,hP22⟩
  refine ⟨_,rfl,?_⟩
  refine op_mkK (z := 1) (f := fI) (a := (0 : Int)) (b := 8) (i := (zI n).length) rfl rfl rfl (zI_int h16) (zI_int h16) rfl rfl rfl rfl Nat.one_pos rfl rfl (by have := zI_len n; omega) (by have := zI_len n; omega) ?_
  intro q26 s26 hO26 hP26 hN26
  rw [zI_mk] at hO26
  refine op_mkK (z := 1) (f := fI) (a := (0 : Int)) (b := 8) (i := (zI n).length) rfl rfl rfl (zI_int h16) (zI_int h16) rfl rfl rfl rfl Nat.one_pos rfl rfl (by have := zI_len n; omega) (by have := zI_len n; omega) ?_
  intro q28 s28 hO28 hP28 hN28
  rw [zI_mk] at hO28
  iterate 2 refine ⟨_,rfl,?_⟩
  refine ⟨_,op_stw (vs := [vI id,vI n,.slice none 0 0,.slice none 0 0,vS u22.p u22.l.length,vI u22.root,vI cap,vI 0,.slice none 0 0,vS q26 (zI n).length,vS q28 (zI n).length,.slice none 0 0,vI 0,vI 0,.slice none 0 0,vI 0,vI 0,vI 0,.slice none 0 0]) rfl rfl rfl rfl rfl rfl rfl rfl,?_⟩
  refine AW.cutM (2) s28 [(1,vI n),(3,vI slots),(4,vI wait),(5,vI limit),(12,vL 12 0 (0)),(13,vB false),(14,vL 14 0 (1))] [(12,0,[vI 0,vI 0,.slice none 0 0,.slice none 0 0,.slice none 0 0,vI 0,vI 0,vI 0,.slice none 0 0,.slice none 0 0,.slice none 0 0,.slice none 0 0,vI 0,vI 0,.slice none 0 0,vI 0,vI 0,vI 0,.slice none 0 0]),(14,1,[vI id,vI n,.slice none 0 0,.slice none 0 0,vS u22.p u22.l.length,vI u22.root,vI cap,vI 0,.slice none 0 0,vS q26 (zI n).length,vS q28 (zI n).length,.slice none 0 0,vI 0,vI 0,.slice none 0 0,vI 0,vI 0,vI 0,.slice none 0 0])] ⟨rfl,rfl,rfl,rfl,rfl,rfl,rfl,trivial⟩ ⟨rfl,rfl,trivial⟩ rfl fun ρ0 ff => ?_
  refine ⟨_,rfl,(ac_impl_TableNew n s28).mono ?_⟩
  rintro _ s31 ⟨p31,t31,rfl,hO31,hN31,hP31,h31⟩
  refine ⟨_,rfl,?_⟩
  refine ⟨_,op_sto rfl rfl rfl rfl rfl rfl rfl,?_⟩
  refine ⟨_,rfl,?_⟩
  refine ⟨_,op_sto rfl rfl rfl rfl rfl rfl rfl,?_⟩
  refine ⟨_,rfl,?_⟩
  refine ⟨_,op_sto rfl rfl rfl rfl rfl rfl rfl,?_⟩
  refine ⟨_,rfl,?_⟩
  refine ⟨_,op_sto rfl rfl rfl rfl rfl rfl rfl,?_⟩
  refine op_mkK (z := 3) (f := cRise) (a := zRis) (b := 24) (i := 5) rfl rfl rfl rfl rfl rfl rfl rfl rfl (by decide) rfl rfl (by decide) (by decide) ?_
  intro q35 s35 hO35 hP35 hN35
  refine ⟨_,rfl,?_⟩
  refine ⟨_,op_sto rfl rfl rfl rfl rfl rfl rfl,?_⟩
  refine AW.cutM (2) s35 [(12,vL 12 0 (0)),(13,vB false),(14,vL 14 0 (1))] [(12,0,[vI 0,vI 0,.slice none 0 0,.slice none 0 0,.slice none 0 0,vI 0,vI 0,vI 0,.slice none 0 0,.slice none 0 0,.slice none 0 0,.slice none 0 0,vI 0,vI 0,.slice none 0 0,vI 0,vI 0,vI 0,.slice none 0 0]),(14,1,[vI id,vI n,.slice none 0 0,.slice none 0 0,vS u22.p u22.l.length,vI u22.root,vI cap,vI 0,.slice none 0 0,vS q26 (zI n).length,vS q28 (zI n).length,vS p31 t31.length,vI 0,vI slots,.slice none 0 0,vI wait,vI limit,vI 0,vS q35 5])] ⟨rfl,rfl,rfl,trivial⟩ ⟨rfl,rfl,trivial⟩ rfl fun ρ0 ff => ?_
  have hF : Frs st s35 (pcNW (newW id n cap slots wait limit u22 q26 q28 ⟨p31,t31⟩ q35)) := Frs.s0.join ((Frs.one hO22 hN22 hP22).join (Frs.lg0.join ((Frs.one hO26 hN26 hP26).join ((Frs.one hO28 hN28 hP28).join (Frs.join ⟨hO31,hN31,hP31⟩ (Frs.ses0.join (Frs.one hO35 hN35 hP35)))))))
  have hx : (newW id n cap slots wait limit u22 q26 q28 ⟨p31,t31⟩ q35).x = newN id n cap slots wait limit := nd_mk rfl h22 rfl h31
  refine ⟨_,op_ldo (v := .agg #[vI id,vI n,.slice none 0 0,.slice none 0 0,vS u22.p u22.l.length,vI u22.root,vI cap,vI 0,.slice none 0 0,vS q26 (zI n).length,vS q28 (zI n).length,vS p31 t31.length,vI 0,vI slots,.slice none 0 0,vI wait,vI limit,vI 0,vS q35 5]) rfl rfl rfl rfl,?_⟩
  refine ⟨_,rfl,(ac_impl_NodeOk (newW id n cap slots wait limit u22 q26 q28 ⟨p31,t31⟩ q35).v s35 hF.1.rdN (show bigN (newW id n cap slots wait limit u22 q26 q28 ⟨p31,t31⟩ q35).x from hx.symm ▸ newN_big h16)).mono ?_⟩
  rintro _ s42 ⟨x42,rfl,h42,hP42⟩
  rcases x42 with _|_
  ·replace h42 := fun k => Bool.false_ne_true (h42.2 k)
   refine ⟨_,rfl,?_⟩
   refine AW.cutM (2) s42 [(12,vL 12 0 (0)),(13,vB false),(14,vL 14 0 (1)),(43,vB true)] [(12,0,[vI 0,vI 0,.slice none 0 0,.slice none 0 0,.slice none 0 0,vI 0,vI 0,vI 0,.slice none 0 0,.slice none 0 0,.slice none 0 0,.slice none 0 0,vI 0,vI 0,.slice none 0 0,vI 0,vI 0,vI 0,.slice none 0 0]),(14,1,[vI id,vI n,.slice none 0 0,.slice none 0 0,vS u22.p u22.l.length,vI u22.root,vI cap,vI 0,.slice none 0 0,vS q26 (zI n).length,vS q28 (zI n).length,vS p31 t31.length,vI 0,vI slots,.slice none 0 0,vI wait,vI limit,vI 0,vS q35 5])] ⟨rfl,rfl,rfl,rfl,trivial⟩ ⟨rfl,rfl,trivial⟩ rfl fun ρ0 ff => ?_
   refine ⟨_,rfl,?_⟩
   refine ⟨_,op_stw (vs := [vI 0,vI 0,.slice none 0 0,.slice none 0 0,.slice none 0 0,vI 0,vI 0,vI 0,.slice none 0 0,.slice none 0 0,.slice none 0 0,.slice none 0 0,vI 0,vI 0,.slice none 0 0,vI 0,vI 0,vI 0,.slice none 0 0]) rfl rfl rfl rfl rfl rfl rfl rfl,?_⟩
   refine cxs ?_
   exact ⟨.inl rfl,_,rfl,zNW,false,rfl,newF_no (fun k => h42 (show nodeOk (newW id n cap slots wait limit u22 q26 q28 ⟨p31,t31⟩ q35).x from hx.symm ▸ k.2)),Frs.nd0.1,Frs.nd0.2.1,hF.2.2.trans hP42⟩
  ·replace h42 := h42.1 rfl
   refine ⟨_,rfl,?_⟩
   refine AW.cutM (2) s42 [(12,vL 12 0 (0)),(13,vB false),(14,vL 14 0 (1)),(43,vB false)] [(12,0,[vI 0,vI 0,.slice none 0 0,.slice none 0 0,.slice none 0 0,vI 0,vI 0,vI 0,.slice none 0 0,.slice none 0 0,.slice none 0 0,.slice none 0 0,vI 0,vI 0,.slice none 0 0,vI 0,vI 0,vI 0,.slice none 0 0]),(14,1,[vI id,vI n,.slice none 0 0,.slice none 0 0,vS u22.p u22.l.length,vI u22.root,vI cap,vI 0,.slice none 0 0,vS q26 (zI n).length,vS q28 (zI n).length,vS p31 t31.length,vI 0,vI slots,.slice none 0 0,vI wait,vI limit,vI 0,vS q35 5])] ⟨rfl,rfl,rfl,rfl,trivial⟩ ⟨rfl,rfl,trivial⟩ rfl fun ρ0 ff => ?_
   refine cxs ?_
   refine ⟨_,op_ldo (v := .agg #[vI id,vI n,.slice none 0 0,.slice none 0 0,vS u22.p u22.l.length,vI u22.root,vI cap,vI 0,.slice none 0 0,vS q26 (zI n).length,vS q28 (zI n).length,vS p31 t31.length,vI 0,vI slots,.slice none 0 0,vI wait,vI limit,vI 0,vS q35 5]) rfl rfl rfl rfl,?_⟩
   refine ⟨_,op_stw (vs := [vI id,vI n,.slice none 0 0,.slice none 0 0,vS u22.p u22.l.length,vI u22.root,vI cap,vI 0,.slice none 0 0,vS q26 (zI n).length,vS q28 (zI n).length,vS p31 t31.length,vI 0,vI slots,.slice none 0 0,vI wait,vI limit,vI 0,vS q35 5]) rfl rfl rfl rfl rfl rfl rfl rfl,?_⟩
   refine cxs ?_
   exact ⟨.inl rfl,_,rfl,newW id n cap slots wait limit u22 q26 q28 ⟨p31,t31⟩ q35,true,rfl,newF_yes ⟨h16,hx ▸ (show nodeOk (newW id n cap slots wait limit u22 q26 q28 ⟨p31,t31⟩ q35).x from h42)⟩ hx,hF.1.pres hP42,hF.2.1,hF.2.2.trans hP42⟩
theorem ac_spec_NodeNew (id n cap slots wait limit : Int) (st : St) : C 31 [vI id,vI n,vI cap,vI slots,vI wait,vI limit] st (fun v s => ∃ (u : NW) (b : Bool),v = .tuple #[.agg #[vI u.id,vI u.n,vS u.s.p u.s.x.items.length,vS u.s.q u.s.x.floors.length,vS u.t.p u.t.l.length,vI u.t.root,vI u.g.cap,vI u.g.frm,vS u.g.p u.g.l.length,vS u.got.p u.got.l.length,vS u.acked.p u.acked.l.length,vS u.seen.p u.seen.t.length,vI u.num,vI u.slots,vS u.sess.p u.sess.l.length,vI u.wait,vI u.limit,vI u.clock,vS u.rises.p u.rises.l.length],vB b] ∧ (u.x,b) = newF id n cap slots wait limit ∧ OwnP s (pcNW u) ∧ NewP st.next (pcNW u) ∧ Pres st s) := by
 refine AC.enterX (i := ⟨[12,14],[12,14],[0,1,2,3,4,5,12,13,14,17,38],[(3,[0,1,2,3,4,5,6,8,10,11,12,13,14,7,9,15,16,17,18])]⟩) [(3,[],[])] Try.func31 rfl rfl (by kernel_rfl) (by kernel_rfl) Try.ntmps31 (Nat.le_of_ble_eq_true rfl) rfl ?_
 refine ⟨_,rfl,?_⟩
 refine AW.cutM (1) st [(0,vI id),(1,vI n),(2,vI cap),(3,vI slots),(4,vI wait),(5,vI limit),(12,vL 12 0 (0)),(13,vB false)] [(12,0,[vI 0,vI 0,.slice none 0 0,.slice none 0 0,.slice none 0 0,vI 0,vI 0,vI 0,.slice none 0 0,.slice none 0 0,.slice none 0 0,.slice none 0 0,vI 0,vI 0,.slice none 0 0,vI 0,vI 0,vI 0,.slice none 0 0])] ⟨rfl,rfl,rfl,rfl,rfl,rfl,rfl,rfl,trivial⟩ ⟨rfl,trivial⟩ rfl fun ρ0 ff => ?_
 refine ⟨_,rfl,(ac_spec_l1In n 1 5 st).mono ?_⟩
 rintro _ st ⟨x16,rfl,h16,rfl⟩
 rcases x16 with _|_
 ·replace h16 := of_decide_eq_false h16.symm
  refine ⟨_,rfl,?_⟩
  refine AW.cutM (1) st [(0,vI id),(1,vI n),(2,vI cap),(3,vI slots),(4,vI wait),(5,vI limit),(12,vL 12 0 (0)),(13,vB false),(17,vB true)] [(12,0,[vI 0,vI 0,.slice none 0 0,.slice none 0 0,.slice none 0 0,vI 0,vI 0,vI 0,.slice none 0 0,.slice none 0 0,.slice none 0 0,.slice none 0 0,vI 0,vI 0,.slice none 0 0,vI 0,vI 0,vI 0,.slice none 0 0])] ⟨rfl,rfl,rfl,rfl,rfl,rfl,rfl,rfl,rfl,trivial⟩ ⟨rfl,trivial⟩ rfl fun ρ0 ff => ?_
  refine ⟨_,rfl,?_⟩
  refine ⟨_,op_stw (vs := [vI 0,vI 0,.slice none 0 0,.slice none 0 0,.slice none 0 0,vI 0,vI 0,vI 0,.slice none 0 0,.slice none 0 0,.slice none 0 0,.slice none 0 0,vI 0,vI 0,.slice none 0 0,vI 0,vI 0,vI 0,.slice none 0 0]) rfl rfl rfl rfl rfl rfl rfl rfl,?_⟩
  refine cxs ?_
  exact ⟨.inl rfl,_,rfl,zNW,false,rfl,newF_no (fun k => h16 k.1),Frs.nd0.1,Frs.nd0.2.1,Pres.refl _⟩
 ·replace h16 := of_decide_eq_true h16.symm
  refine ⟨_,rfl,?_⟩
  refine AW.cutM (1) st [(0,vI id),(1,vI n),(2,vI cap),(3,vI slots),(4,vI wait),(5,vI limit),(12,vL 12 0 (0)),(13,vB false),(17,vB false)] [(12,0,[vI 0,vI 0,.slice none 0 0,.slice none 0 0,.slice none 0 0,vI 0,vI 0,vI 0,.slice none 0 0,.slice none 0 0,.slice none 0 0,.slice none 0 0,vI 0,vI 0,.slice none 0 0,vI 0,vI 0,vI 0,.slice none 0 0])] ⟨rfl,rfl,rfl,rfl,rfl,rfl,rfl,rfl,rfl,trivial⟩ ⟨rfl,trivial⟩ rfl fun ρ0 ff => ?_
  refine cxs ?_
  refine ⟨_,rfl,?_⟩
  refine ⟨_,rfl,(ac_spec_TreeOf ⟨none,none,nilS⟩ st ⟨Rows.nil,Rows.nil⟩ bigS_nil).mono ?_⟩
  rintro _ s22 ⟨u22,rfl,h22,hO22,hN22,hP22⟩
  refine ⟨_,rfl,?_⟩
  refine ⟨_,rfl,(ac_spec_TableNew n s22).mono ?_⟩
  rintro _ s30 ⟨p30,t30,rfl,hO30,hN30,hP30,h30⟩
  refine op_mkK (z := 1) (f := fI) (a := (0 : Int)) (b := 8) (i := (zI n).length) rfl rfl rfl (zI_int h16) (zI_int h16) rfl rfl rfl rfl Nat.one_pos rfl rfl (by have := zI_len n; omega) (by have := zI_len n; omega) ?_
  intro q26 s26 hO26 hP26 hN26
  rw [zI_mk] at hO26
  refine op_mkK (z := 1) (f := fI) (a := (0 : Int)) (b := 8) (i := (zI n).length) rfl rfl rfl (zI_int h16) (zI_int h16) rfl rfl rfl rfl Nat.one_pos rfl rfl (by have := zI_len n; omega) (by have := zI_len n; omega) ?_
  intro q28 s28 hO28 hP28 hN28
  rw [zI_mk] at hO28
  refine op_mkK (z := 3) (f := cRise) (a := zRis) (b := 24) (i := 5) rfl rfl rfl rfl rfl rfl rfl rfl rfl (by decide) rfl rfl (by decide) (by decide) ?_
  intro q34 s34 hO34 hP34 hN34
  iterate 2 refine ⟨_,rfl,?_⟩
  refine ⟨_,op_stw (vs := [vI id,vI n,.slice none 0 0,.slice none 0 0,vS u22.p u22.l.length,vI u22.root,vI cap,vI 0,.slice none 0 0,vS q26 (zI n).length,vS q28 (zI n).length,vS p30 t30.length,vI 0,vI slots,.slice none 0 0,vI wait,vI limit,vI 0,vS q34 5]) rfl rfl rfl rfl rfl rfl rfl rfl,?_⟩
  refine AW.cutM (2) s34 [(12,vL 12 0 (0)),(13,vB false),(14,vL 14 0 (1))] [(12,0,[vI 0,vI 0,.slice none 0 0,.slice none 0 0,.slice none 0 0,vI 0,vI 0,vI 0,.slice none 0 0,.slice none 0 0,.slice none 0 0,.slice none 0 0,vI 0,vI 0,.slice none 0 0,vI 0,vI 0,vI 0,.slice none 0 0]),(14,1,[vI id,vI n,.slice none 0 0,.slice none 0 0,vS u22.p u22.l.length,vI u22.root,vI cap,vI 0,.slice none 0 0,vS q26 (zI n).length,vS q28 (zI n).length,vS p30 t30.length,vI 0,vI slots,.slice none 0 0,vI wait,vI limit,vI 0,vS q34 5])] ⟨rfl,rfl,rfl,trivial⟩ ⟨rfl,rfl,trivial⟩ rfl fun ρ0 ff => ?_
  have hF0 : Frs st s30 (pcNW ⟨id,n,⟨none,none,nilS⟩,u22,zLW cap,⟨none,[]⟩,⟨none,[]⟩,⟨p30,t30⟩,0,slots,⟨none,[]⟩,wait,limit,0,⟨none,[]⟩⟩) := Frs.s0.join ((Frs.one hO22 hN22 hP22).join (Frs.lg0.join (Frs.i0.join (Frs.i0.join (Frs.join ⟨hO30,hN30,hP30⟩ (Frs.ses0.join Frs.r0))))))
  have hF1 := ((hF0.got (q := ⟨q26,zI n⟩) (Frs.one hO26 hN26 hP26)).acked (q := ⟨q28,zI n⟩) (Frs.one hO28 hN28 hP28))
  have hF : Frs st s34 (pcNW (newW id n cap slots wait limit u22 q26 q28 ⟨p30,t30⟩ q34)) := hF1.rise (q := ⟨q34,List.replicate 5 zRis⟩) (Frs.one hO34 hN34 hP34)
  have hx : (newW id n cap slots wait limit u22 q26 q28 ⟨p30,t30⟩ q34).x = newN id n cap slots wait limit := nd_mk rfl h22 rfl h30
  refine ⟨_,op_ldo (v := .agg #[vI id,vI n,.slice none 0 0,.slice none 0 0,vS u22.p u22.l.length,vI u22.root,vI cap,vI 0,.slice none 0 0,vS q26 (zI n).length,vS q28 (zI n).length,vS p30 t30.length,vI 0,vI slots,.slice none 0 0,vI wait,vI limit,vI 0,vS q34 5]) rfl rfl rfl rfl,?_⟩
  refine ⟨_,rfl,(ac_spec_NodeOk (newW id n cap slots wait limit u22 q26 q28 ⟨p30,t30⟩ q34).v s34 hF.1.rdN (show bigN (newW id n cap slots wait limit u22 q26 q28 ⟨p30,t30⟩ q34).x from hx.symm ▸ newN_big h16)).mono ?_⟩
  rintro _ s37 ⟨x37,rfl,h37,hP37⟩
  rcases x37 with _|_
  ·replace h37 := fun k => Bool.false_ne_true (h37.2 k)
   refine ⟨_,rfl,?_⟩
   refine AW.cutM (2) s37 [(12,vL 12 0 (0)),(13,vB false),(14,vL 14 0 (1)),(38,vB true)] [(12,0,[vI 0,vI 0,.slice none 0 0,.slice none 0 0,.slice none 0 0,vI 0,vI 0,vI 0,.slice none 0 0,.slice none 0 0,.slice none 0 0,.slice none 0 0,vI 0,vI 0,.slice none 0 0,vI 0,vI 0,vI 0,.slice none 0 0]),(14,1,[vI id,vI n,.slice none 0 0,.slice none 0 0,vS u22.p u22.l.length,vI u22.root,vI cap,vI 0,.slice none 0 0,vS q26 (zI n).length,vS q28 (zI n).length,vS p30 t30.length,vI 0,vI slots,.slice none 0 0,vI wait,vI limit,vI 0,vS q34 5])] ⟨rfl,rfl,rfl,rfl,trivial⟩ ⟨rfl,rfl,trivial⟩ rfl fun ρ0 ff => ?_
   refine ⟨_,rfl,?_⟩
   refine ⟨_,op_stw (vs := [vI 0,vI 0,.slice none 0 0,.slice none 0 0,.slice none 0 0,vI 0,vI 0,vI 0,.slice none 0 0,.slice none 0 0,.slice none 0 0,.slice none 0 0,vI 0,vI 0,.slice none 0 0,vI 0,vI 0,vI 0,.slice none 0 0]) rfl rfl rfl rfl rfl rfl rfl rfl,?_⟩
   refine cxs ?_
   exact ⟨.inl rfl,_,rfl,zNW,false,rfl,newF_no (fun k => h37 (show nodeOk (newW id n cap slots wait limit u22 q26 q28 ⟨p30,t30⟩ q34).x from hx.symm ▸ k.2)),Frs.nd0.1,Frs.nd0.2.1,hF.2.2.trans hP37⟩
  ·replace h37 := h37.1 rfl
   refine ⟨_,rfl,?_⟩
   refine AW.cutM (2) s37 [(12,vL 12 0 (0)),(13,vB false),(14,vL 14 0 (1)),(38,vB false)] [(12,0,[vI 0,vI 0,.slice none 0 0,.slice none 0 0,.slice none 0 0,vI 0,vI 0,vI 0,.slice none 0 0,.slice none 0 0,.slice none 0 0,.slice none 0 0,vI 0,vI 0,.slice none 0 0,vI 0,vI 0,vI 0,.slice none 0 0]),(14,1,[vI id,vI n,.slice none 0 0,.slice none 0 0,vS u22.p u22.l.length,vI u22.root,vI cap,vI 0,.slice none 0 0,vS q26 (zI n).length,vS q28 (zI n).length,vS p30 t30.length,vI 0,vI slots,.slice none 0 0,vI wait,vI limit,vI 0,vS q34 5])] ⟨rfl,rfl,rfl,rfl,trivial⟩ ⟨rfl,rfl,trivial⟩ rfl fun ρ0 ff => ?_
   refine cxs ?_
   refine ⟨_,op_ldo (v := .agg #[vI id,vI n,.slice none 0 0,.slice none 0 0,vS u22.p u22.l.length,vI u22.root,vI cap,vI 0,.slice none 0 0,vS q26 (zI n).length,vS q28 (zI n).length,vS p30 t30.length,vI 0,vI slots,.slice none 0 0,vI wait,vI limit,vI 0,vS q34 5]) rfl rfl rfl rfl,?_⟩
   refine ⟨_,op_stw (vs := [vI id,vI n,.slice none 0 0,.slice none 0 0,vS u22.p u22.l.length,vI u22.root,vI cap,vI 0,.slice none 0 0,vS q26 (zI n).length,vS q28 (zI n).length,vS p30 t30.length,vI 0,vI slots,.slice none 0 0,vI wait,vI limit,vI 0,vS q34 5]) rfl rfl rfl rfl rfl rfl rfl rfl,?_⟩
   refine cxs ?_
   exact ⟨.inl rfl,_,rfl,newW id n cap slots wait limit u22 q26 q28 ⟨p30,t30⟩ q34,true,rfl,newF_yes ⟨h16,hx ▸ (show nodeOk (newW id n cap slots wait limit u22 q26 q28 ⟨p30,t30⟩ q34).x from h37)⟩ hx,hF.1.pres hP37,hF.2.1,hF.2.2.trans hP37⟩
abbrev pcTV (u : TV) : List Pc := pcIs u.toRV
theorem OwnP.rdTV {st : St} {u : TV} (h : OwnP st (pcTV u)) : Rows st 1 fI u.p u.l := OwnP.rdIs h
def mkTV (u : TV) (k : Int) : TV := ⟨mkIs u.toRV k,u.root⟩
theorem mkp_TV (u : TV) (k : Int) : (pcTV (mkTV u k)).map (·.p) = (pcTV u).map (·.p) := rfl
def RdTr (st : St) (t : TV) : Prop := Rows st 1 fI t.p t.l
theorem RdTr.pres {st st' : St} {t : TV} (h : RdTr st t) (k : Pres st st') : RdTr st' t := k.rows h
abbrev cntTV (t : Tr) : Nat := t.leaves.length
def bigTr (t : Tr) : Prop := t.leaves.length ≤ 1048576
theorem uc_markTree (u : TV) (k : Int) (st : St) (hO : OwnP st (pcTV u)) (hb : bigTr u.x) (h0 : 0 ≤ k) (hk : k ≤ 137438953472) : C 71 [.agg #[vS u.p u.l.length,vI u.root],vI k] st (fun v s => v = vI (k + (cntTV u.x : Int)) ∧ OwnP s (pcTV (mkTV u k)) ∧ PrL ((pcTV u).map (·.p)) st s) := by
 refine AC.enterX (i := ⟨[2],[2,5],[0,1,2,4],[]⟩) [] Try.func71 rfl rfl (by kernel_rfl) (by kernel_rfl) Try.ntmps71 (Nat.le_of_ble_eq_true rfl) rfl ?_
 refine ⟨_,rfl,?_⟩
 refine AW.cutM (1) st [(1,vI k),(2,vL 2 0 (0)),(4,vI (0))] [(2,0,[vS u.p u.l.length,vI u.root])] ⟨rfl,rfl,rfl,trivial⟩ ⟨rfl,trivial⟩ rfl fun ρ0 ff => ?_
 refine ⟨_,rfl,?_⟩
 refine ⟨_,op_ldo rfl rfl rfl rfl,?_⟩
 refine ⟨_,rfl,(uc_markIntS u.toRV k st hO hb h0 hk).mono ?_⟩
 rintro _ s8 ⟨rfl,hO8,hP8⟩
 refine cxs ?_
 refine cxs ?_
 exact ⟨.inl rfl,_,rfl,rfl,hO8,hP8⟩
theorem uc_heldTree (u : TV) (k : Int) (st : St) (hR : Rows st 1 fI (mkTV u k).p (mkTV u k).l) (hb : bigTr u.x) (h0 : 0 ≤ k) (hk : k ≤ 137438953472) : C 75 [.agg #[vS u.p u.l.length,vI u.root],vI k] st (fun v s => v = vI (k + (cntTV u.x : Int)) ∧ Pres st s) := by
 refine AC.enterX (i := ⟨[2],[2,5],[0,1,2,4,10],[]⟩) [] Try.func75 rfl rfl (by kernel_rfl) (by kernel_rfl) Try.ntmps75 (Nat.le_of_ble_eq_true rfl) rfl ?_
 refine ⟨_,rfl,?_⟩
 refine AW.cutM (1) st [(1,vI k),(2,vL 2 0 (0)),(4,vI (0))] [(2,0,[vS u.p u.l.length,vI u.root])] ⟨rfl,rfl,rfl,trivial⟩ ⟨rfl,trivial⟩ rfl fun ρ0 ff => ?_
 refine ⟨_,rfl,?_⟩
 refine ⟨_,op_ldo rfl rfl rfl rfl,?_⟩
 refine ⟨_,rfl,(uc_heldIntS u.toRV k st hR hb h0 hk).mono ?_⟩
 rintro _ s8 ⟨rfl,hP8⟩
 refine AW.cutM (1) s8 [(1,vI (k + (cntIs u.l : Int))),(4,vI (0))] [] ⟨rfl,rfl,trivial⟩ trivial rfl fun ρ0 ff => ?_
 refine ⟨_,rfl,?_⟩
 rintro (_|_) h10
 rotate_left
 ·exact absurd (of_decide_eq_true h10) ((by unfold cntIs; omega))
 refine AW.cutM (1) s8 [(1,vI (k + (cntIs u.l : Int))),(4,vI (0)),(10,vB false)] [] ⟨rfl,rfl,rfl,trivial⟩ trivial rfl fun ρ0 ff => ?_
 refine cxs ?_
 refine cxs ?_
 exact ⟨.inl rfl,_,rfl,rfl,hP8⟩
end Go.Proofs.Ytbogbnjnjjhnbaa.AM
