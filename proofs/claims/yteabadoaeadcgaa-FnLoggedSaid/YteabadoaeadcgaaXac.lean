/- Part 3 of the texts on which the law's proof rests. -/
import Derived.Test.YteabadoaeadcgaaXab
namespace Go.Proofs.Yteabadoaeadcgaa.AM
open Go Go.Proofs
set_option linter.unusedVariables false
set_option linter.unusedSimpArgs false
set_option maxRecDepth 100000
set_option maxHeartbeats 4000000
theorem len_cSV (s : SV) : (cSV s).length = 2 := rfl
def RdL (st : St) (p : Option Addr) (l : List SV) : Prop := Rows st 2 cSV p l ∧ ∀ s ∈ l,RdS st s
abbrev pcL (p : Option Addr) (l : List SV) : List Pc := pcR 2 cSV p l :: l.flatMap pcS
theorem RdL.pres {st st' : St} {p : Option Addr} {l : List SV} (h : RdL st p l) (k : Pres st st') : RdL st' p l := ⟨k.rows h.1,fun s hs => (h.2 s hs).pres k⟩
theorem OwnP.louter {st : St} {p : Option Addr} {l : List SV} {m : List Pc} (h : OwnP st (pcR 2 cSV p l :: m)) : OwnR st 2 cSV p l := pc_own (by decide) len_cSV (h.1 _ (List.mem_cons_self ..))
theorem OwnP.sub {st : St} {l m : List Pc} (h : OwnP st l) (hs : m.Sublist l) : OwnP st m := ⟨fun c hc => h.1 c (hs.subset hc),h.2.sublist hs⟩
theorem OwnP.state {st : St} {l : List SV} {s : SV} (h : OwnP st (l.flatMap pcS)) (hs : s ∈ l) : OwnP st (pcS s) := by
 obtain ⟨i,hi⟩ := List.getElem?_of_mem hs
 rw [(split_at' hi).1,List.flatMap_append,List.flatMap_cons] at h
 exact OwnP.left (OwnP.right h)
theorem OwnP.rdL {st : St} {p : Option Addr} {l : List SV} (h : OwnP st (pcL p l)) : RdL st p l := ⟨h.louter.rows len_cSV,fun s hs => (h.tail.state hs).rdS⟩
def bigL (l : List SV) : Prop := szOk l.length ∧ ∀ s ∈ l,bigS s.x
structure Lg where
 cap : Int
 frm : Int
 list : List Sta
structure LV where
 cap : Int
 frm : Int
 p : Option Addr
 l : List SV
abbrev LV.x (g : LV) : Lg := ⟨g.cap,g.frm,g.l.map (·.x)⟩
def logOk (g : Lg) : Prop := (1 ≤ g.cap ∧ g.cap ≤ 8) ∧ (g.list.length : Int) ≤ g.cap ∧ (0 ≤ g.frm ∧ g.frm ≤ 100000) ∧ g.frm + (g.list.length : Int) ≤ 100000 ∧ ∀ s ∈ g.list,stateOk s
theorem states_of {l : List SV} {P : Sta → Prop} (h : ∀ s ∈ l.map (·.x),P s) {i : Nat} {s : SV} (hs : l[i]? = some s) : P s.x := h _ (List.mem_map_of_mem (List.mem_of_getElem? hs))
theorem states_to {l : List SV} {P : Sta → Prop} (h : ∀ (j : Nat) s,l[j]? = some s → P s.x) : ∀ s ∈ l.map (·.x),P s := fun s hs => by
 obtain ⟨r,hr,rfl⟩ := List.mem_map.1 hs
 obtain ⟨i,hi⟩ := List.getElem?_of_mem hr
 exact h i r hi
theorem ac_spec_LogOk (g : LV) (st : St) (hR : RdL st g.p g.l) (hb : bigL g.l) : C 89 [.agg #[vI g.cap,vI g.frm,vS g.p g.l.length]] st (fun v s => ∃ x,v = .bool x ∧ (x = true ↔ logOk g.x) ∧ s = st) := by
 have hs : g.l.length ≤ 1048576 := hb.1
 have hgl : g.x.list.length = g.l.length := List.length_map _
 refine AC.enterX (i := ⟨[1],[1,4,9,12,17,23,25,32,38],[0,1,2,3,30,35,44],[]⟩) [] Try.func89 rfl rfl (by kernel_rfl) (by kernel_rfl) Try.ntmps89 (Nat.le_of_ble_eq_true rfl) rfl ?_
 refine ⟨_,rfl,?_⟩
 refine AW.cutM (1) st [(1,vL 1 0 (0)),(2,vB false)] [(1,0,[vI g.cap,vI g.frm,vS g.p g.l.length])] ⟨rfl,rfl,trivial⟩ ⟨rfl,trivial⟩ rfl fun ρ0 ff => ?_
 iterate 2 refine ⟨_,rfl,?_⟩
 refine ⟨_,rfl,(ac_spec_l1In g.cap 1 8 st).mono ?_⟩
 rintro _ st ⟨a,rfl,h1,rfl⟩
 rcases a with _|_
 ·replace h1 := of_decide_eq_false h1.symm
  iterate 4 refine ⟨_,rfl,?_⟩
  refine AW.cutM (1) st [(1,vL 1 0 (0)),(2,vB false),(30,vB true)] [(1,0,[vI g.cap,vI g.frm,vS g.p g.l.length])] ⟨rfl,rfl,rfl,trivial⟩ ⟨rfl,trivial⟩ rfl fun ρ0 ff => ?_
  refine cxs ?_
  exact ⟨.inl rfl,_,rfl,false,rfl,⟨fun h => absurd h Bool.false_ne_true,fun h => absurd h.1 h1⟩,rfl⟩
 ·replace h1 := of_decide_eq_true h1.symm
  iterate 7 refine ⟨_,rfl,?_⟩
  rintro (_|_) h2
  ·replace h2 : ¬ ((g.l.length : Int) > g.cap) := of_decide_eq_false h2
   iterate 3 refine ⟨_,rfl,?_⟩
   refine ⟨_,rfl,(ac_spec_l1In g.frm 0 100000 st).mono ?_⟩
   rintro _ st ⟨b,rfl,h3,rfl⟩
   rcases b with _|_
   ·replace h3 := of_decide_eq_false h3.symm
    iterate 3 refine ⟨_,rfl,?_⟩
    refine AW.cutM (1) st [(1,vL 1 0 (0)),(2,vB false),(30,vB true)] [(1,0,[vI g.cap,vI g.frm,vS g.p g.l.length])] ⟨rfl,rfl,rfl,trivial⟩ ⟨rfl,trivial⟩ rfl fun ρ0 ff => ?_
    refine cxs ?_
    exact ⟨.inl rfl,_,rfl,false,rfl,⟨fun h => absurd h Bool.false_ne_true,fun h => absurd h.2.2.1 h3⟩,rfl⟩
   ·replace h3 := of_decide_eq_true h3.symm
    iterate 9 refine ⟨_,rfl,?_⟩
    rintro (_|_) h4
    ·replace h4 : ¬ (IntKind.wrap .i64 (g.frm + (g.l.length : Int)) > 100000) := of_decide_eq_false h4
     refine ⟨_,rfl,?_⟩
     refine AW.cutM (1) st [(1,vL 1 0 (0)),(2,vB false),(30,vB false)] [(1,0,[vI g.cap,vI g.frm,vS g.p g.l.length])] ⟨rfl,rfl,rfl,trivial⟩ ⟨rfl,trivial⟩ rfl fun ρ0 ff => ?_
     have e28 : IntKind.wrap .i64 (g.frm + (g.l.length : Int)) = g.frm + (g.l.length : Int) := wrap_i64 (by omega) (by omega)
     rw [e28] at h4
     refine cxs ?_
     refine AW.cutM (1) st [(1,vL 1 0 (0)),(2,vB false),(3,vI (0))] [(1,0,[vI g.cap,vI g.frm,vS g.p g.l.length])] ⟨rfl,rfl,rfl,trivial⟩ ⟨rfl,trivial⟩ rfl fun ρ0 ff => ?_
     refine AW.loopM (fun i : Nat => [(1,vL 1 0 (0)),(3,vI (i : Int))]) (fun i : Nat => [(1,0,[vI g.cap,vI g.frm,vS g.p g.l.length])]) (fun m (i : Nat) st' => m = g.l.length - i ∧ i ≤ g.l.length ∧ (∀ (j : Nat) s,j < i → g.l[j]? = some s → stateOk s.x) ∧ st = st') 0 _ ⟨rfl,rfl,trivial⟩ ⟨rfl,trivial⟩ ⟨rfl,Nat.zero_le _,fun j s h => absurd h (Nat.not_lt_zero _),rfl⟩ ?_
     rintro m i ρ0 ff gg st' ⟨rfl,hi,hok,rfl⟩
     refine ⟨_,rfl,?_⟩
     refine ⟨_,op_ldo rfl rfl rfl rfl,?_⟩
     iterate 2 refine ⟨_,rfl,?_⟩
     rintro (_|_) h5
     ·replace h5 : ¬ ((i : Int) < (g.l.length : Int)) := of_decide_eq_false h5
      refine AW.cutM (gg) st [(1,vL 1 0 (0)),(3,vI (i : Int)),(35,vB false)] [(1,0,[vI g.cap,vI g.frm,vS g.p g.l.length])] ⟨rfl,rfl,rfl,trivial⟩ ⟨rfl,trivial⟩ rfl fun ρ0 ff => ?_
      refine cxs ?_
      refine cxs ?_
      refine ⟨.inl rfl,_,rfl,true,rfl,⟨fun _ => ⟨h1,by rw [hgl]; show (g.l.length : Int) ≤ g.cap; omega,h3,by rw [hgl]; show g.frm + (g.l.length : Int) ≤ 100000; omega,states_to fun j s hs => hok j s (by have := (List.getElem?_eq_some_iff.1 hs).1; omega) hs⟩,fun _ => rfl⟩,rfl⟩
     ·replace h5 : (i : Int) < (g.l.length : Int) := of_decide_eq_true h5
      refine AW.cutM (gg) st [(1,vL 1 0 (0)),(3,vI (i : Int)),(35,vB true)] [(1,0,[vI g.cap,vI g.frm,vS g.p g.l.length])] ⟨rfl,rfl,rfl,trivial⟩ ⟨rfl,trivial⟩ rfl fun ρ0 ff => ?_
      have h5' := Int.ofNat_lt.1 h5
      have ⟨b1,o1,k1,r,hpe,hr1,hm1,hc1⟩ := hR.1.at h5'
      have hmem := List.mem_of_getElem? hr1
      refine cxs ?_
      refine ⟨_,rfl,?_⟩
      refine ⟨_,op_ldo rfl rfl rfl rfl,?_⟩
      refine ⟨_,op_idx (j := (i : Int)) (n := g.l.length) (q := ⟨b1,o1,none⟩) rfl (congrArg (fun u => vS u g.l.length) hpe) rfl rfl rfl (Int.natCast_nonneg _) h5,?_⟩
      refine ⟨_,op_lda rfl rfl rfl rfl rfl hm1 hc1 rfl,?_⟩
      refine ⟨_,rfl,(ac_spec_StateOk r st (hR.2 r hmem) (hb.2 r hmem)).mono ?_⟩
      rintro _ st ⟨c,rfl,h6,rfl⟩
      rcases c with _|_
      ·replace h6 := fun k => Bool.false_ne_true (h6.2 k)
       refine ⟨_,rfl,?_⟩
       refine AW.cutM (gg) st [(1,vL 1 0 (0)),(3,vI (i : Int)),(35,vB true),(44,vB true)] [(1,0,[vI g.cap,vI g.frm,vS g.p g.l.length])] ⟨rfl,rfl,rfl,rfl,trivial⟩ ⟨rfl,trivial⟩ rfl fun ρ0 ff => ?_
       refine cxs ?_
       exact ⟨.inl rfl,_,rfl,false,rfl,⟨fun h => absurd h Bool.false_ne_true,fun h => absurd (states_of h.2.2.2.2 hr1) h6⟩,rfl⟩
      ·replace h6 := h6.1 rfl
       refine ⟨_,rfl,?_⟩
       refine AW.cutM (gg) st [(1,vL 1 0 (0)),(3,vI (i : Int)),(35,vB true),(44,vB false)] [(1,0,[vI g.cap,vI g.frm,vS g.p g.l.length])] ⟨rfl,rfl,rfl,rfl,trivial⟩ ⟨rfl,trivial⟩ rfl fun ρ0 ff => ?_
       refine cxs ?_
       have e37 : IntKind.wrap .i64 ((i : Int) + 1) = ((i + 1 : Nat) : Int) := (wrap_i64 (by omega) (by omega)).trans (by omega)
       refine ⟨_,rfl,?_⟩
       refine ⟨i + 1,g.l.length - (i + 1),by omega,⟨rfl,congrArg (Value.int .i64) e37,trivial⟩,⟨rfl,trivial⟩,rfl,h5',fun j s hj hs => ?_,rfl⟩
       rcases Nat.lt_or_ge j i with h | h
       ·exact hok j s h hs
       ·obtain rfl : j = i := by omega
        rw [hr1] at hs
        injection hs with hs
        rw [← hs]; exact h6
    ·replace h4 : IntKind.wrap .i64 (g.frm + (g.l.length : Int)) > 100000 := of_decide_eq_true h4
     refine ⟨_,rfl,?_⟩
     refine AW.cutM (1) st [(1,vL 1 0 (0)),(2,vB false),(30,vB true)] [(1,0,[vI g.cap,vI g.frm,vS g.p g.l.length])] ⟨rfl,rfl,rfl,trivial⟩ ⟨rfl,trivial⟩ rfl fun ρ0 ff => ?_
     have e28 : IntKind.wrap .i64 (g.frm + (g.l.length : Int)) = g.frm + (g.l.length : Int) := wrap_i64 (by omega) (by omega)
     rw [e28] at h4
     refine cxs ?_
     exact ⟨.inl rfl,_,rfl,false,rfl,⟨fun h => absurd h Bool.false_ne_true,fun h => absurd h.2.2.2.1 (by rw [hgl]; show ¬ g.frm + (g.l.length : Int) ≤ 100000; omega)⟩,rfl⟩
  ·replace h2 : (g.l.length : Int) > g.cap := of_decide_eq_true h2
   iterate 3 refine ⟨_,rfl,?_⟩
   refine AW.cutM (1) st [(1,vL 1 0 (0)),(2,vB false),(30,vB true)] [(1,0,[vI g.cap,vI g.frm,vS g.p g.l.length])] ⟨rfl,rfl,rfl,trivial⟩ ⟨rfl,trivial⟩ rfl fun ρ0 ff => ?_
   refine cxs ?_
   exact ⟨.inl rfl,_,rfl,false,rfl,⟨fun h => absurd h Bool.false_ne_true,fun h => absurd h.2.1 (by rw [hgl]; show ¬ (g.l.length : Int) ≤ g.cap; omega)⟩,rfl⟩
theorem ac_impl_LogOk (g : LV) (st : St) (hR : RdL st g.p g.l) (hb : bigL g.l) : C 34 [.agg #[vI g.cap,vI g.frm,vS g.p g.l.length]] st (fun v s => ∃ x,v = .bool x ∧ (x = true ↔ logOk g.x) ∧ s = st) := by
 have hs : g.l.length ≤ 1048576 := hb.1
 have hgl : g.x.list.length = g.l.length := List.length_map _
 refine AC.enterX (i := ⟨[1,4],[1,4,5,16,20,23,28,33,35],[0,1,2,4,6,7,8,9,14],[]⟩) [] Try.func34 rfl rfl (by kernel_rfl) (by kernel_rfl) Try.ntmps34 (Nat.le_of_ble_eq_true rfl) rfl ?_
 refine ⟨_,rfl,?_⟩
 refine AW.cutM (1) st [(1,vL 1 0 (0)),(2,vB false)] [(1,0,[vI g.cap,vI g.frm,vS g.p g.l.length])] ⟨rfl,rfl,trivial⟩ ⟨rfl,trivial⟩ rfl fun ρ0 ff => ?_
 iterate 3 refine ⟨_,rfl,?_⟩
 refine AW.cutM (1) st [(1,vL 1 0 (0)),(2,vB false),(6,vS g.p g.l.length),(7,vI (g.l.length)),(8,vI (0))] [(1,0,[vI g.cap,vI g.frm,vS g.p g.l.length])] ⟨rfl,rfl,rfl,rfl,rfl,trivial⟩ ⟨rfl,trivial⟩ rfl fun ρ0 ff => ?_
 refine AW.loopM (fun i : Nat => [(1,vL 1 0 (0)),(6,vS g.p g.l.length),(7,vI (g.l.length : Int)),(8,vI (i : Int))]) (fun i : Nat => [(1,0,[vI g.cap,vI g.frm,vS g.p g.l.length])]) (fun m (i : Nat) st' => m = g.l.length - i ∧ i ≤ g.l.length ∧ (∀ (j : Nat) s,j < i → g.l[j]? = some s → stateOk s.x) ∧ st = st') 0 _ ⟨rfl,rfl,rfl,rfl,trivial⟩ ⟨rfl,trivial⟩ ⟨rfl,Nat.zero_le _,fun j s h => absurd h (Nat.not_lt_zero _),rfl⟩ ?_
 rintro m i ρ0 ff gg st' ⟨rfl,hi,hok,rfl⟩
 refine ⟨_,rfl,?_⟩
 rintro (_|_) h5
 ·replace h5 : ¬ ((i : Int) < (g.l.length : Int)) := of_decide_eq_false h5
  refine AW.cutM (gg) st [(1,vL 1 0 (0)),(6,vS g.p g.l.length),(7,vI (g.l.length : Int)),(8,vI (i : Int)),(9,vB false)] [(1,0,[vI g.cap,vI g.frm,vS g.p g.l.length])] ⟨rfl,rfl,rfl,rfl,rfl,trivial⟩ ⟨rfl,trivial⟩ rfl fun ρ0 ff => ?_
  refine cxs ?_
  refine ⟨_,rfl,?_⟩
  refine ⟨_,op_ldo rfl rfl rfl rfl,?_⟩
  refine ⟨_,rfl,(ac_impl_within g.cap 1 8 st).mono ?_⟩
  rintro _ st ⟨a,rfl,h1,rfl⟩
  rcases a with _|_
  ·replace h1 := of_decide_eq_false h1.symm
   iterate 3 refine ⟨_,rfl,?_⟩
   refine cxs ?_
   exact ⟨.inl rfl,_,rfl,false,rfl,⟨fun h => absurd h Bool.false_ne_true,fun h => absurd h.1 h1⟩,rfl⟩
  ·replace h1 := of_decide_eq_true h1.symm
   refine ⟨_,rfl,?_⟩
   refine ⟨_,op_ldo rfl rfl rfl rfl,?_⟩
   iterate 2 refine ⟨_,rfl,?_⟩
   refine ⟨_,op_ldo rfl rfl rfl rfl,?_⟩
   refine ⟨_,rfl,?_⟩
   rintro (_|_) h2
   ·replace h2 : ¬ ((g.l.length : Int) ≤ g.cap) := of_decide_eq_false h2
    iterate 3 refine ⟨_,rfl,?_⟩
    refine cxs ?_
    exact ⟨.inl rfl,_,rfl,false,rfl,⟨fun h => absurd h Bool.false_ne_true,fun h => absurd h.2.1 (by rw [hgl]; exact h2)⟩,rfl⟩
   ·replace h2 : (g.l.length : Int) ≤ g.cap := of_decide_eq_true h2
    iterate 2 refine ⟨_,rfl,?_⟩
    refine ⟨_,op_ldo rfl rfl rfl rfl,?_⟩
    refine ⟨_,rfl,(ac_impl_within g.frm 0 100000 st).mono ?_⟩
    rintro _ st ⟨b,rfl,h3,rfl⟩
    rcases b with _|_
    ·replace h3 := of_decide_eq_false h3.symm
     iterate 2 refine ⟨_,rfl,?_⟩
     refine cxs ?_
     exact ⟨.inl rfl,_,rfl,false,rfl,⟨fun h => absurd h Bool.false_ne_true,fun h => absurd h.2.2.1 h3⟩,rfl⟩
    ·replace h3 := of_decide_eq_true h3.symm
     iterate 2 refine ⟨_,rfl,?_⟩
     refine ⟨_,op_ldo rfl rfl rfl rfl,?_⟩
     refine ⟨_,rfl,?_⟩
     refine ⟨_,op_ldo rfl rfl rfl rfl,?_⟩
     refine ⟨_,rfl,?_⟩
     have e38 : IntKind.wrap .i64 (g.frm + (g.l.length : Int)) = g.frm + (g.l.length : Int) := wrap_i64 (by omega) (by omega)
     iterate 2 refine ⟨_,rfl,?_⟩
     rintro (_|_) h4
     ·replace h4 : ¬ (IntKind.wrap .i64 (g.frm + (g.l.length : Int)) ≤ 100000) := of_decide_eq_false h4
      refine ⟨_,rfl,?_⟩
      refine cxs ?_
      exact ⟨.inl rfl,_,rfl,false,rfl,⟨fun h => absurd h Bool.false_ne_true,fun h => absurd h.2.2.2.1 (by rw [hgl,← e38]; exact h4)⟩,rfl⟩
     ·replace h4 : IntKind.wrap .i64 (g.frm + (g.l.length : Int)) ≤ 100000 := of_decide_eq_true h4
      refine ⟨_,rfl,?_⟩
      refine cxs ?_
      exact ⟨.inl rfl,_,rfl,true,rfl,⟨fun _ => ⟨h1,by rw [hgl]; exact h2,h3,by rw [hgl,← e38]; exact h4,states_to fun j s hs => hok j s (by have := (List.getElem?_eq_some_iff.1 hs).1; omega) hs⟩,fun _ => rfl⟩,rfl⟩
 ·replace h5 : (i : Int) < (g.l.length : Int) := of_decide_eq_true h5
  refine AW.cutM (gg) st [(1,vL 1 0 (0)),(6,vS g.p g.l.length),(7,vI (g.l.length : Int)),(8,vI (i : Int)),(9,vB true)] [(1,0,[vI g.cap,vI g.frm,vS g.p g.l.length])] ⟨rfl,rfl,rfl,rfl,rfl,trivial⟩ ⟨rfl,trivial⟩ rfl fun ρ0 ff => ?_
  have h5' := Int.ofNat_lt.1 h5
  have ⟨b1,o1,k1,r,hpe,hr1,hm1,hc1⟩ := hR.1.at h5'
  have hmem := List.mem_of_getElem? hr1
  refine cxs ?_
  refine ⟨_,op_idx (j := (i : Int)) (n := g.l.length) (q := ⟨b1,o1,none⟩) rfl (congrArg (fun u => vS u g.l.length) hpe) rfl rfl rfl (Int.natCast_nonneg _) h5,?_⟩
  refine ⟨_,op_lda rfl rfl rfl rfl rfl hm1 hc1 rfl,?_⟩
  refine ⟨_,rfl,?_⟩
  refine ⟨_,op_sto rfl rfl rfl rfl rfl rfl rfl,?_⟩
  refine AW.cutM (gg + 1) st [(1,vL 1 0 (0)),(4,vL 4 0 (gg)),(6,vS g.p g.l.length),(7,vI (g.l.length : Int)),(8,vI (i : Int)),(9,vB true)] [(1,0,[vI g.cap,vI g.frm,vS g.p g.l.length]),(4,gg,[vS r.p r.x.items.length,vS r.q r.x.floors.length])] ⟨rfl,rfl,rfl,rfl,rfl,rfl,trivial⟩ ⟨rfl,rfl,trivial⟩ rfl fun ρ0 ff => ?_
  refine ⟨_,op_ldo rfl rfl rfl rfl,?_⟩
  refine ⟨_,rfl,(ac_impl_StateOk r st (hR.2 r hmem) (hb.2 r hmem)).mono ?_⟩
  rintro _ st ⟨c,rfl,h6,rfl⟩
  rcases c with _|_
  ·replace h6 := fun k => Bool.false_ne_true (h6.2 k)
   refine ⟨_,rfl,?_⟩
   refine AW.cutM (gg + 1) st [(1,vL 1 0 (0)),(4,vL 4 0 (gg)),(6,vS g.p g.l.length),(7,vI (g.l.length : Int)),(8,vI (i : Int)),(9,vB true),(14,vB true)] [(1,0,[vI g.cap,vI g.frm,vS g.p g.l.length]),(4,gg,[vS r.p r.x.items.length,vS r.q r.x.floors.length])] ⟨rfl,rfl,rfl,rfl,rfl,rfl,rfl,trivial⟩ ⟨rfl,rfl,trivial⟩ rfl fun ρ0 ff => ?_
   refine cxs ?_
   exact ⟨.inl rfl,_,rfl,false,rfl,⟨fun h => absurd h Bool.false_ne_true,fun h => absurd (states_of h.2.2.2.2 hr1) h6⟩,rfl⟩
  ·replace h6 := h6.1 rfl
   refine ⟨_,rfl,?_⟩
   refine AW.cutM (gg + 1) st [(1,vL 1 0 (0)),(4,vL 4 0 (gg)),(6,vS g.p g.l.length),(7,vI (g.l.length : Int)),(8,vI (i : Int)),(9,vB true),(14,vB false)] [(1,0,[vI g.cap,vI g.frm,vS g.p g.l.length]),(4,gg,[vS r.p r.x.items.length,vS r.q r.x.floors.length])] ⟨rfl,rfl,rfl,rfl,rfl,rfl,rfl,trivial⟩ ⟨rfl,rfl,trivial⟩ rfl fun ρ0 ff => ?_
   refine cxs ?_
   have e15 : IntKind.wrap .i64 ((i : Int) + 1) = ((i + 1 : Nat) : Int) := (wrap_i64 (by omega) (by omega)).trans (by omega)
   refine ⟨_,rfl,?_⟩
   refine ⟨i + 1,g.l.length - (i + 1),by omega,⟨rfl,rfl,rfl,congrArg (Value.int .i64) e15,trivial⟩,⟨rfl,trivial⟩,rfl,h5',fun j s hj hs => ?_,rfl⟩
   rcases Nat.lt_or_ge j i with h | h
   ·exact hok j s h hs
   ·obtain rfl : j = i := by omega
    rw [hr1] at hs
    injection hs with hs
    rw [← hs]; exact h6
theorem bigL_of {u l : List SV} (h : u.map (·.x) = l.map (·.x)) (hb : bigL l) : bigL u := by
 have hl := congrArg List.length h
 simp only [List.length_map] at hl
 refine ⟨by rw [hl]; exact hb.1,fun s hs => ?_⟩
 have : s.x ∈ l.map (·.x) := by rw [← h]; exact List.mem_map_of_mem hs
 obtain ⟨r,hr,he⟩ := List.mem_map.1 this
 rw [← he]; exact hb.2 r hr
theorem PrL.ownR {α : Type} {st st' : St} {ps : List (Option Addr)} {z : Nat} {f : α → List Value} {q : Option Addr} {l : List α} (h0 : 0 < z) (hz : ∀ x,(f x).length = z) (h : PrL ps st st') (hO : OwnR st z f q l) (hd : ∀ p ∈ ps,Dis p q) : OwnR st' z f q l :=
 pc_own h0 hz ((OwnP.prl (OwnP.one (own_pc hO)) h fun c hc p hp => by rw [List.mem_singleton.1 hc]; exact hd p hp).1 _ (List.mem_singleton_self _))
def shO (p : Option Addr) (z i : Nat) : Option Addr := p.map fun q => ⟨q.block,q.off + i * z,q.spot⟩
theorem Rows.sh {α : Type} {st : St} {z : Nat} {f : α → List Value} {p : Option Addr} {l : List α} (h : Rows st z f p l) (i : Nat) : Rows st z f (shO p z i) (l.drop i) := by
 rcases h with rfl | ⟨b,off,blk,rfl,hm,hb,hc⟩
 ·exact .inl List.drop_nil
 ·exact Rows.drop (.inr ⟨b,off,blk,rfl,hm,hb,hc⟩) i
theorem Dis.sh {p q : Option Addr} {z i : Nat} (h : Dis p q) : Dis (shO p z i) q := fun a b ha hb => by
 cases p with
 | none => cases ha
 | some c => injection ha with ha; rw [← ha]; exact h c b rfl hb
theorem New.sh {n : Nat} {p : Option Addr} {z i : Nat} (h : New n p) : New n (shO p z i) := fun a ha => by
 cases p with
 | none => cases ha
 | some c => injection ha with ha; rw [← ha]; exact h c rfl
section
variable {P : Program} {ls : List Tmp} {call : ACallT} {o : Oper} {e : Operand → Value} {lo : Lo} {st : St}
theorem op_slc {t el : TypeId} {x y : Operand} {p : Option Addr} {n j z : Nat} {k : IntKind} {i : Int} (ho : o.op = .slice t x (some y) none none) (hx : e x = .slice p n n) (hy : e y = .int k i) (he : telem P t = some el) (hz : tsize P el = some z) (hi : i = (j : Int)) (hj : j ≤ n) : aoper P ls call o e lo st = some (.slice (shO p z j) (n - j) (n - j),lo,st) := by
 obtain ⟨d,op,tt,pos,after,gd⟩ := o
 simp only at ho
 subst ho hi
 simp [aoper,rop,aslice,abound,hx,hy,he,hz,hj,shO]
end
theorem op_drop {α : Type} {P : Program} {ls : List Tmp} {call : ACallT} {o : Oper} {e : Operand → Value} {lo : Lo} {st : St} {t el : TypeId} {x y : Operand} {p : Option Addr} {n z : Nat} {k : IntKind} {i : Int} (l : List α) (j : Nat) (ho : o.op = .slice t x (some y) none none) (hx : e x = .slice p n n) (hn : n = l.length) (hy : e y = .int k i) (he : telem P t = some el) (hz : tsize P el = some z) (hi : i = (j : Int)) (hj : j ≤ l.length) : aoper P ls call o e lo st = some (.slice (shO p z j) (l.drop j).length (l.drop j).length,lo,st) := by
 subst hn
 rw [List.length_drop]
 exact op_slc ho hx hy he hz hi hj
theorem PrL.rows {α : Type} {st st' : St} {ps : List (Option Addr)} {z : Nat} {f : α → List Value} {p : Option Addr} {l : List α} (h : PrL ps st st') (hR : Rows st z f p l) (hd : ∀ q ∈ ps,Dis p q) : Rows st' z f p l := by
 rcases hR with rfl | ⟨b,off,blk,rfl,hm,hb,hc⟩
 ·exact .inl rfl
 ·refine .inr ⟨b,off,blk,rfl,?_,Nat.lt_of_lt_of_le hb h.1,hc⟩
  rw [h.2 b hb fun q hq r hr => hd q hq _ r rfl hr]
  exact hm
theorem OwnP.joinF {st st' : St} {l m : List Pc} (h : OwnP st l) (hp : Pres st st') (k : OwnP st' m) (hn : NewP st.next m) : OwnP st' (m ++ l) :=
 OwnP.app k (h.pres hp) fun a ha b hb => (Dis.of (h.1 b hb).old (hn a ha)).symm
structure LW where
 cap : Int
 frm : Int
 p : Option Addr
 l : List SV
 C : Pc
 ok : l = [] ∨ ∃ a o,C.p = some ⟨a,0,none⟩ ∧ p = some ⟨a,o,none⟩ ∧ ∀ (j : Nat) x,l[j]? = some x → (C.cs.drop (o + j * 2)).take 2 = cSV x
abbrev LW.v (g : LW) : LV := ⟨g.cap,g.frm,g.p,g.l⟩
abbrev LW.x (g : LW) : Lg := g.v.x
abbrev pcLog (g : LW) : List Pc := g.C :: g.l.flatMap pcS
theorem LW.rows {st : St} {g : LW} (h : g.C.own st) : Rows st 2 cSV g.p g.l := by
 rcases g.ok with h0 | ⟨a,o,h1,h2,h3⟩
 ·exact .inl h0
 ·rcases h with ⟨h4,_⟩ | ⟨b,h4,hb,hm⟩
  ·rw [h1] at h4; cases h4
  ·rw [h1] at h4
   injection h4 with h4
   injection h4 with h4
   subst h4
   exact .inr ⟨a,o,_,h2,hm,hb,h3⟩
theorem OwnP.lw {st : St} {u : LV} (h : OwnP st (pcL u.p u.l)) : ∃ g : LW,g.v = u ∧ OwnP st (pcLog g) ∧ g.C = pcR 2 cSV u.p u.l := by
 refine ⟨⟨u.cap,u.frm,u.p,u.l,pcR 2 cSV u.p u.l,?_⟩,rfl,h,rfl⟩
 rcases h.louter with ⟨_,h2⟩ | ⟨a,h1,_⟩
 ·exact .inl h2
 ·exact .inr ⟨a,0,h1,h1,fun j x hx => by rw [Nat.zero_add]; exact flat_at (l := u.l) len_cSV hx⟩
theorem own_one {α : Type} {st : St} {z : Nat} {f : α → List Value} {p : Option Addr} {l : List α} (h0 : 0 < z) (hz : ∀ x,(f x).length = z) (h : OwnP st [pcR z f p l]) : OwnR st z f p l := pc_own h0 hz (h.1 _ (List.mem_singleton_self _))
structure FV where
 p : Option Addr
 l : List Flr
structure TT where
 p : Option Addr
 t : List RV
abbrev TT.x (g : TT) : List (List Int) := rls g.t
end Go.Proofs.Yteabadoaeadcgaa.AM
namespace Go.Proofs.Yteabadoaeadcgaa.AM
open Go Go.Proofs
set_option linter.unusedVariables false
set_option linter.unusedSimpArgs false
def Frs (a b : St) (l : List Pc) : Prop := OwnP b l ∧ NewP a.next l ∧ Pres a b
theorem Frs.join {a b c : St} {l m : List Pc} (h : Frs a b l) (k : Frs b c m) : Frs a c (l ++ m) :=
 ⟨h.1.join k.2.2 k.1 k.2.1,h.2.1.app (k.2.1.le h.2.2.1),h.2.2.trans k.2.2⟩
theorem PrL.inl {a b : List Pc} {st st' : St} (h : PrL (a.map (·.p)) st st') : PrL ((a ++ b).map (·.p)) st st' := h.mono fun p hp => by rw [List.map_append]; exact List.mem_append_left _ hp
theorem PrL.inr {a b : List Pc} {st st' : St} (h : PrL (b.map (·.p)) st st') : PrL ((a ++ b).map (·.p)) st st' := h.mono fun p hp => by rw [List.map_append]; exact List.mem_append_right _ hp
structure Tr where
 leaves : List Int
 root : Int
structure TV extends RV where
 root : Int
abbrev TV.x (t : TV) : Tr := ⟨t.l,t.root⟩
structure Ses where
 peer : Int
 num : Int
 inn : Bool
 age : Int
structure Ris where
 inc : Int
 beat : Int
 tick : Int
abbrev cSess (x : Ses) : List Value := [vI x.peer,vI x.num,vB x.inn,vI x.age]
abbrev cRise (x : Ris) : List Value := [vI x.inc,vI x.beat,vI x.tick]
structure SesV where
 p : Option Addr
 l : List Ses
structure RisV where
 p : Option Addr
 l : List Ris
structure Mg where
 kind : Int
 frm : Int
 to : Int
 num : Int
 hi : Int
 tree : Tr
 vec : List Int
 leaves : List Int
 part : Sta
 marks : List Flr
structure MV where
 kind : Int
 frm : Int
 to : Int
 num : Int
 hi : Int
 tree : TV
 vec : RV
 leaves : RV
 part : SV
 marks : FV
abbrev MV.x (m : MV) : Mg := ⟨m.kind,m.frm,m.to,m.num,m.hi,m.tree.x,m.vec.l,m.leaves.l,m.part.x,m.marks.l⟩
structure RdM (st : St) (m : MV) : Prop where
 tree : Rows st 1 fI m.tree.p m.tree.l
 vec : Rows st 1 fI m.vec.p m.vec.l
 leaves : Rows st 1 fI m.leaves.p m.leaves.l
 part : RdS st m.part
 marks : Rows st 2 cFlr m.marks.p m.marks.l
theorem RdM.pres {st st' : St} {m : MV} (h : RdM st m) (k : Pres st st') : RdM st' m := ⟨k.rows h.tree,k.rows h.vec,k.rows h.leaves,h.part.pres k,k.rows h.marks⟩
structure Nd where
 id : Int
 n : Int
 s : Sta
 t : Tr
 g : Lg
 got : List Int
 acked : List Int
 seen : List (List Int)
 num : Int
 slots : Int
 sess : List Ses
 wait : Int
 limit : Int
 clock : Int
 rises : List Ris
structure NV where
 id : Int
 n : Int
 s : SV
 t : TV
 g : LV
 got : RV
 acked : RV
 seen : TT
 num : Int
 slots : Int
 sess : SesV
 wait : Int
 limit : Int
 clock : Int
 rises : RisV
abbrev NV.x (v : NV) : Nd := ⟨v.id,v.n,v.s.x,v.t.x,v.g.x,v.got.l,v.acked.l,v.seen.x,v.num,v.slots,v.sess.l,v.wait,v.limit,v.clock,v.rises.l⟩
structure NW where
 id : Int
 n : Int
 s : SV
 t : TV
 g : LW
 got : RV
 acked : RV
 seen : TT
 num : Int
 slots : Int
 sess : SesV
 wait : Int
 limit : Int
 clock : Int
 rises : RisV
abbrev NW.v (v : NW) : NV := ⟨v.id,v.n,v.s,v.t,v.g.v,v.got,v.acked,v.seen,v.num,v.slots,v.sess,v.wait,v.limit,v.clock,v.rises⟩
abbrev NW.x (v : NW) : Nd := v.v.x
structure RdN (st : St) (v : NV) : Prop where
 s : RdS st v.s
 t : Rows st 1 fI v.t.p v.t.l
 g : RdL st v.g.p v.g.l
 got : Rows st 1 fI v.got.p v.got.l
 acked : Rows st 1 fI v.acked.p v.acked.l
 seen : RdT st v.seen.p v.seen.t
 sess : Rows st 4 cSess v.sess.p v.sess.l
 rises : Rows st 3 cRise v.rises.p v.rises.l
theorem RdN.pres {st st' : St} {v : NV} (h : RdN st v) (k : Pres st st') : RdN st' v := ⟨h.s.pres k,k.rows h.t,h.g.pres k,k.rows h.got,k.rows h.acked,h.seen.pres k,k.rows h.sess,k.rows h.rises⟩
end Go.Proofs.Yteabadoaeadcgaa.AM
namespace Go.Proofs.Yteabadoaeadcgaa.AM
open Go Go.Proofs
set_option linter.unusedVariables false
set_option linter.unusedSimpArgs false
set_option maxRecDepth 100000
set_option maxHeartbeats 4000000
def NC (c : Nat) (q : Option Addr) : Prop := ∀ a,q = some a → a.block ≠ c
theorem NC.new {c n : Nat} {q : Option Addr} (hN : New n q) (h : c < n) : NC c q := fun a ha => Nat.ne_of_gt (Nat.lt_of_lt_of_le h (hN a ha))
theorem Cur.lt {st : St} {c : Nat} {p : Option Addr} {bs : List Int} (h : Cur st c p bs) : c < st.next := h.1
def FrC (c : Nat) (a b : St) (l : List Pc) : Prop := OwnP b l ∧ NewP a.next l ∧ PresC c a b ∧ c < a.next
theorem FrC.nil {c : Nat} {a : St} (h : c < a.next) : FrC c a a [] := ⟨OwnP.nil,NewP.nil,PresC.refl _ _,h⟩
theorem Frs.toC {c : Nat} {a b : St} {l : List Pc} (h : Frs a b l) (hc : c < a.next) : FrC c a b l := ⟨h.1,h.2.1,h.2.2.c,hc⟩
theorem OwnP.presC {c n : Nat} {st st' : St} {l : List Pc} (h : OwnP st l) (hP : PresC c st st') (hN : NewP n l) (hn : c < n) : OwnP st' l :=
 h.keep hP.1 fun x hx q hq => hP.2 _ ((h.1 x hx).old q hq) (Nat.ne_of_gt (Nat.lt_of_lt_of_le hn (hN x hx q hq)))
theorem FrC.later {c : Nat} {a b d : St} {l : List Pc} (h : FrC c a b l) (k : PresC c b d) : FrC c a d l := ⟨h.1.presC k h.2.1 h.2.2.2,h.2.1,h.2.2.1.trans k,h.2.2.2⟩
theorem FrC.step {c : Nat} {a b d : St} {l : List Pc} (h : FrC c a b l) (k : Pres b d) : FrC c a d l := h.later k.c
theorem FrC.sooner {c : Nat} {a b d : St} {l : List Pc} (h : FrC c b d l) (k : PresC c a b) (hc : c < a.next) : FrC c a d l := ⟨h.1,h.2.1.le k.1,k.trans h.2.2.1,hc⟩
theorem FrC.join {c : Nat} {a b d : St} {l m : List Pc} (h : FrC c a b l) (k : FrC c b d m) : FrC c a d (l ++ m) :=
 ⟨(h.later k.2.2.1).1.app k.1 fun x hx y hy => Dis.of (h.1.1 x hx).old (k.2.1 y hy),h.2.1.app (k.2.1.le h.2.2.1.1),h.2.2.1.trans k.2.2.1,h.2.2.2⟩
theorem FrC.lt {c : Nat} {a b : St} {l : List Pc} (h : FrC c a b l) : c < b.next := Nat.lt_of_lt_of_le h.2.2.2 h.2.2.1.1
theorem FrC.add {c : Nat} {a b d : St} {l m : List Pc} (h : FrC c a b l) (k : Frs b d m) : FrC c a d (l ++ m) := h.join (k.toC h.lt)
theorem FrC.left {c : Nat} {a b : St} {l m : List Pc} (h : FrC c a b (l ++ m)) : FrC c a b l := ⟨h.1.left,fun x hx => h.2.1 x (List.mem_append_left _ hx),h.2.2⟩
theorem FrC.right {c : Nat} {a b : St} {l m : List Pc} (h : FrC c a b (l ++ m)) : FrC c a b m := ⟨h.1.right,fun x hx => h.2.1 x (List.mem_append_right _ hx),h.2.2⟩
theorem FrC.out {st s1 s2 : St} {l : List Pc} (hF : FrC st.next s1 s2 l) (hP : Pres st s1) : Frs st s2 l := ⟨hF.1,hF.2.1.le hP.1,PresC.pres hP hF.2.2.1 (Nat.le_refl _)⟩
theorem PresC.thenNew {c : Nat} {q : Option Addr} {a b d : St} (h : PresC c a b) (k : Pr q b d) (hn : New a.next q) : PresC c a d :=
 ⟨Nat.le_trans h.1 k.1,fun x hx hc => (k.2 x (Nat.lt_of_lt_of_le hx h.1) fun r hr he => by have := hn r hr; omega).trans (h.2 x hx hc)⟩
theorem Cur.thenNew {c : Nat} {p q : Option Addr} {bs : List Int} {s0 s1 s2 : St} (h1 : Cur s1 c p bs) (h0 : Cur s0 c p bs) (h : PresC c s0 s1) (k : Pr q s1 s2) (hn : New s0.next q) : Cur s2 c p bs := Cur.grow h0 h h1 k.2 k.1 hn
theorem FrC.items {c : Nat} {a b d : St} {u : SV} {q : Option Addr} {l : List Itm} (h : FrC c a b (pcS u)) (hp : Pr u.p b d) (ho : OwnR d 6 cItm q l) (hn : New b.next q) : FrC c a d (pcS ⟨q,u.q,⟨l,u.x.floors⟩⟩) ∧ PresC c a d :=
 have hP := PresC.thenNew h.2.2.1 hp (h.2.1 _ (List.mem_cons_self ..))
 ⟨⟨pcS_items h.1 hp ho hn,NewP.cons (hn.le h.2.2.1.1) (NewP.cons (h.2.1 _ (List.mem_cons_of_mem _ (List.mem_cons_self ..))) NewP.nil),hP,h.2.2.2⟩,hP⟩
theorem FrC.floors {c : Nat} {a b d : St} {u : SV} {q : Option Addr} {l : List Flr} (h : FrC c a b (pcS u)) (hp : Pr u.q b d) (ho : OwnR d 2 cFlr q l) (hn : New b.next q) : FrC c a d (pcS ⟨u.p,q,⟨u.x.items,l⟩⟩) ∧ PresC c a d :=
 have hP := PresC.thenNew h.2.2.1 hp (h.2.1 _ (List.mem_cons_of_mem _ (List.mem_cons_self ..)))
 ⟨⟨pcS_floors h.1 hp ho hn,NewP.cons (h.2.1 _ (List.mem_cons_self ..)) (NewP.cons (hn.le h.2.2.1.1) NewP.nil),hP,h.2.2.2⟩,hP⟩
theorem FrC.setItems {c : Nat} {a b d : St} {u : SV} {l : List Itm} (h : FrC c a b (pcS u)) (hp : Pr u.p b d) (ho : OwnR d 6 cItm u.p l) : FrC c a d (pcS ⟨u.p,u.q,⟨l,u.x.floors⟩⟩) ∧ PresC c a d :=
 have hP := PresC.thenNew h.2.2.1 hp (h.2.1 _ (List.mem_cons_self ..))
 ⟨⟨OwnP.update (l := []) (m := [pcR 2 cFlr u.q u.x.floors]) (d := pcR 6 cItm u.p l) h.1 hp (own_pc ho) rfl,NewP.cons (h.2.1 (pcR 6 cItm u.p u.x.items) (List.mem_cons_self ..)) (NewP.cons (h.2.1 _ (List.mem_cons_of_mem _ (List.mem_cons_self ..))) NewP.nil),hP,h.2.2.2⟩,hP⟩
theorem Frs.nilS {a : St} : Frs a a (pcS ⟨none,none,nilS⟩) := ⟨pcS_nil,newS_nil,Pres.refl _⟩
structure smS (n : Nat) (x : Sta) : Prop where
 i : x.items.length ≤ n
 f : x.floors.length ≤ n
 d : ∀ y ∈ x.items,y.e.data.size ≤ 9
theorem smS.big {n : Nat} {x : Sta} (h : smS n x) (hn : n ≤ 1048576) : bigS x := ⟨Nat.le_trans h.i hn,Nat.le_trans h.f hn,fun y hy => Nat.le_trans (h.d y hy) (by decide)⟩
theorem smS.le {n m : Nat} {x : Sta} (h : smS n x) (k : n ≤ m) : smS m x := ⟨Nat.le_trans h.i k,Nat.le_trans h.f k,h.d⟩
theorem ids_len {α : Type} {id : α → Int} {l : List α} (h : ∀ (j : Nat) x,l[j]? = some x → (0 ≤ id x ∧ id x ≤ 4) ∧ ∀ y,0 < j → l[j - 1]? = some y → id y < id x) : l.length ≤ 5 := by
 have key : ∀ (j : Nat) x,l[j]? = some x → (j : Int) ≤ id x := by
  intro j
  induction j with
  | zero => intro x hx; exact (h 0 x hx).1.1
  | succ j ih =>
   intro x hx
   obtain ⟨hj,_⟩ := List.getElem?_eq_some_iff.1 hx
   have hy : l[j]? = some l[j] := List.getElem?_eq_getElem (by omega)
   have := ih _ hy
   have := (h _ _ hx).2 l[j] (Nat.succ_pos j) hy
   omega
 rcases Nat.lt_or_ge 5 l.length with h5 | h5
 ·have hx : l[5]? = some l[5] := List.getElem?_eq_getElem h5
  have := key 5 _ hx
  have := (h 5 _ hx).1.2
  omega
 ·exact h5
theorem marks_len {l : List Flr} (h : marksOk l) : l.length ≤ 5 := ids_len (id := fun x => x.id) fun j x hx => ⟨(h j x hx).1,(h j x hx).2.2⟩
theorem items_len {s : Sta} (h : stateOk s) : s.items.length ≤ 5 := ids_len (id := fun x => x.id) fun j x hx => ⟨(h.1 j x hx).1,(h.1 j x hx).2.2.2⟩
theorem sm_ok {s : Sta} (h : stateOk s) : smS 5 s := ⟨items_len h,marks_len h.2,fun y hy => by
 obtain ⟨j,hj⟩ := List.getElem?_of_mem hy
 have := (h.1 j y hj).2.1.2.2.2.2
 omega⟩
theorem big_ok {s : Sta} (h : stateOk s) : bigS s := (sm_ok h).big (by decide)
theorem szm (g : Int → Int) : szOk (marksF g 5).length := Nat.le_trans (marksF_len g 5) (by decide)
abbrev cStr : ByteArray → List Value := fun s => [.string s]
theorem cStr_len (x : ByteArray) : (cStr x).length = 1 := rfl
theorem ent_mk {i r b v : Int} {d : ByteArray} (h1 : 1 ≤ i ∧ i ≤ 1000) (h2 : 0 ≤ r ∧ r ≤ 1) (h3 : 0 ≤ b ∧ b ≤ 100000) (h4 : 0 ≤ v ∧ v ≤ 1000) (h5 : d.size ≤ 8) : entOk ⟨i,r,b,v,d⟩ := ⟨h1,h2,h3,h4,h5⟩
section
variable {P : Program} {ls : List Tmp} {call : ACallT} {o : Oper} {e : Operand → Value} {lo : Lo} {st : St} {K : Value × Lo × St → Prop}
theorem op_litS {t el : TypeId} {n : Nat} {ps : Array (Nat × Operand)} {u : Value} {l : List ByteArray} (ho : o.op = .buildSlice t n ps) (hp : parts e ps = mkp 0 (l.map Value.string)) (hn : n = l.length) (h0 : 0 < n) (he : telem P t = some el) (hz : tsize P el = some 1) (hz0 : tzero P el = some [u]) (hsz : n ≤ 16777216)
  (hK : ∀ q st',OwnR st' 1 cStr q l → Pres st st' → New st.next q → K (.slice q n n,lo,st')) : ∃ r,aoper P ls call o e lo st = some r ∧ K r := by
 refine op_lit ho hp (by rw [hn,List.length_map]) h0 he hz hz0 Nat.one_pos rfl (by omega) (fun v hv => ?_) ?_
 ·obtain ⟨r,_,rfl⟩ := List.mem_map.1 hv
  exact ⟨rfl,rfl⟩
 ·rw [show (l.map Value.string).flatMap (fun v => v.cells.toList) = l.flatMap cStr by rw [List.flatMap_map]; rfl]
  exact hK _ _ OwnR.push Pres.push New.self
theorem op_putw {α : Type} {f : α → List Value} {z : Nat} {t : TypeId} {x u : Operand} {p : Option Addr} {a d i : Nat} {l : List α} {j : Nat} {w y : α} {ws : List Value} {v : Value} (ho : o.op = .store t x u) (hx : e x = .pointer (some ⟨a,d,none⟩)) (hd : d = j * z + i) (hu : e u = v) (ht : tsize P t = some ws.length) (hz : ∀ x,(f x).length = z) (hv : v.cells.toList = ws) (hi : ws.all isCell = true) (hw : l[j]? = some w) (hf : ∃ A M B,f w = A ++ (M ++ B) ∧ f y = A ++ (ws ++ B) ∧ A.length = i ∧ M.length = ws.length)
  (hown : OwnR st z f p l) (hp : p = some ⟨a,0,none⟩)
  (hK : ∀ st',OwnR st' z f p (l.set j y) → Pr p st st' → st'.next = st.next → K (undef,lo,st')) : ∃ r,aoper P ls call o e lo st = some r ∧ K r := by
 subst hp hd
 rcases hown with ⟨h,_⟩ | ⟨a',h,ha,hm⟩
 ·cases h
 injection h with h
 injection h with h _ _
 subst h
 obtain ⟨hj,_⟩ := List.getElem?_eq_some_iff.1 hw
 obtain ⟨pre,cs,suf,h1,h2,h3,h4⟩ := flat_set hz (l := l) (j := j) (x := y) hj
 rw [hw] at h3
 injection h3 with h3
 obtain ⟨A,M,B,e1,e2,e3,e4⟩ := hf
 have hlen : j * z + i + ws.length ≤ (l.flatMap f).length := by
  rw [h1,← h3,e1]
  simp only [List.length_append]
  omega
 refine op_sta (z := ws.length) ho hx hu rfl ht (by rw [hv]) (by rw [hv]; exact hi) hm rfl hlen fun st' k1 k2 k3 => hK st' (.inr ⟨a,rfl,by omega,?_⟩) ⟨Nat.le_of_eq k2.symm,fun b _ hne => k3 b (fun hb => hne _ rfl hb)⟩ k2
 rw [k1]
 show some (Blk.mk true z (splice (l.flatMap f) (j * z + i) v.cells.toList)) = _
 rw [hv,h4,h1,← h3,e1,e2,← h2,← e3]
 have := splice_mid ws (pre ++ A) M (B ++ suf) e4
 simp only [List.append_assoc,List.length_append] at this ⊢
 rw [this]
end
theorem ac_d_l1Below {p : Option Addr} {bs : List Int} (c : Nat) (n : Int) (st : St) (hc : Cur st c p bs) (hs : bs.length < 1099511627776) : C 70 [vP c 0,vI n] st (fun v s => ∃ r,v = vI r ∧ 0 ≤ r ∧ (0 < n → r < n) ∧ (n ≤ 0 → r = 0) ∧ Cur s c p bs ∧ PresC c st s) := ac_l1Below c p bs n st hc hs
theorem ac_d_l1Once {p : Option Addr} {bs : List Int} (c : Nat) (n : Int) (st : St) (hc : Cur st c p bs) (hs : bs.length < 1099511627776) : C 145 [vP c 0,vI n] st (fun v s => ∃ b,v = .bool b ∧ Cur s c p bs ∧ PresC c st s) := ac_l1Once c p bs n st hc hs
theorem ac_d_l1PickInt {p : Option Addr} {bs : List Int} (c : Nat) (q : Option Addr) (l : List Int) (st : St) (hc : Cur st c p bs) (hs : bs.length < 1099511627776) (hl : 0 < l.length) (hO : OwnR st 1 fI q l) (hp : NC c q) : C 149 [vP c 0,vS q l.length] st (fun v s => ∃ r,v = vI r ∧ r ∈ l ∧ Cur s c p bs ∧ PresC c st s) := by
 refine AC.enter' (i := ⟨[],[],[0,1,4],[]⟩) Try.func149 rfl rfl (by kernel_rfl) Try.ntmps149 (Nat.le_of_ble_eq_true rfl) rfl (cw_sound _ _ _ _ _ ?_)
 refine ⟨_,rfl,?_⟩
 refine ⟨_,rfl,(ac_l1Below c p bs l.length st hc hs).mono ?_⟩
 rintro _ s1 ⟨r1,rfl,h0,h1,_,hc1,hp1⟩
 have h1 := h1 (by omega)
 obtain ⟨j,rfl⟩ : ∃ j : Nat,r1 = j := ⟨r1.toNat,by omega⟩
 have hO1 : OwnR s1 1 fI q l := by
  rcases hO with h | ⟨a,rfl,ha,hm⟩
  ·exact .inl h
  ·exact .inr ⟨a,rfl,Nat.lt_of_lt_of_le ha hp1.1,(hp1.2 a ha (hp _ rfl)).trans hm⟩
 obtain ⟨b1,o1,k1,x,rfl,hx,hb1,hcc,_⟩ := (hO1.rows fI_len).atB (j := j) (by omega)
 refine ⟨_,op_idx rfl rfl rfl rfl rfl (by omega) (by omega),?_⟩
 refine ⟨_,op_ldc (i := 0) rfl rfl rfl rfl hb1 hcc rfl rfl,?_⟩
 exact ⟨.inl rfl,_,rfl,x,rfl,List.mem_of_getElem? hx,hc1,hp1⟩
theorem ac_d_l1Pick {p : Option Addr} {bs : List Int} (c : Nat) (q : Option Addr) (l : List ByteArray) (st : St) (hc : Cur st c p bs) (hs : bs.length < 1099511627776) (hl : 0 < l.length) (hO : OwnR st 1 cStr q l) (hp : NC c q) : C 191 [vP c 0,vS q l.length] st (fun v s => ∃ r : ByteArray,v = .string r ∧ r ∈ l ∧ Cur s c p bs ∧ PresC c st s) := by
 refine AC.enter' (i := ⟨[],[],[0,1,4],[]⟩) Try.func191 rfl rfl (by kernel_rfl) Try.ntmps191 (Nat.le_of_ble_eq_true rfl) rfl (cw_sound _ _ _ _ _ ?_)
 refine ⟨_,rfl,?_⟩
 refine ⟨_,rfl,(ac_l1Below c p bs l.length st hc hs).mono ?_⟩
 rintro _ s1 ⟨r1,rfl,h0,h1,_,hc1,hp1⟩
 have h1 := h1 (by omega)
 obtain ⟨j,rfl⟩ : ∃ j : Nat,r1 = j := ⟨r1.toNat,by omega⟩
 have hO1 : OwnR s1 1 cStr q l := by
  rcases hO with h | ⟨a,rfl,ha,hm⟩
  ·exact .inl h
  ·exact .inr ⟨a,rfl,Nat.lt_of_lt_of_le ha hp1.1,(hp1.2 a ha (hp _ rfl)).trans hm⟩
 obtain ⟨b1,o1,k1,x,rfl,hx,hb1,hcc,_⟩ := (hO1.rows cStr_len).atB (j := j) (by omega)
 refine ⟨_,op_idx rfl rfl rfl rfl rfl (by omega) (by omega),?_⟩
 refine ⟨_,op_ldc (i := 0) rfl rfl rfl rfl hb1 hcc rfl rfl,?_⟩
 exact ⟨.inl rfl,_,rfl,x,rfl,List.mem_of_getElem? hx,hc1,hp1⟩
theorem texts_8 {x : ByteArray} (h : x ∈ [⟨#[]⟩,⟨#[97]⟩,⟨#[98]⟩,⟨#[97,98]⟩,⟨#[49,50,51,52,53,54,55,56]⟩]) : x.size ≤ 8 := by
 simp only [List.mem_cons,List.not_mem_nil,or_false] at h
 rcases h with rfl | rfl | rfl | rfl | rfl <;> decide
theorem ac_d_l2Right {p : Option Addr} {bs : List Int} (c : Nat) (st : St) (hc : Cur st c p bs) (hs : bs.length < 1099511627776) : C 180 [vP c 0] st (fun v s => ∃ e : Ent,v = .agg #[vI e.inc,vI e.rank,vI e.beat,vI e.ver,.string e.data] ∧ entOk e ∧ Cur s c p bs ∧ PresC c st s) := by
 refine AC.enterX (i := ⟨[2],[2],[0,2],[]⟩) [] Try.func180 rfl rfl (by kernel_rfl) (by kernel_rfl) Try.ntmps180 (Nat.le_of_ble_eq_true rfl) rfl ?_
 refine ⟨_,rfl,?_⟩
 refine AW.cutM (1) st [(0,vP c 0),(2,vL 2 0 (0))] [(2,0,[vI 0,vI 0,vI 0,vI 0,.string ⟨#[]⟩])] ⟨rfl,rfl,trivial⟩ ⟨rfl,trivial⟩ rfl fun ρ0 ff => ?_
 refine ⟨_,rfl,(ac_d_l1Below c 3 st hc (by first | assumption | omega)).mono ?_⟩
 rintro _ s4 ⟨r4,rfl,h4,h4',h4'',hC4,hL4⟩
 have ew5 : IntKind.wrap .i64 ((1) + r4) = (1) + r4 := wrap_i64 (by omega) (by omega)
 refine ⟨_,rfl,?_⟩
 refine ⟨_,rfl,(ac_d_l1Below c 2 s4 hC4 (by first | assumption | omega)).mono ?_⟩
 rintro _ s7 ⟨r7,rfl,h7,h7',h7'',hC7,hL7⟩
 refine ⟨_,rfl,(ac_d_l1Below c 3 s7 hC7 (by first | assumption | omega)).mono ?_⟩
 rintro _ s9 ⟨r9,rfl,h9,h9',h9'',hC9,hL9⟩
 refine ⟨_,rfl,(ac_d_l1Below c 3 s9 hC9 (by first | assumption | omega)).mono ?_⟩
 rintro _ s11 ⟨r11,rfl,h11,h11',h11'',hC11,hL11⟩
 refine op_litS (l := [⟨#[]⟩,⟨#[97]⟩,⟨#[98]⟩,⟨#[97,98]⟩,⟨#[49,50,51,52,53,54,55,56]⟩]) rfl rfl rfl (Nat.le_of_ble_eq_true rfl) rfl rfl rfl (Nat.le_of_ble_eq_true rfl) ?_
 intro q13 s13 hO13 hP13 hN13
 refine ⟨_,rfl,(ac_d_l1Pick c q13 ([⟨#[]⟩,⟨#[97]⟩,⟨#[98]⟩,⟨#[97,98]⟩,⟨#[49,50,51,52,53,54,55,56]⟩]) s13 (hC11.pres hP13) (by first | assumption | omega) (by first | assumption | omega | decide) (by first | assumption | omega) (by first | assumption | exact NC.new (by assumption) (Cur.lt (by assumption)))).mono ?_⟩
 rintro _ s14 ⟨r14,rfl,h14,hC14,hL14⟩
 refine ⟨_,rfl,?_⟩
 refine ⟨_,op_sto rfl rfl rfl rfl rfl rfl rfl,?_⟩
 refine cxs ?_
 exact ⟨.inl rfl,_,rfl,⟨IntKind.wrap .i64 (1 + r4),r7,r9,r11,r14⟩,rfl,ent_mk (by omega) (by omega) (by omega) (by omega) (texts_8 h14),hC14,((((hL4.trans hL7).trans hL9).trans hL11).trans hP13.c).trans hL14⟩
theorem ac_d_l2Draw {p : Option Addr} {bs : List Int} (c : Nat) (st : St) (hc : Cur st c p bs) (hs : bs.length < 1099511627776) : C 157 [vP c 0] st (fun v s => ∃ e : Ent,v = .agg #[vI e.inc,vI e.rank,vI e.beat,vI e.ver,.string e.data] ∧ e.data.size ≤ 9 ∧ Cur s c p bs ∧ PresC c st s) := by
 refine AC.enterX (i := ⟨[2,3],[2,3,13,19,25,31,34],[0,2,3,7,8,14,20,26,32],[]⟩) [] Try.func157 rfl rfl (by kernel_rfl) (by kernel_rfl) Try.ntmps157 (Nat.le_of_ble_eq_true rfl) rfl ?_
 refine ⟨_,rfl,?_⟩
 refine AW.cutM (1) st [(0,vP c 0),(2,vL 2 0 (0))] [(2,0,[vI 0,vI 0,vI 0,vI 0,.string ⟨#[]⟩])] ⟨rfl,rfl,trivial⟩ ⟨rfl,trivial⟩ rfl fun ρ0 ff => ?_
 refine ⟨_,rfl,(ac_d_l2Right c st hc (by first | assumption | omega)).mono ?_⟩
 rintro _ s5 ⟨e5,rfl,h5,hC5,hL5⟩
 refine ⟨_,rfl,?_⟩
 refine ⟨_,op_sto rfl rfl rfl rfl rfl rfl rfl,?_⟩
 refine AW.cutM (2) s5 [(0,vP c 0),(2,vL 2 0 (0)),(3,vL 3 0 (1))] [(2,0,[vI 0,vI 0,vI 0,vI 0,.string ⟨#[]⟩]),(3,1,[vI e5.inc,vI e5.rank,vI e5.beat,vI e5.ver,.string e5.data])] ⟨rfl,rfl,rfl,trivial⟩ ⟨rfl,rfl,trivial⟩ rfl fun ρ0 ff => ?_
 have hd : e5.data.size ≤ 9 := Nat.le_trans h5.2.2.2.2 (by decide)
 refine ⟨_,rfl,(ac_d_l1Below c 14 s5 hC5 (by first | assumption | omega)).mono ?_⟩
 rintro _ s7 ⟨r7,rfl,h7,h7',h7'',hC7,hL7⟩
 refine AW.cutM (2) s7 [(0,vP c 0),(2,vL 2 0 (0)),(3,vL 3 0 (1)),(7,vI r7)] [(2,0,[vI 0,vI 0,vI 0,vI 0,.string ⟨#[]⟩]),(3,1,[vI e5.inc,vI e5.rank,vI e5.beat,vI e5.ver,.string e5.data])] ⟨rfl,rfl,rfl,rfl,trivial⟩ ⟨rfl,rfl,trivial⟩ rfl fun ρ0 ff => ?_
 refine ⟨_,rfl,?_⟩
 rintro (_|_) h9
 ·replace h9 : ¬ (r7 = (0)) := beq_eq_false_iff_ne.1 h9
  refine AW.cutM (2) s7 [(0,vP c 0),(2,vL 2 0 (0)),(3,vL 3 0 (1)),(7,vI r7),(8,vB false)] [(2,0,[vI 0,vI 0,vI 0,vI 0,.string ⟨#[]⟩]),(3,1,[vI e5.inc,vI e5.rank,vI e5.beat,vI e5.ver,.string e5.data])] ⟨rfl,rfl,rfl,rfl,rfl,trivial⟩ ⟨rfl,rfl,trivial⟩ rfl fun ρ0 ff => ?_
  refine ⟨_,rfl,?_⟩
  rintro (_|_) h15
  ·replace h15 : ¬ (r7 = (1)) := beq_eq_false_iff_ne.1 h15
   refine AW.cutM (2) s7 [(0,vP c 0),(2,vL 2 0 (0)),(3,vL 3 0 (1)),(7,vI r7),(14,vB false)] [(2,0,[vI 0,vI 0,vI 0,vI 0,.string ⟨#[]⟩]),(3,1,[vI e5.inc,vI e5.rank,vI e5.beat,vI e5.ver,.string e5.data])] ⟨rfl,rfl,rfl,rfl,rfl,trivial⟩ ⟨rfl,rfl,trivial⟩ rfl fun ρ0 ff => ?_
   refine ⟨_,rfl,?_⟩
   rintro (_|_) h21
   ·replace h21 : ¬ (r7 = (2)) := beq_eq_false_iff_ne.1 h21
    refine AW.cutM (2) s7 [(0,vP c 0),(2,vL 2 0 (0)),(3,vL 3 0 (1)),(7,vI r7),(20,vB false)] [(2,0,[vI 0,vI 0,vI 0,vI 0,.string ⟨#[]⟩]),(3,1,[vI e5.inc,vI e5.rank,vI e5.beat,vI e5.ver,.string e5.data])] ⟨rfl,rfl,rfl,rfl,rfl,trivial⟩ ⟨rfl,rfl,trivial⟩ rfl fun ρ0 ff => ?_
    refine ⟨_,rfl,?_⟩
    rintro (_|_) h27
    ·replace h27 : ¬ (r7 = (3)) := beq_eq_false_iff_ne.1 h27
     refine AW.cutM (2) s7 [(0,vP c 0),(2,vL 2 0 (0)),(3,vL 3 0 (1)),(7,vI r7),(26,vB false)] [(2,0,[vI 0,vI 0,vI 0,vI 0,.string ⟨#[]⟩]),(3,1,[vI e5.inc,vI e5.rank,vI e5.beat,vI e5.ver,.string e5.data])] ⟨rfl,rfl,rfl,rfl,rfl,trivial⟩ ⟨rfl,rfl,trivial⟩ rfl fun ρ0 ff => ?_
     refine ⟨_,rfl,?_⟩
     rintro (_|_) h33
     ·replace h33 : ¬ (r7 = (4)) := beq_eq_false_iff_ne.1 h33
      refine AW.cutM (2) s7 [(2,vL 2 0 (0)),(3,vL 3 0 (1)),(32,vB false)] [(2,0,[vI 0,vI 0,vI 0,vI 0,.string ⟨#[]⟩]),(3,1,[vI e5.inc,vI e5.rank,vI e5.beat,vI e5.ver,.string e5.data])] ⟨rfl,rfl,rfl,trivial⟩ ⟨rfl,rfl,trivial⟩ rfl fun ρ0 ff => ?_
      refine cxs ?_
      refine ⟨_,op_ldo rfl rfl rfl rfl,?_⟩
      refine ⟨_,op_sto rfl rfl rfl rfl rfl rfl rfl,?_⟩
      refine cxs ?_
      exact ⟨.inl rfl,_,rfl,e5,rfl,hd,hC7,hL5.trans hL7⟩
     ·replace h33 : r7 = (4) := beq_iff_eq.1 h33
      refine AW.cutM (2) s7 [(2,vL 2 0 (0)),(3,vL 3 0 (1)),(32,vB true)] [(2,0,[vI 0,vI 0,vI 0,vI 0,.string ⟨#[]⟩]),(3,1,[vI e5.inc,vI e5.rank,vI e5.beat,vI e5.ver,.string e5.data])] ⟨rfl,rfl,rfl,trivial⟩ ⟨rfl,rfl,trivial⟩ rfl fun ρ0 ff => ?_
      refine ⟨_,rfl,?_⟩
      refine ⟨_,op_sto rfl rfl rfl rfl rfl rfl rfl,?_⟩
      refine AW.cutM (2) s7 [(2,vL 2 0 (0)),(3,vL 3 0 (1))] [(2,0,[vI 0,vI 0,vI 0,vI 0,.string ⟨#[]⟩]),(3,1,[vI e5.inc,vI e5.rank,vI e5.beat,vI e5.ver,.string ⟨#[49,50,51,52,53,54,55,56,57]⟩])] ⟨rfl,rfl,trivial⟩ ⟨rfl,rfl,trivial⟩ rfl fun ρ0 ff => ?_
      refine ⟨_,op_ldo rfl rfl rfl rfl,?_⟩
      refine ⟨_,op_sto rfl rfl rfl rfl rfl rfl rfl,?_⟩
      refine cxs ?_
      exact ⟨.inl rfl,_,rfl,⟨e5.inc,e5.rank,e5.beat,e5.ver,⟨#[49,50,51,52,53,54,55,56,57]⟩⟩,rfl,by show 9 ≤ 9; exact Nat.le_refl 9,hC7,hL5.trans hL7⟩
    ·replace h27 : r7 = (3) := beq_iff_eq.1 h27
     refine AW.cutM (2) s7 [(0,vP c 0),(2,vL 2 0 (0)),(3,vL 3 0 (1)),(7,vI r7),(26,vB true)] [(2,0,[vI 0,vI 0,vI 0,vI 0,.string ⟨#[]⟩]),(3,1,[vI e5.inc,vI e5.rank,vI e5.beat,vI e5.ver,.string e5.data])] ⟨rfl,rfl,rfl,rfl,rfl,trivial⟩ ⟨rfl,rfl,trivial⟩ rfl fun ρ0 ff => ?_
     refine op_litI (k := .i64) (l := [-1,1000,1001]) rfl rfl rfl rfl rfl rfl (Nat.le_of_ble_eq_true rfl) ?_
     intro q29 s29 hO29 hP29 hN29
     refine ⟨_,rfl,(ac_d_l1PickInt c q29 ([-1,1000,1001]) s29 (hC7.pres hP29) (by first | assumption | omega) (by first | assumption | omega | decide) (by first | assumption | omega) (by first | assumption | exact NC.new (by assumption) (Cur.lt (by assumption)))).mono ?_⟩
     rintro _ s30 ⟨r30,rfl,h30,hC30,hL30⟩
     refine ⟨_,rfl,?_⟩
     refine ⟨_,op_sto rfl rfl rfl rfl rfl rfl rfl,?_⟩
     refine AW.cutM (2) s30 [(2,vL 2 0 (0)),(3,vL 3 0 (1))] [(2,0,[vI 0,vI 0,vI 0,vI 0,.string ⟨#[]⟩]),(3,1,[vI e5.inc,vI e5.rank,vI e5.beat,vI r30,.string e5.data])] ⟨rfl,rfl,trivial⟩ ⟨rfl,rfl,trivial⟩ rfl fun ρ0 ff => ?_
     refine ⟨_,op_ldo rfl rfl rfl rfl,?_⟩
     refine ⟨_,op_sto rfl rfl rfl rfl rfl rfl rfl,?_⟩
     refine cxs ?_
     exact ⟨.inl rfl,_,rfl,⟨e5.inc,e5.rank,e5.beat,r30,e5.data⟩,rfl,hd,hC30,((hL5.trans hL7).trans hP29.c).trans hL30⟩
   ·replace h21 : r7 = (2) := beq_iff_eq.1 h21
    refine AW.cutM (2) s7 [(0,vP c 0),(2,vL 2 0 (0)),(3,vL 3 0 (1)),(7,vI r7),(20,vB true)] [(2,0,[vI 0,vI 0,vI 0,vI 0,.string ⟨#[]⟩]),(3,1,[vI e5.inc,vI e5.rank,vI e5.beat,vI e5.ver,.string e5.data])] ⟨rfl,rfl,rfl,rfl,rfl,trivial⟩ ⟨rfl,rfl,trivial⟩ rfl fun ρ0 ff => ?_
    refine op_litI (k := .i64) (l := [-1,100000,100001]) rfl rfl rfl rfl rfl rfl (Nat.le_of_ble_eq_true rfl) ?_
    intro q23 s23 hO23 hP23 hN23
    refine ⟨_,rfl,(ac_d_l1PickInt c q23 ([-1,100000,100001]) s23 (hC7.pres hP23) (by first | assumption | omega) (by first | assumption | omega | decide) (by first | assumption | omega) (by first | assumption | exact NC.new (by assumption) (Cur.lt (by assumption)))).mono ?_⟩
    rintro _ s24 ⟨r24,rfl,h24,hC24,hL24⟩
    refine ⟨_,rfl,?_⟩
    refine ⟨_,op_sto rfl rfl rfl rfl rfl rfl rfl,?_⟩
    refine AW.cutM (2) s24 [(2,vL 2 0 (0)),(3,vL 3 0 (1))] [(2,0,[vI 0,vI 0,vI 0,vI 0,.string ⟨#[]⟩]),(3,1,[vI e5.inc,vI e5.rank,vI r24,vI e5.ver,.string e5.data])] ⟨rfl,rfl,trivial⟩ ⟨rfl,rfl,trivial⟩ rfl fun ρ0 ff => ?_
    refine ⟨_,op_ldo rfl rfl rfl rfl,?_⟩
    refine ⟨_,op_sto rfl rfl rfl rfl rfl rfl rfl,?_⟩
    refine cxs ?_
    exact ⟨.inl rfl,_,rfl,⟨e5.inc,e5.rank,r24,e5.ver,e5.data⟩,rfl,hd,hC24,((hL5.trans hL7).trans hP23.c).trans hL24⟩
  ·replace h15 : r7 = (1) := beq_iff_eq.1 h15
   refine AW.cutM (2) s7 [(0,vP c 0),(2,vL 2 0 (0)),(3,vL 3 0 (1)),(7,vI r7),(14,vB true)] [(2,0,[vI 0,vI 0,vI 0,vI 0,.string ⟨#[]⟩]),(3,1,[vI e5.inc,vI e5.rank,vI e5.beat,vI e5.ver,.string e5.data])] ⟨rfl,rfl,rfl,rfl,rfl,trivial⟩ ⟨rfl,rfl,trivial⟩ rfl fun ρ0 ff => ?_
   refine op_litI (k := .i64) (l := [-1,2]) rfl rfl rfl rfl rfl rfl (Nat.le_of_ble_eq_true rfl) ?_
   intro q17 s17 hO17 hP17 hN17
   refine ⟨_,rfl,(ac_d_l1PickInt c q17 ([-1,2]) s17 (hC7.pres hP17) (by first | assumption | omega) (by first | assumption | omega | decide) (by first | assumption | omega) (by first | assumption | exact NC.new (by assumption) (Cur.lt (by assumption)))).mono ?_⟩
   rintro _ s18 ⟨r18,rfl,h18,hC18,hL18⟩
   refine ⟨_,rfl,?_⟩
   refine ⟨_,op_sto rfl rfl rfl rfl rfl rfl rfl,?_⟩
   refine AW.cutM (2) s18 [(2,vL 2 0 (0)),(3,vL 3 0 (1))] [(2,0,[vI 0,vI 0,vI 0,vI 0,.string ⟨#[]⟩]),(3,1,[vI e5.inc,vI r18,vI e5.beat,vI e5.ver,.string e5.data])] ⟨rfl,rfl,trivial⟩ ⟨rfl,rfl,trivial⟩ rfl fun ρ0 ff => ?_
   refine ⟨_,op_ldo rfl rfl rfl rfl,?_⟩
   refine ⟨_,op_sto rfl rfl rfl rfl rfl rfl rfl,?_⟩
   refine cxs ?_
   exact ⟨.inl rfl,_,rfl,⟨e5.inc,r18,e5.beat,e5.ver,e5.data⟩,rfl,hd,hC18,((hL5.trans hL7).trans hP17.c).trans hL18⟩
 ·replace h9 : r7 = (0) := beq_iff_eq.1 h9
  refine AW.cutM (2) s7 [(0,vP c 0),(2,vL 2 0 (0)),(3,vL 3 0 (1)),(7,vI r7),(8,vB true)] [(2,0,[vI 0,vI 0,vI 0,vI 0,.string ⟨#[]⟩]),(3,1,[vI e5.inc,vI e5.rank,vI e5.beat,vI e5.ver,.string e5.data])] ⟨rfl,rfl,rfl,rfl,rfl,trivial⟩ ⟨rfl,rfl,trivial⟩ rfl fun ρ0 ff => ?_
  refine op_litI (k := .i64) (l := [0,1000,1001,-1]) rfl rfl rfl rfl rfl rfl (Nat.le_of_ble_eq_true rfl) ?_
  intro q11 s11 hO11 hP11 hN11
  refine ⟨_,rfl,(ac_d_l1PickInt c q11 ([0,1000,1001,-1]) s11 (hC7.pres hP11) (by first | assumption | omega) (by first | assumption | omega | decide) (by first | assumption | omega) (by first | assumption | exact NC.new (by assumption) (Cur.lt (by assumption)))).mono ?_⟩
  rintro _ s12 ⟨r12,rfl,h12,hC12,hL12⟩
  refine ⟨_,rfl,?_⟩
  refine ⟨_,op_sto rfl rfl rfl rfl rfl rfl rfl,?_⟩
  refine AW.cutM (2) s12 [(2,vL 2 0 (0)),(3,vL 3 0 (1))] [(2,0,[vI 0,vI 0,vI 0,vI 0,.string ⟨#[]⟩]),(3,1,[vI r12,vI e5.rank,vI e5.beat,vI e5.ver,.string e5.data])] ⟨rfl,rfl,trivial⟩ ⟨rfl,rfl,trivial⟩ rfl fun ρ0 ff => ?_
  refine ⟨_,op_ldo rfl rfl rfl rfl,?_⟩
  refine ⟨_,op_sto rfl rfl rfl rfl rfl rfl rfl,?_⟩
  refine cxs ?_
  exact ⟨.inl rfl,_,rfl,⟨r12,e5.rank,e5.beat,e5.ver,e5.data⟩,rfl,hd,hC12,((hL5.trans hL7).trans hP11.c).trans hL12⟩
open Classical in
noncomputable def singF (id : Int) (e : Ent) : Sta × Bool := if stateOk ⟨[⟨id,e⟩],[]⟩ then (⟨[⟨id,e⟩],[]⟩,true) else (nilS,false)
theorem sing_ok {id : Int} {e : Ent} {x : Sta} {b : Bool} (h : (x,b) = singF id e) : stateOk x := by
 unfold singF at h
 split at h
 ·injection h with h _; rw [h]; assumption
 ·injection h with h _; rw [h]; exact stateOk_nil
theorem ac_spec_Single (id : Int) (e : Ent) (st : St) (hz : e.data.size ≤ 1048576) : C 179 [vI id,.agg #[vI e.inc,vI e.rank,vI e.beat,vI e.ver,.string e.data]] st (fun v s => ∃ (u : SV) (b : Bool),v = .tuple #[.agg #[vS u.p u.x.items.length,vS u.q u.x.floors.length],vB b] ∧ (u.x,b) = singF id e ∧ OwnP s (pcS u) ∧ NewP st.next (pcS u) ∧ Pres st s) := by
 refine AC.enterX (i := ⟨[3,4,6],[3,4,6],[0,1,3,4,5,6,14],[]⟩) [] Try.func179 rfl rfl (by kernel_rfl) (by kernel_rfl) Try.ntmps179 (Nat.le_of_ble_eq_true rfl) rfl ?_
 iterate 2 refine ⟨_,rfl,?_⟩
 refine AW.cutM (2) st [(0,vI id),(3,vL 3 0 (0)),(4,vL 4 0 (1)),(5,vB false)] [(3,0,[vI e.inc,vI e.rank,vI e.beat,vI e.ver,.string e.data]),(4,1,[.slice none 0 0,.slice none 0 0])] ⟨rfl,rfl,rfl,rfl,trivial⟩ ⟨rfl,rfl,trivial⟩ rfl fun ρ0 ff => ?_
 refine ⟨_,op_ldo rfl rfl rfl rfl,?_⟩
 refine ⟨_,rfl,?_⟩
 refine op_one (z := 6) (a := (⟨id,e⟩ : Itm)) (f := cItm) rfl rfl rfl rfl rfl (by decide) rfl (Nat.le_of_ble_eq_true rfl) rfl rfl rfl ?_
 iterate 2 refine ⟨_,rfl,?_⟩
 refine ⟨_,op_sto rfl rfl rfl rfl rfl rfl rfl,?_⟩
 refine AW.cutM (3) (st.push 6 ([(⟨id,e⟩ : Itm)].flatMap cItm)) [(4,vL 4 0 (1)),(5,vB false),(6,vL 6 0 (2))] [(4,1,[.slice none 0 0,.slice none 0 0]),(6,2,[vS (some ⟨st.next,0,none⟩) 1,.slice none 0 0])] ⟨rfl,rfl,rfl,trivial⟩ ⟨rfl,rfl,trivial⟩ rfl fun ρ0 ff => ?_
 have hO : OwnR (st.push 6 ([(⟨id,e⟩ : Itm)].flatMap cItm)) 6 cItm (some ⟨st.next,0,none⟩) [(⟨id,e⟩ : Itm)] := OwnR.push
 obtain ⟨s1,hs1⟩ : ∃ s,s = st.push 6 ([(⟨id,e⟩ : Itm)].flatMap cItm) := ⟨_,rfl⟩
 have hP1 : Pres st (st.push 6 ([(⟨id,e⟩ : Itm)].flatMap cItm)) := Pres.push
 rw [← hs1] at hO hP1 ⊢
 have hF : Frs st s1 (pcS ⟨some ⟨st.next,0,none⟩,none,⟨[⟨id,e⟩],[]⟩⟩) := ⟨⟨fun d hd => by
  rcases List.mem_cons.1 hd with rfl | hd
  ·exact own_pc hO
  ·rw [List.mem_singleton.1 hd]; exact .inl ⟨rfl,rfl⟩,List.pairwise_pair.2 (Dis.symm Dis.none)⟩,NewP.cons (by intro r hr; injection hr with hr; rw [← hr]; exact Nat.le_refl _) (NewP.cons New.none NewP.nil),hP1⟩
 have hb : bigS ⟨[⟨id,e⟩],[]⟩ := ⟨show 1 ≤ 1048576 by decide,Nat.zero_le _,fun y hy => by rw [List.mem_singleton.1 hy]; exact hz⟩
 refine ⟨_,op_ldo rfl rfl rfl rfl,?_⟩
 refine ⟨_,rfl,(ac_spec_StateOk ⟨some ⟨st.next,0,none⟩,none,⟨[⟨id,e⟩],[]⟩⟩ s1 hF.1.rdS hb).mono ?_⟩
 rintro _ s1 ⟨x13,rfl,h13,rfl⟩
 rcases x13 with _|_
 ·replace h13 := fun k => Bool.false_ne_true (h13.2 k)
  refine ⟨_,rfl,?_⟩
  refine AW.cutM (3) s1 [(4,vL 4 0 (1)),(5,vB false),(6,vL 6 0 (2)),(14,vB true)] [(4,1,[.slice none 0 0,.slice none 0 0]),(6,2,[vS (some ⟨st.next,0,none⟩) 1,.slice none 0 0])] ⟨rfl,rfl,rfl,rfl,trivial⟩ ⟨rfl,rfl,trivial⟩ rfl fun ρ0 ff => ?_
  refine ⟨_,rfl,?_⟩
  refine ⟨_,op_sto rfl rfl rfl rfl rfl rfl rfl,?_⟩
  refine cxs ?_
  exact ⟨.inl rfl,_,rfl,⟨none,none,nilS⟩,false,rfl,(if_neg h13).symm,pcS_nil,newS_nil,hP1⟩
 ·replace h13 := h13.1 rfl
  refine ⟨_,rfl,?_⟩
  refine AW.cutM (3) s1 [(4,vL 4 0 (1)),(5,vB false),(6,vL 6 0 (2)),(14,vB false)] [(4,1,[.slice none 0 0,.slice none 0 0]),(6,2,[vS (some ⟨st.next,0,none⟩) 1,.slice none 0 0])] ⟨rfl,rfl,rfl,rfl,trivial⟩ ⟨rfl,rfl,trivial⟩ rfl fun ρ0 ff => ?_
  refine cxs ?_
  refine ⟨_,op_ldo rfl rfl rfl rfl,?_⟩
  refine ⟨_,op_sto rfl rfl rfl rfl rfl rfl rfl,?_⟩
  refine cxs ?_
  exact ⟨.inl rfl,_,rfl,⟨some ⟨st.next,0,none⟩,none,⟨[⟨id,e⟩],[]⟩⟩,true,rfl,(if_pos h13).symm,hF.1,hF.2.1,hP1⟩
theorem frs_floor1 {a : St} {x : Flr} : Frs a (a.push 2 ([x].flatMap cFlr)) (pcS ⟨none,some ⟨a.next,0,none⟩,⟨[],[x]⟩⟩) := ⟨⟨fun d hd => by
  rcases List.mem_cons.1 hd with rfl | hd
  ·exact .inl ⟨rfl,rfl⟩
  ·rw [List.mem_singleton.1 hd]; exact own_pc OwnR.push,List.pairwise_pair.2 Dis.none⟩,NewP.cons New.none (NewP.cons (by intro r hr; injection hr with hr; rw [← hr]; exact Nat.le_refl _) NewP.nil),Pres.push⟩
theorem ok_floor1 {id inc : Int} (h : 0 ≤ id ∧ id ≤ 4) (k : 1 ≤ inc ∧ inc ≤ 1000) : stateOk ⟨[],[⟨id,inc⟩]⟩ := stateOk_floors fun j x hx => by
 cases j with
 | zero => injection hx with hx; rw [← hx]; exact ⟨h,k,fun y hy => by omega⟩
 | succ j => simp at hx
theorem ac_d_l3Right {p : Option Addr} {bs : List Int} (c : Nat) (st : St) (hc : Cur st c p bs) (hs : bs.length < 1099511627776) : C 151 [vP c 0] st (fun v s => ∃ u : SV,v = .agg #[vS u.p u.x.items.length,vS u.q u.x.floors.length] ∧ stateOk u.x ∧ FrC c st s (pcS u) ∧ Cur s c p bs) := by
 refine AC.enterX (i := ⟨[2,3,6],[2,3,6],[0,2,3,4,5,6,8,9,15,33],[]⟩) [(2012,[],[1]),(12,[2,4,7],[0])] Try.func151 rfl rfl (by kernel_rfl) (by kernel_rfl) Try.ntmps151 (Nat.le_of_ble_eq_true rfl) rfl ?_
 refine ⟨_,rfl,?_⟩
 refine AW.cutM (1) st [(0,vP c 0),(2,vL 2 0 (0))] [(2,0,[.slice none 0 0,.slice none 0 0])] ⟨rfl,rfl,trivial⟩ ⟨rfl,trivial⟩ rfl fun ρ0 ff => ?_
 iterate 2 refine ⟨_,rfl,?_⟩
 refine ⟨_,op_sto rfl rfl rfl rfl rfl rfl rfl,?_⟩
 refine AW.cutM (2) st [(0,vP c 0),(2,vL 2 0 (0)),(3,vL 3 0 (1))] [(2,0,[.slice none 0 0,.slice none 0 0]),(3,1,[.slice none 0 0,.slice none 0 0])] ⟨rfl,rfl,rfl,trivial⟩ ⟨rfl,rfl,trivial⟩ rfl fun ρ0 ff => ?_
 refine ⟨_,rfl,(ac_d_l1Below c 7 st hc (by first | assumption | omega)).mono ?_⟩
 rintro _ s12 ⟨r12,rfl,h12,h12',h12'',hC12,hL12⟩
 refine cxs ?_
 refine AW.cutM (2) s12 [(0,vP c 0),(2,vL 2 0 (0)),(3,vL 3 0 (1)),(4,vI r12),(5,vI (0))] [(2,0,[.slice none 0 0,.slice none 0 0]),(3,1,[.slice none 0 0,.slice none 0 0])] ⟨rfl,rfl,rfl,rfl,rfl,trivial⟩ ⟨rfl,rfl,trivial⟩ rfl fun ρ0 ff => ?_
 refine AW.loopM (fun x : Nat × SV => [(0,vP c 0),(2,vL 2 0 (0)),(3,vL 3 0 (1)),(4,vI r12),(5,vI (x.1 : Int))]) (fun x : Nat × SV => [(2,0,[.slice none 0 0,.slice none 0 0]),(3,1,[vS x.2.p x.2.x.items.length,vS x.2.q x.2.x.floors.length])]) (fun m (x : Nat × SV) st' => m = r12.toNat - x.1 ∧ (x.1 : Int) ≤ r12 ∧ stateOk x.2.x ∧ FrC c st st' (pcS x.2) ∧ Cur st' c p bs) (0,⟨none,none,nilS⟩) _ ⟨rfl,rfl,rfl,rfl,rfl,trivial⟩ ⟨rfl,rfl,trivial⟩ ⟨rfl,h12,stateOk_nil,(Frs.nilS.toC hC12.lt).sooner hL12 hc.lt,hC12⟩ ?_
 rintro m ⟨i,u⟩ ρ0 ff gg st' ⟨rfl,hi,hk,hF,hC⟩
 simp only at hi hk hF
 refine ⟨_,rfl,?_⟩
 rintro (_|_) h15
 ·replace h15 : ¬ ((i : Int) < r12) := of_decide_eq_false h15
  refine AW.cutM (gg) st' [(0,vP c 0),(2,vL 2 0 (0)),(3,vL 3 0 (1)),(4,vI r12),(5,vI (i : Int)),(15,vB false)] [(2,0,[.slice none 0 0,.slice none 0 0]),(3,1,[vS u.p u.x.items.length,vS u.q u.x.floors.length])] ⟨rfl,rfl,rfl,rfl,rfl,rfl,trivial⟩ ⟨rfl,rfl,trivial⟩ rfl fun ρ0 ff => ?_
  refine cxs ?_
  refine ⟨_,rfl,(ac_d_l1Below c 3 st' hC (by first | assumption | omega)).mono ?_⟩
  rintro _ s30 ⟨r30,rfl,h30,h30',h30'',hC30,hL30⟩
  refine cxs ?_
  have hF30 := hF.later hL30
  refine AW.cutM (gg) s30 [(0,vP c 0),(2,vL 2 0 (0)),(3,vL 3 0 (1)),(8,vI r30),(9,vI (0))] [(2,0,[.slice none 0 0,.slice none 0 0]),(3,1,[vS u.p u.x.items.length,vS u.q u.x.floors.length])] ⟨rfl,rfl,rfl,rfl,rfl,trivial⟩ ⟨rfl,rfl,trivial⟩ rfl fun ρ0 ff => ?_
  refine AW.loopM (fun x : Nat × SV => [(0,vP c 0),(2,vL 2 0 (0)),(3,vL 3 0 (1)),(8,vI r30),(9,vI (x.1 : Int))]) (fun x : Nat × SV => [(2,0,[.slice none 0 0,.slice none 0 0]),(3,1,[vS x.2.p x.2.x.items.length,vS x.2.q x.2.x.floors.length])]) (fun m (x : Nat × SV) st' => m = r30.toNat - x.1 ∧ (x.1 : Int) ≤ r30 ∧ stateOk x.2.x ∧ FrC c st st' (pcS x.2) ∧ Cur st' c p bs) (0,u) _ ⟨rfl,rfl,rfl,rfl,rfl,trivial⟩ ⟨rfl,rfl,trivial⟩ ⟨rfl,h30,hk,hF30,hC30⟩ ?_
  rintro m ⟨i,u⟩ ρ0 ff gg st' ⟨rfl,hi,hk,hF,hC⟩
  simp only at hi hk hF
  refine ⟨_,rfl,?_⟩
  rintro (_|_) h33
  ·replace h33 : ¬ ((i : Int) < r30) := of_decide_eq_false h33
   refine AW.cutM (gg) st' [(0,vP c 0),(2,vL 2 0 (0)),(3,vL 3 0 (1)),(8,vI r30),(9,vI (i : Int)),(33,vB false)] [(2,0,[.slice none 0 0,.slice none 0 0]),(3,1,[vS u.p u.x.items.length,vS u.q u.x.floors.length])] ⟨rfl,rfl,rfl,rfl,rfl,rfl,trivial⟩ ⟨rfl,rfl,trivial⟩ rfl fun ρ0 ff => ?_
   refine cxs ?_
   refine ⟨_,op_ldo rfl rfl rfl rfl,?_⟩
   refine ⟨_,op_sto rfl rfl rfl rfl rfl rfl rfl,?_⟩
   refine cxs ?_
   exact ⟨.inl rfl,_,rfl,u,rfl,hk,hF,hC⟩
  ·replace h33 : (i : Int) < r30 := of_decide_eq_true h33
   refine AW.cutM (gg) st' [(0,vP c 0),(2,vL 2 0 (0)),(3,vL 3 0 (1)),(8,vI r30),(9,vI (i : Int)),(33,vB true)] [(2,0,[.slice none 0 0,.slice none 0 0]),(3,1,[vS u.p u.x.items.length,vS u.q u.x.floors.length])] ⟨rfl,rfl,rfl,rfl,rfl,rfl,trivial⟩ ⟨rfl,rfl,trivial⟩ rfl fun ρ0 ff => ?_
   refine cxs ?_
   refine ⟨fun _ => False,?_⟩
   refine ⟨_,op_ldo rfl rfl rfl rfl,?_⟩
   refine ⟨ld_own rfl rfl rfl,?_⟩
   refine ⟨_,rfl,(ac_d_l1Below c 5 st' hC (by first | assumption | omega)).mono ?_⟩
   rintro _ s38 ⟨r38,rfl,h38,h38',h38'',hC38,hL38⟩
   refine ⟨fun _ h => h.elim,?_⟩
   refine ⟨_,rfl,(ac_d_l1Below c 2 s38 hC38 (by first | assumption | omega)).mono ?_⟩
   rintro _ s40 ⟨r40,rfl,h40,h40',h40'',hC40,hL40⟩
   refine ⟨fun _ h => h.elim,?_⟩
   have ew41 : IntKind.wrap .i64 ((1) + r40) = (1) + r40 := wrap_i64 (by omega) (by omega)
   iterate 2 refine ⟨_,rfl,?_⟩
   refine op_one (z := 2) (a := ((⟨r38,IntKind.wrap .i64 (1 + r40)⟩ : Flr) : Flr)) (f := cFlr) rfl rfl rfl rfl rfl (by decide) rfl (Nat.le_of_ble_eq_true rfl) rfl rfl rfl ?_
   refine ⟨fun _ h => h.elim,?_⟩
   refine ⟨_,rfl,?_⟩
   have hF40 := (hF.later hL38).later hL40
   have hP43 : Pres s40 (s40.push 2 ([(⟨r38,IntKind.wrap .i64 (1 + r40)⟩ : Flr)].flatMap cFlr)) := Pres.push
   have hF43 : Frs s40 (s40.push 2 ([(⟨r38,IntKind.wrap .i64 (1 + r40)⟩ : Flr)].flatMap cFlr)) (pcS ⟨none,some ⟨s40.next,0,none⟩,⟨[],[⟨r38,IntKind.wrap .i64 (1 + r40)⟩]⟩⟩) := frs_floor1
   have hR43 := (hF40.step hP43).1.rdS
   have hC43 := hC40.pres hP43
   have hk43 : stateOk ⟨[],[⟨r38,IntKind.wrap .i64 (1 + r40)⟩]⟩ := ok_floor1 (by omega) (by omega)
   refine ⟨_,rfl,(ac_spec_l3Join u ⟨none,some ⟨s40.next,0,none⟩,⟨[],[⟨r38,IntKind.wrap .i64 (1 + r40)⟩]⟩⟩ (s40.push 2 ([(⟨r38,IntKind.wrap .i64 (1 + r40)⟩ : Flr)].flatMap cFlr)) hR43 hF43.1.rdS (big_ok hk) (big_ok hk43) hk hk43).mono ?_⟩
   rintro _ s45 ⟨u45,rfl,h45,hO45,hN45,hP45⟩
   refine ⟨_,op_sto rfl rfl rfl rfl rfl rfl rfl,?_⟩
   refine AW.cutM (gg) s45 [(0,vP c 0),(2,vL 2 0 (0)),(3,vL 3 0 (1)),(8,vI r30),(9,vI (i : Int)),(33,vB true)] [(2,0,[.slice none 0 0,.slice none 0 0]),(3,1,[vS u45.p u45.x.items.length,vS u45.q u45.x.floors.length])] ⟨rfl,rfl,rfl,rfl,rfl,rfl,trivial⟩ ⟨rfl,rfl,trivial⟩ rfl fun ρ0 ff => ?_
   have hF45 : FrC c st s45 (pcS u45) := (Frs.toC ⟨hO45,hN45,hP45⟩ (hF40.step hP43).lt).sooner (hF40.step hP43).2.2.1 hc.lt
   have ew35 : IntKind.wrap .i64 ((i : Int) + (1)) = ((i + 1 : Nat) : Int) := (wrap_i64 (by omega) (by omega)).trans (by omega)
   refine ⟨_,rfl,?_⟩
   exact ⟨(i + 1,u45),r30.toNat - (i + 1),by omega,⟨rfl,rfl,rfl,rfl,congrArg (Value.int .i64) ew35,trivial⟩,⟨rfl,rfl,trivial⟩,rfl,by simp only; omega,by rw [h45]; exact stateOk_join hk hk43,hF45,hC43.pres hP45⟩
 ·replace h15 : (i : Int) < r12 := of_decide_eq_true h15
  refine AW.cutM (gg) st' [(0,vP c 0),(2,vL 2 0 (0)),(3,vL 3 0 (1)),(4,vI r12),(5,vI (i : Int)),(15,vB true)] [(2,0,[.slice none 0 0,.slice none 0 0]),(3,1,[vS u.p u.x.items.length,vS u.q u.x.floors.length])] ⟨rfl,rfl,rfl,rfl,rfl,rfl,trivial⟩ ⟨rfl,rfl,trivial⟩ rfl fun ρ0 ff => ?_
  refine cxs ?_
  refine ⟨_,rfl,(ac_d_l1Below c 5 st' hC (by first | assumption | omega)).mono ?_⟩
  rintro _ s20 ⟨r20,rfl,h20,h20',h20'',hC20,hL20⟩
  refine ⟨_,rfl,(ac_d_l2Right c s20 hC20 (by first | assumption | omega)).mono ?_⟩
  rintro _ s22 ⟨e22,rfl,h22,hC22,hL22⟩
  refine ⟨_,rfl,(ac_spec_Single r20 e22 s22 (Nat.le_trans h22.2.2.2.2 (by decide))).mono ?_⟩
  rintro _ s23 ⟨u23,b23,rfl,h23,hO23,hN23,hP23⟩
  iterate 3 refine ⟨_,rfl,?_⟩
  refine ⟨_,op_sto rfl rfl rfl rfl rfl rfl rfl,?_⟩
  refine AW.cutM (gg + 1) s23 [(0,vP c 0),(2,vL 2 0 (0)),(3,vL 3 0 (1)),(4,vI r12),(5,vI (i : Int)),(6,vL 6 0 (gg)),(15,vB true)] [(2,0,[.slice none 0 0,.slice none 0 0]),(3,1,[vS u.p u.x.items.length,vS u.q u.x.floors.length]),(6,gg,[vS u23.p u23.x.items.length,vS u23.q u23.x.floors.length])] ⟨rfl,rfl,rfl,rfl,rfl,rfl,rfl,trivial⟩ ⟨rfl,rfl,rfl,trivial⟩ rfl fun ρ0 ff => ?_
  have hF22 := (hF.later hL20).later hL22
  have hF23 : FrC c st s23 (pcS u23) := (Frs.toC ⟨hO23,hN23,hP23⟩ hF22.lt).sooner hF22.2.2.1 hc.lt
  have hR23 : RdS s23 u := (hF22.step hP23).1.rdS
  have hC23 := hC22.pres hP23
  have hk23 := sing_ok h23
  have hbu := big_ok hk
  have hbv := big_ok hk23
  refine ⟨_,op_ldo rfl rfl rfl rfl,?_⟩
  refine ⟨_,op_ldo rfl rfl rfl rfl,?_⟩
  refine ⟨_,rfl,(ac_spec_l3Join u u23 s23 hR23 hF23.1.rdS (by first | assumption | omega) (by first | assumption | omega) (by first | assumption | omega) (by first | assumption | omega)).mono ?_⟩
  rintro _ s28 ⟨u28,rfl,h28,hO28,hN28,hP28⟩
  refine ⟨_,op_sto rfl rfl rfl rfl rfl rfl rfl,?_⟩
  refine AW.cutM (gg + 1) s28 [(0,vP c 0),(2,vL 2 0 (0)),(3,vL 3 0 (1)),(4,vI r12),(5,vI (i : Int)),(6,vL 6 0 (gg)),(15,vB true)] [(2,0,[.slice none 0 0,.slice none 0 0]),(3,1,[vS u28.p u28.x.items.length,vS u28.q u28.x.floors.length]),(6,gg,[vS u23.p u23.x.items.length,vS u23.q u23.x.floors.length])] ⟨rfl,rfl,rfl,rfl,rfl,rfl,rfl,trivial⟩ ⟨rfl,rfl,rfl,trivial⟩ rfl fun ρ0 ff => ?_
  have ew17 : IntKind.wrap .i64 ((i : Int) + (1)) = ((i + 1 : Nat) : Int) := (wrap_i64 (by omega) (by omega)).trans (by omega)
  refine ⟨_,rfl,?_⟩
  exact ⟨(i + 1,u28),r12.toNat - (i + 1),by omega,⟨rfl,rfl,rfl,rfl,congrArg (Value.int .i64) ew17,trivial⟩,⟨rfl,rfl,trivial⟩,rfl,by simp only; omega,by rw [h28]; exact stateOk_join hk hk23,(Frs.toC ⟨hO28,hN28,hP28⟩ hF23.lt).sooner hF23.2.2.1 hc.lt,hC23.pres hP28⟩
theorem smS.snocI {n : Nat} {x : Sta} {y : Itm} (h : smS n x) (hy : y.e.data.size ≤ 9) : smS (n + 1) ⟨x.items ++ [y],x.floors⟩ := ⟨by rw [List.length_append]; exact Nat.succ_le_succ h.i,Nat.le_succ_of_le h.f,fun z hz => by
 rcases List.mem_append.1 hz with hz | hz
 ·exact h.d z hz
 ·rw [List.mem_singleton.1 hz]; exact hy⟩
theorem smS.snocF {n : Nat} {x : Sta} {y : Flr} (h : smS n x) : smS (n + 1) ⟨x.items,x.floors ++ [y]⟩ := ⟨Nat.le_succ_of_le h.i,by rw [List.length_append]; exact Nat.succ_le_succ h.f,h.d⟩
theorem smS.setI {n i : Nat} {x : Sta} {y : Itm} (h : smS n x) (hy : y.e.data.size ≤ 9) : smS (n + 1) ⟨x.items.set i y,x.floors⟩ := ⟨by rw [List.length_set]; exact Nat.le_succ_of_le h.i,Nat.le_succ_of_le h.f,fun z hz => by
 rcases List.mem_or_eq_of_mem_set hz with hz | rfl
 ·exact h.d z hz
 ·exact hy⟩
theorem ac_d_l3Draw {p : Option Addr} {bs : List Int} (c : Nat) (st : St) (hc : Cur st c p bs) (hs : bs.length < 1099511627776) : C 85 [vP c 0] st (fun v s => ∃ u : SV,v = .agg #[vS u.p u.x.items.length,vS u.q u.x.floors.length] ∧ smS 6 u.x ∧ FrC c st s (pcS u) ∧ Cur s c p bs) := by
 refine AC.enterX (i := ⟨[2,3],[2,3,10,20,23,34,37,41,44,54,58,60],[0,2,3,7,8,21,35,40,52,57],[]⟩) [(2004,[],[1]),(2006,[],[1]),(2009,[],[1]),(4,[3,6,8],[1]),(6,[3,6,7,9],[1]),(9,[6,8],[1]),(12,[],[])] Try.func85 rfl rfl (by kernel_rfl) (by kernel_rfl) Try.ntmps85 (Nat.le_of_ble_eq_true rfl) rfl ?_
 refine ⟨_,rfl,?_⟩
 refine AW.cutM (1) st [(0,vP c 0),(2,vL 2 0 (0))] [(2,0,[.slice none 0 0,.slice none 0 0])] ⟨rfl,rfl,trivial⟩ ⟨rfl,trivial⟩ rfl fun ρ0 ff => ?_
 refine ⟨_,rfl,(ac_d_l3Right c st hc (by first | assumption | omega)).mono ?_⟩
 rintro _ s5 ⟨u5,rfl,h5,hF5,hC5⟩
 refine ⟨_,rfl,?_⟩
 refine ⟨_,op_sto rfl rfl rfl rfl rfl rfl rfl,?_⟩
 refine AW.cutM (2) s5 [(0,vP c 0),(2,vL 2 0 (0)),(3,vL 3 0 (1))] [(2,0,[.slice none 0 0,.slice none 0 0]),(3,1,[vS u5.p u5.x.items.length,vS u5.q u5.x.floors.length])] ⟨rfl,rfl,rfl,trivial⟩ ⟨rfl,rfl,trivial⟩ rfl fun ρ0 ff => ?_
 have hsm := sm_ok h5
 have hNi : New st.next u5.p := hF5.2.1 _ (List.mem_cons_self ..)
 have hNf : New st.next u5.q := hF5.2.1 _ (List.mem_cons_of_mem _ (List.mem_cons_self ..))
 refine ⟨_,rfl,(ac_d_l1Below c 14 s5 hC5 (by first | assumption | omega)).mono ?_⟩
 rintro _ s7 ⟨r7,rfl,h7,h7',h7'',hC7,hL7⟩
 refine AW.cutM (2) s7 [(0,vP c 0),(2,vL 2 0 (0)),(3,vL 3 0 (1)),(7,vI r7)] [(2,0,[.slice none 0 0,.slice none 0 0]),(3,1,[vS u5.p u5.x.items.length,vS u5.q u5.x.floors.length])] ⟨rfl,rfl,rfl,rfl,trivial⟩ ⟨rfl,rfl,trivial⟩ rfl fun ρ0 ff => ?_
 have hF7 := hF5.later hL7
 have hR7 := hF7.1.rdS
 refine ⟨_,rfl,?_⟩
 rintro (_|_) h9
 ·replace h9 : ¬ (r7 = (0)) := beq_eq_false_iff_ne.1 h9
  refine AW.cutM (2) s7 [(0,vP c 0),(2,vL 2 0 (0)),(3,vL 3 0 (1)),(7,vI r7),(8,vB false)] [(2,0,[.slice none 0 0,.slice none 0 0]),(3,1,[vS u5.p u5.x.items.length,vS u5.q u5.x.floors.length])] ⟨rfl,rfl,rfl,rfl,rfl,trivial⟩ ⟨rfl,rfl,trivial⟩ rfl fun ρ0 ff => ?_
  refine ⟨_,rfl,?_⟩
  rintro (_|_) h22
  ·replace h22 : ¬ (r7 = (1)) := beq_eq_false_iff_ne.1 h22
   refine AW.cutM (2) s7 [(0,vP c 0),(2,vL 2 0 (0)),(3,vL 3 0 (1)),(7,vI r7),(21,vB false)] [(2,0,[.slice none 0 0,.slice none 0 0]),(3,1,[vS u5.p u5.x.items.length,vS u5.q u5.x.floors.length])] ⟨rfl,rfl,rfl,rfl,rfl,trivial⟩ ⟨rfl,rfl,trivial⟩ rfl fun ρ0 ff => ?_
   refine ⟨_,rfl,?_⟩
   rintro (_|_) h36
   ·replace h36 : ¬ (r7 = (2)) := beq_eq_false_iff_ne.1 h36
    refine AW.cutM (2) s7 [(0,vP c 0),(2,vL 2 0 (0)),(3,vL 3 0 (1)),(7,vI r7),(35,vB false)] [(2,0,[.slice none 0 0,.slice none 0 0]),(3,1,[vS u5.p u5.x.items.length,vS u5.q u5.x.floors.length])] ⟨rfl,rfl,rfl,rfl,rfl,trivial⟩ ⟨rfl,rfl,trivial⟩ rfl fun ρ0 ff => ?_
    refine ⟨_,rfl,?_⟩
    rintro (_|_) h53
    ·replace h53 : ¬ (r7 = (3)) := beq_eq_false_iff_ne.1 h53
     refine AW.cutM (2) s7 [(2,vL 2 0 (0)),(3,vL 3 0 (1)),(52,vB false)] [(2,0,[.slice none 0 0,.slice none 0 0]),(3,1,[vS u5.p u5.x.items.length,vS u5.q u5.x.floors.length])] ⟨rfl,rfl,rfl,trivial⟩ ⟨rfl,rfl,trivial⟩ rfl fun ρ0 ff => ?_
     refine cxs ?_
     refine ⟨_,op_ldo rfl rfl rfl rfl,?_⟩
     refine ⟨_,op_sto rfl rfl rfl rfl rfl rfl rfl,?_⟩
     refine cxs ?_
     exact ⟨.inl rfl,_,rfl,u5,rfl,hsm.le (by decide),hF7,hC7⟩
    ·replace h53 : r7 = (3) := beq_iff_eq.1 h53
     refine AW.cutM (2) s7 [(2,vL 2 0 (0)),(3,vL 3 0 (1)),(52,vB true)] [(2,0,[.slice none 0 0,.slice none 0 0]),(3,1,[vS u5.p u5.x.items.length,vS u5.q u5.x.floors.length])] ⟨rfl,rfl,rfl,trivial⟩ ⟨rfl,rfl,trivial⟩ rfl fun ρ0 ff => ?_
     refine ⟨_,rfl,?_⟩
     refine ⟨_,op_ldo rfl rfl rfl rfl,?_⟩
     iterate 2 refine ⟨_,rfl,?_⟩
     rintro (_|_) h57
     ·replace h57 : ¬ ((u5.x.items.length : Int) > (1)) := of_decide_eq_false h57
      refine AW.cutM (2) s7 [(2,vL 2 0 (0)),(3,vL 3 0 (1)),(57,vB false)] [(2,0,[.slice none 0 0,.slice none 0 0]),(3,1,[vS u5.p u5.x.items.length,vS u5.q u5.x.floors.length])] ⟨rfl,rfl,rfl,trivial⟩ ⟨rfl,rfl,trivial⟩ rfl fun ρ0 ff => ?_
      refine cxs ?_
      refine ⟨_,op_ldo rfl rfl rfl rfl,?_⟩
      refine ⟨_,op_sto rfl rfl rfl rfl rfl rfl rfl,?_⟩
      refine cxs ?_
      exact ⟨.inl rfl,_,rfl,u5,rfl,hsm.le (by decide),hF7,hC7⟩
     ·replace h57 : (u5.x.items.length : Int) > (1) := of_decide_eq_true h57
      refine AW.cutM (2) s7 [(2,vL 2 0 (0)),(3,vL 3 0 (1)),(57,vB true)] [(2,0,[.slice none 0 0,.slice none 0 0]),(3,1,[vS u5.p u5.x.items.length,vS u5.q u5.x.floors.length])] ⟨rfl,rfl,rfl,trivial⟩ ⟨rfl,rfl,trivial⟩ rfl fun ρ0 ff => ?_
      refine ⟨_,rfl,?_⟩
      refine ⟨_,op_ldo rfl rfl rfl rfl,?_⟩
      refine ⟨_,rfl,?_⟩
      refine ⟨_,op_ldo rfl rfl rfl rfl,?_⟩
      refine op_at 1 hR7.1 (by omega) rfl rfl rfl rfl rfl rfl rfl ?_
      intro x62 b62 d62 k62 hy62 hb62 hm62 hc62 ho62
      refine ⟨_,op_lda rfl rfl rfl rfl rfl hm62 hc62 rfl,?_⟩
      have hO7 : OwnR s7 6 cItm u5.p u5.x.items := hF7.1.items
      obtain ⟨a,ha⟩ := hO7.some (by omega)
      have hd62 : x62.e.data.size ≤ 9 := hsm.d _ (List.mem_of_getElem? hy62)
      refine ⟨_,op_idx (j := 0) (n := u5.x.items.length) (q := ⟨a,0,none⟩) rfl (congrArg (fun v => vS v u5.x.items.length) ha) rfl rfl rfl (Int.le_refl 0) (by omega),?_⟩
      refine op_put (st := s7) (f := cItm) (j := 0) (l := u5.x.items) (y := x62) (p := u5.p) (d := 0 + (0 : Int).toNat * 6) rfl rfl rfl rfl rfl len_cItm rfl rfl (by omega) hO7 ha ?_
      intro s64 hO64 hP64 hn64
      refine AW.cutM (2) s64 [(2,vL 2 0 (0)),(3,vL 3 0 (1))] [(2,0,[.slice none 0 0,.slice none 0 0]),(3,1,[vS u5.p u5.x.items.length,vS u5.q u5.x.floors.length])] ⟨rfl,rfl,trivial⟩ ⟨rfl,rfl,trivial⟩ rfl fun ρ0 ff => ?_
      refine ⟨_,op_ldo rfl rfl rfl rfl,?_⟩
      refine ⟨_,op_sto rfl rfl rfl rfl rfl rfl rfl,?_⟩
      refine cxs ?_
      have hF64 := hF7.setItems hP64 hO64
      exact ⟨.inl rfl,_,rfl,⟨u5.p,u5.q,⟨u5.x.items.set 0 x62,u5.x.floors⟩⟩,congrArg (fun n => Value.agg #[vS u5.p n,vS u5.q u5.x.floors.length]) List.length_set.symm,hsm.setI hd62,hF64.1,hC7.thenNew hc hF7.2.2.1 hP64 hNi⟩
   ·replace h36 : r7 = (2) := beq_iff_eq.1 h36
    refine AW.cutM (2) s7 [(0,vP c 0),(2,vL 2 0 (0)),(3,vL 3 0 (1)),(7,vI r7),(35,vB true)] [(2,0,[.slice none 0 0,.slice none 0 0]),(3,1,[vS u5.p u5.x.items.length,vS u5.q u5.x.floors.length])] ⟨rfl,rfl,rfl,rfl,rfl,trivial⟩ ⟨rfl,rfl,trivial⟩ rfl fun ρ0 ff => ?_
    refine ⟨_,rfl,?_⟩
    refine ⟨_,op_ldo rfl rfl rfl rfl,?_⟩
    iterate 2 refine ⟨_,rfl,?_⟩
    rintro (_|_) h40
    ·replace h40 : ¬ ((u5.x.items.length : Int) > (0)) := of_decide_eq_false h40
     refine AW.cutM (2) s7 [(0,vP c 0),(2,vL 2 0 (0)),(3,vL 3 0 (1)),(40,vB false)] [(2,0,[.slice none 0 0,.slice none 0 0]),(3,1,[vS u5.p u5.x.items.length,vS u5.q u5.x.floors.length])] ⟨rfl,rfl,rfl,rfl,trivial⟩ ⟨rfl,rfl,trivial⟩ rfl fun ρ0 ff => ?_
     refine cxs ?_
     refine ⟨_,op_ldo rfl rfl rfl rfl,?_⟩
     refine ⟨_,op_sto rfl rfl rfl rfl rfl rfl rfl,?_⟩
     refine cxs ?_
     exact ⟨.inl rfl,_,rfl,u5,rfl,hsm.le (by decide),hF7,hC7⟩
    ·replace h40 : (u5.x.items.length : Int) > (0) := of_decide_eq_true h40
     refine AW.cutM (2) s7 [(0,vP c 0),(2,vL 2 0 (0)),(3,vL 3 0 (1)),(40,vB true)] [(2,0,[.slice none 0 0,.slice none 0 0]),(3,1,[vS u5.p u5.x.items.length,vS u5.q u5.x.floors.length])] ⟨rfl,rfl,rfl,rfl,trivial⟩ ⟨rfl,rfl,trivial⟩ rfl fun ρ0 ff => ?_
     refine ⟨fun _ => False,?_⟩
     refine ⟨_,rfl,?_⟩
     refine ⟨_,op_ldo rfl rfl rfl rfl,?_⟩
     refine ⟨ld_own rfl rfl rfl,?_⟩
     refine ⟨_,rfl,?_⟩
     refine ⟨_,op_ldo rfl rfl rfl rfl,?_⟩
     refine ⟨_,rfl,?_⟩
     refine ⟨_,rfl,(ac_d_l1Below c (u5.x.items.length : Int) s7 hC7 (by first | assumption | omega)).mono ?_⟩
     rintro _ s47 ⟨r47,rfl,h47,h47',h47'',hC47,hL47⟩
     refine ⟨fun _ h => h.elim,?_⟩
     refine ⟨_,rfl,(ac_d_l2Draw c s47 hC47 (by first | assumption | omega)).mono ?_⟩
     rintro _ s49 ⟨e49,rfl,h49,hC49,hL49⟩
     refine ⟨fun _ h => h.elim,?_⟩
     have hF49 := (hF7.later hL47).later hL49
     have hO49 : OwnR s49 6 cItm u5.p u5.x.items := hF49.1.items
     have h47l := h47' (by omega)
     obtain ⟨a,ha⟩ := hO49.some (by omega)
     obtain ⟨w,hw⟩ : ∃ w,u5.x.items[r47.toNat]? = some w := ⟨_,List.getElem?_eq_getElem (by omega)⟩
     refine ⟨_,op_idx (j := r47) (n := u5.x.items.length) (q := ⟨a,0,none⟩) rfl (congrArg (fun v => vS v u5.x.items.length) ha) rfl rfl rfl h47 (by omega),?_⟩
     refine ⟨_,rfl,?_⟩
     refine op_putw (st := s49) (f := cItm) (z := 6) (i := 1) (j := r47.toNat) (l := u5.x.items) (w := w) (y := (⟨w.id,e49⟩ : Itm)) (ws := cEnt e49) (p := u5.p) (d := 0 + r47.toNat * 6 + 1) rfl rfl (congrArg (· + 1) (Nat.zero_add _)) rfl rfl len_cItm rfl rfl hw ⟨[vI w.id],cEnt w.e,[],rfl,rfl,rfl,rfl⟩ hO49 ha ?_
     intro s51 hO51 hP51 hn51
     refine AW.cutM (2) s51 [(2,vL 2 0 (0)),(3,vL 3 0 (1))] [(2,0,[.slice none 0 0,.slice none 0 0]),(3,1,[vS u5.p u5.x.items.length,vS u5.q u5.x.floors.length])] ⟨rfl,rfl,trivial⟩ ⟨rfl,rfl,trivial⟩ rfl fun ρ0 ff => ?_
     refine ⟨_,op_ldo rfl rfl rfl rfl,?_⟩
     refine ⟨_,op_sto rfl rfl rfl rfl rfl rfl rfl,?_⟩
     refine cxs ?_
     have hF51 := hF49.setItems hP51 hO51
     exact ⟨.inl rfl,_,rfl,⟨u5.p,u5.q,⟨u5.x.items.set r47.toNat ⟨w.id,e49⟩,u5.x.floors⟩⟩,congrArg (fun n => Value.agg #[vS u5.p n,vS u5.q u5.x.floors.length]) List.length_set.symm,hsm.setI h49,hF51.1,hC49.thenNew hc hF49.2.2.1 hP51 hNi⟩
  ·replace h22 : r7 = (1) := beq_iff_eq.1 h22
   refine AW.cutM (2) s7 [(0,vP c 0),(2,vL 2 0 (0)),(3,vL 3 0 (1)),(7,vI r7),(21,vB true)] [(2,0,[.slice none 0 0,.slice none 0 0]),(3,1,[vS u5.p u5.x.items.length,vS u5.q u5.x.floors.length])] ⟨rfl,rfl,rfl,rfl,rfl,trivial⟩ ⟨rfl,rfl,trivial⟩ rfl fun ρ0 ff => ?_
   refine ⟨fun _ => False,?_⟩
   refine ⟨_,rfl,?_⟩
   refine ⟨_,op_ldo rfl rfl rfl rfl,?_⟩
   refine ⟨ld_own rfl rfl rfl,?_⟩
   refine ⟨_,rfl,(ac_d_l1Below c 7 s7 hC7 (by first | assumption | omega)).mono ?_⟩
   rintro _ s26 ⟨r26,rfl,h26,h26',h26'',hC26,hL26⟩
   refine ⟨fun _ h => h.elim,?_⟩
   have ew27 : IntKind.wrap .i64 (r26 - (1)) = r26 - (1) := wrap_i64 (by omega) (by omega)
   refine ⟨_,rfl,?_⟩
   refine op_litI (k := .i64) (l := [0,1,5,1001]) rfl rfl rfl rfl rfl rfl (Nat.le_of_ble_eq_true rfl) ?_
   intro q29 s29 hO29 hP29 hN29
   refine ⟨fun _ h => h.elim,?_⟩
   refine ⟨_,rfl,(ac_d_l1PickInt c q29 ([0,1,5,1001]) s29 (hC26.pres hP29) (by first | assumption | omega) (by first | assumption | omega | decide) (by first | assumption | omega) (by first | assumption | exact NC.new (by assumption) (Cur.lt (by assumption)))).mono ?_⟩
   rintro _ s30 ⟨r30,rfl,h30,hC30,hL30⟩
   refine ⟨fun _ h => h.elim,?_⟩
   refine ⟨_,rfl,?_⟩
   refine op_one (z := 2) (a := ((⟨IntKind.wrap .i64 (r26 - 1),r30⟩ : Flr) : Flr)) (f := cFlr) rfl rfl rfl rfl rfl (by decide) rfl (Nat.le_of_ble_eq_true rfl) rfl rfl rfl ?_
   refine ⟨fun _ h => h.elim,?_⟩
   have hF30 := ((hF7.later hL26).step hP29).later hL30
   have hO30 : OwnR s30 2 cFlr u5.q u5.x.floors := hF30.1.floors
   have hfl : u5.x.floors.length ≤ 5 := hsm.f
   refine op_snoc (z := 2) (st := s30) (f := cFlr) (b := 16) (l := u5.x.floors) (x := (⟨IntKind.wrap .i64 (r26 - 1),r30⟩ : Flr)) rfl rfl rfl rfl rfl rfl rfl (by decide) len_cFlr rfl rfl rfl (by omega) (by unfold maxLen; omega) hO30 ?_
   intro q33 s33 hO33 hP33 hN33
   refine ⟨_,rfl,?_⟩
   refine ⟨_,op_sto rfl rfl rfl rfl rfl rfl rfl,?_⟩
   refine AW.cutM (2) s33 [(2,vL 2 0 (0)),(3,vL 3 0 (1))] [(2,0,[.slice none 0 0,.slice none 0 0]),(3,1,[vS u5.p u5.x.items.length,vS q33 (u5.x.floors ++ [(⟨IntKind.wrap .i64 (r26 - 1),r30⟩ : Flr)]).length])] ⟨rfl,rfl,trivial⟩ ⟨rfl,rfl,trivial⟩ rfl fun ρ0 ff => ?_
   refine ⟨_,op_ldo rfl rfl rfl rfl,?_⟩
   refine ⟨_,op_sto rfl rfl rfl rfl rfl rfl rfl,?_⟩
   refine cxs ?_
   have hF33 := hF30.floors hP33 hO33 hN33
   exact ⟨.inl rfl,_,rfl,_,rfl,hsm.snocF,hF33.1,hC30.thenNew hc hF30.2.2.1 hP33 hNf⟩
 ·replace h9 : r7 = (0) := beq_iff_eq.1 h9
  refine AW.cutM (2) s7 [(0,vP c 0),(2,vL 2 0 (0)),(3,vL 3 0 (1)),(7,vI r7),(8,vB true)] [(2,0,[.slice none 0 0,.slice none 0 0]),(3,1,[vS u5.p u5.x.items.length,vS u5.q u5.x.floors.length])] ⟨rfl,rfl,rfl,rfl,rfl,trivial⟩ ⟨rfl,rfl,trivial⟩ rfl fun ρ0 ff => ?_
  refine ⟨fun _ => False,?_⟩
  refine ⟨_,rfl,?_⟩
  refine ⟨_,op_ldo rfl rfl rfl rfl,?_⟩
  refine ⟨ld_own rfl rfl rfl,?_⟩
  refine ⟨_,rfl,(ac_d_l1Below c 7 s7 hC7 (by first | assumption | omega)).mono ?_⟩
  rintro _ s13 ⟨r13,rfl,h13,h13',h13'',hC13,hL13⟩
  refine ⟨fun _ h => h.elim,?_⟩
  have ew14 : IntKind.wrap .i64 (r13 - (1)) = r13 - (1) := wrap_i64 (by omega) (by omega)
  refine ⟨_,rfl,?_⟩
  refine ⟨_,rfl,(ac_d_l2Draw c s13 hC13 (by first | assumption | omega)).mono ?_⟩
  rintro _ s16 ⟨e16,rfl,h16,hC16,hL16⟩
  refine ⟨fun _ h => h.elim,?_⟩
  refine ⟨_,rfl,?_⟩
  refine op_one (z := 6) (a := ((⟨IntKind.wrap .i64 (r13 - 1),e16⟩ : Itm) : Itm)) (f := cItm) rfl rfl rfl rfl rfl (by decide) rfl (Nat.le_of_ble_eq_true rfl) rfl rfl rfl ?_
  refine ⟨fun _ h => h.elim,?_⟩
  have hF16 := (hF7.later hL13).later hL16
  have hO16 : OwnR s16 6 cItm u5.p u5.x.items := hF16.1.items
  have hil : u5.x.items.length ≤ 5 := hsm.i
  refine op_snoc (z := 6) (st := s16) (f := cItm) (b := 56) (l := u5.x.items) (x := (⟨IntKind.wrap .i64 (r13 - 1),e16⟩ : Itm)) rfl rfl rfl rfl rfl rfl rfl (by decide) len_cItm rfl rfl rfl (by omega) (by unfold maxLen; omega) hO16 ?_
  intro q19 s19 hO19 hP19 hN19
  refine ⟨_,rfl,?_⟩
  refine ⟨_,op_sto rfl rfl rfl rfl rfl rfl rfl,?_⟩
  refine AW.cutM (2) s19 [(2,vL 2 0 (0)),(3,vL 3 0 (1))] [(2,0,[.slice none 0 0,.slice none 0 0]),(3,1,[vS q19 (u5.x.items ++ [(⟨IntKind.wrap .i64 (r13 - 1),e16⟩ : Itm)]).length,vS u5.q u5.x.floors.length])] ⟨rfl,rfl,trivial⟩ ⟨rfl,rfl,trivial⟩ rfl fun ρ0 ff => ?_
  refine ⟨_,op_ldo rfl rfl rfl rfl,?_⟩
  refine ⟨_,op_sto rfl rfl rfl rfl rfl rfl rfl,?_⟩
  refine cxs ?_
  have hF19 := hF16.items hP19 hO19 hN19
  exact ⟨.inl rfl,_,rfl,_,rfl,hsm.snocI h16,hF19.1,hC16.thenNew hc hF16.2.2.1 hP19 hNi⟩
open Classical in
noncomputable def logSeq (g : Lg) : Int := if logOk g then g.frm + (g.list.length : Int) else 0
theorem ac_impl_LogSeq (g : LV) (st : St) (hR : RdL st g.p g.l) (hb : bigL g.l) : C 32 [.agg #[vI g.cap,vI g.frm,vS g.p g.l.length]] st (fun v s => v = vI (logSeq g.x) ∧ s = st) := by
 refine AC.enterX (i := ⟨[1],[1,6,8],[0,1,2,5],[]⟩) [] Try.func32 rfl rfl (by kernel_rfl) (by kernel_rfl) Try.ntmps32 (Nat.le_of_ble_eq_true rfl) rfl ?_
 refine ⟨_,rfl,?_⟩
 refine AW.cutM (1) st [(1,vL 1 0 (0)),(2,vI (0))] [(1,0,[vI g.cap,vI g.frm,vS g.p g.l.length])] ⟨rfl,rfl,trivial⟩ ⟨rfl,trivial⟩ rfl fun ρ0 ff => ?_
 refine ⟨_,rfl,?_⟩
 refine ⟨_,rfl,(ac_impl_LogOk g st hR hb).mono ?_⟩
 rintro _ st ⟨a,rfl,hk,rfl⟩
 rcases a with _|_
 ·replace hk := fun k => Bool.false_ne_true (hk.2 k)
  refine ⟨_,rfl,?_⟩
  refine AW.cutM (1) st [(1,vL 1 0 (0)),(2,vI (0)),(5,vB true)] [(1,0,[vI g.cap,vI g.frm,vS g.p g.l.length])] ⟨rfl,rfl,rfl,trivial⟩ ⟨rfl,trivial⟩ rfl fun ρ0 ff => ?_
  refine cxs ?_
  exact ⟨.inl rfl,_,rfl,congrArg vI (by rw [logSeq,if_neg hk]),rfl⟩
 ·replace hk := hk.1 rfl
  refine ⟨_,rfl,?_⟩
  refine AW.cutM (1) st [(1,vL 1 0 (0)),(2,vI (0)),(5,vB false)] [(1,0,[vI g.cap,vI g.frm,vS g.p g.l.length])] ⟨rfl,rfl,rfl,trivial⟩ ⟨rfl,trivial⟩ rfl fun ρ0 ff => ?_
  refine cxs ?_
  iterate 5 refine ⟨_,rfl,?_⟩
  have hgl : g.x.list.length = g.l.length := List.length_map _
  have hk2 : (g.l.length : Int) ≤ g.cap := by have h := hk.2.1; rw [hgl] at h; exact h
  have hk3 : 0 ≤ g.frm ∧ g.frm ≤ 100000 := hk.2.2.1
  have hk4 : 1 ≤ g.cap ∧ g.cap ≤ 8 := hk.1
  have e11 : IntKind.wrap .i64 (g.frm + (g.l.length : Int)) = g.frm + (g.l.length : Int) := wrap_i64 (by omega) (by omega)
  refine ⟨_,rfl,?_⟩
  refine cxs ?_
  exact ⟨.inl rfl,_,rfl,(show vI (IntKind.wrap .i64 (g.frm + (g.l.length : Int))) = _ by rw [e11,logSeq,if_pos hk,hgl]),rfl⟩
theorem pcL_nil {st : St} : OwnP st (pcL none []) := OwnP.one (.inl ⟨rfl,rfl⟩)
theorem newL_nil {n : Nat} : NewP n (pcL none []) := NewP.cons New.none NewP.nil
theorem pcL_snoc {st s1 s2 : St} {q q2 : Option Addr} {l : List SV} {u : SV} (h : OwnP st (pcL q l)) (hp : Pres st s1) (hu : OwnP s1 (pcS u)) (hn : NewP st.next (pcS u)) (hP : Pr q s1 s2) (ho : OwnR s2 2 cSV q2 (l ++ [u])) (hn2 : New s1.next q2) : OwnP s2 (pcL q2 (l ++ [u])) := by
 have h1 : OwnP s1 (pcR 2 cSV q l :: (l.flatMap pcS ++ pcS u)) := h.join hp hu hn
 have h2 : OwnP s2 (pcR 2 cSV q2 (l ++ [u]) :: (l.flatMap pcS ++ pcS u)) := OwnP.renew (l := []) h1 hP (own_pc ho) hn2
 show OwnP s2 (pcR 2 cSV q2 (l ++ [u]) :: (l ++ [u]).flatMap pcS)
 rw [List.flatMap_append,List.flatMap_singleton]
 exact h2
theorem newL_snoc {n : Nat} {q q2 : Option Addr} {l : List SV} {u : SV} (h : NewP n (pcL q l)) (hn : NewP n (pcS u)) (hn2 : New n q2) : NewP n (pcL q2 (l ++ [u])) := by
 show NewP n (pcR 2 cSV q2 (l ++ [u]) :: (l ++ [u]).flatMap pcS)
 rw [List.flatMap_append,List.flatMap_singleton]
 exact NewP.cons hn2 (NewP.app (fun c hc => h c (List.mem_cons_of_mem _ hc)) hn)
theorem newL_p {n : Nat} {q : Option Addr} {l : List SV} (h : NewP n (pcL q l)) : New n q := h _ (List.mem_cons_self ..)
theorem ac_impl_copyLog (g : LV) (st : St) (hR : RdL st g.p g.l) (hb : bigL g.l) : C 86 [.agg #[vI g.cap,vI g.frm,vS g.p g.l.length]] st (fun v s => ∃ u : LV,v = .agg #[vI u.cap,vI u.frm,vS u.p u.l.length] ∧ u.x = g.x ∧ OwnP s (pcL u.p u.l) ∧ NewP st.next (pcL u.p u.l) ∧ Pres st s) := by
 have hs : g.l.length ≤ 1048576 := hb.1
 refine AC.enterX (i := ⟨[1,2,3,5],[1,2,3,5,6,8,11,18,24],[0,1,2,3,5,12,13,14,15],[]⟩) [(5,[3,4],[1])] Try.func86 rfl rfl (by kernel_rfl) (by kernel_rfl) Try.ntmps86 (Nat.le_of_ble_eq_true rfl) rfl ?_
 iterate 2 refine ⟨_,rfl,?_⟩
 refine AW.cutM (2) st [(1,vL 1 0 (0)),(2,vL 2 0 (1))] [(1,0,[vI g.cap,vI g.frm,vS g.p g.l.length]),(2,1,[vI 0,vI 0,.slice none 0 0])] ⟨rfl,rfl,trivial⟩ ⟨rfl,rfl,trivial⟩ rfl fun ρ0 ff => ?_
 refine ⟨_,rfl,?_⟩
 refine ⟨_,op_ldo rfl rfl rfl rfl,?_⟩
 refine ⟨_,rfl,?_⟩
 refine ⟨_,op_ldo rfl rfl rfl rfl,?_⟩
 iterate 2 refine ⟨_,rfl,?_⟩
 refine ⟨_,op_sto rfl rfl rfl rfl rfl rfl rfl,?_⟩
 refine AW.cutM (3) st [(1,vL 1 0 (0)),(2,vL 2 0 (1)),(3,vL 3 0 (2))] [(1,0,[vI g.cap,vI g.frm,vS g.p g.l.length]),(2,1,[vI 0,vI 0,.slice none 0 0]),(3,2,[vI g.cap,vI g.frm,.slice none 0 0])] ⟨rfl,rfl,rfl,trivial⟩ ⟨rfl,rfl,rfl,trivial⟩ rfl fun ρ0 ff => ?_
 refine ⟨_,rfl,?_⟩
 refine ⟨_,op_ldo rfl rfl rfl rfl,?_⟩
 refine ⟨_,rfl,?_⟩
 refine AW.cutM (3) st [(2,vL 2 0 (1)),(3,vL 3 0 (2)),(12,vS g.p g.l.length),(13,vI (g.l.length : Int)),(14,vI (0))] [(2,1,[vI 0,vI 0,.slice none 0 0]),(3,2,[vI g.cap,vI g.frm,.slice none 0 0])] ⟨rfl,rfl,rfl,rfl,rfl,trivial⟩ ⟨rfl,rfl,trivial⟩ rfl fun ρ0 ff => ?_
 refine AW.loopM (fun x : Nat × Option Addr × List SV => [(2,vL 2 0 (1)),(3,vL 3 0 (2)),(12,vS g.p g.l.length),(13,vI (g.l.length : Int)),(14,vI (x.1 : Int))]) (fun x : Nat × Option Addr × List SV => [(2,1,[vI 0,vI 0,.slice none 0 0]),(3,2,[vI g.cap,vI g.frm,vS x.2.1 x.2.2.length])]) (fun m (x : Nat × Option Addr × List SV) st' => m = g.l.length - x.1 ∧ x.1 ≤ g.l.length ∧ x.2.2.map (·.x) = (g.l.take x.1).map (·.x) ∧ OwnP st' (pcL x.2.1 x.2.2) ∧ NewP st.next (pcL x.2.1 x.2.2) ∧ Pres st st') (0,none,[]) _ ⟨rfl,rfl,rfl,rfl,rfl,trivial⟩ ⟨rfl,rfl,trivial⟩ ⟨rfl,Nat.zero_le _,rfl,pcL_nil,newL_nil,Pres.refl _⟩ ?_
 rintro m ⟨i,q,l⟩ ρ0 ff gg st' ⟨rfl,hi,hl,hO,hN,hP⟩
 simp only at hi hl hO hN
 have hll : l.length = i := by have := congrArg List.length hl; simp at this; omega
 refine ⟨_,rfl,?_⟩
 rintro (_|_) h15
 ·replace h15 : ¬ ((i : Int) < (g.l.length : Int)) := of_decide_eq_false h15
  refine AW.cutM (gg) st' [(2,vL 2 0 (1)),(3,vL 3 0 (2)),(12,vS g.p g.l.length),(13,vI (g.l.length : Int)),(14,vI (i : Int)),(15,vB false)] [(2,1,[vI 0,vI 0,.slice none 0 0]),(3,2,[vI g.cap,vI g.frm,vS q l.length])] ⟨rfl,rfl,rfl,rfl,rfl,rfl,trivial⟩ ⟨rfl,rfl,trivial⟩ rfl fun ρ0 ff => ?_
  refine cxs ?_
  refine ⟨_,op_ldo rfl rfl rfl rfl,?_⟩
  refine ⟨_,op_sto rfl rfl rfl rfl rfl rfl rfl,?_⟩
  refine cxs ?_
  have hil : i = g.l.length := by omega
  exact ⟨.inl rfl,_,rfl,⟨g.cap,g.frm,q,l⟩,rfl,by simp only [LV.x,hl,hil,List.take_length],hO,hN,hP⟩
 ·replace h15 : (i : Int) < (g.l.length : Int) := of_decide_eq_true h15
  refine AW.cutM (gg) st' [(2,vL 2 0 (1)),(3,vL 3 0 (2)),(12,vS g.p g.l.length),(13,vI (g.l.length : Int)),(14,vI (i : Int)),(15,vB true)] [(2,1,[vI 0,vI 0,.slice none 0 0]),(3,2,[vI g.cap,vI g.frm,vS q l.length])] ⟨rfl,rfl,rfl,rfl,rfl,rfl,trivial⟩ ⟨rfl,rfl,trivial⟩ rfl fun ρ0 ff => ?_
  refine cxs ?_
  refine op_at i (hP.rows hR.1) (by omega) rfl rfl rfl rfl rfl rfl rfl ?_
  intro x16 b16 d16 k16 hy16 hb16 hm16 hc16 ho16
  refine ⟨_,op_lda rfl rfl rfl rfl rfl hm16 hc16 rfl,?_⟩
  refine ⟨_,rfl,?_⟩
  refine ⟨_,op_sto rfl rfl rfl rfl rfl rfl rfl,?_⟩
  refine AW.cutM (gg + 1) st' [(2,vL 2 0 (1)),(3,vL 3 0 (2)),(5,vL 5 0 (gg)),(12,vS g.p g.l.length),(13,vI (g.l.length : Int)),(14,vI (i : Int)),(15,vB true)] [(2,1,[vI 0,vI 0,.slice none 0 0]),(3,2,[vI g.cap,vI g.frm,vS q l.length]),(5,gg,[vS x16.p x16.x.items.length,vS x16.q x16.x.floors.length])] ⟨rfl,rfl,rfl,rfl,rfl,rfl,rfl,trivial⟩ ⟨rfl,rfl,rfl,trivial⟩ rfl fun ρ0 ff => ?_
  refine ⟨_,rfl,?_⟩
  refine ⟨_,op_ldo rfl rfl rfl rfl,?_⟩
  refine ⟨ld_own rfl rfl rfl,?_⟩
  refine ⟨_,op_ldo rfl rfl rfl rfl,?_⟩
  refine ⟨_,rfl,(ac_impl_copyState x16 st' ((hR.2 x16 (List.mem_of_getElem? hy16)).pres hP) (hb.2 x16 (List.mem_of_getElem? hy16))).mono ?_⟩
  rintro _ s21 ⟨u21,rfl,h21,hO21,hN21,hP21⟩
  refine ⟨hP21.2,?_⟩
  refine op_one (z := 2) (a := (u21 : SV)) (f := cSV) rfl rfl rfl rfl rfl (by decide) rfl (Nat.le_of_ble_eq_true rfl) rfl rfl rfl ?_
  refine ⟨Pres.push.low hP21,?_⟩
  refine op_add (z := 2) (st := s21) (f := cSV) (b := 48) (l := l) rfl rfl rfl rfl rfl rfl rfl (by decide) len_cSV rfl rfl rfl (by omega) (by unfold maxLen; omega) ((hO.pres hP21).louter) ?_
  intro q23 s23 hO23 hP23 hN23
  refine ⟨_,rfl,?_⟩
  refine ⟨_,op_sto rfl rfl rfl rfl rfl rfl rfl,?_⟩
  refine AW.cutM (gg + 1) s23 [(2,vL 2 0 (1)),(3,vL 3 0 (2)),(5,vL 5 0 (gg)),(12,vS g.p g.l.length),(13,vI (g.l.length : Int)),(14,vI (i : Int)),(15,vB true)] [(2,1,[vI 0,vI 0,.slice none 0 0]),(3,2,[vI g.cap,vI g.frm,vS q23 (l.length + 1)]),(5,gg,[vS x16.p x16.x.items.length,vS x16.q x16.x.floors.length])] ⟨rfl,rfl,rfl,rfl,rfl,rfl,rfl,trivial⟩ ⟨rfl,rfl,rfl,trivial⟩ rfl fun ρ0 ff => ?_
  have hO5 := pcL_snoc hO hP21 hO21 hN21 hP23 hO23 hN23
  have hN5 := newL_snoc hN (hN21.le hP.1) (hN23.le (hP.trans hP21).1)
  have hP5 := hP23.pres (hP.trans hP21) (newL_p hN)
  have hl5 : (l ++ [u21]).map (·.x) = (g.l.take (i + 1)).map (·.x) := by rw [(split_at' hy16).2.1,List.map_append,List.map_append,hl]; simp [h21]
  have ew25 : IntKind.wrap .i64 ((i : Int) + (1)) = ((i + 1 : Nat) : Int) := (wrap_i64 (by omega) (by omega)).trans (by omega)
  refine ⟨_,rfl,?_⟩
  exact ⟨(i + 1,q23,l ++ [u21]),g.l.length - (i + 1),by omega,⟨rfl,rfl,rfl,rfl,congrArg (Value.int .i64) ew25,trivial⟩,⟨rfl,(show some (2,[vI g.cap,vI g.frm,vS q23 (l.length + 1)]) = _ by rw [List.length_append]; rfl),trivial⟩,rfl,by omega,hl5,hO5,hN5,hP5⟩
theorem ac_spec_l7Copy (g : LV) (st : St) (hR : RdL st g.p g.l) (hb : bigL g.l) : C 88 [.agg #[vI g.cap,vI g.frm,vS g.p g.l.length]] st (fun v s => ∃ u : LV,v = .agg #[vI u.cap,vI u.frm,vS u.p u.l.length] ∧ u.x = g.x ∧ OwnP s (pcL u.p u.l) ∧ NewP st.next (pcL u.p u.l) ∧ Pres st s) := by
 have hs : g.l.length ≤ 1048576 := hb.1
 refine AC.enterX (i := ⟨[1,2,3],[1,2,3,5,7,11,17,19,27],[0,1,2,3,4,14],[]⟩) [(5,[7,8],[1])] Try.func88 rfl rfl (by kernel_rfl) (by kernel_rfl) Try.ntmps88 (Nat.le_of_ble_eq_true rfl) rfl ?_
 iterate 2 refine ⟨_,rfl,?_⟩
 refine AW.cutM (2) st [(1,vL 1 0 (0)),(2,vL 2 0 (1))] [(1,0,[vI g.cap,vI g.frm,vS g.p g.l.length]),(2,1,[vI 0,vI 0,.slice none 0 0])] ⟨rfl,rfl,trivial⟩ ⟨rfl,rfl,trivial⟩ rfl fun ρ0 ff => ?_
 refine ⟨_,rfl,?_⟩
 refine ⟨_,op_ldo rfl rfl rfl rfl,?_⟩
 refine ⟨_,rfl,?_⟩
 refine ⟨_,op_ldo rfl rfl rfl rfl,?_⟩
 iterate 2 refine ⟨_,rfl,?_⟩
 refine ⟨_,op_sto rfl rfl rfl rfl rfl rfl rfl,?_⟩
 refine cxs ?_
 refine AW.cutM (3) st [(1,vL 1 0 (0)),(2,vL 2 0 (1)),(3,vL 3 0 (2)),(4,vI (0))] [(1,0,[vI g.cap,vI g.frm,vS g.p g.l.length]),(2,1,[vI 0,vI 0,.slice none 0 0]),(3,2,[vI g.cap,vI g.frm,.slice none 0 0])] ⟨rfl,rfl,rfl,rfl,trivial⟩ ⟨rfl,rfl,rfl,trivial⟩ rfl fun ρ0 ff => ?_
 refine AW.loopM (fun x : Nat × Option Addr × List SV => [(1,vL 1 0 (0)),(2,vL 2 0 (1)),(3,vL 3 0 (2)),(4,vI (x.1 : Int))]) (fun x : Nat × Option Addr × List SV => [(1,0,[vI g.cap,vI g.frm,vS g.p g.l.length]),(2,1,[vI 0,vI 0,.slice none 0 0]),(3,2,[vI g.cap,vI g.frm,vS x.2.1 x.2.2.length])]) (fun m (x : Nat × Option Addr × List SV) st' => m = g.l.length - x.1 ∧ x.1 ≤ g.l.length ∧ x.2.2.map (·.x) = (g.l.take x.1).map (·.x) ∧ OwnP st' (pcL x.2.1 x.2.2) ∧ NewP st.next (pcL x.2.1 x.2.2) ∧ Pres st st') (0,none,[]) _ ⟨rfl,rfl,rfl,rfl,trivial⟩ ⟨rfl,rfl,rfl,trivial⟩ ⟨rfl,Nat.zero_le _,rfl,pcL_nil,newL_nil,Pres.refl _⟩ ?_
 rintro m ⟨i,q,l⟩ ρ0 ff gg st' ⟨rfl,hi,hl,hO,hN,hP⟩
 simp only at hi hl hO hN
 have hll : l.length = i := by have := congrArg List.length hl; simp at this; omega
 refine ⟨_,rfl,?_⟩
 refine ⟨_,op_ldo rfl rfl rfl rfl,?_⟩
 iterate 2 refine ⟨_,rfl,?_⟩
 rintro (_|_) h14
 ·replace h14 : ¬ ((i : Int) < (g.l.length : Int)) := of_decide_eq_false h14
  refine AW.cutM (gg) st' [(1,vL 1 0 (0)),(2,vL 2 0 (1)),(3,vL 3 0 (2)),(4,vI (i : Int)),(14,vB false)] [(1,0,[vI g.cap,vI g.frm,vS g.p g.l.length]),(2,1,[vI 0,vI 0,.slice none 0 0]),(3,2,[vI g.cap,vI g.frm,vS q l.length])] ⟨rfl,rfl,rfl,rfl,rfl,trivial⟩ ⟨rfl,rfl,rfl,trivial⟩ rfl fun ρ0 ff => ?_
  refine cxs ?_
  refine ⟨_,op_ldo rfl rfl rfl rfl,?_⟩
  refine ⟨_,op_sto rfl rfl rfl rfl rfl rfl rfl,?_⟩
  refine cxs ?_
  have hil : i = g.l.length := by omega
  exact ⟨.inl rfl,_,rfl,⟨g.cap,g.frm,q,l⟩,rfl,by simp only [LV.x,hl,hil,List.take_length],hO,hN,hP⟩
 ·replace h14 : (i : Int) < (g.l.length : Int) := of_decide_eq_true h14
  refine AW.cutM (gg) st' [(1,vL 1 0 (0)),(2,vL 2 0 (1)),(3,vL 3 0 (2)),(4,vI (i : Int)),(14,vB true)] [(1,0,[vI g.cap,vI g.frm,vS g.p g.l.length]),(2,1,[vI 0,vI 0,.slice none 0 0]),(3,2,[vI g.cap,vI g.frm,vS q l.length])] ⟨rfl,rfl,rfl,rfl,rfl,trivial⟩ ⟨rfl,rfl,rfl,trivial⟩ rfl fun ρ0 ff => ?_
  refine cxs ?_
  refine ⟨_,rfl,?_⟩
  refine ⟨_,op_ldo rfl rfl rfl rfl,?_⟩
  refine ⟨ld_own rfl rfl rfl,?_⟩
  refine ⟨_,rfl,?_⟩
  refine ⟨_,op_ldo rfl rfl rfl rfl,?_⟩
  refine op_at i (hP.rows hR.1) (by omega) rfl rfl rfl rfl rfl rfl rfl ?_
  intro x22 b22 d22 k22 hy22 hb22 hm22 hc22 ho22
  refine ⟨_,op_lda rfl rfl rfl rfl rfl hm22 hc22 rfl,?_⟩
  refine ⟨_,rfl,(ac_spec_l3Copy x22 st' ((hR.2 x22 (List.mem_of_getElem? hy22)).pres hP) (hb.2 x22 (List.mem_of_getElem? hy22))).mono ?_⟩
  rintro _ s24 ⟨u24,rfl,h24,hO24,hN24,hP24⟩
  refine ⟨hP24.2,?_⟩
  refine op_one (z := 2) (a := (u24 : SV)) (f := cSV) rfl rfl rfl rfl rfl (by decide) rfl (Nat.le_of_ble_eq_true rfl) rfl rfl rfl ?_
  refine ⟨Pres.push.low hP24,?_⟩
  refine op_add (z := 2) (st := s24) (f := cSV) (b := 48) (l := l) rfl rfl rfl rfl rfl rfl rfl (by decide) len_cSV rfl rfl rfl (by omega) (by unfold maxLen; omega) ((hO.pres hP24).louter) ?_
  intro q26 s26 hO26 hP26 hN26
  refine ⟨_,rfl,?_⟩
  refine ⟨_,op_sto rfl rfl rfl rfl rfl rfl rfl,?_⟩
  refine AW.cutM (gg) s26 [(1,vL 1 0 (0)),(2,vL 2 0 (1)),(3,vL 3 0 (2)),(4,vI (i : Int)),(14,vB true)] [(1,0,[vI g.cap,vI g.frm,vS g.p g.l.length]),(2,1,[vI 0,vI 0,.slice none 0 0]),(3,2,[vI g.cap,vI g.frm,vS q26 (l.length + 1)])] ⟨rfl,rfl,rfl,rfl,rfl,trivial⟩ ⟨rfl,rfl,rfl,trivial⟩ rfl fun ρ0 ff => ?_
  have hO5 := pcL_snoc hO hP24 hO24 hN24 hP26 hO26 hN26
  have hN5 := newL_snoc hN (hN24.le hP.1) (hN26.le (hP.trans hP24).1)
  have hP5 := hP26.pres (hP.trans hP24) (newL_p hN)
  have hl5 : (l ++ [u24]).map (·.x) = (g.l.take (i + 1)).map (·.x) := by rw [(split_at' hy22).2.1,List.map_append,List.map_append,hl]; simp [h24]
  have ew16 : IntKind.wrap .i64 ((i : Int) + (1)) = ((i + 1 : Nat) : Int) := (wrap_i64 (by omega) (by omega)).trans (by omega)
  refine ⟨_,rfl,?_⟩
  exact ⟨(i + 1,q26,l ++ [u24]),g.l.length - (i + 1),by omega,⟨rfl,rfl,rfl,congrArg (Value.int .i64) ew16,trivial⟩,⟨rfl,rfl,(show some (2,[vI g.cap,vI g.frm,vS q26 (l.length + 1)]) = _ by rw [List.length_append]; rfl),trivial⟩,rfl,by omega,hl5,hO5,hN5,hP5⟩
theorem lw_drop {st : St} {q : Option Addr} {l : List SV} (h : OwnP st (pcL q l)) (cap frm : Int) (j : Nat) : ∃ w : LW,w.v = ⟨cap,frm,shO q 2 j,l.drop j⟩ ∧ OwnP st (pcLog w) ∧ ∀ n,NewP n (pcL q l) → NewP n (pcLog w) := by
 have hsub : ((pcR 2 cSV q l) :: (l.drop j).flatMap pcS).Sublist (pcL q l) := by
  refine List.Sublist.cons_cons _ ?_
  have : l.flatMap pcS = (l.take j).flatMap pcS ++ (l.drop j).flatMap pcS := by rw [← List.flatMap_append,List.take_append_drop]
  rw [this]; exact List.sublist_append_right _ _
 refine ⟨⟨cap,frm,shO q 2 j,l.drop j,pcR 2 cSV q l,?_⟩,rfl,h.sub hsub,fun n hn c hc => hn c (hsub.subset hc)⟩
 rcases h.louter with ⟨_,h2⟩ | ⟨a,h1,_⟩
 ·exact .inl (by rw [h2]; exact List.drop_nil)
 ·refine .inr ⟨a,0 + j * 2,h1,by rw [h1]; rfl,fun i x hx => ?_⟩
  rw [List.getElem?_drop] at hx
  have := flat_at (l := l) len_cSV hx
  rw [Nat.zero_add,← Nat.add_mul]
  exact this
theorem lw_all {st : St} {q : Option Addr} {l : List SV} (h : OwnP st (pcL q l)) (cap frm : Int) : ∃ w : LW,w.v = ⟨cap,frm,q,l⟩ ∧ OwnP st (pcLog w) ∧ ∀ n,NewP n (pcL q l) → NewP n (pcLog w) := by
 obtain ⟨w,h1,h2,h3⟩ := OwnP.lw (u := ⟨cap,frm,q,l⟩) h
 refine ⟨w,h1,h2,fun n hn => ?_⟩
 have hw : w.l = l := congrArg LV.l h1
 show NewP n (w.C :: w.l.flatMap pcS)
 rw [h3,hw]; exact hn
open Classical in
noncomputable def dropL (g : Lg) (n : Int) : Lg := if logOk g ∧ g.frm ≤ n ∧ n ≤ g.frm + (g.list.length : Int) then ⟨g.cap,n,g.list.drop (n - g.frm).toNat⟩ else g
theorem lw_val {w : LW} {u : LV} (h : w.v = u) : (.agg #[vI u.cap,vI u.frm,vS u.p u.l.length] : Value) = .agg #[vI w.cap,vI w.frm,vS w.p w.l.length] := by subst h; rfl
theorem sub_flat {m l : List SV} (h : m.Sublist l) : (m.flatMap pcS).Sublist (l.flatMap pcS) := by
 induction h with
 | slnil => exact List.Sublist.refl _
 | cons a _ ih => rw [List.flatMap_cons]; exact ih.trans (List.sublist_append_right _ _)
 | cons_cons a _ ih => rw [List.flatMap_cons,List.flatMap_cons]; exact (List.Sublist.refl _).append ih
theorem pcL_move {s s' : St} {q q' : Option Addr} {l m : List SV} (h : OwnP s (pcL q l)) (hm : m.Sublist l) (hp : Pres s s') (ho : OwnR s' 2 cSV q' m) (hn : New s.next q') : OwnP s' (pcL q' m) :=
 OwnP.joinF (l := m.flatMap pcS) (m := [pcR 2 cSV q' m]) (h.tail.sub (sub_flat hm)) hp (OwnP.one (own_pc ho)) (NewP.cons hn NewP.nil)
theorem newL_move {n : Nat} {q q' : Option Addr} {l m : List SV} (h : NewP n (pcL q l)) (hm : m.Sublist l) (hn : New n q') : NewP n (pcL q' m) :=
 NewP.cons hn fun c hc => h c (List.mem_cons_of_mem _ ((sub_flat hm).subset hc))
theorem ac_impl_LogDrop (g : LV) (n : Int) (st : St) (hR : RdL st g.p g.l) (hb : bigL g.l) : C 37 [.agg #[vI g.cap,vI g.frm,vS g.p g.l.length],vI n] st (fun v s => ∃ u : LW,v = .agg #[vI u.cap,vI u.frm,vS u.p u.l.length] ∧ u.v.x = dropL g.x n ∧ OwnP s (pcLog u) ∧ NewP st.next (pcLog u) ∧ Pres st s) := by
 have hs : g.l.length ≤ 1048576 := hb.1
 have hgl : g.x.list.length = g.l.length := List.length_map _
 refine AC.enterX (i := ⟨[2,4,5],[2,4,5,13,21,24,28,30],[0,1,2,4,5,19],[]⟩) [(2,[8],[6])] Try.func37 rfl rfl (by kernel_rfl) (by kernel_rfl) Try.ntmps37 (Nat.le_of_ble_eq_true rfl) rfl ?_
 iterate 2 refine ⟨_,rfl,?_⟩
 refine AW.cutM (2) st [(1,vI n),(2,vL 2 0 (0)),(4,vL 4 0 (1))] [(2,0,[vI g.cap,vI g.frm,vS g.p g.l.length]),(4,1,[vI 0,vI 0,.slice none 0 0])] ⟨rfl,rfl,rfl,trivial⟩ ⟨rfl,rfl,trivial⟩ rfl fun ρ0 ff => ?_
 refine ⟨_,op_ldo rfl rfl rfl rfl,?_⟩
 refine ⟨_,rfl,(ac_impl_copyLog g st hR (by first | assumption | omega)).mono ?_⟩
 rintro _ s7 ⟨u7,rfl,h7,hO7,hN7,hP7⟩
 refine ⟨_,rfl,?_⟩
 refine ⟨_,op_sto rfl rfl rfl rfl rfl rfl rfl,?_⟩
 refine AW.cutM (3) s7 [(1,vI n),(2,vL 2 0 (0)),(4,vL 4 0 (1)),(5,vL 5 0 (2))] [(2,0,[vI g.cap,vI g.frm,vS g.p g.l.length]),(4,1,[vI 0,vI 0,.slice none 0 0]),(5,2,[vI u7.cap,vI u7.frm,vS u7.p u7.l.length])] ⟨rfl,rfl,rfl,rfl,trivial⟩ ⟨rfl,rfl,rfl,trivial⟩ rfl fun ρ0 ff => ?_
 have ⟨w0,hw0,hO0,hN0⟩ := lw_all hO7 u7.cap u7.frm
 have hx7 : u7.cap = g.cap ∧ u7.frm = g.frm ∧ u7.l.map (·.x) = g.l.map (·.x) := ⟨congrArg Lg.cap h7,congrArg Lg.frm h7,congrArg Lg.list h7⟩
 have hl7 : u7.l.length = g.l.length := by have := congrArg List.length hx7.2.2; simpa using this
 refine ⟨_,op_ldo rfl rfl rfl rfl,?_⟩
 refine ⟨_,rfl,(ac_impl_LogOk g s7 (hR.pres hP7) (by first | assumption | omega)).mono ?_⟩
 rintro _ s7 ⟨x9,rfl,h9,rfl⟩
 rcases x9 with _|_
 ·replace h9 := fun k => Bool.false_ne_true (h9.2 k)
  iterate 2 refine ⟨_,rfl,?_⟩
  refine AW.cutM (3) s7 [(1,vI n),(2,vL 2 0 (0)),(4,vL 4 0 (1)),(5,vL 5 0 (2)),(19,vB true)] [(2,0,[vI g.cap,vI g.frm,vS g.p g.l.length]),(4,1,[vI 0,vI 0,.slice none 0 0]),(5,2,[vI u7.cap,vI u7.frm,vS u7.p u7.l.length])] ⟨rfl,rfl,rfl,rfl,rfl,trivial⟩ ⟨rfl,rfl,rfl,trivial⟩ rfl fun ρ0 ff => ?_
  refine ⟨_,op_ldo rfl rfl rfl rfl,?_⟩
  refine ⟨_,op_sto rfl rfl rfl rfl rfl rfl rfl,?_⟩
  refine cxs ?_
  exact ⟨.inl rfl,_,rfl,w0,lw_val hw0,by rw [hw0,dropL,if_neg (fun h => h9 h.1)]; exact h7,hO0,hN0 _ hN7,hP7⟩
 ·replace h9 := h9.1 rfl
  iterate 2 refine ⟨_,rfl,?_⟩
  refine ⟨_,op_ldo rfl rfl rfl rfl,?_⟩
  refine ⟨ld_own rfl rfl rfl,?_⟩
  refine ⟨_,op_ldo rfl rfl rfl rfl,?_⟩
  refine ⟨_,rfl,(ac_impl_LogSeq g s7 (hR.pres hP7) (by first | assumption | omega)).mono ?_⟩
  rintro _ s7 ⟨rfl,rfl⟩
  refine ⟨fun _ _ => rfl,?_⟩
  refine ⟨_,rfl,(ac_impl_within n g.frm (logSeq g.x) s7).mono ?_⟩
  rintro _ s7 ⟨x17,rfl,h17,rfl⟩
  rcases x17 with _|_
  ·replace h17 := of_decide_eq_false h17.symm
   iterate 2 refine ⟨_,rfl,?_⟩
   refine AW.cutM (3) s7 [(1,vI n),(2,vL 2 0 (0)),(4,vL 4 0 (1)),(5,vL 5 0 (2)),(19,vB true)] [(2,0,[vI g.cap,vI g.frm,vS g.p g.l.length]),(4,1,[vI 0,vI 0,.slice none 0 0]),(5,2,[vI u7.cap,vI u7.frm,vS u7.p u7.l.length])] ⟨rfl,rfl,rfl,rfl,rfl,trivial⟩ ⟨rfl,rfl,rfl,trivial⟩ rfl fun ρ0 ff => ?_
   refine ⟨_,op_ldo rfl rfl rfl rfl,?_⟩
   refine ⟨_,op_sto rfl rfl rfl rfl rfl rfl rfl,?_⟩
   refine cxs ?_
   rw [logSeq,if_pos h9] at h17
   exact ⟨.inl rfl,_,rfl,w0,lw_val hw0,by rw [hw0,dropL,if_neg (fun h => h17 h.2)]; exact h7,hO0,hN0 _ hN7,hP7⟩
  ·replace h17 := of_decide_eq_true h17.symm
   iterate 2 refine ⟨_,rfl,?_⟩
   refine AW.cutM (3) s7 [(1,vI n),(2,vL 2 0 (0)),(4,vL 4 0 (1)),(5,vL 5 0 (2)),(19,vB false)] [(2,0,[vI g.cap,vI g.frm,vS g.p g.l.length]),(4,1,[vI 0,vI 0,.slice none 0 0]),(5,2,[vI u7.cap,vI u7.frm,vS u7.p u7.l.length])] ⟨rfl,rfl,rfl,rfl,rfl,trivial⟩ ⟨rfl,rfl,rfl,trivial⟩ rfl fun ρ0 ff => ?_
   rw [logSeq,if_pos h9] at h17
   have hw1 : g.frm ≤ n := h17.1
   have hw2 : n ≤ g.frm + (g.l.length : Int) := by have h := h17.2; rw [hgl] at h; exact h
   have hk3 : 0 ≤ g.frm ∧ g.frm ≤ 100000 := h9.2.2.1
   have ⟨w,hw,hO,hN⟩ := lw_drop hO7 u7.cap n (n - g.frm).toNat
   refine cxs ?_
   refine ⟨_,rfl,?_⟩
   refine ⟨_,op_ldo rfl rfl rfl rfl,?_⟩
   refine ⟨_,rfl,?_⟩
   refine ⟨_,op_ldo rfl rfl rfl rfl,?_⟩
   have ew26 : IntKind.wrap .i64 (n - g.frm) = n - g.frm := wrap_i64 (by omega) (by omega)
   refine ⟨_,rfl,?_⟩
   refine ⟨_,op_drop u7.l ((n - g.frm).toNat) rfl rfl rfl (congrArg (Value.int .i64) ew26) rfl rfl (by omega) (by omega),?_⟩
   refine ⟨_,rfl,?_⟩
   refine ⟨_,op_sto rfl rfl rfl rfl rfl rfl rfl,?_⟩
   refine AW.cutM (3) s7 [(1,vI n),(4,vL 4 0 (1)),(5,vL 5 0 (2))] [(4,1,[vI 0,vI 0,.slice none 0 0]),(5,2,[vI u7.cap,vI u7.frm,vS (shO u7.p 2 ((n - g.frm).toNat)) (u7.l.drop ((n - g.frm).toNat)).length])] ⟨rfl,rfl,rfl,trivial⟩ ⟨rfl,rfl,trivial⟩ rfl fun ρ0 ff => ?_
   refine ⟨_,rfl,?_⟩
   refine ⟨_,op_sto rfl rfl rfl rfl rfl rfl rfl,?_⟩
   refine AW.cutM (3) s7 [(4,vL 4 0 (1)),(5,vL 5 0 (2))] [(4,1,[vI 0,vI 0,.slice none 0 0]),(5,2,[vI u7.cap,vI n,vS (shO u7.p 2 ((n - g.frm).toNat)) (u7.l.drop ((n - g.frm).toNat)).length])] ⟨rfl,rfl,trivial⟩ ⟨rfl,rfl,trivial⟩ rfl fun ρ0 ff => ?_
   refine ⟨_,op_ldo rfl rfl rfl rfl,?_⟩
   refine ⟨_,op_sto rfl rfl rfl rfl rfl rfl rfl,?_⟩
   refine cxs ?_
   exact ⟨.inl rfl,_,rfl,w,lw_val hw,by rw [hw,dropL,if_pos ⟨h9,h17.1,h17.2⟩]; simp only [LV.x,List.map_drop,hx7.1,hx7.2.2],hO,hN _ hN7,hP7⟩
open Classical in
noncomputable def addL (g : Lg) (d : Sta) : Lg × Bool := if logOk g ∧ stateOk d ∧ g.frm + (g.list.length : Int) < 100000 then (if (g.list.length : Int) + 1 > g.cap then (⟨g.cap,g.frm + 1,(g.list ++ [d]).drop 1⟩,true) else (⟨g.cap,g.frm,g.list ++ [d]⟩,true)) else (g,false)
theorem logOk_add {g : Lg} {d : Sta} (hg : logOk g) (hd : stateOk d) : (logOk ⟨g.cap,g.frm + 1,(g.list ++ [d]).drop 1⟩ ↔ g.frm + (g.list.length : Int) < 100000) ∧ (¬ (g.list.length : Int) + 1 > g.cap → (logOk ⟨g.cap,g.frm,g.list ++ [d]⟩ ↔ g.frm + (g.list.length : Int) < 100000)) := by
 obtain ⟨h1,h2,h3,h4,h5⟩ := hg
 have hall : ∀ s ∈ g.list ++ [d],stateOk s := fun s hs => by
  rcases List.mem_append.1 hs with h | h
  ·exact h5 s h
  ·rw [List.mem_singleton.1 h]; exact hd
 have hl1 : (((g.list ++ [d]).drop 1).length : Int) = (g.list.length : Int) := by rw [List.length_drop,List.length_append,List.length_singleton]; omega
 have hl2 : ((g.list ++ [d]).length : Int) = (g.list.length : Int) + 1 := by rw [List.length_append,List.length_singleton]; omega
 refine ⟨⟨fun h => ?_,fun h => ⟨h1,?_,?_,?_,fun s hs => hall s (List.mem_of_mem_drop hs)⟩⟩,fun hc => ⟨fun h => ?_,fun h => ⟨h1,?_,h3,?_,hall⟩⟩⟩
 ·have := h.2.2.2.1; simp only at this; rw [hl1] at this; omega
 ·simp only; rw [hl1]; exact h2
 ·simp only; omega
 ·simp only; rw [hl1]; omega
 ·have := h.2.2.2.1; simp only at this; rw [hl2] at this; omega
 ·simp only; rw [hl2]; omega
 ·simp only; rw [hl2]; omega
theorem bigL_few {l : List SV} (h : l.length ≤ 1000) (hs : ∀ s ∈ l,bigS s.x) : bigL l := ⟨by unfold szOk; omega,hs⟩
theorem ac_impl_LogAdd (g : LV) (d : SV) (st : St) (hR : RdL st g.p g.l) (hD : RdS st d) (hb : bigL g.l) (hbd : bigS d.x) : C 29 [.agg #[vI g.cap,vI g.frm,vS g.p g.l.length],.agg #[vS d.p d.x.items.length,vS d.q d.x.floors.length]] st (fun v s => ∃ (u : LW) (b : Bool),v = .tuple #[.agg #[vI u.cap,vI u.frm,vS u.p u.l.length],vB b] ∧ (u.v.x,b) = addL g.x d.x ∧ OwnP s (pcLog u) ∧ NewP st.next (pcLog u) ∧ Pres st s) := by
 have hs : g.l.length ≤ 1048576 := hb.1
 have hgl : g.x.list.length = g.l.length := List.length_map _
 refine AC.enterX (i := ⟨[2,3,4,6],[2,3,4,6,18,24,25,28,31,34,35,38],[0,1,2,3,4,5,6,16,30,41],[]⟩) [(4,[3,4],[1])] Try.func29 rfl rfl (by kernel_rfl) (by kernel_rfl) Try.ntmps29 (Nat.le_of_ble_eq_true rfl) rfl ?_
 iterate 3 refine ⟨_,rfl,?_⟩
 refine AW.cutM (3) st [(2,vL 2 0 (0)),(3,vL 3 0 (1)),(4,vL 4 0 (2)),(5,vB false)] [(2,0,[vI g.cap,vI g.frm,vS g.p g.l.length]),(3,1,[vS d.p d.x.items.length,vS d.q d.x.floors.length]),(4,2,[vI 0,vI 0,.slice none 0 0])] ⟨rfl,rfl,rfl,rfl,trivial⟩ ⟨rfl,rfl,rfl,trivial⟩ rfl fun ρ0 ff => ?_
 refine ⟨_,op_ldo rfl rfl rfl rfl,?_⟩
 refine ⟨_,rfl,(ac_impl_copyLog g st hR (by first | assumption | omega)).mono ?_⟩
 rintro _ s8 ⟨u8,rfl,h8,hO8,hN8,hP8⟩
 refine ⟨_,rfl,?_⟩
 refine ⟨_,op_sto rfl rfl rfl rfl rfl rfl rfl,?_⟩
 refine AW.cutM (4) s8 [(2,vL 2 0 (0)),(3,vL 3 0 (1)),(4,vL 4 0 (2)),(5,vB false),(6,vL 6 0 (3))] [(2,0,[vI g.cap,vI g.frm,vS g.p g.l.length]),(3,1,[vS d.p d.x.items.length,vS d.q d.x.floors.length]),(4,2,[vI 0,vI 0,.slice none 0 0]),(6,3,[vI u8.cap,vI u8.frm,vS u8.p u8.l.length])] ⟨rfl,rfl,rfl,rfl,rfl,trivial⟩ ⟨rfl,rfl,rfl,rfl,trivial⟩ rfl fun ρ0 ff => ?_
 have ⟨w0,hw0,hO0,hN0⟩ := lw_all hO8 u8.cap u8.frm
 have hx8 : u8.cap = g.cap ∧ u8.frm = g.frm ∧ u8.l.map (·.x) = g.l.map (·.x) := ⟨congrArg Lg.cap h8,congrArg Lg.frm h8,congrArg Lg.list h8⟩
 have hl8 : u8.l.length = g.l.length := by have := congrArg List.length hx8.2.2; simpa using this
 refine ⟨_,op_ldo rfl rfl rfl rfl,?_⟩
 refine ⟨_,rfl,(ac_impl_LogOk g s8 (hR.pres hP8) (by first | assumption | omega)).mono ?_⟩
 rintro _ s8 ⟨x10,rfl,h10,rfl⟩
 rcases x10 with _|_
 ·replace h10 := fun k => Bool.false_ne_true (h10.2 k)
  iterate 2 refine ⟨_,rfl,?_⟩
  refine AW.cutM (4) s8 [(2,vL 2 0 (0)),(3,vL 3 0 (1)),(4,vL 4 0 (2)),(5,vB false),(6,vL 6 0 (3)),(16,vB true)] [(2,0,[vI g.cap,vI g.frm,vS g.p g.l.length]),(3,1,[vS d.p d.x.items.length,vS d.q d.x.floors.length]),(4,2,[vI 0,vI 0,.slice none 0 0]),(6,3,[vI u8.cap,vI u8.frm,vS u8.p u8.l.length])] ⟨rfl,rfl,rfl,rfl,rfl,rfl,trivial⟩ ⟨rfl,rfl,rfl,rfl,trivial⟩ rfl fun ρ0 ff => ?_
  refine ⟨_,op_ldo rfl rfl rfl rfl,?_⟩
  refine ⟨_,op_sto rfl rfl rfl rfl rfl rfl rfl,?_⟩
  refine cxs ?_
  exact ⟨.inl rfl,_,rfl,w0,false,congrArg (fun u => Value.tuple #[u,vB false]) (lw_val hw0),by rw [hw0,addL,if_neg (fun h => h10 h.1)]; exact congrArg (·,false) h8,hO0,hN0 _ hN8,hP8⟩
 ·replace h10 := h10.1 rfl
  refine ⟨_,rfl,?_⟩
  refine ⟨_,op_ldo rfl rfl rfl rfl,?_⟩
  refine ⟨_,rfl,(ac_impl_StateOk d s8 (hD.pres hP8) (by first | assumption | omega)).mono ?_⟩
  rintro _ s8 ⟨x14,rfl,h14,rfl⟩
  rcases x14 with _|_
  ·replace h14 := fun k => Bool.false_ne_true (h14.2 k)
   iterate 2 refine ⟨_,rfl,?_⟩
   refine AW.cutM (4) s8 [(2,vL 2 0 (0)),(3,vL 3 0 (1)),(4,vL 4 0 (2)),(5,vB false),(6,vL 6 0 (3)),(16,vB true)] [(2,0,[vI g.cap,vI g.frm,vS g.p g.l.length]),(3,1,[vS d.p d.x.items.length,vS d.q d.x.floors.length]),(4,2,[vI 0,vI 0,.slice none 0 0]),(6,3,[vI u8.cap,vI u8.frm,vS u8.p u8.l.length])] ⟨rfl,rfl,rfl,rfl,rfl,rfl,trivial⟩ ⟨rfl,rfl,rfl,rfl,trivial⟩ rfl fun ρ0 ff => ?_
   refine ⟨_,op_ldo rfl rfl rfl rfl,?_⟩
   refine ⟨_,op_sto rfl rfl rfl rfl rfl rfl rfl,?_⟩
   refine cxs ?_
   exact ⟨.inl rfl,_,rfl,w0,false,congrArg (fun u => Value.tuple #[u,vB false]) (lw_val hw0),by rw [hw0,addL,if_neg (fun h => h14 h.2.1)]; exact congrArg (·,false) h8,hO0,hN0 _ hN8,hP8⟩
  ·replace h14 := h14.1 rfl
   iterate 2 refine ⟨_,rfl,?_⟩
   refine AW.cutM (4) s8 [(2,vL 2 0 (0)),(3,vL 3 0 (1)),(4,vL 4 0 (2)),(5,vB false),(6,vL 6 0 (3)),(16,vB false)] [(2,0,[vI g.cap,vI g.frm,vS g.p g.l.length]),(3,1,[vS d.p d.x.items.length,vS d.q d.x.floors.length]),(4,2,[vI 0,vI 0,.slice none 0 0]),(6,3,[vI u8.cap,vI u8.frm,vS u8.p u8.l.length])] ⟨rfl,rfl,rfl,rfl,rfl,rfl,trivial⟩ ⟨rfl,rfl,rfl,rfl,trivial⟩ rfl fun ρ0 ff => ?_
   have hk3 : 0 ≤ g.frm ∧ g.frm ≤ 100000 := h10.2.2.1
   have hk4 : g.frm + (g.l.length : Int) ≤ 100000 := by have := h10.2.2.2.1; rw [hgl] at this; exact this
   have hk5 : (g.l.length : Int) ≤ g.cap ∧ g.cap ≤ 8 := ⟨by have := h10.2.1; rw [hgl] at this; exact this,h10.1.2⟩
   refine cxs ?_
   refine ⟨_,rfl,?_⟩
   refine ⟨_,op_ldo rfl rfl rfl rfl,?_⟩
   refine ⟨ld_own rfl rfl rfl,?_⟩
   refine ⟨_,op_ldo rfl rfl rfl rfl,?_⟩
   refine ⟨_,rfl,(ac_impl_copyState d s8 (hD.pres hP8) (by first | assumption | omega)).mono ?_⟩
   rintro _ s21 ⟨u21,rfl,h21,hO21,hN21,hP21⟩
   refine ⟨hP21.2,?_⟩
   refine op_one (z := 2) (a := (u21 : SV)) (f := cSV) rfl rfl rfl rfl rfl (by decide) rfl (Nat.le_of_ble_eq_true rfl) rfl rfl rfl ?_
   refine ⟨Pres.push.low hP21,?_⟩
   refine op_snoc (z := 2) (st := s21) (f := cSV) (b := 48) (l := u8.l) (x := u21) rfl rfl rfl rfl rfl rfl rfl (by decide) len_cSV rfl rfl rfl (by omega) (by unfold maxLen; omega) ((hO8.pres hP21).louter) ?_
   intro q23 s23 hO23 hP23 hN23
   refine ⟨_,rfl,?_⟩
   refine ⟨_,op_sto rfl rfl rfl rfl rfl rfl rfl,?_⟩
   refine AW.cutM (4) s23 [(2,vL 2 0 (0)),(4,vL 4 0 (2)),(5,vB false),(6,vL 6 0 (3))] [(2,0,[vI g.cap,vI g.frm,vS g.p g.l.length]),(4,2,[vI 0,vI 0,.slice none 0 0]),(6,3,[vI u8.cap,vI u8.frm,vS q23 (u8.l ++ [u21]).length])] ⟨rfl,rfl,rfl,rfl,trivial⟩ ⟨rfl,rfl,rfl,trivial⟩ rfl fun ρ0 ff => ?_
   have hO4 := pcL_snoc hO8 hP21 hO21 hN21 hP23 hO23 hN23
   have hN4 := newL_snoc hN8 (hN21.le hP8.1) (hN23.le (hP8.trans hP21).1)
   have hP4 := hP23.pres (hP8.trans hP21) (newL_p hN8)
   have hln : ((u8.l ++ [u21]).length : Int) = (g.l.length : Int) + 1 := by rw [List.length_append,List.length_singleton,hl8]; omega
   have hmx : (u8.l ++ [u21]).map (·.x) = g.l.map (·.x) ++ [d.x] := by rw [List.map_append,hx8.2.2,List.map_singleton,h21]
   have hb4 : bigL (u8.l ++ [u21]) := bigL_few (by omega) fun s hs => by
    rcases List.mem_append.1 hs with h | h
    ·exact (bigL_of hx8.2.2 hb).2 s h
    ·rw [List.mem_singleton.1 h,h21]; exact hbd
   have hbd4 : bigL (List.drop 1 (u8.l ++ [u21])) := bigL_few (by rw [List.length_drop]; omega) fun s hs => hb4.2 s (List.mem_of_mem_drop hs)
   have hadd := logOk_add h10 h14
   refine ⟨_,rfl,?_⟩
   refine ⟨_,op_ldo rfl rfl rfl rfl,?_⟩
   iterate 2 refine ⟨_,rfl,?_⟩
   refine ⟨_,op_ldo rfl rfl rfl rfl,?_⟩
   refine ⟨_,rfl,?_⟩
   rintro (_|_) h30
   ·replace h30 : ¬ (((u8.l ++ [u21]).length : Int) > g.cap) := of_decide_eq_false h30
    refine AW.cutM (4) s23 [(2,vL 2 0 (0)),(4,vL 4 0 (2)),(5,vB false),(6,vL 6 0 (3)),(30,vB false)] [(2,0,[vI g.cap,vI g.frm,vS g.p g.l.length]),(4,2,[vI 0,vI 0,.slice none 0 0]),(6,3,[vI u8.cap,vI u8.frm,vS q23 (u8.l ++ [u21]).length])] ⟨rfl,rfl,rfl,rfl,rfl,trivial⟩ ⟨rfl,rfl,rfl,trivial⟩ rfl fun ρ0 ff => ?_
    have ⟨w,hw,hO,hN⟩ := lw_all hO4 u8.cap u8.frm
    have hwx : w.v.x = ⟨g.x.cap,g.x.frm,g.x.list ++ [d.x]⟩ := by rw [hw]; simp only [LV.x,hmx,hx8.1,hx8.2.1]
    refine cxs ?_
    refine ⟨_,op_ldo rfl rfl rfl rfl,?_⟩
    refine ⟨_,rfl,(ac_impl_LogOk (⟨u8.cap,u8.frm,q23,u8.l ++ [u21]⟩ : LV) s23 (hO4.rdL) (by first | assumption | omega)).mono ?_⟩
    rintro _ s23 ⟨x40,rfl,h40,rfl⟩
    rcases x40 with _|_
    ·replace h40 := fun k => Bool.false_ne_true (h40.2 k)
     refine ⟨_,rfl,?_⟩
     refine AW.cutM (4) s23 [(2,vL 2 0 (0)),(4,vL 4 0 (2)),(5,vB false),(6,vL 6 0 (3)),(41,vB true)] [(2,0,[vI g.cap,vI g.frm,vS g.p g.l.length]),(4,2,[vI 0,vI 0,.slice none 0 0]),(6,3,[vI u8.cap,vI u8.frm,vS q23 (u8.l ++ [u21]).length])] ⟨rfl,rfl,rfl,rfl,rfl,trivial⟩ ⟨rfl,rfl,rfl,trivial⟩ rfl fun ρ0 ff => ?_
     refine ⟨_,op_ldo rfl rfl rfl rfl,?_⟩
     refine ⟨_,rfl,(ac_impl_copyLog g s23 (hR.pres hP4) (by first | assumption | omega)).mono ?_⟩
     rintro _ s43 ⟨u43,rfl,h43,hO43,hN43,hP43⟩
     refine ⟨_,op_sto rfl rfl rfl rfl rfl rfl rfl,?_⟩
     refine cxs ?_
     have ⟨w9,hw9,hO9,hN9⟩ := lw_all hO43 u43.cap u43.frm
     have hP9 := hP4.trans hP43
     have hc : ¬ (g.x.list.length : Int) + 1 > g.x.cap := by rw [hgl]; clear hadd; show ¬ (g.l.length : Int) + 1 > g.cap; omega
     exact ⟨.inl rfl,_,rfl,w9,false,congrArg (fun u => Value.tuple #[u,vB false]) (lw_val hw9),by rw [hw9,addL,if_neg (fun h => h40 (by have h2 := (hadd.2 hc).2 h.2.2; rw [← hwx,hw] at h2; exact h2))]; exact congrArg (·,false) h43,hO9,hN9 _ (hN43.le hP4.1),hP9⟩
    ·replace h40 := h40.1 rfl
     refine ⟨_,rfl,?_⟩
     refine AW.cutM (4) s23 [(2,vL 2 0 (0)),(4,vL 4 0 (2)),(5,vB false),(6,vL 6 0 (3)),(41,vB false)] [(2,0,[vI g.cap,vI g.frm,vS g.p g.l.length]),(4,2,[vI 0,vI 0,.slice none 0 0]),(6,3,[vI u8.cap,vI u8.frm,vS q23 (u8.l ++ [u21]).length])] ⟨rfl,rfl,rfl,rfl,rfl,trivial⟩ ⟨rfl,rfl,rfl,trivial⟩ rfl fun ρ0 ff => ?_
     refine cxs ?_
     refine ⟨_,op_ldo rfl rfl rfl rfl,?_⟩
     refine ⟨_,op_sto rfl rfl rfl rfl rfl rfl rfl,?_⟩
     refine cxs ?_
     have hc : ¬ (g.x.list.length : Int) + 1 > g.x.cap := by rw [hgl]; clear hadd; show ¬ (g.l.length : Int) + 1 > g.cap; omega
     exact ⟨.inl rfl,_,rfl,w,true,congrArg (fun u => Value.tuple #[u,vB true]) (lw_val hw),by rw [hwx,addL,if_pos ⟨h10,h14,(hadd.2 hc).1 (hwx ▸ (show logOk w.v.x by rw [hw]; exact h40))⟩,if_neg hc],hO,hN _ hN4,hP4⟩
   ·replace h30 : ((u8.l ++ [u21]).length : Int) > g.cap := of_decide_eq_true h30
    refine AW.cutM (4) s23 [(2,vL 2 0 (0)),(4,vL 4 0 (2)),(5,vB false),(6,vL 6 0 (3)),(30,vB true)] [(2,0,[vI g.cap,vI g.frm,vS g.p g.l.length]),(4,2,[vI 0,vI 0,.slice none 0 0]),(6,3,[vI u8.cap,vI u8.frm,vS q23 (u8.l ++ [u21]).length])] ⟨rfl,rfl,rfl,rfl,rfl,trivial⟩ ⟨rfl,rfl,rfl,trivial⟩ rfl fun ρ0 ff => ?_
    refine ⟨_,rfl,?_⟩
    refine ⟨_,op_ldo rfl rfl rfl rfl,?_⟩
    refine ⟨_,op_drop (u8.l ++ [u21]) 1 rfl rfl rfl rfl rfl rfl (by omega) (by omega),?_⟩
    refine ⟨_,rfl,?_⟩
    refine ⟨_,op_sto rfl rfl rfl rfl rfl rfl rfl,?_⟩
    refine AW.cutM (4) s23 [(2,vL 2 0 (0)),(4,vL 4 0 (2)),(5,vB false),(6,vL 6 0 (3))] [(2,0,[vI g.cap,vI g.frm,vS g.p g.l.length]),(4,2,[vI 0,vI 0,.slice none 0 0]),(6,3,[vI u8.cap,vI u8.frm,vS (shO q23 2 1) ((u8.l ++ [u21]).drop 1).length])] ⟨rfl,rfl,rfl,rfl,trivial⟩ ⟨rfl,rfl,rfl,trivial⟩ rfl fun ρ0 ff => ?_
    have ⟨w,hw,hO,hN⟩ := lw_drop hO4 u8.cap (u8.frm + 1) 1
    have hwx : w.v.x = ⟨g.x.cap,g.x.frm + 1,(g.x.list ++ [d.x]).drop 1⟩ := by rw [hw]; simp only [LV.x,List.map_drop,hmx,hx8.1,hx8.2.1]
    have hwr : RdL s23 (shO q23 2 1) (List.drop 1 (u8.l ++ [u21])) := ⟨(hO4.rdL.1).sh 1,fun s hs => hO4.rdL.2 s (List.mem_of_mem_drop hs)⟩
    refine ⟨_,rfl,?_⟩
    refine ⟨_,op_ldo rfl rfl rfl rfl,?_⟩
    have ew37 : IntKind.wrap .i64 (u8.frm + (1)) = u8.frm + (1) := wrap_i64 (by omega) (by omega)
    iterate 2 refine ⟨_,rfl,?_⟩
    refine ⟨_,op_sto rfl rfl rfl rfl rfl rfl rfl,?_⟩
    refine AW.cutM (4) s23 [(2,vL 2 0 (0)),(4,vL 4 0 (2)),(5,vB false),(6,vL 6 0 (3))] [(2,0,[vI g.cap,vI g.frm,vS g.p g.l.length]),(4,2,[vI 0,vI 0,.slice none 0 0]),(6,3,[vI u8.cap,vI (u8.frm + (1)),vS (shO q23 2 1) ((u8.l ++ [u21]).drop 1).length])] ⟨rfl,rfl,rfl,rfl,trivial⟩ ⟨rfl,rfl,(show some (3,[vI u8.cap,vI (IntKind.wrap .i64 (u8.frm + (1))),vS (shO q23 2 1) ((u8.l ++ [u21]).drop 1).length]) = some (3,[vI u8.cap,vI (u8.frm + (1)),vS (shO q23 2 1) ((u8.l ++ [u21]).drop 1).length]) by rw [ew37]),trivial⟩ rfl fun ρ0 ff => ?_
    refine ⟨_,op_ldo rfl rfl rfl rfl,?_⟩
    refine ⟨_,rfl,(ac_impl_LogOk (⟨u8.cap,u8.frm + (1),shO q23 2 1,(u8.l ++ [u21]).drop 1⟩ : LV) s23 (by first | assumption | omega) (by first | assumption | omega)).mono ?_⟩
    rintro _ s23 ⟨x40,rfl,h40,rfl⟩
    rcases x40 with _|_
    ·replace h40 := fun k => Bool.false_ne_true (h40.2 k)
     refine ⟨_,rfl,?_⟩
     refine AW.cutM (4) s23 [(2,vL 2 0 (0)),(4,vL 4 0 (2)),(5,vB false),(6,vL 6 0 (3)),(41,vB true)] [(2,0,[vI g.cap,vI g.frm,vS g.p g.l.length]),(4,2,[vI 0,vI 0,.slice none 0 0]),(6,3,[vI u8.cap,vI (u8.frm + (1)),vS (shO q23 2 1) ((u8.l ++ [u21]).drop 1).length])] ⟨rfl,rfl,rfl,rfl,rfl,trivial⟩ ⟨rfl,rfl,rfl,trivial⟩ rfl fun ρ0 ff => ?_
     refine ⟨_,op_ldo rfl rfl rfl rfl,?_⟩
     refine ⟨_,rfl,(ac_impl_copyLog g s23 (hR.pres hP4) (by first | assumption | omega)).mono ?_⟩
     rintro _ s43 ⟨u43,rfl,h43,hO43,hN43,hP43⟩
     refine ⟨_,op_sto rfl rfl rfl rfl rfl rfl rfl,?_⟩
     refine cxs ?_
     have ⟨w9,hw9,hO9,hN9⟩ := lw_all hO43 u43.cap u43.frm
     have hP9 := hP4.trans hP43
     exact ⟨.inl rfl,_,rfl,w9,false,congrArg (fun u => Value.tuple #[u,vB false]) (lw_val hw9),by rw [hw9,addL,if_neg (fun h => h40 (by have h2 := hadd.1.2 h.2.2; rw [← hwx,hw] at h2; exact h2))]; exact congrArg (·,false) h43,hO9,hN9 _ (hN43.le hP4.1),hP9⟩
    ·replace h40 := h40.1 rfl
     refine ⟨_,rfl,?_⟩
     refine AW.cutM (4) s23 [(2,vL 2 0 (0)),(4,vL 4 0 (2)),(5,vB false),(6,vL 6 0 (3)),(41,vB false)] [(2,0,[vI g.cap,vI g.frm,vS g.p g.l.length]),(4,2,[vI 0,vI 0,.slice none 0 0]),(6,3,[vI u8.cap,vI (u8.frm + (1)),vS (shO q23 2 1) ((u8.l ++ [u21]).drop 1).length])] ⟨rfl,rfl,rfl,rfl,rfl,trivial⟩ ⟨rfl,rfl,rfl,trivial⟩ rfl fun ρ0 ff => ?_
     refine cxs ?_
     refine ⟨_,op_ldo rfl rfl rfl rfl,?_⟩
     refine ⟨_,op_sto rfl rfl rfl rfl rfl rfl rfl,?_⟩
     refine cxs ?_
     have hc : (g.x.list.length : Int) + 1 > g.x.cap := by rw [hgl]; clear hadd; show (g.l.length : Int) + 1 > g.cap; omega
     exact ⟨.inl rfl,_,rfl,w,true,congrArg (fun u => Value.tuple #[u,vB true]) (lw_val hw),by rw [hwx,addL,if_pos ⟨h10,h14,hadd.1.1 (hwx ▸ (show logOk w.v.x by rw [hw]; exact h40))⟩,if_pos hc],hO,hN _ hN4,hP4⟩
theorem ac_spec_LogAdd (g : LV) (d : SV) (st : St) (hR : RdL st g.p g.l) (hD : RdS st d) (hb : bigL g.l) (hbd : bigS d.x) : C 30 [.agg #[vI g.cap,vI g.frm,vS g.p g.l.length],.agg #[vS d.p d.x.items.length,vS d.q d.x.floors.length]] st (fun v s => ∃ (u : LW) (b : Bool),v = .tuple #[.agg #[vI u.cap,vI u.frm,vS u.p u.l.length],vB b] ∧ (u.v.x,b) = addL g.x d.x ∧ OwnP s (pcLog u) ∧ NewP st.next (pcLog u) ∧ Pres st s) := by
 have hs : g.l.length ≤ 1048576 := hb.1
 have hgl : g.x.list.length = g.l.length := List.length_map _
 refine AC.enterX (i := ⟨[2,3,4,6],[2,3,4,6,18,20,27,33,34,37,41,45,46,49],[0,1,2,3,4,5,6,25,39],[]⟩) [(4,[3,4],[1])] Try.func30 rfl rfl (by kernel_rfl) (by kernel_rfl) Try.ntmps30 (Nat.le_of_ble_eq_true rfl) rfl ?_
 iterate 3 refine ⟨_,rfl,?_⟩
 refine AW.cutM (3) st [(2,vL 2 0 (0)),(3,vL 3 0 (1)),(4,vL 4 0 (2)),(5,vB false)] [(2,0,[vI g.cap,vI g.frm,vS g.p g.l.length]),(3,1,[vS d.p d.x.items.length,vS d.q d.x.floors.length]),(4,2,[vI 0,vI 0,.slice none 0 0])] ⟨rfl,rfl,rfl,rfl,trivial⟩ ⟨rfl,rfl,rfl,trivial⟩ rfl fun ρ0 ff => ?_
 refine ⟨_,op_ldo rfl rfl rfl rfl,?_⟩
 refine ⟨_,rfl,(ac_spec_l7Copy g st hR (by first | assumption | omega)).mono ?_⟩
 rintro _ s8 ⟨u8,rfl,h8,hO8,hN8,hP8⟩
 refine ⟨_,rfl,?_⟩
 refine ⟨_,op_sto rfl rfl rfl rfl rfl rfl rfl,?_⟩
 refine AW.cutM (4) s8 [(2,vL 2 0 (0)),(3,vL 3 0 (1)),(4,vL 4 0 (2)),(5,vB false),(6,vL 6 0 (3))] [(2,0,[vI g.cap,vI g.frm,vS g.p g.l.length]),(3,1,[vS d.p d.x.items.length,vS d.q d.x.floors.length]),(4,2,[vI 0,vI 0,.slice none 0 0]),(6,3,[vI u8.cap,vI u8.frm,vS u8.p u8.l.length])] ⟨rfl,rfl,rfl,rfl,rfl,trivial⟩ ⟨rfl,rfl,rfl,rfl,trivial⟩ rfl fun ρ0 ff => ?_
 have ⟨w0,hw0,hO0,hN0⟩ := lw_all hO8 u8.cap u8.frm
 have hx8 : u8.cap = g.cap ∧ u8.frm = g.frm ∧ u8.l.map (·.x) = g.l.map (·.x) := ⟨congrArg Lg.cap h8,congrArg Lg.frm h8,congrArg Lg.list h8⟩
 have hl8 : u8.l.length = g.l.length := by have := congrArg List.length hx8.2.2; simpa using this
 refine ⟨_,op_ldo rfl rfl rfl rfl,?_⟩
 refine ⟨_,rfl,(ac_spec_LogOk g s8 (hR.pres hP8) (by first | assumption | omega)).mono ?_⟩
 rintro _ s8 ⟨x10,rfl,h10,rfl⟩
 rcases x10 with _|_
 ·replace h10 := fun k => Bool.false_ne_true (h10.2 k)
  iterate 3 refine ⟨_,rfl,?_⟩
  refine AW.cutM (4) s8 [(3,vL 3 0 (1)),(4,vL 4 0 (2)),(5,vB false),(6,vL 6 0 (3)),(25,vB true)] [(3,1,[vS d.p d.x.items.length,vS d.q d.x.floors.length]),(4,2,[vI 0,vI 0,.slice none 0 0]),(6,3,[vI u8.cap,vI u8.frm,vS u8.p u8.l.length])] ⟨rfl,rfl,rfl,rfl,rfl,trivial⟩ ⟨rfl,rfl,rfl,trivial⟩ rfl fun ρ0 ff => ?_
  refine ⟨_,op_ldo rfl rfl rfl rfl,?_⟩
  refine ⟨_,op_sto rfl rfl rfl rfl rfl rfl rfl,?_⟩
  refine cxs ?_
  exact ⟨.inl rfl,_,rfl,w0,false,congrArg (fun u => Value.tuple #[u,vB false]) (lw_val hw0),by rw [hw0,addL,if_neg (fun h => h10 h.1)]; exact congrArg (·,false) h8,hO0,hN0 _ hN8,hP8⟩
 ·replace h10 := h10.1 rfl
  refine ⟨_,rfl,?_⟩
  refine ⟨_,op_ldo rfl rfl rfl rfl,?_⟩
  refine ⟨_,rfl,(ac_spec_StateOk d s8 (hD.pres hP8) (by first | assumption | omega)).mono ?_⟩
  rintro _ s8 ⟨x14,rfl,h14,rfl⟩
  rcases x14 with _|_
  ·replace h14 := fun k => Bool.false_ne_true (h14.2 k)
   iterate 3 refine ⟨_,rfl,?_⟩
   refine AW.cutM (4) s8 [(3,vL 3 0 (1)),(4,vL 4 0 (2)),(5,vB false),(6,vL 6 0 (3)),(25,vB true)] [(3,1,[vS d.p d.x.items.length,vS d.q d.x.floors.length]),(4,2,[vI 0,vI 0,.slice none 0 0]),(6,3,[vI u8.cap,vI u8.frm,vS u8.p u8.l.length])] ⟨rfl,rfl,rfl,rfl,rfl,trivial⟩ ⟨rfl,rfl,rfl,trivial⟩ rfl fun ρ0 ff => ?_
   refine ⟨_,op_ldo rfl rfl rfl rfl,?_⟩
   refine ⟨_,op_sto rfl rfl rfl rfl rfl rfl rfl,?_⟩
   refine cxs ?_
   exact ⟨.inl rfl,_,rfl,w0,false,congrArg (fun u => Value.tuple #[u,vB false]) (lw_val hw0),by rw [hw0,addL,if_neg (fun h => h14 h.2.1)]; exact congrArg (·,false) h8,hO0,hN0 _ hN8,hP8⟩
  ·replace h14 := h14.1 rfl
   iterate 2 refine ⟨_,rfl,?_⟩
   have hk3 : 0 ≤ g.frm ∧ g.frm ≤ 100000 := h10.2.2.1
   have hk4 : g.frm + (g.l.length : Int) ≤ 100000 := by have := h10.2.2.2.1; rw [hgl] at this; exact this
   have hk5 : (g.l.length : Int) ≤ g.cap ∧ g.cap ≤ 8 := ⟨by have := h10.2.1; rw [hgl] at this; exact this,h10.1.2⟩
   refine ⟨_,rfl,?_⟩
   refine ⟨_,op_ldo rfl rfl rfl rfl,?_⟩
   refine ⟨_,rfl,?_⟩
   refine ⟨_,op_ldo rfl rfl rfl rfl,?_⟩
   refine ⟨_,rfl,?_⟩
   have ew23 : IntKind.wrap .i64 (g.frm + (g.l.length : Int)) = g.frm + (g.l.length : Int) := wrap_i64 (by omega) (by omega)
   iterate 2 refine ⟨_,rfl,?_⟩
   rintro (_|_) h24
   ·replace h24 : ¬ ((IntKind.wrap .i64 (g.frm + (g.l.length : Int))) = (100000)) := beq_eq_false_iff_ne.1 h24
    rw [ew23] at h24
    refine ⟨_,rfl,?_⟩
    refine AW.cutM (4) s8 [(3,vL 3 0 (1)),(4,vL 4 0 (2)),(5,vB false),(6,vL 6 0 (3)),(25,vB false)] [(3,1,[vS d.p d.x.items.length,vS d.q d.x.floors.length]),(4,2,[vI 0,vI 0,.slice none 0 0]),(6,3,[vI u8.cap,vI u8.frm,vS u8.p u8.l.length])] ⟨rfl,rfl,rfl,rfl,rfl,trivial⟩ ⟨rfl,rfl,rfl,trivial⟩ rfl fun ρ0 ff => ?_
    refine cxs ?_
    refine ⟨_,rfl,?_⟩
    refine ⟨_,op_ldo rfl rfl rfl rfl,?_⟩
    refine ⟨ld_own rfl rfl rfl,?_⟩
    refine ⟨_,op_ldo rfl rfl rfl rfl,?_⟩
    refine ⟨_,rfl,(ac_spec_l3Copy d s8 (hD.pres hP8) (by first | assumption | omega)).mono ?_⟩
    rintro _ s30 ⟨u30,rfl,h30,hO30,hN30,hP30⟩
    refine ⟨hP30.2,?_⟩
    refine op_one (z := 2) (a := (u30 : SV)) (f := cSV) rfl rfl rfl rfl rfl (by decide) rfl (Nat.le_of_ble_eq_true rfl) rfl rfl rfl ?_
    refine ⟨Pres.push.low hP30,?_⟩
    refine op_snoc (z := 2) (st := s30) (f := cSV) (b := 48) (l := u8.l) (x := u30) rfl rfl rfl rfl rfl rfl rfl (by decide) len_cSV rfl rfl rfl (by omega) (by unfold maxLen; omega) ((hO8.pres hP30).louter) ?_
    intro q32 s32 hO32 hP32 hN32
    refine ⟨_,rfl,?_⟩
    refine ⟨_,op_sto rfl rfl rfl rfl rfl rfl rfl,?_⟩
    refine AW.cutM (4) s32 [(4,vL 4 0 (2)),(5,vB false),(6,vL 6 0 (3))] [(4,2,[vI 0,vI 0,.slice none 0 0]),(6,3,[vI u8.cap,vI u8.frm,vS q32 (u8.l ++ [u30]).length])] ⟨rfl,rfl,rfl,trivial⟩ ⟨rfl,rfl,trivial⟩ rfl fun ρ0 ff => ?_
    have hO4 := pcL_snoc hO8 hP30 hO30 hN30 hP32 hO32 hN32
    have hN4 := newL_snoc hN8 (hN30.le hP8.1) (hN32.le (hP8.trans hP30).1)
    have hP4 := hP32.pres (hP8.trans hP30) (newL_p hN8)
    have hln : ((u8.l ++ [u30]).length : Int) = (g.l.length : Int) + 1 := by rw [List.length_append,List.length_singleton,hl8]; omega
    have hmx : (u8.l ++ [u30]).map (·.x) = g.l.map (·.x) ++ [d.x] := by rw [List.map_append,hx8.2.2,List.map_singleton,h30]
    have hdl : (List.drop 1 (u8.l ++ [u30])).length ≤ (u8.l ++ [u30]).length := by rw [List.length_drop]; omega
    have hlt : g.x.frm + (g.x.list.length : Int) < 100000 := by rw [hgl]; show g.frm + (g.l.length : Int) < 100000; omega
    refine ⟨_,rfl,?_⟩
    refine ⟨_,op_ldo rfl rfl rfl rfl,?_⟩
    iterate 2 refine ⟨_,rfl,?_⟩
    refine ⟨_,op_ldo rfl rfl rfl rfl,?_⟩
    refine ⟨_,rfl,?_⟩
    rintro (_|_) h39
    ·replace h39 : ¬ (((u8.l ++ [u30]).length : Int) > u8.cap) := of_decide_eq_false h39
     refine AW.cutM (4) s32 [(4,vL 4 0 (2)),(5,vB false),(6,vL 6 0 (3)),(39,vB false)] [(4,2,[vI 0,vI 0,.slice none 0 0]),(6,3,[vI u8.cap,vI u8.frm,vS q32 (u8.l ++ [u30]).length])] ⟨rfl,rfl,rfl,rfl,trivial⟩ ⟨rfl,rfl,trivial⟩ rfl fun ρ0 ff => ?_
     have ⟨w,hw,hO,hN⟩ := lw_all hO4 u8.cap u8.frm
     have hwx : w.v.x = ⟨g.x.cap,g.x.frm,g.x.list ++ [d.x]⟩ := by rw [hw]; simp only [LV.x,hmx,hx8.1,hx8.2.1]
     refine cxs ?_
     refine ⟨_,op_ldo rfl rfl rfl rfl,?_⟩
     refine ⟨_,op_sto rfl rfl rfl rfl rfl rfl rfl,?_⟩
     refine cxs ?_
     have hc : ¬ (g.x.list.length : Int) + 1 > g.x.cap := by rw [hgl]; show ¬ (g.l.length : Int) + 1 > g.cap; omega
     exact ⟨.inl rfl,_,rfl,w,true,congrArg (fun u => Value.tuple #[u,vB true]) (lw_val hw),by rw [hwx,addL,if_pos ⟨h10,h14,hlt⟩,if_neg hc],hO,hN _ hN4,hP4⟩
    ·replace h39 : ((u8.l ++ [u30]).length : Int) > u8.cap := of_decide_eq_true h39
     refine AW.cutM (4) s32 [(4,vL 4 0 (2)),(5,vB false),(6,vL 6 0 (3)),(39,vB true)] [(4,2,[vI 0,vI 0,.slice none 0 0]),(6,3,[vI u8.cap,vI u8.frm,vS q32 (u8.l ++ [u30]).length])] ⟨rfl,rfl,rfl,rfl,trivial⟩ ⟨rfl,rfl,trivial⟩ rfl fun ρ0 ff => ?_
     refine op_nilK (z := 2) (f := cSV) rfl rfl rfl rfl (by decide) rfl ?_
     intro q40 s40 hO40 hP40 hN40
     refine ⟨_,rfl,?_⟩
     refine ⟨_,op_ldo rfl rfl rfl rfl,?_⟩
     refine ⟨_,op_drop (u8.l ++ [u30]) 1 rfl rfl rfl rfl rfl rfl (by omega) (by omega),?_⟩
     refine op_cat' (z := 2) (st := s40) (f := cSV) (b := 48) (l := []) (l2 := List.drop 1 (u8.l ++ [u30])) rfl rfl rfl rfl rfl rfl rfl (by decide) len_cSV rfl rfl rfl rfl (by first | omega | (simp only [List.length_nil]; omega)) (by unfold maxLen; first | omega | (simp only [List.length_nil]; omega)) hO40 ((hP40.rows (hO4.rdL.1)).sh _) ?_
     intro q44 s44 hO44 hPr44 hN44
     refine ⟨_,rfl,?_⟩
     refine ⟨_,op_sto rfl rfl rfl rfl rfl rfl rfl,?_⟩
     refine AW.cutM (4) s44 [(4,vL 4 0 (2)),(5,vB false),(6,vL 6 0 (3))] [(4,2,[vI 0,vI 0,.slice none 0 0]),(6,3,[vI u8.cap,vI u8.frm,vS q44 (List.drop 1 (u8.l ++ [u30])).length])] ⟨rfl,rfl,rfl,trivial⟩ ⟨rfl,rfl,trivial⟩ rfl fun ρ0 ff => ?_
     have ⟨hP9,hN9⟩ := copy_facts hP40 hN40 hPr44 hN44
     have hO9 := pcL_move hO4 (List.drop_sublist _ _) hP9 hO44 hN9
     have hN8 := newL_move hN4 (List.drop_sublist 1 _) (hN9.le hP4.1)
     have hP5 := hP4.trans hP9
     have ⟨w,hw,hO,hN⟩ := lw_all hO9 u8.cap (u8.frm + 1)
     have hwx : w.v.x = ⟨g.x.cap,g.x.frm + 1,(g.x.list ++ [d.x]).drop 1⟩ := by rw [hw]; simp only [LV.x,List.map_drop,hmx,hx8.1,hx8.2.1]
     refine ⟨_,rfl,?_⟩
     refine ⟨_,op_ldo rfl rfl rfl rfl,?_⟩
     have ew48 : IntKind.wrap .i64 (u8.frm + (1)) = u8.frm + (1) := wrap_i64 (by omega) (by omega)
     iterate 2 refine ⟨_,rfl,?_⟩
     refine ⟨_,op_sto rfl rfl rfl rfl rfl rfl rfl,?_⟩
     refine AW.cutM (4) s44 [(4,vL 4 0 (2)),(5,vB false),(6,vL 6 0 (3))] [(4,2,[vI 0,vI 0,.slice none 0 0]),(6,3,[vI u8.cap,vI (u8.frm + (1)),vS q44 (List.drop 1 (u8.l ++ [u30])).length])] ⟨rfl,rfl,rfl,trivial⟩ ⟨rfl,(show some (3,[vI u8.cap,vI (IntKind.wrap .i64 (u8.frm + (1))),vS q44 (List.drop 1 (u8.l ++ [u30])).length]) = some (3,[vI u8.cap,vI (u8.frm + (1)),vS q44 (List.drop 1 (u8.l ++ [u30])).length]) by rw [ew48]),trivial⟩ rfl fun ρ0 ff => ?_
     refine ⟨_,op_ldo rfl rfl rfl rfl,?_⟩
     refine ⟨_,op_sto rfl rfl rfl rfl rfl rfl rfl,?_⟩
     refine cxs ?_
     have hc : (g.x.list.length : Int) + 1 > g.x.cap := by rw [hgl]; show (g.l.length : Int) + 1 > g.cap; omega
     exact ⟨.inl rfl,_,rfl,w,true,congrArg (fun u => Value.tuple #[u,vB true]) (lw_val hw),by rw [hwx,addL,if_pos ⟨h10,h14,hlt⟩,if_pos hc],hO,hN _ hN8,hP5⟩
   ·replace h24 : (IntKind.wrap .i64 (g.frm + (g.l.length : Int))) = (100000) := beq_iff_eq.1 h24
    rw [ew23] at h24
    refine ⟨_,rfl,?_⟩
    refine AW.cutM (4) s8 [(3,vL 3 0 (1)),(4,vL 4 0 (2)),(5,vB false),(6,vL 6 0 (3)),(25,vB true)] [(3,1,[vS d.p d.x.items.length,vS d.q d.x.floors.length]),(4,2,[vI 0,vI 0,.slice none 0 0]),(6,3,[vI u8.cap,vI u8.frm,vS u8.p u8.l.length])] ⟨rfl,rfl,rfl,rfl,rfl,trivial⟩ ⟨rfl,rfl,rfl,trivial⟩ rfl fun ρ0 ff => ?_
    refine ⟨_,op_ldo rfl rfl rfl rfl,?_⟩
    refine ⟨_,op_sto rfl rfl rfl rfl rfl rfl rfl,?_⟩
    refine cxs ?_
    exact ⟨.inl rfl,_,rfl,w0,false,congrArg (fun u => Value.tuple #[u,vB false]) (lw_val hw0),by rw [hw0,addL,if_neg (fun h => by have h2 := h.2.2; rw [hgl] at h2; have h3 : g.frm + (g.l.length : Int) < 100000 := h2; omega)]; exact congrArg (·,false) h8,hO0,hN0 _ hN8,hP8⟩
theorem cmpS {A : Option Value} {Q : Prop} {K : Bool → Prop} (h : ∃ b,A = some (.bool b) ∧ (b = true ↔ Q)) (hk : ∀ c,(c = true ↔ Q) → K c) : ∃ b,A = some (.bool b) ∧ ∀ c,b = c → K c := by
 obtain ⟨b,h1,h2⟩ := h
 exact ⟨b,h1,fun c hc => hc ▸ hk b h2⟩
theorem same_next {α β : Type} {f : α → β} {a b : List α} {i : Nat} {x y : α} (hx : a[i]? = some x) (hy : b[i]? = some y) (h : f x = f y) (heq : ∀ (j : Nat) x y,j < i → a[j]? = some x → b[j]? = some y → f x = f y) : ∀ (j : Nat) x y,j < i + 1 → a[j]? = some x → b[j]? = some y → f x = f y := by
 intro j u v hj hu hv
 rcases Nat.lt_or_ge j i with h2 | h2
 ·exact heq j u v h2 hu hv
 ·obtain rfl : j = i := by omega
  rw [hx] at hu; rw [hy] at hv
  injection hu with hu; injection hv with hv
  rw [← hu,← hv]; exact h
theorem same_at {α : Type} {a b : List α} {i : Nat} {x y : α} (hx : a[i]? = some x) (hy : b[i]? = some y) (h : a = b) : x = y := by
 subst h; rw [hx] at hy; injection hy
theorem sta_ext {a b : Sta} (h1 : a.items = b.items) (h2 : a.floors = b.floors) : a = b := by cases a; cases b; simp only at h1 h2; rw [h1,h2]
theorem neq_Floor (x y : Flr) : ∃ b,abin Try.prog .neq 112 (.agg #[vI x.id,vI x.inc]) (.agg #[vI y.id,vI y.inc]) = some (.bool b) ∧ (b = true ↔ ¬ x = y) := by
 refine ⟨!((if (x.id == y.id) = true then (if (x.inc == y.inc) = true then true else false) else false)),?_,?_⟩
 ·have h : abin Try.prog .neq 112 (.agg #[vI x.id,vI x.inc]) (.agg #[vI y.id,vI y.inc]) = (((some (x.id == y.id)).bind fun r => if r = true then ((some (x.inc == y.inc)).bind fun r => if r = true then some true else some false) else some false)).map fun b => Value.bool !b := by kernel_rfl
  rw [h]; cases x.id == y.id <;> cases x.inc == y.inc <;> rfl
 ·cases x; cases y; simp [Classical.or_iff_not_imp_left]
theorem neq_Item (x y : Itm) : ∃ b,abin Try.prog .neq 110 (.agg #[vI x.id,vI x.e.inc,vI x.e.rank,vI x.e.beat,vI x.e.ver,.string x.e.data]) (.agg #[vI y.id,vI y.e.inc,vI y.e.rank,vI y.e.beat,vI y.e.ver,.string y.e.data]) = some (.bool b) ∧ (b = true ↔ ¬ x = y) := by
 refine ⟨!(x.id == y.id && (x.e.inc == y.e.inc && (x.e.rank == y.e.rank && (x.e.beat == y.e.beat && (x.e.ver == y.e.ver && x.e.data.toList == y.e.data.toList))))),?_,?_⟩
 ·have h : abin Try.prog .neq 110 (.agg #[vI x.id,vI x.e.inc,vI x.e.rank,vI x.e.beat,vI x.e.ver,.string x.e.data]) (.agg #[vI y.id,vI y.e.inc,vI y.e.rank,vI y.e.beat,vI y.e.ver,.string y.e.data]) = ((some (x.id == y.id)).bind fun r => if r = true then (((some (x.e.inc == y.e.inc)).bind fun r => if r = true then ((some (x.e.rank == y.e.rank)).bind fun r => if r = true then ((some (x.e.beat == y.e.beat)).bind fun r => if r = true then ((some (x.e.ver == y.e.ver)).bind fun r => if r = true then ((some (x.e.data.toList == y.e.data.toList)).bind fun r => if r = true then some true else some false) else some false) else some false) else some false) else some false).bind fun r => if r = true then some true else some false) else some false).map fun b => Value.bool !b := by kernel_rfl
  rw [h]; cases x.id == y.id <;> cases x.e.inc == y.e.inc <;> cases x.e.rank == y.e.rank <;> cases x.e.beat == y.e.beat <;> cases x.e.ver == y.e.ver <;> cases x.e.data.toList == y.e.data.toList <;> rfl
 ·rcases x with ⟨i,a,b,c,d,s⟩
  rcases y with ⟨j,a',b',c',d',s'⟩
  have hb : (s.toList == s'.toList) = true ↔ s = s' := beq_bytes
  cases hs : (s.toList == s'.toList) with
  | true => simp [hs,hb.1 hs,Classical.or_iff_not_imp_left]
  | false =>
   have : ¬ s = s' := fun h => by rw [hb.2 h] at hs; cases hs
   simp [hs,this]
theorem ac_slices_Equal_Floor (p q : Option Addr) (a b : List Flr) (st : St) (hA : Rows st 2 cFlr p a) (hB : Rows st 2 cFlr q b) (hs : szOk a.length) : C 92 [vS p a.length,vS q b.length] st (fun v s => ∃ x,v = .bool x ∧ (x = true ↔ a = b) ∧ s = st) := by
 have hs : a.length ≤ 1048576 := hs
 refine AC.enterX (i := ⟨[],[],[0,1,4,5,10,12,13,14,24],[]⟩) [(6,[],[])] Try.func92 rfl rfl (by kernel_rfl) (by kernel_rfl) Try.ntmps92 (Nat.le_of_ble_eq_true rfl) rfl ?_
 refine AW.cut lo0 st [(0,vS p a.length),(1,vS q b.length),(4,vB false)] ⟨rfl,rfl,rfl,trivial⟩ fun ρ0 => ?_
 iterate 3 refine ⟨_,rfl,?_⟩
 rintro (_|_) h10
 ·replace h10 : (a.length : Int) = (b.length : Int) := bne_eq_false_iff_eq.1 h10
  refine AW.cut lo0 st [(0,vS p a.length),(1,vS q b.length),(4,vB false),(10,vB false)] ⟨rfl,rfl,rfl,rfl,trivial⟩ fun ρ0 => ?_
  refine cxs ?_
  refine ⟨_,rfl,?_⟩
  refine AW.cut lo0 st [(0,vS p a.length),(1,vS q b.length),(4,vB false),(12,vI (a.length : Int)),(13,vI (0))] ⟨rfl,rfl,rfl,rfl,rfl,trivial⟩ fun ρ0 => ?_
  refine AW.loop0 (fun i : Nat => [(0,vS p a.length),(1,vS q b.length),(12,vI (a.length : Int)),(13,vI (i : Int))]) (fun m (i : Nat) st' => m = a.length - i ∧ i ≤ a.length ∧ (∀ (j : Nat) x y,j < i → a[j]? = some x → b[j]? = some y → x = y) ∧ st = st') 0 _ ⟨rfl,rfl,rfl,rfl,trivial⟩ rfl ⟨rfl,Nat.zero_le _,fun j x y h => absurd h (Nat.not_lt_zero _),rfl⟩ ?_
  rintro m i ρ0 st' ⟨rfl,hi,heq,rfl⟩
  refine ⟨_,rfl,?_⟩
  rintro (_|_) h14
  ·replace h14 : ¬ ((i : Int) < (a.length : Int)) := of_decide_eq_false h14
   refine AW.cut lo0 st [(0,vS p a.length),(1,vS q b.length),(12,vI (a.length : Int)),(13,vI (i : Int)),(14,vB false)] ⟨rfl,rfl,rfl,rfl,rfl,trivial⟩ fun ρ0 => ?_
   refine cxs ?_
   refine cxs ?_
   exact ⟨.inl rfl,_,rfl,true,rfl,⟨fun _ => iff_lists (by omega) fun j x y hj hx hy => heq j x y (by omega) hx hy,fun _ => rfl⟩,rfl⟩
  ·replace h14 : (i : Int) < (a.length : Int) := of_decide_eq_true h14
   refine AW.cut lo0 st [(0,vS p a.length),(1,vS q b.length),(12,vI (a.length : Int)),(13,vI (i : Int)),(14,vB true)] ⟨rfl,rfl,rfl,rfl,rfl,trivial⟩ fun ρ0 => ?_
   refine cxs ?_
   refine AW.cut lo0 st [(0,vS p a.length),(1,vS q b.length),(5,vI (i : Int)),(12,vI (a.length : Int)),(13,vI (i : Int)),(14,vB true)] ⟨rfl,rfl,rfl,rfl,rfl,rfl,trivial⟩ fun ρ0 => ?_
   refine op_at i hA (by omega) rfl rfl rfl rfl rfl rfl rfl ?_
   intro x18 b18 d18 k18 hy18 hb18 hm18 hc18 ho18
   refine ⟨_,op_lda rfl rfl rfl rfl rfl hm18 hc18 rfl,?_⟩
   refine op_at i hB (by omega) rfl rfl rfl rfl rfl rfl rfl ?_
   intro x22 b22 d22 k22 hy22 hb22 hm22 hc22 ho22
   refine ⟨_,op_lda rfl rfl rfl rfl rfl hm22 hc22 rfl,?_⟩
   refine cmpS (neq_Floor x18 x22) ?_
   rintro (_|_) h24
   ·replace h24 : x18 = x22 := Classical.byContradiction fun k => Bool.false_ne_true (h24.2 k)
    refine AW.cut lo0 st [(0,vS p a.length),(1,vS q b.length),(5,vI (i : Int)),(12,vI (a.length : Int)),(13,vI (i : Int)),(14,vB true),(24,vB false)] ⟨rfl,rfl,rfl,rfl,rfl,rfl,rfl,trivial⟩ fun ρ0 => ?_
    refine cxs ?_
    have ew25 : IntKind.wrap .i64 ((i : Int) + (1)) = ((i + 1 : Nat) : Int) := (wrap_i64 (by omega) (by omega)).trans (by omega)
    refine ⟨_,rfl,?_⟩
    exact ⟨i + 1,a.length - (i + 1),by omega,⟨rfl,rfl,rfl,congrArg (Value.int .i64) ew25,trivial⟩,rfl,rfl,by omega,same_next (f := fun x => x) hy18 hy22 h24 heq,rfl⟩
   ·replace h24 : ¬ x18 = x22 := h24.1 rfl
    refine AW.cut lo0 st [(0,vS p a.length),(1,vS q b.length),(5,vI (i : Int)),(12,vI (a.length : Int)),(13,vI (i : Int)),(14,vB true),(24,vB true)] ⟨rfl,rfl,rfl,rfl,rfl,rfl,rfl,trivial⟩ fun ρ0 => ?_
    refine cxs ?_
    exact ⟨.inl rfl,_,rfl,false,rfl,⟨fun h => absurd h Bool.false_ne_true,fun h => (show False from (absurd (same_at hy18 hy22 h) h24)).elim⟩,rfl⟩
 ·replace h10 : ¬ ((a.length : Int) = (b.length : Int)) := bne_iff_ne.1 h10
  refine AW.cut lo0 st [(0,vS p a.length),(1,vS q b.length),(4,vB false),(10,vB true)] ⟨rfl,rfl,rfl,rfl,trivial⟩ fun ρ0 => ?_
  refine cxs ?_
  exact ⟨.inl rfl,_,rfl,false,rfl,⟨fun h => absurd h Bool.false_ne_true,fun h => (show False from (absurd (congrArg (fun l : List Flr => (l.length : Int)) h) h10)).elim⟩,rfl⟩
theorem ac_slices_Equal_Item (p q : Option Addr) (a b : List Itm) (st : St) (hA : Rows st 6 cItm p a) (hB : Rows st 6 cItm q b) (hs : szOk a.length) : C 91 [vS p a.length,vS q b.length] st (fun v s => ∃ x,v = .bool x ∧ (x = true ↔ a = b) ∧ s = st) := by
 have hs : a.length ≤ 1048576 := hs
 refine AC.enterX (i := ⟨[],[],[0,1,4,5,10,12,13,14,24],[]⟩) [(6,[],[])] Try.func91 rfl rfl (by kernel_rfl) (by kernel_rfl) Try.ntmps91 (Nat.le_of_ble_eq_true rfl) rfl ?_
 refine AW.cut lo0 st [(0,vS p a.length),(1,vS q b.length),(4,vB false)] ⟨rfl,rfl,rfl,trivial⟩ fun ρ0 => ?_
 iterate 3 refine ⟨_,rfl,?_⟩
 rintro (_|_) h10
 ·replace h10 : (a.length : Int) = (b.length : Int) := bne_eq_false_iff_eq.1 h10
  refine AW.cut lo0 st [(0,vS p a.length),(1,vS q b.length),(4,vB false),(10,vB false)] ⟨rfl,rfl,rfl,rfl,trivial⟩ fun ρ0 => ?_
  refine cxs ?_
  refine ⟨_,rfl,?_⟩
  refine AW.cut lo0 st [(0,vS p a.length),(1,vS q b.length),(4,vB false),(12,vI (a.length : Int)),(13,vI (0))] ⟨rfl,rfl,rfl,rfl,rfl,trivial⟩ fun ρ0 => ?_
  refine AW.loop0 (fun i : Nat => [(0,vS p a.length),(1,vS q b.length),(12,vI (a.length : Int)),(13,vI (i : Int))]) (fun m (i : Nat) st' => m = a.length - i ∧ i ≤ a.length ∧ (∀ (j : Nat) x y,j < i → a[j]? = some x → b[j]? = some y → x = y) ∧ st = st') 0 _ ⟨rfl,rfl,rfl,rfl,trivial⟩ rfl ⟨rfl,Nat.zero_le _,fun j x y h => absurd h (Nat.not_lt_zero _),rfl⟩ ?_
  rintro m i ρ0 st' ⟨rfl,hi,heq,rfl⟩
  refine ⟨_,rfl,?_⟩
  rintro (_|_) h14
  ·replace h14 : ¬ ((i : Int) < (a.length : Int)) := of_decide_eq_false h14
   refine AW.cut lo0 st [(0,vS p a.length),(1,vS q b.length),(12,vI (a.length : Int)),(13,vI (i : Int)),(14,vB false)] ⟨rfl,rfl,rfl,rfl,rfl,trivial⟩ fun ρ0 => ?_
   refine cxs ?_
   refine cxs ?_
   exact ⟨.inl rfl,_,rfl,true,rfl,⟨fun _ => iff_lists (by omega) fun j x y hj hx hy => heq j x y (by omega) hx hy,fun _ => rfl⟩,rfl⟩
  ·replace h14 : (i : Int) < (a.length : Int) := of_decide_eq_true h14
   refine AW.cut lo0 st [(0,vS p a.length),(1,vS q b.length),(12,vI (a.length : Int)),(13,vI (i : Int)),(14,vB true)] ⟨rfl,rfl,rfl,rfl,rfl,trivial⟩ fun ρ0 => ?_
   refine cxs ?_
   refine AW.cut lo0 st [(0,vS p a.length),(1,vS q b.length),(5,vI (i : Int)),(12,vI (a.length : Int)),(13,vI (i : Int)),(14,vB true)] ⟨rfl,rfl,rfl,rfl,rfl,rfl,trivial⟩ fun ρ0 => ?_
   refine op_at i hA (by omega) rfl rfl rfl rfl rfl rfl rfl ?_
   intro x18 b18 d18 k18 hy18 hb18 hm18 hc18 ho18
   refine ⟨_,op_lda rfl rfl rfl rfl rfl hm18 hc18 rfl,?_⟩
   refine op_at i hB (by omega) rfl rfl rfl rfl rfl rfl rfl ?_
   intro x22 b22 d22 k22 hy22 hb22 hm22 hc22 ho22
   refine ⟨_,op_lda rfl rfl rfl rfl rfl hm22 hc22 rfl,?_⟩
   refine cmpS (neq_Item x18 x22) ?_
   rintro (_|_) h24
   ·replace h24 : x18 = x22 := Classical.byContradiction fun k => Bool.false_ne_true (h24.2 k)
    refine AW.cut lo0 st [(0,vS p a.length),(1,vS q b.length),(5,vI (i : Int)),(12,vI (a.length : Int)),(13,vI (i : Int)),(14,vB true),(24,vB false)] ⟨rfl,rfl,rfl,rfl,rfl,rfl,rfl,trivial⟩ fun ρ0 => ?_
    refine cxs ?_
    have ew25 : IntKind.wrap .i64 ((i : Int) + (1)) = ((i + 1 : Nat) : Int) := (wrap_i64 (by omega) (by omega)).trans (by omega)
    refine ⟨_,rfl,?_⟩
    exact ⟨i + 1,a.length - (i + 1),by omega,⟨rfl,rfl,rfl,congrArg (Value.int .i64) ew25,trivial⟩,rfl,rfl,by omega,same_next (f := fun x => x) hy18 hy22 h24 heq,rfl⟩
   ·replace h24 : ¬ x18 = x22 := h24.1 rfl
    refine AW.cut lo0 st [(0,vS p a.length),(1,vS q b.length),(5,vI (i : Int)),(12,vI (a.length : Int)),(13,vI (i : Int)),(14,vB true),(24,vB true)] ⟨rfl,rfl,rfl,rfl,rfl,rfl,rfl,trivial⟩ fun ρ0 => ?_
    refine cxs ?_
    exact ⟨.inl rfl,_,rfl,false,rfl,⟨fun h => absurd h Bool.false_ne_true,fun h => (show False from (absurd (same_at hy18 hy22 h) h24)).elim⟩,rfl⟩
 ·replace h10 : ¬ ((a.length : Int) = (b.length : Int)) := bne_iff_ne.1 h10
  refine AW.cut lo0 st [(0,vS p a.length),(1,vS q b.length),(4,vB false),(10,vB true)] ⟨rfl,rfl,rfl,rfl,trivial⟩ fun ρ0 => ?_
  refine cxs ?_
  exact ⟨.inl rfl,_,rfl,false,rfl,⟨fun h => absurd h Bool.false_ne_true,fun h => (show False from (absurd (congrArg (fun l : List Itm => (l.length : Int)) h) h10)).elim⟩,rfl⟩
theorem ac_impl_StateSame (a b : SV) (st : St) (hA : RdS st a) (hB : RdS st b) (hb : bigS a.x) : C 33 [.agg #[vS a.p a.x.items.length,vS a.q a.x.floors.length],.agg #[vS b.p b.x.items.length,vS b.q b.x.floors.length]] st (fun v s => ∃ x,v = .bool x ∧ (x = true ↔ a.x = b.x) ∧ s = st) := by
 have hs1 := hb.1
 have hs2 := hb.2.1
 refine AC.enterX (i := ⟨[2,3],[2,3,5,7,11,13],[0,1,2,3,4],[]⟩) [] Try.func33 rfl rfl (by kernel_rfl) (by kernel_rfl) Try.ntmps33 (Nat.le_of_ble_eq_true rfl) rfl ?_
 iterate 2 refine ⟨_,rfl,?_⟩
 refine AW.cutM (2) st [(2,vL 2 0 (0)),(3,vL 3 0 (1)),(4,vB false)] [(2,0,[vS a.p a.x.items.length,vS a.q a.x.floors.length]),(3,1,[vS b.p b.x.items.length,vS b.q b.x.floors.length])] ⟨rfl,rfl,rfl,trivial⟩ ⟨rfl,rfl,trivial⟩ rfl fun ρ0 ff => ?_
 refine ⟨_,rfl,?_⟩
 refine ⟨_,op_ldo rfl rfl rfl rfl,?_⟩
 refine ⟨_,rfl,?_⟩
 refine ⟨_,op_ldo rfl rfl rfl rfl,?_⟩
 refine ⟨_,rfl,(ac_slices_Equal_Item a.p b.p a.x.items b.x.items st hA.1 hB.1 (by first | assumption | omega)).mono ?_⟩
 rintro _ st ⟨x9,rfl,h9,rfl⟩
 rcases x9 with _|_
 ·replace h9 := fun k => Bool.false_ne_true (h9.2 k)
  refine ⟨_,rfl,?_⟩
  refine cxs ?_
  exact ⟨.inl rfl,_,rfl,false,rfl,⟨fun h => absurd h Bool.false_ne_true,fun h => (show False from (absurd (congrArg Sta.items h) h9)).elim⟩,rfl⟩
 ·replace h9 := h9.1 rfl
  refine ⟨_,rfl,?_⟩
  refine ⟨_,op_ldo rfl rfl rfl rfl,?_⟩
  refine ⟨_,rfl,?_⟩
  refine ⟨_,op_ldo rfl rfl rfl rfl,?_⟩
  refine ⟨_,rfl,(ac_slices_Equal_Floor a.q b.q a.x.floors b.x.floors st hA.2 hB.2 (by first | assumption | omega)).mono ?_⟩
  rintro _ st ⟨x15,rfl,h15,rfl⟩
  rcases x15 with _|_
  ·replace h15 := fun k => Bool.false_ne_true (h15.2 k)
   refine ⟨_,rfl,?_⟩
   refine cxs ?_
   exact ⟨.inl rfl,_,rfl,false,rfl,⟨fun h => absurd h Bool.false_ne_true,fun h => (show False from (absurd (congrArg Sta.floors h) h15)).elim⟩,rfl⟩
  ·replace h15 := h15.1 rfl
   refine ⟨_,rfl,?_⟩
   refine cxs ?_
   exact ⟨.inl rfl,_,rfl,true,rfl,⟨fun _ => sta_ext h9 h15,fun _ => rfl⟩,rfl⟩
end Go.Proofs.Yteabadoaeadcgaa.AM
