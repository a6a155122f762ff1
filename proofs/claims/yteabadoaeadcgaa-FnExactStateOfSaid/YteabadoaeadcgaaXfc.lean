/- Part 3 of the texts on which the law's proof rests. -/
import Derived.Test.YteabadoaeadcgaaXfb
import Derived.Lib.Bytealg
namespace Go.Proofs.Yteabadoaeadcgaa.AM
open Go Go.Proofs
set_option linter.unusedVariables false
set_option linter.unusedSimpArgs false
set_option maxRecDepth 100000
set_option maxHeartbeats 4000000
def Sf (l : List Int) (a : Int) (r : List Int) : Prop := ∃ k : Nat,a = (k : Int) ∧ k ≤ l.length ∧ l.drop k = r
theorem Sf.start (l : List Int) : Sf l 0 l := ⟨0,rfl,Nat.zero_le _,rfl⟩
theorem Sf.next {l x r : List Int} {k : Nat} (h1 : k ≤ l.length) (h2 : l.drop k = x ++ r) : Sf l ((k : Int) + (x.length : Int)) r := by
 refine ⟨k + x.length,by omega,?_,?_⟩
 ·have := congrArg List.length h2
  rw [List.length_drop,List.length_append] at this
  omega
 ·rw [← List.drop_drop,h2,List.drop_left]
theorem Sf.gn {l r : List Int} {a n : Int} (h : Sf l a (putN n ++ r)) (hn : 0 ≤ n ∧ n ≤ 2147483647) : ∃ k,gnR l a = (n,k,true) ∧ Sf l k r := by
 obtain ⟨k,rfl,h1,h2⟩ := h
 refine ⟨(k : Int) + (putN n).length,?_,Sf.next h1 h2⟩
 have hl : l = l.take k ++ (putN n ++ r) := by rw [← h2,List.take_append_drop]
 have hk : (l.take k).length = k := by rw [List.length_take]; omega
 have := gnAt_put (a := l.take k) (r := r) hn
 rw [← hl,hk] at this
 unfold gnR
 rw [this]
theorem Sf.num {l r : List Int} {a n m k : Int} {f b : Bool} (h : Sf l a (putN n ++ r)) (hn : 0 ≤ n ∧ n ≤ 2147483647) (hf : f = false) (he : (m,k,b) = rnF l a f) : m = n ∧ b = false ∧ Sf l k r := by
 subst hf
 obtain ⟨k',h1,h2⟩ := h.gn hn
 rw [rnF_yes h1.symm] at he
 injection he with e1 he
 injection he with e2 e3
 subst e1 e2 e3
 exact ⟨rfl,rfl,h2⟩
theorem toB_bsl (d : ByteArray) : toB (bsl d) = d := by
 obtain ⟨⟨l⟩⟩ := d
 unfold toB bsl
 rw [List.map_map]
 congr 2
 conv => rhs; rw [← List.map_id l]
 refine List.map_congr_left fun x _ => ?_
 simp
theorem Sf.gt {l r : List Int} {a k : Int} {d t : ByteArray} {b : Bool} (h : Sf l a (putS d ++ r)) (hd : d.size ≤ 2147483647) (he : (t,k,b) = gtR l a) : t = d ∧ b = true ∧ Sf l k r := by
 have h : Sf l a (putN d.size ++ (bsl d ++ r)) := by rw [← List.append_assoc]; exact h
 obtain ⟨k1,h1,k2,rfl,h3,h4⟩ := h.gn ⟨by omega,by omega⟩
 have hlen := congrArg List.length h4
 rw [List.length_drop,List.length_append,bsl_len] at hlen
 rw [← gtR_yes h1.symm (by omega)] at he
 injection he with e1 he
 injection he with e2 e3
 refine ⟨?_,e3,?_⟩
 ·rw [e1,h4,← bsl_len,List.take_left,toB_bsl]
 ·rw [e2,← bsl_len]; exact Sf.next h3 h4
theorem Sf.text {l r : List Int} {a k : Int} {d t : ByteArray} {f b : Bool} (h : Sf l a (putS d ++ r)) (hd : d.size ≤ 2147483647) (hf : f = false) (he : (t,k,b) = rtF l a f) : t = d ∧ b = false ∧ Sf l k r := by
 subst hf
 rcases hg : gtR l a with ⟨t',k',b'⟩
 obtain ⟨rfl,rfl,h3⟩ := h.gt hd hg.symm
 rw [rtF_yes hg.symm] at he
 injection he with e1 he
 injection he with e2 e3
 subst e1 e2 e3
 exact ⟨rfl,rfl,h3⟩
theorem Sf.count {l r : List Int} {a n m k top : Int} {f b : Bool} (h : Sf l a (putN n ++ r)) (hn : 0 ≤ n ∧ n ≤ 2147483647) (ht : n ≤ top) (hf : f = false) (he : (m,k,b) = rcF l a f top) : m = n ∧ b = false ∧ Sf l k r := by
 rcases hr : rnF l a f with ⟨m',k',b'⟩
 obtain ⟨rfl,rfl,h3⟩ := h.num hn hf hr.symm
 unfold rcF at he
 rw [hr] at he
 simp only at he
 rw [if_neg (by omega)] at he
 injection he with e1 he
 injection he with e2 e3
 subst e1 e2 e3
 exact ⟨rfl,rfl,h3⟩
def rsF (l : List Int) (a : Int) (f : Bool) : Nat → List Int × Int × Bool
 | 0 => ([],a,f)
 | i + 1 => match rsF l a f i with
  | (L,k,b) => match rnF l k b with
   | (n,k',b') => (L ++ [n],k',b')
theorem rsF_succ {l L : List Int} {a k k' n : Int} {f b b' : Bool} {i : Nat} (h : (L,k,b) = rsF l a f i) (h2 : (n,k',b') = rnF l k b) : (L ++ [n],k',b') = rsF l a f (i + 1) := by
 rw [rsF,← h]
 simp only
 rw [← h2]
theorem numsB_cons {L : List Int} {i : Nat} {x : Int} (h : L[i]? = some x) : numsB (L.drop i) = putN x ++ numsB (L.drop (i + 1)) := by
 rw [dropCons h,numsB,List.flatMap_cons]; rfl
theorem Sf.row {l r L0 : List Int} {a : Int} {f : Bool} (h : Sf l a (numsB L0 ++ r)) (h0 : ∀ x ∈ L0,0 ≤ x ∧ x ≤ 2147483647) (hf : f = false) : ∀ i,i ≤ L0.length → (rsF l a f i).1 = L0.take i ∧ (rsF l a f i).2.2 = false ∧ Sf l (rsF l a f i).2.1 (numsB (L0.drop i) ++ r)
 | 0,_ => ⟨rfl,hf,h⟩
 | i + 1,hi => by
  obtain ⟨h1,h2,h3⟩ := Sf.row h h0 hf i (by omega)
  have hx : L0[i]? = some L0[i] := List.getElem?_eq_getElem (by omega)
  rcases hr : rsF l a f i with ⟨L,k,b⟩
  rw [hr] at h1 h2 h3
  simp only at h1 h2 h3
  rcases hn : rnF l k b with ⟨n,k',b'⟩
  rw [numsB_cons hx,List.append_assoc] at h3
  obtain ⟨rfl,rfl,h5⟩ := h3.num (h0 _ (List.getElem_mem ..)) h2 hn.symm
  rw [← rsF_succ hr.symm hn.symm]
  refine ⟨?_,rfl,h5⟩
  show L ++ [_] = _
  rw [List.take_add_one,hx,h1]; rfl
theorem rcF_rng {l : List Int} {a m n k : Int} {f b : Bool} (hl : bytesOk l) (hs : l.length ≤ 1099511627776) (ha : a ≤ 1099511627776) (h0 : 0 ≤ m) (h : (n,k,b) = rcF l a f m) : 0 ≤ n ∧ n ≤ m ∧ k ≤ 1099511627776 := by
 have h1 := rnF_rng (f := f) hl hs ha
 unfold rcF at h
 rcases hr : rnF l a f with ⟨n',k',b'⟩
 rw [hr] at h1 h
 simp only at h1 h
 by_cases hc : m < n'
 ·rw [if_pos hc] at h
  injection h with e1 h
  injection h with e2 e3
  rw [e1,e2]
  exact ⟨Int.le_refl _,h0,h1.1⟩
 ·rw [if_neg hc] at h
  injection h with e1 h
  injection h with e2 e3
  rw [e1,e2]
  exact ⟨h1.2.1,by omega,h1.1⟩
theorem rnF_get {l : List Int} {a n k : Int} {f b : Bool} (hl : bytesOk l) (hs : l.length ≤ 1099511627776) (ha : a ≤ 1099511627776) (h : (n,k,b) = rnF l a f) : k ≤ 1099511627776 ∧ 0 ≤ n ∧ n ≤ 2147483647 := by
 have := rnF_rng (f := f) hl hs ha
 rw [← h] at this
 exact this
theorem gnR_live {l : List Int} {a n k : Int} (h : (n,k,true) = gnR l a) : 0 < l.length := by
 cases l with
 | nil =>
  unfold gnR gnAt at h
  split at h
  ·rename_i r hr
   split at hr
   ·cases hr
   ·simp [gnF] at hr
  ·cases h
 | cons x l => exact Nat.succ_pos _
theorem rnF_live {l : List Int} {a n k : Int} {f : Bool} (h : (n,k,false) = rnF l a f) : 0 < l.length := by
 unfold rnF at h
 rcases hg : gnR l a with ⟨n',k',b⟩
 rw [hg] at h
 simp only at h
 split at h
 ·rename_i hc; rw [hc.2] at hg; exact gnR_live hg.symm
 ·injection h with _ h; injection h with _ h; cases h
theorem rcF_live {l : List Int} {a n k m : Int} {f : Bool} (h : (n,k,false) = rcF l a f m) : 0 < l.length := by
 unfold rcF at h
 rcases hg : rnF l a f with ⟨n',k',b⟩
 rw [hg] at h
 simp only at h
 split at h
 ·injection h with _ h; injection h with _ h; cases h
 ·injection h with _ h; injection h with _ h; subst h; exact rnF_live hg.symm
theorem Pr.thenNew {c q : Option Addr} {a b d : St} (h : Pr c a b) (k : Pr q b d) (hn : New a.next q) : Pr c a d := ⟨Nat.le_trans h.1 k.1,fun x hx hc => (k.2 x (Nat.lt_of_lt_of_le hx h.1) fun r hr he => by have := hn r hr; omega).trans (h.2 x hx hc)⟩
abbrev DisR (c : Nat) (p : Option Addr) (l : List Int) : Prop := l = [] ∨ Dis (some ⟨c,0,none⟩) p
theorem Pr.rowsD {c : Nat} {p : Option Addr} {l : List Int} {s s' : St} (h : Pr (some ⟨c,0,none⟩) s s') (hd : DisR c p l) (hR : Rows s 1 fB p l) : Rows s' 1 fB p l := by
 rcases hd with rfl | hd
 ·exact .inl rfl
 ·exact h.rows hd hR
theorem DisR.new {p : Option Addr} {l : List Int} {s : St} (hR : Rows s 1 fB p l) : DisR s.next p l := by
 rcases hR with rfl | ⟨b,off,blk,rfl,_,hb,_⟩
 ·exact .inl rfl
 ·exact .inr fun x y hx hy he => by injection hx with hx; injection hy with hy; subst hx hy; simp only at he; omega
theorem Pc.own.pr {s s' : St} {x : Pc} {q : Option Addr} (h : x.own s) (hP : Pr q s s') (hd : Dis q x.p) : x.own s' := h.keep hP.1 fun r hr => hP.2 _ (h.old r hr) fun t ht he => hd t r ht hr he.symm
theorem Pc.own.pres {s s' : St} {x : Pc} (h : x.own s) (hP : Pres s s') : x.own s' := h.keep hP.1 fun r hr => hP.2 _ (h.old r hr)
theorem ac_spec_l10Many (c : Nat) (p : Option Addr) (l : List Int) (a : Int) (f : Bool) (tm : Int) (st : St) (hO : (rdC c p l a f).own st) (hR : Rows st 1 fB p l) (hd : DisR c p l) (hl : bytesOk l) (hs : l.length ≤ 1099511627776) (ha : a ≤ 1099511627776) (htm : tm = 1 ∨ tm = 2) : C 96 [vP c 0,vI tm] st (fun v s => ∃ q L k' b',v = vS q L.length ∧ L.length ≤ 200 ∧ k' ≤ 1099511627776 ∧ (b' = false → 0 < l.length) ∧ (f = false → ∀ (n0 : Int) L0 r,(∀ x ∈ L0,0 ≤ x ∧ x ≤ 2147483647) → (L0.length : Int) = n0 * tm → 0 ≤ n0 → n0 ≤ 100 → Sf l a (putN n0 ++ (numsB L0 ++ r)) → L = L0 ∧ b' = false ∧ Sf l k' r) ∧ OwnR s 1 fI q L ∧ New st.next q ∧ (rdC c p l k' b').own s ∧ Pr (some ⟨c,0,none⟩) st s) := by
 have hc0 := (rdC_mem hO).1
 refine AC.enterX (i := ⟨[],[],[0,1,4,5,6,7,8,27],[]⟩) [] Try.func96 rfl rfl (by kernel_rfl) (by kernel_rfl) Try.ntmps96 (Nat.le_of_ble_eq_true rfl) rfl ?_
 refine AW.cut lo0 st [(0,vP c 0),(1,vI tm),(4,.slice none 0 0)] ⟨rfl,rfl,rfl,trivial⟩ fun ρ0 => ?_
 refine ⟨_,rfl,(ac_spec_num c p l a f st hO hR hl hs ha).mono ?_⟩
 rintro _ s10 ⟨n,k,b,rfl,h10,hO10,hP10⟩
 refine AW.cut lo0 s10 [(0,vP c 0),(1,vI tm),(4,.slice none 0 0),(5,vI n)] ⟨rfl,rfl,rfl,rfl,trivial⟩ fun ρ0 => ?_
 obtain ⟨hk,hn0,hn1⟩ := rnF_get hl hs ha h10
 obtain ⟨M,hM,hM0,hM1,hM2⟩ : ∃ M,n * tm = M ∧ 0 ≤ M ∧ M ≤ 4294967294 ∧ (n ≤ 100 → M ≤ 200) := by
  rcases htm with rfl | rfl
  ·exact ⟨n,Int.mul_one n,hn0,by omega,fun h => by omega⟩
  ·exact ⟨n * 2,rfl,by omega,by omega,fun h => by omega⟩
 refine op_nilK (z := 1) (f := fI) rfl rfl rfl rfl (by decide) rfl ?_
 intro q11 s11 hO11 hP11 hN11
 refine cxs ?_
 have hQ0 : OwnR s11 1 fI q11 [] := hO11
 have hP0 : Pr (some ⟨c,0,none⟩) st s11 := hP10.trans hP11.pr
 have hN0 : New st.next q11 := hN11.le hP10.1
 have hO0 : (rdC c p l k b).own s11 := hO10.pres hP11
 refine AW.cut lo0 s11 [(0,vP c 0),(1,vI tm),(4,.slice none 0 0),(5,vI n),(6,vS q11 0),(7,vI (0))] ⟨rfl,rfl,rfl,rfl,rfl,rfl,trivial⟩ fun ρ0 => ?_
 refine AW.loop0 (fun x : Nat × Option Addr × List Int × Int × Bool => [(0,vP c 0),(1,vI tm),(4,.slice none 0 0),(5,vI n),(6,vS x.2.1 x.2.2.1.length),(7,vI (x.1 : Int))]) (fun m (x : Nat × Option Addr × List Int × Int × Bool) st' => m = 200 - x.1 ∧ x.1 ≤ 200 ∧ x.2.2.1.length = x.1 ∧ x.2.2.2.1 ≤ 1099511627776 ∧ ((x.1 : Int) ≤ M ∧ (x.2.2.2.2 = false → 0 < l.length)) ∧ (f = false → ∀ (n0 : Int) L0 r,(∀ x ∈ L0,0 ≤ x ∧ x ≤ 2147483647) → (L0.length : Int) = n0 * tm → 0 ≤ n0 → n0 ≤ 100 → Sf l a (putN n0 ++ (numsB L0 ++ r)) → n = n0 ∧ M = (L0.length : Int) ∧ x.2.2.1 = L0.take x.1 ∧ x.2.2.2.2 = false ∧ Sf l x.2.2.2.1 (numsB (L0.drop x.1) ++ r)) ∧ OwnR st' 1 fI x.2.1 x.2.2.1 ∧ New st.next x.2.1 ∧ (rdC c p l x.2.2.2.1 x.2.2.2.2).own st' ∧ Pr (some ⟨c,0,none⟩) st st') (0,q11,[],k,b) _ ⟨rfl,rfl,rfl,rfl,rfl,rfl,trivial⟩ rfl ⟨rfl,Nat.zero_le _,rfl,hk,⟨hM0,fun hb => by subst hb; exact rnF_live h10⟩,fun hf n0 L0 r h0 hlen h1 h2 hS => (by obtain ⟨e1,e2,e3⟩ := hS.num ⟨h1,by omega⟩ hf h10; subst e1; exact ⟨rfl,by rw [← hM,hlen],rfl,e2,e3⟩),hQ0,hN0,hO0,hP0⟩ ?_
 rintro m ⟨i,q,L,k',b'⟩ ρ0 st' ⟨rfl,hi,hLl,hk',⟨hiM,hlv⟩,hS,hQ,hN,hO',hP⟩
 simp only at hi hLl hk' hiM hlv hS hQ hN hO' hP
 have hmem := (rdC_mem hO').2
 have ew15 : IntKind.wrap .i64 (n * tm) = n * tm := wrap_i64 (by omega) (by omega)
 iterate 2 refine ⟨_,rfl,?_⟩
 rintro (_|_) h16
 ·replace h16 : ¬ ((i : Int) < (IntKind.wrap .i64 (n * tm))) := of_decide_eq_false h16
  rw [ew15] at h16
  iterate 2 refine ⟨_,rfl,?_⟩
  refine AW.cut lo0 st' [(0,vP c 0),(1,vI tm),(4,.slice none 0 0),(5,vI n),(6,vS q L.length),(7,vI (i : Int)),(27,vB false)] ⟨rfl,rfl,rfl,rfl,rfl,rfl,rfl,trivial⟩ fun ρ0 => ?_
  refine cxs ?_
  iterate 2 refine ⟨_,rfl,?_⟩
  refine ⟨_,op_ld rfl rfl rfl rfl hmem rfl,?_⟩
  rcases b' with _|_
  ·refine ⟨_,rfl,?_⟩
   rintro (_|_) h43
   ·replace h43 : ¬ (n > (100)) := of_decide_eq_false h43
    iterate 3 refine ⟨_,rfl,?_⟩
    refine op_stO (z := 0) (c := c) (off := 2) rfl rfl rfl rfl rfl rfl hO' (by simp) ?_
    intro s5 hO5 hP5 hn5
    refine cxs ?_
    refine cxs ?_
    exact ⟨.inl rfl,_,rfl,q,L,k',false,rfl,by omega,hk',(fun _ => hlv rfl),fun hf n0 L0 r h0 hlen h1 h2 hSf => (by
     obtain ⟨e1,e2,e3,e4,e5⟩ := hS hf n0 L0 r h0 hlen h1 h2 hSf
     exact ⟨by rw [e3]; exact List.take_of_length_le (by omega),rfl,by rw [List.drop_eq_nil_of_le (by omega)] at e5; exact e5⟩),hP5.ownR (Dis.of (Old.some hc0) hN) hQ,hN,hO5,hP.trans hP5⟩
   ·replace h43 : n > (100) := of_decide_eq_true h43
    iterate 3 refine ⟨_,rfl,?_⟩
    refine op_stO (z := 0) (c := c) (off := 2) rfl rfl rfl rfl rfl rfl hO' (by simp) ?_
    intro s5 hO5 hP5 hn5
    refine cxs ?_
    refine cxs ?_
    exact ⟨.inl rfl,_,rfl,q,L,k',true,rfl,by omega,hk',(fun h => (by cases h)),fun hf n0 L0 r h0 hlen h1 h2 hSf => (by
     obtain ⟨e1,e2,e3,e4,e5⟩ := hS hf n0 L0 r h0 hlen h1 h2 hSf
     omega),hP5.ownR (Dis.of (Old.some hc0) hN) hQ,hN,hO5,hP.trans hP5⟩
  ·iterate 3 refine ⟨_,rfl,?_⟩
   refine op_stO (z := 0) (c := c) (off := 2) rfl rfl rfl rfl rfl rfl hO' (by simp) ?_
   intro s5 hO5 hP5 hn5
   refine cxs ?_
   refine cxs ?_
   exact ⟨.inl rfl,_,rfl,q,L,k',true,rfl,by omega,hk',(fun h => (by cases h)),fun hf n0 L0 r h0 hlen h1 h2 hSf => (by
    obtain ⟨e1,e2,e3,e4,e5⟩ := hS hf n0 L0 r h0 hlen h1 h2 hSf
    cases e4),hP5.ownR (Dis.of (Old.some hc0) hN) hQ,hN,hO5,hP.trans hP5⟩
 ·replace h16 : (i : Int) < (IntKind.wrap .i64 (n * tm)) := of_decide_eq_true h16
  rw [ew15] at h16
  iterate 2 refine ⟨_,rfl,?_⟩
  refine ⟨_,op_ld rfl rfl rfl rfl hmem rfl,?_⟩
  rcases b' with _|_
  ·iterate 3 refine ⟨_,rfl,?_⟩
   rintro (_|_) h26
   ·replace h26 : ¬ (n ≤ (100)) := of_decide_eq_false h26
    refine ⟨_,rfl,?_⟩
    refine AW.cut lo0 st' [(0,vP c 0),(1,vI tm),(4,.slice none 0 0),(5,vI n),(6,vS q L.length),(7,vI (i : Int)),(27,vB false)] ⟨rfl,rfl,rfl,rfl,rfl,rfl,rfl,trivial⟩ fun ρ0 => ?_
    refine cxs ?_
    iterate 2 refine ⟨_,rfl,?_⟩
    refine ⟨_,op_ld rfl rfl rfl rfl hmem rfl,?_⟩
    refine ⟨_,rfl,?_⟩
    rintro (_|_) h43
    ·replace h43 : ¬ (n > (100)) := of_decide_eq_false h43
     iterate 3 refine ⟨_,rfl,?_⟩
     refine op_stO (z := 0) (c := c) (off := 2) rfl rfl rfl rfl rfl rfl hO' (by simp) ?_
     intro s5 hO5 hP5 hn5
     refine cxs ?_
     refine cxs ?_
     exact absurd h43 (by omega)
    ·replace h43 : n > (100) := of_decide_eq_true h43
     iterate 3 refine ⟨_,rfl,?_⟩
     refine op_stO (z := 0) (c := c) (off := 2) rfl rfl rfl rfl rfl rfl hO' (by simp) ?_
     intro s5 hO5 hP5 hn5
     refine cxs ?_
     refine cxs ?_
     exact ⟨.inl rfl,_,rfl,q,L,k',true,rfl,by omega,hk',(fun h => (by cases h)),fun hf n0 L0 r h0 hlen h1 h2 hSf => (by
      obtain ⟨e1,e2,e3,e4,e5⟩ := hS hf n0 L0 r h0 hlen h1 h2 hSf
      omega),hP5.ownR (Dis.of (Old.some hc0) hN) hQ,hN,hO5,hP.trans hP5⟩
   ·replace h26 : n ≤ (100) := of_decide_eq_true h26
    refine ⟨_,rfl,?_⟩
    refine AW.cut lo0 st' [(0,vP c 0),(1,vI tm),(4,.slice none 0 0),(5,vI n),(6,vS q L.length),(7,vI (i : Int)),(27,vB true)] ⟨rfl,rfl,rfl,rfl,rfl,rfl,rfl,trivial⟩ fun ρ0 => ?_
    refine cxs ?_
    refine ⟨_,rfl,(ac_spec_num c p l k' false st' hO' (hP.rowsD hd hR) hl hs hk').mono ?_⟩
    rintro _ s31 ⟨n31,k31,b31,rfl,h31,hO31,hP31⟩
    refine AW.cut lo0 s31 [(0,vP c 0),(1,vI tm),(4,.slice none 0 0),(5,vI n),(6,vS q L.length),(7,vI (i : Int)),(8,vI n31),(27,vB true)] ⟨rfl,rfl,rfl,rfl,rfl,rfl,rfl,rfl,trivial⟩ fun ρ0 => ?_
    have hQ31 : OwnR s31 1 fI q L := hP31.ownR (Dis.of (Old.some hc0) hN) hQ
    refine op_one (z := 1) (a := (n31 : Int)) (f := fI) rfl rfl rfl rfl rfl (by decide) rfl (Nat.le_of_ble_eq_true rfl) rfl rfl rfl ?_
    refine op_snoc (z := 1) (st := s31) (f := fI) (b := 8) (l := L) (x := n31) rfl rfl rfl rfl rfl rfl rfl (by decide) fI_len rfl rfl rfl (by omega) (by unfold maxLen; omega) hQ31 ?_
    intro q35 s35 hO35 hP35 hN35
    refine AW.cut lo0 s35 [(0,vP c 0),(1,vI tm),(4,.slice none 0 0),(5,vI n),(6,vS q35 (L ++ [n31]).length),(7,vI (i : Int)),(8,vI n31),(27,vB true)] ⟨rfl,rfl,rfl,rfl,rfl,rfl,rfl,rfl,trivial⟩ fun ρ0 => ?_
    have ew29 : IntKind.wrap .i64 ((i : Int) + (1)) = ((i + 1 : Nat) : Int) := (wrap_i64 (by omega) (by omega)).trans (by omega)
    refine ⟨_,rfl,?_⟩
    have hi200 : i < 200 := by have := hM2 h26; omega
    refine ⟨(i + 1,q35,L ++ [n31],k31,b31),200 - (i + 1),by omega,⟨rfl,rfl,rfl,rfl,rfl,congrArg (Value.int .i64) ew29,trivial⟩,rfl,rfl,hi200,by rw [List.length_append,hLl]; rfl,(rnF_get hl hs hk' h31).1,⟨by simp only; omega,fun hb => by simp only at hb; subst hb; exact rnF_live h31⟩,fun hf n0 L0 r h0 hlen h1 h2 hSf => ?_,hO35,hN35.le (Nat.le_trans hP.1 hP31.1),hO31.pr hP35 (Dis.of (Old.some hc0) hN).symm,(hP.trans hP31).thenNew hP35 hN⟩
    obtain ⟨e1,e2,e3,e4,e5⟩ := hS hf n0 L0 r h0 hlen h1 h2 hSf
    have hx : L0[i]? = some L0[i] := List.getElem?_eq_getElem (by omega)
    rw [numsB_cons hx,List.append_assoc] at e5
    obtain ⟨g1,g2,g3⟩ := e5.num (h0 _ (List.getElem_mem ..)) rfl h31
    exact ⟨e1,e2,by show L ++ [n31] = _; rw [List.take_add_one,hx,← e3,g1]; rfl,g2,g3⟩
  ·iterate 3 refine ⟨_,rfl,?_⟩
   refine AW.cut lo0 st' [(0,vP c 0),(1,vI tm),(4,.slice none 0 0),(5,vI n),(6,vS q L.length),(7,vI (i : Int)),(27,vB false)] ⟨rfl,rfl,rfl,rfl,rfl,rfl,rfl,trivial⟩ fun ρ0 => ?_
   refine cxs ?_
   iterate 2 refine ⟨_,rfl,?_⟩
   refine ⟨_,op_ld rfl rfl rfl rfl hmem rfl,?_⟩
   iterate 3 refine ⟨_,rfl,?_⟩
   refine op_stO (z := 0) (c := c) (off := 2) rfl rfl rfl rfl rfl rfl hO' (by simp) ?_
   intro s5 hO5 hP5 hn5
   refine cxs ?_
   refine cxs ?_
   exact ⟨.inl rfl,_,rfl,q,L,k',true,rfl,by omega,hk',(fun h => (by cases h)),fun hf n0 L0 r h0 hlen h1 h2 hSf => (by
    obtain ⟨e1,e2,e3,e4,e5⟩ := hS hf n0 L0 r h0 hlen h1 h2 hSf
    cases e4),hP5.ownR (Dis.of (Old.some hc0) hN) hQ,hN,hO5,hP.trans hP5⟩
theorem ac_impl_StateBytes (s : SV) (st : St) (hR : RdS st s) (hb : bigS s.x) (hk : stateOk s.x) : C 47 [.agg #[vS s.p s.x.items.length,vS s.q s.x.floors.length]] st (fun v s' => ∃ q,v = vS q (stB s.x).length ∧ OwnR s' 1 fB q (stB s.x) ∧ New st.next q ∧ Pres st s') := by
 have hs1 : s.x.items.length ≤ 1048576 := hb.1
 have hs2 : s.x.floors.length ≤ 1048576 := hb.2.1
 have hpl1 := putN_len (s.x.items.length : Int)
 have hpl2 := putN_len (s.x.floors.length : Int)
 refine AC.enterX (i := ⟨[1,5,6,8],[1,5,6,8,12,16,23,26,29,32,35,38,41,48,54,62,65],[0,1,2,3,5,6,8,11,17,18,19,20,55,56,57,58],[]⟩) [(8,[3,6,9,12,15],[5,8,11,14,17]),(14,[3],[5])] Try.func47 rfl rfl (by kernel_rfl) (by kernel_rfl) Try.ntmps47 (Nat.le_of_ble_eq_true rfl) rfl ?_
 refine ⟨_,rfl,?_⟩
 refine AW.cutM (1) st [(1,vL 1 0 (0)),(2,.slice none 0 0)] [(1,0,[vS s.p s.x.items.length,vS s.q s.x.floors.length])] ⟨rfl,rfl,trivial⟩ ⟨rfl,trivial⟩ rfl fun ρ0 ff => ?_
 refine ⟨_,op_ldo rfl rfl rfl rfl,?_⟩
 refine ⟨_,rfl,(AC.tru (ac_impl_StateOk s st hR hb) hk).mono ?_⟩
 rintro _ st ⟨rfl,rfl⟩
 refine ⟨_,rfl,?_⟩
 refine AW.cutM (1) st [(1,vL 1 0 (0)),(2,.slice none 0 0),(11,vB false)] [(1,0,[vS s.p s.x.items.length,vS s.q s.x.floors.length])] ⟨rfl,rfl,rfl,trivial⟩ ⟨rfl,trivial⟩ rfl fun ρ0 ff => ?_
 refine cxs ?_
 refine ⟨_,rfl,?_⟩
 refine ⟨_,op_ldo rfl rfl rfl rfl,?_⟩
 refine ⟨_,rfl,?_⟩
 refine ⟨_,rfl,(ac_impl_PutNum (s.x.items.length : Int) st).mono ?_⟩
 rintro _ s15 ⟨q15,rfl,hO15,hN15,hP15⟩
 refine AW.cutM (1) s15 [(1,vL 1 0 (0)),(2,.slice none 0 0),(3,vS q15 (putN (s.x.items.length : Int)).length)] [(1,0,[vS s.p s.x.items.length,vS s.q s.x.floors.length])] ⟨rfl,rfl,rfl,trivial⟩ ⟨rfl,trivial⟩ rfl fun ρ0 ff => ?_
 refine ⟨_,rfl,?_⟩
 refine ⟨_,op_ldo rfl rfl rfl rfl,?_⟩
 refine ⟨_,rfl,?_⟩
 refine AW.cutM (1) s15 [(1,vL 1 0 (0)),(2,.slice none 0 0),(3,vS q15 (putN (s.x.items.length : Int)).length),(17,vS s.p s.x.items.length),(18,vI (s.x.items.length : Int)),(19,vI (0))] [(1,0,[vS s.p s.x.items.length,vS s.q s.x.floors.length])] ⟨rfl,rfl,rfl,rfl,rfl,rfl,trivial⟩ ⟨rfl,trivial⟩ rfl fun ρ0 ff => ?_
 refine AW.loopM (fun x : Nat × Option Addr × List Int => [(1,vL 1 0 (0)),(2,.slice none 0 0),(3,vS x.2.1 x.2.2.length),(17,vS s.p s.x.items.length),(18,vI (s.x.items.length : Int)),(19,vI (x.1 : Int))]) (fun x : Nat × Option Addr × List Int => [(1,0,[vS s.p s.x.items.length,vS s.q s.x.floors.length])]) (fun m (x : Nat × Option Addr × List Int) st' => m = s.x.items.length - x.1 ∧ x.1 ≤ s.x.items.length ∧ x.2.2 = putN (s.x.items.length : Int) ++ itsB (s.x.items.take x.1) ∧ OwnR st' 1 fB x.2.1 x.2.2 ∧ New st.next x.2.1 ∧ Pres st st') (0,q15,putN (s.x.items.length : Int)) _ ⟨rfl,rfl,rfl,rfl,rfl,rfl,trivial⟩ ⟨rfl,trivial⟩ ⟨rfl,Nat.zero_le _,(List.append_nil _).symm,hO15,hN15,hP15⟩ ?_
 rintro m ⟨i,q,b⟩ ρ0 ff gg st' ⟨rfl,hi,hv,hO,hN,hP⟩
 simp only at hi hv hO hN
 have hbl : b.length ≤ 5 + 38 * s.x.items.length := by rw [hv,List.length_append]; have := its_len hk i; omega
 refine ⟨_,rfl,?_⟩
 rintro (_|_) h20
 ·replace h20 : ¬ ((i : Int) < (s.x.items.length : Int)) := of_decide_eq_false h20
  refine AW.cutM (gg) st' [(1,vL 1 0 (0)),(2,.slice none 0 0),(3,vS q b.length),(17,vS s.p s.x.items.length),(18,vI (s.x.items.length : Int)),(19,vI (i : Int)),(20,vB false)] [(1,0,[vS s.p s.x.items.length,vS s.q s.x.floors.length])] ⟨rfl,rfl,rfl,rfl,rfl,rfl,rfl,trivial⟩ ⟨rfl,trivial⟩ rfl fun ρ0 ff => ?_
  have hv1 : b = putN (s.x.items.length : Int) ++ itsB s.x.items := by rw [hv,show i = s.x.items.length by omega,List.take_length]
  obtain ⟨s1,hs1'⟩ : ∃ s1,s1 = st' := ⟨_,rfl⟩
  subst hs1'
  refine cxs ?_
  refine ⟨_,rfl,?_⟩
  refine ⟨_,op_ldo rfl rfl rfl rfl,?_⟩
  refine ⟨_,rfl,?_⟩
  refine ⟨_,rfl,(ac_impl_PutNum (s.x.floors.length : Int) s1).mono ?_⟩
  rintro _ s51 ⟨q51,rfl,hO51,hN51,hP51⟩
  have hfm : fl [⟨q,b⟩,⟨q51,putN (s.x.floors.length : Int)⟩] = b ++ putN (s.x.floors.length : Int) := by simp [fl]
  refine op_litR [⟨q,b⟩,⟨q51,putN (s.x.floors.length : Int)⟩] rfl rfl rfl (by decide) rfl rfl rfl (by decide) ?_
  intro q52 s52 hO52 hP52 hN52
  refine ⟨_,rfl,(ac_impl_joined q52 [⟨q,b⟩,⟨q51,putN (s.x.floors.length : Int)⟩] s52 (hO52.rows cRV_len) (fun r hr => by
  simp only [List.mem_cons,List.not_mem_nil,or_false] at hr
  rcases hr with rfl | rfl
  ·exact (hP51.trans hP52).rows (hO.rows fB_len)
  ·exact hP52.rows (hO51.rows fB_len)) (by show (2 : Nat) ≤ 1048576; omega) (by rw [hfm,List.length_append]; omega)).mono ?_⟩
  rintro _ s53 ⟨q53,rfl,hO53,hN53,hP53⟩
  refine AW.cutM (gg) s53 [(1,vL 1 0 (0)),(2,.slice none 0 0),(3,vS q53 (fl [⟨q,b⟩,⟨q51,putN (s.x.floors.length : Int)⟩]).length)] [(1,0,[vS s.p s.x.items.length,vS s.q s.x.floors.length])] ⟨rfl,rfl,rfl,trivial⟩ ⟨rfl,trivial⟩ rfl fun ρ0 ff => ?_
  have hN53' : New st.next q53 := hN53.le ((hP.trans hP51).trans hP52).1
  have hP53' := ((hP.trans hP51).trans hP52).trans hP53
  refine ⟨_,rfl,?_⟩
  refine ⟨_,op_ldo rfl rfl rfl rfl,?_⟩
  refine ⟨_,rfl,?_⟩
  refine AW.cutM (gg) s53 [(2,.slice none 0 0),(3,vS q53 (fl [⟨q,b⟩,⟨q51,putN (s.x.floors.length : Int)⟩]).length),(55,vS s.q s.x.floors.length),(56,vI (s.x.floors.length : Int)),(57,vI (0))] [] ⟨rfl,rfl,rfl,rfl,rfl,trivial⟩ trivial rfl fun ρ0 ff => ?_
  refine AW.loopM (fun z : Nat × Option Addr × List Int => [(2,.slice none 0 0),(3,vS z.2.1 z.2.2.length),(55,vS s.q s.x.floors.length),(56,vI (s.x.floors.length : Int)),(57,vI (z.1 : Int))]) (fun z : Nat × Option Addr × List Int => []) (fun m (z : Nat × Option Addr × List Int) st' => m = s.x.floors.length - z.1 ∧ z.1 ≤ s.x.floors.length ∧ z.2.2 = b ++ putN (s.x.floors.length : Int) ++ flsB (s.x.floors.take z.1) ∧ OwnR st' 1 fB z.2.1 z.2.2 ∧ New st.next z.2.1 ∧ Pres st st') (0,q53,fl [⟨q,b⟩,⟨q51,putN (s.x.floors.length : Int)⟩]) _ ⟨rfl,rfl,rfl,rfl,rfl,trivial⟩ trivial ⟨rfl,Nat.zero_le _,hfm.trans (List.append_nil _).symm,hO53,hN53',hP53'⟩ ?_
  rintro m ⟨j,r,f⟩ ρ0 ff gg st' ⟨rfl,hj,hw,hOf,hNf,hPf⟩
  simp only at hj hw hOf hNf
  have hfl : f.length ≤ 10 + 38 * s.x.items.length + 10 * s.x.floors.length := by rw [hw,List.length_append,List.length_append]; have := fls_len s.x.floors j; omega
  refine ⟨_,rfl,?_⟩
  rintro (_|_) h58
  ·replace h58 : ¬ ((j : Int) < (s.x.floors.length : Int)) := of_decide_eq_false h58
   refine AW.cutM (gg) st' [(2,.slice none 0 0),(3,vS r f.length),(55,vS s.q s.x.floors.length),(56,vI (s.x.floors.length : Int)),(57,vI (j : Int)),(58,vB false)] [] ⟨rfl,rfl,rfl,rfl,rfl,rfl,trivial⟩ trivial rfl fun ρ0 ff => ?_
   have hw1 : f = stB s.x := by rw [hw,show j = s.x.floors.length by omega,List.take_length,hv1]; rfl
   refine cxs ?_
   refine cxs ?_
   refine ⟨.inl rfl,_,rfl,r,?_⟩
   rw [← hw1]
   exact ⟨rfl,hOf,hNf,hPf⟩
  ·replace h58 : (j : Int) < (s.x.floors.length : Int) := of_decide_eq_true h58
   refine AW.cutM (gg) st' [(2,.slice none 0 0),(3,vS r f.length),(55,vS s.q s.x.floors.length),(56,vI (s.x.floors.length : Int)),(57,vI (j : Int)),(58,vB true)] [] ⟨rfl,rfl,rfl,rfl,rfl,rfl,trivial⟩ trivial rfl fun ρ0 ff => ?_
   refine cxs ?_
   refine op_at j (hPf.rows hR.2) (by omega) rfl rfl rfl rfl rfl rfl rfl ?_
   intro x59 b59 d59 k59 hy59 hb59 hm59 hc59 ho59
   refine ⟨_,op_lda rfl rfl rfl rfl rfl hm59 hc59 rfl,?_⟩
   refine ⟨_,rfl,?_⟩
   refine ⟨_,op_sto rfl rfl rfl rfl rfl rfl rfl,?_⟩
   refine AW.cutM (gg + 1) st' [(2,.slice none 0 0),(3,vS r f.length),(8,vL 8 0 (gg)),(55,vS s.q s.x.floors.length),(56,vI (s.x.floors.length : Int)),(57,vI (j : Int)),(58,vB true)] [(8,gg,[vI x59.id,vI x59.inc])] ⟨rfl,rfl,rfl,rfl,rfl,rfl,rfl,trivial⟩ ⟨rfl,trivial⟩ rfl fun ρ0 ff => ?_
   refine ⟨_,rfl,?_⟩
   refine ⟨_,op_ldo rfl rfl rfl rfl,?_⟩
   refine ⟨_,rfl,(ac_impl_PutNum x59.id st').mono ?_⟩
   rintro _ s64 ⟨q64,rfl,hO64,hN64,hP64⟩
   refine ⟨hP64.2,?_⟩
   refine ⟨_,rfl,?_⟩
   refine ⟨_,op_ldo rfl rfl rfl rfl,?_⟩
   refine ⟨ld_own rfl rfl rfl,?_⟩
   refine ⟨_,rfl,(ac_impl_PutNum x59.inc s64).mono ?_⟩
   rintro _ s67 ⟨q67,rfl,hO67,hN67,hP67⟩
   have hpa := putN_len x59.id
   have hpb := putN_len x59.inc
   have g64 := hP64.trans hP67
   have hfn : fl [⟨r,f⟩,⟨q64,putN x59.id⟩,⟨q67,putN x59.inc⟩] = f ++ flB x59 := by simp [fl,flB]
   have hil := flB_len x59
   refine op_litR [⟨r,f⟩,⟨q64,putN x59.id⟩,⟨q67,putN x59.inc⟩] rfl rfl rfl (by decide) rfl rfl rfl (by decide) ?_
   intro q68 s68 hO68 hP68 hN68
   refine ⟨_,rfl,(ac_impl_joined q68 [⟨r,f⟩,⟨q64,putN x59.id⟩,⟨q67,putN x59.inc⟩] s68 (hO68.rows cRV_len) (fun r hr => by
  simp only [List.mem_cons,List.not_mem_nil,or_false] at hr
  rcases hr with rfl | rfl | rfl
  ·exact (g64.trans hP68).rows (hOf.rows fB_len)
  ·exact (hP67.trans hP68).rows (hO64.rows fB_len)
  ·exact hP68.rows (hO67.rows fB_len)) (by show (3 : Nat) ≤ 1048576; omega) (by rw [hfn,List.length_append]; omega)).mono ?_⟩
   rintro _ s69 ⟨q69,rfl,hO69,hN69,hP69⟩
   refine AW.cutM (gg + 1) s69 [(2,.slice none 0 0),(3,vS q69 (fl [⟨r,f⟩,⟨q64,putN x59.id⟩,⟨q67,putN x59.inc⟩]).length),(8,vL 8 0 (gg)),(55,vS s.q s.x.floors.length),(56,vI (s.x.floors.length : Int)),(57,vI (j : Int)),(58,vB true)] [(8,gg,[vI x59.id,vI x59.inc])] ⟨rfl,rfl,rfl,rfl,rfl,rfl,rfl,trivial⟩ ⟨rfl,trivial⟩ rfl fun ρ0 ff => ?_
   have ew70 : IntKind.wrap .i64 ((j : Int) + (1)) = ((j + 1 : Nat) : Int) := (wrap_i64 (by omega) (by omega)).trans (by omega)
   refine ⟨_,rfl,?_⟩
   exact ⟨(j + 1,q69,fl [⟨r,f⟩,⟨q64,putN x59.id⟩,⟨q67,putN x59.inc⟩]),s.x.floors.length - (j + 1),by omega,⟨rfl,rfl,rfl,rfl,congrArg (Value.int .i64) ew70,trivial⟩,trivial,rfl,by first | omega | (simp only; omega),by rw [show flsB (s.x.floors.take (j + 1)) = flsB (s.x.floors.take j) ++ flB x59 from fm_succ hy59,← List.append_assoc,← hw]; exact hfn,hO69,hN69.le ((hPf.trans g64).trans hP68).1,((hPf.trans g64).trans hP68).trans hP69⟩
 ·replace h20 : (i : Int) < (s.x.items.length : Int) := of_decide_eq_true h20
  refine AW.cutM (gg) st' [(1,vL 1 0 (0)),(2,.slice none 0 0),(3,vS q b.length),(17,vS s.p s.x.items.length),(18,vI (s.x.items.length : Int)),(19,vI (i : Int)),(20,vB true)] [(1,0,[vS s.p s.x.items.length,vS s.q s.x.floors.length])] ⟨rfl,rfl,rfl,rfl,rfl,rfl,rfl,trivial⟩ ⟨rfl,trivial⟩ rfl fun ρ0 ff => ?_
  obtain ⟨s1,hs1'⟩ : ∃ s1,s1 = st' := ⟨_,rfl⟩
  subst hs1'
  refine cxs ?_
  refine op_at i (hP.rows hR.1) (by omega) rfl rfl rfl rfl rfl rfl rfl ?_
  intro x21 b21 d21 k21 hy21 hb21 hm21 hc21 ho21
  refine ⟨_,op_lda rfl rfl rfl rfl rfl hm21 hc21 rfl,?_⟩
  refine ⟨_,rfl,?_⟩
  refine ⟨_,op_sto rfl rfl rfl rfl rfl rfl rfl,?_⟩
  refine AW.cutM (gg + 1) s1 [(1,vL 1 0 (0)),(2,.slice none 0 0),(3,vS q b.length),(5,vL 5 0 (gg)),(17,vS s.p s.x.items.length),(18,vI (s.x.items.length : Int)),(19,vI (i : Int)),(20,vB true)] [(1,0,[vS s.p s.x.items.length,vS s.q s.x.floors.length]),(5,gg,[vI x21.id,vI x21.e.inc,vI x21.e.rank,vI x21.e.beat,vI x21.e.ver,.string x21.e.data])] ⟨rfl,rfl,rfl,rfl,rfl,rfl,rfl,rfl,trivial⟩ ⟨rfl,rfl,trivial⟩ rfl fun ρ0 ff => ?_
  refine ⟨_,rfl,?_⟩
  refine ⟨_,op_ldo rfl rfl rfl rfl,?_⟩
  refine ⟨_,rfl,?_⟩
  refine ⟨_,op_sto rfl rfl rfl rfl rfl rfl rfl,?_⟩
  refine AW.cutM (gg + 2) s1 [(1,vL 1 0 (0)),(2,.slice none 0 0),(3,vS q b.length),(5,vL 5 0 (gg)),(6,vL 6 0 (gg + 1)),(17,vS s.p s.x.items.length),(18,vI (s.x.items.length : Int)),(19,vI (i : Int)),(20,vB true)] [(1,0,[vS s.p s.x.items.length,vS s.q s.x.floors.length]),(5,gg,[vI x21.id,vI x21.e.inc,vI x21.e.rank,vI x21.e.beat,vI x21.e.ver,.string x21.e.data]),(6,gg + 1,[vI x21.e.inc,vI x21.e.rank,vI x21.e.beat,vI x21.e.ver,.string x21.e.data])] ⟨rfl,rfl,rfl,rfl,rfl,rfl,rfl,rfl,rfl,trivial⟩ ⟨rfl,rfl,rfl,trivial⟩ rfl fun ρ0 ff => ?_
  have hdz : x21.e.data.size ≤ 8 := okSize hk (List.mem_of_getElem? hy21)
  refine ⟨_,rfl,?_⟩
  refine ⟨_,op_ldo rfl rfl rfl rfl,?_⟩
  refine ⟨_,rfl,(ac_impl_PutNum x21.id s1).mono ?_⟩
  rintro _ s28 ⟨q28,rfl,hO28,hN28,hP28⟩
  refine ⟨hP28.2,?_⟩
  refine ⟨_,rfl,?_⟩
  refine ⟨_,op_ldo rfl rfl rfl rfl,?_⟩
  refine ⟨ld_own rfl rfl rfl,?_⟩
  refine ⟨_,rfl,(ac_impl_PutNum x21.e.inc s28).mono ?_⟩
  rintro _ s31 ⟨q31,rfl,hO31,hN31,hP31⟩
  refine ⟨hP31.low hP28,?_⟩
  refine ⟨_,rfl,?_⟩
  refine ⟨_,op_ldo rfl rfl rfl rfl,?_⟩
  refine ⟨ld_own rfl rfl rfl,?_⟩
  refine ⟨_,rfl,(ac_impl_PutNum x21.e.rank s31).mono ?_⟩
  rintro _ s34 ⟨q34,rfl,hO34,hN34,hP34⟩
  refine ⟨hP34.low (hP28.trans hP31),?_⟩
  refine ⟨_,rfl,?_⟩
  refine ⟨_,op_ldo rfl rfl rfl rfl,?_⟩
  refine ⟨ld_own rfl rfl rfl,?_⟩
  refine ⟨_,rfl,(ac_impl_PutNum x21.e.beat s34).mono ?_⟩
  rintro _ s37 ⟨q37,rfl,hO37,hN37,hP37⟩
  refine ⟨hP37.low ((hP28.trans hP31).trans hP34),?_⟩
  refine ⟨_,rfl,?_⟩
  refine ⟨_,op_ldo rfl rfl rfl rfl,?_⟩
  refine ⟨ld_own rfl rfl rfl,?_⟩
  refine ⟨_,rfl,(ac_impl_PutNum x21.e.ver s37).mono ?_⟩
  rintro _ s40 ⟨q40,rfl,hO40,hN40,hP40⟩
  refine ⟨hP40.low (((hP28.trans hP31).trans hP34).trans hP37),?_⟩
  refine ⟨_,rfl,?_⟩
  refine ⟨_,op_ldo rfl rfl rfl rfl,?_⟩
  refine ⟨ld_own rfl rfl rfl,?_⟩
  refine ⟨_,rfl,(ac_impl_PutText x21.e.data s40 (by first | assumption | omega)).mono ?_⟩
  rintro _ s43 ⟨q43,rfl,hO43,hN43,hP43⟩
  have g43 := hP43
  have g40 := hP40.trans g43
  have g37 := hP37.trans g40
  have g34 := hP34.trans g37
  have g31 := hP31.trans g34
  have g28 := hP28.trans g31
  have hfl : fl [⟨q,b⟩,⟨q28,putN x21.id⟩,⟨q31,putN x21.e.inc⟩,⟨q34,putN x21.e.rank⟩,⟨q37,putN x21.e.beat⟩,⟨q40,putN x21.e.ver⟩,⟨q43,putS x21.e.data⟩] = b ++ itB x21 := by simp [fl,itB,numsB,itL]
  have hil := itB_len hdz
  refine op_litR [⟨q,b⟩,⟨q28,putN x21.id⟩,⟨q31,putN x21.e.inc⟩,⟨q34,putN x21.e.rank⟩,⟨q37,putN x21.e.beat⟩,⟨q40,putN x21.e.ver⟩,⟨q43,putS x21.e.data⟩] rfl rfl rfl (by decide) rfl rfl rfl (by decide) ?_
  intro q44 s44 hO44 hP44 hN44
  refine ⟨_,rfl,(ac_impl_joined q44 [⟨q,b⟩,⟨q28,putN x21.id⟩,⟨q31,putN x21.e.inc⟩,⟨q34,putN x21.e.rank⟩,⟨q37,putN x21.e.beat⟩,⟨q40,putN x21.e.ver⟩,⟨q43,putS x21.e.data⟩] s44 (hO44.rows cRV_len) (fun r hr => by
  simp only [List.mem_cons,List.not_mem_nil,or_false] at hr
  rcases hr with rfl | rfl | rfl | rfl | rfl | rfl | rfl
  ·exact (g28.trans hP44).rows (hO.rows fB_len)
  ·exact (g31.trans hP44).rows (hO28.rows fB_len)
  ·exact (g34.trans hP44).rows (hO31.rows fB_len)
  ·exact (g37.trans hP44).rows (hO34.rows fB_len)
  ·exact (g40.trans hP44).rows (hO37.rows fB_len)
  ·exact (g43.trans hP44).rows (hO40.rows fB_len)
  ·exact hP44.rows (hO43.rows fB_len)) (by show (7 : Nat) ≤ 1048576; omega) (by rw [hfl,List.length_append]; omega)).mono ?_⟩
  rintro _ s45 ⟨q45,rfl,hO45,hN45,hP45⟩
  refine AW.cutM (gg + 2) s45 [(1,vL 1 0 (0)),(2,.slice none 0 0),(3,vS q45 (fl [⟨q,b⟩,⟨q28,putN x21.id⟩,⟨q31,putN x21.e.inc⟩,⟨q34,putN x21.e.rank⟩,⟨q37,putN x21.e.beat⟩,⟨q40,putN x21.e.ver⟩,⟨q43,putS x21.e.data⟩]).length),(5,vL 5 0 (gg)),(6,vL 6 0 (gg + 1)),(17,vS s.p s.x.items.length),(18,vI (s.x.items.length : Int)),(19,vI (i : Int)),(20,vB true)] [(1,0,[vS s.p s.x.items.length,vS s.q s.x.floors.length]),(5,gg,[vI x21.id,vI x21.e.inc,vI x21.e.rank,vI x21.e.beat,vI x21.e.ver,.string x21.e.data]),(6,gg + 1,[vI x21.e.inc,vI x21.e.rank,vI x21.e.beat,vI x21.e.ver,.string x21.e.data])] ⟨rfl,rfl,rfl,rfl,rfl,rfl,rfl,rfl,rfl,trivial⟩ ⟨rfl,rfl,rfl,trivial⟩ rfl fun ρ0 ff => ?_
  have ew46 : IntKind.wrap .i64 ((i : Int) + (1)) = ((i + 1 : Nat) : Int) := (wrap_i64 (by omega) (by omega)).trans (by omega)
  refine ⟨_,rfl,?_⟩
  exact ⟨(i + 1,q45,fl [⟨q,b⟩,⟨q28,putN x21.id⟩,⟨q31,putN x21.e.inc⟩,⟨q34,putN x21.e.rank⟩,⟨q37,putN x21.e.beat⟩,⟨q40,putN x21.e.ver⟩,⟨q43,putS x21.e.data⟩]),s.x.items.length - (i + 1),by omega,⟨rfl,rfl,rfl,rfl,rfl,congrArg (Value.int .i64) ew46,trivial⟩,⟨rfl,trivial⟩,rfl,by first | omega | (simp only; omega),by rw [show itsB (s.x.items.take (i + 1)) = itsB (s.x.items.take i) ++ itB x21 from fm_succ hy21,← List.append_assoc,← hv]; exact hfl,hO45,hN45.le ((hP.trans g28).trans hP44).1,((hP.trans g28).trans hP44).trans hP45⟩
theorem and255 (x : Int) : 0 ≤ bits .and .i64 x 255 ∧ bits .and .i64 x 255 < 256 := by
 simp only [bits,BitVec.toNat_and]
 have h : (BitVec.ofInt IntKind.i64.bits 255).toNat = 255 := by decide
 rw [h]
 have h2 : (BitVec.ofInt IntKind.i64.bits x).toNat &&& 255 ≤ 255 := Nat.and_le_right
 rw [wrap_i64 (by omega) (by omega)]
 omega
theorem op_and255 {P : Program} {ls : List Tmp} {call : ACallT} {o : Oper} {e : Operand → Value} {lo : Lo} {st : St} {K : Value × Lo × St → Prop} {t ty : TypeId} {x y : Operand} {a : Int} (ho : o.op = .binOp .and t x y ty) (hx : e x = .int .i64 a) (hy : e y = .int .i64 255)
  (hK : ∀ r,0 ≤ r → r < 256 → K (.int .i64 r,lo,st)) : ∃ r,aoper P ls call o e lo st = some r ∧ K r := by
 refine ⟨_,?_,hK (bits .and .i64 a 255) (and255 a).1 (and255 a).2⟩
 obtain ⟨d,op,ty,pos,after,gd⟩ := o
 simp only at ho
 subst ho
 simp [aoper,rop,hx,hy,abin,aint]
def Cur (st : St) (c : Nat) (p : Option Addr) (bs : List Int) : Prop := c < st.next ∧ ∃ (z : Nat) (i : Nat) (h : Int),st.mem c = some ⟨true,z,[.slice p bs.length bs.length,.int .i64 i,.int .i64 h]⟩ ∧ Ints st .u8 p bs ∧ (bs.length = 0 ∨ ∀ q,p = some q → q.block ≠ c) ∧ i ≤ bs.length
def PresC (c : Nat) (st st' : St) : Prop := st.next ≤ st'.next ∧ ∀ a,a < st.next → a ≠ c → st'.mem a = st.mem a
theorem PresC.refl (c : Nat) (st : St) : PresC c st st := ⟨Nat.le_refl _,fun _ _ _ => rfl⟩
theorem PresC.trans {c : Nat} {x y z : St} (h : PresC c x y) (k : PresC c y z) : PresC c x z := ⟨Nat.le_trans h.1 k.1,fun a ha hc => (k.2 a (Nat.lt_of_lt_of_le ha h.1) hc).trans (h.2 a ha hc)⟩
theorem PresC.ints {c : Nat} {st st' : St} {k : IntKind} {p : Option Addr} {l : List Int} (h : PresC c st st') (hi : Ints st k p l) (hp : l.length = 0 ∨ ∀ q,p = some q → q.block ≠ c) : Ints st' k p l := by
 rcases hi with hi | ⟨b,off,blk,rfl,hm,hb,hc⟩
 ·exact .inl hi
 rcases hp with h0 | hp
 ·exact .inl h0
 ·exact .inr ⟨b,off,blk,rfl,(h.2 b hb (hp _ rfl)).trans hm,Nat.lt_of_lt_of_le hb h.1,hc⟩
theorem PresC.own {c : Nat} {st st' : St} {k : IntKind} {p : Option Addr} {l : List Int} (h : PresC c st st') (hi : Own st k p l) (hp : ∀ q,p = some q → q.block ≠ c) : Own st' k p l := by
 rcases hi with ⟨rfl,rfl⟩ | ⟨a,rfl,ha,hm⟩
 ·exact .inl ⟨rfl,rfl⟩
 ·exact .inr ⟨a,rfl,Nat.lt_of_lt_of_le ha h.1,(h.2 a ha (hp _ rfl)).trans hm⟩
theorem Pres.c {c : Nat} {st st' : St} (h : Pres st st') : PresC c st st' := ⟨h.1,fun a ha _ => h.2 a ha⟩
theorem Cur.pres {c : Nat} {st st' : St} {bs : List Int} {p : Option Addr} (h : Pres st st') (hc : Cur st c p bs) : Cur st' c p bs := by
 obtain ⟨h1,z,i,x,hm,hI,hp,hi⟩ := hc
 exact ⟨Nat.lt_of_lt_of_le h1 h.1,z,i,x,(h.2 c h1).trans hm,h.ints hI,hp,hi⟩
theorem Cur.grow {c : Nat} {p q : Option Addr} {st0 st1 st2 : St} {bs : List Int} (h0 : Cur st0 c p bs) (h1 : PresC c st0 st1) (hc : Cur st1 c p bs) (h2 : ∀ a,a < st1.next → (∀ r,q = some r → a ≠ r.block) → st2.mem a = st1.mem a) (hn : st1.next ≤ st2.next) (hq : ∀ r,q = some r → st0.next ≤ r.block) : Cur st2 c p bs := by
 obtain ⟨hlt,_,_,_,_,hI,hp,_⟩ := h0
 obtain ⟨hl,z,i,h,hm,_,_,hi⟩ := hc
 have hP : PresC c st0 st2 := ⟨Nat.le_trans h1.1 hn,fun a ha hne => (h2 a (Nat.lt_of_lt_of_le ha h1.1) fun r hr he => by have := hq r hr; omega).trans (h1.2 a ha hne)⟩
 exact ⟨Nat.lt_of_lt_of_le hl hn,z,i,h,(h2 c hl fun r hr he => by have := hq r hr; omega).trans hm,hP.ints hI hp,hp,hi⟩
theorem ac_l1Byte (c : Nat) (p : Option Addr) (bs : List Int) (st : St) (hc : Cur st c p bs) (hs : bs.length < 1099511627776) : C 115 [.pointer (some ⟨c,0,none⟩)] st (fun v s => ∃ r,v = .int .i64 r ∧ 0 ≤ r ∧ r < 256 ∧ Cur s c p bs ∧ PresC c st s) := by
 obtain ⟨hlt,z,i,h,hm,hI,hp,hi⟩ := hc
 refine AC.enterX (i := ⟨[],[],[0,2,3,34],[]⟩) [(2,[],[]),(3,[],[]),(4,[],[])] Try.func115 rfl rfl (by kernel_rfl) (by kernel_rfl) Try.ntmps115 (Nat.le_of_ble_eq_true rfl) rfl ?_
 refine AW.cut lo0 st [(0,vP c 0)] ⟨rfl,trivial⟩ fun ρ0 => ?_
 refine ⟨_,rfl,?_⟩
 refine ⟨_,rfl,?_⟩
 refine ⟨_,op_ld rfl rfl rfl rfl hm rfl,?_⟩
 refine ⟨_,rfl,?_⟩
 refine ⟨_,rfl,?_⟩
 refine ⟨_,rfl,?_⟩
 refine ⟨_,rfl,?_⟩
 refine op_stc rfl rfl rfl rfl rfl rfl rfl hm rfl (Nat.le_of_ble_eq_true rfl) ?_
 intro st1 hm1 hn1 hk1
 obtain ⟨h1,hm1⟩ : ∃ h1,st1.mem c = some ⟨true,z,[.slice p bs.length bs.length,.int .i64 i,.int .i64 h1]⟩ := ⟨_,hm1⟩
 have hP1 : PresC c st st1 := ⟨Nat.le_of_eq hn1.symm,fun a _ hne => hk1 a hne⟩
 have hI1 := hP1.ints hI hp
 have hlt1 : c < st1.next := by rw [hn1]; exact hlt
 have hC1 : Cur st1 c p bs := ⟨hlt1,z,i,h1,hm1,hI1,hp,hi⟩
 refine AW.cut lo0 st1 [(0,vP c 0)] ⟨rfl,trivial⟩ fun ρ0 => ?_
 refine ⟨_,rfl,?_⟩
 refine ⟨_,rfl,?_⟩
 refine ⟨_,op_ld rfl rfl rfl rfl hm1 rfl,?_⟩
 refine ⟨_,rfl,?_⟩
 refine ⟨_,rfl,?_⟩
 refine ⟨_,rfl,?_⟩
 refine ⟨_,op_ld rfl rfl rfl rfl hm1 rfl,?_⟩
 refine ⟨_,rfl,?_⟩
 refine ⟨_,rfl,?_⟩
 refine op_and255 rfl rfl rfl ?_
 intro r1 hr1 hr1'
 refine AW.cut lo0 st1 [(0,vP c 0),(3,vI r1)] ⟨rfl,rfl,trivial⟩ fun ρ0 => ?_
 refine ⟨_,rfl,?_⟩
 refine ⟨_,rfl,?_⟩
 refine ⟨_,op_ld rfl rfl rfl rfl hm1 rfl,?_⟩
 refine ⟨_,rfl,?_⟩
 refine ⟨_,rfl,?_⟩
 refine ⟨_,op_ld rfl rfl rfl rfl hm1 rfl,?_⟩
 refine ⟨_,rfl,?_⟩
 refine ⟨_,rfl,?_⟩
 rintro (_|_) hd
 ·refine AW.cut lo0 st1 [(0,vP c 0),(3,vI r1),(34,vB false)] ⟨rfl,rfl,rfl,trivial⟩ fun ρ0 => ?_
  refine AW.cut lo0 st1 [(0,vP c 0),(3,vI r1)] ⟨rfl,rfl,trivial⟩ fun ρ0 => ?_
  repeat refine cxs ?_
  exact ⟨.inl rfl,_,rfl,r1,rfl,hr1,hr1',hC1,hP1⟩
 ·refine AW.cut lo0 st1 [(0,vP c 0),(3,vI r1),(34,vB true)] ⟨rfl,rfl,rfl,trivial⟩ fun ρ0 => ?_
  have hd : i < bs.length := Int.ofNat_lt.1 (of_decide_eq_true (show decide ((i : Int) < (bs.length : Int)) = true from hd))
  obtain ⟨b1,o1,k1,hpe,hb1,hc1⟩ := hI1.at hd
  refine ⟨_,rfl,?_⟩
  refine ⟨_,rfl,?_⟩
  refine ⟨_,op_ld rfl rfl rfl rfl hm1 rfl,?_⟩
  refine ⟨_,rfl,?_⟩
  refine ⟨_,rfl,?_⟩
  refine ⟨_,op_ld rfl rfl rfl rfl hm1 rfl,?_⟩
  refine ⟨_,op_idx (j := (i : Int)) (n := bs.length) (q := ⟨b1,o1,none⟩) rfl (congrArg (fun u => Value.slice u bs.length bs.length) hpe) rfl rfl rfl (Int.natCast_nonneg i) (Int.ofNat_lt.2 hd),?_⟩
  refine ⟨_,op_ld rfl rfl rfl rfl hb1 hc1,?_⟩
  refine ⟨_,rfl,?_⟩
  refine ⟨_,rfl,?_⟩
  refine op_and255 rfl rfl rfl ?_
  intro r2 hr2 hr2'
  refine AW.cut lo0 st1 [(0,vP c 0),(3,vI r2)] ⟨rfl,rfl,trivial⟩ fun ρ0 => ?_
  refine ⟨_,rfl,?_⟩
  refine ⟨_,rfl,?_⟩
  refine ⟨_,op_ld rfl rfl rfl rfl hm1 rfl,?_⟩
  refine ⟨_,rfl,?_⟩
  refine ⟨_,rfl,?_⟩
  refine ⟨_,rfl,?_⟩
  refine op_stc rfl rfl rfl rfl rfl rfl rfl hm1 rfl (Nat.le_of_ble_eq_true rfl) ?_
  intro st2 hm2 hn2 hk2
  have hm2 : st2.mem c = some ⟨true,z,[.slice p bs.length bs.length,.int .i64 (IntKind.wrap .i64 ((i : Int) + 1)),.int .i64 h1]⟩ := hm2
  rw [wrap_i64 (by omega) (by omega)] at hm2
  have hP2 : PresC c st1 st2 := ⟨Nat.le_of_eq hn2.symm,fun a _ hne => hk2 a hne⟩
  have hlt2 : c < st2.next := by rw [hn2]; exact hlt1
  have hC : Cur st2 c p bs := ⟨hlt2,z,i + 1,h1,hm2,hP2.ints hI1 hp,hp,hd⟩
  refine AW.cut lo0 st2 [(0,vP c 0),(3,vI r2)] ⟨rfl,rfl,trivial⟩ fun ρ0 => ?_
  repeat refine cxs ?_
  exact ⟨.inl rfl,_,rfl,r2,rfl,hr2,hr2',hC,hP1.trans hP2⟩
theorem tmod_lt {x n : Int} (hx : 0 ≤ x) (hn : 0 < n) : 0 ≤ x.tmod n ∧ x.tmod n < n := ⟨Int.tmod_nonneg _ hx,Int.tmod_lt_of_pos _ hn⟩
theorem ac_l1Below (c : Nat) (p : Option Addr) (bs : List Int) (n : Int) (st : St) (hc : Cur st c p bs) (hs : bs.length < 1099511627776) : C 70 [.pointer (some ⟨c,0,none⟩),.int .i64 n] st (fun v s => ∃ r,v = .int .i64 r ∧ 0 ≤ r ∧ (0 < n → r < n) ∧ (n ≤ 0 → r = 0) ∧ Cur s c p bs ∧ PresC c st s) := by
 refine AC.enter' (i := ⟨[],[],[0,1,4,5,6,7,8,10,12],[]⟩) Try.func70 rfl rfl (by kernel_rfl) Try.ntmps70 (Nat.le_of_ble_eq_true rfl) rfl (cw_sound _ _ _ _ _ ?_)
 refine ⟨_,rfl,?_⟩
 rintro (_|_) h0
 ·have h0 : 0 < n := by simpa using h0
  refine ⟨_,rfl,?_⟩
  rintro (_|_) h1
  ·refine ⟨_,rfl,(ac_l1Byte c p bs st hc hs).mono ?_⟩
   rintro _ s1 ⟨r1,rfl,hr1,hr1',hc1,hp1⟩
   refine ⟨_,rfl,(ac_l1Byte c p bs s1 hc1 hs).mono ?_⟩
   rintro _ s2 ⟨r2,rfl,hr2,hr2',hc2,hp2⟩
   refine ⟨_,rfl,(ac_l1Byte c p bs s2 hc2 hs).mono ?_⟩
   rintro _ s3 ⟨r3,rfl,hr3,hr3',hc3,hp3⟩
   refine ⟨_,rfl,(ac_l1Byte c p bs s3 hc3 hs).mono ?_⟩
   rintro _ s4 ⟨r4,rfl,hr4,hr4',hc4,hp4⟩
   refine ⟨_,rfl,?_⟩
   refine ⟨_,rfl,?_⟩
   refine ⟨_,rfl,?_⟩
   refine ⟨_,rfl,?_⟩
   refine ⟨_,rfl,?_⟩
   refine ⟨_,rfl,?_⟩
   refine ⟨_,op_rem rfl rfl rfl (by omega),?_⟩
   have e1 : IntKind.wrap .i64 (r1 * 16777216) = r1 * 16777216 := wrap_i64 (by omega) (by omega)
   have e2 : IntKind.wrap .i64 (r2 * 65536) = r2 * 65536 := wrap_i64 (by omega) (by omega)
   have e3 : IntKind.wrap .i64 (r3 * 256) = r3 * 256 := wrap_i64 (by omega) (by omega)
   have e4 : IntKind.wrap .i64 (r1 * 16777216 + r2 * 65536) = r1 * 16777216 + r2 * 65536 := wrap_i64 (by omega) (by omega)
   have e5 : IntKind.wrap .i64 (r1 * 16777216 + r2 * 65536 + r3 * 256) = r1 * 16777216 + r2 * 65536 + r3 * 256 := wrap_i64 (by omega) (by omega)
   have e6 : IntKind.wrap .i64 (r1 * 16777216 + r2 * 65536 + r3 * 256 + r4) = r1 * 16777216 + r2 * 65536 + r3 * 256 + r4 := wrap_i64 (by omega) (by omega)
   have hX : 0 ≤ IntKind.wrap .i64 (IntKind.wrap .i64 (IntKind.wrap .i64 (IntKind.wrap .i64 (r1 * 16777216) + IntKind.wrap .i64 (r2 * 65536)) + IntKind.wrap .i64 (r3 * 256)) + r4) := by
    rw [e1,e2,e4,e3,e5,e6]; omega
   refine ⟨.inl rfl,_,rfl,_,rfl,(tmod_lt hX h0).1,fun _ => (tmod_lt hX h0).2,fun h => by omega,hc4,((hp1.trans hp2).trans hp3).trans hp4⟩
  ·refine ⟨_,rfl,(ac_l1Byte c p bs st hc hs).mono ?_⟩
   rintro _ s1 ⟨r1,rfl,hr1,hr1',hc1,hp1⟩
   refine ⟨_,op_rem rfl rfl rfl (by omega),?_⟩
   refine ⟨.inl rfl,_,rfl,_,rfl,(tmod_lt hr1 h0).1,fun _ => (tmod_lt hr1 h0).2,fun h => by omega,hc1,hp1⟩
 ·have h0 : n ≤ 0 := by simpa using h0
  exact ⟨.inl rfl,_,rfl,0,rfl,Int.le_refl _,fun h => by omega,fun _ => rfl,hc,PresC.refl _ _⟩
theorem Ints.ap {st : St} {k : IntKind} {p : Option Addr} {l : List Int} (h : Ints st k p l) : l.length = 0 ∨ ∀ q,p = some q → q.block ≠ st.next := by
 rcases h with h | ⟨b,off,blk,rfl,_,hb,_⟩
 ·exact .inl h
 ·exact .inr fun q hq => by injection hq with hq; subst hq; exact Nat.ne_of_lt hb
theorem PresC.of {c : Nat} {st st' : St} : PresC c st st' ↔ Pr (some ⟨c,0,none⟩) st st' :=
 ⟨fun h => ⟨h.1,fun a ha hn => h.2 a ha (hn _ rfl)⟩,fun h => ⟨h.1,fun a ha hn => h.2 a ha fun q hq => by injection hq with hq; subst hq; exact hn⟩⟩
theorem ac_spec_l1New (p : Option Addr) (l : List Int) (st : St) (hI : Ints st .u8 p l) (hs : l.length < 1099511627776) : C 68 [vS p l.length] st (fun v s => v = vP st.next 0 ∧ Cur s st.next p l ∧ Pres st s ∧ s.next = st.next + 1) := by
 refine AC.enterX (i := ⟨[],[],[0,2,3,4,15],[]⟩) [] Try.func68 rfl rfl (by kernel_rfl) (by kernel_rfl) Try.ntmps68 (Nat.le_of_ble_eq_true rfl) rfl ?_
 refine AW.cut lo0 st [(0,vS p l.length),(2,_)] ⟨rfl,rfl,trivial⟩ fun ρ0 => ?_
 iterate 2 refine ⟨_,rfl,?_⟩
 refine cxs ?_
 refine AW.cut lo0 st [(0,vS p l.length),(2,_),(3,_),(4,vI (0))] ⟨rfl,rfl,rfl,rfl,trivial⟩ fun ρ0 => ?_
 refine AW.loop0 (fun x : Int × Nat => [(0,vS p l.length),(2,.pointer none),(3,vI x.1),(4,vI x.2)]) (fun m (x : Int × Nat) st' => m = l.length - x.2 ∧ x.2 ≤ l.length ∧ st' = st) (_,0) _ ⟨rfl,rfl,rfl,rfl,trivial⟩ rfl ⟨rfl,Nat.zero_le _,rfl⟩ ?_
 rintro m x ρ0 st' ⟨rfl,hi,rfl⟩
 iterate 2 refine ⟨_,rfl,?_⟩
 rintro (_|_) h1
 ·replace h1 : ¬ ((x.2 : Int) < (l.length : Int)) := of_decide_eq_false h1
  refine ⟨_,rfl,?_⟩
  refine AW.cut lo0 st' [(0,vS p l.length),(2,.pointer none),(3,vI x.1),(4,vI x.2),(15,vB false)] ⟨rfl,rfl,rfl,rfl,rfl,trivial⟩ fun ρ0 => ?_
  refine cxs ?_
  iterate 2 refine ⟨_,rfl,?_⟩
  refine cxs ?_
  refine ⟨.inl rfl,_,rfl,rfl,⟨Nat.lt_succ_self _,0,0,_,if_pos rfl,Pres.push.ints hI,hI.ap,Nat.zero_le _⟩,Pres.push,rfl⟩
 ·replace h1 : (x.2 : Int) < (l.length : Int) := of_decide_eq_true h1
  refine ⟨_,rfl,?_⟩
  rintro (_|_) h2
  ·refine ⟨_,rfl,?_⟩
   refine AW.cut lo0 st' [(0,vS p l.length),(2,.pointer none),(3,vI x.1),(4,vI x.2),(15,vB false)] ⟨rfl,rfl,rfl,rfl,rfl,trivial⟩ fun ρ0 => ?_
   refine cxs ?_
   iterate 2 refine ⟨_,rfl,?_⟩
   refine cxs ?_
   refine ⟨.inl rfl,_,rfl,rfl,⟨Nat.lt_succ_self _,0,0,_,if_pos rfl,Pres.push.ints hI,hI.ap,Nat.zero_le _⟩,Pres.push,rfl⟩
  ·refine ⟨_,rfl,?_⟩
   refine AW.cut lo0 st' [(0,vS p l.length),(2,.pointer none),(3,vI x.1),(4,vI x.2),(15,vB true)] ⟨rfl,rfl,rfl,rfl,rfl,trivial⟩ fun ρ0 => ?_
   obtain ⟨b1,o1,k1,hpe,hb1,hc1⟩ := hI.at (Int.ofNat_lt.1 h1)
   refine cxs ?_
   refine ⟨_,rfl,?_⟩
   refine ⟨_,op_idx (j := (x.2 : Int)) (n := l.length) rfl (congrArg (fun u => vS u l.length) hpe) rfl rfl rfl (Int.natCast_nonneg _) h1,?_⟩
   refine ⟨_,op_ld rfl rfl rfl rfl hb1 hc1,?_⟩
   iterate 4 refine ⟨_,rfl,?_⟩
   refine AW.cut lo0 st' [(0,vS p l.length),(2,.pointer none),(3,_),(4,vI x.2),(15,vB true)] ⟨rfl,rfl,rfl,rfl,rfl,trivial⟩ fun ρ0 => ?_
   have e1 : IntKind.wrap .i64 ((x.2 : Int) + 1) = ((x.2 + 1 : Nat) : Int) := wrap_i64 (by omega) (by omega)
   refine ⟨_,rfl,?_⟩
   refine ⟨(_,x.2 + 1),l.length - (x.2 + 1),?_,⟨rfl,rfl,rfl,congrArg (Value.int .i64) e1,trivial⟩,rfl,rfl,?_,rfl⟩
   ·omega
   ·omega
theorem PresC.pres {c : Nat} {st st1 st2 : St} (h : Pres st st1) (k : PresC c st1 st2) (hc : st.next ≤ c) : Pres st st2 := ⟨Nat.le_trans h.1 k.1,fun a ha => (k.2 a (Nat.lt_of_lt_of_le ha h.1) (by omega)).trans (h.2 a ha)⟩
def cmpI (a b : Int) : Int := if a < b then -1 else if a > b then 1 else 0
def firstNZ : List Int → Int
 | [] => 0
 | x :: l => if x = 0 then firstNZ l else x
def cmpB (a b : ByteArray) : Int := Lib.compareBytes a.data.toList b.data.toList
def entCmp (a b : Ent) : Int := firstNZ [cmpI a.inc b.inc,cmpI a.rank b.rank,cmpI a.beat b.beat,cmpI a.ver b.ver,cmpB a.data b.data]
def entMax (a b : Ent) : Ent := if entCmp a b < 0 then b else a
theorem compareBytes_less : ∀ (a b : List UInt8),Lib.compareBytes a b = if Op.bytesLess a b = true then -1 else if (a == b) = true then 0 else 1
 | [],[] => by simp [Lib.compareBytes,Op.bytesLess]
 | [],b :: bs => by simp [Lib.compareBytes,Op.bytesLess]
 | a :: l,[] => by simp [Lib.compareBytes,Op.bytesLess]
 | a :: l,b :: bs => by
  have ih := compareBytes_less l bs
  unfold Lib.compareBytes
  by_cases h1 : a < b
  ·simp [Op.bytesLess,h1]
  ·by_cases h2 : b < a
   ·have hne : ¬ a = b := fun h => by rw [h] at h2; exact UInt8.lt_irrefl _ h2
    simp [Op.bytesLess,h1,h2,hne]
   ·have he : a = b := UInt8.le_antisymm (UInt8.not_lt.1 h2) (UInt8.not_lt.1 h1)
    subst he
    simp only [h1,if_false,ih,Op.bytesLess,beq_self_eq_true,Bool.true_and,Bool.false_or,decide_false]
    simp
theorem ac_spec_l1BitT (st : St) : C 183 [vB true] st (fun v s => v = vI 1 ∧ s = st) := by
 refine AC.enterX (i := ⟨[],[],[0,2,3],[]⟩) [] Try.func183 rfl rfl (by kernel_rfl) (by kernel_rfl) Try.ntmps183 (Nat.le_of_ble_eq_true rfl) rfl ?_
 refine cxs ?_
 refine AW.cut lo0 st [(2,vI (0)),(3,vB true)] ⟨rfl,rfl,trivial⟩ fun ρ0 => ?_
 refine cxs ?_
 exact ⟨.inl rfl,_,rfl,rfl,rfl⟩
theorem ac_spec_l1BitF (st : St) : C 183 [vB false] st (fun v s => v = vI 0 ∧ s = st) := by
 refine AC.enterX (i := ⟨[],[],[0,2,3],[]⟩) [] Try.func183 rfl rfl (by kernel_rfl) (by kernel_rfl) Try.ntmps183 (Nat.le_of_ble_eq_true rfl) rfl ?_
 refine cxs ?_
 refine AW.cut lo0 st [(2,vI (0)),(3,vB false)] ⟨rfl,rfl,trivial⟩ fun ρ0 => ?_
 refine cxs ?_
 refine cxs ?_
 exact ⟨.inl rfl,_,rfl,rfl,rfl⟩
theorem ac_spec_l2Cmp (a b : Int) (st : St) : C 182 [vI a,vI b] st (fun v s => v = vI (cmpI a b) ∧ s = st) := by
 refine AC.enterX (i := ⟨[],[],[0,1,4,7],[]⟩) [] Try.func182 rfl rfl (by kernel_rfl) (by kernel_rfl) Try.ntmps182 (Nat.le_of_ble_eq_true rfl) rfl ?_
 refine AW.cut lo0 st [(0,vI a),(1,vI b),(4,vI (0))] ⟨rfl,rfl,rfl,trivial⟩ fun ρ0 => ?_
 refine ⟨_,rfl,?_⟩
 rintro (_|_) h1
 ·replace h1 : ¬ (a < b) := of_decide_eq_false h1
  refine AW.cut lo0 st [(0,vI a),(1,vI b),(4,vI (0)),(7,vB false)] ⟨rfl,rfl,rfl,rfl,trivial⟩ fun ρ0 => ?_
  refine cxs ?_
  refine ⟨_,rfl,?_⟩
  rintro (_|_) h2
  ·replace h2 : ¬ (a > b) := of_decide_eq_false h2
   refine ⟨_,rfl,(ac_spec_l1BitF st).mono ?_⟩
   rintro _ st ⟨rfl,rfl⟩
   refine cxs ?_
   exact ⟨.inl rfl,_,rfl,congrArg vI (by rw [cmpI,if_neg h1,if_neg h2]),rfl⟩
  ·replace h2 : a > b := of_decide_eq_true h2
   refine ⟨_,rfl,(ac_spec_l1BitT st).mono ?_⟩
   rintro _ st ⟨rfl,rfl⟩
   refine cxs ?_
   exact ⟨.inl rfl,_,rfl,congrArg vI (by rw [cmpI,if_neg h1,if_pos h2]),rfl⟩
 ·replace h1 : a < b := of_decide_eq_true h1
  refine AW.cut lo0 st [(0,vI a),(1,vI b),(4,vI (0)),(7,vB true)] ⟨rfl,rfl,rfl,rfl,trivial⟩ fun ρ0 => ?_
  refine cxs ?_
  exact ⟨.inl rfl,_,rfl,congrArg vI (by rw [cmpI,if_pos h1]),rfl⟩
abbrev four (a b : Ent) : List Int := [cmpI a.inc b.inc,cmpI a.rank b.rank,cmpI a.beat b.beat,cmpI a.ver b.ver]
theorem ac_spec_EntryCmp (a b : Ent) (st : St) : C 155 [.agg #[vI a.inc,vI a.rank,vI a.beat,vI a.ver,.string a.data],.agg #[vI b.inc,vI b.rank,vI b.beat,vI b.ver,.string b.data]] st (fun v s => v = vI (entCmp a b) ∧ Pres st s) := by
 refine AC.enterX (i := ⟨[2,3],[2,3,7,9,12,14,17,19,22,24,43,45,48,50],[0,1,2,3,4,5,6,31,38,47],[]⟩) [(1,[4,9,14],[6,8,11,13,16,18])] Try.func155 rfl rfl (by kernel_rfl) (by kernel_rfl) Try.ntmps155 (Nat.le_of_ble_eq_true rfl) rfl ?_
 iterate 2 refine ⟨_,rfl,?_⟩
 refine AW.cutM (2) st [(2,vL 2 0 (0)),(3,vL 3 0 (1)),(4,vI (0))] [(2,0,[vI a.inc,vI a.rank,vI a.beat,vI a.ver,.string a.data]),(3,1,[vI b.inc,vI b.rank,vI b.beat,vI b.ver,.string b.data])] ⟨rfl,rfl,rfl,trivial⟩ ⟨rfl,rfl,trivial⟩ rfl fun ρ0 ff => ?_
 iterate 4 refine ⟨_,rfl,?_⟩
 refine ⟨_,rfl,(ac_spec_l2Cmp a.inc b.inc st).mono ?_⟩
 rintro _ st ⟨rfl,rfl⟩
 refine ⟨fun _ _ => rfl,?_⟩
 iterate 2 refine ⟨_,rfl,?_⟩
 refine ⟨ld_own rfl rfl rfl,?_⟩
 iterate 2 refine ⟨_,rfl,?_⟩
 refine ⟨ld_own rfl rfl rfl,?_⟩
 refine ⟨_,rfl,(ac_spec_l2Cmp a.rank b.rank st).mono ?_⟩
 rintro _ st ⟨rfl,rfl⟩
 refine ⟨fun _ _ => rfl,?_⟩
 iterate 2 refine ⟨_,rfl,?_⟩
 refine ⟨ld_own rfl rfl rfl,?_⟩
 iterate 2 refine ⟨_,rfl,?_⟩
 refine ⟨ld_own rfl rfl rfl,?_⟩
 refine ⟨_,rfl,(ac_spec_l2Cmp a.beat b.beat st).mono ?_⟩
 rintro _ st ⟨rfl,rfl⟩
 refine ⟨fun _ _ => rfl,?_⟩
 iterate 2 refine ⟨_,rfl,?_⟩
 refine ⟨ld_own rfl rfl rfl,?_⟩
 iterate 2 refine ⟨_,rfl,?_⟩
 refine ⟨ld_own rfl rfl rfl,?_⟩
 refine ⟨_,rfl,(ac_spec_l2Cmp a.ver b.ver st).mono ?_⟩
 rintro _ st ⟨rfl,rfl⟩
 refine op_litI (k := .i64) (l := four a b) rfl rfl rfl rfl rfl rfl (Nat.le_of_ble_eq_true rfl) ?_
 intro q s1 hO1 hP1 hN1
 refine cxs ?_
 refine AW.cutM (2) s1 [(2,vL 2 0 (0)),(3,vL 3 0 (1)),(4,vI (0)),(5,vS q 4),(6,vI (0))] [(2,0,[vI a.inc,vI a.rank,vI a.beat,vI a.ver,.string a.data]),(3,1,[vI b.inc,vI b.rank,vI b.beat,vI b.ver,.string b.data])] ⟨rfl,rfl,rfl,rfl,rfl,trivial⟩ ⟨rfl,rfl,trivial⟩ rfl fun ρ0 ff => ?_
 refine AW.loopM (fun i : Nat => [(2,vL 2 0 (0)),(3,vL 3 0 (1)),(5,vS q 4),(6,vI (i : Int))]) (fun i : Nat => [(2,0,[vI a.inc,vI a.rank,vI a.beat,vI a.ver,.string a.data]),(3,1,[vI b.inc,vI b.rank,vI b.beat,vI b.ver,.string b.data])]) (fun m (i : Nat) st' => m = 4 - i ∧ i ≤ 4 ∧ entCmp a b = firstNZ ((four a b).drop i ++ [cmpB a.data b.data]) ∧ s1 = st') 0 _ ⟨rfl,rfl,rfl,rfl,trivial⟩ ⟨rfl,rfl,trivial⟩ ⟨rfl,Nat.zero_le _,rfl,rfl⟩ ?_
 rintro m i ρ0 ff gg st' ⟨rfl,hi,hf,rfl⟩
 iterate 2 refine ⟨_,rfl,?_⟩
 rintro (_|_) h1
 ·replace h1 : ¬ ((i : Int) < 4) := of_decide_eq_false h1
  refine AW.cutM (gg) s1 [(2,vL 2 0 (0)),(3,vL 3 0 (1)),(5,vS q 4),(6,vI (i : Int)),(31,vB false)] [(2,0,[vI a.inc,vI a.rank,vI a.beat,vI a.ver,.string a.data]),(3,1,[vI b.inc,vI b.rank,vI b.beat,vI b.ver,.string b.data])] ⟨rfl,rfl,rfl,rfl,rfl,trivial⟩ ⟨rfl,rfl,trivial⟩ rfl fun ρ0 ff => ?_
  have hil : i = 4 := by omega
  have hf : entCmp a b = firstNZ [cmpB a.data b.data] := by rw [hf,hil]; rfl
  have hf : entCmp a b = cmpB a.data b.data := by rw [hf,firstNZ,firstNZ]; split <;> simp [*]
  have hcb := compareBytes_less a.data.data.toList b.data.data.toList
  have hcb : cmpB a.data b.data = if Op.bytesLess a.data.toList b.data.toList = true then -1 else if (a.data.toList == b.data.toList) = true then 0 else 1 := by rw [ByteArray.toList_eq,ByteArray.toList_eq]; exact hcb
  refine cxs ?_
  refine ⟨_,rfl,?_⟩
  refine ⟨_,op_ldo rfl rfl rfl rfl,?_⟩
  refine ⟨_,rfl,?_⟩
  refine ⟨_,op_ldo rfl rfl rfl rfl,?_⟩
  refine ⟨_,rfl,?_⟩
  rintro (_|_) h3
  ·refine AW.cutM (gg) s1 [(2,vL 2 0 (0)),(3,vL 3 0 (1)),(47,vB false)] [(2,0,[vI a.inc,vI a.rank,vI a.beat,vI a.ver,.string a.data]),(3,1,[vI b.inc,vI b.rank,vI b.beat,vI b.ver,.string b.data])] ⟨rfl,rfl,rfl,trivial⟩ ⟨rfl,rfl,trivial⟩ rfl fun ρ0 ff => ?_
   refine cxs ?_
   refine ⟨_,rfl,?_⟩
   refine ⟨_,op_ldo rfl rfl rfl rfl,?_⟩
   refine ⟨_,rfl,?_⟩
   refine ⟨_,op_ldo rfl rfl rfl rfl,?_⟩
   refine ⟨_,rfl,?_⟩
   rintro (_|_) h4
   ·refine ⟨_,rfl,(ac_spec_l1BitF s1).mono ?_⟩
    rintro _ s1 ⟨rfl,rfl⟩
    refine cxs ?_
    have h3 : Op.bytesLess a.data.toList b.data.toList = false := h3
    have h4 : (!(Op.bytesLess a.data.toList b.data.toList || a.data.toList == b.data.toList)) = false := h4
    have h5 : (a.data.toList == b.data.toList) = true := by rw [h3,Bool.false_or] at h4; simpa using h4
    exact ⟨.inl rfl,_,rfl,congrArg vI (by rw [hf,hcb,h3,h5]; rfl),hP1⟩
   ·refine ⟨_,rfl,(ac_spec_l1BitT s1).mono ?_⟩
    rintro _ s1 ⟨rfl,rfl⟩
    refine cxs ?_
    have h3 : Op.bytesLess a.data.toList b.data.toList = false := h3
    have h4 : (!(Op.bytesLess a.data.toList b.data.toList || a.data.toList == b.data.toList)) = true := h4
    have h5 : (a.data.toList == b.data.toList) = false := by rw [h3,Bool.false_or] at h4; simpa using h4
    exact ⟨.inl rfl,_,rfl,congrArg vI (by rw [hf,hcb,h3,h5]; rfl),hP1⟩
  ·refine AW.cutM (gg) s1 [(2,vL 2 0 (0)),(3,vL 3 0 (1)),(47,vB true)] [(2,0,[vI a.inc,vI a.rank,vI a.beat,vI a.ver,.string a.data]),(3,1,[vI b.inc,vI b.rank,vI b.beat,vI b.ver,.string b.data])] ⟨rfl,rfl,rfl,trivial⟩ ⟨rfl,rfl,trivial⟩ rfl fun ρ0 ff => ?_
   refine cxs ?_
   have h3 : Op.bytesLess a.data.toList b.data.toList = true := h3
   exact ⟨.inl rfl,_,rfl,congrArg vI (by rw [hf,hcb,if_pos h3]),hP1⟩
 ·replace h1 : (i : Int) < 4 := of_decide_eq_true h1
  refine AW.cutM (gg) s1 [(2,vL 2 0 (0)),(3,vL 3 0 (1)),(5,vS q 4),(6,vI (i : Int)),(31,vB true)] [(2,0,[vI a.inc,vI a.rank,vI a.beat,vI a.ver,.string a.data]),(3,1,[vI b.inc,vI b.rank,vI b.beat,vI b.ver,.string b.data])] ⟨rfl,rfl,rfl,rfl,rfl,trivial⟩ ⟨rfl,rfl,trivial⟩ rfl fun ρ0 ff => ?_
  have h1' : i < (four a b).length := by simp only [List.length_cons,List.length_nil]; omega
  have ⟨b1,o1,k1,x,hpe,hx,hm1,hc1,hb1⟩ := (hO1.rows fI_len).atB h1'
  rw [(split_at' hx).2.2,List.cons_append,firstNZ] at hf
  refine cxs ?_
  refine ⟨_,op_idx (j := (i : Int)) (n := 4) (q := ⟨b1,o1,none⟩) rfl (congrArg (fun u => vS u 4) hpe) rfl rfl rfl (Int.natCast_nonneg _) h1,?_⟩
  refine ⟨_,op_ldc (i := 0) rfl rfl rfl rfl hm1 hc1 rfl rfl,?_⟩
  refine ⟨_,rfl,?_⟩
  rintro (_|_) h2
  ·replace h2 : x = 0 := bne_eq_false_iff_eq.1 h2
   refine AW.cutM (gg) s1 [(2,vL 2 0 (0)),(3,vL 3 0 (1)),(5,vS q 4),(6,vI (i : Int)),(31,vB true),(38,vB false)] [(2,0,[vI a.inc,vI a.rank,vI a.beat,vI a.ver,.string a.data]),(3,1,[vI b.inc,vI b.rank,vI b.beat,vI b.ver,.string b.data])] ⟨rfl,rfl,rfl,rfl,rfl,rfl,trivial⟩ ⟨rfl,rfl,trivial⟩ rfl fun ρ0 ff => ?_
   refine cxs ?_
   have e33 : IntKind.wrap .i64 ((i : Int) + 1) = ((i + 1 : Nat) : Int) := (wrap_i64 (by omega) (by omega)).trans (by omega)
   refine ⟨_,rfl,?_⟩
   exact ⟨i + 1,4 - (i + 1),by omega,⟨rfl,rfl,rfl,congrArg (Value.int .i64) e33,trivial⟩,⟨rfl,rfl,trivial⟩,rfl,by omega,by rw [hf,if_pos h2],rfl⟩
  ·replace h2 : ¬ (x = 0) := bne_iff_ne.1 h2
   refine AW.cutM (gg) s1 [(2,vL 2 0 (0)),(3,vL 3 0 (1)),(5,vS q 4),(6,vI (i : Int)),(31,vB true),(38,vB true)] [(2,0,[vI a.inc,vI a.rank,vI a.beat,vI a.ver,.string a.data]),(3,1,[vI b.inc,vI b.rank,vI b.beat,vI b.ver,.string b.data])] ⟨rfl,rfl,rfl,rfl,rfl,rfl,trivial⟩ ⟨rfl,rfl,trivial⟩ rfl fun ρ0 ff => ?_
   refine ⟨_,op_idx (j := (i : Int)) (n := 4) (q := ⟨b1,o1,none⟩) rfl (congrArg (fun u => vS u 4) hpe) rfl rfl rfl (Int.natCast_nonneg _) h1,?_⟩
   refine ⟨_,op_ldc (i := 0) rfl rfl rfl rfl hm1 hc1 rfl rfl,?_⟩
   refine cxs ?_
   exact ⟨.inl rfl,_,rfl,congrArg vI (by rw [hf,if_neg h2]),hP1⟩
abbrev topF (a b : Sta) (id : Int) : Int := max (floorOf a.floors id) (floorOf b.floors id)
abbrev topE (a b : Sta) (id : Int) : Ent := entMax (entP a.items id).1 (entP b.items id).1
def joinF (a b : Sta) (n : Nat) : Sta := ⟨(List.range n).filterMap fun (j : Nat) => if (topE a b (j : Int)).inc > topF a b (j : Int) then some ⟨(j : Int),topE a b (j : Int)⟩ else none,
 (List.range n).filterMap fun (j : Nat) => if topF a b (j : Int) > 0 then some ⟨(j : Int),topF a b (j : Int)⟩ else none⟩
theorem joinF_items (a b : Sta) (n : Nat) : (joinF a b (n + 1)).items = if (topE a b (n : Int)).inc > topF a b (n : Int) then (joinF a b n).items ++ [⟨(n : Int),topE a b (n : Int)⟩] else (joinF a b n).items := by
 unfold joinF
 simp only [List.range_succ,List.filterMap_append]
 split <;> simp [*]
theorem joinF_floors (a b : Sta) (n : Nat) : (joinF a b (n + 1)).floors = if topF a b (n : Int) > 0 then (joinF a b n).floors ++ [⟨(n : Int),topF a b (n : Int)⟩] else (joinF a b n).floors := by
 unfold joinF
 simp only [List.range_succ,List.filterMap_append]
 split <;> simp [*]
theorem joinF_len (a b : Sta) : ∀ n,(joinF a b n).items.length ≤ n ∧ (joinF a b n).floors.length ≤ n
 | 0 => by simp [joinF]
 | n + 1 => by
  have := joinF_len a b n
  rw [joinF_items,joinF_floors]
  refine ⟨?_,?_⟩ <;> split <;> (try rw [List.length_append,List.length_singleton]) <;> omega
theorem pcS_items {st st' : St} {q1 q2 q : Option Addr} {l1 l1' : List Itm} {l2 : List Flr} (h : OwnP st [pcR 6 cItm q1 l1,pcR 2 cFlr q2 l2]) (hp : Pr q1 st st') (ho : OwnR st' 6 cItm q l1') (hn : New st.next q) : OwnP st' [pcR 6 cItm q l1',pcR 2 cFlr q2 l2] :=
 OwnP.renew (l := []) (m := [pcR 2 cFlr q2 l2]) h hp (own_pc ho) hn
theorem pcS_floors {st st' : St} {q1 q2 q : Option Addr} {l1 : List Itm} {l2 l2' : List Flr} (h : OwnP st [pcR 6 cItm q1 l1,pcR 2 cFlr q2 l2]) (hp : Pr q2 st st') (ho : OwnR st' 2 cFlr q l2') (hn : New st.next q) : OwnP st' [pcR 6 cItm q1 l1,pcR 2 cFlr q l2'] :=
 OwnP.renew (l := [pcR 6 cItm q1 l1]) (m := []) h hp (own_pc ho) hn
theorem pcS_i {st : St} {q1 q2 : Option Addr} {l1 : List Itm} {l2 : List Flr} (h : OwnP st [pcR 6 cItm q1 l1,pcR 2 cFlr q2 l2]) : OwnR st 6 cItm q1 l1 := pc_own (by decide) len_cItm (h.1 _ (List.mem_cons_self ..))
theorem pcS_f {st : St} {q1 q2 : Option Addr} {l1 : List Itm} {l2 : List Flr} (h : OwnP st [pcR 6 cItm q1 l1,pcR 2 cFlr q2 l2]) : OwnR st 2 cFlr q2 l2 := pc_own (by decide) len_cFlr (h.1 _ (List.mem_cons_of_mem _ (List.mem_cons_self ..)))
theorem firstNZ_neg : ∀ l : List Int,firstNZ (l.map fun x => -x) = - firstNZ l
 | [] => rfl
 | x :: l => by
  have ih := firstNZ_neg l
  rw [List.map_cons,firstNZ,firstNZ]
  by_cases h : x = 0
  ·rw [if_pos h,if_pos (by omega),ih]
  ·rw [if_neg h,if_neg (by omega)]
theorem cmpI_neg (a b : Int) : cmpI b a = - cmpI a b := by
 unfold cmpI
 split <;> split <;> (try split) <;> omega
theorem compareBytes_neg : ∀ a b : List UInt8,Lib.compareBytes b a = - Lib.compareBytes a b
 | [],[] => by simp [Lib.compareBytes]
 | [],b :: bs => by simp [Lib.compareBytes]
 | a :: l,[] => by simp [Lib.compareBytes]
 | a :: l,b :: bs => by
  have ih := compareBytes_neg l bs
  unfold Lib.compareBytes
  by_cases h1 : a < b
  ·have h2 : ¬ b < a := fun h => UInt8.lt_irrefl _ (UInt8.lt_trans h h1)
   simp [h1,h2]
  ·by_cases h2 : b < a
   ·simp [h1,h2]
   ·simp [h1,h2,ih]
theorem entCmp_neg (a b : Ent) : entCmp b a = - entCmp a b := by
 unfold entCmp
 rw [← firstNZ_neg]
 simp only [List.map_cons,List.map_nil,cmpB,cmpI_neg a.inc b.inc,cmpI_neg a.rank b.rank,cmpI_neg a.beat b.beat,cmpI_neg a.ver b.ver,compareBytes_neg a.data.data.toList b.data.data.toList]
theorem entMax_zero {a : Ent} (h : 1 ≤ a.inc) : entMax a zEnt = a ∧ entMax zEnt a = a := by
 have h1 : entCmp a zEnt = 1 := by
  unfold entCmp firstNZ
  have : cmpI a.inc zEnt.inc = 1 := by unfold cmpI zEnt; simp only; rw [if_neg (by omega),if_pos (by omega)]
  rw [this]; rfl
 have h2 : entCmp zEnt a = -1 := by rw [entCmp_neg,h1]
 exact ⟨by rw [entMax,h1]; rfl,by rw [entMax,h2]; rfl⟩
theorem entMax_zz : entMax zEnt zEnt = zEnt := by unfold entMax; split <;> rfl
theorem floorOf_pos {l : List Flr} (h : marksOk l) (id : Int) : 0 ≤ floorOf l id ∧ floorOf l id ≤ 1000 := by
 have key : ∀ m : List Flr,(∀ x ∈ m,1 ≤ x.inc ∧ x.inc ≤ 1000) → 0 ≤ floorOf m id ∧ floorOf m id ≤ 1000 := by
  intro m
  induction m with
  | nil => intro _; simp [floorOf]
  | cons x m ih =>
   intro h
   have hx := h x (List.mem_cons_self ..)
   rw [floorOf]
   split
   ·omega
   ·exact ih fun y hy => h y (List.mem_cons_of_mem _ hy)
 refine key l fun x hx => ?_
 obtain ⟨i,hi⟩ := List.getElem?_of_mem hx
 exact (h i x hi).2.1
theorem entP_none {l : List Itm} {id : Int} {e : Ent} (h : (e,false) = entP l id) : e = zEnt := by
 induction l with
 | nil => rw [entP] at h; injection h
 | cons x l ih =>
  rw [entP] at h
  split at h
  ·injection h with _ h; cases h
  ·exact ih h
theorem ac_spec_l3Join (A B : SV) (st : St) (hA : RdS st A) (hB : RdS st B) (ha : bigS A.x) (hb : bigS B.x) (oa : stateOk A.x) (ob : stateOk B.x) : C 81 [.agg #[vS A.p A.x.items.length,vS A.q A.x.floors.length],.agg #[vS B.p B.x.items.length,vS B.q B.x.floors.length]] st (fun v s => ∃ u : SV,v = .agg #[vS u.p u.x.items.length,vS u.q u.x.floors.length] ∧ u.x = joinF A.x B.x 5 ∧ OwnP s (pcS u) ∧ NewP st.next (pcS u) ∧ Pres st s) := by
 refine AC.enterX (i := ⟨[2,3,4,5,8,10,12],[2,3,4,5,8,10,12,27,34,66,70,77],[0,1,2,3,4,5,6,7,8,9,10,11,12,15,26,52,64,69],[]⟩) [(5,[2],[3])] Try.func81 rfl rfl (by kernel_rfl) (by kernel_rfl) Try.ntmps81 (Nat.le_of_ble_eq_true rfl) rfl ?_
 iterate 3 refine ⟨_,rfl,?_⟩
 refine AW.cutM (3) st [(2,vL 2 0 (0)),(3,vL 3 0 (1)),(4,vL 4 0 (2))] [(2,0,[vS A.p A.x.items.length,vS A.q A.x.floors.length]),(3,1,[vS B.p B.x.items.length,vS B.q B.x.floors.length]),(4,2,[.slice none 0 0,.slice none 0 0])] ⟨rfl,rfl,rfl,trivial⟩ ⟨rfl,rfl,rfl,trivial⟩ rfl fun ρ0 ff => ?_
 iterate 3 refine ⟨_,rfl,?_⟩
 refine cxs ?_
 refine AW.cutM (4) st [(2,vL 2 0 (0)),(3,vL 3 0 (1)),(4,vL 4 0 (2)),(5,vL 5 0 (3)),(6,vI (0))] [(2,0,[vS A.p A.x.items.length,vS A.q A.x.floors.length]),(3,1,[vS B.p B.x.items.length,vS B.q B.x.floors.length]),(4,2,[.slice none 0 0,.slice none 0 0]),(5,3,[.slice none 0 0,.slice none 0 0])] ⟨rfl,rfl,rfl,rfl,rfl,trivial⟩ ⟨rfl,rfl,rfl,rfl,trivial⟩ rfl fun ρ0 ff => ?_
 refine AW.loopM (fun x : Nat × Option Addr × Option Addr => [(2,vL 2 0 (0)),(3,vL 3 0 (1)),(4,vL 4 0 (2)),(5,vL 5 0 (3)),(6,vI (x.1 : Int))]) (fun x : Nat × Option Addr × Option Addr => [(2,0,[vS A.p A.x.items.length,vS A.q A.x.floors.length]),(3,1,[vS B.p B.x.items.length,vS B.q B.x.floors.length]),(4,2,[.slice none 0 0,.slice none 0 0]),(5,3,[vS x.2.1 (joinF A.x B.x x.1).items.length,vS x.2.2 (joinF A.x B.x x.1).floors.length])]) (fun m (x : Nat × Option Addr × Option Addr) st' => m = 5 - x.1 ∧ x.1 ≤ 5 ∧ OwnP st' [pcR 6 cItm x.2.1 (joinF A.x B.x x.1).items,pcR 2 cFlr x.2.2 (joinF A.x B.x x.1).floors] ∧ New st.next x.2.1 ∧ New st.next x.2.2 ∧ Pres st st') (0,none,none) _ ⟨rfl,rfl,rfl,rfl,rfl,trivial⟩ ⟨rfl,rfl,rfl,rfl,trivial⟩ ⟨rfl,Nat.zero_le _,pcS_nil,New.none,New.none,Pres.refl _⟩ ?_
 rintro m ⟨i,q1,q2⟩ ρ0 ff gg st' ⟨rfl,hi,hO,hN1,hN2,hP⟩
 simp only at hi hO hN1 hN2
 have hJ := joinF_len A.x B.x i
 have hJi := joinF_items A.x B.x i
 have hJf := joinF_floors A.x B.x i
 refine ⟨_,rfl,?_⟩
 rintro (_|_) h1
 ·replace h1 : ¬ ((i : Int) < 5) := of_decide_eq_false h1
  refine AW.cutM (gg) st' [(2,vL 2 0 (0)),(3,vL 3 0 (1)),(4,vL 4 0 (2)),(5,vL 5 0 (3)),(6,vI (i : Int)),(15,vB false)] [(2,0,[vS A.p A.x.items.length,vS A.q A.x.floors.length]),(3,1,[vS B.p B.x.items.length,vS B.q B.x.floors.length]),(4,2,[.slice none 0 0,.slice none 0 0]),(5,3,[vS q1 (joinF A.x B.x i).items.length,vS q2 (joinF A.x B.x i).floors.length])] ⟨rfl,rfl,rfl,rfl,rfl,rfl,trivial⟩ ⟨rfl,rfl,rfl,rfl,trivial⟩ rfl fun ρ0 ff => ?_
  refine cxs ?_
  refine ⟨_,op_ldo rfl rfl rfl rfl,?_⟩
  refine ⟨_,op_sto rfl rfl rfl rfl rfl rfl rfl,?_⟩
  refine cxs ?_
  have hil : i = 5 := by omega
  subst hil
  exact ⟨.inl rfl,_,rfl,⟨q1,q2,joinF A.x B.x 5⟩,rfl,rfl,hO,NewP.cons hN1 (NewP.cons hN2 NewP.nil),hP⟩
 ·replace h1 : (i : Int) < 5 := of_decide_eq_true h1
  refine AW.cutM (gg) st' [(2,vL 2 0 (0)),(3,vL 3 0 (1)),(4,vL 4 0 (2)),(5,vL 5 0 (3)),(6,vI (i : Int)),(15,vB true)] [(2,0,[vS A.p A.x.items.length,vS A.q A.x.floors.length]),(3,1,[vS B.p B.x.items.length,vS B.q B.x.floors.length]),(4,2,[.slice none 0 0,.slice none 0 0]),(5,3,[vS q1 (joinF A.x B.x i).items.length,vS q2 (joinF A.x B.x i).floors.length])] ⟨rfl,rfl,rfl,rfl,rfl,rfl,trivial⟩ ⟨rfl,rfl,rfl,rfl,trivial⟩ rfl fun ρ0 ff => ?_
  refine cxs ?_
  refine ⟨_,op_ldo rfl rfl rfl rfl,?_⟩
  refine ⟨_,rfl,(ac_spec_FloorOf A i st' (hA.pres hP) ha).mono ?_⟩
  rintro _ st' ⟨rfl,rfl⟩
  refine ⟨fun _ _ => rfl,?_⟩
  refine ⟨_,op_ldo rfl rfl rfl rfl,?_⟩
  refine ⟨ld_own rfl rfl rfl,?_⟩
  refine ⟨_,rfl,(ac_spec_FloorOf B i st' (hB.pres hP) hb).mono ?_⟩
  rintro _ st' ⟨rfl,rfl⟩
  refine ⟨_,rfl,(ac_spec_l1Max (floorOf A.x.floors (i : Int)) (floorOf B.x.floors (i : Int)) st').mono ?_⟩
  rintro _ st' ⟨rfl,rfl⟩
  refine AX.meet 5 (fun x : Option Addr × Ent × Nat => [(2,vL 2 0 (0)),(3,vL 3 0 (1)),(4,vL 4 0 (2)),(5,vL 5 0 (3)),(6,vI (i : Int)),(7,vI (topF A.x B.x (i : Int))),(12,vL 12 0 (x.2.2)),(15,vB true)]) (fun x : Option Addr × Ent × Nat => [(2,0,[vS A.p A.x.items.length,vS A.q A.x.floors.length]),(3,1,[vS B.p B.x.items.length,vS B.q B.x.floors.length]),(4,2,[.slice none 0 0,.slice none 0 0]),(5,3,[vS q1 (joinF A.x B.x i).items.length,vS x.1 (joinF A.x B.x (i + 1)).floors.length]),(12,x.2.2,[vI x.2.1.inc,vI x.2.1.rank,vI x.2.1.beat,vI x.2.1.ver,.string x.2.1.data])]) (fun (x : Option Addr × Ent × Nat) st' => (joinF A.x B.x (i + 1)).items = (if x.2.1.inc > topF A.x B.x (i : Int) then (joinF A.x B.x i).items ++ [⟨(i : Int),x.2.1⟩] else (joinF A.x B.x i).items) ∧ OwnP st' [pcR 6 cItm q1 (joinF A.x B.x i).items,pcR 2 cFlr x.1 (joinF A.x B.x (i + 1)).floors] ∧ New st.next x.1 ∧ Pres st st') ?_ ?_
  ·refine AX.meet 0 (fun q6 : Option Addr => [(2,vL 2 0 (0)),(3,vL 3 0 (1)),(4,vL 4 0 (2)),(5,vL 5 0 (3)),(6,vI (i : Int)),(7,vI (topF A.x B.x (i : Int))),(15,vB true)]) (fun q6 : Option Addr => [(2,0,[vS A.p A.x.items.length,vS A.q A.x.floors.length]),(3,1,[vS B.p B.x.items.length,vS B.q B.x.floors.length]),(4,2,[.slice none 0 0,.slice none 0 0]),(5,3,[vS q1 (joinF A.x B.x i).items.length,vS q6 (joinF A.x B.x (i + 1)).floors.length])]) (fun (q6 : Option Addr) st' => OwnP st' [pcR 6 cItm q1 (joinF A.x B.x i).items,pcR 2 cFlr q6 (joinF A.x B.x (i + 1)).floors] ∧ New st.next q6 ∧ Pres st st') ?_ ?_
   ·refine AW.cutM (gg) st' [(2,vL 2 0 (0)),(3,vL 3 0 (1)),(4,vL 4 0 (2)),(5,vL 5 0 (3)),(6,vI (i : Int)),(7,vI (topF A.x B.x (i : Int))),(15,vB true)] [(2,0,[vS A.p A.x.items.length,vS A.q A.x.floors.length]),(3,1,[vS B.p B.x.items.length,vS B.q B.x.floors.length]),(4,2,[.slice none 0 0,.slice none 0 0]),(5,3,[vS q1 (joinF A.x B.x i).items.length,vS q2 (joinF A.x B.x i).floors.length])] ⟨rfl,rfl,rfl,rfl,rfl,rfl,rfl,trivial⟩ ⟨rfl,rfl,rfl,rfl,trivial⟩ rfl fun ρ0 ff => ?_
    refine ⟨_,rfl,?_⟩
    rintro (_|_) h2
    ·replace h2 : ¬ (topF A.x B.x (i : Int) > 0) := of_decide_eq_false h2
     refine AW.cutM (gg) st' [(2,vL 2 0 (0)),(3,vL 3 0 (1)),(4,vL 4 0 (2)),(5,vL 5 0 (3)),(6,vI (i : Int)),(7,vI (topF A.x B.x (i : Int))),(15,vB true),(26,vB false)] [(2,0,[vS A.p A.x.items.length,vS A.q A.x.floors.length]),(3,1,[vS B.p B.x.items.length,vS B.q B.x.floors.length]),(4,2,[.slice none 0 0,.slice none 0 0]),(5,3,[vS q1 (joinF A.x B.x i).items.length,vS q2 (joinF A.x B.x i).floors.length])] ⟨rfl,rfl,rfl,rfl,rfl,rfl,rfl,rfl,trivial⟩ ⟨rfl,rfl,rfl,rfl,trivial⟩ rfl fun ρ0 ff => ?_
     have hfe : (joinF A.x B.x (i + 1)).floors = (joinF A.x B.x i).floors := by rw [hJf,if_neg h2]
     exact ⟨q2,⟨rfl,rfl,rfl,rfl,rfl,rfl,rfl,trivial⟩,⟨rfl,rfl,rfl,(show some (3,[vS q1 (joinF A.x B.x i).items.length,vS q2 (joinF A.x B.x i).floors.length]) = _ by rw [hfe]),trivial⟩,by rw [hfe]; exact hO,hN2,hP⟩
    ·replace h2 : topF A.x B.x (i : Int) > 0 := of_decide_eq_true h2
     refine AW.cutM (gg) st' [(2,vL 2 0 (0)),(3,vL 3 0 (1)),(4,vL 4 0 (2)),(5,vL 5 0 (3)),(6,vI (i : Int)),(7,vI (topF A.x B.x (i : Int))),(15,vB true),(26,vB true)] [(2,0,[vS A.p A.x.items.length,vS A.q A.x.floors.length]),(3,1,[vS B.p B.x.items.length,vS B.q B.x.floors.length]),(4,2,[.slice none 0 0,.slice none 0 0]),(5,3,[vS q1 (joinF A.x B.x i).items.length,vS q2 (joinF A.x B.x i).floors.length])] ⟨rfl,rfl,rfl,rfl,rfl,rfl,rfl,rfl,trivial⟩ ⟨rfl,rfl,rfl,rfl,trivial⟩ rfl fun ρ0 ff => ?_
     refine ⟨_,rfl,?_⟩
     refine ⟨_,op_ldo rfl rfl rfl rfl,?_⟩
     refine ⟨_,rfl,?_⟩
     refine op_one (z := 2) (a := (⟨(i : Int),topF A.x B.x (i : Int)⟩ : Flr)) (f := cFlr) rfl rfl rfl rfl rfl (by decide) rfl (Nat.le_of_ble_eq_true rfl) rfl rfl rfl ?_
     refine op_add (z := 2) (st := st') (f := cFlr) (b := 16) (l := (joinF A.x B.x i).floors) rfl rfl rfl rfl rfl rfl rfl (by decide) len_cFlr rfl rfl rfl (by omega) (by unfold maxLen; omega) (pcS_f hO) ?_
     intro q6 s6 hO6 hP6 hN6
     refine ⟨_,rfl,?_⟩
     refine ⟨_,op_sto rfl rfl rfl rfl rfl rfl rfl,?_⟩
     have hfe : (joinF A.x B.x (i + 1)).floors = (joinF A.x B.x i).floors ++ [⟨(i : Int),topF A.x B.x (i : Int)⟩] := by rw [hJf,if_pos h2]
     exact ⟨q6,⟨rfl,rfl,rfl,rfl,rfl,rfl,rfl,trivial⟩,⟨rfl,rfl,rfl,(show some (3,[vS q1 (joinF A.x B.x i).items.length,vS q6 ((joinF A.x B.x i).floors.length + 1)]) = _ by rw [hfe,List.length_append]; rfl),trivial⟩,by rw [hfe]; exact pcS_floors hO hP6 hO6 hN6,hN6.le hP.1,hP6.pres hP hN2⟩
   ·rintro q6 ρ0 ff gg st' ⟨hO6,hN6,hP6⟩
    refine ⟨_,op_ldo rfl rfl rfl rfl,?_⟩
    refine ⟨_,rfl,(ac_spec_EntryOf A i st' (hA.pres hP6) ha).mono ?_⟩
    rintro _ st' ⟨e1,b1,rfl,he1,rfl⟩
    rcases b1 with _|_
    ·iterate 3 refine ⟨_,rfl,?_⟩
     refine ⟨_,op_sto rfl rfl rfl rfl rfl rfl rfl,?_⟩
     refine AW.cutM (gg + 1) st' [(2,vL 2 0 (0)),(3,vL 3 0 (1)),(4,vL 4 0 (2)),(5,vL 5 0 (3)),(6,vI (i : Int)),(7,vI (topF A.x B.x (i : Int))),(8,vL 8 0 (gg)),(9,vB false),(15,vB true)] [(2,0,[vS A.p A.x.items.length,vS A.q A.x.floors.length]),(3,1,[vS B.p B.x.items.length,vS B.q B.x.floors.length]),(4,2,[.slice none 0 0,.slice none 0 0]),(5,3,[vS q1 (joinF A.x B.x i).items.length,vS q6 (joinF A.x B.x (i + 1)).floors.length]),(8,gg,[vI e1.inc,vI e1.rank,vI e1.beat,vI e1.ver,.string e1.data])] ⟨rfl,rfl,rfl,rfl,rfl,rfl,rfl,rfl,rfl,trivial⟩ ⟨rfl,rfl,rfl,rfl,rfl,trivial⟩ rfl fun ρ0 ff => ?_
     refine ⟨_,op_ldo rfl rfl rfl rfl,?_⟩
     refine ⟨_,rfl,(ac_spec_EntryOf B i st' (hB.pres hP6) hb).mono ?_⟩
     rintro _ st' ⟨e2,b2,rfl,he2,rfl⟩
     rcases b2 with _|_
     ·iterate 3 refine ⟨_,rfl,?_⟩
      refine ⟨_,op_sto rfl rfl rfl rfl rfl rfl rfl,?_⟩
      refine AW.cutM (gg + 2) st' [(2,vL 2 0 (0)),(3,vL 3 0 (1)),(4,vL 4 0 (2)),(5,vL 5 0 (3)),(6,vI (i : Int)),(7,vI (topF A.x B.x (i : Int))),(8,vL 8 0 (gg)),(9,vB false),(10,vL 10 0 (gg + 1)),(11,vB false),(15,vB true)] [(2,0,[vS A.p A.x.items.length,vS A.q A.x.floors.length]),(3,1,[vS B.p B.x.items.length,vS B.q B.x.floors.length]),(4,2,[.slice none 0 0,.slice none 0 0]),(5,3,[vS q1 (joinF A.x B.x i).items.length,vS q6 (joinF A.x B.x (i + 1)).floors.length]),(8,gg,[vI e1.inc,vI e1.rank,vI e1.beat,vI e1.ver,.string e1.data]),(10,gg + 1,[vI e2.inc,vI e2.rank,vI e2.beat,vI e2.ver,.string e2.data])] ⟨rfl,rfl,rfl,rfl,rfl,rfl,rfl,rfl,rfl,rfl,rfl,trivial⟩ ⟨rfl,rfl,rfl,rfl,rfl,rfl,trivial⟩ rfl fun ρ0 ff => ?_
      have hE : topE A.x B.x (i : Int) = zEnt := by rw [topE,← he1,← he2,entP_none he1,entP_none he2]; exact entMax_zz
      have hfa := (floorOf_pos oa.2 (i : Int)).1
      have hle : ¬ (topE A.x B.x (i : Int)).inc > topF A.x B.x (i : Int) := by rw [hE]; unfold topF zEnt; simp only; omega
      rw [if_neg hle] at hJi
      iterate 3 refine ⟨_,rfl,?_⟩
      refine AW.cutM (gg + 2) st' [(2,vL 2 0 (0)),(3,vL 3 0 (1)),(4,vL 4 0 (2)),(5,vL 5 0 (3)),(6,vI (i : Int)),(7,vI (topF A.x B.x (i : Int))),(8,vL 8 0 (gg)),(9,vB false),(10,vL 10 0 (gg + 1)),(11,vB false),(15,vB true),(52,vB true)] [(2,0,[vS A.p A.x.items.length,vS A.q A.x.floors.length]),(3,1,[vS B.p B.x.items.length,vS B.q B.x.floors.length]),(4,2,[.slice none 0 0,.slice none 0 0]),(5,3,[vS q1 (joinF A.x B.x i).items.length,vS q6 (joinF A.x B.x (i + 1)).floors.length]),(8,gg,[vI e1.inc,vI e1.rank,vI e1.beat,vI e1.ver,.string e1.data]),(10,gg + 1,[vI e2.inc,vI e2.rank,vI e2.beat,vI e2.ver,.string e2.data])] ⟨rfl,rfl,rfl,rfl,rfl,rfl,rfl,rfl,rfl,rfl,rfl,rfl,trivial⟩ ⟨rfl,rfl,rfl,rfl,rfl,rfl,trivial⟩ rfl fun ρ0 ff => ?_
      refine cxs ?_
      have e17 : IntKind.wrap .i64 ((i : Int) + 1) = ((i + 1 : Nat) : Int) := (wrap_i64 (by omega) (by omega)).trans (by omega)
      refine ⟨_,rfl,?_⟩
      rw [← hJi] at hO6
      exact ⟨(i + 1,q1,q6),5 - (i + 1),by omega,⟨rfl,rfl,rfl,rfl,congrArg (Value.int .i64) e17,trivial⟩,⟨rfl,rfl,rfl,(show some (3,[vS q1 (joinF A.x B.x i).items.length,vS q6 (joinF A.x B.x (i + 1)).floors.length]) = _ by rw [hJi]),trivial⟩,rfl,by omega,hO6,hN1,hN6,hP6⟩
     ·iterate 3 refine ⟨_,rfl,?_⟩
      refine ⟨_,op_sto rfl rfl rfl rfl rfl rfl rfl,?_⟩
      refine AW.cutM (gg + 2) st' [(2,vL 2 0 (0)),(3,vL 3 0 (1)),(4,vL 4 0 (2)),(5,vL 5 0 (3)),(6,vI (i : Int)),(7,vI (topF A.x B.x (i : Int))),(8,vL 8 0 (gg)),(9,vB false),(10,vL 10 0 (gg + 1)),(11,vB true),(15,vB true)] [(2,0,[vS A.p A.x.items.length,vS A.q A.x.floors.length]),(3,1,[vS B.p B.x.items.length,vS B.q B.x.floors.length]),(4,2,[.slice none 0 0,.slice none 0 0]),(5,3,[vS q1 (joinF A.x B.x i).items.length,vS q6 (joinF A.x B.x (i + 1)).floors.length]),(8,gg,[vI e1.inc,vI e1.rank,vI e1.beat,vI e1.ver,.string e1.data]),(10,gg + 1,[vI e2.inc,vI e2.rank,vI e2.beat,vI e2.ver,.string e2.data])] ⟨rfl,rfl,rfl,rfl,rfl,rfl,rfl,rfl,rfl,rfl,rfl,trivial⟩ ⟨rfl,rfl,rfl,rfl,rfl,rfl,trivial⟩ rfl fun ρ0 ff => ?_
      have hE : topE A.x B.x (i : Int) = entMax e1 e2 := by rw [topE,← he1,← he2]
      have hfa := (floorOf_pos oa.2 (i : Int)).1
      rw [hE] at hJi
      iterate 3 refine ⟨_,rfl,?_⟩
      refine AW.cutM (gg + 2) st' [(2,vL 2 0 (0)),(3,vL 3 0 (1)),(4,vL 4 0 (2)),(5,vL 5 0 (3)),(6,vI (i : Int)),(7,vI (topF A.x B.x (i : Int))),(8,vL 8 0 (gg)),(9,vB false),(10,vL 10 0 (gg + 1)),(11,vB true),(15,vB true),(52,vB false)] [(2,0,[vS A.p A.x.items.length,vS A.q A.x.floors.length]),(3,1,[vS B.p B.x.items.length,vS B.q B.x.floors.length]),(4,2,[.slice none 0 0,.slice none 0 0]),(5,3,[vS q1 (joinF A.x B.x i).items.length,vS q6 (joinF A.x B.x (i + 1)).floors.length]),(8,gg,[vI e1.inc,vI e1.rank,vI e1.beat,vI e1.ver,.string e1.data]),(10,gg + 1,[vI e2.inc,vI e2.rank,vI e2.beat,vI e2.ver,.string e2.data])] ⟨rfl,rfl,rfl,rfl,rfl,rfl,rfl,rfl,rfl,rfl,rfl,rfl,trivial⟩ ⟨rfl,rfl,rfl,rfl,rfl,rfl,trivial⟩ rfl fun ρ0 ff => ?_
      refine cxs ?_
      refine ⟨_,op_ldo rfl rfl rfl rfl,?_⟩
      refine ⟨_,rfl,?_⟩
      refine ⟨_,op_sto rfl rfl rfl rfl rfl rfl rfl,?_⟩
      refine AW.cutM (gg + 3) st' [(2,vL 2 0 (0)),(3,vL 3 0 (1)),(4,vL 4 0 (2)),(5,vL 5 0 (3)),(6,vI (i : Int)),(7,vI (topF A.x B.x (i : Int))),(8,vL 8 0 (gg)),(9,vB false),(10,vL 10 0 (gg + 1)),(11,vB true),(12,vL 12 0 (gg + 2)),(15,vB true),(52,vB false)] [(2,0,[vS A.p A.x.items.length,vS A.q A.x.floors.length]),(3,1,[vS B.p B.x.items.length,vS B.q B.x.floors.length]),(4,2,[.slice none 0 0,.slice none 0 0]),(5,3,[vS q1 (joinF A.x B.x i).items.length,vS q6 (joinF A.x B.x (i + 1)).floors.length]),(8,gg,[vI e1.inc,vI e1.rank,vI e1.beat,vI e1.ver,.string e1.data]),(10,gg + 1,[vI e2.inc,vI e2.rank,vI e2.beat,vI e2.ver,.string e2.data]),(12,gg + 2,[vI e1.inc,vI e1.rank,vI e1.beat,vI e1.ver,.string e1.data])] ⟨rfl,rfl,rfl,rfl,rfl,rfl,rfl,rfl,rfl,rfl,rfl,rfl,rfl,trivial⟩ ⟨rfl,rfl,rfl,rfl,rfl,rfl,rfl,trivial⟩ rfl fun ρ0 ff => ?_
      iterate 2 refine ⟨_,rfl,?_⟩
      refine AW.cutM (gg + 3) st' [(2,vL 2 0 (0)),(3,vL 3 0 (1)),(4,vL 4 0 (2)),(5,vL 5 0 (3)),(6,vI (i : Int)),(7,vI (topF A.x B.x (i : Int))),(8,vL 8 0 (gg)),(9,vB false),(10,vL 10 0 (gg + 1)),(11,vB true),(12,vL 12 0 (gg + 2)),(15,vB true),(52,vB false),(64,vB true)] [(2,0,[vS A.p A.x.items.length,vS A.q A.x.floors.length]),(3,1,[vS B.p B.x.items.length,vS B.q B.x.floors.length]),(4,2,[.slice none 0 0,.slice none 0 0]),(5,3,[vS q1 (joinF A.x B.x i).items.length,vS q6 (joinF A.x B.x (i + 1)).floors.length]),(8,gg,[vI e1.inc,vI e1.rank,vI e1.beat,vI e1.ver,.string e1.data]),(10,gg + 1,[vI e2.inc,vI e2.rank,vI e2.beat,vI e2.ver,.string e2.data]),(12,gg + 2,[vI e1.inc,vI e1.rank,vI e1.beat,vI e1.ver,.string e1.data])] ⟨rfl,rfl,rfl,rfl,rfl,rfl,rfl,rfl,rfl,rfl,rfl,rfl,rfl,rfl,trivial⟩ ⟨rfl,rfl,rfl,rfl,rfl,rfl,rfl,trivial⟩ rfl fun ρ0 ff => ?_
      have hm : entMax e1 e2 = e2 := by rw [entP_none he1]; exact (entMax_zero (ent_ok ob he2).1.1).2
      rw [hm] at hJi
      have hO7 := hO6
      have hP8 := hP6
      refine ⟨_,op_ldo rfl rfl rfl rfl,?_⟩
      refine ⟨_,op_sto rfl rfl rfl rfl rfl rfl rfl,?_⟩
      exact ⟨(q6,e2,_),⟨rfl,rfl,rfl,rfl,rfl,rfl,rfl,rfl,trivial⟩,⟨rfl,rfl,rfl,rfl,rfl,trivial⟩,hJi,hO7,hN6,hP8⟩
    ·iterate 3 refine ⟨_,rfl,?_⟩
     refine ⟨_,op_sto rfl rfl rfl rfl rfl rfl rfl,?_⟩
     refine AW.cutM (gg + 1) st' [(2,vL 2 0 (0)),(3,vL 3 0 (1)),(4,vL 4 0 (2)),(5,vL 5 0 (3)),(6,vI (i : Int)),(7,vI (topF A.x B.x (i : Int))),(8,vL 8 0 (gg)),(9,vB true),(15,vB true)] [(2,0,[vS A.p A.x.items.length,vS A.q A.x.floors.length]),(3,1,[vS B.p B.x.items.length,vS B.q B.x.floors.length]),(4,2,[.slice none 0 0,.slice none 0 0]),(5,3,[vS q1 (joinF A.x B.x i).items.length,vS q6 (joinF A.x B.x (i + 1)).floors.length]),(8,gg,[vI e1.inc,vI e1.rank,vI e1.beat,vI e1.ver,.string e1.data])] ⟨rfl,rfl,rfl,rfl,rfl,rfl,rfl,rfl,rfl,trivial⟩ ⟨rfl,rfl,rfl,rfl,rfl,trivial⟩ rfl fun ρ0 ff => ?_
     refine ⟨_,op_ldo rfl rfl rfl rfl,?_⟩
     refine ⟨_,rfl,(ac_spec_EntryOf B i st' (hB.pres hP6) hb).mono ?_⟩
     rintro _ st' ⟨e2,b2,rfl,he2,rfl⟩
     rcases b2 with _|_
     ·iterate 3 refine ⟨_,rfl,?_⟩
      refine ⟨_,op_sto rfl rfl rfl rfl rfl rfl rfl,?_⟩
      refine AW.cutM (gg + 2) st' [(2,vL 2 0 (0)),(3,vL 3 0 (1)),(4,vL 4 0 (2)),(5,vL 5 0 (3)),(6,vI (i : Int)),(7,vI (topF A.x B.x (i : Int))),(8,vL 8 0 (gg)),(9,vB true),(10,vL 10 0 (gg + 1)),(11,vB false),(15,vB true)] [(2,0,[vS A.p A.x.items.length,vS A.q A.x.floors.length]),(3,1,[vS B.p B.x.items.length,vS B.q B.x.floors.length]),(4,2,[.slice none 0 0,.slice none 0 0]),(5,3,[vS q1 (joinF A.x B.x i).items.length,vS q6 (joinF A.x B.x (i + 1)).floors.length]),(8,gg,[vI e1.inc,vI e1.rank,vI e1.beat,vI e1.ver,.string e1.data]),(10,gg + 1,[vI e2.inc,vI e2.rank,vI e2.beat,vI e2.ver,.string e2.data])] ⟨rfl,rfl,rfl,rfl,rfl,rfl,rfl,rfl,rfl,rfl,rfl,trivial⟩ ⟨rfl,rfl,rfl,rfl,rfl,rfl,trivial⟩ rfl fun ρ0 ff => ?_
      have hE : topE A.x B.x (i : Int) = entMax e1 e2 := by rw [topE,← he1,← he2]
      have hfa := (floorOf_pos oa.2 (i : Int)).1
      rw [hE] at hJi
      iterate 2 refine ⟨_,rfl,?_⟩
      refine AW.cutM (gg + 2) st' [(2,vL 2 0 (0)),(3,vL 3 0 (1)),(4,vL 4 0 (2)),(5,vL 5 0 (3)),(6,vI (i : Int)),(7,vI (topF A.x B.x (i : Int))),(8,vL 8 0 (gg)),(9,vB true),(10,vL 10 0 (gg + 1)),(11,vB false),(15,vB true),(52,vB false)] [(2,0,[vS A.p A.x.items.length,vS A.q A.x.floors.length]),(3,1,[vS B.p B.x.items.length,vS B.q B.x.floors.length]),(4,2,[.slice none 0 0,.slice none 0 0]),(5,3,[vS q1 (joinF A.x B.x i).items.length,vS q6 (joinF A.x B.x (i + 1)).floors.length]),(8,gg,[vI e1.inc,vI e1.rank,vI e1.beat,vI e1.ver,.string e1.data]),(10,gg + 1,[vI e2.inc,vI e2.rank,vI e2.beat,vI e2.ver,.string e2.data])] ⟨rfl,rfl,rfl,rfl,rfl,rfl,rfl,rfl,rfl,rfl,rfl,rfl,trivial⟩ ⟨rfl,rfl,rfl,rfl,rfl,rfl,trivial⟩ rfl fun ρ0 ff => ?_
      refine cxs ?_
      refine ⟨_,op_ldo rfl rfl rfl rfl,?_⟩
      refine ⟨_,rfl,?_⟩
      refine ⟨_,op_sto rfl rfl rfl rfl rfl rfl rfl,?_⟩
      refine AW.cutM (gg + 3) st' [(2,vL 2 0 (0)),(3,vL 3 0 (1)),(4,vL 4 0 (2)),(5,vL 5 0 (3)),(6,vI (i : Int)),(7,vI (topF A.x B.x (i : Int))),(8,vL 8 0 (gg)),(9,vB true),(10,vL 10 0 (gg + 1)),(11,vB false),(12,vL 12 0 (gg + 2)),(15,vB true),(52,vB false)] [(2,0,[vS A.p A.x.items.length,vS A.q A.x.floors.length]),(3,1,[vS B.p B.x.items.length,vS B.q B.x.floors.length]),(4,2,[.slice none 0 0,.slice none 0 0]),(5,3,[vS q1 (joinF A.x B.x i).items.length,vS q6 (joinF A.x B.x (i + 1)).floors.length]),(8,gg,[vI e1.inc,vI e1.rank,vI e1.beat,vI e1.ver,.string e1.data]),(10,gg + 1,[vI e2.inc,vI e2.rank,vI e2.beat,vI e2.ver,.string e2.data]),(12,gg + 2,[vI e1.inc,vI e1.rank,vI e1.beat,vI e1.ver,.string e1.data])] ⟨rfl,rfl,rfl,rfl,rfl,rfl,rfl,rfl,rfl,rfl,rfl,rfl,rfl,trivial⟩ ⟨rfl,rfl,rfl,rfl,rfl,rfl,rfl,trivial⟩ rfl fun ρ0 ff => ?_
      iterate 3 refine ⟨_,rfl,?_⟩
      refine AW.cutM (gg + 3) st' [(2,vL 2 0 (0)),(3,vL 3 0 (1)),(4,vL 4 0 (2)),(5,vL 5 0 (3)),(6,vI (i : Int)),(7,vI (topF A.x B.x (i : Int))),(8,vL 8 0 (gg)),(9,vB true),(10,vL 10 0 (gg + 1)),(11,vB false),(12,vL 12 0 (gg + 2)),(15,vB true),(52,vB false),(64,vB false)] [(2,0,[vS A.p A.x.items.length,vS A.q A.x.floors.length]),(3,1,[vS B.p B.x.items.length,vS B.q B.x.floors.length]),(4,2,[.slice none 0 0,.slice none 0 0]),(5,3,[vS q1 (joinF A.x B.x i).items.length,vS q6 (joinF A.x B.x (i + 1)).floors.length]),(8,gg,[vI e1.inc,vI e1.rank,vI e1.beat,vI e1.ver,.string e1.data]),(10,gg + 1,[vI e2.inc,vI e2.rank,vI e2.beat,vI e2.ver,.string e2.data]),(12,gg + 2,[vI e1.inc,vI e1.rank,vI e1.beat,vI e1.ver,.string e1.data])] ⟨rfl,rfl,rfl,rfl,rfl,rfl,rfl,rfl,rfl,rfl,rfl,rfl,rfl,rfl,trivial⟩ ⟨rfl,rfl,rfl,rfl,rfl,rfl,rfl,trivial⟩ rfl fun ρ0 ff => ?_
      have hm : entMax e1 e2 = e1 := by rw [entP_none he2]; exact (entMax_zero (ent_ok oa he1).1.1).1
      rw [hm] at hJi
      have hO7 := hO6
      have hP8 := hP6
      exact ⟨(q6,e1,_),⟨rfl,rfl,rfl,rfl,rfl,rfl,rfl,rfl,trivial⟩,⟨rfl,rfl,rfl,rfl,rfl,trivial⟩,hJi,hO7,hN6,hP8⟩
     ·iterate 3 refine ⟨_,rfl,?_⟩
      refine ⟨_,op_sto rfl rfl rfl rfl rfl rfl rfl,?_⟩
      refine AW.cutM (gg + 2) st' [(2,vL 2 0 (0)),(3,vL 3 0 (1)),(4,vL 4 0 (2)),(5,vL 5 0 (3)),(6,vI (i : Int)),(7,vI (topF A.x B.x (i : Int))),(8,vL 8 0 (gg)),(9,vB true),(10,vL 10 0 (gg + 1)),(11,vB true),(15,vB true)] [(2,0,[vS A.p A.x.items.length,vS A.q A.x.floors.length]),(3,1,[vS B.p B.x.items.length,vS B.q B.x.floors.length]),(4,2,[.slice none 0 0,.slice none 0 0]),(5,3,[vS q1 (joinF A.x B.x i).items.length,vS q6 (joinF A.x B.x (i + 1)).floors.length]),(8,gg,[vI e1.inc,vI e1.rank,vI e1.beat,vI e1.ver,.string e1.data]),(10,gg + 1,[vI e2.inc,vI e2.rank,vI e2.beat,vI e2.ver,.string e2.data])] ⟨rfl,rfl,rfl,rfl,rfl,rfl,rfl,rfl,rfl,rfl,rfl,trivial⟩ ⟨rfl,rfl,rfl,rfl,rfl,rfl,trivial⟩ rfl fun ρ0 ff => ?_
      have hE : topE A.x B.x (i : Int) = entMax e1 e2 := by rw [topE,← he1,← he2]
      have hfa := (floorOf_pos oa.2 (i : Int)).1
      rw [hE] at hJi
      iterate 2 refine ⟨_,rfl,?_⟩
      refine AW.cutM (gg + 2) st' [(2,vL 2 0 (0)),(3,vL 3 0 (1)),(4,vL 4 0 (2)),(5,vL 5 0 (3)),(6,vI (i : Int)),(7,vI (topF A.x B.x (i : Int))),(8,vL 8 0 (gg)),(9,vB true),(10,vL 10 0 (gg + 1)),(11,vB true),(15,vB true),(52,vB false)] [(2,0,[vS A.p A.x.items.length,vS A.q A.x.floors.length]),(3,1,[vS B.p B.x.items.length,vS B.q B.x.floors.length]),(4,2,[.slice none 0 0,.slice none 0 0]),(5,3,[vS q1 (joinF A.x B.x i).items.length,vS q6 (joinF A.x B.x (i + 1)).floors.length]),(8,gg,[vI e1.inc,vI e1.rank,vI e1.beat,vI e1.ver,.string e1.data]),(10,gg + 1,[vI e2.inc,vI e2.rank,vI e2.beat,vI e2.ver,.string e2.data])] ⟨rfl,rfl,rfl,rfl,rfl,rfl,rfl,rfl,rfl,rfl,rfl,rfl,trivial⟩ ⟨rfl,rfl,rfl,rfl,rfl,rfl,trivial⟩ rfl fun ρ0 ff => ?_
      refine cxs ?_
      refine ⟨_,op_ldo rfl rfl rfl rfl,?_⟩
      refine ⟨_,rfl,?_⟩
      refine ⟨_,op_sto rfl rfl rfl rfl rfl rfl rfl,?_⟩
      refine AW.cutM (gg + 3) st' [(2,vL 2 0 (0)),(3,vL 3 0 (1)),(4,vL 4 0 (2)),(5,vL 5 0 (3)),(6,vI (i : Int)),(7,vI (topF A.x B.x (i : Int))),(8,vL 8 0 (gg)),(9,vB true),(10,vL 10 0 (gg + 1)),(11,vB true),(12,vL 12 0 (gg + 2)),(15,vB true),(52,vB false)] [(2,0,[vS A.p A.x.items.length,vS A.q A.x.floors.length]),(3,1,[vS B.p B.x.items.length,vS B.q B.x.floors.length]),(4,2,[.slice none 0 0,.slice none 0 0]),(5,3,[vS q1 (joinF A.x B.x i).items.length,vS q6 (joinF A.x B.x (i + 1)).floors.length]),(8,gg,[vI e1.inc,vI e1.rank,vI e1.beat,vI e1.ver,.string e1.data]),(10,gg + 1,[vI e2.inc,vI e2.rank,vI e2.beat,vI e2.ver,.string e2.data]),(12,gg + 2,[vI e1.inc,vI e1.rank,vI e1.beat,vI e1.ver,.string e1.data])] ⟨rfl,rfl,rfl,rfl,rfl,rfl,rfl,rfl,rfl,rfl,rfl,rfl,rfl,trivial⟩ ⟨rfl,rfl,rfl,rfl,rfl,rfl,rfl,trivial⟩ rfl fun ρ0 ff => ?_
      refine ⟨_,rfl,?_⟩
      refine ⟨_,op_ldo rfl rfl rfl rfl,?_⟩
      refine ⟨_,op_ldo rfl rfl rfl rfl,?_⟩
      refine ⟨_,rfl,(ac_spec_EntryCmp e2 e1 st').mono ?_⟩
      rintro _ s7 ⟨rfl,hP7⟩
      refine ⟨_,rfl,?_⟩
      rintro (_|_) h3
      ·replace h3 : ¬ (entCmp e2 e1 > 0) := of_decide_eq_false h3
       iterate 2 refine ⟨_,rfl,?_⟩
       refine AW.cutM (gg + 3) s7 [(2,vL 2 0 (0)),(3,vL 3 0 (1)),(4,vL 4 0 (2)),(5,vL 5 0 (3)),(6,vI (i : Int)),(7,vI (topF A.x B.x (i : Int))),(8,vL 8 0 (gg)),(9,vB true),(10,vL 10 0 (gg + 1)),(11,vB true),(12,vL 12 0 (gg + 2)),(15,vB true),(52,vB false),(64,vB false)] [(2,0,[vS A.p A.x.items.length,vS A.q A.x.floors.length]),(3,1,[vS B.p B.x.items.length,vS B.q B.x.floors.length]),(4,2,[.slice none 0 0,.slice none 0 0]),(5,3,[vS q1 (joinF A.x B.x i).items.length,vS q6 (joinF A.x B.x (i + 1)).floors.length]),(8,gg,[vI e1.inc,vI e1.rank,vI e1.beat,vI e1.ver,.string e1.data]),(10,gg + 1,[vI e2.inc,vI e2.rank,vI e2.beat,vI e2.ver,.string e2.data]),(12,gg + 2,[vI e1.inc,vI e1.rank,vI e1.beat,vI e1.ver,.string e1.data])] ⟨rfl,rfl,rfl,rfl,rfl,rfl,rfl,rfl,rfl,rfl,rfl,rfl,rfl,rfl,trivial⟩ ⟨rfl,rfl,rfl,rfl,rfl,rfl,rfl,trivial⟩ rfl fun ρ0 ff => ?_
       have hm : entMax e1 e2 = e1 := by rw [entMax,if_neg (by have := entCmp_neg e1 e2; omega)]
       rw [hm] at hJi
       have hO7 := hO6.pres hP7
       have hP8 := hP6.trans hP7
       exact ⟨(q6,e1,_),⟨rfl,rfl,rfl,rfl,rfl,rfl,rfl,rfl,trivial⟩,⟨rfl,rfl,rfl,rfl,rfl,trivial⟩,hJi,hO7,hN6,hP8⟩
      ·replace h3 : entCmp e2 e1 > 0 := of_decide_eq_true h3
       iterate 2 refine ⟨_,rfl,?_⟩
       refine AW.cutM (gg + 3) s7 [(2,vL 2 0 (0)),(3,vL 3 0 (1)),(4,vL 4 0 (2)),(5,vL 5 0 (3)),(6,vI (i : Int)),(7,vI (topF A.x B.x (i : Int))),(8,vL 8 0 (gg)),(9,vB true),(10,vL 10 0 (gg + 1)),(11,vB true),(12,vL 12 0 (gg + 2)),(15,vB true),(52,vB false),(64,vB true)] [(2,0,[vS A.p A.x.items.length,vS A.q A.x.floors.length]),(3,1,[vS B.p B.x.items.length,vS B.q B.x.floors.length]),(4,2,[.slice none 0 0,.slice none 0 0]),(5,3,[vS q1 (joinF A.x B.x i).items.length,vS q6 (joinF A.x B.x (i + 1)).floors.length]),(8,gg,[vI e1.inc,vI e1.rank,vI e1.beat,vI e1.ver,.string e1.data]),(10,gg + 1,[vI e2.inc,vI e2.rank,vI e2.beat,vI e2.ver,.string e2.data]),(12,gg + 2,[vI e1.inc,vI e1.rank,vI e1.beat,vI e1.ver,.string e1.data])] ⟨rfl,rfl,rfl,rfl,rfl,rfl,rfl,rfl,rfl,rfl,rfl,rfl,rfl,rfl,trivial⟩ ⟨rfl,rfl,rfl,rfl,rfl,rfl,rfl,trivial⟩ rfl fun ρ0 ff => ?_
       have hm : entMax e1 e2 = e2 := by rw [entMax,if_pos (by have := entCmp_neg e1 e2; omega)]
       rw [hm] at hJi
       have hO7 := hO6.pres hP7
       have hP8 := hP6.trans hP7
       refine ⟨_,op_ldo rfl rfl rfl rfl,?_⟩
       refine ⟨_,op_sto rfl rfl rfl rfl rfl rfl rfl,?_⟩
       exact ⟨(q6,e2,_),⟨rfl,rfl,rfl,rfl,rfl,rfl,rfl,rfl,trivial⟩,⟨rfl,rfl,rfl,rfl,rfl,trivial⟩,hJi,hO7,hN6,hP8⟩
  ·rintro ⟨q6,e,g12⟩ ρ0 ff gg st' ⟨hJi2,hO7,hN6,hP8⟩
   simp only at hJi2 hO7 hN6
   refine ⟨_,rfl,?_⟩
   refine ⟨_,op_ldo rfl rfl rfl rfl,?_⟩
   refine ⟨_,rfl,?_⟩
   rintro (_|_) h4
   ·replace h4 : ¬ (e.inc > topF A.x B.x (i : Int)) := of_decide_eq_false h4
    refine AW.cutM (gg) st' [(2,vL 2 0 (0)),(3,vL 3 0 (1)),(4,vL 4 0 (2)),(5,vL 5 0 (3)),(6,vI (i : Int)),(7,vI (topF A.x B.x (i : Int))),(12,vL 12 0 (g12)),(15,vB true),(69,vB false)] [(2,0,[vS A.p A.x.items.length,vS A.q A.x.floors.length]),(3,1,[vS B.p B.x.items.length,vS B.q B.x.floors.length]),(4,2,[.slice none 0 0,.slice none 0 0]),(5,3,[vS q1 (joinF A.x B.x i).items.length,vS q6 (joinF A.x B.x (i + 1)).floors.length]),(12,g12,[vI e.inc,vI e.rank,vI e.beat,vI e.ver,.string e.data])] ⟨rfl,rfl,rfl,rfl,rfl,rfl,rfl,rfl,rfl,trivial⟩ ⟨rfl,rfl,rfl,rfl,rfl,trivial⟩ rfl fun ρ0 ff => ?_
    refine cxs ?_
    have e17 : IntKind.wrap .i64 ((i : Int) + 1) = ((i + 1 : Nat) : Int) := (wrap_i64 (by omega) (by omega)).trans (by omega)
    refine ⟨_,rfl,?_⟩
    rw [if_neg h4] at hJi2
    exact ⟨(i + 1,q1,q6),5 - (i + 1),by omega,⟨rfl,rfl,rfl,rfl,congrArg (Value.int .i64) e17,trivial⟩,⟨rfl,rfl,rfl,(show some (3,[vS q1 (joinF A.x B.x i).items.length,vS q6 (joinF A.x B.x (i + 1)).floors.length]) = _ by rw [hJi2]),trivial⟩,rfl,by omega,by rw [hJi2]; exact hO7,hN1,hN6,hP8⟩
   ·replace h4 : e.inc > topF A.x B.x (i : Int) := of_decide_eq_true h4
    refine AW.cutM (gg) st' [(2,vL 2 0 (0)),(3,vL 3 0 (1)),(4,vL 4 0 (2)),(5,vL 5 0 (3)),(6,vI (i : Int)),(7,vI (topF A.x B.x (i : Int))),(12,vL 12 0 (g12)),(15,vB true),(69,vB true)] [(2,0,[vS A.p A.x.items.length,vS A.q A.x.floors.length]),(3,1,[vS B.p B.x.items.length,vS B.q B.x.floors.length]),(4,2,[.slice none 0 0,.slice none 0 0]),(5,3,[vS q1 (joinF A.x B.x i).items.length,vS q6 (joinF A.x B.x (i + 1)).floors.length]),(12,g12,[vI e.inc,vI e.rank,vI e.beat,vI e.ver,.string e.data])] ⟨rfl,rfl,rfl,rfl,rfl,rfl,rfl,rfl,rfl,trivial⟩ ⟨rfl,rfl,rfl,rfl,rfl,trivial⟩ rfl fun ρ0 ff => ?_
    refine ⟨_,rfl,?_⟩
    refine ⟨_,op_ldo rfl rfl rfl rfl,?_⟩
    refine ⟨_,op_ldo rfl rfl rfl rfl,?_⟩
    refine ⟨_,rfl,?_⟩
    refine op_one (z := 6) (a := (⟨(i : Int),e⟩ : Itm)) (f := cItm) rfl rfl rfl rfl rfl (by decide) rfl (Nat.le_of_ble_eq_true rfl) rfl rfl rfl ?_
    refine op_add (z := 6) (st := st') (f := cItm) (b := 56) (l := (joinF A.x B.x i).items) rfl rfl rfl rfl rfl rfl rfl (by decide) len_cItm rfl rfl rfl (by omega) (by unfold maxLen; omega) (pcS_i hO7) ?_
    intro q8 s8 hO8 hP9 hN8
    refine ⟨_,rfl,?_⟩
    refine ⟨_,op_sto rfl rfl rfl rfl rfl rfl rfl,?_⟩
    refine AW.cutM (gg) s8 [(2,vL 2 0 (0)),(3,vL 3 0 (1)),(4,vL 4 0 (2)),(5,vL 5 0 (3)),(6,vI (i : Int)),(7,vI (topF A.x B.x (i : Int))),(12,vL 12 0 (g12)),(15,vB true),(69,vB true)] [(2,0,[vS A.p A.x.items.length,vS A.q A.x.floors.length]),(3,1,[vS B.p B.x.items.length,vS B.q B.x.floors.length]),(4,2,[.slice none 0 0,.slice none 0 0]),(5,3,[vS q8 ((joinF A.x B.x i).items.length + 1),vS q6 (joinF A.x B.x (i + 1)).floors.length]),(12,g12,[vI e.inc,vI e.rank,vI e.beat,vI e.ver,.string e.data])] ⟨rfl,rfl,rfl,rfl,rfl,rfl,rfl,rfl,rfl,trivial⟩ ⟨rfl,rfl,rfl,rfl,rfl,trivial⟩ rfl fun ρ0 ff => ?_
    have e17 : IntKind.wrap .i64 ((i : Int) + 1) = ((i + 1 : Nat) : Int) := (wrap_i64 (by omega) (by omega)).trans (by omega)
    refine ⟨_,rfl,?_⟩
    rw [if_pos h4] at hJi2
    exact ⟨(i + 1,q8,q6),5 - (i + 1),by omega,⟨rfl,rfl,rfl,rfl,congrArg (Value.int .i64) e17,trivial⟩,⟨rfl,rfl,rfl,(show some (3,[vS q8 ((joinF A.x B.x i).items.length + 1),vS q6 (joinF A.x B.x (i + 1)).floors.length]) = _ by rw [hJi2,List.length_append]; rfl),trivial⟩,rfl,by omega,by rw [hJi2]; exact pcS_items hO7 hP9 hO8 hN8,hN8.le hP8.1,hN6,hP9.pres hP8 hN1⟩
theorem pick_get {β : Type} {f : Nat → Option β} {n i : Nat} {x : β} (h : ((List.range n).filterMap f)[i]? = some x) : ∃ j,j < n ∧ f j = some x := by
 obtain ⟨j,hj,hf⟩ := List.mem_filterMap.1 (List.mem_of_getElem? h)
 exact ⟨j,List.mem_range.1 hj,hf⟩
theorem pick_lt {β : Type} {f : Nat → Option β} {id : β → Int} (hid : ∀ j x,f j = some x → id x = (j : Int)) {n i : Nat} {x y : β} (h : ((List.range n).filterMap f)[i]? = some x) (h0 : 0 < i) (hy : ((List.range n).filterMap f)[i - 1]? = some y) : id y < id x := by
 have hp : ((List.range n).filterMap f).Pairwise fun a b => id a < id b := by
  rw [List.pairwise_filterMap]
  refine List.Pairwise.imp ?_ List.pairwise_lt_range
  intro a b hab u hu v hv
  rw [hid a u hu,hid b v hv]
  omega
 rw [List.pairwise_iff_getElem] at hp
 obtain ⟨h1,h2⟩ := List.getElem?_eq_some_iff.1 h
 obtain ⟨h3,h4⟩ := List.getElem?_eq_some_iff.1 hy
 rw [← h2,← h4]
 exact hp _ _ h3 h1 (by omega)
theorem floorOf_snoc (l : List Flr) (x : Flr) (id : Int) : floorOf (l ++ [x]) id = if (∃ y ∈ l,y.id = id) then floorOf l id else if x.id = id then x.inc else 0 := by
 induction l with
 | nil => simp [floorOf]
 | cons y l ih =>
  rw [List.cons_append,floorOf,floorOf,ih]
  by_cases h : y.id = id
  ·simp [h]
  ·simp [h]
theorem floorOf_pick (t : Int → Int) (id : Nat) : ∀ n,floorOf ((List.range n).filterMap fun (j : Nat) => if t (j : Int) > 0 then some (⟨(j : Int),t (j : Int)⟩ : Flr) else none) (id : Int) = if id < n ∧ t (id : Int) > 0 then t (id : Int) else 0
 | 0 => by simp [floorOf]
 | n + 1 => by
  have ih := floorOf_pick t id n
  rw [List.range_succ,List.filterMap_append]
  have hex : (∃ y ∈ (List.range n).filterMap (fun (j : Nat) => if t (j : Int) > 0 then some (⟨(j : Int),t (j : Int)⟩ : Flr) else none),y.id = (id : Int)) ↔ id < n ∧ t (id : Int) > 0 := by
   constructor
   ·rintro ⟨y,hy,hid⟩
    obtain ⟨j,hj,hf⟩ := List.mem_filterMap.1 hy
    split at hf
    ·rename_i ht
     injection hf with hf
     rw [← hf] at hid
     have hid : (j : Int) = (id : Int) := hid
     have : j = id := by omega
     exact ⟨by rw [← this]; exact List.mem_range.1 hj,by rw [← this]; exact ht⟩
    ·cases hf
   ·rintro ⟨h1,h2⟩
    exact ⟨⟨(id : Int),t (id : Int)⟩,List.mem_filterMap.2 ⟨id,List.mem_range.2 h1,by rw [if_pos h2]⟩,rfl⟩
  by_cases hn : t (n : Int) > 0
  ·simp only [List.filterMap_cons,List.filterMap_nil,hn,if_true]
   rw [floorOf_snoc]
   by_cases h1 : id < n ∧ t (id : Int) > 0
   ·rw [if_pos (hex.2 h1),ih,if_pos h1,if_pos ⟨by omega,h1.2⟩]
   ·rw [if_neg (fun h => h1 (hex.1 h))]
    by_cases h2 : n = id
    ·subst h2; rw [if_pos rfl,if_pos ⟨Nat.lt_succ_self _,hn⟩]
    ·rw [if_neg (by simp only; omega),if_neg (fun h => h1 ⟨by omega,h.2⟩)]
  ·simp only [List.filterMap_cons,List.filterMap_nil,hn,if_false,List.append_nil]
   rw [ih]
   by_cases h1 : id < n ∧ t (id : Int) > 0
   ·rw [if_pos h1,if_pos ⟨by omega,h1.2⟩]
   ·rw [if_neg h1,if_neg (fun h => h1 ⟨by
     rcases Nat.lt_or_ge id n with h3 | h3
     ·exact h3
     ·have : id = n := by omega
      subst this; exact absurd h.2 hn,h.2⟩)]
theorem topF_pos {a b : Sta} (ha : marksOk a.floors) (hb : marksOk b.floors) (id : Int) : 0 ≤ topF a b id ∧ topF a b id ≤ 1000 := by
 have h1 := floorOf_pos ha id
 have h2 := floorOf_pos hb id
 unfold topF
 omega
theorem floorOf_join {a b : Sta} (ha : marksOk a.floors) (hb : marksOk b.floors) {n id : Nat} (h : id < n) : floorOf (joinF a b n).floors (id : Int) = topF a b (id : Int) := by
 have h1 := (topF_pos ha hb (id : Int)).1
 show floorOf ((List.range n).filterMap fun (j : Nat) => if topF a b (j : Int) > 0 then some (⟨(j : Int),topF a b (j : Int)⟩ : Flr) else none) (id : Int) = _
 rw [floorOf_pick (fun i => topF a b i) id n]
 by_cases h2 : topF a b (id : Int) > 0
 ·rw [if_pos ⟨h,h2⟩]
 ·rw [if_neg (fun h => h2 h.2)]; omega
theorem entP_cases {s : Sta} (h : ∀ (j : Nat) x,s.items[j]? = some x → itemOk s j x) (id : Int) : (entP s.items id).1 = zEnt ∨ entOk (entP s.items id).1 := by
 rcases hb : (entP s.items id) with ⟨e,b⟩
 cases b with
 | false => exact .inl (entP_none (e := e) (id := id) hb.symm)
 | true =>
  obtain ⟨j,x,h1,h2,_⟩ := entP_mem (e := e) (id := id) hb.symm
  exact .inr (h2 ▸ (h j x h1).2.1)
theorem stateOk_join {a b : Sta} (ha : stateOk a) (hb : stateOk b) : stateOk (joinF a b 5) := by
 refine ⟨fun i x hx => ?_,fun i x hx => ?_⟩
 ·have hx' : ((List.range 5).filterMap fun (j : Nat) => if (topE a b (j : Int)).inc > topF a b (j : Int) then some (⟨(j : Int),topE a b (j : Int)⟩ : Itm) else none)[i]? = some x := hx
  obtain ⟨j,hj,hf⟩ := pick_get hx'
  split at hf
  ·rename_i ht
   injection hf with hf
   have hfl := floorOf_join ha.2 hb.2 hj
   have htp := (topF_pos ha.2 hb.2 (j : Int)).1
   have he : entOk (topE a b (j : Int)) := by
    have key : topE a b (j : Int) = (entP a.items (j : Int)).1 ∨ topE a b (j : Int) = (entP b.items (j : Int)).1 := by unfold topE entMax; split; exact .inr rfl; exact .inl rfl
    rcases key with h | h
    ·rcases entP_cases ha.1 (j : Int) with h2 | h2
     ·rw [h,h2] at ht; simp only [zEnt] at ht; omega
     ·rw [h]; exact h2
    ·rcases entP_cases hb.1 (j : Int) with h2 | h2
     ·rw [h,h2] at ht; simp only [zEnt] at ht; omega
     ·rw [h]; exact h2
   rw [← hf]
   refine ⟨⟨by simp only; omega,by simp only; omega⟩,he,by simp only; rw [hfl]; exact ht,fun y h0 hy => ?_⟩
   have := pick_lt (id := Itm.id) (fun j x hx => by
    split at hx
    ·injection hx with hx; rw [← hx]
    ·cases hx) hx' h0 hy
   rw [← hf] at this
   exact this
  ·cases hf
 ·have hx' : ((List.range 5).filterMap fun (j : Nat) => if topF a b (j : Int) > 0 then some (⟨(j : Int),topF a b (j : Int)⟩ : Flr) else none)[i]? = some x := hx
  obtain ⟨j,hj,hf⟩ := pick_get hx'
  split at hf
  ·rename_i ht
   injection hf with hf
   have htp := (topF_pos ha.2 hb.2 (j : Int))
   rw [← hf]
   refine ⟨⟨by simp only; omega,by simp only; omega⟩,⟨by simp only; omega,htp.2⟩,fun y h0 hy => ?_⟩
   have := pick_lt (id := Flr.id) (fun j x hx => by
    split at hx
    ·injection hx with hx; rw [← hx]
    ·cases hx) hx' h0 hy
   rw [← hf] at this
   exact this
  ·cases hf
theorem stateOk_nil : stateOk ⟨[],[]⟩ := ⟨fun j x h => (by cases h),fun j x h => (by cases h)⟩
theorem stateOk_floors {l : List Flr} (h : marksOk l) : stateOk ⟨[],l⟩ := ⟨fun j x hx => (nomatch hx),h⟩
def NC (c : Nat) (q : Option Addr) : Prop := ∀ a,q = some a → a.block ≠ c
theorem NC.new {c n : Nat} {q : Option Addr} (hN : New n q) (h : c < n) : NC c q := fun a ha => Nat.ne_of_gt (Nat.lt_of_lt_of_le h (hN a ha))
theorem Cur.lt {st : St} {c : Nat} {p : Option Addr} {bs : List Int} (h : Cur st c p bs) : c < st.next := h.1
def FrC (c : Nat) (a b : St) (l : List Pc) : Prop := OwnP b l ∧ NewP a.next l ∧ PresC c a b ∧ c < a.next
theorem FrC.nil {c : Nat} {a : St} (h : c < a.next) : FrC c a a [] := ⟨OwnP.nil,NewP.nil,PresC.refl _ _,h⟩
theorem Frs.toC {c : Nat} {a b : St} {l : List Pc} (h : Frs a b l) (hc : c < a.next) : FrC c a b l := ⟨h.1,h.2.1,h.2.2.c,hc⟩
theorem OwnP.presC {c n : Nat} {st st' : St} {l : List Pc} (h : OwnP st l) (hP : PresC c st st') (hN : NewP n l) (hn : c < n) : OwnP st' l :=
 h.keep hP.1 fun x hx q hq => hP.2 _ ((h.1 x hx).old q hq) (Nat.ne_of_gt (Nat.lt_of_lt_of_le hn (hN x hx q hq)))
theorem FrC.later {c : Nat} {a b d : St} {l : List Pc} (h : FrC c a b l) (k : PresC c b d) : FrC c a d l := ⟨h.1.presC k h.2.1 h.2.2.2,h.2.1,h.2.2.1.trans k,h.2.2.2⟩
theorem FrC.step {c : Nat} {a b d : St} {l : List Pc} (h : FrC c a b l) (k : Pres b d) : FrC c a d l := h.later k.c
theorem FrC.sooner {c : Nat} {a b d : St} {l : List Pc} (h : FrC c b d l) (k : PresC c a b) (hc : c < a.next) : FrC c a d l := ⟨h.1,h.2.1.le k.1,k.trans h.2.2.1,hc⟩
theorem FrC.join {c : Nat} {a b d : St} {l m : List Pc} (h : FrC c a b l) (k : FrC c b d m) : FrC c a d (l ++ m) :=
 ⟨(h.later k.2.2.1).1.app k.1 fun x hx y hy => Dis.of (h.1.1 x hx).old (k.2.1 y hy),h.2.1.app (k.2.1.le h.2.2.1.1),h.2.2.1.trans k.2.2.1,h.2.2.2⟩
theorem FrC.lt {c : Nat} {a b : St} {l : List Pc} (h : FrC c a b l) : c < b.next := Nat.lt_of_lt_of_le h.2.2.2 h.2.2.1.1
theorem FrC.add {c : Nat} {a b d : St} {l m : List Pc} (h : FrC c a b l) (k : Frs b d m) : FrC c a d (l ++ m) := h.join (k.toC h.lt)
theorem FrC.left {c : Nat} {a b : St} {l m : List Pc} (h : FrC c a b (l ++ m)) : FrC c a b l := ⟨h.1.left,fun x hx => h.2.1 x (List.mem_append_left _ hx),h.2.2⟩
theorem FrC.right {c : Nat} {a b : St} {l m : List Pc} (h : FrC c a b (l ++ m)) : FrC c a b m := ⟨h.1.right,fun x hx => h.2.1 x (List.mem_append_right _ hx),h.2.2⟩
theorem FrC.out {st s1 s2 : St} {l : List Pc} (hF : FrC st.next s1 s2 l) (hP : Pres st s1) : Frs st s2 l := ⟨hF.1,hF.2.1.le hP.1,PresC.pres hP hF.2.2.1 (Nat.le_refl _)⟩
theorem PresC.thenNew {c : Nat} {q : Option Addr} {a b d : St} (h : PresC c a b) (k : Pr q b d) (hn : New a.next q) : PresC c a d :=
 ⟨Nat.le_trans h.1 k.1,fun x hx hc => (k.2 x (Nat.lt_of_lt_of_le hx h.1) fun r hr he => by have := hn r hr; omega).trans (h.2 x hx hc)⟩
theorem Cur.thenNew {c : Nat} {p q : Option Addr} {bs : List Int} {s0 s1 s2 : St} (h1 : Cur s1 c p bs) (h0 : Cur s0 c p bs) (h : PresC c s0 s1) (k : Pr q s1 s2) (hn : New s0.next q) : Cur s2 c p bs := Cur.grow h0 h h1 k.2 k.1 hn
theorem FrC.items {c : Nat} {a b d : St} {u : SV} {q : Option Addr} {l : List Itm} (h : FrC c a b (pcS u)) (hp : Pr u.p b d) (ho : OwnR d 6 cItm q l) (hn : New b.next q) : FrC c a d (pcS ⟨q,u.q,⟨l,u.x.floors⟩⟩) ∧ PresC c a d :=
 have hP := PresC.thenNew h.2.2.1 hp (h.2.1 _ (List.mem_cons_self ..))
 ⟨⟨pcS_items h.1 hp ho hn,NewP.cons (hn.le h.2.2.1.1) (NewP.cons (h.2.1 _ (List.mem_cons_of_mem _ (List.mem_cons_self ..))) NewP.nil),hP,h.2.2.2⟩,hP⟩
theorem FrC.floors {c : Nat} {a b d : St} {u : SV} {q : Option Addr} {l : List Flr} (h : FrC c a b (pcS u)) (hp : Pr u.q b d) (ho : OwnR d 2 cFlr q l) (hn : New b.next q) : FrC c a d (pcS ⟨u.p,q,⟨u.x.items,l⟩⟩) ∧ PresC c a d :=
 have hP := PresC.thenNew h.2.2.1 hp (h.2.1 _ (List.mem_cons_of_mem _ (List.mem_cons_self ..)))
 ⟨⟨pcS_floors h.1 hp ho hn,NewP.cons (h.2.1 _ (List.mem_cons_self ..)) (NewP.cons (hn.le h.2.2.1.1) NewP.nil),hP,h.2.2.2⟩,hP⟩
theorem FrC.setItems {c : Nat} {a b d : St} {u : SV} {l : List Itm} (h : FrC c a b (pcS u)) (hp : Pr u.p b d) (ho : OwnR d 6 cItm u.p l) : FrC c a d (pcS ⟨u.p,u.q,⟨l,u.x.floors⟩⟩) ∧ PresC c a d :=
 have hP := PresC.thenNew h.2.2.1 hp (h.2.1 _ (List.mem_cons_self ..))
 ⟨⟨OwnP.update (l := []) (m := [pcR 2 cFlr u.q u.x.floors]) (d := pcR 6 cItm u.p l) h.1 hp (own_pc ho) rfl,NewP.cons (h.2.1 (pcR 6 cItm u.p u.x.items) (List.mem_cons_self ..)) (NewP.cons (h.2.1 _ (List.mem_cons_of_mem _ (List.mem_cons_self ..))) NewP.nil),hP,h.2.2.2⟩,hP⟩
theorem Frs.nilS {a : St} : Frs a a (pcS ⟨none,none,nilS⟩) := ⟨pcS_nil,newS_nil,Pres.refl _⟩
structure smS (n : Nat) (x : Sta) : Prop where
 i : x.items.length ≤ n
 f : x.floors.length ≤ n
 d : ∀ y ∈ x.items,y.e.data.size ≤ 9
theorem smS.big {n : Nat} {x : Sta} (h : smS n x) (hn : n ≤ 1048576) : bigS x := ⟨Nat.le_trans h.i hn,Nat.le_trans h.f hn,fun y hy => Nat.le_trans (h.d y hy) (by decide)⟩
theorem smS.le {n m : Nat} {x : Sta} (h : smS n x) (k : n ≤ m) : smS m x := ⟨Nat.le_trans h.i k,Nat.le_trans h.f k,h.d⟩
theorem ids_len {α : Type} {id : α → Int} {l : List α} (h : ∀ (j : Nat) x,l[j]? = some x → (0 ≤ id x ∧ id x ≤ 4) ∧ ∀ y,0 < j → l[j - 1]? = some y → id y < id x) : l.length ≤ 5 := by
 have key : ∀ (j : Nat) x,l[j]? = some x → (j : Int) ≤ id x := by
  intro j
  induction j with
  | zero => intro x hx; exact (h 0 x hx).1.1
  | succ j ih =>
   intro x hx
   obtain ⟨hj,_⟩ := List.getElem?_eq_some_iff.1 hx
   have hy : l[j]? = some l[j] := List.getElem?_eq_getElem (by omega)
   have := ih _ hy
   have := (h _ _ hx).2 l[j] (Nat.succ_pos j) hy
   omega
 rcases Nat.lt_or_ge 5 l.length with h5 | h5
 ·have hx : l[5]? = some l[5] := List.getElem?_eq_getElem h5
  have := key 5 _ hx
  have := (h 5 _ hx).1.2
  omega
 ·exact h5
theorem marks_len {l : List Flr} (h : marksOk l) : l.length ≤ 5 := ids_len (id := fun x => x.id) fun j x hx => ⟨(h j x hx).1,(h j x hx).2.2⟩
theorem items_len {s : Sta} (h : stateOk s) : s.items.length ≤ 5 := ids_len (id := fun x => x.id) fun j x hx => ⟨(h.1 j x hx).1,(h.1 j x hx).2.2.2⟩
theorem sm_ok {s : Sta} (h : stateOk s) : smS 5 s := ⟨items_len h,marks_len h.2,fun y hy => by
 obtain ⟨j,hj⟩ := List.getElem?_of_mem hy
 have := (h.1 j y hj).2.1.2.2.2.2
 omega⟩
theorem big_ok {s : Sta} (h : stateOk s) : bigS s := (sm_ok h).big (by decide)
abbrev cStr : ByteArray → List Value := fun s => [.string s]
theorem cStr_len (x : ByteArray) : (cStr x).length = 1 := rfl
theorem ent_mk {i r b v : Int} {d : ByteArray} (h1 : 1 ≤ i ∧ i ≤ 1000) (h2 : 0 ≤ r ∧ r ≤ 1) (h3 : 0 ≤ b ∧ b ≤ 100000) (h4 : 0 ≤ v ∧ v ≤ 1000) (h5 : d.size ≤ 8) : entOk ⟨i,r,b,v,d⟩ := ⟨h1,h2,h3,h4,h5⟩
section
variable {P : Program} {ls : List Tmp} {call : ACallT} {o : Oper} {e : Operand → Value} {lo : Lo} {st : St} {K : Value × Lo × St → Prop}
theorem op_litS {t el : TypeId} {n : Nat} {ps : Array (Nat × Operand)} {u : Value} {l : List ByteArray} (ho : o.op = .buildSlice t n ps) (hp : parts e ps = mkp 0 (l.map Value.string)) (hn : n = l.length) (h0 : 0 < n) (he : telem P t = some el) (hz : tsize P el = some 1) (hz0 : tzero P el = some [u]) (hsz : n ≤ 16777216)
  (hK : ∀ q st',OwnR st' 1 cStr q l → Pres st st' → New st.next q → K (.slice q n n,lo,st')) : ∃ r,aoper P ls call o e lo st = some r ∧ K r := by
 refine op_lit ho hp (by rw [hn,List.length_map]) h0 he hz hz0 Nat.one_pos rfl (by omega) (fun v hv => ?_) ?_
 ·obtain ⟨r,_,rfl⟩ := List.mem_map.1 hv
  exact ⟨rfl,rfl⟩
 ·rw [show (l.map Value.string).flatMap (fun v => v.cells.toList) = l.flatMap cStr by rw [List.flatMap_map]; rfl]
  exact hK _ _ OwnR.push Pres.push New.self
theorem op_putw {α : Type} {f : α → List Value} {z : Nat} {t : TypeId} {x u : Operand} {p : Option Addr} {a d i : Nat} {l : List α} {j : Nat} {w y : α} {ws : List Value} {v : Value} (ho : o.op = .store t x u) (hx : e x = .pointer (some ⟨a,d,none⟩)) (hd : d = j * z + i) (hu : e u = v) (ht : tsize P t = some ws.length) (hz : ∀ x,(f x).length = z) (hv : v.cells.toList = ws) (hi : ws.all isCell = true) (hw : l[j]? = some w) (hf : ∃ A M B,f w = A ++ (M ++ B) ∧ f y = A ++ (ws ++ B) ∧ A.length = i ∧ M.length = ws.length)
  (hown : OwnR st z f p l) (hp : p = some ⟨a,0,none⟩)
  (hK : ∀ st',OwnR st' z f p (l.set j y) → Pr p st st' → st'.next = st.next → K (undef,lo,st')) : ∃ r,aoper P ls call o e lo st = some r ∧ K r := by
 subst hp hd
 rcases hown with ⟨h,_⟩ | ⟨a',h,ha,hm⟩
 ·cases h
 injection h with h
 injection h with h _ _
 subst h
 obtain ⟨hj,_⟩ := List.getElem?_eq_some_iff.1 hw
 obtain ⟨pre,cs,suf,h1,h2,h3,h4⟩ := flat_set hz (l := l) (j := j) (x := y) hj
 rw [hw] at h3
 injection h3 with h3
 obtain ⟨A,M,B,e1,e2,e3,e4⟩ := hf
 have hlen : j * z + i + ws.length ≤ (l.flatMap f).length := by
  rw [h1,← h3,e1]
  simp only [List.length_append]
  omega
 refine op_sta (z := ws.length) ho hx hu rfl ht (by rw [hv]) (by rw [hv]; exact hi) hm rfl hlen fun st' k1 k2 k3 => hK st' (.inr ⟨a,rfl,by omega,?_⟩) ⟨Nat.le_of_eq k2.symm,fun b _ hne => k3 b (fun hb => hne _ rfl hb)⟩ k2
 rw [k1]
 show some (Blk.mk true z (splice (l.flatMap f) (j * z + i) v.cells.toList)) = _
 rw [hv,h4,h1,← h3,e1,e2,← h2,← e3]
 have := splice_mid ws (pre ++ A) M (B ++ suf) e4
 simp only [List.append_assoc,List.length_append] at this ⊢
 rw [this]
end
theorem ac_d_l1Below {p : Option Addr} {bs : List Int} (c : Nat) (n : Int) (st : St) (hc : Cur st c p bs) (hs : bs.length < 1099511627776) : C 70 [vP c 0,vI n] st (fun v s => ∃ r,v = vI r ∧ 0 ≤ r ∧ (0 < n → r < n) ∧ (n ≤ 0 → r = 0) ∧ Cur s c p bs ∧ PresC c st s) := ac_l1Below c p bs n st hc hs
theorem ac_d_l1PickInt {p : Option Addr} {bs : List Int} (c : Nat) (q : Option Addr) (l : List Int) (st : St) (hc : Cur st c p bs) (hs : bs.length < 1099511627776) (hl : 0 < l.length) (hO : OwnR st 1 fI q l) (hp : NC c q) : C 149 [vP c 0,vS q l.length] st (fun v s => ∃ r,v = vI r ∧ r ∈ l ∧ Cur s c p bs ∧ PresC c st s) := by
 refine AC.enter' (i := ⟨[],[],[0,1,4],[]⟩) Try.func149 rfl rfl (by kernel_rfl) Try.ntmps149 (Nat.le_of_ble_eq_true rfl) rfl (cw_sound _ _ _ _ _ ?_)
 refine ⟨_,rfl,?_⟩
 refine ⟨_,rfl,(ac_l1Below c p bs l.length st hc hs).mono ?_⟩
 rintro _ s1 ⟨r1,rfl,h0,h1,_,hc1,hp1⟩
 have h1 := h1 (by omega)
 obtain ⟨j,rfl⟩ : ∃ j : Nat,r1 = j := ⟨r1.toNat,by omega⟩
 have hO1 : OwnR s1 1 fI q l := by
  rcases hO with h | ⟨a,rfl,ha,hm⟩
  ·exact .inl h
  ·exact .inr ⟨a,rfl,Nat.lt_of_lt_of_le ha hp1.1,(hp1.2 a ha (hp _ rfl)).trans hm⟩
 obtain ⟨b1,o1,k1,x,rfl,hx,hb1,hcc,_⟩ := (hO1.rows fI_len).atB (j := j) (by omega)
 refine ⟨_,op_idx rfl rfl rfl rfl rfl (by omega) (by omega),?_⟩
 refine ⟨_,op_ldc (i := 0) rfl rfl rfl rfl hb1 hcc rfl rfl,?_⟩
 exact ⟨.inl rfl,_,rfl,x,rfl,List.mem_of_getElem? hx,hc1,hp1⟩
theorem ac_d_l1Pick {p : Option Addr} {bs : List Int} (c : Nat) (q : Option Addr) (l : List ByteArray) (st : St) (hc : Cur st c p bs) (hs : bs.length < 1099511627776) (hl : 0 < l.length) (hO : OwnR st 1 cStr q l) (hp : NC c q) : C 191 [vP c 0,vS q l.length] st (fun v s => ∃ r : ByteArray,v = .string r ∧ r ∈ l ∧ Cur s c p bs ∧ PresC c st s) := by
 refine AC.enter' (i := ⟨[],[],[0,1,4],[]⟩) Try.func191 rfl rfl (by kernel_rfl) Try.ntmps191 (Nat.le_of_ble_eq_true rfl) rfl (cw_sound _ _ _ _ _ ?_)
 refine ⟨_,rfl,?_⟩
 refine ⟨_,rfl,(ac_l1Below c p bs l.length st hc hs).mono ?_⟩
 rintro _ s1 ⟨r1,rfl,h0,h1,_,hc1,hp1⟩
 have h1 := h1 (by omega)
 obtain ⟨j,rfl⟩ : ∃ j : Nat,r1 = j := ⟨r1.toNat,by omega⟩
 have hO1 : OwnR s1 1 cStr q l := by
  rcases hO with h | ⟨a,rfl,ha,hm⟩
  ·exact .inl h
  ·exact .inr ⟨a,rfl,Nat.lt_of_lt_of_le ha hp1.1,(hp1.2 a ha (hp _ rfl)).trans hm⟩
 obtain ⟨b1,o1,k1,x,rfl,hx,hb1,hcc,_⟩ := (hO1.rows cStr_len).atB (j := j) (by omega)
 refine ⟨_,op_idx rfl rfl rfl rfl rfl (by omega) (by omega),?_⟩
 refine ⟨_,op_ldc (i := 0) rfl rfl rfl rfl hb1 hcc rfl rfl,?_⟩
 exact ⟨.inl rfl,_,rfl,x,rfl,List.mem_of_getElem? hx,hc1,hp1⟩
theorem texts_8 {x : ByteArray} (h : x ∈ [⟨#[]⟩,⟨#[97]⟩,⟨#[98]⟩,⟨#[97,98]⟩,⟨#[49,50,51,52,53,54,55,56]⟩]) : x.size ≤ 8 := by
 simp only [List.mem_cons,List.not_mem_nil,or_false] at h
 rcases h with rfl | rfl | rfl | rfl | rfl <;> decide
theorem ac_d_l2Right {p : Option Addr} {bs : List Int} (c : Nat) (st : St) (hc : Cur st c p bs) (hs : bs.length < 1099511627776) : C 180 [vP c 0] st (fun v s => ∃ e : Ent,v = .agg #[vI e.inc,vI e.rank,vI e.beat,vI e.ver,.string e.data] ∧ entOk e ∧ Cur s c p bs ∧ PresC c st s) := by
 refine AC.enterX (i := ⟨[2],[2],[0,2],[]⟩) [] Try.func180 rfl rfl (by kernel_rfl) (by kernel_rfl) Try.ntmps180 (Nat.le_of_ble_eq_true rfl) rfl ?_
 refine ⟨_,rfl,?_⟩
 refine AW.cutM (1) st [(0,vP c 0),(2,vL 2 0 (0))] [(2,0,[vI 0,vI 0,vI 0,vI 0,.string ⟨#[]⟩])] ⟨rfl,rfl,trivial⟩ ⟨rfl,trivial⟩ rfl fun ρ0 ff => ?_
 refine ⟨_,rfl,(ac_d_l1Below c 3 st hc (by first | assumption | omega)).mono ?_⟩
 rintro _ s4 ⟨r4,rfl,h4,h4',h4'',hC4,hL4⟩
 have ew5 : IntKind.wrap .i64 ((1) + r4) = (1) + r4 := wrap_i64 (by omega) (by omega)
 refine ⟨_,rfl,?_⟩
 refine ⟨_,rfl,(ac_d_l1Below c 2 s4 hC4 (by first | assumption | omega)).mono ?_⟩
 rintro _ s7 ⟨r7,rfl,h7,h7',h7'',hC7,hL7⟩
 refine ⟨_,rfl,(ac_d_l1Below c 3 s7 hC7 (by first | assumption | omega)).mono ?_⟩
 rintro _ s9 ⟨r9,rfl,h9,h9',h9'',hC9,hL9⟩
 refine ⟨_,rfl,(ac_d_l1Below c 3 s9 hC9 (by first | assumption | omega)).mono ?_⟩
 rintro _ s11 ⟨r11,rfl,h11,h11',h11'',hC11,hL11⟩
 refine op_litS (l := [⟨#[]⟩,⟨#[97]⟩,⟨#[98]⟩,⟨#[97,98]⟩,⟨#[49,50,51,52,53,54,55,56]⟩]) rfl rfl rfl (Nat.le_of_ble_eq_true rfl) rfl rfl rfl (Nat.le_of_ble_eq_true rfl) ?_
 intro q13 s13 hO13 hP13 hN13
 refine ⟨_,rfl,(ac_d_l1Pick c q13 ([⟨#[]⟩,⟨#[97]⟩,⟨#[98]⟩,⟨#[97,98]⟩,⟨#[49,50,51,52,53,54,55,56]⟩]) s13 (hC11.pres hP13) (by first | assumption | omega) (by first | assumption | omega | decide) (by first | assumption | omega) (by first | assumption | exact NC.new (by assumption) (Cur.lt (by assumption)))).mono ?_⟩
 rintro _ s14 ⟨r14,rfl,h14,hC14,hL14⟩
 refine ⟨_,rfl,?_⟩
 refine ⟨_,op_sto rfl rfl rfl rfl rfl rfl rfl,?_⟩
 refine cxs ?_
 exact ⟨.inl rfl,_,rfl,⟨IntKind.wrap .i64 (1 + r4),r7,r9,r11,r14⟩,rfl,ent_mk (by omega) (by omega) (by omega) (by omega) (texts_8 h14),hC14,((((hL4.trans hL7).trans hL9).trans hL11).trans hP13.c).trans hL14⟩
section
variable {P : Program} {ls : List Tmp} {call : ACallT} {o : Oper} {e : Operand → Value} {lo : Lo} {st : St}
theorem op_strW {src dst el : TypeId} {x : Operand} {p : Option Addr} {l : List Int} (ho : o.op = .convert src dst x) (hx : e x = vS p l.length) (hd : telem P dst = none) (hs : tstr P dst = true) (hse : telem P src = some el) (hi : tint P el = some .u8) (hR : Rows st 1 fB p l) (hl : 0 < l.length) :
  aoper P ls call o e lo st = some (.string (toB l),lo,st) := by
 have hp : shO p 1 0 = p := by cases p <;> simp [shO]
 have := op_strS (ls := ls) (call := call) (lo := lo) (e := e) (k := 0) (n := l.length) ho (hx.trans (by rw [hp])) hd hs hse hi hR hl (by omega)
 rw [List.drop_zero,List.take_length] at this
 exact this
theorem ld_str {n0 : Nat → Prop} {o' : Op} {s d : TypeId} {x : Operand} {p : Option Addr} {n : Nat} (ho : o' = .convert s d x) (hx : e x = vS p n) (hp : ∀ q,p = some q → q.spot = none ∧ n0 q.block) : ldChk n0 o' e := by
 subst ho
 intro q m c h
 rw [hx] at h
 injection h with h1 _ _
 exact hp q h1
end
theorem rows_lt {st : St} {p : Option Addr} {l : List Int} (h : Rows st 1 fB p l) (hl : 0 < l.length) : ∀ q,p = some q → q.spot = none ∧ q.block < st.next := fun q hq => by
 rcases h with rfl | ⟨b,off,blk,h1,_,hb,_⟩
 ·cases hl
 ·rw [h1] at hq; injection hq with hq; subst hq; exact ⟨rfl,hb⟩
theorem bsl_toB {l : List Int} (h : bytesOk l) : bsl (toB l) = l := by
 unfold bsl toB
 rw [List.map_map]
 conv => rhs; rw [← List.map_id l]
 refine List.map_congr_left fun x hx => ?_
 have := h x hx
 show ((UInt8.ofNat x.toNat).toNat : Int) = x
 rw [UInt8.toNat_ofNat']
 omega
theorem toB_inj {a b : List Int} (ha : bytesOk a) (hb : bytesOk b) (h : toB a = toB b) : a = b := by rw [← bsl_toB ha,← bsl_toB hb,h]
theorem ac_bytes_Equal (p q : Option Addr) (a b : List Int) (st : St) (hA : Rows st 1 fB p a) (hB : Rows st 1 fB q b) (ha : 0 < a.length) (hb : 0 < b.length) (oa : bytesOk a) (ob : bytesOk b) : C 101 [vS p a.length,vS q b.length] st (fun v s => ∃ x,v = .bool x ∧ (x = true ↔ a = b) ∧ s = st) := by
 refine AC.enterX (i := ⟨[],[],[0,1,4],[]⟩) [] Try.func101 rfl rfl (by kernel_rfl) (by kernel_rfl) Try.ntmps101 (Nat.le_of_ble_eq_true rfl) rfl ?_
 refine AW.cut lo0 st [(0,vS p a.length),(1,vS q b.length),(4,vB false)] ⟨rfl,rfl,rfl,trivial⟩ fun ρ0 => ?_
 refine ⟨_,op_strW (l := a) rfl rfl rfl rfl rfl rfl hA ha,?_⟩
 refine ⟨_,op_strW (l := b) rfl rfl rfl rfl rfl rfl hB hb,?_⟩
 refine ⟨_,rfl,?_⟩
 rintro (_|_) h9
 ·replace h9 : ¬ ((toB a) = (toB b)) := str_bne h9
  refine cxs ?_
  exact ⟨.inl rfl,_,rfl,false,rfl,⟨fun h => absurd h Bool.false_ne_true,fun h => (show False from (h9 (by rw [h]))).elim⟩,rfl⟩
 ·replace h9 : (toB a) = (toB b) := beq_bytes.1 h9
  refine cxs ?_
  exact ⟨.inl rfl,_,rfl,true,rfl,⟨fun _ => toB_inj oa ob h9,fun _ => rfl⟩,rfl⟩
open Classical in
noncomputable def parseS (l : List Int) : Sta × Bool := if h : ∃ s,stateOk s ∧ stB s = l then (Classical.choose h,true) else (nilS,false)
theorem parse_ok {u : Sta} {l : List Int} (h1 : stateOk u) (h2 : stB u = l) (h3 : ∀ s,stateOk s → stB s = l → u = s) : (u,true) = parseS l := by
 unfold parseS
 have h : ∃ s,stateOk s ∧ stB s = l := ⟨u,h1,h2⟩
 rw [dif_pos h,← h3 _ (Classical.choose_spec h).1 (Classical.choose_spec h).2]
theorem parse_no {l : List Int} (h : ∀ s,stateOk s → stB s = l → False) : (nilS,false) = parseS l := by
 unfold parseS
 rw [dif_neg (fun ⟨s,h1,h2⟩ => h s h1 h2)]
theorem parse_yes {u : Sta} {l : List Int} (h : (u,true) = parseS l) : stateOk u ∧ stB u = l := by
 unfold parseS at h
 split at h
 ·rename_i hx
  injection h with h _
  rw [h]; exact Classical.choose_spec hx
 ·injection h with _ h; cases h
theorem sta_of {a b : Sta} (h1 : a.items = b.items) (h2 : a.floors = b.floors) : a = b := by
 obtain ⟨ai,af⟩ := a
 obtain ⟨bi,bf⟩ := b
 simp only at h1 h2
 rw [h1,h2]
theorem gtR_rng {l : List Int} {a k : Int} {t : ByteArray} {b : Bool} (hl : bytesOk l) (hs : l.length ≤ 1048576) (h : (t,k,b) = gtR l a) : k ≤ 1099511627776 ∧ t.size ≤ 1048576 ∧ (b = true → 0 < l.length) := by
 unfold gtR at h
 rcases hg : gnR l a with ⟨n',k',b'⟩
 rw [hg] at h
 simp only at h
 split at h
 ·rename_i hc
  obtain ⟨rfl,hc⟩ := hc
  have := gnR_ok hl hg.symm
  injection h with e1 h
  injection h with e2 e3
  rw [e1,e2]
  refine ⟨by omega,?_,fun _ => gnR_live hg.symm⟩
  rw [toB_size,List.length_take,List.length_drop]; omega
 ·injection h with e1 h
  injection h with e2 e3
  rw [e1,e2,e3]
  exact ⟨by decide,by decide,fun h => by cases h⟩
theorem rtF_rng {l : List Int} {a k : Int} {t : ByteArray} {f b : Bool} (hl : bytesOk l) (hs : l.length ≤ 1048576) (ha : a ≤ 1099511627776) (h : (t,k,b) = rtF l a f) : k ≤ 1099511627776 ∧ t.size ≤ 1048576 ∧ (b = false → 0 < l.length) := by
 unfold rtF at h
 rcases hg : gtR l a with ⟨n',k',b'⟩
 have hr := gtR_rng hl hs hg.symm
 rw [hg] at h
 simp only at h
 split at h
 ·rename_i hc
  injection h with e1 h
  injection h with e2 e3
  rw [e1,e2]
  exact ⟨hr.1,hr.2.1,fun _ => hr.2.2 hc.2⟩
 ·injection h with e1 h
  injection h with e2 e3
  rw [e1,e2,e3]
  exact ⟨ha,by decide,fun h => by cases h⟩
theorem flB_cons {L : List Flr} {i : Nat} {x : Flr} (h : L[i]? = some x) : flsB (L.drop i) = putN x.id ++ (putN x.inc ++ flsB (L.drop (i + 1))) := by
 rw [dropCons h,flsB,List.flatMap_cons,flB,List.append_assoc]; rfl
theorem itB_cons {L : List Itm} {i : Nat} {x : Itm} (h : L[i]? = some x) (r : List Int) : itsB (L.drop i) ++ r = putN x.id ++ (putN x.e.inc ++ (putN x.e.rank ++ (putN x.e.beat ++ (putN x.e.ver ++ (putS x.e.data ++ (itsB (L.drop (i + 1)) ++ r)))))) := by
 rw [dropCons h,itsB,List.flatMap_cons,itB]
 simp [numsB,itL,List.append_assoc,itsB]
theorem stB_eq (s : Sta) : stB s = putN (s.items.length : Int) ++ (itsB s.items ++ (putN (s.floors.length : Int) ++ flsB s.floors)) := by
 unfold stB; simp only [List.append_assoc]
theorem stB_pos {s : Sta} (h : stateOk s) : 0 < (stB s).length := by
 have h5 := items_len h
 rw [stB_eq,List.length_append]
 have hp : putN (s.items.length : Int) = vlq (s.items.length : Int).toNat := if_pos ⟨by omega,by omega⟩
 have := vlq_pos (s.items.length : Int).toNat
 rw [hp]; omega
theorem item_rng {s : Sta} (h : stateOk s) {i : Nat} {x : Itm} (hx : s.items[i]? = some x) : (0 ≤ x.id ∧ x.id ≤ 2147483647) ∧ (0 ≤ x.e.inc ∧ x.e.inc ≤ 2147483647) ∧ (0 ≤ x.e.rank ∧ x.e.rank ≤ 2147483647) ∧ (0 ≤ x.e.beat ∧ x.e.beat ≤ 2147483647) ∧ (0 ≤ x.e.ver ∧ x.e.ver ≤ 2147483647) ∧ x.e.data.size ≤ 2147483647 := by
 obtain ⟨h1,⟨h2,h3,h4,h5,h6⟩,_⟩ := h.1 i x hx
 omega
theorem floor_rng {s : Sta} (h : stateOk s) {i : Nat} {x : Flr} (hx : s.floors[i]? = some x) : (0 ≤ x.id ∧ x.id ≤ 2147483647) ∧ (0 ≤ x.inc ∧ x.inc ≤ 2147483647) := by
 obtain ⟨h1,h2,_⟩ := h.2 i x hx
 omega
theorem ac_impl_StateOf (p : Option Addr) (l : List Int) (st : St) (hR : Rows st 1 fB p l) (hl : bytesOk l) (hs : l.length ≤ 1048576) : C 40 [vS p l.length] st (fun v s => ∃ (u : SV) (b : Bool),v = .tuple #[.agg #[vS u.p u.x.items.length,vS u.q u.x.floors.length],vB b] ∧ (u.x,b) = parseS l ∧ OwnP s (pcS u) ∧ NewP st.next (pcS u) ∧ Pres st s) := by
 have hs' : l.length ≤ 1099511627776 := by omega
 refine AC.enterX (i := ⟨[2,5,7,9],[2,5,7,9,22,25,26,29,30,33,34,37,38,41,42,43,48,58,61,62,67],[0,2,3,4,5,6,7,8,9,16,17,18,52,53,54,84],[]⟩) [] Try.func40 rfl rfl (by kernel_rfl) (by kernel_rfl) Try.ntmps40 (Nat.le_of_ble_eq_true rfl) rfl ?_
 refine ⟨_,rfl,?_⟩
 refine AW.cutM (1) st [(0,vS p l.length),(2,vL 2 0 (0)),(3,vB false)] [(2,0,[.slice none 0 0,.slice none 0 0])] ⟨rfl,rfl,rfl,trivial⟩ ⟨rfl,trivial⟩ rfl fun ρ0 ff => ?_
 refine ⟨_,rfl,?_⟩
 refine ⟨_,rfl,?_⟩
 refine AW.cutM (1) (st.push 0 [vS p l.length,vI 0,vB false]) [(0,vS p l.length),(2,vL 2 0 (0)),(3,vB false),(4,vP st.next 0)] [(2,0,[.slice none 0 0,.slice none 0 0])] ⟨rfl,rfl,rfl,rfl,trivial⟩ ⟨rfl,trivial⟩ rfl fun ρ0 ff => ?_
 have hO1 : (rdC st.next p l 0 false).own (st.push 0 [vS p l.length,vI 0,vB false]) := .inr ⟨st.next,rfl,Nat.lt_succ_self _,if_pos rfl⟩
 have hP1 : Pres st (st.push 0 [vS p l.length,vI 0,vB false]) := Pres.push
 have hc1 : st.next < (st.push 0 [vS p l.length,vI 0,vB false]).next := Nat.lt_succ_self _
 obtain ⟨s1,hs1⟩ : ∃ s,s = st.push 0 [vS p l.length,vI 0,vB false] := ⟨_,rfl⟩
 rw [← hs1] at hO1 hP1 hc1 ⊢
 have hd := DisR.new hR
 have hR1 := hP1.rows hR
 iterate 2 refine ⟨_,rfl,?_⟩
 refine ⟨_,op_sto rfl rfl rfl rfl rfl rfl rfl,?_⟩
 refine AW.cutM (2) s1 [(0,vS p l.length),(2,vL 2 0 (0)),(3,vB false),(4,vP st.next 0),(5,vL 5 0 (1))] [(2,0,[.slice none 0 0,.slice none 0 0]),(5,1,[.slice none 0 0,.slice none 0 0])] ⟨rfl,rfl,rfl,rfl,rfl,trivial⟩ ⟨rfl,rfl,trivial⟩ rfl fun ρ0 ff => ?_
 refine ⟨_,rfl,(ac_impl_count st.next p l 0 false 5 s1 hO1 hR1 hl hs' (by decide)).mono ?_⟩
 rintro _ s15 ⟨n,k,b,rfl,h15,hO15,hP15⟩
 refine cxs ?_
 obtain ⟨hn0,hn5,hk⟩ := rcF_rng hl hs' (by decide) (by decide) h15
 have hF15 : FrC st.next s1 s15 (pcS ⟨none,none,nilS⟩) := (Frs.nilS.toC (Nat.lt_of_lt_of_le hc1 hP15.1)).sooner (PresC.of.2 hP15) hc1
 have hS0 : ∀ s0,stateOk s0 → stB s0 = l → n = (s0.items.length : Int) ∧ ([] : List Itm) = s0.items.take 0 ∧ b = false ∧ Sf l k (itsB (s0.items.drop 0) ++ (putN (s0.floors.length : Int) ++ flsB s0.floors)) := fun s0 h1 h2 => by
  have h3 : Sf l 0 (putN (s0.items.length : Int) ++ (itsB s0.items ++ (putN (s0.floors.length : Int) ++ flsB s0.floors))) := by rw [← stB_eq,h2]; exact Sf.start l
  have h5 := items_len h1
  obtain ⟨e1,e2,e3⟩ := h3.count (by omega) (by omega) rfl h15
  exact ⟨e1,rfl,e2,e3⟩
 have hlive : b = false → 0 < l.length := fun hb => by subst hb; exact rcF_live h15
 refine AW.cutM (2) s15 [(0,vS p l.length),(2,vL 2 0 (0)),(3,vB false),(4,vP st.next 0),(5,vL 5 0 (1)),(16,vI n),(17,vI (0))] [(2,0,[.slice none 0 0,.slice none 0 0]),(5,1,[.slice none 0 0,.slice none 0 0])] ⟨rfl,rfl,rfl,rfl,rfl,rfl,rfl,trivial⟩ ⟨rfl,rfl,trivial⟩ rfl fun ρ0 ff => ?_
 refine AW.loopM (fun x : Nat × SV × Int × Bool => [(0,vS p l.length),(2,vL 2 0 (0)),(3,vB false),(4,vP st.next 0),(5,vL 5 0 (1)),(16,vI n),(17,vI (x.1 : Int))]) (fun x : Nat × SV × Int × Bool => [(2,0,[.slice none 0 0,.slice none 0 0]),(5,1,[vS x.2.1.p x.2.1.x.items.length,vS x.2.1.q x.2.1.x.floors.length])]) (fun m (x : Nat × SV × Int × Bool) st' => m = n.toNat - x.1 ∧ (x.1 : Int) ≤ n ∧ (x.2.1.x.items.length = x.1 ∧ x.2.1.x.floors = [] ∧ ∀ y ∈ x.2.1.x.items,y.e.data.size ≤ 1048576) ∧ x.2.2.1 ≤ 1099511627776 ∧ (∀ s0,stateOk s0 → stB s0 = l → n = (s0.items.length : Int) ∧ x.2.1.x.items = s0.items.take x.1 ∧ x.2.2.2 = false ∧ Sf l x.2.2.1 (itsB (s0.items.drop x.1) ++ (putN (s0.floors.length : Int) ++ flsB s0.floors))) ∧ (x.2.2.2 = false → 0 < l.length) ∧ FrC st.next s1 st' (pcS x.2.1) ∧ (rdC st.next p l x.2.2.1 x.2.2.2).own st') (0,⟨none,none,nilS⟩,k,b) _ ⟨rfl,rfl,rfl,rfl,rfl,rfl,rfl,trivial⟩ ⟨rfl,rfl,trivial⟩ ⟨rfl,hn0,⟨rfl,rfl,fun y hy => (nomatch hy)⟩,hk,hS0,hlive,hF15,hO15⟩ ?_
 rintro m ⟨i,u,k',b'⟩ ρ0 ff gg st' ⟨rfl,hi,⟨hil,hfl,hds⟩,hk',hS,hlv,hF,hO'⟩
 simp only at hi hil hfl hds hk' hS hlv hF hO'
 have hRl : Rows st' 1 fB p l := (PresC.of.1 hF.2.2.1).rowsD hd hR1
 refine ⟨_,rfl,?_⟩
 rintro (_|_) h18
 ·replace h18 : ¬ ((i : Int) < n) := of_decide_eq_false h18
  refine AW.cutM (gg) st' [(0,vS p l.length),(2,vL 2 0 (0)),(3,vB false),(4,vP st.next 0),(5,vL 5 0 (1)),(16,vI n),(17,vI (i : Int)),(18,vB false)] [(2,0,[.slice none 0 0,.slice none 0 0]),(5,1,[vS u.p u.x.items.length,vS u.q u.x.floors.length])] ⟨rfl,rfl,rfl,rfl,rfl,rfl,rfl,rfl,trivial⟩ ⟨rfl,rfl,trivial⟩ rfl fun ρ0 ff => ?_
  refine cxs ?_
  refine ⟨_,rfl,(ac_impl_count st.next p l k' b' 5 st' hO' hRl hl hs' hk').mono ?_⟩
  rintro _ s51 ⟨n6,k7,b7,rfl,h51,hO51,hP51⟩
  refine cxs ?_
  obtain ⟨hm0,hm5,hk51⟩ := rcF_rng hl hs' hk' (by decide) h51
  have hF51 := hF.later (PresC.of.2 hP51)
  have hin : (i : Int) = n := by omega
  have hS1 : ∀ s0,stateOk s0 → stB s0 = l → u.x.items = s0.items ∧ n6 = (s0.floors.length : Int) ∧ u.x.floors = s0.floors.take 0 ∧ b7 = false ∧ Sf l k7 (flsB (s0.floors.drop 0)) := fun s0 g1 g2 => by
   obtain ⟨e1,e2,e3,e4⟩ := hS s0 g1 g2
   rw [List.drop_eq_nil_of_le (by omega)] at e4
   have h5 := marks_len g1.2
   obtain ⟨a1,a2,a3⟩ := Sf.count (r := flsB s0.floors) e4 (by omega) (by omega) e3 h51
   exact ⟨by rw [e2]; exact List.take_of_length_le (by omega),a1,hfl,a2,a3⟩
  have hlive1 : b7 = false → 0 < l.length := fun hb => by subst hb; exact rcF_live h51
  refine AW.cutM (gg) s51 [(0,vS p l.length),(2,vL 2 0 (0)),(3,vB false),(4,vP st.next 0),(5,vL 5 0 (1)),(52,vI n6),(53,vI (0))] [(2,0,[.slice none 0 0,.slice none 0 0]),(5,1,[vS u.p u.x.items.length,vS u.q u.x.floors.length])] ⟨rfl,rfl,rfl,rfl,rfl,rfl,rfl,trivial⟩ ⟨rfl,rfl,trivial⟩ rfl fun ρ0 ff => ?_
  refine AW.loopM (fun x : Nat × SV × Int × Bool => [(0,vS p l.length),(2,vL 2 0 (0)),(3,vB false),(4,vP st.next 0),(5,vL 5 0 (1)),(52,vI n6),(53,vI (x.1 : Int))]) (fun x : Nat × SV × Int × Bool => [(2,0,[.slice none 0 0,.slice none 0 0]),(5,1,[vS x.2.1.p x.2.1.x.items.length,vS x.2.1.q x.2.1.x.floors.length])]) (fun m (x : Nat × SV × Int × Bool) st' => m = n6.toNat - x.1 ∧ (x.1 : Int) ≤ n6 ∧ (x.2.1.x.items = u.x.items ∧ x.2.1.x.floors.length = x.1) ∧ x.2.2.1 ≤ 1099511627776 ∧ (∀ s0,stateOk s0 → stB s0 = l → u.x.items = s0.items ∧ n6 = (s0.floors.length : Int) ∧ x.2.1.x.floors = s0.floors.take x.1 ∧ x.2.2.2 = false ∧ Sf l x.2.2.1 (flsB (s0.floors.drop x.1))) ∧ (x.2.2.2 = false → 0 < l.length) ∧ FrC st.next s1 st' (pcS x.2.1) ∧ (rdC st.next p l x.2.2.1 x.2.2.2).own st') (0,u,k7,b7) _ ⟨rfl,rfl,rfl,rfl,rfl,rfl,rfl,trivial⟩ ⟨rfl,rfl,trivial⟩ ⟨rfl,hm0,⟨rfl,by rw [hfl]; rfl⟩,hk51,hS1,hlive1,hF51,hO51⟩ ?_
  rintro m ⟨j,w,kk,bb⟩ ρ0 ff gg st' ⟨rfl,hj,⟨hwi,hwf⟩,hkk,hT,hlw,hG,hOw⟩
  simp only at hj hwi hwf hkk hT hlw hG hOw
  have hRw : Rows st' 1 fB p l := (PresC.of.1 hG.2.2.1).rowsD hd hR1
  refine ⟨_,rfl,?_⟩
  rintro (_|_) h54
  ·replace h54 : ¬ ((j : Int) < n6) := of_decide_eq_false h54
   refine AW.cutM (gg) st' [(0,vS p l.length),(2,vL 2 0 (0)),(3,vB false),(4,vP st.next 0),(5,vL 5 0 (1)),(52,vI n6),(53,vI (j : Int)),(54,vB false)] [(2,0,[.slice none 0 0,.slice none 0 0]),(5,1,[vS w.p w.x.items.length,vS w.q w.x.floors.length])] ⟨rfl,rfl,rfl,rfl,rfl,rfl,rfl,rfl,trivial⟩ ⟨rfl,rfl,trivial⟩ rfl fun ρ0 ff => ?_
   refine cxs ?_
   iterate 2 refine ⟨_,rfl,?_⟩
   have hmem := (rdC_mem hOw).2
   have hbw : bigS w.x := ⟨by unfold szOk; rw [hwi]; omega,by unfold szOk; omega,fun y hy => hds y (by rw [← hwi]; exact hy)⟩
   have hRw' : RdS st' w := hG.1.rdS
   have hT' : ∀ s0,stateOk s0 → stB s0 = l → w.x = s0 ∧ bb = false := fun s0 g1 g2 => by
    obtain ⟨e0,e1,e2,e3,e4⟩ := hT s0 g1 g2
    have hf : w.x.floors = s0.floors := by rw [e2]; exact List.take_of_length_le (by omega)
    have hi' : w.x.items = s0.items := hwi.trans e0
    exact ⟨sta_of hi' hf,e3⟩
   refine ⟨_,op_ld rfl rfl rfl rfl hmem rfl,?_⟩
   rcases bb with _|_
   ·refine ⟨_,op_ldo rfl rfl rfl rfl,?_⟩
    refine ⟨_,rfl,(ac_impl_StateOk w st' hRw' hbw).mono ?_⟩
    rintro _ st' ⟨x75,rfl,h75,rfl⟩
    rcases x75 with _|_
    ·replace h75 := fun k => Bool.false_ne_true (h75.2 k)
     iterate 3 refine ⟨_,rfl,?_⟩
     refine AW.cutM (gg) st' [(2,vL 2 0 (0)),(3,vB false),(5,vL 5 0 (1)),(84,vB true)] [(2,0,[.slice none 0 0,.slice none 0 0]),(5,1,[vS w.p w.x.items.length,vS w.q w.x.floors.length])] ⟨rfl,rfl,rfl,rfl,trivial⟩ ⟨rfl,rfl,trivial⟩ rfl fun ρ0 ff => ?_
     refine ⟨_,rfl,?_⟩
     refine ⟨_,op_sto rfl rfl rfl rfl rfl rfl rfl,?_⟩
     refine cxs ?_
     exact ⟨.inl rfl,_,rfl,⟨none,none,nilS⟩,false,rfl,parse_no (fun s0 g1 g2 => h75 ((hT' s0 g1 g2).1 ▸ g1)),pcS_nil,newS_nil,(hG.out hP1).2.2⟩
    ·replace h75 := h75.1 rfl
     iterate 2 refine ⟨_,rfl,?_⟩
     refine ⟨_,op_ldo rfl rfl rfl rfl,?_⟩
     refine ⟨_,rfl,(ac_impl_StateBytes w st' hRw' hbw h75).mono ?_⟩
     rintro _ s80 ⟨q80,rfl,hO80,hN80,hP80⟩
     refine ⟨_,rfl,(ac_bytes_Equal q80 p (stB w.x) l s80 (hO80.rows fB_len) (hP80.rows hRw) (stB_pos h75) (hlw rfl) (stB_ok w.x) hl).mono ?_⟩
     rintro _ s80 ⟨x82,rfl,h82,rfl⟩
     rcases x82 with _|_
     ·replace h82 := fun k => Bool.false_ne_true (h82.2 k)
      iterate 2 refine ⟨_,rfl,?_⟩
      refine AW.cutM (gg) s80 [(2,vL 2 0 (0)),(3,vB false),(5,vL 5 0 (1)),(84,vB true)] [(2,0,[.slice none 0 0,.slice none 0 0]),(5,1,[vS w.p w.x.items.length,vS w.q w.x.floors.length])] ⟨rfl,rfl,rfl,rfl,trivial⟩ ⟨rfl,rfl,trivial⟩ rfl fun ρ0 ff => ?_
      refine ⟨_,rfl,?_⟩
      refine ⟨_,op_sto rfl rfl rfl rfl rfl rfl rfl,?_⟩
      refine cxs ?_
      exact ⟨.inl rfl,_,rfl,⟨none,none,nilS⟩,false,rfl,parse_no (fun s0 g1 g2 => h82 ((hT' s0 g1 g2).1 ▸ g2)),pcS_nil,newS_nil,((hG.step hP80).out hP1).2.2⟩
     ·replace h82 := h82.1 rfl
      iterate 2 refine ⟨_,rfl,?_⟩
      refine AW.cutM (gg) s80 [(2,vL 2 0 (0)),(3,vB false),(5,vL 5 0 (1)),(84,vB false)] [(2,0,[.slice none 0 0,.slice none 0 0]),(5,1,[vS w.p w.x.items.length,vS w.q w.x.floors.length])] ⟨rfl,rfl,rfl,rfl,trivial⟩ ⟨rfl,rfl,trivial⟩ rfl fun ρ0 ff => ?_
      refine cxs ?_
      refine ⟨_,op_ldo rfl rfl rfl rfl,?_⟩
      refine ⟨_,op_sto rfl rfl rfl rfl rfl rfl rfl,?_⟩
      refine cxs ?_
      have hFin := (hG.step hP80).out hP1
      exact ⟨.inl rfl,_,rfl,w,true,rfl,parse_ok h75 h82 (fun s0 g1 g2 => (hT' s0 g1 g2).1),hFin.1,hFin.2.1,hFin.2.2⟩
   ·iterate 2 refine ⟨_,rfl,?_⟩
    refine AW.cutM (gg) st' [(2,vL 2 0 (0)),(3,vB false),(5,vL 5 0 (1)),(84,vB true)] [(2,0,[.slice none 0 0,.slice none 0 0]),(5,1,[vS w.p w.x.items.length,vS w.q w.x.floors.length])] ⟨rfl,rfl,rfl,rfl,trivial⟩ ⟨rfl,rfl,trivial⟩ rfl fun ρ0 ff => ?_
    refine ⟨_,rfl,?_⟩
    refine ⟨_,op_sto rfl rfl rfl rfl rfl rfl rfl,?_⟩
    refine cxs ?_
    exact ⟨.inl rfl,_,rfl,⟨none,none,nilS⟩,false,rfl,parse_no (fun s0 g1 g2 => by cases (hT' s0 g1 g2).2),pcS_nil,newS_nil,(hG.out hP1).2.2⟩
  ·replace h54 : (j : Int) < n6 := of_decide_eq_true h54
   refine AW.cutM (gg) st' [(0,vS p l.length),(2,vL 2 0 (0)),(3,vB false),(4,vP st.next 0),(5,vL 5 0 (1)),(52,vI n6),(53,vI (j : Int)),(54,vB true)] [(2,0,[.slice none 0 0,.slice none 0 0]),(5,1,[vS w.p w.x.items.length,vS w.q w.x.floors.length])] ⟨rfl,rfl,rfl,rfl,rfl,rfl,rfl,rfl,trivial⟩ ⟨rfl,rfl,trivial⟩ rfl fun ρ0 ff => ?_
   refine cxs ?_
   iterate 2 refine ⟨_,rfl,?_⟩
   refine ⟨_,op_sto rfl rfl rfl rfl rfl rfl rfl,?_⟩
   refine AW.cutM (gg + 1) st' [(0,vS p l.length),(2,vL 2 0 (0)),(3,vB false),(4,vP st.next 0),(5,vL 5 0 (1)),(9,vL 9 0 (gg)),(52,vI n6),(53,vI (j : Int)),(54,vB true)] [(2,0,[.slice none 0 0,.slice none 0 0]),(5,1,[vS w.p w.x.items.length,vS w.q w.x.floors.length]),(9,gg,[vI 0,vI 0])] ⟨rfl,rfl,rfl,rfl,rfl,rfl,rfl,rfl,rfl,trivial⟩ ⟨rfl,rfl,rfl,trivial⟩ rfl fun ρ0 ff => ?_
   refine ⟨_,rfl,(ac_impl_num st.next p l kk bb st' hOw hRw hl hs' hkk).mono ?_⟩
   rintro _ s57 ⟨n7,k8,b8,rfl,h57,hO57,hP57⟩
   refine ⟨_,rfl,?_⟩
   refine ⟨_,op_sto rfl rfl rfl rfl rfl rfl rfl,?_⟩
   refine AW.cutM (gg + 1) s57 [(0,vS p l.length),(2,vL 2 0 (0)),(3,vB false),(4,vP st.next 0),(5,vL 5 0 (1)),(9,vL 9 0 (gg)),(52,vI n6),(53,vI (j : Int)),(54,vB true)] [(2,0,[.slice none 0 0,.slice none 0 0]),(5,1,[vS w.p w.x.items.length,vS w.q w.x.floors.length]),(9,gg,[vI n7,vI 0])] ⟨rfl,rfl,rfl,rfl,rfl,rfl,rfl,rfl,rfl,trivial⟩ ⟨rfl,rfl,rfl,trivial⟩ rfl fun ρ0 ff => ?_
   have hR57 := hP57.rowsD hd hRw
   have hk57 := (rnF_get hl hs' hkk h57).1
   refine ⟨_,rfl,(ac_impl_num st.next p l k8 b8 s57 hO57 hR57 hl hs' hk57).mono ?_⟩
   rintro _ s60 ⟨n8,k9,b9,rfl,h60,hO60,hP60⟩
   refine ⟨_,rfl,?_⟩
   refine ⟨_,op_sto rfl rfl rfl rfl rfl rfl rfl,?_⟩
   refine AW.cutM (gg + 1) s60 [(0,vS p l.length),(2,vL 2 0 (0)),(3,vB false),(4,vP st.next 0),(5,vL 5 0 (1)),(9,vL 9 0 (gg)),(52,vI n6),(53,vI (j : Int)),(54,vB true)] [(2,0,[.slice none 0 0,.slice none 0 0]),(5,1,[vS w.p w.x.items.length,vS w.q w.x.floors.length]),(9,gg,[vI n7,vI n8])] ⟨rfl,rfl,rfl,rfl,rfl,rfl,rfl,rfl,rfl,trivial⟩ ⟨rfl,rfl,rfl,trivial⟩ rfl fun ρ0 ff => ?_
   have hG60 := hG.later (PresC.of.2 (hP57.trans hP60))
   have hOf : OwnR s60 2 cFlr w.q w.x.floors := hG60.1.floors
   refine ⟨_,rfl,?_⟩
   refine ⟨_,op_ldo rfl rfl rfl rfl,?_⟩
   refine ⟨_,op_ldo rfl rfl rfl rfl,?_⟩
   refine op_one (z := 2) (a := ((⟨n7,n8⟩ : Flr) : Flr)) (f := cFlr) rfl rfl rfl rfl rfl (by decide) rfl (Nat.le_of_ble_eq_true rfl) rfl rfl rfl ?_
   refine op_snoc (z := 2) (st := s60) (f := cFlr) (b := 16) (l := w.x.floors) (x := (⟨n7,n8⟩ : Flr)) rfl rfl rfl rfl rfl rfl rfl (by decide) len_cFlr rfl rfl rfl (by omega) (by unfold maxLen; omega) hOf ?_
   intro q66 s66 hO66 hP66 hN66
   refine ⟨_,rfl,?_⟩
   refine ⟨_,op_sto rfl rfl rfl rfl rfl rfl rfl,?_⟩
   refine AW.cutM (gg + 1) s66 [(0,vS p l.length),(2,vL 2 0 (0)),(3,vB false),(4,vP st.next 0),(5,vL 5 0 (1)),(9,vL 9 0 (gg)),(52,vI n6),(53,vI (j : Int)),(54,vB true)] [(2,0,[.slice none 0 0,.slice none 0 0]),(5,1,[vS w.p w.x.items.length,vS q66 (w.x.floors ++ [(⟨n7,n8⟩ : Flr)]).length]),(9,gg,[vI n7,vI n8])] ⟨rfl,rfl,rfl,rfl,rfl,rfl,rfl,rfl,rfl,trivial⟩ ⟨rfl,rfl,rfl,trivial⟩ rfl fun ρ0 ff => ?_
   have ew68 : IntKind.wrap .i64 ((j : Int) + (1)) = ((j + 1 : Nat) : Int) := (wrap_i64 (by omega) (by omega)).trans (by omega)
   refine ⟨_,rfl,?_⟩
   have hG66 := hG60.floors hP66 hO66 hN66
   have hNf : New s1.next w.q := hG60.2.1 _ (List.mem_cons_of_mem _ (List.mem_cons_self ..))
   refine ⟨(j + 1,⟨w.p,q66,⟨w.x.items,w.x.floors ++ [⟨n7,n8⟩]⟩⟩,k9,b9),n6.toNat - (j + 1),by omega,⟨rfl,rfl,rfl,rfl,rfl,rfl,congrArg (Value.int .i64) ew68,trivial⟩,⟨rfl,rfl,trivial⟩,rfl,by simp only; omega,⟨hwi,by simp only [List.length_append,List.length_singleton,hwf]⟩,(rnF_get hl hs' hk57 h60).1,fun s0 g1 g2 => ?_,fun hb => by subst hb; exact rnF_live h60,hG66.1,hO60.pr hP66 (Dis.of (Old.some hc1) hNf).symm⟩
   obtain ⟨e0,e1,e2,e3,e4⟩ := hT s0 g1 g2
   have hx : s0.floors[j]? = some s0.floors[j] := List.getElem?_eq_getElem (by omega)
   obtain ⟨r1,r2⟩ := floor_rng g1 hx
   rw [flB_cons hx] at e4
   obtain ⟨a1,a2,a3⟩ := e4.num r1 e3 h57
   obtain ⟨c1,c2,c3⟩ := a3.num r2 a2 h60
   refine ⟨e0,e1,?_,c2,c3⟩
   show w.x.floors ++ [_] = _
   rw [List.take_add_one,hx,← e2,a1,c1]; rfl
 ·replace h18 : (i : Int) < n := of_decide_eq_true h18
  refine AW.cutM (gg) st' [(0,vS p l.length),(2,vL 2 0 (0)),(3,vB false),(4,vP st.next 0),(5,vL 5 0 (1)),(16,vI n),(17,vI (i : Int)),(18,vB true)] [(2,0,[.slice none 0 0,.slice none 0 0]),(5,1,[vS u.p u.x.items.length,vS u.q u.x.floors.length])] ⟨rfl,rfl,rfl,rfl,rfl,rfl,rfl,rfl,trivial⟩ ⟨rfl,rfl,trivial⟩ rfl fun ρ0 ff => ?_
  refine cxs ?_
  iterate 2 refine ⟨_,rfl,?_⟩
  refine ⟨_,op_sto rfl rfl rfl rfl rfl rfl rfl,?_⟩
  refine AW.cutM (gg + 1) st' [(0,vS p l.length),(2,vL 2 0 (0)),(3,vB false),(4,vP st.next 0),(5,vL 5 0 (1)),(7,vL 7 0 (gg)),(16,vI n),(17,vI (i : Int)),(18,vB true)] [(2,0,[.slice none 0 0,.slice none 0 0]),(5,1,[vS u.p u.x.items.length,vS u.q u.x.floors.length]),(7,gg,[vI 0,vI 0,vI 0,vI 0,vI 0,.string ⟨#[]⟩])] ⟨rfl,rfl,rfl,rfl,rfl,rfl,rfl,rfl,rfl,trivial⟩ ⟨rfl,rfl,rfl,trivial⟩ rfl fun ρ0 ff => ?_
  refine ⟨_,rfl,(ac_impl_num st.next p l k' b' st' hO' hRl hl hs' hk').mono ?_⟩
  rintro _ s21 ⟨n1,k1,b1,rfl,h21,hO21,hP21⟩
  refine ⟨_,rfl,?_⟩
  refine ⟨_,op_sto rfl rfl rfl rfl rfl rfl rfl,?_⟩
  refine AW.cutM (gg + 1) s21 [(0,vS p l.length),(2,vL 2 0 (0)),(3,vB false),(4,vP st.next 0),(5,vL 5 0 (1)),(7,vL 7 0 (gg)),(16,vI n),(17,vI (i : Int)),(18,vB true)] [(2,0,[.slice none 0 0,.slice none 0 0]),(5,1,[vS u.p u.x.items.length,vS u.q u.x.floors.length]),(7,gg,[vI n1,vI 0,vI 0,vI 0,vI 0,.string ⟨#[]⟩])] ⟨rfl,rfl,rfl,rfl,rfl,rfl,rfl,rfl,rfl,trivial⟩ ⟨rfl,rfl,rfl,trivial⟩ rfl fun ρ0 ff => ?_
  have hR21 := hP21.rowsD hd hRl
  have hk21 := (rnF_get hl hs' hk' h21).1
  refine ⟨_,rfl,(ac_impl_num st.next p l k1 b1 s21 hO21 hR21 hl hs' hk21).mono ?_⟩
  rintro _ s24 ⟨n2,k2,b2,rfl,h24,hO24,hP24⟩
  iterate 2 refine ⟨_,rfl,?_⟩
  refine ⟨_,op_sto rfl rfl rfl rfl rfl rfl rfl,?_⟩
  refine AW.cutM (gg + 1) s24 [(0,vS p l.length),(2,vL 2 0 (0)),(3,vB false),(4,vP st.next 0),(5,vL 5 0 (1)),(7,vL 7 0 (gg)),(16,vI n),(17,vI (i : Int)),(18,vB true)] [(2,0,[.slice none 0 0,.slice none 0 0]),(5,1,[vS u.p u.x.items.length,vS u.q u.x.floors.length]),(7,gg,[vI n1,vI n2,vI 0,vI 0,vI 0,.string ⟨#[]⟩])] ⟨rfl,rfl,rfl,rfl,rfl,rfl,rfl,rfl,rfl,trivial⟩ ⟨rfl,rfl,rfl,trivial⟩ rfl fun ρ0 ff => ?_
  have hR24 := hP24.rowsD hd hR21
  have hk24 := (rnF_get hl hs' hk21 h24).1
  refine ⟨_,rfl,(ac_impl_num st.next p l k2 b2 s24 hO24 hR24 hl hs' hk24).mono ?_⟩
  rintro _ s28 ⟨n3,k3,b3,rfl,h28,hO28,hP28⟩
  iterate 2 refine ⟨_,rfl,?_⟩
  refine ⟨_,op_sto rfl rfl rfl rfl rfl rfl rfl,?_⟩
  refine AW.cutM (gg + 1) s28 [(0,vS p l.length),(2,vL 2 0 (0)),(3,vB false),(4,vP st.next 0),(5,vL 5 0 (1)),(7,vL 7 0 (gg)),(16,vI n),(17,vI (i : Int)),(18,vB true)] [(2,0,[.slice none 0 0,.slice none 0 0]),(5,1,[vS u.p u.x.items.length,vS u.q u.x.floors.length]),(7,gg,[vI n1,vI n2,vI n3,vI 0,vI 0,.string ⟨#[]⟩])] ⟨rfl,rfl,rfl,rfl,rfl,rfl,rfl,rfl,rfl,trivial⟩ ⟨rfl,rfl,rfl,trivial⟩ rfl fun ρ0 ff => ?_
  have hR28 := hP28.rowsD hd hR24
  have hk28 := (rnF_get hl hs' hk24 h28).1
  refine ⟨_,rfl,(ac_impl_num st.next p l k3 b3 s28 hO28 hR28 hl hs' hk28).mono ?_⟩
  rintro _ s32 ⟨n4,k4,b4,rfl,h32,hO32,hP32⟩
  iterate 2 refine ⟨_,rfl,?_⟩
  refine ⟨_,op_sto rfl rfl rfl rfl rfl rfl rfl,?_⟩
  refine AW.cutM (gg + 1) s32 [(0,vS p l.length),(2,vL 2 0 (0)),(3,vB false),(4,vP st.next 0),(5,vL 5 0 (1)),(7,vL 7 0 (gg)),(16,vI n),(17,vI (i : Int)),(18,vB true)] [(2,0,[.slice none 0 0,.slice none 0 0]),(5,1,[vS u.p u.x.items.length,vS u.q u.x.floors.length]),(7,gg,[vI n1,vI n2,vI n3,vI n4,vI 0,.string ⟨#[]⟩])] ⟨rfl,rfl,rfl,rfl,rfl,rfl,rfl,rfl,rfl,trivial⟩ ⟨rfl,rfl,rfl,trivial⟩ rfl fun ρ0 ff => ?_
  have hR32 := hP32.rowsD hd hR28
  have hk32 := (rnF_get hl hs' hk28 h32).1
  refine ⟨_,rfl,(ac_impl_num st.next p l k4 b4 s32 hO32 hR32 hl hs' hk32).mono ?_⟩
  rintro _ s36 ⟨n5,k5,b5,rfl,h36,hO36,hP36⟩
  iterate 2 refine ⟨_,rfl,?_⟩
  refine ⟨_,op_sto rfl rfl rfl rfl rfl rfl rfl,?_⟩
  refine AW.cutM (gg + 1) s36 [(0,vS p l.length),(2,vL 2 0 (0)),(3,vB false),(4,vP st.next 0),(5,vL 5 0 (1)),(7,vL 7 0 (gg)),(16,vI n),(17,vI (i : Int)),(18,vB true)] [(2,0,[.slice none 0 0,.slice none 0 0]),(5,1,[vS u.p u.x.items.length,vS u.q u.x.floors.length]),(7,gg,[vI n1,vI n2,vI n3,vI n4,vI n5,.string ⟨#[]⟩])] ⟨rfl,rfl,rfl,rfl,rfl,rfl,rfl,rfl,rfl,trivial⟩ ⟨rfl,rfl,rfl,trivial⟩ rfl fun ρ0 ff => ?_
  have hR36 := hP36.rowsD hd hR32
  have hk36 := (rnF_get hl hs' hk32 h36).1
  refine ⟨_,rfl,(ac_impl_text st.next p l k5 b5 s36 hO36 hR36 hl hs' hk36).mono ?_⟩
  rintro _ s40 ⟨t,k6,b6,rfl,h40,hO40,hP40⟩
  iterate 2 refine ⟨_,rfl,?_⟩
  refine ⟨_,op_sto rfl rfl rfl rfl rfl rfl rfl,?_⟩
  refine AW.cutM (gg + 1) s40 [(0,vS p l.length),(2,vL 2 0 (0)),(3,vB false),(4,vP st.next 0),(5,vL 5 0 (1)),(7,vL 7 0 (gg)),(16,vI n),(17,vI (i : Int)),(18,vB true)] [(2,0,[.slice none 0 0,.slice none 0 0]),(5,1,[vS u.p u.x.items.length,vS u.q u.x.floors.length]),(7,gg,[vI n1,vI n2,vI n3,vI n4,vI n5,.string t])] ⟨rfl,rfl,rfl,rfl,rfl,rfl,rfl,rfl,rfl,trivial⟩ ⟨rfl,rfl,rfl,trivial⟩ rfl fun ρ0 ff => ?_
  have hF40 := hF.later (PresC.of.2 (((((hP21.trans hP24).trans hP28).trans hP32).trans hP36).trans hP40))
  have hOi : OwnR s40 6 cItm u.p u.x.items := hF40.1.items
  obtain ⟨hk40,ht40,hl40⟩ := rtF_rng hl hs hk36 h40
  refine ⟨_,rfl,?_⟩
  refine ⟨_,op_ldo rfl rfl rfl rfl,?_⟩
  refine ⟨_,op_ldo rfl rfl rfl rfl,?_⟩
  refine op_one (z := 6) (a := ((⟨n1,⟨n2,n3,n4,n5,t⟩⟩ : Itm) : Itm)) (f := cItm) rfl rfl rfl rfl rfl (by decide) rfl (Nat.le_of_ble_eq_true rfl) rfl rfl rfl ?_
  refine op_snoc (z := 6) (st := s40) (f := cItm) (b := 56) (l := u.x.items) (x := (⟨n1,⟨n2,n3,n4,n5,t⟩⟩ : Itm)) rfl rfl rfl rfl rfl rfl rfl (by decide) len_cItm rfl rfl rfl (by omega) (by unfold maxLen; omega) hOi ?_
  intro q47 s47 hO47 hP47 hN47
  refine ⟨_,rfl,?_⟩
  refine ⟨_,op_sto rfl rfl rfl rfl rfl rfl rfl,?_⟩
  refine AW.cutM (gg + 1) s47 [(0,vS p l.length),(2,vL 2 0 (0)),(3,vB false),(4,vP st.next 0),(5,vL 5 0 (1)),(7,vL 7 0 (gg)),(16,vI n),(17,vI (i : Int)),(18,vB true)] [(2,0,[.slice none 0 0,.slice none 0 0]),(5,1,[vS q47 (u.x.items ++ [(⟨n1,⟨n2,n3,n4,n5,t⟩⟩ : Itm)]).length,vS u.q u.x.floors.length]),(7,gg,[vI n1,vI n2,vI n3,vI n4,vI n5,.string t])] ⟨rfl,rfl,rfl,rfl,rfl,rfl,rfl,rfl,rfl,trivial⟩ ⟨rfl,rfl,rfl,trivial⟩ rfl fun ρ0 ff => ?_
  have ew49 : IntKind.wrap .i64 ((i : Int) + (1)) = ((i + 1 : Nat) : Int) := (wrap_i64 (by omega) (by omega)).trans (by omega)
  refine ⟨_,rfl,?_⟩
  have hF47 := hF40.items hP47 hO47 hN47
  have hNi : New s1.next u.p := hF40.2.1 _ (List.mem_cons_self ..)
  refine ⟨(i + 1,⟨q47,u.q,⟨u.x.items ++ [⟨n1,⟨n2,n3,n4,n5,t⟩⟩],u.x.floors⟩⟩,k6,b6),n.toNat - (i + 1),by omega,⟨rfl,rfl,rfl,rfl,rfl,rfl,congrArg (Value.int .i64) ew49,trivial⟩,⟨rfl,rfl,trivial⟩,rfl,by simp only; omega,⟨by simp only [List.length_append,List.length_singleton,hil],hfl,fun y hy => ?_⟩,hk40,fun s0 g1 g2 => ?_,hl40,hF47.1,hO40.pr hP47 (Dis.of (Old.some hc1) hNi).symm⟩
  ·rcases List.mem_append.1 hy with hy | hy
   ·exact hds y hy
   ·rw [List.mem_singleton.1 hy]; exact ht40
  ·obtain ⟨e1,e2,e3,e4⟩ := hS s0 g1 g2
   have hx : s0.items[i]? = some s0.items[i] := List.getElem?_eq_getElem (by omega)
   obtain ⟨r1,r2,r3,r4,r5,r6⟩ := item_rng g1 hx
   rw [itB_cons hx] at e4
   obtain ⟨a1,a2,a3⟩ := e4.num r1 e3 h21
   obtain ⟨b1',b2',b3'⟩ := a3.num r2 a2 h24
   obtain ⟨c1,c2,c3⟩ := b3'.num r3 b2' h28
   obtain ⟨d1,d2,d3⟩ := c3.num r4 c2 h32
   obtain ⟨f1,f2,f3⟩ := d3.num r5 d2 h36
   obtain ⟨m1,m2,m3⟩ := f3.text r6 f2 h40
   refine ⟨e1,?_,m2,m3⟩
   show u.x.items ++ [_] = _
   rw [List.take_add_one,hx,← e2,a1,b1',c1,d1,f1,m1]; rfl
end Go.Proofs.Yteabadoaeadcgaa.AM
