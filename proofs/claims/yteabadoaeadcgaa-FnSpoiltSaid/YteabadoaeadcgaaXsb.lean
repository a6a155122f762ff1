/- Part 2 of the texts on which the law's proof rests. -/
import Derived.Test.YteabadoaeadcgaaXsa
import Derived.Lib.Bytealg
namespace Go.Proofs.Yteabadoaeadcgaa.AM
open Go Go.Proofs
set_option linter.unusedVariables false
set_option linter.unusedSimpArgs false
set_option maxRecDepth 100000
set_option maxHeartbeats 4000000
def bsl (s : ByteArray) : List Int := s.data.toList.map fun b => (b.toNat : Int)
theorem bsl_len (s : ByteArray) : (bsl s).length = s.size := by rw [bsl,List.length_map,Array.length_toList]; rfl
theorem bsl_ok (s : ByteArray) : bytesOk (bsl s) := fun x hx => by
 obtain ⟨b,_,rfl⟩ := List.mem_map.1 hx
 have := b.toNat_lt
 omega
theorem fb_map : ∀ l : List UInt8,(l.map fun b => (b.toNat : Int)).flatMap fB = l.map fun b => Value.int .u8 b.toNat
 | [] => rfl
 | b :: l => by rw [List.map_cons,List.flatMap_cons,fb_map l]; rfl
section
variable {P : Program} {ls : List Tmp} {call : ACallT} {o : Oper} {e : Operand → Value} {lo : Lo} {st : St} {K : Value × Lo × St → Prop}
theorem op_bytes {src dst el : TypeId} {x : Operand} {s : ByteArray} (ho : o.op = .convert src dst x) (hx : e x = .string s) (hd : telem P dst = some el) (h1 : tint P el = some .u8) (h2 : tstr P src = true) (hs : s.size ≤ maxLen)
  (hK : ∀ q st',OwnR st' 1 fB q (bsl s) → Pres st st' → New st.next q → K (.slice q (bsl s).length (bsl s).length,lo,st')) : ∃ r,aoper P ls call o e lo st = some r ∧ K r := by
 obtain ⟨d,op,ty,pos,after,gd⟩ := o
 simp only at ho
 subst ho
 refine ⟨_,?_,hK (some ⟨st.next,0,none⟩) (st.push 1 ((bsl s).flatMap fB)) OwnR.push Pres.push New.self⟩
 simp only [aoper,hd,abytesOf,hx]
 rw [if_pos ⟨h1,h2,hs⟩,bsl_len,show (bsl s).flatMap fB = s.data.toList.map (fun b => Value.int .u8 b.toNat) from fb_map _]
theorem op_litR {t el : TypeId} {n : Nat} {ps : Array (Nat × Operand)} {u : Value} (l : List RV) (ho : o.op = .buildSlice t n ps) (hp : parts e ps = mkp 0 (l.map fun r => vS r.p r.l.length)) (hn : n = l.length) (h0 : 0 < n) (he : telem P t = some el) (hz : tsize P el = some 1) (hz0 : tzero P el = some [u]) (hsz : n ≤ 16777216)
  (hK : ∀ q st',OwnR st' 1 cRV q l → Pres st st' → New st.next q → K (.slice q n n,lo,st')) : ∃ r,aoper P ls call o e lo st = some r ∧ K r := by
 refine op_lit ho hp (by rw [hn,List.length_map]) h0 he hz hz0 Nat.one_pos rfl (by omega) (fun v hv => ?_) ?_
 ·obtain ⟨r,_,rfl⟩ := List.mem_map.1 hv
  exact ⟨rfl,rfl⟩
 ·rw [show (l.map fun r => vS r.p r.l.length).flatMap (fun v => v.cells.toList) = l.flatMap cRV by rw [List.flatMap_map]; rfl]
  exact hK _ _ OwnR.push Pres.push New.self
end
def putS (s : ByteArray) : List Int := putN s.size ++ bsl s
theorem putS_len (s : ByteArray) : (putS s).length ≤ 5 + s.size := by
 have := putN_len s.size
 rw [putS,List.length_append,bsl_len]
 omega
theorem putS_ok (s : ByteArray) : bytesOk (putS s) := (putN_ok _).app (bsl_ok s)
theorem cat_new {st0 st : St} {p q : Option Addr} {A B : Prop} {m : Nat} (hP : Pres st0 st) (hN : New st0.next p) (h : (q = p ∧ A ∧ B) ∨ (0 < m ∧ New st.next q)) : New st0.next q := by
 rcases h with ⟨h,_⟩ | ⟨_,h⟩
 ·rw [h]; exact hN
 ·exact h.le hP.1
theorem ac_spec_PutText (s : ByteArray) (st : St) (hs : s.size ≤ 1048576) : C 161 [.string s] st (fun v s' => ∃ q,v = vS q (putS s).length ∧ OwnR s' 1 fB q (putS s) ∧ New st.next q ∧ Pres st s') := by
 have hsl := bsl_len s
 have hpl := putN_len s.size
 refine AC.enterX (i := ⟨[],[],[0,2],[]⟩) [] Try.func161 rfl rfl (by kernel_rfl) (by kernel_rfl) Try.ntmps161 (Lb rfl) rfl ?_
 refine Cu lo0 st [(0,.string s),(2,Sn)] fun _ => ?_
 refine ⟨_,rfl,?_⟩
 refine ⟨_,rfl,(ac_spec_PutNum (s.size : Int) st).mono ?_⟩
 rintro _ s5 ⟨q5,rfl,hO5,hN5,hP5⟩
 refine op_bytes (s := s) rfl rfl rfl rfl rfl (by unfold maxLen; omega) ?_
 intro q7 s7 hO7 hP7 hN7
 refine op_cat' (z := 1) (st := s7) (f := fB) (b := 1) (l := putN (s.size : Int)) (l2 := bsl s) rfl rfl rfl rfl rfl rfl rfl (by decide) fB_len rfl rfl rfl rfl (by first | omega | (simp only [List.length_nil]; omega)) (by unfold maxLen; first | omega | (simp only [List.length_nil]; omega)) (hP7.ownR hO5) (hO7.rows fB_len) ?_
 intro q8 s8 hO8 hPr8 hN8
 exact cxs (Rt ⟨q8,rfl,hO8,cat_new (hP5.trans hP7) hN5 hN8,hPr8.pres (hP5.trans hP7) hN5⟩)
theorem ac_impl_PutText (s : ByteArray) (st : St) (hs : s.size ≤ 1048576) : C 110 [.string s] st (fun v s' => ∃ q,v = vS q (putS s).length ∧ OwnR s' 1 fB q (putS s) ∧ New st.next q ∧ Pres st s') := by
 have hsl := bsl_len s
 have hpl := putN_len s.size
 have hf : fl [⟨none,putN s.size⟩,⟨none,bsl s⟩] = putS s := by simp [fl,putS]
 refine AC.enterX (i := ⟨[],[],[0,2],[]⟩) [] Try.func110 rfl rfl (by kernel_rfl) (by kernel_rfl) Try.ntmps110 (Lb rfl) rfl ?_
 refine Cu lo0 st [(0,.string s),(2,Sn)] fun _ => ?_
 refine ⟨_,rfl,?_⟩
 refine ⟨_,rfl,(ac_impl_PutNum (s.size : Int) st).mono ?_⟩
 rintro _ s5 ⟨q5,rfl,hO5,hN5,hP5⟩
 refine op_bytes (s := s) rfl rfl rfl rfl rfl (by unfold maxLen; omega) ?_
 intro q7 s7 hO7 hP7 hN7
 refine op_litR [⟨q5,putN s.size⟩,⟨q7,bsl s⟩] rfl rfl rfl (by decide) rfl rfl rfl (by decide) ?_
 intro q8 s8 hO8 hP8 hN8
 refine ⟨_,rfl,(ac_impl_joined q8 [⟨q5,putN s.size⟩,⟨q7,bsl s⟩] s8 (hO8.rows cRV_len) (fun r hr => by
  rcases List.mem_cons.1 hr with rfl | hr
  ·exact (hP7.trans hP8).rows (hO5.rows fB_len)
  ·rw [List.mem_singleton.1 hr]; exact hP8.rows (hO7.rows fB_len)) (by show (2 : Nat) ≤ 1048576; omega) (by show (fl [⟨none,putN s.size⟩,⟨none,bsl s⟩]).length ≤ _; rw [hf]; have := putS_len s; omega)).mono ?_⟩
 rintro _ s9 ⟨q9,rfl,hO9,hN9,hP9⟩
 exact cxs (Rt ⟨q9,by first | rfl | exact congrArg (fun n => vS q9 n) (congrArg List.length hf),hf ▸ hO9,hN9.le ((hP5.trans hP7).trans hP8).1,((hP5.trans hP7).trans hP8).trans hP9⟩)
def leafOf (id : Int) : Int := if 0 ≤ id ∧ id ≤ 4 then crc (putN id) % 4 else -1
theorem ac_spec_LeafOf (id : Int) (st : St) : C 198 [vI id] st (fun v s => v = vI (leafOf id) ∧ Pres st s) := by
 refine AC.enterX (i := ⟨[],[],[0,2,5],[]⟩) [] Try.func198 rfl rfl (by kernel_rfl) (by kernel_rfl) Try.ntmps198 (Lb rfl) rfl ?_
 refine Cu lo0 st [(0,vI id),(2,vI 0)] fun _ => ?_
 refine ⟨_,rfl,(ac_spec_l3Node id st).mono ?_⟩
 rintro _ st ⟨x4,rfl,h4,rfl⟩
 rcases x4 with _|_
 ·replace h4 := of_decide_eq_false h4.symm
  refine ⟨_,rfl,?_⟩
  refine Cu lo0 st [(0,vI id),(2,vI 0),(5,vB true)] fun _ => ?_
  exact cxs (Rt ⟨congrArg vI (by rw [leafOf,if_neg h4]),Pres.refl _⟩)
 ·replace h4 := of_decide_eq_true h4.symm
  refine ⟨_,rfl,?_⟩
  refine Cu lo0 st [(0,vI id),(2,vI 0),(5,vB false)] fun _ => ?_
  refine cxs ?_
  refine ⟨_,rfl,(ac_spec_PutNum id st).mono ?_⟩
  rintro _ s7 ⟨q7,rfl,hO7,hN7,hP7⟩
  have hpl := putN_len id
  have hc0 := (crc_rng (putN_ok id)).1
  refine ⟨_,rfl,(ac_spec_Crc q7 (putN id) s7 (hO7.rows fB_len) (putN_ok id) (by omega)).mono ?_⟩
  rintro _ s7 ⟨rfl,rfl⟩
  refine ⟨_,op_rm (r := crc (putN id) % 4) rfl rfl rfl (by decide) (tm_emod 4 hc0),?_⟩
  exact cxs (Rt ⟨congrArg vI (by rw [leafOf,if_pos h4]),hP7⟩)
theorem ac_spec_l1Has (p : Option Addr) (l : List Int) (y : Int) (st : St) (hR : Rows st 1 fI p l) (hs : szOk l.length) : C 197 [vS p l.length,vI y] st (fun v s => ∃ x,v = .bool x ∧ (x = true ↔ y ∈ l) ∧ s = st) := by
 have hs : l.length ≤ 1048576 := hs
 refine AC.enterX (i := ⟨[],[],[0,1,4,5,9,17],[]⟩) [] Try.func197 rfl rfl (by kernel_rfl) (by kernel_rfl) Try.ntmps197 (Lb rfl) rfl ?_
 refine cxs ?_
 refine Cu lo0 st [(0,vS p l.length),(1,vI y),(4,vB false),(5,vI 0)] fun _ => ?_
 refine AW.loop0 (fun i : Nat => [(0,vS p l.length),(1,vI y),(5,vI (i : Int))]) (fun m (i : Nat) st' => m = l.length - i ∧ i ≤ l.length ∧ (∀ (j : Nat) x,j < i → l[j]? = some x → ¬ x = y) ∧ st = st') 0 _ ⟨rfl,rfl,rfl,trivial⟩ rfl ⟨rfl,Nat.zero_le _,fun j x h => absurd h (Nat.not_lt_zero _),rfl⟩ ?_
 rintro m i ρ0 st' ⟨rfl,hi,hok,rfl⟩
 iterate 2 refine ⟨_,rfl,?_⟩
 rintro (_|_) h9
 ·replace h9 : ¬ ((i : Int) < (l.length : Int)) := of_decide_eq_false h9
  refine Cu lo0 st [(0,vS p l.length),(1,vI y),(5,vI (i : Int)),(9,vB false)] fun _ => ?_
  refine cxs ?_
  exact cxs (Rt ⟨false,rfl,⟨fun h => absurd h Bool.false_ne_true,fun h => (show False from (by obtain ⟨j,hj⟩ := List.getElem?_of_mem h; exact hok j y (by have := (List.getElem?_eq_some_iff.1 hj).1; omega) hj rfl)).elim⟩,rfl⟩)
 ·replace h9 : (i : Int) < (l.length : Int) := of_decide_eq_true h9
  refine Cu lo0 st [(0,vS p l.length),(1,vI y),(5,vI (i : Int)),(9,vB true)] fun _ => ?_
  refine cxs ?_
  refine op_at i hR (by omega) rfl rfl rfl rfl rfl rfl rfl ?_
  intro x14 b14 d14 k14 hy14 hb14 hm14 hc14 ho14
  refine ⟨_,op_ldc (i := 0) rfl rfl rfl rfl hm14 hc14 rfl rfl,?_⟩
  refine ⟨_,rfl,?_⟩
  rintro (_|_) h17
  ·replace h17 : ¬ (x14 = y) := beq_eq_false_iff_ne.1 h17
   refine Cu lo0 st [(0,vS p l.length),(1,vI y),(5,vI (i : Int)),(9,vB true),(17,vB false)] fun _ => ?_
   refine cxs ?_
   have ew11 : IntKind.wrap .i64 ((i : Int) + (1)) = ((i + 1 : Nat) : Int) := (wrap_i64 (by omega) (by omega)).trans (by omega)
   refine ⟨_,rfl,?_⟩
   refine ⟨i + 1,l.length - (i + 1),by omega,⟨rfl,rfl,congrArg (Value.int .i64) ew11,trivial⟩,rfl,rfl,by omega,fun j x hj hx => ?_,rfl⟩
   rcases Nat.lt_or_ge j i with h | h
   ·exact hok j x h hx
   ·obtain rfl : j = i := by omega
    rw [hy14] at hx; injection hx with hx; rw [← hx]; exact h17
  ·replace h17 : x14 = y := beq_iff_eq.1 h17
   refine Cu lo0 st [(0,vS p l.length),(1,vI y),(5,vI (i : Int)),(9,vB true),(17,vB true)] fun _ => ?_
   exact cxs (Rt ⟨true,rfl,⟨fun _ => h17 ▸ List.mem_of_getElem? hy14,fun _ => rfl⟩,rfl⟩)
def numsB (l : List Int) : List Int := l.flatMap putN
theorem numsB_succ {l : List Int} {i : Nat} {x : Int} (h : l[i]? = some x) : numsB (l.take (i + 1)) = numsB (l.take i) ++ putN x := by
 unfold numsB
 rw [List.take_add_one,h,List.flatMap_append]
 simp
theorem numsB_len : ∀ l : List Int,(numsB l).length ≤ 5 * l.length
 | [] => Nat.le_refl _
 | x :: l => by
  have h1 := numsB_len l
  have h2 := putN_len x
  rw [show numsB (x :: l) = putN x ++ numsB l from List.flatMap_cons,List.length_append,List.length_cons]
  omega
theorem numsB_ok (l : List Int) : bytesOk (numsB l) := fun x hx => by
 obtain ⟨y,_,hy⟩ := List.mem_flatMap.1 hx
 exact putN_ok y x hy
def rootF (l : List Int) : Int := crc (numsB l) % 1024
theorem ac_spec_l6Root (p : Option Addr) (l : List Int) (st : St) (hR : Rows st 1 fI p l) (hs : szOk l.length) : C 196 [vS p l.length] st (fun v s => v = vI (rootF l) ∧ Pres st s) := by
 have hs : l.length ≤ 1048576 := hs
 refine AC.enterX (i := ⟨[],[],[0,2,3,4,9],[]⟩) [] Try.func196 rfl rfl (by kernel_rfl) (by kernel_rfl) Try.ntmps196 (Lb rfl) rfl ?_
 refine Cu lo0 st [(0,vS p l.length),(2,vI 0)] fun _ => ?_
 refine op_nilK (z := 1) (f := fB) rfl rfl rfl rfl (by decide) rfl ?_
 intro q5 s5 hO5 hP5 hN5
 refine cxs ?_
 refine Cu lo0 s5 [(0,vS p l.length),(2,vI 0),(3,vS q5 0),(4,vI 0)] fun _ => ?_
 refine AW.loop0 (fun x : Nat × Option Addr × List Int => [(0,vS p l.length),(2,vI (0)),(3,vS x.2.1 x.2.2.length),(4,vI (x.1 : Int))]) (fun m (x : Nat × Option Addr × List Int) st' => m = l.length - x.1 ∧ x.1 ≤ l.length ∧ x.2.2 = numsB (l.take x.1) ∧ OwnR st' 1 fB x.2.1 x.2.2 ∧ New st.next x.2.1 ∧ Pres st st') (0,q5,[]) _ ⟨rfl,rfl,rfl,rfl,trivial⟩ rfl ⟨rfl,Nat.zero_le _,rfl,hO5,hN5,hP5⟩ ?_
 rintro m ⟨i,q,b⟩ ρ0 st' ⟨rfl,hi,hv,hO,hN,hP⟩
 simp only at hi hv hO hN
 have hbl : b.length ≤ 5 * l.length := by rw [hv]; have := numsB_len (l.take i); rw [List.length_take] at this; omega
 iterate 2 refine ⟨_,rfl,?_⟩
 rintro (_|_) h9
 ·replace h9 : ¬ ((i : Int) < (l.length : Int)) := of_decide_eq_false h9
  refine Cu lo0 st' [(0,vS p l.length),(2,vI 0),(3,vS q b.length),(4,vI (i : Int)),(9,vB false)] fun _ => ?_
  have hbe : b = numsB l := by rw [hv,show i = l.length by omega,List.take_length]
  refine cxs ?_
  refine ⟨_,rfl,(ac_spec_Crc q b st' (hO.rows fB_len) (hbe ▸ numsB_ok l) (by omega)).mono ?_⟩
  rintro _ st' ⟨rfl,rfl⟩
  have hc0 : 0 ≤ crc b := (crc_rng (hbe ▸ numsB_ok l)).1
  refine ⟨_,op_rm (r := crc b % 1024) rfl rfl rfl (by decide) (tm_emod 1024 hc0),?_⟩
  exact cxs (Rt ⟨congrArg vI (by rw [rootF,hbe]),hP⟩)
 ·replace h9 : (i : Int) < (l.length : Int) := of_decide_eq_true h9
  refine Cu lo0 st' [(0,vS p l.length),(2,vI 0),(3,vS q b.length),(4,vI (i : Int)),(9,vB true)] fun _ => ?_
  refine cxs ?_
  refine op_at i (hP.rows hR) (by omega) rfl rfl rfl rfl rfl rfl rfl ?_
  intro x15 b15 d15 k15 hy15 hb15 hm15 hc15 ho15
  have hRs := hP.rows hR
  refine ⟨_,op_ldc (i := 0) rfl rfl rfl rfl hm15 hc15 rfl rfl,?_⟩
  have hpl := putN_len x15
  refine ⟨_,rfl,(ac_spec_PutNum x15 st').mono ?_⟩
  rintro _ s17 ⟨q17,rfl,hO17,hN17,hP17⟩
  refine op_cat' (z := 1) (st := s17) (f := fB) (b := 1) (l := b) (l2 := putN x15) rfl rfl rfl rfl rfl rfl rfl (by decide) fB_len rfl rfl rfl rfl (by first | omega | (simp only [List.length_nil]; omega)) (by unfold maxLen; first | omega | (simp only [List.length_nil]; omega)) (hP17.ownR hO) (hO17.rows fB_len) ?_
  intro q18 s18 hO18 hPr18 hN18
  refine Cu lo0 s18 [(0,vS p l.length),(2,vI 0),(3,vS q18 (b ++ (putN x15)).length),(4,vI (i : Int)),(9,vB true)] fun _ => ?_
  have ew11 : IntKind.wrap .i64 ((i : Int) + (1)) = ((i + 1 : Nat) : Int) := (wrap_i64 (by omega) (by omega)).trans (by omega)
  refine ⟨_,rfl,?_⟩
  exact ⟨(i + 1,q18,b ++ putN x15),l.length - (i + 1),by omega,⟨rfl,rfl,rfl,congrArg (Value.int .i64) ew11,trivial⟩,rfl,rfl,by simp only; omega,by rw [numsB_succ hy15,← hv],hO18,cat_new (hP.trans hP17) hN hN18,hPr18.pres (hP.trans hP17) hN⟩
def inL (L : List Int) (id : Int) : Bool := decide (leafOf id ∈ L)
def itS (L : List Int) (l : List Itm) : List Itm := l.filter fun x => inL L x.id
def flS (L : List Int) (l : List Flr) : List Flr := l.filter fun x => inL L x.id
def sliceF (s : Sta) (L : List Int) : Sta := ⟨itS L s.items,flS L s.floors⟩
theorem filt_in {α : Type} {p : α → Bool} {l : List α} {i : Nat} {x : α} (h : l[i]? = some x) (hx : p x = true) : (l.take (i + 1)).filter p = (l.take i).filter p ++ [x] := by
 rw [List.take_add_one,h,List.filter_append]
 simp [hx]
theorem filt_out {α : Type} {p : α → Bool} {l : List α} {i : Nat} {x : α} (h : l[i]? = some x) (hx : p x = false) : (l.take (i + 1)).filter p = (l.take i).filter p := by
 rw [List.take_add_one,h,List.filter_append]
 simp [hx]
theorem filt_len {α : Type} {p : α → Bool} (l : List α) (i : Nat) : ((l.take i).filter p).length ≤ l.length := by
 have h1 := List.length_filter_le p (l.take i)
 rw [List.length_take] at h1
 omega
theorem itS_in {L : List Int} {l : List Itm} {i : Nat} {x : Itm} (h : l[i]? = some x) (hx : leafOf x.id ∈ L) : itS L (l.take (i + 1)) = itS L (l.take i) ++ [x] := filt_in h (decide_eq_true hx)
theorem itS_out {L : List Int} {l : List Itm} {i : Nat} {x : Itm} (h : l[i]? = some x) (hx : ¬ leafOf x.id ∈ L) : itS L (l.take (i + 1)) = itS L (l.take i) := filt_out h (decide_eq_false hx)
theorem flS_in {L : List Int} {l : List Flr} {i : Nat} {x : Flr} (h : l[i]? = some x) (hx : leafOf x.id ∈ L) : flS L (l.take (i + 1)) = flS L (l.take i) ++ [x] := filt_in h (decide_eq_true hx)
theorem flS_out {L : List Int} {l : List Flr} {i : Nat} {x : Flr} (h : l[i]? = some x) (hx : ¬ leafOf x.id ∈ L) : flS L (l.take (i + 1)) = flS L (l.take i) := filt_out h (decide_eq_false hx)
theorem ac_spec_l6Slice (s : SV) (p : Option Addr) (L : List Int) (st : St) (hR : RdS st s) (hb : bigS s.x) (hL : Rows st 1 fI p L) (hs : szOk L.length) : C 187 [.agg #[vS s.p s.x.items.length,vS s.q s.x.floors.length],vS p L.length] st (fun v s' => ∃ u : SV,v = .agg #[vS u.p u.x.items.length,vS u.q u.x.floors.length] ∧ u.x = sliceF s.x L ∧ OwnP s' (pcS u) ∧ NewP st.next (pcS u) ∧ Pres st s') := by
 have hs : L.length ≤ 1048576 := hs
 have hs1 : s.x.items.length ≤ 1048576 := hb.1
 have hs2 : s.x.floors.length ≤ 1048576 := hb.2.1
 refine AC.enterX (i := ⟨[2,4,5],[2,4,5,10,17,25,27,34,36,43,51,53,60],[0,1,2,4,5,6,7,13,24,39,50],[]⟩) [(6,[7],[1]),(11,[7],[1])] Try.func187 rfl rfl (by kernel_rfl) (by kernel_rfl) Try.ntmps187 (Lb rfl) rfl ?_
 iterate 2 refine ⟨_,rfl,?_⟩
 refine Cm 2 st [(1,vS p L.length),Ml 2 0,Ml 4 1] [(2,0,cSV s),(4,1,[Sn,Sn])] fun _ _ => ?_
 iterate 2 refine ⟨_,rfl,?_⟩
 refine ⟨_,Os rfl,?_⟩
 refine cxs ?_
 refine Cm 3 st [(1,vS p L.length),Ml 2 0,Ml 4 1,Ml 5 2,(6,vI 0)] [(2,0,cSV s),(4,1,[Sn,Sn]),(5,2,[Sn,Sn])] fun _ _ => ?_
 refine AW.loopM (fun x : Nat × Option Addr × List Itm => [(1,vS p L.length),(2,vL 2 0 (0)),(4,vL 4 0 (1)),(5,vL 5 0 (2)),(6,vI (x.1 : Int))]) (fun x : Nat × Option Addr × List Itm => [(2,0,[vS s.p s.x.items.length,vS s.q s.x.floors.length]),(4,1,[.slice none 0 0,.slice none 0 0]),(5,2,[vS x.2.1 x.2.2.length,.slice none 0 0])]) (fun m (x : Nat × Option Addr × List Itm) st' => m = s.x.items.length - x.1 ∧ x.1 ≤ s.x.items.length ∧ x.2.2 = itS L (s.x.items.take x.1) ∧ OwnR st' 6 cItm x.2.1 x.2.2 ∧ New st.next x.2.1 ∧ Pres st st') (0,none,[]) _ ⟨rfl,rfl,rfl,rfl,rfl,trivial⟩ ⟨rfl,rfl,rfl,trivial⟩ ⟨rfl,Nat.zero_le _,rfl,OwnR.nil,New.none,Pres.refl _⟩ ?_
 rintro m ⟨i,q,l⟩ ρ0 ff gg st' ⟨rfl,hi,hv,hO,hN,hP⟩
 simp only at hi hv hO hN
 have hll : l.length ≤ s.x.items.length := by rw [hv]; exact filt_len _ _
 refine ⟨_,rfl,?_⟩
 refine ⟨_,Od rfl,?_⟩
 iterate 2 refine ⟨_,rfl,?_⟩
 rintro (_|_) h13
 ·replace h13 : ¬ ((i : Int) < (s.x.items.length : Int)) := of_decide_eq_false h13
  refine Cm gg st' [(1,vS p L.length),Ml 2 0,Ml 4 1,Ml 5 2,(6,vI (i : Int)),(13,vB false)] [(2,0,cSV s),(4,1,[Sn,Sn]),(5,2,[vS q l.length,Sn])] fun _ _ => ?_
  have hv1 : l = itS L s.x.items := by rw [hv,show i = s.x.items.length by omega,List.take_length]
  obtain ⟨s1,hs1⟩ : ∃ s1,s1 = st' := ⟨_,rfl⟩
  subst hs1
  refine cxs ?_
  refine Cm gg s1 [(1,vS p L.length),Ml 2 0,Ml 4 1,Ml 5 2,(7,vI 0)] [(2,0,cSV s),(4,1,[Sn,Sn]),(5,2,[vS q l.length,Sn])] fun _ _ => ?_
  refine AW.loopM (fun x : Nat × Option Addr × List Flr => [(1,vS p L.length),(2,vL 2 0 (0)),(4,vL 4 0 (1)),(5,vL 5 0 (2)),(7,vI (x.1 : Int))]) (fun x : Nat × Option Addr × List Flr => [(2,0,[vS s.p s.x.items.length,vS s.q s.x.floors.length]),(4,1,[.slice none 0 0,.slice none 0 0]),(5,2,[vS q l.length,vS x.2.1 x.2.2.length])]) (fun m (x : Nat × Option Addr × List Flr) st' => m = s.x.floors.length - x.1 ∧ x.1 ≤ s.x.floors.length ∧ x.2.2 = flS L (s.x.floors.take x.1) ∧ OwnR st' 2 cFlr x.2.1 x.2.2 ∧ New s1.next x.2.1 ∧ Pres s1 st') (0,none,[]) _ ⟨rfl,rfl,rfl,rfl,rfl,trivial⟩ ⟨rfl,rfl,rfl,trivial⟩ ⟨rfl,Nat.zero_le _,rfl,OwnR.nil,New.none,Pres.refl _⟩ ?_
  rintro m ⟨j,r,f⟩ ρ0 ff gg st' ⟨rfl,hj,hw,hOj,hNj,hPj⟩
  simp only at hj hw hOj hNj
  have hfl : f.length ≤ s.x.floors.length := by rw [hw]; exact filt_len _ _
  refine ⟨_,rfl,?_⟩
  refine ⟨_,Od rfl,?_⟩
  iterate 2 refine ⟨_,rfl,?_⟩
  rintro (_|_) h39
  ·replace h39 : ¬ ((j : Int) < (s.x.floors.length : Int)) := of_decide_eq_false h39
   refine Cm gg st' [(1,vS p L.length),Ml 2 0,Ml 4 1,Ml 5 2,(7,vI (j : Int)),(39,vB false)] [(2,0,cSV s),(4,1,[Sn,Sn]),(5,2,[vS q l.length,vS r f.length])] fun _ _ => ?_
   have hw1 : f = flS L s.x.floors := by rw [hw,show j = s.x.floors.length by omega,List.take_length]
   refine cxs ?_
   refine ⟨_,Od rfl,?_⟩
   refine ⟨_,Os rfl,?_⟩
   exact cxs (Rt ⟨⟨q,r,⟨l,f⟩⟩,rfl,by rw [hv1,hw1]; rfl,OwnP.join (l := [pcR 6 cItm q l]) (OwnP.one (own_pc hO)) hPj (OwnP.one (own_pc hOj)) (NewP.cons hNj NewP.nil),NewP.cons hN (NewP.cons (hNj.le hP.1) NewP.nil),hP.trans hPj⟩)
  ·replace h39 : (j : Int) < (s.x.floors.length : Int) := of_decide_eq_true h39
   refine Cm gg st' [(1,vS p L.length),Ml 2 0,Ml 4 1,Ml 5 2,(7,vI (j : Int)),(39,vB true)] [(2,0,cSV s),(4,1,[Sn,Sn]),(5,2,[vS q l.length,vS r f.length])] fun _ _ => ?_
   refine cxs ?_
   refine ⟨_,rfl,?_⟩
   refine ⟨_,Od rfl,?_⟩
   refine op_at j ((hP.trans hPj).rows hR.2) (by omega) rfl rfl rfl rfl rfl rfl rfl ?_
   intro x46 b46 d46 k46 hy46 hb46 hm46 hc46 ho46
   refine ⟨_,rfl,?_⟩
   refine ⟨_,op_ldc (i := 0) rfl rfl rfl rfl hm46 hc46 rfl rfl,?_⟩
   refine ⟨_,rfl,(ac_spec_LeafOf x46.id st').mono ?_⟩
   rintro _ s49 ⟨rfl,hP49⟩
   refine ⟨_,rfl,(ac_spec_l1Has p L (leafOf x46.id) s49 (((hP.trans hPj).trans hP49).rows hL) (by first | assumption | omega)).mono ?_⟩
   rintro _ s49 ⟨x50,rfl,h50,rfl⟩
   rcases x50 with _|_
   ·replace h50 := fun k => Bool.false_ne_true (h50.2 k)
    refine Cm gg s49 [(1,vS p L.length),Ml 2 0,Ml 4 1,Ml 5 2,(7,vI (j : Int)),(39,vB true),(50,vB false)] [(2,0,cSV s),(4,1,[Sn,Sn]),(5,2,[vS q l.length,vS r f.length])] fun _ _ => ?_
    refine cxs ?_
    have ew41 : IntKind.wrap .i64 ((j : Int) + (1)) = ((j + 1 : Nat) : Int) := (wrap_i64 (by omega) (by omega)).trans (by omega)
    refine ⟨_,rfl,?_⟩
    exact ⟨(j + 1,r,f),s.x.floors.length - (j + 1),by omega,⟨rfl,rfl,rfl,rfl,congrArg (Value.int .i64) ew41,trivial⟩,⟨rfl,rfl,rfl,trivial⟩,rfl,by simp only; omega,by rw [flS_out hy46 h50]; exact hw,hP49.ownR hOj,hNj,hPj.trans hP49⟩
   ·replace h50 := h50.1 rfl
    refine Cm gg s49 [(1,vS p L.length),Ml 2 0,Ml 4 1,Ml 5 2,(7,vI (j : Int)),(39,vB true),(50,vB true)] [(2,0,cSV s),(4,1,[Sn,Sn]),(5,2,[vS q l.length,vS r f.length])] fun _ _ => ?_
    refine ⟨_,rfl,?_⟩
    refine ⟨_,Od rfl,?_⟩
    refine ⟨ld_own rfl rfl rfl,?_⟩
    refine ⟨_,rfl,?_⟩
    refine ⟨_,Od rfl,?_⟩
    refine op_el j (((hP.trans hPj).trans hP49).rows hR.2) hy46 rfl rfl rfl rfl rfl rfl rfl ?_
    intro b56 d56 k56 hb56 hm56 hc56 ho56
    refine ⟨_,op_lda rfl rfl rfl rfl rfl hm56 hc56 rfl,?_⟩
    refine op_one (z := 2) (a := (x46 : Flr)) (f := cFlr) rfl rfl rfl rfl rfl (by decide) rfl (Lb rfl) rfl rfl rfl ?_
    refine ⟨Pres.push.2,?_⟩
    refine op_snoc (z := 2) (st := s49) (f := cFlr) (b := 16) (l := f) (x := x46) rfl rfl rfl rfl rfl rfl rfl (by decide) len_cFlr rfl rfl rfl (by omega) (by unfold maxLen; omega) (hP49.ownR hOj) ?_
    intro q59 s59 hO59 hP59 hN59
    refine ⟨_,rfl,?_⟩
    refine ⟨_,Os rfl,?_⟩
    refine Cm gg s59 [(1,vS p L.length),Ml 2 0,Ml 4 1,Ml 5 2,(7,vI (j : Int)),(39,vB true),(50,vB true)] [(2,0,cSV s),(4,1,[Sn,Sn]),(5,2,[vS q l.length,vS q59 (f ++ [x46]).length])] fun _ _ => ?_
    have ew41 : IntKind.wrap .i64 ((j : Int) + (1)) = ((j + 1 : Nat) : Int) := (wrap_i64 (by omega) (by omega)).trans (by omega)
    refine ⟨_,rfl,?_⟩
    exact ⟨(j + 1,q59,f ++ [x46]),s.x.floors.length - (j + 1),by omega,⟨rfl,rfl,rfl,rfl,congrArg (Value.int .i64) ew41,trivial⟩,⟨rfl,rfl,rfl,trivial⟩,rfl,by simp only; omega,by rw [flS_in hy46 h50,← hw],hO59,hN59.le (hPj.trans hP49).1,hP59.pres (hPj.trans hP49) hNj⟩
 ·replace h13 : (i : Int) < (s.x.items.length : Int) := of_decide_eq_true h13
  refine Cm gg st' [(1,vS p L.length),Ml 2 0,Ml 4 1,Ml 5 2,(6,vI (i : Int)),(13,vB true)] [(2,0,cSV s),(4,1,[Sn,Sn]),(5,2,[vS q l.length,Sn])] fun _ _ => ?_
  refine cxs ?_
  refine ⟨_,rfl,?_⟩
  refine ⟨_,Od rfl,?_⟩
  refine op_at i (hP.rows hR.1) (by omega) rfl rfl rfl rfl rfl rfl rfl ?_
  intro x20 b20 d20 k20 hy20 hb20 hm20 hc20 ho20
  refine ⟨_,rfl,?_⟩
  refine ⟨_,op_ldc (i := 0) rfl rfl rfl rfl hm20 hc20 rfl rfl,?_⟩
  refine ⟨_,rfl,(ac_spec_LeafOf x20.id st').mono ?_⟩
  rintro _ s23 ⟨rfl,hP23⟩
  refine ⟨_,rfl,(ac_spec_l1Has p L (leafOf x20.id) s23 ((hP.trans hP23).rows hL) (by first | assumption | omega)).mono ?_⟩
  rintro _ s23 ⟨x24,rfl,h24,rfl⟩
  rcases x24 with _|_
  ·replace h24 := fun k => Bool.false_ne_true (h24.2 k)
   refine Cm gg s23 [(1,vS p L.length),Ml 2 0,Ml 4 1,Ml 5 2,(6,vI (i : Int)),(13,vB true),(24,vB false)] [(2,0,cSV s),(4,1,[Sn,Sn]),(5,2,[vS q l.length,Sn])] fun _ _ => ?_
   refine cxs ?_
   have ew15 : IntKind.wrap .i64 ((i : Int) + (1)) = ((i + 1 : Nat) : Int) := (wrap_i64 (by omega) (by omega)).trans (by omega)
   refine ⟨_,rfl,?_⟩
   exact ⟨(i + 1,q,l),s.x.items.length - (i + 1),by omega,⟨rfl,rfl,rfl,rfl,congrArg (Value.int .i64) ew15,trivial⟩,⟨rfl,rfl,rfl,trivial⟩,rfl,by simp only; omega,by rw [itS_out hy20 h24]; exact hv,hP23.ownR hO,hN,hP.trans hP23⟩
  ·replace h24 := h24.1 rfl
   refine Cm gg s23 [(1,vS p L.length),Ml 2 0,Ml 4 1,Ml 5 2,(6,vI (i : Int)),(13,vB true),(24,vB true)] [(2,0,cSV s),(4,1,[Sn,Sn]),(5,2,[vS q l.length,Sn])] fun _ _ => ?_
   refine ⟨_,rfl,?_⟩
   refine ⟨_,Od rfl,?_⟩
   refine ⟨ld_own rfl rfl rfl,?_⟩
   refine ⟨_,rfl,?_⟩
   refine ⟨_,Od rfl,?_⟩
   refine op_el i ((hP.trans hP23).rows hR.1) hy20 rfl rfl rfl rfl rfl rfl rfl ?_
   intro b30 d30 k30 hb30 hm30 hc30 ho30
   refine ⟨_,op_lda rfl rfl rfl rfl rfl hm30 hc30 rfl,?_⟩
   refine op_one (z := 6) (a := (x20 : Itm)) (f := cItm) rfl rfl rfl rfl rfl (by decide) rfl (Lb rfl) rfl rfl rfl ?_
   refine ⟨Pres.push.2,?_⟩
   refine op_snoc (z := 6) (st := s23) (f := cItm) (b := 56) (l := l) (x := x20) rfl rfl rfl rfl rfl rfl rfl (by decide) len_cItm rfl rfl rfl (by omega) (by unfold maxLen; omega) (hP23.ownR hO) ?_
   intro q33 s33 hO33 hP33 hN33
   refine ⟨_,rfl,?_⟩
   refine ⟨_,Os rfl,?_⟩
   refine Cm gg s33 [(1,vS p L.length),Ml 2 0,Ml 4 1,Ml 5 2,(6,vI (i : Int)),(13,vB true),(24,vB true)] [(2,0,cSV s),(4,1,[Sn,Sn]),(5,2,[vS q33 (l ++ [x20]).length,Sn])] fun _ _ => ?_
   have ew15 : IntKind.wrap .i64 ((i : Int) + (1)) = ((i + 1 : Nat) : Int) := (wrap_i64 (by omega) (by omega)).trans (by omega)
   refine ⟨_,rfl,?_⟩
   exact ⟨(i + 1,q33,l ++ [x20]),s.x.items.length - (i + 1),by omega,⟨rfl,rfl,rfl,rfl,congrArg (Value.int .i64) ew15,trivial⟩,⟨rfl,rfl,rfl,trivial⟩,rfl,by simp only; omega,by rw [itS_in hy20 h24,← hv],hO33,hN33.le (hP.trans hP23).1,hP33.pres (hP.trans hP23) hN⟩
def itL (x : Itm) : List Int := [x.id,x.e.inc,x.e.rank,x.e.beat,x.e.ver]
def itB (x : Itm) : List Int := numsB (itL x) ++ putS x.e.data
def flB (x : Flr) : List Int := putN x.id ++ putN x.inc
def itsB (l : List Itm) : List Int := l.flatMap itB
def flsB (l : List Flr) : List Int := l.flatMap flB
def stB (s : Sta) : List Int := putN (s.items.length : Int) ++ itsB s.items ++ putN (s.floors.length : Int) ++ flsB s.floors
theorem fm_succ {α : Type} {g : α → List Int} {l : List α} {i : Nat} {x : α} (h : l[i]? = some x) : (l.take (i + 1)).flatMap g = (l.take i).flatMap g ++ g x := by
 rw [List.take_add_one,h,List.flatMap_append]
 simp
theorem fm_len {α : Type} {g : α → List Int} {c : Nat} : ∀ {l : List α},(∀ x ∈ l,(g x).length ≤ c) → (l.flatMap g).length ≤ c * l.length
 | [],_ => Nat.zero_le _
 | x :: l,h => by
  have h1 := fm_len (l := l) fun y hy => h y (List.mem_cons_of_mem _ hy)
  have h2 := h x (List.mem_cons_self ..)
  rw [List.flatMap_cons,List.length_append,List.length_cons,Nat.mul_add,Nat.mul_one]
  omega
theorem fm_ok {α : Type} {g : α → List Int} {l : List α} (h : ∀ x,bytesOk (g x)) : bytesOk (l.flatMap g) := fun y hy => by
 obtain ⟨x,_,hx⟩ := List.mem_flatMap.1 hy
 exact h x y hx
theorem itB_len {x : Itm} (h : x.e.data.size ≤ 8) : (itB x).length ≤ 38 := by
 have h1 := numsB_len (itL x)
 have h2 := putS_len x.e.data
 rw [itB,List.length_append]
 have : (itL x).length = 5 := rfl
 omega
theorem flB_len (x : Flr) : (flB x).length ≤ 10 := by
 have h1 := putN_len x.id
 have h2 := putN_len x.inc
 rw [flB,List.length_append]
 omega
theorem stB_ok (s : Sta) : bytesOk (stB s) :=
 (((putN_ok _).app (fm_ok fun x => (numsB_ok _).app (putS_ok _))).app (putN_ok _)).app (fm_ok fun x => (putN_ok _).app (putN_ok _))
theorem okSize {s : Sta} (hk : stateOk s) {x : Itm} (hx : x ∈ s.items) : x.e.data.size ≤ 8 := by
 obtain ⟨j,hj⟩ := List.getElem?_of_mem hx
 exact (hk.1 j x hj).2.1.2.2.2.2
theorem its_len {s : Sta} (hk : stateOk s) (i : Nat) : (itsB (s.items.take i)).length ≤ 38 * s.items.length := by
 have h1 : (itsB (s.items.take i)).length ≤ 38 * (s.items.take i).length := fm_len fun x hx => itB_len (okSize hk (List.mem_of_mem_take hx))
 rw [List.length_take] at h1
 omega
theorem fls_len (l : List Flr) (i : Nat) : (flsB (l.take i)).length ≤ 10 * l.length := by
 have h1 : (flsB (l.take i)).length ≤ 10 * (l.take i).length := fm_len fun x _ => flB_len x
 rw [List.length_take] at h1
 omega
theorem stB_len {s : Sta} (hk : stateOk s) : (stB s).length ≤ 10 + 38 * s.items.length + 10 * s.floors.length := by
 have h1 := its_len hk s.items.length
 have h2 := fls_len s.floors s.floors.length
 rw [List.take_length] at h1 h2
 have h3 := putN_len (s.items.length : Int)
 have h4 := putN_len (s.floors.length : Int)
 rw [stB,List.length_append,List.length_append,List.length_append]
 omega
theorem cat_dis {st : St} {p q r : Option Addr} {A B : Prop} {m : Nat} (hd : Dis p r) (ho : Old st.next r) (h : (q = p ∧ A ∧ B) ∨ (0 < m ∧ New st.next q)) : Dis q r := by
 rcases h with ⟨h,_⟩ | ⟨_,h⟩
 ·rw [h]; exact hd
 ·exact (Dis.of ho h).symm
theorem ac_spec_l6Bytes (s : SV) (st : St) (hR : RdS st s) (hb : bigS s.x) (hk : stateOk s.x) : C 97 [.agg #[vS s.p s.x.items.length,vS s.q s.x.floors.length]] st (fun v s' => ∃ q,v = vS q (stB s.x).length ∧ OwnR s' 1 fB q (stB s.x) ∧ New st.next q ∧ Pres st s') := by
 have hs1 : s.x.items.length ≤ 1048576 := hb.1
 have hs2 : s.x.floors.length ≤ 1048576 := hb.2.1
 have hpl1 := putN_len (s.x.items.length : Int)
 have hpl2 := putN_len (s.x.floors.length : Int)
 refine AC.enterX (i := ⟨[1,5],[1,5,9,14,20,26,32,34,36,38,55,60,66,73,82],[0,1,2,3,4,5,6,7,8,17,44,69],[]⟩) [(6,[],[])] Try.func97 rfl rfl (by kernel_rfl) (by kernel_rfl) Try.ntmps97 (Lb rfl) rfl ?_
 refine ⟨_,rfl,?_⟩
 refine Cm 1 st [Ml 1 0,(2,Sn)] [(1,0,cSV s)] fun _ _ => ?_
 refine ⟨_,rfl,?_⟩
 refine ⟨_,Od rfl,?_⟩
 refine ⟨_,rfl,?_⟩
 refine ⟨_,rfl,(ac_spec_PutNum (s.x.items.length : Int) st).mono ?_⟩
 rintro _ s12 ⟨q12,rfl,hO12,hN12,hP12⟩
 refine cxs ?_
 refine Cm 1 s12 [Ml 1 0,(2,Sn),(3,vS q12 (putN (s.x.items.length : Int)).length),(4,vI 0)] [(1,0,cSV s)] fun _ _ => ?_
 refine AW.loopM (fun x : Nat × Option Addr × List Int => [(1,vL 1 0 (0)),(2,.slice none 0 0),(3,vS x.2.1 x.2.2.length),(4,vI (x.1 : Int))]) (fun x : Nat × Option Addr × List Int => [(1,0,[vS s.p s.x.items.length,vS s.q s.x.floors.length])]) (fun m (x : Nat × Option Addr × List Int) st' => m = s.x.items.length - x.1 ∧ x.1 ≤ s.x.items.length ∧ x.2.2 = putN (s.x.items.length : Int) ++ itsB (s.x.items.take x.1) ∧ OwnR st' 1 fB x.2.1 x.2.2 ∧ New st.next x.2.1 ∧ Pres st st') (0,q12,putN (s.x.items.length : Int)) _ ⟨rfl,rfl,rfl,rfl,trivial⟩ ⟨rfl,trivial⟩ ⟨rfl,Nat.zero_le _,(List.append_nil _).symm,hO12,hN12,hP12⟩ ?_
 rintro m ⟨i,q,b⟩ ρ0 ff gg st' ⟨rfl,hi,hv,hO,hN,hP⟩
 simp only at hi hv hO hN
 have hbl : b.length ≤ 5 + 38 * s.x.items.length := by rw [hv,List.length_append]; have := its_len hk i; omega
 refine ⟨_,rfl,?_⟩
 refine ⟨_,Od rfl,?_⟩
 iterate 2 refine ⟨_,rfl,?_⟩
 rintro (_|_) h17
 ·replace h17 : ¬ ((i : Int) < (s.x.items.length : Int)) := of_decide_eq_false h17
  refine Cm gg st' [Ml 1 0,(2,Sn),(3,vS q b.length),(4,vI (i : Int)),(17,vB false)] [(1,0,cSV s)] fun _ _ => ?_
  have hv1 : b = putN (s.x.items.length : Int) ++ itsB s.x.items := by rw [hv,show i = s.x.items.length by omega,List.take_length]
  obtain ⟨s1,hs1'⟩ : ∃ s1,s1 = st' := ⟨_,rfl⟩
  subst hs1'
  refine cxs ?_
  refine ⟨_,rfl,?_⟩
  refine ⟨_,Od rfl,?_⟩
  refine ⟨_,rfl,?_⟩
  refine ⟨_,rfl,(ac_spec_PutNum (s.x.floors.length : Int) s1).mono ?_⟩
  rintro _ s63 ⟨q63,rfl,hO63,hN63,hP63⟩
  refine op_cat' (z := 1) (st := s63) (f := fB) (b := 1) (l := b) (l2 := putN (s.x.floors.length : Int)) rfl rfl rfl rfl rfl rfl rfl (by decide) fB_len rfl rfl rfl rfl (by first | omega | (simp only [List.length_nil]; omega)) (by unfold maxLen; first | omega | (simp only [List.length_nil]; omega)) (hP63.ownR hO) (hO63.rows fB_len) ?_
  intro q64 s64 hO64 hPr64 hN64
  refine cxs ?_
  have hN64' := cat_new (hP.trans hP63) hN hN64
  have hP64' := hPr64.pres (hP.trans hP63) hN
  refine Cm gg s64 [Ml 1 0,(2,Sn),(3,vS q64 (b ++ (putN (s.x.floors.length : Int))).length),(8,vI 0)] [(1,0,cSV s)] fun _ _ => ?_
  refine AW.loopM (fun z : Nat × Option Addr × List Int => [(1,vL 1 0 (0)),(2,.slice none 0 0),(3,vS z.2.1 z.2.2.length),(8,vI (z.1 : Int))]) (fun z : Nat × Option Addr × List Int => [(1,0,[vS s.p s.x.items.length,vS s.q s.x.floors.length])]) (fun m (z : Nat × Option Addr × List Int) st' => m = s.x.floors.length - z.1 ∧ z.1 ≤ s.x.floors.length ∧ z.2.2 = b ++ putN (s.x.floors.length : Int) ++ flsB (s.x.floors.take z.1) ∧ OwnR st' 1 fB z.2.1 z.2.2 ∧ New st.next z.2.1 ∧ Pres st st') (0,q64,b ++ putN (s.x.floors.length : Int)) _ ⟨rfl,rfl,rfl,rfl,trivial⟩ ⟨rfl,trivial⟩ ⟨rfl,Nat.zero_le _,(List.append_nil _).symm,hO64,hN64',hP64'⟩ ?_
  rintro m ⟨j,r,f⟩ ρ0 ff gg st' ⟨rfl,hj,hw,hOf,hNf,hPf⟩
  simp only at hj hw hOf hNf
  have hfl : f.length ≤ 10 + 38 * s.x.items.length + 10 * s.x.floors.length := by rw [hw,List.length_append,List.length_append]; have := fls_len s.x.floors j; omega
  refine ⟨_,rfl,?_⟩
  refine ⟨_,Od rfl,?_⟩
  iterate 2 refine ⟨_,rfl,?_⟩
  rintro (_|_) h69
  ·replace h69 : ¬ ((j : Int) < (s.x.floors.length : Int)) := of_decide_eq_false h69
   refine Cm gg st' [Ml 1 0,(2,Sn),(3,vS r f.length),(8,vI (j : Int)),(69,vB false)] [(1,0,cSV s)] fun _ _ => ?_
   have hw1 : f = stB s.x := by rw [hw,show j = s.x.floors.length by omega,List.take_length,hv1]; rfl
   refine cxs ?_
   refine cxs ?_
   refine ⟨.inl rfl,_,rfl,r,?_⟩
   rw [← hw1]
   exact ⟨rfl,hOf,hNf,hPf⟩
  ·replace h69 : (j : Int) < (s.x.floors.length : Int) := of_decide_eq_true h69
   refine Cm gg st' [Ml 1 0,(2,Sn),(3,vS r f.length),(8,vI (j : Int)),(69,vB true)] [(1,0,cSV s)] fun _ _ => ?_
   refine cxs ?_
   refine ⟨_,rfl,?_⟩
   refine ⟨_,Od rfl,?_⟩
   refine op_at j (hPf.rows hR.2) (by omega) rfl rfl rfl rfl rfl rfl rfl ?_
   intro x76 b76 d76 k76 hy76 hb76 hm76 hc76 ho76
   refine ⟨_,rfl,?_⟩
   refine ⟨_,op_ldc (i := 0) rfl rfl rfl rfl hm76 hc76 rfl rfl,?_⟩
   have hpa := putN_len x76.id
   refine ⟨_,rfl,(ac_spec_PutNum x76.id st').mono ?_⟩
   rintro _ s79 ⟨q79,rfl,hO79,hN79,hP79⟩
   refine op_cat' (z := 1) (st := s79) (f := fB) (b := 1) (l := f) (l2 := putN x76.id) rfl rfl rfl rfl rfl rfl rfl (by decide) fB_len rfl rfl rfl rfl (by first | omega | (simp only [List.length_nil]; omega)) (by unfold maxLen; first | omega | (simp only [List.length_nil]; omega)) (hP79.ownR hOf) (hO79.rows fB_len) ?_
   intro q80 s80 hO80 hPr80 hN80
   refine Cm gg s80 [Ml 1 0,(2,Sn),(3,vS q80 (f ++ (putN x76.id)).length),(8,vI (j : Int)),(69,vB true)] [(1,0,cSV s)] fun _ _ => ?_
   have hfa : (f ++ putN x76.id).length = f.length + (putN x76.id).length := List.length_append
   have hN80' := cat_new (hPf.trans hP79) hNf hN80
   have hP80' := hPr80.pres (hPf.trans hP79) hNf
   refine ⟨_,rfl,?_⟩
   refine ⟨_,Od rfl,?_⟩
   refine op_el j (hP80'.rows hR.2) hy76 rfl rfl rfl rfl rfl rfl rfl ?_
   intro b85 d85 k85 hb85 hm85 hc85 ho85
   refine ⟨_,rfl,?_⟩
   refine ⟨_,op_ldc (i := 1) rfl rfl rfl rfl hm85 hc85 rfl rfl,?_⟩
   have hpb := putN_len x76.inc
   refine ⟨_,rfl,(ac_spec_PutNum x76.inc s80).mono ?_⟩
   rintro _ s88 ⟨q88,rfl,hO88,hN88,hP88⟩
   refine op_cat' (z := 1) (st := s88) (f := fB) (b := 1) (l := (f ++ putN x76.id)) (l2 := putN x76.inc) rfl rfl rfl rfl rfl rfl rfl (by decide) fB_len rfl rfl rfl rfl (by first | omega | (simp only [List.length_nil]; omega)) (by unfold maxLen; first | omega | (simp only [List.length_nil]; omega)) (hP88.ownR hO80) (hO88.rows fB_len) ?_
   intro q89 s89 hO89 hPr89 hN89
   refine Cm gg s89 [Ml 1 0,(2,Sn),(3,vS q89 ((f ++ putN x76.id) ++ (putN x76.inc)).length),(8,vI (j : Int)),(69,vB true)] [(1,0,cSV s)] fun _ _ => ?_
   have ew71 : IntKind.wrap .i64 ((j : Int) + (1)) = ((j + 1 : Nat) : Int) := (wrap_i64 (by omega) (by omega)).trans (by omega)
   refine ⟨_,rfl,?_⟩
   exact ⟨(j + 1,q89,f ++ putN x76.id ++ putN x76.inc),s.x.floors.length - (j + 1),by omega,⟨rfl,rfl,rfl,congrArg (Value.int .i64) ew71,trivial⟩,⟨rfl,trivial⟩,rfl,by first | omega | (simp only; omega),by rw [show flsB (s.x.floors.take (j + 1)) = flsB (s.x.floors.take j) ++ flB x76 from fm_succ hy76,← List.append_assoc,← hw,List.append_assoc]; rfl,hO89,cat_new (hP80'.trans hP88) hN80' hN89,hPr89.pres (hP80'.trans hP88) hN80'⟩
 ·replace h17 : (i : Int) < (s.x.items.length : Int) := of_decide_eq_true h17
  refine Cm gg st' [Ml 1 0,(2,Sn),(3,vS q b.length),(4,vI (i : Int)),(17,vB true)] [(1,0,cSV s)] fun _ _ => ?_
  obtain ⟨s1,hs1'⟩ : ∃ s1,s1 = st' := ⟨_,rfl⟩
  subst hs1'
  refine cxs ?_
  refine ⟨_,rfl,?_⟩
  refine ⟨_,Od rfl,?_⟩
  refine op_at i (hP.rows hR.1) (by omega) rfl rfl rfl rfl rfl rfl rfl ?_
  intro x23 b23 d23 k23 hy23 hb23 hm23 hc23 ho23
  refine ⟨_,rfl,?_⟩
  refine ⟨_,op_lda rfl rfl rfl rfl rfl hm23 (sub_row 1 5 hc23 rfl (by decide)) rfl,?_⟩
  refine ⟨_,rfl,?_⟩
  refine ⟨_,Os rfl,?_⟩
  refine Cm (gg + 1) s1 [Ml 1 0,(2,Sn),(3,vS q b.length),(4,vI (i : Int)),Ml 5 gg,(17,vB true)] [(1,0,cSV s),(5,gg,[vI x23.e.inc,vI x23.e.rank,vI x23.e.beat,vI x23.e.ver,.string x23.e.data])] fun _ _ => ?_
  have hdz : x23.e.data.size ≤ 8 := okSize hk (List.mem_of_getElem? hy23)
  refine ⟨_,rfl,?_⟩
  refine ⟨_,Od rfl,?_⟩
  refine op_el i (hP.rows hR.1) hy23 rfl rfl rfl rfl rfl rfl rfl ?_
  intro b29 d29 k29 hb29 hm29 hc29 ho29
  refine ⟨_,rfl,?_⟩
  refine ⟨_,op_ldc (i := 0) rfl rfl rfl rfl hm29 hc29 rfl rfl,?_⟩
  refine ⟨_,rfl,?_⟩
  refine ⟨_,Od rfl,?_⟩
  refine ⟨_,rfl,?_⟩
  refine ⟨_,Od rfl,?_⟩
  refine ⟨_,rfl,?_⟩
  refine ⟨_,Od rfl,?_⟩
  refine ⟨_,rfl,?_⟩
  refine ⟨_,Od rfl,?_⟩
  refine op_litI (k := .i64) (l := itL x23) rfl rfl rfl rfl rfl rfl (by decide) ?_
  intro q40 s40 hO40 hP40 hN40
  refine cxs ?_
  have h5 : (itL x23).length = 5 := rfl
  have hO40 : OwnR s40 1 fI q40 (itL x23) := hO40
  refine Cm (gg + 1) s40 [Ml 1 0,(2,Sn),(3,vS q b.length),(4,vI (i : Int)),Ml 5 gg,(6,vS q40 (itL x23).length),(7,vI 0),(17,vB true)] [(1,0,cSV s),(5,gg,[vI x23.e.inc,vI x23.e.rank,vI x23.e.beat,vI x23.e.ver,.string x23.e.data])] fun _ _ => ?_
  refine AW.loopM (fun y : Nat × Option Addr × List Int => [(1,vL 1 0 (0)),(2,.slice none 0 0),(3,vS y.2.1 y.2.2.length),(4,vI (i : Int)),(5,vL 5 0 (gg)),(6,vS q40 (itL x23).length),(7,vI (y.1 : Int)),(17,vB true)]) (fun y : Nat × Option Addr × List Int => [(1,0,[vS s.p s.x.items.length,vS s.q s.x.floors.length]),(5,gg,[vI x23.e.inc,vI x23.e.rank,vI x23.e.beat,vI x23.e.ver,.string x23.e.data])]) (fun m (y : Nat × Option Addr × List Int) st' => m = 5 - y.1 ∧ y.1 ≤ 5 ∧ y.2.2 = b ++ numsB ((itL x23).take y.1) ∧ OwnR st' 1 fB y.2.1 y.2.2 ∧ New st.next y.2.1 ∧ OwnR st' 1 fI q40 (itL x23) ∧ Dis y.2.1 q40 ∧ Pres st st') (0,q,b) _ ⟨rfl,rfl,rfl,rfl,rfl,rfl,rfl,rfl,trivial⟩ ⟨rfl,rfl,trivial⟩ ⟨rfl,Nat.zero_le _,(List.append_nil _).symm,hP40.ownR hO,hN,hO40,Dis.of hO.old hN40,hP.trans hP40⟩ ?_
  rintro m ⟨k,r,c⟩ ρ0 ff gg2 st' ⟨rfl,hk5,hc,hOc,hNc,hO5,hd5,hPc⟩
  simp only at hk5 hc hOc hNc hd5
  have hcl : c.length ≤ 30 + 38 * s.x.items.length := by rw [hc,List.length_append]; have := numsB_len ((itL x23).take k); rw [List.length_take] at this; omega
  iterate 2 refine ⟨_,rfl,?_⟩
  rintro (_|_) h44
  ·replace h44 : ¬ ((k : Int) < ((itL x23).length : Int)) := of_decide_eq_false h44
   refine Cm gg2 st' [Ml 1 0,(2,Sn),(3,vS r c.length),(4,vI (i : Int)),Ml 5 gg,(6,vS q40 (itL x23).length),(7,vI (k : Int)),(17,vB true),(44,vB false)] [(1,0,cSV s),(5,gg,[vI x23.e.inc,vI x23.e.rank,vI x23.e.beat,vI x23.e.ver,.string x23.e.data])] fun _ _ => ?_
   have hc5 : c = b ++ numsB (itL x23) := by rw [hc,show k = 5 by omega]; rfl
   refine cxs ?_
   refine ⟨_,rfl,?_⟩
   refine ⟨_,Od rfl,?_⟩
   have hpt := putS_len x23.e.data
   refine ⟨_,rfl,(ac_spec_PutText x23.e.data st' (by first | assumption | omega)).mono ?_⟩
   rintro _ s57 ⟨q57,rfl,hO57,hN57,hP57⟩
   refine op_cat' (z := 1) (st := s57) (f := fB) (b := 1) (l := c) (l2 := putS x23.e.data) rfl rfl rfl rfl rfl rfl rfl (by decide) fB_len rfl rfl rfl rfl (by first | omega | (simp only [List.length_nil]; omega)) (by unfold maxLen; first | omega | (simp only [List.length_nil]; omega)) (hP57.ownR hOc) (hO57.rows fB_len) ?_
   intro q58 s58 hO58 hPr58 hN58
   refine Cm gg2 s58 [Ml 1 0,(2,Sn),(3,vS q58 (c ++ (putS x23.e.data)).length),(4,vI (i : Int)),Ml 5 gg,(6,vS q40 (itL x23).length),(7,vI (k : Int)),(17,vB true),(44,vB false)] [(1,0,cSV s),(5,gg,[vI x23.e.inc,vI x23.e.rank,vI x23.e.beat,vI x23.e.ver,.string x23.e.data])] fun _ _ => ?_
   have ew19 : IntKind.wrap .i64 ((i : Int) + (1)) = ((i + 1 : Nat) : Int) := (wrap_i64 (by omega) (by omega)).trans (by omega)
   refine ⟨_,rfl,?_⟩
   exact ⟨(i + 1,q58,c ++ putS x23.e.data),s.x.items.length - (i + 1),by omega,⟨rfl,rfl,rfl,congrArg (Value.int .i64) ew19,trivial⟩,⟨rfl,trivial⟩,rfl,by first | omega | (simp only; omega),by rw [show itsB (s.x.items.take (i + 1)) = itsB (s.x.items.take i) ++ itB x23 from fm_succ hy23,← List.append_assoc,← hv,hc5,List.append_assoc]; rfl,hO58,cat_new (hPc.trans hP57) hNc hN58,hPr58.pres (hPc.trans hP57) hNc⟩
  ·replace h44 : (k : Int) < ((itL x23).length : Int) := of_decide_eq_true h44
   refine Cm gg2 st' [Ml 1 0,(2,Sn),(3,vS r c.length),(4,vI (i : Int)),Ml 5 gg,(6,vS q40 (itL x23).length),(7,vI (k : Int)),(17,vB true),(44,vB true)] [(1,0,cSV s),(5,gg,[vI x23.e.inc,vI x23.e.rank,vI x23.e.beat,vI x23.e.ver,.string x23.e.data])] fun _ _ => ?_
   refine cxs ?_
   refine op_at k (hO5.rows fI_len) (by omega) rfl rfl rfl rfl rfl rfl rfl ?_
   intro x50 b50 d50 k50 hy50 hb50 hm50 hc50 ho50
   refine ⟨_,op_ldc (i := 0) rfl rfl rfl rfl hm50 hc50 rfl rfl,?_⟩
   have hpl := putN_len x50
   refine ⟨_,rfl,(ac_spec_PutNum x50 st').mono ?_⟩
   rintro _ s52 ⟨q52,rfl,hO52,hN52,hP52⟩
   refine op_cat' (z := 1) (st := s52) (f := fB) (b := 1) (l := c) (l2 := putN x50) rfl rfl rfl rfl rfl rfl rfl (by decide) fB_len rfl rfl rfl rfl (by first | omega | (simp only [List.length_nil]; omega)) (by unfold maxLen; first | omega | (simp only [List.length_nil]; omega)) (hP52.ownR hOc) (hO52.rows fB_len) ?_
   intro q53 s53 hO53 hPr53 hN53
   refine Cm gg2 s53 [Ml 1 0,(2,Sn),(3,vS q53 (c ++ (putN x50)).length),(4,vI (i : Int)),Ml 5 gg,(6,vS q40 (itL x23).length),(7,vI (k : Int)),(17,vB true),(44,vB true)] [(1,0,cSV s),(5,gg,[vI x23.e.inc,vI x23.e.rank,vI x23.e.beat,vI x23.e.ver,.string x23.e.data])] fun _ _ => ?_
   have ew46 : IntKind.wrap .i64 ((k : Int) + (1)) = ((k + 1 : Nat) : Int) := (wrap_i64 (by omega) (by omega)).trans (by omega)
   refine ⟨_,rfl,?_⟩
   exact ⟨(k + 1,q53,c ++ putN x50),5 - (k + 1),by omega,⟨rfl,rfl,rfl,rfl,rfl,rfl,congrArg (Value.int .i64) ew46,rfl,trivial⟩,⟨rfl,rfl,trivial⟩,rfl,by first | omega | (simp only; omega),by rw [numsB_succ hy50,← List.append_assoc,← hc],hO53,cat_new (hPc.trans hP52) hNc hN53,hPr53.ownR hd5 (hP52.ownR hO5),cat_dis hd5 (hP52.ownR hO5).old hN53,hPr53.pres (hPc.trans hP52) hNc⟩
theorem ac_impl_StateBytes (s : SV) (st : St) (hR : RdS st s) (hb : bigS s.x) (hk : stateOk s.x) : C 47 [.agg #[vS s.p s.x.items.length,vS s.q s.x.floors.length]] st (fun v s' => ∃ q,v = vS q (stB s.x).length ∧ OwnR s' 1 fB q (stB s.x) ∧ New st.next q ∧ Pres st s') := by
 have hs1 : s.x.items.length ≤ 1048576 := hb.1
 have hs2 : s.x.floors.length ≤ 1048576 := hb.2.1
 have hpl1 := putN_len (s.x.items.length : Int)
 have hpl2 := putN_len (s.x.floors.length : Int)
 refine AC.enterX (i := ⟨[1,5,6,8],[1,5,6,8,12,16,23,26,29,32,35,38,41,48,54,62,65],[0,1,2,3,5,6,8,11,17,18,19,20,55,56,57,58],[]⟩) [(8,[3,6,9,12,15],[5,8,11,14,17]),(14,[3],[5])] Try.func47 rfl rfl (by kernel_rfl) (by kernel_rfl) Try.ntmps47 (Lb rfl) rfl ?_
 refine ⟨_,rfl,?_⟩
 refine Cm 1 st [Ml 1 0,(2,Sn)] [(1,0,cSV s)] fun _ _ => ?_
 refine ⟨_,Od rfl,?_⟩
 refine ⟨_,rfl,(AC.tru (ac_impl_StateOk s st hR hb) hk).mono ?_⟩
 rintro _ st ⟨rfl,rfl⟩
 refine ⟨_,rfl,?_⟩
 refine Cm 1 st [Ml 1 0,(2,Sn),(11,vB false)] [(1,0,cSV s)] fun _ _ => ?_
 refine cxs ?_
 refine ⟨_,rfl,?_⟩
 refine ⟨_,Od rfl,?_⟩
 refine ⟨_,rfl,?_⟩
 refine ⟨_,rfl,(ac_impl_PutNum (s.x.items.length : Int) st).mono ?_⟩
 rintro _ s15 ⟨q15,rfl,hO15,hN15,hP15⟩
 refine Cm 1 s15 [Ml 1 0,(2,Sn),(3,vS q15 (putN (s.x.items.length : Int)).length)] [(1,0,cSV s)] fun _ _ => ?_
 refine ⟨_,rfl,?_⟩
 refine ⟨_,Od rfl,?_⟩
 refine ⟨_,rfl,?_⟩
 refine Cm 1 s15 [Ml 1 0,(2,Sn),(3,vS q15 (putN (s.x.items.length : Int)).length),(17,vS s.p s.x.items.length),(18,vI (s.x.items.length : Int)),(19,vI 0)] [(1,0,cSV s)] fun _ _ => ?_
 refine AW.loopM (fun x : Nat × Option Addr × List Int => [(1,vL 1 0 (0)),(2,.slice none 0 0),(3,vS x.2.1 x.2.2.length),(17,vS s.p s.x.items.length),(18,vI (s.x.items.length : Int)),(19,vI (x.1 : Int))]) (fun x : Nat × Option Addr × List Int => [(1,0,[vS s.p s.x.items.length,vS s.q s.x.floors.length])]) (fun m (x : Nat × Option Addr × List Int) st' => m = s.x.items.length - x.1 ∧ x.1 ≤ s.x.items.length ∧ x.2.2 = putN (s.x.items.length : Int) ++ itsB (s.x.items.take x.1) ∧ OwnR st' 1 fB x.2.1 x.2.2 ∧ New st.next x.2.1 ∧ Pres st st') (0,q15,putN (s.x.items.length : Int)) _ ⟨rfl,rfl,rfl,rfl,rfl,rfl,trivial⟩ ⟨rfl,trivial⟩ ⟨rfl,Nat.zero_le _,(List.append_nil _).symm,hO15,hN15,hP15⟩ ?_
 rintro m ⟨i,q,b⟩ ρ0 ff gg st' ⟨rfl,hi,hv,hO,hN,hP⟩
 simp only at hi hv hO hN
 have hbl : b.length ≤ 5 + 38 * s.x.items.length := by rw [hv,List.length_append]; have := its_len hk i; omega
 refine ⟨_,rfl,?_⟩
 rintro (_|_) h20
 ·replace h20 : ¬ ((i : Int) < (s.x.items.length : Int)) := of_decide_eq_false h20
  refine Cm gg st' [Ml 1 0,(2,Sn),(3,vS q b.length),(17,vS s.p s.x.items.length),(18,vI (s.x.items.length : Int)),(19,vI (i : Int)),(20,vB false)] [(1,0,cSV s)] fun _ _ => ?_
  have hv1 : b = putN (s.x.items.length : Int) ++ itsB s.x.items := by rw [hv,show i = s.x.items.length by omega,List.take_length]
  obtain ⟨s1,hs1'⟩ : ∃ s1,s1 = st' := ⟨_,rfl⟩
  subst hs1'
  refine cxs ?_
  refine ⟨_,rfl,?_⟩
  refine ⟨_,Od rfl,?_⟩
  refine ⟨_,rfl,?_⟩
  refine ⟨_,rfl,(ac_impl_PutNum (s.x.floors.length : Int) s1).mono ?_⟩
  rintro _ s51 ⟨q51,rfl,hO51,hN51,hP51⟩
  have hfm : fl [⟨q,b⟩,⟨q51,putN (s.x.floors.length : Int)⟩] = b ++ putN (s.x.floors.length : Int) := by simp [fl]
  refine op_litR [⟨q,b⟩,⟨q51,putN (s.x.floors.length : Int)⟩] rfl rfl rfl (by decide) rfl rfl rfl (by decide) ?_
  intro q52 s52 hO52 hP52 hN52
  refine ⟨_,rfl,(ac_impl_joined q52 [⟨q,b⟩,⟨q51,putN (s.x.floors.length : Int)⟩] s52 (hO52.rows cRV_len) (fun r hr => by
  simp only [List.mem_cons,List.not_mem_nil,or_false] at hr
  rcases hr with rfl | rfl
  ·exact (hP51.trans hP52).rows (hO.rows fB_len)
  ·exact hP52.rows (hO51.rows fB_len)) (by show (2 : Nat) ≤ 1048576; omega) (by rw [hfm,List.length_append]; omega)).mono ?_⟩
  rintro _ s53 ⟨q53,rfl,hO53,hN53,hP53⟩
  refine Cm gg s53 [Ml 1 0,(2,Sn),(3,vS q53 (fl [⟨q,b⟩,⟨q51,putN (s.x.floors.length : Int)⟩]).length)] [(1,0,cSV s)] fun _ _ => ?_
  have hN53' : New st.next q53 := hN53.le ((hP.trans hP51).trans hP52).1
  have hP53' := ((hP.trans hP51).trans hP52).trans hP53
  refine ⟨_,rfl,?_⟩
  refine ⟨_,Od rfl,?_⟩
  refine ⟨_,rfl,?_⟩
  refine Cm gg s53 [(2,Sn),(3,vS q53 (fl [⟨q,b⟩,⟨q51,putN (s.x.floors.length : Int)⟩]).length),(55,vS s.q s.x.floors.length),(56,vI (s.x.floors.length : Int)),(57,vI 0)] [] fun _ _ => ?_
  refine AW.loopM (fun z : Nat × Option Addr × List Int => [(2,.slice none 0 0),(3,vS z.2.1 z.2.2.length),(55,vS s.q s.x.floors.length),(56,vI (s.x.floors.length : Int)),(57,vI (z.1 : Int))]) (fun z : Nat × Option Addr × List Int => []) (fun m (z : Nat × Option Addr × List Int) st' => m = s.x.floors.length - z.1 ∧ z.1 ≤ s.x.floors.length ∧ z.2.2 = b ++ putN (s.x.floors.length : Int) ++ flsB (s.x.floors.take z.1) ∧ OwnR st' 1 fB z.2.1 z.2.2 ∧ New st.next z.2.1 ∧ Pres st st') (0,q53,fl [⟨q,b⟩,⟨q51,putN (s.x.floors.length : Int)⟩]) _ ⟨rfl,rfl,rfl,rfl,rfl,trivial⟩ trivial ⟨rfl,Nat.zero_le _,hfm.trans (List.append_nil _).symm,hO53,hN53',hP53'⟩ ?_
  rintro m ⟨j,r,f⟩ ρ0 ff gg st' ⟨rfl,hj,hw,hOf,hNf,hPf⟩
  simp only at hj hw hOf hNf
  have hfl : f.length ≤ 10 + 38 * s.x.items.length + 10 * s.x.floors.length := by rw [hw,List.length_append,List.length_append]; have := fls_len s.x.floors j; omega
  refine ⟨_,rfl,?_⟩
  rintro (_|_) h58
  ·replace h58 : ¬ ((j : Int) < (s.x.floors.length : Int)) := of_decide_eq_false h58
   refine Cm gg st' [(2,Sn),(3,vS r f.length),(55,vS s.q s.x.floors.length),(56,vI (s.x.floors.length : Int)),(57,vI (j : Int)),(58,vB false)] [] fun _ _ => ?_
   have hw1 : f = stB s.x := by rw [hw,show j = s.x.floors.length by omega,List.take_length,hv1]; rfl
   refine cxs ?_
   refine cxs ?_
   refine ⟨.inl rfl,_,rfl,r,?_⟩
   rw [← hw1]
   exact ⟨rfl,hOf,hNf,hPf⟩
  ·replace h58 : (j : Int) < (s.x.floors.length : Int) := of_decide_eq_true h58
   refine Cm gg st' [(2,Sn),(3,vS r f.length),(55,vS s.q s.x.floors.length),(56,vI (s.x.floors.length : Int)),(57,vI (j : Int)),(58,vB true)] [] fun _ _ => ?_
   refine cxs ?_
   refine op_at j (hPf.rows hR.2) (by omega) rfl rfl rfl rfl rfl rfl rfl ?_
   intro x59 b59 d59 k59 hy59 hb59 hm59 hc59 ho59
   refine ⟨_,op_lda rfl rfl rfl rfl rfl hm59 hc59 rfl,?_⟩
   refine ⟨_,rfl,?_⟩
   refine ⟨_,Os rfl,?_⟩
   refine Cm (gg + 1) st' [(2,Sn),(3,vS r f.length),Ml 8 gg,(55,vS s.q s.x.floors.length),(56,vI (s.x.floors.length : Int)),(57,vI (j : Int)),(58,vB true)] [(8,gg,[vI x59.id,vI x59.inc])] fun _ _ => ?_
   refine ⟨_,rfl,?_⟩
   refine ⟨_,Od rfl,?_⟩
   refine ⟨_,rfl,(ac_impl_PutNum x59.id st').mono ?_⟩
   rintro _ s64 ⟨q64,rfl,hO64,hN64,hP64⟩
   refine ⟨hP64.2,?_⟩
   refine ⟨_,rfl,?_⟩
   refine ⟨_,Od rfl,?_⟩
   refine ⟨ld_own rfl rfl rfl,?_⟩
   refine ⟨_,rfl,(ac_impl_PutNum x59.inc s64).mono ?_⟩
   rintro _ s67 ⟨q67,rfl,hO67,hN67,hP67⟩
   have hpa := putN_len x59.id
   have hpb := putN_len x59.inc
   have g64 := hP64.trans hP67
   have hfn : fl [⟨r,f⟩,⟨q64,putN x59.id⟩,⟨q67,putN x59.inc⟩] = f ++ flB x59 := by simp [fl,flB]
   have hil := flB_len x59
   refine op_litR [⟨r,f⟩,⟨q64,putN x59.id⟩,⟨q67,putN x59.inc⟩] rfl rfl rfl (by decide) rfl rfl rfl (by decide) ?_
   intro q68 s68 hO68 hP68 hN68
   refine ⟨_,rfl,(ac_impl_joined q68 [⟨r,f⟩,⟨q64,putN x59.id⟩,⟨q67,putN x59.inc⟩] s68 (hO68.rows cRV_len) (fun r hr => by
  simp only [List.mem_cons,List.not_mem_nil,or_false] at hr
  rcases hr with rfl | rfl | rfl
  ·exact (g64.trans hP68).rows (hOf.rows fB_len)
  ·exact (hP67.trans hP68).rows (hO64.rows fB_len)
  ·exact hP68.rows (hO67.rows fB_len)) (by show (3 : Nat) ≤ 1048576; omega) (by rw [hfn,List.length_append]; omega)).mono ?_⟩
   rintro _ s69 ⟨q69,rfl,hO69,hN69,hP69⟩
   refine Cm (gg + 1) s69 [(2,Sn),(3,vS q69 (fl [⟨r,f⟩,⟨q64,putN x59.id⟩,⟨q67,putN x59.inc⟩]).length),Ml 8 gg,(55,vS s.q s.x.floors.length),(56,vI (s.x.floors.length : Int)),(57,vI (j : Int)),(58,vB true)] [(8,gg,[vI x59.id,vI x59.inc])] fun _ _ => ?_
   have ew70 : IntKind.wrap .i64 ((j : Int) + (1)) = ((j + 1 : Nat) : Int) := (wrap_i64 (by omega) (by omega)).trans (by omega)
   refine ⟨_,rfl,?_⟩
   exact ⟨(j + 1,q69,fl [⟨r,f⟩,⟨q64,putN x59.id⟩,⟨q67,putN x59.inc⟩]),s.x.floors.length - (j + 1),by omega,⟨rfl,rfl,rfl,rfl,congrArg (Value.int .i64) ew70,trivial⟩,trivial,rfl,by first | omega | (simp only; omega),by rw [show flsB (s.x.floors.take (j + 1)) = flsB (s.x.floors.take j) ++ flB x59 from fm_succ hy59,← List.append_assoc,← hw]; exact hfn,hO69,hN69.le ((hPf.trans g64).trans hP68).1,((hPf.trans g64).trans hP68).trans hP69⟩
 ·replace h20 : (i : Int) < (s.x.items.length : Int) := of_decide_eq_true h20
  refine Cm gg st' [Ml 1 0,(2,Sn),(3,vS q b.length),(17,vS s.p s.x.items.length),(18,vI (s.x.items.length : Int)),(19,vI (i : Int)),(20,vB true)] [(1,0,cSV s)] fun _ _ => ?_
  obtain ⟨s1,hs1'⟩ : ∃ s1,s1 = st' := ⟨_,rfl⟩
  subst hs1'
  refine cxs ?_
  refine op_at i (hP.rows hR.1) (by omega) rfl rfl rfl rfl rfl rfl rfl ?_
  intro x21 b21 d21 k21 hy21 hb21 hm21 hc21 ho21
  refine ⟨_,op_lda rfl rfl rfl rfl rfl hm21 hc21 rfl,?_⟩
  refine ⟨_,rfl,?_⟩
  refine ⟨_,Os rfl,?_⟩
  refine Cm (gg + 1) s1 [Ml 1 0,(2,Sn),(3,vS q b.length),Ml 5 gg,(17,vS s.p s.x.items.length),(18,vI (s.x.items.length : Int)),(19,vI (i : Int)),(20,vB true)] [(1,0,cSV s),(5,gg,[vI x21.id,vI x21.e.inc,vI x21.e.rank,vI x21.e.beat,vI x21.e.ver,.string x21.e.data])] fun _ _ => ?_
  refine ⟨_,rfl,?_⟩
  refine ⟨_,Od rfl,?_⟩
  refine ⟨_,rfl,?_⟩
  refine ⟨_,Os rfl,?_⟩
  refine Cm (gg + 2) s1 [Ml 1 0,(2,Sn),(3,vS q b.length),Ml 5 gg,(6,vL 6 0 (gg + 1)),(17,vS s.p s.x.items.length),(18,vI (s.x.items.length : Int)),(19,vI (i : Int)),(20,vB true)] [(1,0,cSV s),(5,gg,[vI x21.id,vI x21.e.inc,vI x21.e.rank,vI x21.e.beat,vI x21.e.ver,.string x21.e.data]),(6,gg + 1,[vI x21.e.inc,vI x21.e.rank,vI x21.e.beat,vI x21.e.ver,.string x21.e.data])] fun _ _ => ?_
  have hdz : x21.e.data.size ≤ 8 := okSize hk (List.mem_of_getElem? hy21)
  refine ⟨_,rfl,?_⟩
  refine ⟨_,Od rfl,?_⟩
  refine ⟨_,rfl,(ac_impl_PutNum x21.id s1).mono ?_⟩
  rintro _ s28 ⟨q28,rfl,hO28,hN28,hP28⟩
  refine ⟨hP28.2,?_⟩
  refine ⟨_,rfl,?_⟩
  refine ⟨_,Od rfl,?_⟩
  refine ⟨ld_own rfl rfl rfl,?_⟩
  refine ⟨_,rfl,(ac_impl_PutNum x21.e.inc s28).mono ?_⟩
  rintro _ s31 ⟨q31,rfl,hO31,hN31,hP31⟩
  refine ⟨hP31.low hP28,?_⟩
  refine ⟨_,rfl,?_⟩
  refine ⟨_,Od rfl,?_⟩
  refine ⟨ld_own rfl rfl rfl,?_⟩
  refine ⟨_,rfl,(ac_impl_PutNum x21.e.rank s31).mono ?_⟩
  rintro _ s34 ⟨q34,rfl,hO34,hN34,hP34⟩
  refine ⟨hP34.low (hP28.trans hP31),?_⟩
  refine ⟨_,rfl,?_⟩
  refine ⟨_,Od rfl,?_⟩
  refine ⟨ld_own rfl rfl rfl,?_⟩
  refine ⟨_,rfl,(ac_impl_PutNum x21.e.beat s34).mono ?_⟩
  rintro _ s37 ⟨q37,rfl,hO37,hN37,hP37⟩
  refine ⟨hP37.low ((hP28.trans hP31).trans hP34),?_⟩
  refine ⟨_,rfl,?_⟩
  refine ⟨_,Od rfl,?_⟩
  refine ⟨ld_own rfl rfl rfl,?_⟩
  refine ⟨_,rfl,(ac_impl_PutNum x21.e.ver s37).mono ?_⟩
  rintro _ s40 ⟨q40,rfl,hO40,hN40,hP40⟩
  refine ⟨hP40.low (((hP28.trans hP31).trans hP34).trans hP37),?_⟩
  refine ⟨_,rfl,?_⟩
  refine ⟨_,Od rfl,?_⟩
  refine ⟨ld_own rfl rfl rfl,?_⟩
  refine ⟨_,rfl,(ac_impl_PutText x21.e.data s40 (by first | assumption | omega)).mono ?_⟩
  rintro _ s43 ⟨q43,rfl,hO43,hN43,hP43⟩
  have g43 := hP43
  have g40 := hP40.trans g43
  have g37 := hP37.trans g40
  have g34 := hP34.trans g37
  have g31 := hP31.trans g34
  have g28 := hP28.trans g31
  have hfl : fl [⟨q,b⟩,⟨q28,putN x21.id⟩,⟨q31,putN x21.e.inc⟩,⟨q34,putN x21.e.rank⟩,⟨q37,putN x21.e.beat⟩,⟨q40,putN x21.e.ver⟩,⟨q43,putS x21.e.data⟩] = b ++ itB x21 := by simp [fl,itB,numsB,itL]
  have hil := itB_len hdz
  refine op_litR [⟨q,b⟩,⟨q28,putN x21.id⟩,⟨q31,putN x21.e.inc⟩,⟨q34,putN x21.e.rank⟩,⟨q37,putN x21.e.beat⟩,⟨q40,putN x21.e.ver⟩,⟨q43,putS x21.e.data⟩] rfl rfl rfl (by decide) rfl rfl rfl (by decide) ?_
  intro q44 s44 hO44 hP44 hN44
  refine ⟨_,rfl,(ac_impl_joined q44 [⟨q,b⟩,⟨q28,putN x21.id⟩,⟨q31,putN x21.e.inc⟩,⟨q34,putN x21.e.rank⟩,⟨q37,putN x21.e.beat⟩,⟨q40,putN x21.e.ver⟩,⟨q43,putS x21.e.data⟩] s44 (hO44.rows cRV_len) (fun r hr => by
  simp only [List.mem_cons,List.not_mem_nil,or_false] at hr
  rcases hr with rfl | rfl | rfl | rfl | rfl | rfl | rfl
  ·exact (g28.trans hP44).rows (hO.rows fB_len)
  ·exact (g31.trans hP44).rows (hO28.rows fB_len)
  ·exact (g34.trans hP44).rows (hO31.rows fB_len)
  ·exact (g37.trans hP44).rows (hO34.rows fB_len)
  ·exact (g40.trans hP44).rows (hO37.rows fB_len)
  ·exact (g43.trans hP44).rows (hO40.rows fB_len)
  ·exact hP44.rows (hO43.rows fB_len)) (by show (7 : Nat) ≤ 1048576; omega) (by rw [hfl,List.length_append]; omega)).mono ?_⟩
  rintro _ s45 ⟨q45,rfl,hO45,hN45,hP45⟩
  refine Cm (gg + 2) s45 [Ml 1 0,(2,Sn),(3,vS q45 (fl [⟨q,b⟩,⟨q28,putN x21.id⟩,⟨q31,putN x21.e.inc⟩,⟨q34,putN x21.e.rank⟩,⟨q37,putN x21.e.beat⟩,⟨q40,putN x21.e.ver⟩,⟨q43,putS x21.e.data⟩]).length),Ml 5 gg,(6,vL 6 0 (gg + 1)),(17,vS s.p s.x.items.length),(18,vI (s.x.items.length : Int)),(19,vI (i : Int)),(20,vB true)] [(1,0,cSV s),(5,gg,[vI x21.id,vI x21.e.inc,vI x21.e.rank,vI x21.e.beat,vI x21.e.ver,.string x21.e.data]),(6,gg + 1,[vI x21.e.inc,vI x21.e.rank,vI x21.e.beat,vI x21.e.ver,.string x21.e.data])] fun _ _ => ?_
  have ew46 : IntKind.wrap .i64 ((i : Int) + (1)) = ((i + 1 : Nat) : Int) := (wrap_i64 (by omega) (by omega)).trans (by omega)
  refine ⟨_,rfl,?_⟩
  exact ⟨(i + 1,q45,fl [⟨q,b⟩,⟨q28,putN x21.id⟩,⟨q31,putN x21.e.inc⟩,⟨q34,putN x21.e.rank⟩,⟨q37,putN x21.e.beat⟩,⟨q40,putN x21.e.ver⟩,⟨q43,putS x21.e.data⟩]),s.x.items.length - (i + 1),by omega,⟨rfl,rfl,rfl,rfl,rfl,congrArg (Value.int .i64) ew46,trivial⟩,⟨rfl,trivial⟩,rfl,by first | omega | (simp only; omega),by rw [show itsB (s.x.items.take (i + 1)) = itsB (s.x.items.take i) ++ itB x21 from fm_succ hy21,← List.append_assoc,← hv]; exact hfl,hO45,hN45.le ((hP.trans g28).trans hP44).1,((hP.trans g28).trans hP44).trans hP45⟩
def numsOk (l : List Int) (most top : Int) : Prop := (l.length : Int) ≤ most ∧ ∀ (j : Nat) x,l[j]? = some x → 0 ≤ x ∧ x ≤ top
def trOk (t : Tr) : Prop := if t.leaves.length = 0 then t.root = 0 else t.leaves.length = 4 ∧ (∀ (j : Nat) x,t.leaves[j]? = some x → 0 ≤ x ∧ x ≤ 1023) ∧ (0 ≤ t.root ∧ t.root ≤ 1023)
def incOk (l : List Int) : Prop := ∀ (j : Nat) x,l[j]? = some x → (0 ≤ x ∧ x ≤ 3) ∧ ∀ y,0 < j → l[j - 1]? = some y → y < x
def msgOk (m : Mg) : Prop := ((0 ≤ m.kind ∧ m.kind ≤ 5) ∧ (0 ≤ m.frm ∧ m.frm ≤ 4) ∧ (0 ≤ m.to ∧ m.to ≤ 4) ∧ ¬ m.frm = m.to) ∧ ((0 ≤ m.num ∧ m.num ≤ 100000) ∧ (0 ≤ m.hi ∧ m.hi ≤ 100000)) ∧ trOk m.tree ∧ numsOk m.vec 5 100000 ∧ incOk m.leaves ∧ stateOk m.part ∧ marksOk m.marks
theorem inc_ge {l : List Int} (h : incOk l) : ∀ (j : Nat) x,l[j]? = some x → (j : Int) ≤ x := by
 intro j
 induction j with
 | zero => intro x hx; have := (h 0 x hx).1.1; omega
 | succ j ih =>
  intro x hx
  have hj := (List.getElem?_eq_some_iff.1 hx).1
  have hy : l[j]? = some l[j] := List.getElem?_eq_getElem (by omega)
  have h1 := ih _ hy
  have h2 := (h (j + 1) x hx).2 l[j] (by omega) hy
  omega
theorem inc_len {l : List Int} (h : incOk l) : l.length ≤ 4 := by
 rcases Nat.lt_or_ge 4 l.length with h1 | h1
 ·have hx : l[4]? = some l[4] := List.getElem?_eq_getElem h1
  have h2 := inc_ge h 4 _ hx
  have h3 := (h 4 _ hx).1.2
  omega
 ·exact h1
theorem inc_nums {l : List Int} (h : incOk l) : numsOk l 4 3 := ⟨by have := inc_len h; omega,fun j x hx => (h j x hx).1⟩
theorem ac_spec_l10Nums (p : Option Addr) (l : List Int) (most top : Int) (st : St) (hR : Rows st 1 fI p l) (hs : szOk l.length) : C 122 [vS p l.length,vI most,vI top] st (fun v s => ∃ x,v = .bool x ∧ (x = true ↔ numsOk l most top) ∧ s = st) := by
 have hs : l.length ≤ 1048576 := hs
 refine AC.enterX (i := ⟨[],[],[0,1,2,6,7,11,15,24],[]⟩) [] Try.func122 rfl rfl (by kernel_rfl) (by kernel_rfl) Try.ntmps122 (Lb rfl) rfl ?_
 refine Cu lo0 st [(0,vS p l.length),(1,vI most),(2,vI top),(6,vB false)] fun _ => ?_
 iterate 2 refine ⟨_,rfl,?_⟩
 rintro (_|_) h11
 ·replace h11 : ¬ ((l.length : Int) > most) := of_decide_eq_false h11
  refine Cu lo0 st [(0,vS p l.length),(2,vI top),(6,vB false),(11,vB false)] fun _ => ?_
  refine cxs ?_
  refine Cu lo0 st [(0,vS p l.length),(2,vI top),(6,vB false),(7,vI 0)] fun _ => ?_
  refine AW.loop0 (fun i : Nat => [(0,vS p l.length),(2,vI top),(7,vI (i : Int))]) (fun m (i : Nat) st' => m = l.length - i ∧ i ≤ l.length ∧ (∀ (j : Nat) x,j < i → l[j]? = some x → 0 ≤ x ∧ x ≤ top) ∧ st = st') 0 _ ⟨rfl,rfl,rfl,trivial⟩ rfl ⟨rfl,Nat.zero_le _,fun j x h => absurd h (Nat.not_lt_zero _),rfl⟩ ?_
  rintro m i ρ0 st' ⟨rfl,hi,hok,rfl⟩
  iterate 2 refine ⟨_,rfl,?_⟩
  rintro (_|_) h15
  ·replace h15 : ¬ ((i : Int) < (l.length : Int)) := of_decide_eq_false h15
   refine Cu lo0 st [(0,vS p l.length),(2,vI top),(7,vI (i : Int)),(15,vB false)] fun _ => ?_
   refine cxs ?_
   exact cxs (Rt ⟨true,rfl,⟨fun _ => ⟨by omega,fun j x hx => hok j x (by have := (List.getElem?_eq_some_iff.1 hx).1; omega) hx⟩,fun _ => rfl⟩,rfl⟩)
  ·replace h15 : (i : Int) < (l.length : Int) := of_decide_eq_true h15
   refine Cu lo0 st [(0,vS p l.length),(2,vI top),(7,vI (i : Int)),(15,vB true)] fun _ => ?_
   refine cxs ?_
   refine op_at i hR (by omega) rfl rfl rfl rfl rfl rfl rfl ?_
   intro x20 b20 d20 k20 hy20 hb20 hm20 hc20 ho20
   refine ⟨_,op_ldc (i := 0) rfl rfl rfl rfl hm20 hc20 rfl rfl,?_⟩
   refine ⟨_,rfl,(ac_spec_l1In x20 0 top st).mono ?_⟩
   rintro _ st ⟨x23,rfl,h23,rfl⟩
   rcases x23 with _|_
   ·replace h23 := of_decide_eq_false h23.symm
    refine ⟨_,rfl,?_⟩
    refine Cu lo0 st [(0,vS p l.length),(2,vI top),(7,vI (i : Int)),(15,vB true),(24,vB true)] fun _ => ?_
    exact cxs (Rt ⟨false,rfl,⟨fun h => absurd h Bool.false_ne_true,fun h => (show False from (absurd (h.2 i x20 hy20) h23)).elim⟩,rfl⟩)
   ·replace h23 := of_decide_eq_true h23.symm
    refine ⟨_,rfl,?_⟩
    refine Cu lo0 st [(0,vS p l.length),(2,vI top),(7,vI (i : Int)),(15,vB true),(24,vB false)] fun _ => ?_
    refine cxs ?_
    have ew17 : IntKind.wrap .i64 ((i : Int) + (1)) = ((i + 1 : Nat) : Int) := (wrap_i64 (by omega) (by omega)).trans (by omega)
    refine ⟨_,rfl,?_⟩
    refine ⟨i + 1,l.length - (i + 1),by omega,⟨rfl,rfl,congrArg (Value.int .i64) ew17,trivial⟩,rfl,rfl,by omega,fun j x hj hx => ?_,rfl⟩
    rcases Nat.lt_or_ge j i with h | h
    ·exact hok j x h hx
    ·obtain rfl : j = i := by omega
     rw [hy20] at hx; injection hx with hx; rw [← hx]; exact h23
 ·replace h11 : (l.length : Int) > most := of_decide_eq_true h11
  refine Cu lo0 st [(0,vS p l.length),(2,vI top),(6,vB false),(11,vB true)] fun _ => ?_
  exact cxs (Rt ⟨false,rfl,⟨fun h => absurd h Bool.false_ne_true,fun h => (show False from (absurd h.1 (by omega))).elim⟩,rfl⟩)
theorem ac_spec_l10Tree (t : TV) (st : St) (hR : Rows st 1 fI t.p t.l) (hs : szOk t.l.length) : C 121 [.agg #[vS t.p t.l.length,vI t.root]] st (fun v s => ∃ x,v = .bool x ∧ (x = true ↔ trOk t.x) ∧ s = st) := by
 refine AC.enterX (i := ⟨[1],[1,3,7,10,15,20],[0,1,2,6],[]⟩) [] Try.func121 rfl rfl (by kernel_rfl) (by kernel_rfl) Try.ntmps121 (Lb rfl) rfl ?_
 refine ⟨_,rfl,?_⟩
 refine Cm 1 st [Ml 1 0,(2,vB false)] [(1,0,[vS t.p t.l.length,vI t.root])] fun _ _ => ?_
 refine ⟨_,rfl,?_⟩
 refine ⟨_,Od rfl,?_⟩
 iterate 2 refine ⟨_,rfl,?_⟩
 rintro (_|_) h6
 ·replace h6 : ¬ ((t.l.length : Int) = (0)) := beq_eq_false_iff_ne.1 h6
  refine Cm 1 st [Ml 1 0,(2,vB false),(6,vB false)] [(1,0,[vS t.p t.l.length,vI t.root])] fun _ _ => ?_
  have h0 : ¬ t.l.length = 0 := by omega
  refine cxs ?_
  refine ⟨_,rfl,?_⟩
  refine ⟨_,Od rfl,?_⟩
  iterate 2 refine ⟨_,rfl,?_⟩
  rintro (_|_) h13
  ·replace h13 : ¬ ((t.l.length : Int) = (4)) := beq_eq_false_iff_ne.1 h13
   iterate 2 refine ⟨_,rfl,?_⟩
   exact cxs (Rt ⟨false,rfl,⟨fun h => absurd h Bool.false_ne_true,fun h => (show False from (by rw [trOk,if_neg h0] at h; have h1 : t.l.length = 4 := h.1; omega)).elim⟩,rfl⟩)
  ·replace h13 : (t.l.length : Int) = (4) := beq_iff_eq.1 h13
   refine ⟨_,rfl,?_⟩
   refine ⟨_,Od rfl,?_⟩
   refine ⟨_,rfl,(ac_spec_l10Nums t.p t.l 4 1023 st hR (by first | assumption | omega)).mono ?_⟩
   rintro _ st ⟨x17,rfl,h17,rfl⟩
   rcases x17 with _|_
   ·replace h17 := fun k => Bool.false_ne_true (h17.2 k)
    iterate 2 refine ⟨_,rfl,?_⟩
    exact cxs (Rt ⟨false,rfl,⟨fun h => absurd h Bool.false_ne_true,fun h => (show False from (by rw [trOk,if_neg h0] at h; exact h17 ⟨by have h1 : t.l.length = 4 := h.1; omega,h.2.1⟩)).elim⟩,rfl⟩)
   ·replace h17 := h17.1 rfl
    iterate 2 refine ⟨_,rfl,?_⟩
    refine ⟨_,Od rfl,?_⟩
    refine ⟨_,rfl,(ac_spec_l1In t.root 0 1023 st).mono ?_⟩
    rintro _ st ⟨x22,rfl,h22,rfl⟩
    rcases x22 with _|_
    ·replace h22 := of_decide_eq_false h22.symm
     refine ⟨_,rfl,?_⟩
     exact cxs (Rt ⟨false,rfl,⟨fun h => absurd h Bool.false_ne_true,fun h => (show False from (by rw [trOk,if_neg h0] at h; exact h22 h.2.2)).elim⟩,rfl⟩)
    ·replace h22 := of_decide_eq_true h22.symm
     refine ⟨_,rfl,?_⟩
     exact cxs (Rt ⟨true,rfl,⟨fun _ => by rw [trOk,if_neg h0]; exact ⟨by show t.l.length = 4; omega,h17.2,h22⟩,fun _ => rfl⟩,rfl⟩)
 ·replace h6 : (t.l.length : Int) = (0) := beq_iff_eq.1 h6
  refine Cm 1 st [Ml 1 0,(2,vB false),(6,vB true)] [(1,0,[vS t.p t.l.length,vI t.root])] fun _ _ => ?_
  have h0 : t.l.length = 0 := by omega
  refine ⟨_,rfl,?_⟩
  refine ⟨_,Od rfl,?_⟩
  refine ⟨_,rfl,?_⟩
  rintro (_|_) h9
  ·replace h9 : ¬ (t.root = (0)) := beq_eq_false_iff_ne.1 h9
   exact cxs (Rt ⟨false,rfl,⟨fun h => absurd h Bool.false_ne_true,fun h => (show False from (by rw [trOk,if_pos h0] at h; exact h9 h)).elim⟩,rfl⟩)
  ·replace h9 : t.root = (0) := beq_iff_eq.1 h9
   exact cxs (Rt ⟨true,rfl,⟨fun _ => by rw [trOk,if_pos h0]; exact h9,fun _ => rfl⟩,rfl⟩)
theorem ac_impl_treeOk (t : TV) (st : St) (hR : Rows st 1 fI t.p t.l) (hs : szOk t.l.length) : C 147 [.agg #[vS t.p t.l.length,vI t.root]] st (fun v s => ∃ x,v = .bool x ∧ (x = true ↔ trOk t.x) ∧ s = st) := by
 have hs : t.l.length ≤ 1048576 := hs
 refine AC.enterX (i := ⟨[1],[1,5,9,12,23,28],[0,1,2,4,8,13,14,15,16,21],[]⟩) [] Try.func147 rfl rfl (by kernel_rfl) (by kernel_rfl) Try.ntmps147 (Lb rfl) rfl ?_
 refine ⟨_,rfl,?_⟩
 refine Cm 1 st [Ml 1 0,(2,vB false)] [(1,0,[vS t.p t.l.length,vI t.root])] fun _ _ => ?_
 refine ⟨_,rfl,?_⟩
 refine ⟨_,Od rfl,?_⟩
 iterate 2 refine ⟨_,rfl,?_⟩
 rintro (_|_) h8
 ·replace h8 : ¬ ((t.l.length : Int) = (0)) := beq_eq_false_iff_ne.1 h8
  refine Cm 1 st [Ml 1 0,(2,vB false),(8,vB false)] [(1,0,[vS t.p t.l.length,vI t.root])] fun _ _ => ?_
  have h0 : ¬ t.l.length = 0 := by omega
  refine cxs ?_
  refine ⟨_,rfl,?_⟩
  refine ⟨_,Od rfl,?_⟩
  refine ⟨_,rfl,?_⟩
  refine Cm 1 st [Ml 1 0,(2,vB false),(13,vS t.p t.l.length),(14,vI (t.l.length : Int)),(15,vI 0)] [(1,0,[vS t.p t.l.length,vI t.root])] fun _ _ => ?_
  refine AW.loopM (fun i : Nat => [(1,vL 1 0 (0)),(13,vS t.p t.l.length),(14,vI (t.l.length : Int)),(15,vI (i : Int))]) (fun i : Nat => [(1,0,[vS t.p t.l.length,vI t.root])]) (fun m (i : Nat) st' => m = t.l.length - i ∧ i ≤ t.l.length ∧ (∀ (j : Nat) x,j < i → t.l[j]? = some x → 0 ≤ x ∧ x ≤ 1023) ∧ st = st') 0 _ ⟨rfl,rfl,rfl,rfl,trivial⟩ ⟨rfl,trivial⟩ ⟨rfl,Nat.zero_le _,fun j x h => absurd h (Nat.not_lt_zero _),rfl⟩ ?_
  rintro m i ρ0 ff gg st' ⟨rfl,hi,hok,rfl⟩
  refine ⟨_,rfl,?_⟩
  rintro (_|_) h16
  ·replace h16 : ¬ ((i : Int) < (t.l.length : Int)) := of_decide_eq_false h16
   refine Cm gg st [Ml 1 0,(13,vS t.p t.l.length),(14,vI (t.l.length : Int)),(15,vI (i : Int)),(16,vB false)] [(1,0,[vS t.p t.l.length,vI t.root])] fun _ _ => ?_
   refine cxs ?_
   refine ⟨_,rfl,?_⟩
   refine ⟨_,Od rfl,?_⟩
   iterate 2 refine ⟨_,rfl,?_⟩
   rintro (_|_) h26
   ·replace h26 : ¬ ((t.l.length : Int) = (4)) := beq_eq_false_iff_ne.1 h26
    refine ⟨_,rfl,?_⟩
    exact cxs (Rt ⟨false,rfl,⟨fun h => absurd h Bool.false_ne_true,fun h => (show False from (by rw [trOk,if_neg h0] at h; have h1 : t.l.length = 4 := h.1; omega)).elim⟩,rfl⟩)
   ·replace h26 : (t.l.length : Int) = (4) := beq_iff_eq.1 h26
    refine ⟨_,rfl,?_⟩
    refine ⟨_,Od rfl,?_⟩
    refine ⟨_,rfl,(ac_impl_within t.root 0 1023 st).mono ?_⟩
    rintro _ st ⟨x30,rfl,h30,rfl⟩
    rcases x30 with _|_
    ·replace h30 := of_decide_eq_false h30.symm
     refine ⟨_,rfl,?_⟩
     exact cxs (Rt ⟨false,rfl,⟨fun h => absurd h Bool.false_ne_true,fun h => (show False from (by rw [trOk,if_neg h0] at h; exact h30 h.2.2)).elim⟩,rfl⟩)
    ·replace h30 := of_decide_eq_true h30.symm
     refine ⟨_,rfl,?_⟩
     exact cxs (Rt ⟨true,rfl,⟨fun _ => by rw [trOk,if_neg h0]; exact ⟨by show t.l.length = 4; omega,fun j x hx => hok j x (by have := (List.getElem?_eq_some_iff.1 hx).1; simp only [TV.x] at this; omega) hx,h30⟩,fun _ => rfl⟩,rfl⟩)
  ·replace h16 : (i : Int) < (t.l.length : Int) := of_decide_eq_true h16
   refine Cm gg st [Ml 1 0,(13,vS t.p t.l.length),(14,vI (t.l.length : Int)),(15,vI (i : Int)),(16,vB true)] [(1,0,[vS t.p t.l.length,vI t.root])] fun _ _ => ?_
   refine cxs ?_
   refine op_at i hR (by omega) rfl rfl rfl rfl rfl rfl rfl ?_
   intro x17 b17 d17 k17 hy17 hb17 hm17 hc17 ho17
   refine ⟨_,op_ldc (i := 0) rfl rfl rfl rfl hm17 hc17 rfl rfl,?_⟩
   refine Cm gg st [Ml 1 0,(4,vI x17),(13,vS t.p t.l.length),(14,vI (t.l.length : Int)),(15,vI (i : Int)),(16,vB true)] [(1,0,[vS t.p t.l.length,vI t.root])] fun _ _ => ?_
   refine ⟨_,rfl,(ac_impl_within x17 0 1023 st).mono ?_⟩
   rintro _ st ⟨x20,rfl,h20,rfl⟩
   rcases x20 with _|_
   ·replace h20 := of_decide_eq_false h20.symm
    refine ⟨_,rfl,?_⟩
    refine Cm gg st [Ml 1 0,(4,vI x17),(13,vS t.p t.l.length),(14,vI (t.l.length : Int)),(15,vI (i : Int)),(16,vB true),(21,vB true)] [(1,0,[vS t.p t.l.length,vI t.root])] fun _ _ => ?_
    exact cxs (Rt ⟨false,rfl,⟨fun h => absurd h Bool.false_ne_true,fun h => (show False from (by rw [trOk,if_neg h0] at h; exact h20 (h.2.1 i x17 hy17))).elim⟩,rfl⟩)
   ·replace h20 := of_decide_eq_true h20.symm
    refine ⟨_,rfl,?_⟩
    refine Cm gg st [Ml 1 0,(4,vI x17),(13,vS t.p t.l.length),(14,vI (t.l.length : Int)),(15,vI (i : Int)),(16,vB true),(21,vB false)] [(1,0,[vS t.p t.l.length,vI t.root])] fun _ _ => ?_
    refine cxs ?_
    have ew22 : IntKind.wrap .i64 ((i : Int) + (1)) = ((i + 1 : Nat) : Int) := (wrap_i64 (by omega) (by omega)).trans (by omega)
    refine ⟨_,rfl,?_⟩
    refine ⟨i + 1,t.l.length - (i + 1),by omega,⟨rfl,rfl,rfl,congrArg (Value.int .i64) ew22,trivial⟩,⟨rfl,trivial⟩,rfl,by omega,fun j x hj hx => ?_,rfl⟩
    rcases Nat.lt_or_ge j i with h | h
    ·exact hok j x h hx
    ·obtain rfl : j = i := by omega
     rw [hy17] at hx; injection hx with hx; rw [← hx]; exact h20
 ·replace h8 : (t.l.length : Int) = (0) := beq_iff_eq.1 h8
  refine Cm 1 st [Ml 1 0,(2,vB false),(8,vB true)] [(1,0,[vS t.p t.l.length,vI t.root])] fun _ _ => ?_
  have h0 : t.l.length = 0 := by omega
  refine ⟨_,rfl,?_⟩
  refine ⟨_,Od rfl,?_⟩
  refine ⟨_,rfl,?_⟩
  rintro (_|_) h11
  ·replace h11 : ¬ (t.root = (0)) := beq_eq_false_iff_ne.1 h11
   exact cxs (Rt ⟨false,rfl,⟨fun h => absurd h Bool.false_ne_true,fun h => (show False from (by rw [trOk,if_pos h0] at h; exact h11 h)).elim⟩,rfl⟩)
  ·replace h11 : t.root = (0) := beq_iff_eq.1 h11
   exact cxs (Rt ⟨true,rfl,⟨fun _ => by rw [trOk,if_pos h0]; exact h11,fun _ => rfl⟩,rfl⟩)
theorem ac_impl_MsgOk (g : MV) (st : St) (hR : RdM st g) (hb : bigM g.x) : C 67 [.agg #[vI g.kind,vI g.frm,vI g.to,vI g.num,vI g.hi,vS g.tree.p g.tree.l.length,vI g.tree.root,vS g.vec.p g.vec.l.length,vS g.leaves.p g.leaves.l.length,vS g.part.p g.part.x.items.length,vS g.part.q g.part.x.floors.length,vS g.marks.p g.marks.l.length]] st (fun v s => ∃ x,v = .bool x ∧ (x = true ↔ msgOk g.x) ∧ s = st) := by
 have hs1 : g.leaves.l.length ≤ 1048576 := hb.leaves
 have hs2 : g.vec.l.length ≤ 1048576 := hb.vec
 refine AC.enterX (i := ⟨[1],[1,7,12,18,24,26,30,45,56,67,71,76,81,87,92],[0,1,2,3,4,6,29,31,32,33,34,54,57,58,59,60,65],[]⟩) [] Try.func67 rfl rfl (by kernel_rfl) (by kernel_rfl) Try.ntmps67 (Lb rfl) rfl ?_
 refine ⟨_,rfl,?_⟩
 refine Cm 1 st [Ml 1 0,(2,vB false)] [(1,0,cMV g)] fun _ _ => ?_
 refine ⟨_,rfl,?_⟩
 refine ⟨_,Od rfl,?_⟩
 refine ⟨_,rfl,(ac_impl_within g.kind 0 5 st).mono ?_⟩
 rintro _ st ⟨x9,rfl,h9,rfl⟩
 rcases x9 with _|_
 ·replace h9 := of_decide_eq_false h9.symm
  iterate 4 refine ⟨_,rfl,?_⟩
  refine Cm 1 st [Ml 1 0,(2,vB false),(29,vB true)] [(1,0,cMV g)] fun _ _ => ?_
  exact cxs (Rt ⟨false,rfl,⟨fun h => absurd h Bool.false_ne_true,fun h => (show False from (h9 h.1.1)).elim⟩,rfl⟩)
 ·replace h9 := of_decide_eq_true h9.symm
  iterate 2 refine ⟨_,rfl,?_⟩
  refine ⟨_,Od rfl,?_⟩
  refine ⟨_,rfl,(ac_impl_isNode g.frm st).mono ?_⟩
  rintro _ st ⟨x14,rfl,h14,rfl⟩
  rcases x14 with _|_
  ·replace h14 := of_decide_eq_false h14.symm
   iterate 4 refine ⟨_,rfl,?_⟩
   refine Cm 1 st [Ml 1 0,(2,vB false),(29,vB true)] [(1,0,cMV g)] fun _ _ => ?_
   exact cxs (Rt ⟨false,rfl,⟨fun h => absurd h Bool.false_ne_true,fun h => (show False from (h14 h.1.2.1)).elim⟩,rfl⟩)
  ·replace h14 := of_decide_eq_true h14.symm
   iterate 3 refine ⟨_,rfl,?_⟩
   refine ⟨_,Od rfl,?_⟩
   refine ⟨_,rfl,(ac_impl_isNode g.to st).mono ?_⟩
   rintro _ st ⟨x20,rfl,h20,rfl⟩
   rcases x20 with _|_
   ·replace h20 := of_decide_eq_false h20.symm
    iterate 3 refine ⟨_,rfl,?_⟩
    refine Cm 1 st [Ml 1 0,(2,vB false),(29,vB true)] [(1,0,cMV g)] fun _ _ => ?_
    exact cxs (Rt ⟨false,rfl,⟨fun h => absurd h Bool.false_ne_true,fun h => (show False from (h20 h.1.2.2.1)).elim⟩,rfl⟩)
   ·replace h20 := of_decide_eq_true h20.symm
    iterate 3 refine ⟨_,rfl,?_⟩
    refine ⟨_,Od rfl,?_⟩
    refine ⟨_,rfl,?_⟩
    refine ⟨_,Od rfl,?_⟩
    refine ⟨_,rfl,?_⟩
    rintro (_|_) h28
    ·replace h28 : ¬ (g.frm = g.to) := beq_eq_false_iff_ne.1 h28
     refine ⟨_,rfl,?_⟩
     refine Cm 1 st [Ml 1 0,(2,vB false),(29,vB false)] [(1,0,cMV g)] fun _ _ => ?_
     refine cxs ?_
     refine ⟨_,rfl,?_⟩
     refine ⟨_,Od rfl,?_⟩
     refine ⟨_,rfl,?_⟩
     refine Cm 1 st [Ml 1 0,(2,vB false),(31,vS g.leaves.p g.leaves.l.length),(32,vI (g.leaves.l.length : Int)),(33,vI 0)] [(1,0,cMV g)] fun _ _ => ?_
     refine AW.loopM (fun i : Nat => [(1,vL 1 0 (0)),(31,vS g.leaves.p g.leaves.l.length),(32,vI (g.leaves.l.length : Int)),(33,vI (i : Int))]) (fun i : Nat => [(1,0,cMV g)]) (fun m (i : Nat) st' => m = g.leaves.l.length - i ∧ i ≤ g.leaves.l.length ∧ (∀ (j : Nat) x,j < i → g.leaves.l[j]? = some x → (0 ≤ x ∧ x ≤ 3) ∧ ∀ y,0 < j → g.leaves.l[j - 1]? = some y → y < x) ∧ st = st') 0 _ ⟨rfl,rfl,rfl,rfl,trivial⟩ ⟨rfl,trivial⟩ ⟨rfl,Nat.zero_le _,fun j x h => absurd h (Nat.not_lt_zero _),rfl⟩ ?_
     rintro m i ρ0 ff gg st' ⟨rfl,hi,hok,rfl⟩
     refine ⟨_,rfl,?_⟩
     rintro (_|_) h34
     ·replace h34 : ¬ ((i : Int) < (g.leaves.l.length : Int)) := of_decide_eq_false h34
      refine Cm gg st [Ml 1 0,(31,vS g.leaves.p g.leaves.l.length),(32,vI (g.leaves.l.length : Int)),(33,vI (i : Int)),(34,vB false)] [(1,0,cMV g)] fun _ _ => ?_
      have hL : incOk g.leaves.l := fun j x hx => hok j x (by have := (List.getElem?_eq_some_iff.1 hx).1; omega) hx
      clear hok
      refine cxs ?_
      refine ⟨_,rfl,?_⟩
      refine ⟨_,Od rfl,?_⟩
      refine ⟨_,rfl,?_⟩
      refine Cm gg st [Ml 1 0,(57,vS g.vec.p g.vec.l.length),(58,vI (g.vec.l.length : Int)),(59,vI 0)] [(1,0,cMV g)] fun _ _ => ?_
      refine AW.loopM (fun i : Nat => [(1,vL 1 0 (0)),(57,vS g.vec.p g.vec.l.length),(58,vI (g.vec.l.length : Int)),(59,vI (i : Int))]) (fun i : Nat => [(1,0,cMV g)]) (fun m (i : Nat) st' => m = g.vec.l.length - i ∧ i ≤ g.vec.l.length ∧ (∀ (j : Nat) x,j < i → g.vec.l[j]? = some x → 0 ≤ x ∧ x ≤ 100000) ∧ st = st') 0 _ ⟨rfl,rfl,rfl,rfl,trivial⟩ ⟨rfl,trivial⟩ ⟨rfl,Nat.zero_le _,fun j x h => absurd h (Nat.not_lt_zero _),rfl⟩ ?_
      rintro m i ρ0 ff gg st' ⟨rfl,hi,hok,rfl⟩
      refine ⟨_,rfl,?_⟩
      rintro (_|_) h60
      ·replace h60 : ¬ ((i : Int) < (g.vec.l.length : Int)) := of_decide_eq_false h60
       refine Cm gg st [Ml 1 0,(57,vS g.vec.p g.vec.l.length),(58,vI (g.vec.l.length : Int)),(59,vI (i : Int)),(60,vB false)] [(1,0,cMV g)] fun _ _ => ?_
       have hV : ∀ (j : Nat) x,g.vec.l[j]? = some x → 0 ≤ x ∧ x ≤ 100000 := fun j x hx => hok j x (by have := (List.getElem?_eq_some_iff.1 hx).1; omega) hx
       clear hok
       refine cxs ?_
       refine ⟨_,rfl,?_⟩
       refine ⟨_,Od rfl,?_⟩
       refine ⟨_,rfl,(ac_impl_within g.num 0 100000 st).mono ?_⟩
       rintro _ st ⟨x69,rfl,h69,rfl⟩
       rcases x69 with _|_
       ·replace h69 := of_decide_eq_false h69.symm
        iterate 3 refine ⟨_,rfl,?_⟩
        refine ow_cut [(1,vL 1 0 (0)),(85,vB false)] ⟨rfl,rfl,trivial⟩ fun _ => ?_
        iterate 2 refine ⟨_,rfl,?_⟩
        exact cxs (Rt ⟨false,rfl,⟨fun h => absurd h Bool.false_ne_true,fun h => (show False from (h69 h.2.1.1)).elim⟩,rfl⟩)
       ·replace h69 := of_decide_eq_true h69.symm
        refine ⟨_,rfl,?_⟩
        refine ⟨_,Od rfl,?_⟩
        refine ⟨_,rfl,(ac_impl_within g.hi 0 100000 st).mono ?_⟩
        rintro _ st ⟨x73,rfl,h73,rfl⟩
        rcases x73 with _|_
        ·replace h73 := of_decide_eq_false h73.symm
         iterate 3 refine ⟨_,rfl,?_⟩
         refine ow_cut [(1,vL 1 0 (0)),(85,vB false)] ⟨rfl,rfl,trivial⟩ fun _ => ?_
         iterate 2 refine ⟨_,rfl,?_⟩
         exact cxs (Rt ⟨false,rfl,⟨fun h => absurd h Bool.false_ne_true,fun h => (show False from (h73 h.2.1.2)).elim⟩,rfl⟩)
        ·replace h73 := of_decide_eq_true h73.symm
         iterate 2 refine ⟨_,rfl,?_⟩
         refine ⟨_,Od rfl,?_⟩
         refine ⟨_,rfl,(ac_impl_treeOk g.tree st hR.tree (hb.tree)).mono ?_⟩
         rintro _ st ⟨x78,rfl,h78,rfl⟩
         rcases x78 with _|_
         ·replace h78 := fun k => Bool.false_ne_true (h78.2 k)
          iterate 2 refine ⟨_,rfl,?_⟩
          refine ow_cut [(1,vL 1 0 (0)),(85,vB false)] ⟨rfl,rfl,trivial⟩ fun _ => ?_
          iterate 2 refine ⟨_,rfl,?_⟩
          exact cxs (Rt ⟨false,rfl,⟨fun h => absurd h Bool.false_ne_true,fun h => (show False from (h78 h.2.2.1)).elim⟩,rfl⟩)
         ·replace h78 := h78.1 rfl
          iterate 2 refine ⟨_,rfl,?_⟩
          refine ⟨_,Od rfl,?_⟩
          iterate 2 refine ⟨_,rfl,?_⟩
          rintro (_|_) h84
          ·replace h84 : ¬ ((g.vec.l.length : Int) ≤ (5)) := of_decide_eq_false h84
           refine ow_cut [(1,vL 1 0 (0)),(80,vB true),(84,vB false)] ⟨rfl,rfl,rfl,trivial⟩ fun _ => ?_
           iterate 3 refine ⟨_,rfl,?_⟩
           exact cxs (Rt ⟨false,rfl,⟨fun h => absurd h Bool.false_ne_true,fun h => (show False from (absurd h.2.2.2.1.1 h84)).elim⟩,rfl⟩)
          ·replace h84 : (g.vec.l.length : Int) ≤ (5) := of_decide_eq_true h84
           refine ow_cut [(1,vL 1 0 (0)),(80,vB true),(84,vB true)] ⟨rfl,rfl,rfl,trivial⟩ fun _ => ?_
           iterate 2 refine ⟨_,rfl,?_⟩
           refine ⟨_,Od rfl,?_⟩
           refine ⟨_,rfl,(ac_impl_StateOk g.part st hR.part (hb.part)).mono ?_⟩
           rintro _ st ⟨x89,rfl,h89,rfl⟩
           rcases x89 with _|_
           ·replace h89 := fun k => Bool.false_ne_true (h89.2 k)
            iterate 2 refine ⟨_,rfl,?_⟩
            exact cxs (Rt ⟨false,rfl,⟨fun h => absurd h Bool.false_ne_true,fun h => (show False from (h89 h.2.2.2.2.2.1)).elim⟩,rfl⟩)
           ·replace h89 := h89.1 rfl
            iterate 2 refine ⟨_,rfl,?_⟩
            refine ⟨_,Od rfl,?_⟩
            refine ⟨_,rfl,(ac_impl_MarksOk g.marks.p g.marks.l st hR.marks (hb.marks)).mono ?_⟩
            rintro _ st ⟨x94,rfl,h94,rfl⟩
            rcases x94 with _|_
            ·replace h94 := fun k => Bool.false_ne_true (h94.2 k)
             refine ⟨_,rfl,?_⟩
             exact cxs (Rt ⟨false,rfl,⟨fun h => absurd h Bool.false_ne_true,fun h => (show False from (h94 h.2.2.2.2.2.2)).elim⟩,rfl⟩)
            ·replace h94 := h94.1 rfl
             refine ⟨_,rfl,?_⟩
             exact cxs (Rt ⟨true,rfl,⟨fun _ => ⟨⟨h9,h14,h20,h28⟩,⟨h69,h73⟩,h78,⟨h84,hV⟩,hL,h89,h94⟩,fun _ => rfl⟩,rfl⟩)
      ·replace h60 : (i : Int) < (g.vec.l.length : Int) := of_decide_eq_true h60
       refine Cm gg st [Ml 1 0,(57,vS g.vec.p g.vec.l.length),(58,vI (g.vec.l.length : Int)),(59,vI (i : Int)),(60,vB true)] [(1,0,cMV g)] fun _ _ => ?_
       refine cxs ?_
       refine op_at i hR.vec (by omega) rfl rfl rfl rfl rfl rfl rfl ?_
       intro x61 b61 d61 k61 hy61 hb61 hm61 hc61 ho61
       refine ⟨_,op_ldc (i := 0) rfl rfl rfl rfl hm61 hc61 rfl rfl,?_⟩
       refine Cm gg st [Ml 1 0,(6,vI x61),(57,vS g.vec.p g.vec.l.length),(58,vI (g.vec.l.length : Int)),(59,vI (i : Int)),(60,vB true)] [(1,0,cMV g)] fun _ _ => ?_
       refine ⟨_,rfl,(ac_impl_within x61 0 100000 st).mono ?_⟩
       rintro _ st ⟨x64,rfl,h64,rfl⟩
       rcases x64 with _|_
       ·replace h64 := of_decide_eq_false h64.symm
        refine ⟨_,rfl,?_⟩
        refine Cm gg st [Ml 1 0,(6,vI x61),(57,vS g.vec.p g.vec.l.length),(58,vI (g.vec.l.length : Int)),(59,vI (i : Int)),(60,vB true),(65,vB true)] [(1,0,cMV g)] fun _ _ => ?_
        exact cxs (Rt ⟨false,rfl,⟨fun h => absurd h Bool.false_ne_true,fun h => (show False from (h64 (h.2.2.2.1.2 i x61 hy61))).elim⟩,rfl⟩)
       ·replace h64 := of_decide_eq_true h64.symm
        refine ⟨_,rfl,?_⟩
        refine Cm gg st [Ml 1 0,(6,vI x61),(57,vS g.vec.p g.vec.l.length),(58,vI (g.vec.l.length : Int)),(59,vI (i : Int)),(60,vB true),(65,vB false)] [(1,0,cMV g)] fun _ _ => ?_
        refine cxs ?_
        have ew66 : IntKind.wrap .i64 ((i : Int) + (1)) = ((i + 1 : Nat) : Int) := (wrap_i64 (by omega) (by omega)).trans (by omega)
        refine ⟨_,rfl,?_⟩
        refine ⟨i + 1,g.vec.l.length - (i + 1),by omega,⟨rfl,rfl,rfl,congrArg (Value.int .i64) ew66,trivial⟩,⟨rfl,trivial⟩,rfl,by omega,fun j x hj hx => ?_,rfl⟩
        rcases Nat.lt_or_ge j i with h | h
        ·exact hok j x h hx
        ·obtain rfl : j = i := by omega
         rw [hy61] at hx; injection hx with hx; rw [← hx]; exact h64
     ·replace h34 : (i : Int) < (g.leaves.l.length : Int) := of_decide_eq_true h34
      refine Cm gg st [Ml 1 0,(31,vS g.leaves.p g.leaves.l.length),(32,vI (g.leaves.l.length : Int)),(33,vI (i : Int)),(34,vB true)] [(1,0,cMV g)] fun _ _ => ?_
      refine cxs ?_
      refine op_at i hR.leaves (by omega) rfl rfl rfl rfl rfl rfl rfl ?_
      intro x36 b36 d36 k36 hy36 hb36 hm36 hc36 ho36
      refine ⟨_,op_ldc (i := 0) rfl rfl rfl rfl hm36 hc36 rfl rfl,?_⟩
      refine Cm gg st [Ml 1 0,(3,vI (i : Int)),(4,vI x36),(31,vS g.leaves.p g.leaves.l.length),(32,vI (g.leaves.l.length : Int)),(33,vI (i : Int)),(34,vB true)] [(1,0,cMV g)] fun _ _ => ?_
      refine ⟨_,rfl,(ac_impl_within x36 0 3 st).mono ?_⟩
      rintro _ st ⟨x39,rfl,h39,rfl⟩
      rcases x39 with _|_
      ·replace h39 := of_decide_eq_false h39.symm
       iterate 2 refine ⟨_,rfl,?_⟩
       refine Cm gg st [Ml 1 0,(3,vI (i : Int)),(4,vI x36),(31,vS g.leaves.p g.leaves.l.length),(32,vI (g.leaves.l.length : Int)),(33,vI (i : Int)),(34,vB true),(54,vB true)] [(1,0,cMV g)] fun _ _ => ?_
       exact cxs (Rt ⟨false,rfl,⟨fun h => absurd h Bool.false_ne_true,fun h => (show False from (h39 (h.2.2.2.2.1 i x36 hy36).1)).elim⟩,rfl⟩)
      ·replace h39 := of_decide_eq_true h39.symm
       iterate 2 refine ⟨_,rfl,?_⟩
       rintro (_|_) h43
       ·replace h43 : ¬ ((i : Int) > (0)) := of_decide_eq_false h43
        iterate 2 refine ⟨_,rfl,?_⟩
        refine Cm gg st [Ml 1 0,(3,vI (i : Int)),(4,vI x36),(31,vS g.leaves.p g.leaves.l.length),(32,vI (g.leaves.l.length : Int)),(33,vI (i : Int)),(34,vB true),(54,vB false)] [(1,0,cMV g)] fun _ _ => ?_
        have hnew : (0 ≤ x36 ∧ x36 ≤ 3) ∧ ∀ y,0 < i → g.leaves.l[i - 1]? = some y → y < x36 := ⟨h39,fun y h0 _ => by omega⟩
        refine cxs ?_
        have ew55 : IntKind.wrap .i64 ((i : Int) + (1)) = ((i + 1 : Nat) : Int) := (wrap_i64 (by omega) (by omega)).trans (by omega)
        refine ⟨_,rfl,?_⟩
        refine ⟨i + 1,g.leaves.l.length - (i + 1),by omega,⟨rfl,rfl,rfl,congrArg (Value.int .i64) ew55,trivial⟩,⟨rfl,trivial⟩,rfl,by omega,fun j x hj hx => ?_,rfl⟩
        rcases Nat.lt_or_ge j i with h | h
        ·exact hok j x h hx
        ·obtain rfl : j = i := by omega
         rw [hy36] at hx; injection hx with hx; rw [← hx]; exact hnew
       ·replace h43 : (i : Int) > (0) := of_decide_eq_true h43
        refine ⟨_,rfl,?_⟩
        refine ⟨_,Od rfl,?_⟩
        have ew48 : IntKind.wrap .i64 ((i : Int) - (1)) = (i : Int) - (1) := wrap_i64 (by omega) (by omega)
        refine ⟨_,rfl,?_⟩
        refine op_at (i - 1) hR.leaves (by omega) rfl rfl rfl rfl (by rw [ew48]; omega) rfl rfl ?_
        intro x49 b49 d49 k49 hy49 hb49 hm49 hc49 ho49
        refine ⟨_,op_ldc (i := 0) rfl rfl rfl rfl hm49 hc49 rfl rfl,?_⟩
        refine ⟨_,rfl,?_⟩
        rintro (_|_) h52
        ·replace h52 : ¬ (x49 ≥ x36) := of_decide_eq_false h52
         iterate 2 refine ⟨_,rfl,?_⟩
         refine Cm gg st [Ml 1 0,(3,vI (i : Int)),(4,vI x36),(31,vS g.leaves.p g.leaves.l.length),(32,vI (g.leaves.l.length : Int)),(33,vI (i : Int)),(34,vB true),(54,vB false)] [(1,0,cMV g)] fun _ _ => ?_
         have hnew : (0 ≤ x36 ∧ x36 ≤ 3) ∧ ∀ y,0 < i → g.leaves.l[i - 1]? = some y → y < x36 := ⟨h39,fun y h0 hy => by rw [hy49] at hy; injection hy with hy; omega⟩
         refine cxs ?_
         have ew55 : IntKind.wrap .i64 ((i : Int) + (1)) = ((i + 1 : Nat) : Int) := (wrap_i64 (by omega) (by omega)).trans (by omega)
         refine ⟨_,rfl,?_⟩
         refine ⟨i + 1,g.leaves.l.length - (i + 1),by omega,⟨rfl,rfl,rfl,congrArg (Value.int .i64) ew55,trivial⟩,⟨rfl,trivial⟩,rfl,by omega,fun j x hj hx => ?_,rfl⟩
         rcases Nat.lt_or_ge j i with h | h
         ·exact hok j x h hx
         ·obtain rfl : j = i := by omega
          rw [hy36] at hx; injection hx with hx; rw [← hx]; exact hnew
        ·replace h52 : x49 ≥ x36 := of_decide_eq_true h52
         iterate 2 refine ⟨_,rfl,?_⟩
         refine Cm gg st [Ml 1 0,(3,vI (i : Int)),(4,vI x36),(31,vS g.leaves.p g.leaves.l.length),(32,vI (g.leaves.l.length : Int)),(33,vI (i : Int)),(34,vB true),(54,vB true)] [(1,0,cMV g)] fun _ _ => ?_
         exact cxs (Rt ⟨false,rfl,⟨fun h => absurd h Bool.false_ne_true,fun h => (show False from (absurd ((h.2.2.2.2.1 i x36 hy36).2 x49 (by omega) hy49) (by omega))).elim⟩,rfl⟩)
    ·replace h28 : g.frm = g.to := beq_iff_eq.1 h28
     refine ⟨_,rfl,?_⟩
     refine Cm 1 st [Ml 1 0,(2,vB false),(29,vB true)] [(1,0,cMV g)] fun _ _ => ?_
     exact cxs (Rt ⟨false,rfl,⟨fun h => absurd h Bool.false_ne_true,fun h => (show False from (h.1.2.2.2 h28)).elim⟩,rfl⟩)
theorem ac_spec_MsgOk (g : MV) (st : St) (hR : RdM st g) (hb : bigM g.x) : C 54 [.agg #[vI g.kind,vI g.frm,vI g.to,vI g.num,vI g.hi,vS g.tree.p g.tree.l.length,vI g.tree.root,vS g.vec.p g.vec.l.length,vS g.leaves.p g.leaves.l.length,vS g.part.p g.part.x.items.length,vS g.part.q g.part.x.floors.length,vS g.marks.p g.marks.l.length]] st (fun v s => ∃ x,v = .bool x ∧ (x = true ↔ msgOk g.x) ∧ s = st) := by
 have hs1 : g.leaves.l.length ≤ 1048576 := hb.leaves
 refine AC.enterX (i := ⟨[1],[1,4,9,15,21,23,28,34,39,44,50,56,62,68,74,79],[0,1,2,3,38,66,71,85],[]⟩) [(8,[],[])] Try.func54 rfl rfl (by kernel_rfl) (by kernel_rfl) Try.ntmps54 (Lb rfl) rfl ?_
 refine ⟨_,rfl,?_⟩
 refine Cm 1 st [Ml 1 0,(2,vB false)] [(1,0,cMV g)] fun _ _ => ?_
 refine ⟨_,rfl,?_⟩
 refine ⟨_,Od rfl,?_⟩
 refine ⟨_,rfl,(ac_spec_l1In g.kind 0 5 st).mono ?_⟩
 rintro _ st ⟨x6,rfl,h6,rfl⟩
 rcases x6 with _|_
 ·replace h6 := of_decide_eq_false h6.symm
  iterate 4 refine ⟨_,rfl,?_⟩
  refine ow_cut [(1,vL 1 0 (0)),(2,vB false),(26,vB true)] ⟨rfl,rfl,rfl,trivial⟩ fun _ => ?_
  iterate 2 refine ⟨_,rfl,?_⟩
  refine Cm 1 st [Ml 1 0,(2,vB false),(38,vB true)] [(1,0,cMV g)] fun _ _ => ?_
  exact cxs (Rt ⟨false,rfl,⟨fun h => absurd h Bool.false_ne_true,fun h => (show False from (h6 h.1.1)).elim⟩,rfl⟩)
 ·replace h6 := of_decide_eq_true h6.symm
  iterate 2 refine ⟨_,rfl,?_⟩
  refine ⟨_,Od rfl,?_⟩
  refine ⟨_,rfl,(ac_spec_l3Node g.frm st).mono ?_⟩
  rintro _ st ⟨x11,rfl,h11,rfl⟩
  rcases x11 with _|_
  ·replace h11 := of_decide_eq_false h11.symm
   iterate 4 refine ⟨_,rfl,?_⟩
   refine ow_cut [(1,vL 1 0 (0)),(2,vB false),(26,vB true)] ⟨rfl,rfl,rfl,trivial⟩ fun _ => ?_
   iterate 2 refine ⟨_,rfl,?_⟩
   refine Cm 1 st [Ml 1 0,(2,vB false),(38,vB true)] [(1,0,cMV g)] fun _ _ => ?_
   exact cxs (Rt ⟨false,rfl,⟨fun h => absurd h Bool.false_ne_true,fun h => (show False from (h11 h.1.2.1)).elim⟩,rfl⟩)
  ·replace h11 := of_decide_eq_true h11.symm
   iterate 3 refine ⟨_,rfl,?_⟩
   refine ⟨_,Od rfl,?_⟩
   refine ⟨_,rfl,(ac_spec_l3Node g.to st).mono ?_⟩
   rintro _ st ⟨x17,rfl,h17,rfl⟩
   rcases x17 with _|_
   ·replace h17 := of_decide_eq_false h17.symm
    iterate 3 refine ⟨_,rfl,?_⟩
    refine ow_cut [(1,vL 1 0 (0)),(2,vB false),(26,vB true)] ⟨rfl,rfl,rfl,trivial⟩ fun _ => ?_
    iterate 2 refine ⟨_,rfl,?_⟩
    refine Cm 1 st [Ml 1 0,(2,vB false),(38,vB true)] [(1,0,cMV g)] fun _ _ => ?_
    exact cxs (Rt ⟨false,rfl,⟨fun h => absurd h Bool.false_ne_true,fun h => (show False from (h17 h.1.2.2.1)).elim⟩,rfl⟩)
   ·replace h17 := of_decide_eq_true h17.symm
    iterate 3 refine ⟨_,rfl,?_⟩
    refine ow_cut [(1,vL 1 0 (0)),(2,vB false),(20,vB false),(21,vL 1 1 (0))] ⟨rfl,rfl,rfl,rfl,trivial⟩ fun _ => ?_
    refine ⟨_,Od rfl,?_⟩
    refine ⟨_,rfl,?_⟩
    refine ⟨_,Od rfl,?_⟩
    refine ⟨_,rfl,?_⟩
    rintro (_|_) h25
    ·replace h25 : ¬ (g.frm = g.to) := beq_eq_false_iff_ne.1 h25
     iterate 2 refine ⟨_,rfl,?_⟩
     refine ⟨_,Od rfl,?_⟩
     refine ⟨_,rfl,(ac_spec_l1In g.num 0 100000 st).mono ?_⟩
     rintro _ st ⟨x30,rfl,h30,rfl⟩
     rcases x30 with _|_
     ·replace h30 := of_decide_eq_false h30.symm
      iterate 3 refine ⟨_,rfl,?_⟩
      refine Cm 1 st [Ml 1 0,(2,vB false),(38,vB true)] [(1,0,cMV g)] fun _ _ => ?_
      exact cxs (Rt ⟨false,rfl,⟨fun h => absurd h Bool.false_ne_true,fun h => (show False from (h30 h.2.1.1)).elim⟩,rfl⟩)
     ·replace h30 := of_decide_eq_true h30.symm
      iterate 3 refine ⟨_,rfl,?_⟩
      refine ⟨_,Od rfl,?_⟩
      refine ⟨_,rfl,(ac_spec_l1In g.hi 0 100000 st).mono ?_⟩
      rintro _ st ⟨x36,rfl,h36,rfl⟩
      rcases x36 with _|_
      ·replace h36 := of_decide_eq_false h36.symm
       iterate 2 refine ⟨_,rfl,?_⟩
       refine Cm 1 st [Ml 1 0,(2,vB false),(38,vB true)] [(1,0,cMV g)] fun _ _ => ?_
       exact cxs (Rt ⟨false,rfl,⟨fun h => absurd h Bool.false_ne_true,fun h => (show False from (h36 h.2.1.2)).elim⟩,rfl⟩)
      ·replace h36 := of_decide_eq_true h36.symm
       iterate 2 refine ⟨_,rfl,?_⟩
       refine Cm 1 st [Ml 1 0,(2,vB false),(38,vB false)] [(1,0,cMV g)] fun _ _ => ?_
       refine cxs ?_
       refine ⟨_,rfl,?_⟩
       refine ⟨_,Od rfl,?_⟩
       refine ⟨_,rfl,(ac_spec_l10Tree g.tree st hR.tree (hb.tree)).mono ?_⟩
       rintro _ st ⟨x41,rfl,h41,rfl⟩
       rcases x41 with _|_
       ·replace h41 := fun k => Bool.false_ne_true (h41.2 k)
        iterate 5 refine ⟨_,rfl,?_⟩
        refine Cm 1 st [Ml 1 0,(2,vB false),(66,vB true)] [(1,0,cMV g)] fun _ _ => ?_
        exact cxs (Rt ⟨false,rfl,⟨fun h => absurd h Bool.false_ne_true,fun h => (show False from (h41 h.2.2.1)).elim⟩,rfl⟩)
       ·replace h41 := h41.1 rfl
        iterate 2 refine ⟨_,rfl,?_⟩
        refine ⟨_,Od rfl,?_⟩
        refine ⟨_,rfl,(ac_spec_l10Nums g.vec.p g.vec.l 5 100000 st hR.vec (hb.vec)).mono ?_⟩
        rintro _ st ⟨x46,rfl,h46,rfl⟩
        rcases x46 with _|_
        ·replace h46 := fun k => Bool.false_ne_true (h46.2 k)
         iterate 5 refine ⟨_,rfl,?_⟩
         refine Cm 1 st [Ml 1 0,(2,vB false),(66,vB true)] [(1,0,cMV g)] fun _ _ => ?_
         exact cxs (Rt ⟨false,rfl,⟨fun h => absurd h Bool.false_ne_true,fun h => (show False from (h46 h.2.2.2.1)).elim⟩,rfl⟩)
        ·replace h46 := h46.1 rfl
         iterate 3 refine ⟨_,rfl,?_⟩
         refine ⟨_,Od rfl,?_⟩
         refine ⟨_,rfl,(ac_spec_l10Nums g.leaves.p g.leaves.l 4 3 st hR.leaves (hb.leaves)).mono ?_⟩
         rintro _ st ⟨x52,rfl,h52,rfl⟩
         rcases x52 with _|_
         ·replace h52 := fun k => Bool.false_ne_true (h52.2 k)
          iterate 4 refine ⟨_,rfl,?_⟩
          refine Cm 1 st [Ml 1 0,(2,vB false),(66,vB true)] [(1,0,cMV g)] fun _ _ => ?_
          exact cxs (Rt ⟨false,rfl,⟨fun h => absurd h Bool.false_ne_true,fun h => (show False from (h52 (inc_nums h.2.2.2.2.1))).elim⟩,rfl⟩)
         ·replace h52 := h52.1 rfl
          iterate 3 refine ⟨_,rfl,?_⟩
          refine ow_cut [(1,vL 1 0 (0)),(2,vB false),(55,vB false),(56,vL 1 9 (0))] ⟨rfl,rfl,rfl,rfl,trivial⟩ fun _ => ?_
          refine ⟨_,Od rfl,?_⟩
          refine ⟨_,rfl,(ac_spec_StateOk g.part st hR.part (hb.part)).mono ?_⟩
          rintro _ st ⟨x58,rfl,h58,rfl⟩
          rcases x58 with _|_
          ·replace h58 := fun k => Bool.false_ne_true (h58.2 k)
           iterate 3 refine ⟨_,rfl,?_⟩
           refine Cm 1 st [Ml 1 0,(2,vB false),(66,vB true)] [(1,0,cMV g)] fun _ _ => ?_
           exact cxs (Rt ⟨false,rfl,⟨fun h => absurd h Bool.false_ne_true,fun h => (show False from (h58 h.2.2.2.2.2.1)).elim⟩,rfl⟩)
          ·replace h58 := h58.1 rfl
           iterate 3 refine ⟨_,rfl,?_⟩
           refine ⟨_,Od rfl,?_⟩
           refine ⟨_,rfl,(ac_spec_MarksOk g.marks.p g.marks.l st hR.marks (hb.marks)).mono ?_⟩
           rintro _ st ⟨x64,rfl,h64,rfl⟩
           rcases x64 with _|_
           ·replace h64 := fun k => Bool.false_ne_true (h64.2 k)
            iterate 2 refine ⟨_,rfl,?_⟩
            refine Cm 1 st [Ml 1 0,(2,vB false),(66,vB true)] [(1,0,cMV g)] fun _ _ => ?_
            exact cxs (Rt ⟨false,rfl,⟨fun h => absurd h Bool.false_ne_true,fun h => (show False from (h64 h.2.2.2.2.2.2)).elim⟩,rfl⟩)
           ·replace h64 := h64.1 rfl
            iterate 2 refine ⟨_,rfl,?_⟩
            refine Cm 1 st [Ml 1 0,(2,vB false),(66,vB false)] [(1,0,cMV g)] fun _ _ => ?_
            refine cxs ?_
            refine Cm 1 st [Ml 1 0,(2,vB false),(3,vI 1)] [(1,0,cMV g)] fun _ _ => ?_
            refine AW.loopM (fun i : Nat => [(1,vL 1 0 (0)),(3,vI ((i + 1 : Nat) : Int))]) (fun i : Nat => [(1,0,cMV g)]) (fun m (i : Nat) st' => m = g.leaves.l.length - i ∧ (i = 0 ∨ i + 1 ≤ g.leaves.l.length) ∧ (∀ (j : Nat) x y,j < i → g.leaves.l[j + 1]? = some x → g.leaves.l[j]? = some y → y < x) ∧ st = st') 0 _ ⟨rfl,rfl,trivial⟩ ⟨rfl,trivial⟩ ⟨rfl,.inl rfl,fun j x y h => absurd h (Nat.not_lt_zero _),rfl⟩ ?_
            rintro m i ρ0 ff gg st' ⟨rfl,hi,hok,rfl⟩
            refine ⟨_,rfl,?_⟩
            refine ⟨_,Od rfl,?_⟩
            iterate 2 refine ⟨_,rfl,?_⟩
            rintro (_|_) h71
            ·replace h71 : ¬ (((i + 1 : Nat) : Int) < (g.leaves.l.length : Int)) := of_decide_eq_false h71
             refine Cm gg st [Ml 1 0,(3,vI ((i + 1 : Nat) : Int)),(71,vB false)] [(1,0,cMV g)] fun _ _ => ?_
             refine cxs ?_
             refine cxs ?_
             refine ⟨.inl rfl,_,rfl,true,rfl,⟨fun _ => ⟨⟨h6,h11,h17,h25⟩,⟨h30,h36⟩,h41,h46,fun j x hx => ⟨h52.2 j x hx,fun y h0 hy => ?_⟩,h58,h64⟩,fun _ => rfl⟩,rfl⟩
             have hj := (List.getElem?_eq_some_iff.1 hx).1
             simp only [MV.x] at hj
             exact hok (j - 1) x y (by omega) (by rw [show j - 1 + 1 = j by omega]; exact hx) hy
            ·replace h71 : ((i + 1 : Nat) : Int) < (g.leaves.l.length : Int) := of_decide_eq_true h71
             refine Cm gg st [Ml 1 0,(3,vI ((i + 1 : Nat) : Int)),(71,vB true)] [(1,0,cMV g)] fun _ _ => ?_
             refine cxs ?_
             refine ⟨_,rfl,?_⟩
             refine ⟨_,Od rfl,?_⟩
             refine op_at (i + 1) hR.leaves (by omega) rfl rfl rfl rfl rfl rfl rfl ?_
             intro x77 b77 d77 k77 hy77 hb77 hm77 hc77 ho77
             refine ⟨_,op_ldc (i := 0) rfl rfl rfl rfl hm77 hc77 rfl rfl,?_⟩
             refine ⟨_,rfl,?_⟩
             refine ⟨_,Od rfl,?_⟩
             have ew82 : IntKind.wrap .i64 (((i + 1 : Nat) : Int) - (1)) = ((i + 1 : Nat) : Int) - (1) := wrap_i64 (by omega) (by omega)
             refine ⟨_,rfl,?_⟩
             refine op_at i ((hR.leaves)) (by omega) rfl rfl rfl rfl (by rw [ew82]; omega) rfl rfl ?_
             intro x83 b83 d83 k83 hy83 hb83 hm83 hc83 ho83
             refine ⟨_,op_ldc (i := 0) rfl rfl rfl rfl hm83 hc83 rfl rfl,?_⟩
             refine ⟨_,rfl,?_⟩
             rintro (_|_) h85
             ·replace h85 : ¬ (x77 ≤ x83) := of_decide_eq_false h85
              refine Cm gg st [Ml 1 0,(3,vI ((i + 1 : Nat) : Int)),(71,vB true),(85,vB false)] [(1,0,cMV g)] fun _ _ => ?_
              refine cxs ?_
              have ew73 : IntKind.wrap .i64 (((i + 1 : Nat) : Int) + (1)) = ((i + 1 + 1 : Nat) : Int) := (wrap_i64 (by omega) (by omega)).trans (by omega)
              refine ⟨_,rfl,?_⟩
              refine ⟨i + 1,g.leaves.l.length - (i + 1),by omega,⟨rfl,congrArg (Value.int .i64) ew73,trivial⟩,⟨rfl,trivial⟩,rfl,.inr (by omega),fun j x y hj hx hy => ?_,rfl⟩
              rcases Nat.lt_or_ge j i with h | h
              ·exact hok j x y h hx hy
              ·obtain rfl : j = i := by omega
               rw [hy77] at hx; injection hx with hx; rw [hy83] at hy; injection hy with hy; omega
             ·replace h85 : x77 ≤ x83 := of_decide_eq_true h85
              refine Cm gg st [Ml 1 0,(3,vI ((i + 1 : Nat) : Int)),(71,vB true),(85,vB true)] [(1,0,cMV g)] fun _ _ => ?_
              exact cxs (Rt ⟨false,rfl,⟨fun h => absurd h Bool.false_ne_true,fun h => (show False from (absurd ((h.2.2.2.2.1 (i + 1) x77 hy77).2 x83 (by omega) hy83) (by omega))).elim⟩,rfl⟩)
    ·replace h25 : g.frm = g.to := beq_iff_eq.1 h25
     iterate 3 refine ⟨_,rfl,?_⟩
     refine Cm 1 st [Ml 1 0,(2,vB false),(38,vB true)] [(1,0,cMV g)] fun _ _ => ?_
     exact cxs (Rt ⟨false,rfl,⟨fun h => absurd h Bool.false_ne_true,fun h => (show False from (h.1.2.2.2 h25)).elim⟩,rfl⟩)
def numsL (l : List Int) : List Int := putN (l.length : Int) ++ numsB l
def crcB (l : List Int) : List Int := [crc l / 16777216,crc l / 65536 % 256,crc l / 256 % 256,crc l % 256]
def mgN (g : Mg) : List Int := [g.kind,g.frm,g.to,g.num,g.hi]
def mgH (g : Mg) : List Int := [82,75] ++ numsB (mgN g) ++ numsL g.tree.leaves ++ putN g.tree.root ++ numsL g.vec ++ numsL g.leaves ++ putN ((stB g.part).length : Int) ++ stB g.part ++ putN (g.marks.length : Int)
def mgB0 (g : Mg) : List Int := mgH g ++ flsB g.marks
def mgB (g : Mg) : List Int := mgB0 g ++ crcB (mgB0 g)
open Classical in
noncomputable def mgBz (g : Mg) : List Int := if msgOk g then mgB g else []
theorem numsL_len (l : List Int) : (numsL l).length ≤ 5 + 5 * l.length := by
 have h1 := putN_len (l.length : Int)
 have h2 := numsB_len l
 rw [numsL,List.length_append]
 omega
theorem numsL_ok (l : List Int) : bytesOk (numsL l) := (putN_ok _).app (numsB_ok _)
theorem crcB_ok {l : List Int} (hl : bytesOk l) : bytesOk (crcB l) := by
 have h := crc_rng hl
 have h0 := h.1
 have h1 := h.2
 intro x hx
 simp only [crcB,List.mem_cons,List.not_mem_nil,or_false] at hx
 rcases hx with rfl | rfl | rfl | rfl <;> omega
theorem mgH_ok (g : Mg) : bytesOk (mgH g) := by
 unfold mgH
 refine ((((((((bytesOk.app ?_ (numsB_ok _)).app (numsL_ok _)).app (putN_ok _)).app (numsL_ok _)).app (numsL_ok _)).app (putN_ok _)).app (stB_ok _)).app (putN_ok _))
 intro x hx
 simp only [List.mem_cons,List.not_mem_nil,or_false] at hx
 rcases hx with rfl | rfl <;> omega
theorem flsB_ok (l : List Flr) : bytesOk (flsB l) := fm_ok fun x => (putN_ok _).app (putN_ok _)
theorem mgB0_ok (g : Mg) : bytesOk (mgB0 g) := (mgH_ok g).app (flsB_ok _)
theorem mgB_ok (g : Mg) : bytesOk (mgB g) := (mgB0_ok g).app (crcB_ok (mgB0_ok g))
theorem mgH_len {g : Mg} (hb : bigM g) (hk : stateOk g.part) : (mgH g).length ≤ 100000000 := by
 have h1 := numsL_len g.tree.leaves
 have h2 := numsL_len g.vec
 have h3 := numsL_len g.leaves
 have h4 := stB_len hk
 have h5 := putN_len g.tree.root
 have h6 := putN_len ((stB g.part).length : Int)
 have h7 := putN_len (g.marks.length : Int)
 have h8 := numsB_len (mgN g)
 have e8 : (mgN g).length = 5 := rfl
 have b1 : g.tree.leaves.length ≤ 1048576 := hb.tree
 have b2 : g.vec.length ≤ 1048576 := hb.vec
 have b3 : g.leaves.length ≤ 1048576 := hb.leaves
 have b4 : g.part.items.length ≤ 1048576 := hb.part.1
 have b5 : g.part.floors.length ≤ 1048576 := hb.part.2.1
 simp only [mgH,List.length_append,List.length_cons,List.length_nil]
 omega
section
variable {P : Program} {ls : List Tmp} {call : ACallT} {o : Oper} {e : Operand → Value} {lo : Lo} {st : St}
theorem op_fz {t el : TypeId} {x : Operand} {q : Option Addr} {l : List Int} (ho : o.op = .convert t t x) (hx : e x = vS q l.length) (hO : OwnR st 1 fB q l) (hl : 0 < l.length) (he : telem P t = some el) (hk : tint P el = some .u8) : aoper P ls call o e lo st = some (vS q l.length,lo,st) := by
 rcases hO with ⟨_,h⟩ | ⟨a,rfl,_,hm⟩
 ·rw [h] at hl; exact absurd hl (Nat.lt_irrefl 0)
 ·obtain ⟨d,op,tt,pos,after,gd⟩ := o
  simp only at ho
  subst ho
  simp only [aoper,he,hx,abytesOf,hm,hk]
  rw [if_pos ⟨trivial,trivial,trivial,trivial,hl⟩]
theorem op_shr {t ty : TypeId} {x y : Operand} {k : IntKind} {a b r : Int} (ho : o.op = .binOp .shr t x y ty) (hx : e x = vI a) (hy : e y = .int k b) (hb : 0 ≤ b ∧ b ≤ 64) (hr : a / 2 ^ b.toNat = r) : aoper P ls call o e lo st = some (vI r,lo,st) := by
 subst hr
 obtain ⟨d,op,tt,pos,after,gd⟩ := o
 simp only at ho
 subst ho
 simp only [aoper,rop,hx,hy,abin]
 rw [if_pos (show 0 ≤ b ∧ b ≤ (IntKind.bits .i64 : Int) from hb)]
 rfl
theorem op_a255 {t ty : TypeId} {x y : Operand} {a r : Int} (ho : o.op = .binOp .and t x y ty) (hx : e x = vI a) (hy : e y = vI 255) (h0 : 0 ≤ a) (h1 : a < 9223372036854775808) (hr : a % 256 = r) : aoper P ls call o e lo st = some (vI r,lo,st) := by
 subst hr
 obtain ⟨d,op,tt,pos,after,gd⟩ := o
 simp only at ho
 subst ho
 obtain ⟨n,rfl⟩ := Int.eq_ofNat_of_zero_le h0
 have h2 : (BitVec.ofInt 64 (n : Int) &&& BitVec.ofInt 64 255).toNat = n % 256 := by
  rw [BitVec.toNat_and,BitVec.ofInt_natCast,show BitVec.ofInt 64 255 = BitVec.ofNat 64 255 from rfl,BitVec.toNat_ofNat,BitVec.toNat_ofNat,Nat.mod_eq_of_lt (by omega),show 255 % 2 ^ 64 = 2 ^ 8 - 1 from rfl,Nat.and_two_pow_sub_one_eq_mod]
 simp only [aoper,rop,hx,hy,abin,aint,if_true,Option.map_some]
 show some (Value.int .i64 (IntKind.wrap .i64 (((BitVec.ofInt 64 (n : Int) &&& BitVec.ofInt 64 255).toNat : Nat) : Int)),lo,st) = _
 rw [h2,wrap_nat _ (by omega)]
 rfl
end
theorem ac_impl_crcBytes (p : Option Addr) (l : List Int) (st : St) (hR : Rows st 1 fB p l) (hl : bytesOk l) (hs : l.length ≤ 1099511627776) : C 120 [vS p l.length] st (fun v s => ∃ q,v = vS q (crcB l).length ∧ OwnR s 1 fB q (crcB l) ∧ New st.next q ∧ Pres st s) := by
 have hr := crc_rng hl
 have h0 : 0 ≤ crc l := hr.1
 have h1 : crc l < 4294967296 := hr.2
 refine AC.enterX (i := ⟨[],[],[0,2,3],[]⟩) [] Try.func120 rfl rfl (by kernel_rfl) (by kernel_rfl) Try.ntmps120 (Lb rfl) rfl ?_
 refine Cu lo0 st [(0,vS p l.length),(2,Sn)] fun _ => ?_
 refine ⟨_,rfl,(ac_impl_Crc p l st hR (by first | assumption | omega) (by first | assumption | omega)).mono ?_⟩
 rintro _ st ⟨rfl,rfl⟩
 refine Cu lo0 st [(2,Sn),(3,vI (crc l))] fun _ => ?_
 refine ⟨_,op_shr (r := crc l / 16777216) rfl rfl rfl (by decide) (congrArg (crc l / ·) (by decide)),?_⟩
 refine ⟨_,op_a255 (r := crc l / 16777216) rfl rfl rfl (by omega) (by omega) (by omega),?_⟩
 refine ⟨_,op_toB (r := crc l / 16777216) rfl rfl rfl rfl rfl rfl (by omega) (by omega),?_⟩
 refine ⟨_,op_shr (r := crc l / 65536) rfl rfl rfl (by decide) (congrArg (crc l / ·) (by decide)),?_⟩
 refine ⟨_,op_a255 (r := crc l / 65536 % 256) rfl rfl rfl (by omega) (by omega) rfl,?_⟩
 refine ⟨_,op_toB (r := crc l / 65536 % 256) rfl rfl rfl rfl rfl rfl (by omega) (by omega),?_⟩
 refine ⟨_,op_shr (r := crc l / 256) rfl rfl rfl (by decide) (congrArg (crc l / ·) (by decide)),?_⟩
 refine ⟨_,op_a255 (r := crc l / 256 % 256) rfl rfl rfl (by omega) (by omega) rfl,?_⟩
 refine ⟨_,op_toB (r := crc l / 256 % 256) rfl rfl rfl rfl rfl rfl (by omega) (by omega),?_⟩
 refine ⟨_,op_a255 (r := crc l % 256) rfl rfl rfl (by omega) (by omega) rfl,?_⟩
 refine ⟨_,op_toB (r := crc l % 256) rfl rfl rfl rfl rfl rfl (by omega) (by omega),?_⟩
 refine op_litI (k := .u8) (l := crcB l) rfl rfl rfl rfl rfl rfl (by decide) ?_
 intro q21 s21 hO21 hP21 hN21
 exact cxs (Rt ⟨q21,rfl,hO21,hN21,hP21⟩)
theorem ac_impl_putNums (p : Option Addr) (l : List Int) (st : St) (hR : Rows st 1 fI p l) (hs : szOk l.length) : C 119 [vS p l.length] st (fun v s => ∃ q,v = vS q (numsL l).length ∧ OwnR s 1 fB q (numsL l) ∧ New st.next q ∧ Pres st s) := by
 have hs : l.length ≤ 1048576 := hs
 have hpl := putN_len (l.length : Int)
 refine AC.enterX (i := ⟨[],[],[0,2,3,5,9,10,11,12],[]⟩) [] Try.func119 rfl rfl (by kernel_rfl) (by kernel_rfl) Try.ntmps119 (Lb rfl) rfl ?_
 refine Cu lo0 st [(0,vS p l.length),(2,Sn)] fun _ => ?_
 refine ⟨_,rfl,?_⟩
 refine ⟨_,rfl,(ac_impl_PutNum (l.length : Int) st).mono ?_⟩
 rintro _ s8 ⟨q8,rfl,hO8,hN8,hP8⟩
 refine Cu lo0 s8 [(0,vS p l.length),(2,Sn),(3,vS q8 (putN (l.length : Int)).length)] fun _ => ?_
 refine ⟨_,rfl,?_⟩
 refine Cu lo0 s8 [(2,Sn),(3,vS q8 (putN (l.length : Int)).length),(9,vS p l.length),(10,vI (l.length : Int)),(11,vI 0)] fun _ => ?_
 refine AW.loop0 (fun x : Nat × Option Addr × List Int => [(2,.slice none 0 0),(3,vS x.2.1 x.2.2.length),(9,vS p l.length),(10,vI (l.length : Int)),(11,vI (x.1 : Int))]) (fun m (x : Nat × Option Addr × List Int) st' => m = l.length - x.1 ∧ x.1 ≤ l.length ∧ x.2.2 = putN (l.length : Int) ++ numsB (l.take x.1) ∧ OwnR st' 1 fB x.2.1 x.2.2 ∧ New st.next x.2.1 ∧ Pres st st') (0,q8,putN (l.length : Int)) _ ⟨rfl,rfl,rfl,rfl,rfl,trivial⟩ rfl ⟨rfl,Nat.zero_le _,(List.append_nil _).symm,hO8,hN8,hP8⟩ ?_
 rintro m ⟨i,q,b⟩ ρ0 st' ⟨rfl,hi,hv,hO,hN,hP⟩
 simp only at hi hv hO hN
 have hbl : b.length ≤ 5 + 5 * l.length := by rw [hv,List.length_append]; have := numsB_len (l.take i); rw [List.length_take] at this; omega
 refine ⟨_,rfl,?_⟩
 rintro (_|_) h12
 ·replace h12 : ¬ ((i : Int) < (l.length : Int)) := of_decide_eq_false h12
  refine Cu lo0 st' [(2,Sn),(3,vS q b.length),(9,vS p l.length),(10,vI (l.length : Int)),(11,vI (i : Int)),(12,vB false)] fun _ => ?_
  refine cxs ?_
  refine cxs ?_
  refine ⟨.inl rfl,_,rfl,q,?_⟩
  rw [show numsL l = b by rw [hv,show i = l.length by omega,List.take_length]; rfl]
  exact ⟨rfl,hO,hN,hP⟩
 ·replace h12 : (i : Int) < (l.length : Int) := of_decide_eq_true h12
  refine Cu lo0 st' [(2,Sn),(3,vS q b.length),(9,vS p l.length),(10,vI (l.length : Int)),(11,vI (i : Int)),(12,vB true)] fun _ => ?_
  refine cxs ?_
  refine op_at i (hP.rows hR) (by omega) rfl rfl rfl rfl rfl rfl rfl ?_
  intro x13 b13 d13 k13 hy13 hb13 hm13 hc13 ho13
  refine ⟨_,op_ldc (i := 0) rfl rfl rfl rfl hm13 hc13 rfl rfl,?_⟩
  refine Cu lo0 st' [(2,Sn),(3,vS q b.length),(5,vI x13),(9,vS p l.length),(10,vI (l.length : Int)),(11,vI (i : Int)),(12,vB true)] fun _ => ?_
  obtain ⟨s1,hs1'⟩ : ∃ s1,s1 = st' := ⟨_,rfl⟩
  subst hs1'
  refine ⟨_,rfl,(ac_impl_PutNum x13 s1).mono ?_⟩
  rintro _ s17 ⟨q17,rfl,hO17,hN17,hP17⟩
  have hpn := putN_len x13
  have hfl : fl [⟨q,b⟩,⟨q17,putN x13⟩] = b ++ putN x13 := by simp [fl]
  refine op_litR [⟨q,b⟩,⟨q17,putN x13⟩] rfl rfl rfl (by decide) rfl rfl rfl (by decide) ?_
  intro q18 s18 hO18 hP18 hN18
  refine ⟨_,rfl,(ac_impl_joined q18 [⟨q,b⟩,⟨q17,putN x13⟩] s18 (hO18.rows cRV_len) (fun r hr => by
  simp only [List.mem_cons,List.not_mem_nil,or_false] at hr
  rcases hr with rfl | rfl
  ·exact (hP17.trans hP18).rows (hO.rows fB_len)
  ·exact hP18.rows (hO17.rows fB_len)) (by show (2 : Nat) ≤ 1048576; omega) (by rw [hfl,List.length_append]; omega)).mono ?_⟩
  rintro _ s19 ⟨q19,rfl,hO19,hN19,hP19⟩
  refine Cu lo0 s19 [(2,Sn),(3,vS q19 (fl [⟨q,b⟩,⟨q17,putN x13⟩]).length),(5,vI x13),(9,vS p l.length),(10,vI (l.length : Int)),(11,vI (i : Int)),(12,vB true)] fun _ => ?_
  have ew20 : IntKind.wrap .i64 ((i : Int) + (1)) = ((i + 1 : Nat) : Int) := (wrap_i64 (by omega) (by omega)).trans (by omega)
  refine ⟨_,rfl,?_⟩
  exact ⟨(i + 1,q19,fl [⟨q,b⟩,⟨q17,putN x13⟩]),l.length - (i + 1),by omega,⟨rfl,rfl,rfl,rfl,congrArg (Value.int .i64) ew20,trivial⟩,rfl,rfl,by simp only; omega,by rw [numsB_succ hy13,← List.append_assoc,← hv]; exact hfl,hO19,hN19.le ((hP.trans hP17).trans hP18).1,((hP.trans hP17).trans hP18).trans hP19⟩
theorem mgB0_len {g : Mg} (hb : bigM g) (hk : stateOk g.part) : (mgB0 g).length ≤ 120000000 := by
 have h1 := mgH_len hb hk
 have h2 := fls_len g.marks g.marks.length
 rw [List.take_length] at h2
 have h3 : g.marks.length ≤ 1048576 := hb.marks
 rw [mgB0,List.length_append]
 omega
theorem mgB_len {g : Mg} (hb : bigM g) (hk : stateOk g.part) : (mgB g).length ≤ 120000004 := by
 have h1 := mgB0_len hb hk
 rw [mgB,List.length_append]
 have : (crcB (mgB0 g)).length = 4 := rfl
 omega
theorem ac_impl_MsgBytes (g : MV) (st : St) (hR : RdM st g) (hb : bigM g.x) : C 53 [.agg #[vI g.kind,vI g.frm,vI g.to,vI g.num,vI g.hi,vS g.tree.p g.tree.l.length,vI g.tree.root,vS g.vec.p g.vec.l.length,vS g.leaves.p g.leaves.l.length,vS g.part.p g.part.x.items.length,vS g.part.q g.part.x.floors.length,vS g.marks.p g.marks.l.length]] st (fun v s => ∃ q,v = vS q (mgBz g.x).length ∧ OwnR s 1 fB q (mgBz g.x) ∧ New st.next q ∧ Pres st s) := by
 refine AC.enterX (i := ⟨[1,6],[1,6,10,15,18,21,24,27,30,31,34,35,38,41,48,54,62,65],[0,1,2,3,4,6,9,55,56,57,58],[(4,[2,3,4,5,6,7,8,9,10,11,12,13,14,15,16,17,18,19,20,21,22,23,24,25,26,27,28,29,30,31,32,33,34,35,36,37,38,0,1,39,40,41])]⟩) [(2004,[],[1]),(4,[2,5,8,11,14,18,22,25,28,31,37],[1,4,7,10,13,17,21,24,27,34]),(8,[3],[5])] Try.func53 rfl rfl (by kernel_rfl) (by kernel_rfl) Try.ntmps53 (Lb rfl) rfl ?_
 refine ⟨_,rfl,?_⟩
 refine Cm 1 st [Ml 1 0,(2,Sn)] [(1,0,cMV g)] fun _ _ => ?_
 refine ⟨_,op_ldo (v := (vMV g)) rfl rfl rfl rfl,?_⟩
 refine ⟨_,rfl,(ac_impl_MsgOk g st hR hb).mono ?_⟩
 rintro _ st ⟨x8,rfl,h8,rfl⟩
 rcases x8 with _|_
 ·replace h8 := fun k => Bool.false_ne_true (h8.2 k)
  refine ⟨_,rfl,?_⟩
  refine Cm 1 st [Ml 1 0,(2,Sn),(9,vB true)] [(1,0,cMV g)] fun _ _ => ?_
  refine cxs ?_
  refine ⟨.inl rfl,_,rfl,none,?_⟩
  rw [show mgBz g.x = [] from if_neg h8]
  exact ⟨rfl,OwnR.nil,New.none,Pres.refl _⟩
 ·replace h8 := h8.1 rfl
  refine ⟨_,rfl,?_⟩
  refine Cm 1 st [Ml 1 0,(2,Sn),(9,vB false)] [(1,0,cMV g)] fun _ _ => ?_
  refine cxs ?_
  refine ⟨_,rfl,?_⟩
  refine ⟨_,Od rfl,?_⟩
  refine ⟨_,rfl,(ac_impl_StateBytes g.part st hR.part hb.part (show stateOk g.part.x from h8.2.2.2.2.2.1)).mono ?_⟩
  rintro _ s12 ⟨q12,rfl,hO12,hN12,hP12⟩
  refine Cm 1 s12 [Ml 1 0,(2,Sn),(3,vS q12 (stB g.part.x).length)] [(1,0,cMV g)] fun _ _ => ?_
  have hbH := mgH_len hb (show stateOk g.x.part from h8.2.2.2.2.2.1)
  refine ⟨fun _ => False,?_⟩
  refine ⟨_,rfl,?_⟩
  refine ⟨_,Od rfl,?_⟩
  refine ⟨ld_own rfl rfl rfl,?_⟩
  refine ⟨_,rfl,(ac_impl_PutNum g.kind s12).mono ?_⟩
  rintro _ s17 ⟨q17,rfl,hO17,hN17,hP17⟩
  refine ⟨fun _ h => h.elim,?_⟩
  refine ⟨_,rfl,?_⟩
  refine ⟨_,Od rfl,?_⟩
  refine ⟨ld_own rfl rfl rfl,?_⟩
  refine ⟨_,rfl,(ac_impl_PutNum g.frm s17).mono ?_⟩
  rintro _ s20 ⟨q20,rfl,hO20,hN20,hP20⟩
  refine ⟨fun _ h => h.elim,?_⟩
  refine ⟨_,rfl,?_⟩
  refine ⟨_,Od rfl,?_⟩
  refine ⟨ld_own rfl rfl rfl,?_⟩
  refine ⟨_,rfl,(ac_impl_PutNum g.to s20).mono ?_⟩
  rintro _ s23 ⟨q23,rfl,hO23,hN23,hP23⟩
  refine ⟨fun _ h => h.elim,?_⟩
  refine ⟨_,rfl,?_⟩
  refine ⟨_,Od rfl,?_⟩
  refine ⟨ld_own rfl rfl rfl,?_⟩
  refine ⟨_,rfl,(ac_impl_PutNum g.num s23).mono ?_⟩
  rintro _ s26 ⟨q26,rfl,hO26,hN26,hP26⟩
  refine ⟨fun _ h => h.elim,?_⟩
  refine ⟨_,rfl,?_⟩
  refine ⟨_,Od rfl,?_⟩
  refine ⟨ld_own rfl rfl rfl,?_⟩
  refine ⟨_,rfl,(ac_impl_PutNum g.hi s26).mono ?_⟩
  rintro _ s29 ⟨q29,rfl,hO29,hN29,hP29⟩
  refine ⟨fun _ h => h.elim,?_⟩
  iterate 2 refine ⟨_,rfl,?_⟩
  refine ⟨_,Od rfl,?_⟩
  refine ⟨ld_own rfl rfl rfl,?_⟩
  refine owE_cut [(1,vL 1 0 (0)),(2,.slice none 0 0),(3,vS q12 (stB g.part.x).length),(17,vS q17 (putN g.kind).length),(20,vS q20 (putN g.frm).length),(23,vS q23 (putN g.to).length),(26,vS q26 (putN g.num).length),(29,vS q29 (putN g.hi).length),(32,vS g.tree.p g.tree.l.length)] ⟨rfl,rfl,rfl,rfl,rfl,rfl,rfl,rfl,rfl,trivial⟩ fun _ => ?_
  refine ⟨_,rfl,(ac_impl_putNums g.tree.p g.tree.l s29 ((((((hP12.trans hP17).trans hP20).trans hP23).trans hP26).trans hP29).rows hR.tree) (hb.tree)).mono ?_⟩
  rintro _ s33 ⟨q33,rfl,hO33,hN33,hP33⟩
  refine ⟨fun _ h => h.elim,?_⟩
  iterate 2 refine ⟨_,rfl,?_⟩
  refine ⟨_,Od rfl,?_⟩
  refine ⟨ld_own rfl rfl rfl,?_⟩
  refine ⟨_,rfl,(ac_impl_PutNum g.tree.root s33).mono ?_⟩
  rintro _ s37 ⟨q37,rfl,hO37,hN37,hP37⟩
  refine ⟨fun _ h => h.elim,?_⟩
  refine ⟨_,rfl,?_⟩
  refine ⟨_,Od rfl,?_⟩
  refine ⟨ld_own rfl rfl rfl,?_⟩
  refine ⟨_,rfl,(ac_impl_putNums g.vec.p g.vec.l s37 ((((((((hP12.trans hP17).trans hP20).trans hP23).trans hP26).trans hP29).trans hP33).trans hP37).rows hR.vec) (hb.vec)).mono ?_⟩
  rintro _ s40 ⟨q40,rfl,hO40,hN40,hP40⟩
  refine ⟨fun _ h => h.elim,?_⟩
  refine ⟨_,rfl,?_⟩
  refine ⟨_,Od rfl,?_⟩
  refine ⟨ld_own rfl rfl rfl,?_⟩
  refine ⟨_,rfl,(ac_impl_putNums g.leaves.p g.leaves.l s40 (((((((((hP12.trans hP17).trans hP20).trans hP23).trans hP26).trans hP29).trans hP33).trans hP37).trans hP40).rows hR.leaves) (hb.leaves)).mono ?_⟩
  rintro _ s43 ⟨q43,rfl,hO43,hN43,hP43⟩
  refine ⟨fun _ h => h.elim,?_⟩
  refine ⟨_,rfl,?_⟩
  refine ⟨_,rfl,(ac_impl_PutNum ((stB g.part.x).length : Int) s43).mono ?_⟩
  rintro _ s46 ⟨q46,rfl,hO46,hN46,hP46⟩
  refine ⟨fun _ h => h.elim,?_⟩
  refine ⟨_,rfl,?_⟩
  refine ⟨_,Od rfl,?_⟩
  refine ⟨ld_own rfl rfl rfl,?_⟩
  refine ⟨_,rfl,?_⟩
  refine ⟨_,rfl,(ac_impl_PutNum (g.marks.l.length : Int) s46).mono ?_⟩
  rintro _ s51 ⟨q51,rfl,hO51,hN51,hP51⟩
  refine op_litI (k := .u8) (l := [82,75]) rfl rfl rfl rfl rfl rfl (by decide) ?_
  intro q13 s13 hO13 hP13 hN13
  refine ⟨fun _ h => h.elim,?_⟩
  refine ⟨_,op_fz (l := [82,75]) rfl rfl hO13 (by decide) rfl rfl,?_⟩
  have g51 := hP13
  have g46 := hP51.trans g51
  have g43 := hP46.trans g46
  have g40 := hP43.trans g43
  have g37 := hP40.trans g40
  have g33 := hP37.trans g37
  have g29 := hP33.trans g33
  have g26 := hP29.trans g29
  have g23 := hP26.trans g26
  have g20 := hP23.trans g23
  have g17 := hP20.trans g20
  have g12 := hP17.trans g17
  have hfl : fl [⟨q13,[82,75]⟩,⟨q17,putN g.kind⟩,⟨q20,putN g.frm⟩,⟨q23,putN g.to⟩,⟨q26,putN g.num⟩,⟨q29,putN g.hi⟩,⟨q33,numsL g.tree.l⟩,⟨q37,putN g.tree.root⟩,⟨q40,numsL g.vec.l⟩,⟨q43,numsL g.leaves.l⟩,⟨q46,putN ((stB g.part.x).length : Int)⟩,⟨q12,stB g.part.x⟩,⟨q51,putN (g.marks.l.length : Int)⟩] = mgH g.x := by simp [fl,mgH,numsB,mgN]
  refine op_litR [⟨q13,[82,75]⟩,⟨q17,putN g.kind⟩,⟨q20,putN g.frm⟩,⟨q23,putN g.to⟩,⟨q26,putN g.num⟩,⟨q29,putN g.hi⟩,⟨q33,numsL g.tree.l⟩,⟨q37,putN g.tree.root⟩,⟨q40,numsL g.vec.l⟩,⟨q43,numsL g.leaves.l⟩,⟨q46,putN ((stB g.part.x).length : Int)⟩,⟨q12,stB g.part.x⟩,⟨q51,putN (g.marks.l.length : Int)⟩] rfl rfl rfl (by decide) rfl rfl rfl (by decide) ?_
  intro q52 s52 hO52 hP52 hN52
  refine ⟨_,rfl,(ac_impl_joined q52 [⟨q13,[82,75]⟩,⟨q17,putN g.kind⟩,⟨q20,putN g.frm⟩,⟨q23,putN g.to⟩,⟨q26,putN g.num⟩,⟨q29,putN g.hi⟩,⟨q33,numsL g.tree.l⟩,⟨q37,putN g.tree.root⟩,⟨q40,numsL g.vec.l⟩,⟨q43,numsL g.leaves.l⟩,⟨q46,putN ((stB g.part.x).length : Int)⟩,⟨q12,stB g.part.x⟩,⟨q51,putN (g.marks.l.length : Int)⟩] s52 (hO52.rows cRV_len) (fun r hr => by
  simp only [List.mem_cons,List.not_mem_nil,or_false] at hr
  rcases hr with rfl | rfl | rfl | rfl | rfl | rfl | rfl | rfl | rfl | rfl | rfl | rfl | rfl
  ·exact hP52.rows (hO13.rows fB_len)
  ·exact (g17.trans hP52).rows (hO17.rows fB_len)
  ·exact (g20.trans hP52).rows (hO20.rows fB_len)
  ·exact (g23.trans hP52).rows (hO23.rows fB_len)
  ·exact (g26.trans hP52).rows (hO26.rows fB_len)
  ·exact (g29.trans hP52).rows (hO29.rows fB_len)
  ·exact (g33.trans hP52).rows (hO33.rows fB_len)
  ·exact (g37.trans hP52).rows (hO37.rows fB_len)
  ·exact (g40.trans hP52).rows (hO40.rows fB_len)
  ·exact (g43.trans hP52).rows (hO43.rows fB_len)
  ·exact (g46.trans hP52).rows (hO46.rows fB_len)
  ·exact (g12.trans hP52).rows (hO12.rows fB_len)
  ·exact (g51.trans hP52).rows (hO51.rows fB_len)
  ) (by show (13 : Nat) ≤ 1048576; omega) (by rw [hfl]; omega)).mono ?_⟩
  rintro _ s53 ⟨q53,rfl,hO53,hN53,hP53⟩
  refine AW.cutM (1) s53 [Ml 1 0,(2,Sn),(4,vS q53 (mgH g.x).length)] [(1,0,cMV g)] ⟨rfl,rfl,congrArg (fun l : List Int => vS q53 l.length) hfl,trivial⟩ ⟨rfl,trivial⟩ rfl fun _ _ => ?_
  have hO53 : OwnR s53 1 fB q53 (mgH g.x) := hfl ▸ hO53
  have hP53a := ((hP12.trans g12).trans hP52)
  have hN53' := hN53.le hP53a.1
  have hP53' := hP53a.trans hP53
  refine ⟨_,rfl,?_⟩
  refine ⟨_,Od rfl,?_⟩
  refine ⟨_,rfl,?_⟩
  refine Cm 1 s53 [(2,Sn),(4,vS q53 (mgH g.x).length),(55,vS g.marks.p g.marks.l.length),(56,vI (g.marks.l.length : Int)),(57,vI 0)] [] fun _ _ => ?_
  refine AW.loopM (fun z : Nat × Option Addr × List Int => [(2,.slice none 0 0),(4,vS z.2.1 z.2.2.length),(55,vS g.marks.p g.marks.l.length),(56,vI (g.marks.l.length : Int)),(57,vI (z.1 : Int))]) (fun z : Nat × Option Addr × List Int => []) (fun m (z : Nat × Option Addr × List Int) st' => m = g.marks.l.length - z.1 ∧ z.1 ≤ g.marks.l.length ∧ z.2.2 = mgH g.x ++ flsB (g.marks.l.take z.1) ∧ OwnR st' 1 fB z.2.1 z.2.2 ∧ New st.next z.2.1 ∧ Pres st st') (0,q53,mgH g.x) _ ⟨rfl,rfl,rfl,rfl,rfl,trivial⟩ trivial ⟨rfl,Nat.zero_le _,(List.append_nil _).symm,hO53,hN53',hP53'⟩ ?_
  rintro m ⟨j,r,f⟩ ρ0 ff gg st' ⟨rfl,hj,hw,hOf,hNf,hPf⟩
  simp only at hj hw hOf hNf
  have hb6 : g.marks.l.length ≤ 1048576 := hb.marks
  have hfl2 : f.length ≤ 100000000 + 10 * g.marks.l.length := by rw [hw,List.length_append]; have := fls_len g.marks.l j; omega
  refine ⟨_,rfl,?_⟩
  rintro (_|_) h58
  ·replace h58 : ¬ ((j : Int) < (g.marks.l.length : Int)) := of_decide_eq_false h58
   refine Cm gg st' [(2,Sn),(4,vS r f.length),(55,vS g.marks.p g.marks.l.length),(56,vI (g.marks.l.length : Int)),(57,vI (j : Int)),(58,vB false)] [] fun _ _ => ?_
   have hw1 : f = mgB0 g.x := by rw [hw,show j = g.marks.l.length by omega,List.take_length]; rfl
   have hO1 : OwnR st' 1 fB r (mgB0 g.x) := hw1 ▸ hOf
   have hbl := mgB0_len hb (show stateOk g.x.part from h8.2.2.2.2.2.1)
   have h4 : (crcB (mgB0 g.x)).length = 4 := rfl
   subst hw1
   refine cxs ?_
   refine ⟨_,rfl,(ac_impl_crcBytes r (mgB0 g.x) st' (hO1.rows fB_len) (mgB0_ok _) (by omega)).mono ?_⟩
   rintro _ s73 ⟨q73,rfl,hO73,hN73,hP73⟩
   have hfz : fl [⟨r,mgB0 g.x⟩,⟨q73,crcB (mgB0 g.x)⟩] = mgB g.x := by simp [fl,mgB]
   have hbz := mgB_len hb (show stateOk g.x.part from h8.2.2.2.2.2.1)
   refine op_litR [⟨r,mgB0 g.x⟩,⟨q73,crcB (mgB0 g.x)⟩] rfl rfl rfl (by decide) rfl rfl rfl (by decide) ?_
   intro q74 s74 hO74 hP74 hN74
   refine ⟨_,rfl,(ac_impl_joined q74 [⟨r,mgB0 g.x⟩,⟨q73,crcB (mgB0 g.x)⟩] s74 (hO74.rows cRV_len) (fun r hr => by
  simp only [List.mem_cons,List.not_mem_nil,or_false] at hr
  rcases hr with rfl | rfl
  ·exact (hP73.trans hP74).rows (hO1.rows fB_len)
  ·exact hP74.rows (hO73.rows fB_len)) (by show (2 : Nat) ≤ 1048576; omega) (by rw [hfz]; omega)).mono ?_⟩
   rintro _ s75 ⟨q75,rfl,hO75,hN75,hP75⟩
   refine cxs ?_
   refine ⟨.inl rfl,_,rfl,q75,?_⟩
   rw [show mgBz g.x = mgB g.x from if_pos h8,← hfz]
   exact ⟨rfl,hO75,hN75.le ((hPf.trans hP73).trans hP74).1,((hPf.trans hP73).trans hP74).trans hP75⟩
  ·replace h58 : (j : Int) < (g.marks.l.length : Int) := of_decide_eq_true h58
   refine Cm gg st' [(2,Sn),(4,vS r f.length),(55,vS g.marks.p g.marks.l.length),(56,vI (g.marks.l.length : Int)),(57,vI (j : Int)),(58,vB true)] [] fun _ _ => ?_
   refine cxs ?_
   refine op_at j (hPf.rows hR.marks) (by omega) rfl rfl rfl rfl rfl rfl rfl ?_
   intro x59 b59 d59 k59 hy59 hb59 hm59 hc59 ho59
   refine ⟨_,op_lda rfl rfl rfl rfl rfl hm59 hc59 rfl,?_⟩
   refine ⟨_,rfl,?_⟩
   refine ⟨_,Os rfl,?_⟩
   refine Cm (gg + 1) st' [(2,Sn),(4,vS r f.length),Ml 6 gg,(55,vS g.marks.p g.marks.l.length),(56,vI (g.marks.l.length : Int)),(57,vI (j : Int)),(58,vB true)] [(6,gg,[vI x59.id,vI x59.inc])] fun _ _ => ?_
   refine ⟨_,rfl,?_⟩
   refine ⟨_,Od rfl,?_⟩
   refine ⟨_,rfl,(ac_impl_PutNum x59.id st').mono ?_⟩
   rintro _ s64 ⟨q64,rfl,hO64,hN64,hP64⟩
   refine ⟨hP64.2,?_⟩
   refine ⟨_,rfl,?_⟩
   refine ⟨_,Od rfl,?_⟩
   refine ⟨ld_own rfl rfl rfl,?_⟩
   refine ⟨_,rfl,(ac_impl_PutNum x59.inc s64).mono ?_⟩
   rintro _ s67 ⟨q67,rfl,hO67,hN67,hP67⟩
   have hpa := putN_len x59.id
   have hpb := putN_len x59.inc
   have g64 := hP64.trans hP67
   have hfn : fl [⟨r,f⟩,⟨q64,putN x59.id⟩,⟨q67,putN x59.inc⟩] = f ++ flB x59 := by simp [fl,flB]
   have hil := flB_len x59
   refine op_litR [⟨r,f⟩,⟨q64,putN x59.id⟩,⟨q67,putN x59.inc⟩] rfl rfl rfl (by decide) rfl rfl rfl (by decide) ?_
   intro q68 s68 hO68 hP68 hN68
   refine ⟨_,rfl,(ac_impl_joined q68 [⟨r,f⟩,⟨q64,putN x59.id⟩,⟨q67,putN x59.inc⟩] s68 (hO68.rows cRV_len) (fun r hr => by
  simp only [List.mem_cons,List.not_mem_nil,or_false] at hr
  rcases hr with rfl | rfl | rfl
  ·exact (g64.trans hP68).rows (hOf.rows fB_len)
  ·exact (hP67.trans hP68).rows (hO64.rows fB_len)
  ·exact hP68.rows (hO67.rows fB_len)) (by show (3 : Nat) ≤ 1048576; omega) (by rw [hfn,List.length_append]; omega)).mono ?_⟩
   rintro _ s69 ⟨q69,rfl,hO69,hN69,hP69⟩
   refine Cm (gg + 1) s69 [(2,Sn),(4,vS q69 (fl [⟨r,f⟩,⟨q64,putN x59.id⟩,⟨q67,putN x59.inc⟩]).length),Ml 6 gg,(55,vS g.marks.p g.marks.l.length),(56,vI (g.marks.l.length : Int)),(57,vI (j : Int)),(58,vB true)] [(6,gg,[vI x59.id,vI x59.inc])] fun _ _ => ?_
   have ew70 : IntKind.wrap .i64 ((j : Int) + (1)) = ((j + 1 : Nat) : Int) := (wrap_i64 (by omega) (by omega)).trans (by omega)
   refine ⟨_,rfl,?_⟩
   exact ⟨(j + 1,q69,fl [⟨r,f⟩,⟨q64,putN x59.id⟩,⟨q67,putN x59.inc⟩]),g.marks.l.length - (j + 1),by omega,⟨rfl,rfl,rfl,rfl,congrArg (Value.int .i64) ew70,trivial⟩,trivial,rfl,by first | omega | (simp only; omega),by rw [show flsB (g.marks.l.take (j + 1)) = flsB (g.marks.l.take j) ++ flB x59 from fm_succ hy59,← List.append_assoc,← hw]; exact hfn,hO69,hN69.le ((hPf.trans g64).trans hP68).1,((hPf.trans g64).trans hP68).trans hP69⟩
structure BV where
 p : Option Addr
 l : List Int
 ok : bytesOk l
theorem wt_bytesB {L : LL} {us : List Value} (h : WT Try.prog Try.prog.globals.size 12 22 L us) : ∃ p l,us = [vS p l.length] ∧ Rows (stL Try.prog.globals.size L) 1 fB p l ∧ l.length ≤ maxLen ∧ bytesOk l := by
 obtain ⟨p,l,h1,h2,h3,h4⟩ := WT.rows (f := fB) (Q := fun x => 0 ≤ x ∧ x < 256) Try.underlying22 (z := 1) (by kernel_rfl) (fun us h => by
  obtain ⟨n,h,hw⟩ := WT.int Try.underlying5 h
  refine ⟨n,h,?_⟩
  have e1 : IntKind.u8.min = 0 := by decide
  have e2 : IntKind.u8.max = 255 := by decide
  simp only [Lit.wf,Bool.and_eq_true,decide_eq_true_eq,e1,e2] at hw
  omega) h
 exact ⟨p,l,h1,h2,h3,h4⟩
theorem and255 (x : Int) : 0 ≤ bits .and .i64 x 255 ∧ bits .and .i64 x 255 < 256 := by
 simp only [bits,BitVec.toNat_and]
 have h : (BitVec.ofInt IntKind.i64.bits 255).toNat = 255 := by decide
 rw [h]
 have h2 : (BitVec.ofInt IntKind.i64.bits x).toNat &&& 255 ≤ 255 := Nat.and_le_right
 rw [wrap_i64 (by omega) (by omega)]
 omega
theorem op_and255 {P : Program} {ls : List Tmp} {call : ACallT} {o : Oper} {e : Operand → Value} {lo : Lo} {st : St} {K : Value × Lo × St → Prop} {t ty : TypeId} {x y : Operand} {a : Int} (ho : o.op = .binOp .and t x y ty) (hx : e x = .int .i64 a) (hy : e y = .int .i64 255)
  (hK : ∀ r,0 ≤ r → r < 256 → K (.int .i64 r,lo,st)) : ∃ r,aoper P ls call o e lo st = some r ∧ K r := by
 refine ⟨_,?_,hK (bits .and .i64 a 255) (and255 a).1 (and255 a).2⟩
 obtain ⟨d,op,ty,pos,after,gd⟩ := o
 simp only at ho
 subst ho
 simp [aoper,rop,hx,hy,abin,aint]
def Cur (st : St) (c : Nat) (p : Option Addr) (bs : List Int) : Prop := c < st.next ∧ ∃ (z : Nat) (i : Nat) (h : Int),st.mem c = some ⟨true,z,[.slice p bs.length bs.length,.int .i64 i,.int .i64 h]⟩ ∧ Ints st .u8 p bs ∧ (bs.length = 0 ∨ ∀ q,p = some q → q.block ≠ c) ∧ i ≤ bs.length
def PresC (c : Nat) (st st' : St) : Prop := st.next ≤ st'.next ∧ ∀ a,a < st.next → a ≠ c → st'.mem a = st.mem a
theorem PresC.refl (c : Nat) (st : St) : PresC c st st := ⟨Nat.le_refl _,fun _ _ _ => rfl⟩
theorem PresC.trans {c : Nat} {x y z : St} (h : PresC c x y) (k : PresC c y z) : PresC c x z := ⟨Nat.le_trans h.1 k.1,fun a ha hc => (k.2 a (Nat.lt_of_lt_of_le ha h.1) hc).trans (h.2 a ha hc)⟩
theorem PresC.ints {c : Nat} {st st' : St} {k : IntKind} {p : Option Addr} {l : List Int} (h : PresC c st st') (hi : Ints st k p l) (hp : l.length = 0 ∨ ∀ q,p = some q → q.block ≠ c) : Ints st' k p l := by
 rcases hi with hi | ⟨b,off,blk,rfl,hm,hb,hc⟩
 ·exact .inl hi
 rcases hp with h0 | hp
 ·exact .inl h0
 ·exact .inr ⟨b,off,blk,rfl,(h.2 b hb (hp _ rfl)).trans hm,Nat.lt_of_lt_of_le hb h.1,hc⟩
theorem PresC.own {c : Nat} {st st' : St} {k : IntKind} {p : Option Addr} {l : List Int} (h : PresC c st st') (hi : Own st k p l) (hp : ∀ q,p = some q → q.block ≠ c) : Own st' k p l := by
 rcases hi with ⟨rfl,rfl⟩ | ⟨a,rfl,ha,hm⟩
 ·exact .inl ⟨rfl,rfl⟩
 ·exact .inr ⟨a,rfl,Nat.lt_of_lt_of_le ha h.1,(h.2 a ha (hp _ rfl)).trans hm⟩
theorem Pres.c {c : Nat} {st st' : St} (h : Pres st st') : PresC c st st' := ⟨h.1,fun a ha _ => h.2 a ha⟩
theorem Cur.pres {c : Nat} {st st' : St} {bs : List Int} {p : Option Addr} (h : Pres st st') (hc : Cur st c p bs) : Cur st' c p bs := by
 obtain ⟨h1,z,i,x,hm,hI,hp,hi⟩ := hc
 exact ⟨Nat.lt_of_lt_of_le h1 h.1,z,i,x,(h.2 c h1).trans hm,h.ints hI,hp,hi⟩
theorem Cur.grow {c : Nat} {p q : Option Addr} {st0 st1 st2 : St} {bs : List Int} (h0 : Cur st0 c p bs) (h1 : PresC c st0 st1) (hc : Cur st1 c p bs) (h2 : ∀ a,a < st1.next → (∀ r,q = some r → a ≠ r.block) → st2.mem a = st1.mem a) (hn : st1.next ≤ st2.next) (hq : ∀ r,q = some r → st0.next ≤ r.block) : Cur st2 c p bs := by
 obtain ⟨hlt,_,_,_,_,hI,hp,_⟩ := h0
 obtain ⟨hl,z,i,h,hm,_,_,hi⟩ := hc
 have hP : PresC c st0 st2 := ⟨Nat.le_trans h1.1 hn,fun a ha hne => (h2 a (Nat.lt_of_lt_of_le ha h1.1) fun r hr he => by have := hq r hr; omega).trans (h1.2 a ha hne)⟩
 exact ⟨Nat.lt_of_lt_of_le hl hn,z,i,h,(h2 c hl fun r hr he => by have := hq r hr; omega).trans hm,hP.ints hI hp,hp,hi⟩
theorem ac_l1Byte (c : Nat) (p : Option Addr) (bs : List Int) (st : St) (hc : Cur st c p bs) (hs : bs.length < 1099511627776) : C 115 [.pointer (some ⟨c,0,none⟩)] st (fun v s => ∃ r,v = .int .i64 r ∧ 0 ≤ r ∧ r < 256 ∧ Cur s c p bs ∧ PresC c st s) := by
 obtain ⟨hlt,z,i,h,hm,hI,hp,hi⟩ := hc
 refine AC.enterX (i := ⟨[],[],[0,2,3,34],[]⟩) [(2,[],[]),(3,[],[]),(4,[],[])] Try.func115 rfl rfl (by kernel_rfl) (by kernel_rfl) Try.ntmps115 (Lb rfl) rfl ?_
 refine Cu lo0 st [(0,vP c 0)] fun _ => ?_
 refine ⟨_,rfl,?_⟩
 refine ⟨_,rfl,?_⟩
 refine ⟨_,op_ld rfl rfl rfl rfl hm rfl,?_⟩
 refine ⟨_,rfl,?_⟩
 refine ⟨_,rfl,?_⟩
 refine ⟨_,rfl,?_⟩
 refine ⟨_,rfl,?_⟩
 refine op_stc rfl rfl rfl rfl rfl rfl rfl hm rfl (Lb rfl) ?_
 intro st1 hm1 hn1 hk1
 obtain ⟨h1,hm1⟩ : ∃ h1,st1.mem c = some ⟨true,z,[.slice p bs.length bs.length,.int .i64 i,.int .i64 h1]⟩ := ⟨_,hm1⟩
 have hP1 : PresC c st st1 := ⟨Nat.le_of_eq hn1.symm,fun a _ hne => hk1 a hne⟩
 have hI1 := hP1.ints hI hp
 have hlt1 : c < st1.next := by rw [hn1]; exact hlt
 have hC1 : Cur st1 c p bs := ⟨hlt1,z,i,h1,hm1,hI1,hp,hi⟩
 refine Cu lo0 st1 [(0,vP c 0)] fun _ => ?_
 refine ⟨_,rfl,?_⟩
 refine ⟨_,rfl,?_⟩
 refine ⟨_,op_ld rfl rfl rfl rfl hm1 rfl,?_⟩
 refine ⟨_,rfl,?_⟩
 refine ⟨_,rfl,?_⟩
 refine ⟨_,rfl,?_⟩
 refine ⟨_,op_ld rfl rfl rfl rfl hm1 rfl,?_⟩
 refine ⟨_,rfl,?_⟩
 refine ⟨_,rfl,?_⟩
 refine op_and255 rfl rfl rfl ?_
 intro r1 hr1 hr1'
 refine Cu lo0 st1 [(0,vP c 0),(3,vI r1)] fun _ => ?_
 refine ⟨_,rfl,?_⟩
 refine ⟨_,rfl,?_⟩
 refine ⟨_,op_ld rfl rfl rfl rfl hm1 rfl,?_⟩
 refine ⟨_,rfl,?_⟩
 refine ⟨_,rfl,?_⟩
 refine ⟨_,op_ld rfl rfl rfl rfl hm1 rfl,?_⟩
 refine ⟨_,rfl,?_⟩
 refine ⟨_,rfl,?_⟩
 rintro (_|_) hd
 ·refine Cu lo0 st1 [(0,vP c 0),(3,vI r1),(34,vB false)] fun _ => ?_
  refine Cu lo0 st1 [(0,vP c 0),(3,vI r1)] fun _ => ?_
  repeat refine cxs ?_
  exact Rt ⟨r1,rfl,hr1,hr1',hC1,hP1⟩
 ·refine Cu lo0 st1 [(0,vP c 0),(3,vI r1),(34,vB true)] fun _ => ?_
  have hd : i < bs.length := Int.ofNat_lt.1 (of_decide_eq_true (show decide ((i : Int) < (bs.length : Int)) = true from hd))
  obtain ⟨b1,o1,k1,hpe,hb1,hc1⟩ := hI1.at hd
  refine ⟨_,rfl,?_⟩
  refine ⟨_,rfl,?_⟩
  refine ⟨_,op_ld rfl rfl rfl rfl hm1 rfl,?_⟩
  refine ⟨_,rfl,?_⟩
  refine ⟨_,rfl,?_⟩
  refine ⟨_,op_ld rfl rfl rfl rfl hm1 rfl,?_⟩
  refine ⟨_,op_idx (j := (i : Int)) (n := bs.length) (q := ⟨b1,o1,none⟩) rfl (congrArg (fun u => Value.slice u bs.length bs.length) hpe) rfl rfl rfl (Int.natCast_nonneg i) (Int.ofNat_lt.2 hd),?_⟩
  refine ⟨_,op_ld rfl rfl rfl rfl hb1 hc1,?_⟩
  refine ⟨_,rfl,?_⟩
  refine ⟨_,rfl,?_⟩
  refine op_and255 rfl rfl rfl ?_
  intro r2 hr2 hr2'
  refine Cu lo0 st1 [(0,vP c 0),(3,vI r2)] fun _ => ?_
  refine ⟨_,rfl,?_⟩
  refine ⟨_,rfl,?_⟩
  refine ⟨_,op_ld rfl rfl rfl rfl hm1 rfl,?_⟩
  refine ⟨_,rfl,?_⟩
  refine ⟨_,rfl,?_⟩
  refine ⟨_,rfl,?_⟩
  refine op_stc rfl rfl rfl rfl rfl rfl rfl hm1 rfl (Lb rfl) ?_
  intro st2 hm2 hn2 hk2
  have hm2 : st2.mem c = some ⟨true,z,[.slice p bs.length bs.length,.int .i64 (IntKind.wrap .i64 ((i : Int) + 1)),.int .i64 h1]⟩ := hm2
  rw [wrap_i64 (by omega) (by omega)] at hm2
  have hP2 : PresC c st1 st2 := ⟨Nat.le_of_eq hn2.symm,fun a _ hne => hk2 a hne⟩
  have hlt2 : c < st2.next := by rw [hn2]; exact hlt1
  have hC : Cur st2 c p bs := ⟨hlt2,z,i + 1,h1,hm2,hP2.ints hI1 hp,hp,hd⟩
  refine Cu lo0 st2 [(0,vP c 0),(3,vI r2)] fun _ => ?_
  repeat refine cxs ?_
  exact Rt ⟨r2,rfl,hr2,hr2',hC,hP1.trans hP2⟩
theorem tmod_lt {x n : Int} (hx : 0 ≤ x) (hn : 0 < n) : 0 ≤ x.tmod n ∧ x.tmod n < n := ⟨Int.tmod_nonneg _ hx,Int.tmod_lt_of_pos _ hn⟩
theorem ac_l1Below (c : Nat) (p : Option Addr) (bs : List Int) (n : Int) (st : St) (hc : Cur st c p bs) (hs : bs.length < 1099511627776) : C 70 [.pointer (some ⟨c,0,none⟩),.int .i64 n] st (fun v s => ∃ r,v = .int .i64 r ∧ 0 ≤ r ∧ (0 < n → r < n) ∧ (n ≤ 0 → r = 0) ∧ Cur s c p bs ∧ PresC c st s) := by
 refine AC.enter' (i := ⟨[],[],[0,1,4,5,6,7,8,10,12],[]⟩) Try.func70 rfl rfl (by kernel_rfl) Try.ntmps70 (Lb rfl) rfl (cw_sound _ _ _ _ _ ?_)
 refine ⟨_,rfl,?_⟩
 rintro (_|_) h0
 ·have h0 : 0 < n := by simpa using h0
  refine ⟨_,rfl,?_⟩
  rintro (_|_) h1
  ·refine ⟨_,rfl,(ac_l1Byte c p bs st hc hs).mono ?_⟩
   rintro _ s1 ⟨r1,rfl,hr1,hr1',hc1,hp1⟩
   refine ⟨_,rfl,(ac_l1Byte c p bs s1 hc1 hs).mono ?_⟩
   rintro _ s2 ⟨r2,rfl,hr2,hr2',hc2,hp2⟩
   refine ⟨_,rfl,(ac_l1Byte c p bs s2 hc2 hs).mono ?_⟩
   rintro _ s3 ⟨r3,rfl,hr3,hr3',hc3,hp3⟩
   refine ⟨_,rfl,(ac_l1Byte c p bs s3 hc3 hs).mono ?_⟩
   rintro _ s4 ⟨r4,rfl,hr4,hr4',hc4,hp4⟩
   refine ⟨_,rfl,?_⟩
   refine ⟨_,rfl,?_⟩
   refine ⟨_,rfl,?_⟩
   refine ⟨_,rfl,?_⟩
   refine ⟨_,rfl,?_⟩
   refine ⟨_,rfl,?_⟩
   refine ⟨_,op_rem rfl rfl rfl (by omega),?_⟩
   have e1 : IntKind.wrap .i64 (r1 * 16777216) = r1 * 16777216 := wrap_i64 (by omega) (by omega)
   have e2 : IntKind.wrap .i64 (r2 * 65536) = r2 * 65536 := wrap_i64 (by omega) (by omega)
   have e3 : IntKind.wrap .i64 (r3 * 256) = r3 * 256 := wrap_i64 (by omega) (by omega)
   have e4 : IntKind.wrap .i64 (r1 * 16777216 + r2 * 65536) = r1 * 16777216 + r2 * 65536 := wrap_i64 (by omega) (by omega)
   have e5 : IntKind.wrap .i64 (r1 * 16777216 + r2 * 65536 + r3 * 256) = r1 * 16777216 + r2 * 65536 + r3 * 256 := wrap_i64 (by omega) (by omega)
   have e6 : IntKind.wrap .i64 (r1 * 16777216 + r2 * 65536 + r3 * 256 + r4) = r1 * 16777216 + r2 * 65536 + r3 * 256 + r4 := wrap_i64 (by omega) (by omega)
   have hX : 0 ≤ IntKind.wrap .i64 (IntKind.wrap .i64 (IntKind.wrap .i64 (IntKind.wrap .i64 (r1 * 16777216) + IntKind.wrap .i64 (r2 * 65536)) + IntKind.wrap .i64 (r3 * 256)) + r4) := by
    rw [e1,e2,e4,e3,e5,e6]; omega
   refine ⟨.inl rfl,_,rfl,_,rfl,(tmod_lt hX h0).1,fun _ => (tmod_lt hX h0).2,fun h => by omega,hc4,((hp1.trans hp2).trans hp3).trans hp4⟩
  ·refine ⟨_,rfl,(ac_l1Byte c p bs st hc hs).mono ?_⟩
   rintro _ s1 ⟨r1,rfl,hr1,hr1',hc1,hp1⟩
   refine ⟨_,op_rem rfl rfl rfl (by omega),?_⟩
   refine ⟨.inl rfl,_,rfl,_,rfl,(tmod_lt hr1 h0).1,fun _ => (tmod_lt hr1 h0).2,fun h => by omega,hc1,hp1⟩
 ·have h0 : n ≤ 0 := by simpa using h0
  exact Rt ⟨0,rfl,Int.le_refl _,fun h => by omega,fun _ => rfl,hc,PresC.refl _ _⟩
theorem ac_l1Once (c : Nat) (p : Option Addr) (bs : List Int) (n : Int) (st : St) (hc : Cur st c p bs) (hs : bs.length < 1099511627776) : C 145 [.pointer (some ⟨c,0,none⟩),.int .i64 n] st (fun v s => ∃ b,v = .bool b ∧ Cur s c p bs ∧ PresC c st s) := by
 refine AC.enter' (i := ⟨[],[],[0,1,4],[]⟩) Try.func145 rfl rfl (by kernel_rfl) Try.ntmps145 (Lb rfl) rfl (cw_sound _ _ _ _ _ ?_)
 refine ⟨_,rfl,(ac_l1Below c p bs n st hc hs).mono ?_⟩
 rintro _ s1 ⟨r1,rfl,_,_,_,hc1,hp1⟩
 refine ⟨_,rfl,?_⟩
 intro b hb
 exact Rt ⟨b,rfl,hc1,hp1⟩
theorem Ints.ap {st : St} {k : IntKind} {p : Option Addr} {l : List Int} (h : Ints st k p l) : l.length = 0 ∨ ∀ q,p = some q → q.block ≠ st.next := by
 rcases h with h | ⟨b,off,blk,rfl,_,hb,_⟩
 ·exact .inl h
 ·exact .inr fun q hq => by injection hq with hq; subst hq; exact Nat.ne_of_lt hb
theorem PresC.of {c : Nat} {st st' : St} : PresC c st st' ↔ Pr (some ⟨c,0,none⟩) st st' :=
 ⟨fun h => ⟨h.1,fun a ha hn => h.2 a ha (hn _ rfl)⟩,fun h => ⟨h.1,fun a ha hn => h.2 a ha fun q hq => by injection hq with hq; subst hq; exact hn⟩⟩
theorem ac_spec_l1New (p : Option Addr) (l : List Int) (st : St) (hI : Ints st .u8 p l) (hs : l.length < 1099511627776) : C 68 [vS p l.length] st (fun v s => v = vP st.next 0 ∧ Cur s st.next p l ∧ Pres st s ∧ s.next = st.next + 1) := by
 refine AC.enterX (i := ⟨[],[],[0,2,3,4,15],[]⟩) [] Try.func68 rfl rfl (by kernel_rfl) (by kernel_rfl) Try.ntmps68 (Lb rfl) rfl ?_
 refine Cu lo0 st [(0,vS p l.length),(2,_)] fun _ => ?_
 iterate 2 refine ⟨_,rfl,?_⟩
 refine cxs ?_
 refine Cu lo0 st [(0,vS p l.length),(2,_),(3,_),(4,vI 0)] fun _ => ?_
 refine AW.loop0 (fun x : Int × Nat => [(0,vS p l.length),(2,.pointer none),(3,vI x.1),(4,vI x.2)]) (fun m (x : Int × Nat) st' => m = l.length - x.2 ∧ x.2 ≤ l.length ∧ st' = st) (_,0) _ ⟨rfl,rfl,rfl,rfl,trivial⟩ rfl ⟨rfl,Nat.zero_le _,rfl⟩ ?_
 rintro m x ρ0 st' ⟨rfl,hi,rfl⟩
 iterate 2 refine ⟨_,rfl,?_⟩
 rintro (_|_) h1
 ·replace h1 : ¬ ((x.2 : Int) < (l.length : Int)) := of_decide_eq_false h1
  refine ⟨_,rfl,?_⟩
  refine Cu lo0 st' [(0,vS p l.length),(2,.pointer none),(3,vI x.1),(4,vI x.2),(15,vB false)] fun _ => ?_
  refine cxs ?_
  iterate 2 refine ⟨_,rfl,?_⟩
  refine cxs ?_
  refine ⟨.inl rfl,_,rfl,rfl,⟨Nat.lt_succ_self _,0,0,_,if_pos rfl,Pres.push.ints hI,hI.ap,Nat.zero_le _⟩,Pres.push,rfl⟩
 ·replace h1 : (x.2 : Int) < (l.length : Int) := of_decide_eq_true h1
  refine ⟨_,rfl,?_⟩
  rintro (_|_) h2
  ·refine ⟨_,rfl,?_⟩
   refine Cu lo0 st' [(0,vS p l.length),(2,.pointer none),(3,vI x.1),(4,vI x.2),(15,vB false)] fun _ => ?_
   refine cxs ?_
   iterate 2 refine ⟨_,rfl,?_⟩
   refine cxs ?_
   refine ⟨.inl rfl,_,rfl,rfl,⟨Nat.lt_succ_self _,0,0,_,if_pos rfl,Pres.push.ints hI,hI.ap,Nat.zero_le _⟩,Pres.push,rfl⟩
  ·refine ⟨_,rfl,?_⟩
   refine Cu lo0 st' [(0,vS p l.length),(2,.pointer none),(3,vI x.1),(4,vI x.2),(15,vB true)] fun _ => ?_
   obtain ⟨b1,o1,k1,hpe,hb1,hc1⟩ := hI.at (Int.ofNat_lt.1 h1)
   refine cxs ?_
   refine ⟨_,rfl,?_⟩
   refine ⟨_,op_idx (j := (x.2 : Int)) (n := l.length) rfl (congrArg (fun u => vS u l.length) hpe) rfl rfl rfl (Int.natCast_nonneg _) h1,?_⟩
   refine ⟨_,op_ld rfl rfl rfl rfl hb1 hc1,?_⟩
   iterate 4 refine ⟨_,rfl,?_⟩
   refine Cu lo0 st' [(0,vS p l.length),(2,.pointer none),(3,_),(4,vI x.2),(15,vB true)] fun _ => ?_
   have e1 : IntKind.wrap .i64 ((x.2 : Int) + 1) = ((x.2 + 1 : Nat) : Int) := wrap_i64 (by omega) (by omega)
   refine ⟨_,rfl,?_⟩
   refine ⟨(_,x.2 + 1),l.length - (x.2 + 1),?_,⟨rfl,rfl,rfl,congrArg (Value.int .i64) e1,trivial⟩,rfl,rfl,?_,rfl⟩
   ·omega
   ·omega
theorem PresC.pres {c : Nat} {st st1 st2 : St} (h : Pres st st1) (k : PresC c st1 st2) (hc : st.next ≤ c) : Pres st st2 := ⟨Nat.le_trans h.1 k.1,fun a ha => (k.2 a (Nat.lt_of_lt_of_le ha h.1) (by omega)).trans (h.2 a ha)⟩
def cmpI (a b : Int) : Int := if a < b then -1 else if a > b then 1 else 0
def firstNZ : List Int → Int
 | [] => 0
 | x :: l => if x = 0 then firstNZ l else x
def cmpB (a b : ByteArray) : Int := Lib.compareBytes a.data.toList b.data.toList
def entCmp (a b : Ent) : Int := firstNZ [cmpI a.inc b.inc,cmpI a.rank b.rank,cmpI a.beat b.beat,cmpI a.ver b.ver,cmpB a.data b.data]
def entMax (a b : Ent) : Ent := if entCmp a b < 0 then b else a
theorem compareBytes_less : ∀ (a b : List UInt8),Lib.compareBytes a b = if Op.bytesLess a b = true then -1 else if (a == b) = true then 0 else 1
 | [],[] => by simp [Lib.compareBytes,Op.bytesLess]
 | [],b :: bs => by simp [Lib.compareBytes,Op.bytesLess]
 | a :: l,[] => by simp [Lib.compareBytes,Op.bytesLess]
 | a :: l,b :: bs => by
  have ih := compareBytes_less l bs
  unfold Lib.compareBytes
  by_cases h1 : a < b
  ·simp [Op.bytesLess,h1]
  ·by_cases h2 : b < a
   ·have hne : ¬ a = b := fun h => by rw [h] at h2; exact UInt8.lt_irrefl _ h2
    simp [Op.bytesLess,h1,h2,hne]
   ·have he : a = b := UInt8.le_antisymm (UInt8.not_lt.1 h2) (UInt8.not_lt.1 h1)
    subst he
    simp only [h1,if_false,ih,Op.bytesLess,beq_self_eq_true,Bool.true_and,Bool.false_or,decide_false]
    simp
theorem ac_spec_l1BitT (st : St) : C 183 [vB true] st (fun v s => v = vI 1 ∧ s = st) := by
 refine AC.enterX (i := ⟨[],[],[0,2,3],[]⟩) [] Try.func183 rfl rfl (by kernel_rfl) (by kernel_rfl) Try.ntmps183 (Lb rfl) rfl ?_
 refine cxs ?_
 refine Cu lo0 st [(2,vI 0),(3,vB true)] fun _ => ?_
 exact cxs (Rt ⟨rfl,rfl⟩)
theorem ac_spec_l1BitF (st : St) : C 183 [vB false] st (fun v s => v = vI 0 ∧ s = st) := by
 refine AC.enterX (i := ⟨[],[],[0,2,3],[]⟩) [] Try.func183 rfl rfl (by kernel_rfl) (by kernel_rfl) Try.ntmps183 (Lb rfl) rfl ?_
 refine cxs ?_
 refine Cu lo0 st [(2,vI 0),(3,vB false)] fun _ => ?_
 refine cxs ?_
 exact cxs (Rt ⟨rfl,rfl⟩)
theorem ac_spec_l2Cmp (a b : Int) (st : St) : C 182 [vI a,vI b] st (fun v s => v = vI (cmpI a b) ∧ s = st) := by
 refine AC.enterX (i := ⟨[],[],[0,1,4,7],[]⟩) [] Try.func182 rfl rfl (by kernel_rfl) (by kernel_rfl) Try.ntmps182 (Lb rfl) rfl ?_
 refine Cu lo0 st [(0,vI a),(1,vI b),(4,vI 0)] fun _ => ?_
 refine ⟨_,rfl,?_⟩
 rintro (_|_) h1
 ·replace h1 : ¬ (a < b) := of_decide_eq_false h1
  refine Cu lo0 st [(0,vI a),(1,vI b),(4,vI 0),(7,vB false)] fun _ => ?_
  refine cxs ?_
  refine ⟨_,rfl,?_⟩
  rintro (_|_) h2
  ·replace h2 : ¬ (a > b) := of_decide_eq_false h2
   refine ⟨_,rfl,(ac_spec_l1BitF st).mono ?_⟩
   rintro _ st ⟨rfl,rfl⟩
   exact cxs (Rt ⟨congrArg vI (by rw [cmpI,if_neg h1,if_neg h2]),rfl⟩)
  ·replace h2 : a > b := of_decide_eq_true h2
   refine ⟨_,rfl,(ac_spec_l1BitT st).mono ?_⟩
   rintro _ st ⟨rfl,rfl⟩
   exact cxs (Rt ⟨congrArg vI (by rw [cmpI,if_neg h1,if_pos h2]),rfl⟩)
 ·replace h1 : a < b := of_decide_eq_true h1
  refine Cu lo0 st [(0,vI a),(1,vI b),(4,vI 0),(7,vB true)] fun _ => ?_
  exact cxs (Rt ⟨congrArg vI (by rw [cmpI,if_pos h1]),rfl⟩)
abbrev four (a b : Ent) : List Int := [cmpI a.inc b.inc,cmpI a.rank b.rank,cmpI a.beat b.beat,cmpI a.ver b.ver]
theorem ac_spec_EntryCmp (a b : Ent) (st : St) : C 155 [.agg #[vI a.inc,vI a.rank,vI a.beat,vI a.ver,.string a.data],.agg #[vI b.inc,vI b.rank,vI b.beat,vI b.ver,.string b.data]] st (fun v s => v = vI (entCmp a b) ∧ Pres st s) := by
 refine AC.enterX (i := ⟨[2,3],[2,3,7,9,12,14,17,19,22,24,43,45,48,50],[0,1,2,3,4,5,6,31,38,47],[]⟩) [(1,[4,9,14],[6,8,11,13,16,18])] Try.func155 rfl rfl (by kernel_rfl) (by kernel_rfl) Try.ntmps155 (Lb rfl) rfl ?_
 iterate 2 refine ⟨_,rfl,?_⟩
 refine Cm 2 st [Ml 2 0,Ml 3 1,(4,vI 0)] [(2,0,[vI a.inc,vI a.rank,vI a.beat,vI a.ver,.string a.data]),(3,1,[vI b.inc,vI b.rank,vI b.beat,vI b.ver,.string b.data])] fun _ _ => ?_
 iterate 4 refine ⟨_,rfl,?_⟩
 refine ⟨_,rfl,(ac_spec_l2Cmp a.inc b.inc st).mono ?_⟩
 rintro _ st ⟨rfl,rfl⟩
 refine ⟨fun _ _ => rfl,?_⟩
 iterate 2 refine ⟨_,rfl,?_⟩
 refine ⟨ld_own rfl rfl rfl,?_⟩
 iterate 2 refine ⟨_,rfl,?_⟩
 refine ⟨ld_own rfl rfl rfl,?_⟩
 refine ⟨_,rfl,(ac_spec_l2Cmp a.rank b.rank st).mono ?_⟩
 rintro _ st ⟨rfl,rfl⟩
 refine ⟨fun _ _ => rfl,?_⟩
 iterate 2 refine ⟨_,rfl,?_⟩
 refine ⟨ld_own rfl rfl rfl,?_⟩
 iterate 2 refine ⟨_,rfl,?_⟩
 refine ⟨ld_own rfl rfl rfl,?_⟩
 refine ⟨_,rfl,(ac_spec_l2Cmp a.beat b.beat st).mono ?_⟩
 rintro _ st ⟨rfl,rfl⟩
 refine ⟨fun _ _ => rfl,?_⟩
 iterate 2 refine ⟨_,rfl,?_⟩
 refine ⟨ld_own rfl rfl rfl,?_⟩
 iterate 2 refine ⟨_,rfl,?_⟩
 refine ⟨ld_own rfl rfl rfl,?_⟩
 refine ⟨_,rfl,(ac_spec_l2Cmp a.ver b.ver st).mono ?_⟩
 rintro _ st ⟨rfl,rfl⟩
 refine op_litI (k := .i64) (l := four a b) rfl rfl rfl rfl rfl rfl (Lb rfl) ?_
 intro q s1 hO1 hP1 hN1
 refine cxs ?_
 refine Cm 2 s1 [Ml 2 0,Ml 3 1,(4,vI 0),(5,vS q 4),(6,vI 0)] [(2,0,[vI a.inc,vI a.rank,vI a.beat,vI a.ver,.string a.data]),(3,1,[vI b.inc,vI b.rank,vI b.beat,vI b.ver,.string b.data])] fun _ _ => ?_
 refine AW.loopM (fun i : Nat => [(2,vL 2 0 (0)),(3,vL 3 0 (1)),(5,vS q 4),(6,vI (i : Int))]) (fun i : Nat => [(2,0,[vI a.inc,vI a.rank,vI a.beat,vI a.ver,.string a.data]),(3,1,[vI b.inc,vI b.rank,vI b.beat,vI b.ver,.string b.data])]) (fun m (i : Nat) st' => m = 4 - i ∧ i ≤ 4 ∧ entCmp a b = firstNZ ((four a b).drop i ++ [cmpB a.data b.data]) ∧ s1 = st') 0 _ ⟨rfl,rfl,rfl,rfl,trivial⟩ ⟨rfl,rfl,trivial⟩ ⟨rfl,Nat.zero_le _,rfl,rfl⟩ ?_
 rintro m i ρ0 ff gg st' ⟨rfl,hi,hf,rfl⟩
 iterate 2 refine ⟨_,rfl,?_⟩
 rintro (_|_) h1
 ·replace h1 : ¬ ((i : Int) < 4) := of_decide_eq_false h1
  refine Cm gg s1 [Ml 2 0,Ml 3 1,(5,vS q 4),(6,vI (i : Int)),(31,vB false)] [(2,0,[vI a.inc,vI a.rank,vI a.beat,vI a.ver,.string a.data]),(3,1,[vI b.inc,vI b.rank,vI b.beat,vI b.ver,.string b.data])] fun _ _ => ?_
  have hil : i = 4 := by omega
  have hf : entCmp a b = firstNZ [cmpB a.data b.data] := by rw [hf,hil]; rfl
  have hf : entCmp a b = cmpB a.data b.data := by rw [hf,firstNZ,firstNZ]; split <;> simp [*]
  have hcb := compareBytes_less a.data.data.toList b.data.data.toList
  have hcb : cmpB a.data b.data = if Op.bytesLess a.data.toList b.data.toList = true then -1 else if (a.data.toList == b.data.toList) = true then 0 else 1 := by rw [ByteArray.toList_eq,ByteArray.toList_eq]; exact hcb
  refine cxs ?_
  refine ⟨_,rfl,?_⟩
  refine ⟨_,Od rfl,?_⟩
  refine ⟨_,rfl,?_⟩
  refine ⟨_,Od rfl,?_⟩
  refine ⟨_,rfl,?_⟩
  rintro (_|_) h3
  ·refine Cm gg s1 [Ml 2 0,Ml 3 1,(47,vB false)] [(2,0,[vI a.inc,vI a.rank,vI a.beat,vI a.ver,.string a.data]),(3,1,[vI b.inc,vI b.rank,vI b.beat,vI b.ver,.string b.data])] fun _ _ => ?_
   refine cxs ?_
   refine ⟨_,rfl,?_⟩
   refine ⟨_,Od rfl,?_⟩
   refine ⟨_,rfl,?_⟩
   refine ⟨_,Od rfl,?_⟩
   refine ⟨_,rfl,?_⟩
   rintro (_|_) h4
   ·refine ⟨_,rfl,(ac_spec_l1BitF s1).mono ?_⟩
    rintro _ s1 ⟨rfl,rfl⟩
    refine cxs ?_
    have h3 : Op.bytesLess a.data.toList b.data.toList = false := h3
    have h4 : (!(Op.bytesLess a.data.toList b.data.toList || a.data.toList == b.data.toList)) = false := h4
    have h5 : (a.data.toList == b.data.toList) = true := by rw [h3,Bool.false_or] at h4; simpa using h4
    exact Rt ⟨congrArg vI (by rw [hf,hcb,h3,h5]; rfl),hP1⟩
   ·refine ⟨_,rfl,(ac_spec_l1BitT s1).mono ?_⟩
    rintro _ s1 ⟨rfl,rfl⟩
    refine cxs ?_
    have h3 : Op.bytesLess a.data.toList b.data.toList = false := h3
    have h4 : (!(Op.bytesLess a.data.toList b.data.toList || a.data.toList == b.data.toList)) = true := h4
    have h5 : (a.data.toList == b.data.toList) = false := by rw [h3,Bool.false_or] at h4; simpa using h4
    exact Rt ⟨congrArg vI (by rw [hf,hcb,h3,h5]; rfl),hP1⟩
  ·refine Cm gg s1 [Ml 2 0,Ml 3 1,(47,vB true)] [(2,0,[vI a.inc,vI a.rank,vI a.beat,vI a.ver,.string a.data]),(3,1,[vI b.inc,vI b.rank,vI b.beat,vI b.ver,.string b.data])] fun _ _ => ?_
   refine cxs ?_
   have h3 : Op.bytesLess a.data.toList b.data.toList = true := h3
   exact Rt ⟨congrArg vI (by rw [hf,hcb,if_pos h3]),hP1⟩
 ·replace h1 : (i : Int) < 4 := of_decide_eq_true h1
  refine Cm gg s1 [Ml 2 0,Ml 3 1,(5,vS q 4),(6,vI (i : Int)),(31,vB true)] [(2,0,[vI a.inc,vI a.rank,vI a.beat,vI a.ver,.string a.data]),(3,1,[vI b.inc,vI b.rank,vI b.beat,vI b.ver,.string b.data])] fun _ _ => ?_
  have h1' : i < (four a b).length := by simp only [List.length_cons,List.length_nil]; omega
  have ⟨b1,o1,k1,x,hpe,hx,hm1,hc1,hb1⟩ := (hO1.rows fI_len).atB h1'
  rw [(split_at' hx).2.2,List.cons_append,firstNZ] at hf
  refine cxs ?_
  refine ⟨_,op_idx (j := (i : Int)) (n := 4) (q := ⟨b1,o1,none⟩) rfl (congrArg (fun u => vS u 4) hpe) rfl rfl rfl (Int.natCast_nonneg _) h1,?_⟩
  refine ⟨_,op_ldc (i := 0) rfl rfl rfl rfl hm1 hc1 rfl rfl,?_⟩
  refine ⟨_,rfl,?_⟩
  rintro (_|_) h2
  ·replace h2 : x = 0 := bne_eq_false_iff_eq.1 h2
   refine Cm gg s1 [Ml 2 0,Ml 3 1,(5,vS q 4),(6,vI (i : Int)),(31,vB true),(38,vB false)] [(2,0,[vI a.inc,vI a.rank,vI a.beat,vI a.ver,.string a.data]),(3,1,[vI b.inc,vI b.rank,vI b.beat,vI b.ver,.string b.data])] fun _ _ => ?_
   refine cxs ?_
   have e33 : IntKind.wrap .i64 ((i : Int) + 1) = ((i + 1 : Nat) : Int) := (wrap_i64 (by omega) (by omega)).trans (by omega)
   refine ⟨_,rfl,?_⟩
   exact ⟨i + 1,4 - (i + 1),by omega,⟨rfl,rfl,rfl,congrArg (Value.int .i64) e33,trivial⟩,⟨rfl,rfl,trivial⟩,rfl,by omega,by rw [hf,if_pos h2],rfl⟩
  ·replace h2 : ¬ (x = 0) := bne_iff_ne.1 h2
   refine Cm gg s1 [Ml 2 0,Ml 3 1,(5,vS q 4),(6,vI (i : Int)),(31,vB true),(38,vB true)] [(2,0,[vI a.inc,vI a.rank,vI a.beat,vI a.ver,.string a.data]),(3,1,[vI b.inc,vI b.rank,vI b.beat,vI b.ver,.string b.data])] fun _ _ => ?_
   refine ⟨_,op_idx (j := (i : Int)) (n := 4) (q := ⟨b1,o1,none⟩) rfl (congrArg (fun u => vS u 4) hpe) rfl rfl rfl (Int.natCast_nonneg _) h1,?_⟩
   refine ⟨_,op_ldc (i := 0) rfl rfl rfl rfl hm1 hc1 rfl rfl,?_⟩
   exact cxs (Rt ⟨congrArg vI (by rw [hf,if_neg h2]),hP1⟩)
abbrev topF (a b : Sta) (id : Int) : Int := max (floorOf a.floors id) (floorOf b.floors id)
abbrev topE (a b : Sta) (id : Int) : Ent := entMax (entP a.items id).1 (entP b.items id).1
def joinF (a b : Sta) (n : Nat) : Sta := ⟨(List.range n).filterMap fun (j : Nat) => if (topE a b (j : Int)).inc > topF a b (j : Int) then some ⟨(j : Int),topE a b (j : Int)⟩ else none,
 (List.range n).filterMap fun (j : Nat) => if topF a b (j : Int) > 0 then some ⟨(j : Int),topF a b (j : Int)⟩ else none⟩
theorem joinF_items (a b : Sta) (n : Nat) : (joinF a b (n + 1)).items = if (topE a b (n : Int)).inc > topF a b (n : Int) then (joinF a b n).items ++ [⟨(n : Int),topE a b (n : Int)⟩] else (joinF a b n).items := by
 unfold joinF
 simp only [List.range_succ,List.filterMap_append]
 split <;> simp [*]
theorem joinF_floors (a b : Sta) (n : Nat) : (joinF a b (n + 1)).floors = if topF a b (n : Int) > 0 then (joinF a b n).floors ++ [⟨(n : Int),topF a b (n : Int)⟩] else (joinF a b n).floors := by
 unfold joinF
 simp only [List.range_succ,List.filterMap_append]
 split <;> simp [*]
theorem joinF_len (a b : Sta) : ∀ n,(joinF a b n).items.length ≤ n ∧ (joinF a b n).floors.length ≤ n
 | 0 => by simp [joinF]
 | n + 1 => by
  have := joinF_len a b n
  rw [joinF_items,joinF_floors]
  refine ⟨?_,?_⟩ <;> split <;> (try rw [List.length_append,List.length_singleton]) <;> omega
end Go.Proofs.Yteabadoaeadcgaa.AM
