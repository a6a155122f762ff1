/- Part 2 of the texts on which the law's proof rests. -/
import Derived.Test.YteabadoaeadcgaaXea
namespace Go.Proofs.Yteabadoaeadcgaa.AM
open Go Go.Proofs
set_option linter.unusedVariables false
set_option linter.unusedSimpArgs false
def Frs (a b : St) (l : List Pc) : Prop := OwnP b l ∧ NewP a.next l ∧ Pres a b
theorem Frs.join {a b c : St} {l m : List Pc} (h : Frs a b l) (k : Frs b c m) : Frs a c (l ++ m) :=
 ⟨h.1.join k.2.2 k.1 k.2.1,h.2.1.app (k.2.1.le h.2.2.1),h.2.2.trans k.2.2⟩
theorem PrL.inl {a b : List Pc} {st st' : St} (h : PrL (a.map (·.p)) st st') : PrL ((a ++ b).map (·.p)) st st' := h.mono fun p hp => by rw [List.map_append]; exact List.mem_append_left _ hp
theorem PrL.inr {a b : List Pc} {st st' : St} (h : PrL (b.map (·.p)) st st') : PrL ((a ++ b).map (·.p)) st st' := h.mono fun p hp => by rw [List.map_append]; exact List.mem_append_right _ hp
structure Tr where
 leaves : List Int
 root : Int
structure TV extends RV where
 root : Int
abbrev TV.x (t : TV) : Tr := ⟨t.l,t.root⟩
structure Ses where
 peer : Int
 num : Int
 inn : Bool
 age : Int
structure Ris where
 inc : Int
 beat : Int
 tick : Int
abbrev cSess (x : Ses) : List Value := [vI x.peer,vI x.num,vB x.inn,vI x.age]
abbrev cRise (x : Ris) : List Value := [vI x.inc,vI x.beat,vI x.tick]
structure SesV where
 p : Option Addr
 l : List Ses
structure RisV where
 p : Option Addr
 l : List Ris
structure Mg where
 kind : Int
 frm : Int
 to : Int
 num : Int
 hi : Int
 tree : Tr
 vec : List Int
 leaves : List Int
 part : Sta
 marks : List Flr
structure MV where
 kind : Int
 frm : Int
 to : Int
 num : Int
 hi : Int
 tree : TV
 vec : RV
 leaves : RV
 part : SV
 marks : FV
abbrev MV.x (m : MV) : Mg := ⟨m.kind,m.frm,m.to,m.num,m.hi,m.tree.x,m.vec.l,m.leaves.l,m.part.x,m.marks.l⟩
abbrev cMV (m : MV) : List Value := [vI m.kind,vI m.frm,vI m.to,vI m.num,vI m.hi,vS m.tree.p m.tree.l.length,vI m.tree.root,vS m.vec.p m.vec.l.length,vS m.leaves.p m.leaves.l.length,vS m.part.p m.part.x.items.length,vS m.part.q m.part.x.floors.length,vS m.marks.p m.marks.l.length]
abbrev vMV (m : MV) : Value := .agg #[vI m.kind,vI m.frm,vI m.to,vI m.num,vI m.hi,vS m.tree.p m.tree.l.length,vI m.tree.root,vS m.vec.p m.vec.l.length,vS m.leaves.p m.leaves.l.length,vS m.part.p m.part.x.items.length,vS m.part.q m.part.x.floors.length,vS m.marks.p m.marks.l.length]
structure RdM (st : St) (m : MV) : Prop where
 tree : Rows st 1 fI m.tree.p m.tree.l
 vec : Rows st 1 fI m.vec.p m.vec.l
 leaves : Rows st 1 fI m.leaves.p m.leaves.l
 part : RdS st m.part
 marks : Rows st 2 cFlr m.marks.p m.marks.l
theorem RdM.pres {st st' : St} {m : MV} (h : RdM st m) (k : Pres st st') : RdM st' m := ⟨k.rows h.tree,k.rows h.vec,k.rows h.leaves,h.part.pres k,k.rows h.marks⟩
structure bigM (x : Mg) : Prop where
 tree : szOk x.tree.leaves.length
 vec : szOk x.vec.length
 leaves : szOk x.leaves.length
 part : bigS x.part
 marks : szOk x.marks.length
abbrev pcMV (m : MV) : List Pc := pcIs m.tree.toRV ++ (pcIs m.vec ++ (pcIs m.leaves ++ (pcS m.part ++ pcFV m.marks)))
theorem OwnP.rdM {st : St} {m : MV} (h : OwnP st (pcMV m)) : RdM st m :=
 ⟨h.left.rdIs,h.right.left.rdIs,h.right.right.left.rdIs,h.right.right.right.left.rdS,h.right.right.right.right.rdFV⟩
structure Nd where
 id : Int
 n : Int
 s : Sta
 t : Tr
 g : Lg
 got : List Int
 acked : List Int
 seen : List (List Int)
 num : Int
 slots : Int
 sess : List Ses
 wait : Int
 limit : Int
 clock : Int
 rises : List Ris
structure NV where
 id : Int
 n : Int
 s : SV
 t : TV
 g : LV
 got : RV
 acked : RV
 seen : TT
 num : Int
 slots : Int
 sess : SesV
 wait : Int
 limit : Int
 clock : Int
 rises : RisV
abbrev NV.x (v : NV) : Nd := ⟨v.id,v.n,v.s.x,v.t.x,v.g.x,v.got.l,v.acked.l,v.seen.x,v.num,v.slots,v.sess.l,v.wait,v.limit,v.clock,v.rises.l⟩
structure NW where
 id : Int
 n : Int
 s : SV
 t : TV
 g : LW
 got : RV
 acked : RV
 seen : TT
 num : Int
 slots : Int
 sess : SesV
 wait : Int
 limit : Int
 clock : Int
 rises : RisV
abbrev NW.v (v : NW) : NV := ⟨v.id,v.n,v.s,v.t,v.g.v,v.got,v.acked,v.seen,v.num,v.slots,v.sess,v.wait,v.limit,v.clock,v.rises⟩
abbrev NW.x (v : NW) : Nd := v.v.x
structure RdN (st : St) (v : NV) : Prop where
 s : RdS st v.s
 t : Rows st 1 fI v.t.p v.t.l
 g : RdL st v.g.p v.g.l
 got : Rows st 1 fI v.got.p v.got.l
 acked : Rows st 1 fI v.acked.p v.acked.l
 seen : RdT st v.seen.p v.seen.t
 sess : Rows st 4 cSess v.sess.p v.sess.l
 rises : Rows st 3 cRise v.rises.p v.rises.l
theorem RdN.pres {st st' : St} {v : NV} (h : RdN st v) (k : Pres st st') : RdN st' v := ⟨h.s.pres k,k.rows h.t,h.g.pres k,k.rows h.got,k.rows h.acked,h.seen.pres k,k.rows h.sess,k.rows h.rises⟩
end Go.Proofs.Yteabadoaeadcgaa.AM
namespace Go.Proofs.Yteabadoaeadcgaa.AM
open Go Go.Proofs
set_option linter.unusedVariables false
set_option linter.unusedSimpArgs false
set_option maxRecDepth 100000
set_option maxHeartbeats 4000000
def bsl (s : ByteArray) : List Int := s.data.toList.map fun b => (b.toNat : Int)
theorem bsl_len (s : ByteArray) : (bsl s).length = s.size := by rw [bsl,List.length_map,Array.length_toList]; rfl
theorem bsl_ok (s : ByteArray) : bytesOk (bsl s) := fun x hx => by
 obtain ⟨b,_,rfl⟩ := List.mem_map.1 hx
 have := b.toNat_lt
 omega
theorem fb_map : ∀ l : List UInt8,(l.map fun b => (b.toNat : Int)).flatMap fB = l.map fun b => Value.int .u8 b.toNat
 | [] => rfl
 | b :: l => by rw [List.map_cons,List.flatMap_cons,fb_map l]; rfl
section
variable {P : Program} {ls : List Tmp} {call : ACallT} {o : Oper} {e : Operand → Value} {lo : Lo} {st : St} {K : Value × Lo × St → Prop}
theorem op_bytes {src dst el : TypeId} {x : Operand} {s : ByteArray} (ho : o.op = .convert src dst x) (hx : e x = .string s) (hd : telem P dst = some el) (h1 : tint P el = some .u8) (h2 : tstr P src = true) (hs : s.size ≤ maxLen)
  (hK : ∀ q st',OwnR st' 1 fB q (bsl s) → Pres st st' → New st.next q → K (.slice q (bsl s).length (bsl s).length,lo,st')) : ∃ r,aoper P ls call o e lo st = some r ∧ K r := by
 obtain ⟨d,op,ty,pos,after,gd⟩ := o
 simp only at ho
 subst ho
 refine ⟨_,?_,hK (some ⟨st.next,0,none⟩) (st.push 1 ((bsl s).flatMap fB)) OwnR.push Pres.push New.self⟩
 simp only [aoper,hd,abytesOf,hx]
 rw [if_pos ⟨h1,h2,hs⟩,bsl_len,show (bsl s).flatMap fB = s.data.toList.map (fun b => Value.int .u8 b.toNat) from fb_map _]
theorem op_litR {t el : TypeId} {n : Nat} {ps : Array (Nat × Operand)} {u : Value} (l : List RV) (ho : o.op = .buildSlice t n ps) (hp : parts e ps = mkp 0 (l.map fun r => vS r.p r.l.length)) (hn : n = l.length) (h0 : 0 < n) (he : telem P t = some el) (hz : tsize P el = some 1) (hz0 : tzero P el = some [u]) (hsz : n ≤ 16777216)
  (hK : ∀ q st',OwnR st' 1 cRV q l → Pres st st' → New st.next q → K (.slice q n n,lo,st')) : ∃ r,aoper P ls call o e lo st = some r ∧ K r := by
 refine op_lit ho hp (by rw [hn,List.length_map]) h0 he hz hz0 Nat.one_pos rfl (by omega) (fun v hv => ?_) ?_
 ·obtain ⟨r,_,rfl⟩ := List.mem_map.1 hv
  exact ⟨rfl,rfl⟩
 ·rw [show (l.map fun r => vS r.p r.l.length).flatMap (fun v => v.cells.toList) = l.flatMap cRV by rw [List.flatMap_map]; rfl]
  exact hK _ _ OwnR.push Pres.push New.self
end
def putS (s : ByteArray) : List Int := putN s.size ++ bsl s
theorem putS_len (s : ByteArray) : (putS s).length ≤ 5 + s.size := by
 have := putN_len s.size
 rw [putS,List.length_append,bsl_len]
 omega
theorem putS_ok (s : ByteArray) : bytesOk (putS s) := (putN_ok _).app (bsl_ok s)
theorem cat_new {st0 st : St} {p q : Option Addr} {A B : Prop} {m : Nat} (hP : Pres st0 st) (hN : New st0.next p) (h : (q = p ∧ A ∧ B) ∨ (0 < m ∧ New st.next q)) : New st0.next q := by
 rcases h with ⟨h,_⟩ | ⟨_,h⟩
 ·rw [h]; exact hN
 ·exact h.le hP.1
theorem ac_spec_PutText (s : ByteArray) (st : St) (hs : s.size ≤ 1048576) : C 161 [.string s] st (fun v s' => ∃ q,v = vS q (putS s).length ∧ OwnR s' 1 fB q (putS s) ∧ New st.next q ∧ Pres st s') := by
 have hsl := bsl_len s
 have hpl := putN_len s.size
 refine AC.enterX (i := ⟨[],[],[0,2],[]⟩) [] Try.func161 rfl rfl (by kernel_rfl) (by kernel_rfl) Try.ntmps161 (Lb rfl) rfl ?_
 refine Cu lo0 st [(0,.string s),(2,Sn)] fun _ => ?_
 refine ⟨_,rfl,?_⟩
 refine ⟨_,rfl,(ac_spec_PutNum (s.size : Int) st).mono ?_⟩
 rintro _ s5 ⟨q5,rfl,hO5,hN5,hP5⟩
 refine op_bytes (s := s) rfl rfl rfl rfl rfl (by unfold maxLen; omega) ?_
 intro q7 s7 hO7 hP7 hN7
 refine op_cat' (z := 1) (st := s7) (f := fB) (b := 1) (l := putN (s.size : Int)) (l2 := bsl s) rfl rfl rfl rfl rfl rfl rfl (by decide) fB_len rfl rfl rfl rfl (by first | omega | (simp only [List.length_nil]; omega)) (by unfold maxLen; first | omega | (simp only [List.length_nil]; omega)) (hP7.ownR hO5) (hO7.rows fB_len) ?_
 intro q8 s8 hO8 hPr8 hN8
 exact cxs (Rt ⟨q8,rfl,hO8,cat_new (hP5.trans hP7) hN5 hN8,hPr8.pres (hP5.trans hP7) hN5⟩)
theorem ac_impl_PutText (s : ByteArray) (st : St) (hs : s.size ≤ 1048576) : C 110 [.string s] st (fun v s' => ∃ q,v = vS q (putS s).length ∧ OwnR s' 1 fB q (putS s) ∧ New st.next q ∧ Pres st s') := by
 have hsl := bsl_len s
 have hpl := putN_len s.size
 have hf : fl [⟨none,putN s.size⟩,⟨none,bsl s⟩] = putS s := by simp [fl,putS]
 refine AC.enterX (i := ⟨[],[],[0,2],[]⟩) [] Try.func110 rfl rfl (by kernel_rfl) (by kernel_rfl) Try.ntmps110 (Lb rfl) rfl ?_
 refine Cu lo0 st [(0,.string s),(2,Sn)] fun _ => ?_
 refine ⟨_,rfl,?_⟩
 refine ⟨_,rfl,(ac_impl_PutNum (s.size : Int) st).mono ?_⟩
 rintro _ s5 ⟨q5,rfl,hO5,hN5,hP5⟩
 refine op_bytes (s := s) rfl rfl rfl rfl rfl (by unfold maxLen; omega) ?_
 intro q7 s7 hO7 hP7 hN7
 refine op_litR [⟨q5,putN s.size⟩,⟨q7,bsl s⟩] rfl rfl rfl (by decide) rfl rfl rfl (by decide) ?_
 intro q8 s8 hO8 hP8 hN8
 refine ⟨_,rfl,(ac_impl_joined q8 [⟨q5,putN s.size⟩,⟨q7,bsl s⟩] s8 (hO8.rows cRV_len) (fun r hr => by
  rcases List.mem_cons.1 hr with rfl | hr
  ·exact (hP7.trans hP8).rows (hO5.rows fB_len)
  ·rw [List.mem_singleton.1 hr]; exact hP8.rows (hO7.rows fB_len)) (by show (2 : Nat) ≤ 1048576; omega) (by show (fl [⟨none,putN s.size⟩,⟨none,bsl s⟩]).length ≤ _; rw [hf]; have := putS_len s; omega)).mono ?_⟩
 rintro _ s9 ⟨q9,rfl,hO9,hN9,hP9⟩
 exact cxs (Rt ⟨q9,by first | rfl | exact congrArg (fun n => vS q9 n) (congrArg List.length hf),hf ▸ hO9,hN9.le ((hP5.trans hP7).trans hP8).1,((hP5.trans hP7).trans hP8).trans hP9⟩)
def leafOf (id : Int) : Int := if 0 ≤ id ∧ id ≤ 4 then crc (putN id) % 4 else -1
theorem ac_spec_LeafOf (id : Int) (st : St) : C 198 [vI id] st (fun v s => v = vI (leafOf id) ∧ Pres st s) := by
 refine AC.enterX (i := ⟨[],[],[0,2,5],[]⟩) [] Try.func198 rfl rfl (by kernel_rfl) (by kernel_rfl) Try.ntmps198 (Lb rfl) rfl ?_
 refine Cu lo0 st [(0,vI id),(2,vI 0)] fun _ => ?_
 refine ⟨_,rfl,(ac_spec_l3Node id st).mono ?_⟩
 rintro _ st ⟨x4,rfl,h4,rfl⟩
 rcases x4 with _|_
 ·replace h4 := of_decide_eq_false h4.symm
  refine ⟨_,rfl,?_⟩
  refine Cu lo0 st [(0,vI id),(2,vI 0),(5,vB true)] fun _ => ?_
  exact cxs (Rt ⟨congrArg vI (by rw [leafOf,if_neg h4]),Pres.refl _⟩)
 ·replace h4 := of_decide_eq_true h4.symm
  refine ⟨_,rfl,?_⟩
  refine Cu lo0 st [(0,vI id),(2,vI 0),(5,vB false)] fun _ => ?_
  refine cxs ?_
  refine ⟨_,rfl,(ac_spec_PutNum id st).mono ?_⟩
  rintro _ s7 ⟨q7,rfl,hO7,hN7,hP7⟩
  have hpl := putN_len id
  have hc0 := (crc_rng (putN_ok id)).1
  refine ⟨_,rfl,(ac_spec_Crc q7 (putN id) s7 (hO7.rows fB_len) (putN_ok id) (by omega)).mono ?_⟩
  rintro _ s7 ⟨rfl,rfl⟩
  refine ⟨_,op_rm (r := crc (putN id) % 4) rfl rfl rfl (by decide) (tm_emod 4 hc0),?_⟩
  exact cxs (Rt ⟨congrArg vI (by rw [leafOf,if_pos h4]),hP7⟩)
theorem ac_spec_l1Has (p : Option Addr) (l : List Int) (y : Int) (st : St) (hR : Rows st 1 fI p l) (hs : szOk l.length) : C 197 [vS p l.length,vI y] st (fun v s => ∃ x,v = .bool x ∧ (x = true ↔ y ∈ l) ∧ s = st) := by
 have hs : l.length ≤ 1048576 := hs
 refine AC.enterX (i := ⟨[],[],[0,1,4,5,9,17],[]⟩) [] Try.func197 rfl rfl (by kernel_rfl) (by kernel_rfl) Try.ntmps197 (Lb rfl) rfl ?_
 refine cxs ?_
 refine Cu lo0 st [(0,vS p l.length),(1,vI y),(4,vB false),(5,vI 0)] fun _ => ?_
 refine AW.loop0 (fun i : Nat => [(0,vS p l.length),(1,vI y),(5,vI (i : Int))]) (fun m (i : Nat) st' => m = l.length - i ∧ i ≤ l.length ∧ (∀ (j : Nat) x,j < i → l[j]? = some x → ¬ x = y) ∧ st = st') 0 _ ⟨rfl,rfl,rfl,trivial⟩ rfl ⟨rfl,Nat.zero_le _,fun j x h => absurd h (Nat.not_lt_zero _),rfl⟩ ?_
 rintro m i ρ0 st' ⟨rfl,hi,hok,rfl⟩
 iterate 2 refine ⟨_,rfl,?_⟩
 rintro (_|_) h9
 ·replace h9 : ¬ ((i : Int) < (l.length : Int)) := of_decide_eq_false h9
  refine Cu lo0 st [(0,vS p l.length),(1,vI y),(5,vI (i : Int)),(9,vB false)] fun _ => ?_
  refine cxs ?_
  exact cxs (Rt ⟨false,rfl,⟨fun h => absurd h Bool.false_ne_true,fun h => (show False from (by obtain ⟨j,hj⟩ := List.getElem?_of_mem h; exact hok j y (by have := (List.getElem?_eq_some_iff.1 hj).1; omega) hj rfl)).elim⟩,rfl⟩)
 ·replace h9 : (i : Int) < (l.length : Int) := of_decide_eq_true h9
  refine Cu lo0 st [(0,vS p l.length),(1,vI y),(5,vI (i : Int)),(9,vB true)] fun _ => ?_
  refine cxs ?_
  refine op_at i hR (by omega) rfl rfl rfl rfl rfl rfl rfl ?_
  intro x14 b14 d14 k14 hy14 hb14 hm14 hc14 ho14
  refine ⟨_,op_ldc (i := 0) rfl rfl rfl rfl hm14 hc14 rfl rfl,?_⟩
  refine ⟨_,rfl,?_⟩
  rintro (_|_) h17
  ·replace h17 : ¬ (x14 = y) := beq_eq_false_iff_ne.1 h17
   refine Cu lo0 st [(0,vS p l.length),(1,vI y),(5,vI (i : Int)),(9,vB true),(17,vB false)] fun _ => ?_
   refine cxs ?_
   have ew11 : IntKind.wrap .i64 ((i : Int) + (1)) = ((i + 1 : Nat) : Int) := (wrap_i64 (by omega) (by omega)).trans (by omega)
   refine ⟨_,rfl,?_⟩
   refine ⟨i + 1,l.length - (i + 1),by omega,⟨rfl,rfl,congrArg (Value.int .i64) ew11,trivial⟩,rfl,rfl,by omega,fun j x hj hx => ?_,rfl⟩
   rcases Nat.lt_or_ge j i with h | h
   ·exact hok j x h hx
   ·obtain rfl : j = i := by omega
    rw [hy14] at hx; injection hx with hx; rw [← hx]; exact h17
  ·replace h17 : x14 = y := beq_iff_eq.1 h17
   refine Cu lo0 st [(0,vS p l.length),(1,vI y),(5,vI (i : Int)),(9,vB true),(17,vB true)] fun _ => ?_
   exact cxs (Rt ⟨true,rfl,⟨fun _ => h17 ▸ List.mem_of_getElem? hy14,fun _ => rfl⟩,rfl⟩)
def numsB (l : List Int) : List Int := l.flatMap putN
theorem numsB_succ {l : List Int} {i : Nat} {x : Int} (h : l[i]? = some x) : numsB (l.take (i + 1)) = numsB (l.take i) ++ putN x := by
 unfold numsB
 rw [List.take_add_one,h,List.flatMap_append]
 simp
theorem numsB_len : ∀ l : List Int,(numsB l).length ≤ 5 * l.length
 | [] => Nat.le_refl _
 | x :: l => by
  have h1 := numsB_len l
  have h2 := putN_len x
  rw [show numsB (x :: l) = putN x ++ numsB l from List.flatMap_cons,List.length_append,List.length_cons]
  omega
theorem numsB_ok (l : List Int) : bytesOk (numsB l) := fun x hx => by
 obtain ⟨y,_,hy⟩ := List.mem_flatMap.1 hx
 exact putN_ok y x hy
def rootF (l : List Int) : Int := crc (numsB l) % 1024
theorem ac_spec_l6Root (p : Option Addr) (l : List Int) (st : St) (hR : Rows st 1 fI p l) (hs : szOk l.length) : C 196 [vS p l.length] st (fun v s => v = vI (rootF l) ∧ Pres st s) := by
 have hs : l.length ≤ 1048576 := hs
 refine AC.enterX (i := ⟨[],[],[0,2,3,4,9],[]⟩) [] Try.func196 rfl rfl (by kernel_rfl) (by kernel_rfl) Try.ntmps196 (Lb rfl) rfl ?_
 refine Cu lo0 st [(0,vS p l.length),(2,vI 0)] fun _ => ?_
 refine op_nilK (z := 1) (f := fB) rfl rfl rfl rfl (by decide) rfl ?_
 intro q5 s5 hO5 hP5 hN5
 refine cxs ?_
 refine Cu lo0 s5 [(0,vS p l.length),(2,vI 0),(3,vS q5 0),(4,vI 0)] fun _ => ?_
 refine AW.loop0 (fun x : Nat × Option Addr × List Int => [(0,vS p l.length),(2,vI (0)),(3,vS x.2.1 x.2.2.length),(4,vI (x.1 : Int))]) (fun m (x : Nat × Option Addr × List Int) st' => m = l.length - x.1 ∧ x.1 ≤ l.length ∧ x.2.2 = numsB (l.take x.1) ∧ OwnR st' 1 fB x.2.1 x.2.2 ∧ New st.next x.2.1 ∧ Pres st st') (0,q5,[]) _ ⟨rfl,rfl,rfl,rfl,trivial⟩ rfl ⟨rfl,Nat.zero_le _,rfl,hO5,hN5,hP5⟩ ?_
 rintro m ⟨i,q,b⟩ ρ0 st' ⟨rfl,hi,hv,hO,hN,hP⟩
 simp only at hi hv hO hN
 have hbl : b.length ≤ 5 * l.length := by rw [hv]; have := numsB_len (l.take i); rw [List.length_take] at this; omega
 iterate 2 refine ⟨_,rfl,?_⟩
 rintro (_|_) h9
 ·replace h9 : ¬ ((i : Int) < (l.length : Int)) := of_decide_eq_false h9
  refine Cu lo0 st' [(0,vS p l.length),(2,vI 0),(3,vS q b.length),(4,vI (i : Int)),(9,vB false)] fun _ => ?_
  have hbe : b = numsB l := by rw [hv,show i = l.length by omega,List.take_length]
  refine cxs ?_
  refine ⟨_,rfl,(ac_spec_Crc q b st' (hO.rows fB_len) (hbe ▸ numsB_ok l) (by omega)).mono ?_⟩
  rintro _ st' ⟨rfl,rfl⟩
  have hc0 : 0 ≤ crc b := (crc_rng (hbe ▸ numsB_ok l)).1
  refine ⟨_,op_rm (r := crc b % 1024) rfl rfl rfl (by decide) (tm_emod 1024 hc0),?_⟩
  exact cxs (Rt ⟨congrArg vI (by rw [rootF,hbe]),hP⟩)
 ·replace h9 : (i : Int) < (l.length : Int) := of_decide_eq_true h9
  refine Cu lo0 st' [(0,vS p l.length),(2,vI 0),(3,vS q b.length),(4,vI (i : Int)),(9,vB true)] fun _ => ?_
  refine cxs ?_
  refine op_at i (hP.rows hR) (by omega) rfl rfl rfl rfl rfl rfl rfl ?_
  intro x15 b15 d15 k15 hy15 hb15 hm15 hc15 ho15
  have hRs := hP.rows hR
  refine ⟨_,op_ldc (i := 0) rfl rfl rfl rfl hm15 hc15 rfl rfl,?_⟩
  have hpl := putN_len x15
  refine ⟨_,rfl,(ac_spec_PutNum x15 st').mono ?_⟩
  rintro _ s17 ⟨q17,rfl,hO17,hN17,hP17⟩
  refine op_cat' (z := 1) (st := s17) (f := fB) (b := 1) (l := b) (l2 := putN x15) rfl rfl rfl rfl rfl rfl rfl (by decide) fB_len rfl rfl rfl rfl (by first | omega | (simp only [List.length_nil]; omega)) (by unfold maxLen; first | omega | (simp only [List.length_nil]; omega)) (hP17.ownR hO) (hO17.rows fB_len) ?_
  intro q18 s18 hO18 hPr18 hN18
  refine Cu lo0 s18 [(0,vS p l.length),(2,vI 0),(3,vS q18 (b ++ (putN x15)).length),(4,vI (i : Int)),(9,vB true)] fun _ => ?_
  have ew11 : IntKind.wrap .i64 ((i : Int) + (1)) = ((i + 1 : Nat) : Int) := (wrap_i64 (by omega) (by omega)).trans (by omega)
  refine ⟨_,rfl,?_⟩
  exact ⟨(i + 1,q18,b ++ putN x15),l.length - (i + 1),by omega,⟨rfl,rfl,rfl,congrArg (Value.int .i64) ew11,trivial⟩,rfl,rfl,by simp only; omega,by rw [numsB_succ hy15,← hv],hO18,cat_new (hP.trans hP17) hN hN18,hPr18.pres (hP.trans hP17) hN⟩
def inL (L : List Int) (id : Int) : Bool := decide (leafOf id ∈ L)
def itS (L : List Int) (l : List Itm) : List Itm := l.filter fun x => inL L x.id
def flS (L : List Int) (l : List Flr) : List Flr := l.filter fun x => inL L x.id
def sliceF (s : Sta) (L : List Int) : Sta := ⟨itS L s.items,flS L s.floors⟩
theorem filt_in {α : Type} {p : α → Bool} {l : List α} {i : Nat} {x : α} (h : l[i]? = some x) (hx : p x = true) : (l.take (i + 1)).filter p = (l.take i).filter p ++ [x] := by
 rw [List.take_add_one,h,List.filter_append]
 simp [hx]
theorem filt_out {α : Type} {p : α → Bool} {l : List α} {i : Nat} {x : α} (h : l[i]? = some x) (hx : p x = false) : (l.take (i + 1)).filter p = (l.take i).filter p := by
 rw [List.take_add_one,h,List.filter_append]
 simp [hx]
theorem filt_len {α : Type} {p : α → Bool} (l : List α) (i : Nat) : ((l.take i).filter p).length ≤ l.length := by
 have h1 := List.length_filter_le p (l.take i)
 rw [List.length_take] at h1
 omega
theorem itS_in {L : List Int} {l : List Itm} {i : Nat} {x : Itm} (h : l[i]? = some x) (hx : leafOf x.id ∈ L) : itS L (l.take (i + 1)) = itS L (l.take i) ++ [x] := filt_in h (decide_eq_true hx)
theorem itS_out {L : List Int} {l : List Itm} {i : Nat} {x : Itm} (h : l[i]? = some x) (hx : ¬ leafOf x.id ∈ L) : itS L (l.take (i + 1)) = itS L (l.take i) := filt_out h (decide_eq_false hx)
theorem flS_in {L : List Int} {l : List Flr} {i : Nat} {x : Flr} (h : l[i]? = some x) (hx : leafOf x.id ∈ L) : flS L (l.take (i + 1)) = flS L (l.take i) ++ [x] := filt_in h (decide_eq_true hx)
theorem flS_out {L : List Int} {l : List Flr} {i : Nat} {x : Flr} (h : l[i]? = some x) (hx : ¬ leafOf x.id ∈ L) : flS L (l.take (i + 1)) = flS L (l.take i) := filt_out h (decide_eq_false hx)
theorem ac_spec_l6Slice (s : SV) (p : Option Addr) (L : List Int) (st : St) (hR : RdS st s) (hb : bigS s.x) (hL : Rows st 1 fI p L) (hs : szOk L.length) : C 187 [.agg #[vS s.p s.x.items.length,vS s.q s.x.floors.length],vS p L.length] st (fun v s' => ∃ u : SV,v = .agg #[vS u.p u.x.items.length,vS u.q u.x.floors.length] ∧ u.x = sliceF s.x L ∧ OwnP s' (pcS u) ∧ NewP st.next (pcS u) ∧ Pres st s') := by
 have hs : L.length ≤ 1048576 := hs
 have hs1 : s.x.items.length ≤ 1048576 := hb.1
 have hs2 : s.x.floors.length ≤ 1048576 := hb.2.1
 refine AC.enterX (i := ⟨[2,4,5],[2,4,5,10,17,25,27,34,36,43,51,53,60],[0,1,2,4,5,6,7,13,24,39,50],[]⟩) [(6,[7],[1]),(11,[7],[1])] Try.func187 rfl rfl (by kernel_rfl) (by kernel_rfl) Try.ntmps187 (Lb rfl) rfl ?_
 iterate 2 refine ⟨_,rfl,?_⟩
 refine Cm 2 st [(1,vS p L.length),Ml 2 0,Ml 4 1] [(2,0,cSV s),(4,1,[Sn,Sn])] fun _ _ => ?_
 iterate 2 refine ⟨_,rfl,?_⟩
 refine ⟨_,Os rfl,?_⟩
 refine cxs ?_
 refine Cm 3 st [(1,vS p L.length),Ml 2 0,Ml 4 1,Ml 5 2,(6,vI 0)] [(2,0,cSV s),(4,1,[Sn,Sn]),(5,2,[Sn,Sn])] fun _ _ => ?_
 refine AW.loopM (fun x : Nat × Option Addr × List Itm => [(1,vS p L.length),(2,vL 2 0 (0)),(4,vL 4 0 (1)),(5,vL 5 0 (2)),(6,vI (x.1 : Int))]) (fun x : Nat × Option Addr × List Itm => [(2,0,[vS s.p s.x.items.length,vS s.q s.x.floors.length]),(4,1,[.slice none 0 0,.slice none 0 0]),(5,2,[vS x.2.1 x.2.2.length,.slice none 0 0])]) (fun m (x : Nat × Option Addr × List Itm) st' => m = s.x.items.length - x.1 ∧ x.1 ≤ s.x.items.length ∧ x.2.2 = itS L (s.x.items.take x.1) ∧ OwnR st' 6 cItm x.2.1 x.2.2 ∧ New st.next x.2.1 ∧ Pres st st') (0,none,[]) _ ⟨rfl,rfl,rfl,rfl,rfl,trivial⟩ ⟨rfl,rfl,rfl,trivial⟩ ⟨rfl,Nat.zero_le _,rfl,OwnR.nil,New.none,Pres.refl _⟩ ?_
 rintro m ⟨i,q,l⟩ ρ0 ff gg st' ⟨rfl,hi,hv,hO,hN,hP⟩
 simp only at hi hv hO hN
 have hll : l.length ≤ s.x.items.length := by rw [hv]; exact filt_len _ _
 refine ⟨_,rfl,?_⟩
 refine ⟨_,Od rfl,?_⟩
 iterate 2 refine ⟨_,rfl,?_⟩
 rintro (_|_) h13
 ·replace h13 : ¬ ((i : Int) < (s.x.items.length : Int)) := of_decide_eq_false h13
  refine Cm gg st' [(1,vS p L.length),Ml 2 0,Ml 4 1,Ml 5 2,(6,vI (i : Int)),(13,vB false)] [(2,0,cSV s),(4,1,[Sn,Sn]),(5,2,[vS q l.length,Sn])] fun _ _ => ?_
  have hv1 : l = itS L s.x.items := by rw [hv,show i = s.x.items.length by omega,List.take_length]
  obtain ⟨s1,hs1⟩ : ∃ s1,s1 = st' := ⟨_,rfl⟩
  subst hs1
  refine cxs ?_
  refine Cm gg s1 [(1,vS p L.length),Ml 2 0,Ml 4 1,Ml 5 2,(7,vI 0)] [(2,0,cSV s),(4,1,[Sn,Sn]),(5,2,[vS q l.length,Sn])] fun _ _ => ?_
  refine AW.loopM (fun x : Nat × Option Addr × List Flr => [(1,vS p L.length),(2,vL 2 0 (0)),(4,vL 4 0 (1)),(5,vL 5 0 (2)),(7,vI (x.1 : Int))]) (fun x : Nat × Option Addr × List Flr => [(2,0,[vS s.p s.x.items.length,vS s.q s.x.floors.length]),(4,1,[.slice none 0 0,.slice none 0 0]),(5,2,[vS q l.length,vS x.2.1 x.2.2.length])]) (fun m (x : Nat × Option Addr × List Flr) st' => m = s.x.floors.length - x.1 ∧ x.1 ≤ s.x.floors.length ∧ x.2.2 = flS L (s.x.floors.take x.1) ∧ OwnR st' 2 cFlr x.2.1 x.2.2 ∧ New s1.next x.2.1 ∧ Pres s1 st') (0,none,[]) _ ⟨rfl,rfl,rfl,rfl,rfl,trivial⟩ ⟨rfl,rfl,rfl,trivial⟩ ⟨rfl,Nat.zero_le _,rfl,OwnR.nil,New.none,Pres.refl _⟩ ?_
  rintro m ⟨j,r,f⟩ ρ0 ff gg st' ⟨rfl,hj,hw,hOj,hNj,hPj⟩
  simp only at hj hw hOj hNj
  have hfl : f.length ≤ s.x.floors.length := by rw [hw]; exact filt_len _ _
  refine ⟨_,rfl,?_⟩
  refine ⟨_,Od rfl,?_⟩
  iterate 2 refine ⟨_,rfl,?_⟩
  rintro (_|_) h39
  ·replace h39 : ¬ ((j : Int) < (s.x.floors.length : Int)) := of_decide_eq_false h39
   refine Cm gg st' [(1,vS p L.length),Ml 2 0,Ml 4 1,Ml 5 2,(7,vI (j : Int)),(39,vB false)] [(2,0,cSV s),(4,1,[Sn,Sn]),(5,2,[vS q l.length,vS r f.length])] fun _ _ => ?_
   have hw1 : f = flS L s.x.floors := by rw [hw,show j = s.x.floors.length by omega,List.take_length]
   refine cxs ?_
   refine ⟨_,Od rfl,?_⟩
   refine ⟨_,Os rfl,?_⟩
   exact cxs (Rt ⟨⟨q,r,⟨l,f⟩⟩,rfl,by rw [hv1,hw1]; rfl,OwnP.join (l := [pcR 6 cItm q l]) (OwnP.one (own_pc hO)) hPj (OwnP.one (own_pc hOj)) (NewP.cons hNj NewP.nil),NewP.cons hN (NewP.cons (hNj.le hP.1) NewP.nil),hP.trans hPj⟩)
  ·replace h39 : (j : Int) < (s.x.floors.length : Int) := of_decide_eq_true h39
   refine Cm gg st' [(1,vS p L.length),Ml 2 0,Ml 4 1,Ml 5 2,(7,vI (j : Int)),(39,vB true)] [(2,0,cSV s),(4,1,[Sn,Sn]),(5,2,[vS q l.length,vS r f.length])] fun _ _ => ?_
   refine cxs ?_
   refine ⟨_,rfl,?_⟩
   refine ⟨_,Od rfl,?_⟩
   refine op_at j ((hP.trans hPj).rows hR.2) (by omega) rfl rfl rfl rfl rfl rfl rfl ?_
   intro x46 b46 d46 k46 hy46 hb46 hm46 hc46 ho46
   refine ⟨_,rfl,?_⟩
   refine ⟨_,op_ldc (i := 0) rfl rfl rfl rfl hm46 hc46 rfl rfl,?_⟩
   refine ⟨_,rfl,(ac_spec_LeafOf x46.id st').mono ?_⟩
   rintro _ s49 ⟨rfl,hP49⟩
   refine ⟨_,rfl,(ac_spec_l1Has p L (leafOf x46.id) s49 (((hP.trans hPj).trans hP49).rows hL) (by first | assumption | omega)).mono ?_⟩
   rintro _ s49 ⟨x50,rfl,h50,rfl⟩
   rcases x50 with _|_
   ·replace h50 := fun k => Bool.false_ne_true (h50.2 k)
    refine Cm gg s49 [(1,vS p L.length),Ml 2 0,Ml 4 1,Ml 5 2,(7,vI (j : Int)),(39,vB true),(50,vB false)] [(2,0,cSV s),(4,1,[Sn,Sn]),(5,2,[vS q l.length,vS r f.length])] fun _ _ => ?_
    refine cxs ?_
    have ew41 : IntKind.wrap .i64 ((j : Int) + (1)) = ((j + 1 : Nat) : Int) := (wrap_i64 (by omega) (by omega)).trans (by omega)
    refine ⟨_,rfl,?_⟩
    exact ⟨(j + 1,r,f),s.x.floors.length - (j + 1),by omega,⟨rfl,rfl,rfl,rfl,congrArg (Value.int .i64) ew41,trivial⟩,⟨rfl,rfl,rfl,trivial⟩,rfl,by simp only; omega,by rw [flS_out hy46 h50]; exact hw,hP49.ownR hOj,hNj,hPj.trans hP49⟩
   ·replace h50 := h50.1 rfl
    refine Cm gg s49 [(1,vS p L.length),Ml 2 0,Ml 4 1,Ml 5 2,(7,vI (j : Int)),(39,vB true),(50,vB true)] [(2,0,cSV s),(4,1,[Sn,Sn]),(5,2,[vS q l.length,vS r f.length])] fun _ _ => ?_
    refine ⟨_,rfl,?_⟩
    refine ⟨_,Od rfl,?_⟩
    refine ⟨ld_own rfl rfl rfl,?_⟩
    refine ⟨_,rfl,?_⟩
    refine ⟨_,Od rfl,?_⟩
    refine op_el j (((hP.trans hPj).trans hP49).rows hR.2) hy46 rfl rfl rfl rfl rfl rfl rfl ?_
    intro b56 d56 k56 hb56 hm56 hc56 ho56
    refine ⟨_,op_lda rfl rfl rfl rfl rfl hm56 hc56 rfl,?_⟩
    refine op_one (z := 2) (a := (x46 : Flr)) (f := cFlr) rfl rfl rfl rfl rfl (by decide) rfl (Lb rfl) rfl rfl rfl ?_
    refine ⟨Pres.push.2,?_⟩
    refine op_snoc (z := 2) (st := s49) (f := cFlr) (b := 16) (l := f) (x := x46) rfl rfl rfl rfl rfl rfl rfl (by decide) len_cFlr rfl rfl rfl (by omega) (by unfold maxLen; omega) (hP49.ownR hOj) ?_
    intro q59 s59 hO59 hP59 hN59
    refine ⟨_,rfl,?_⟩
    refine ⟨_,Os rfl,?_⟩
    refine Cm gg s59 [(1,vS p L.length),Ml 2 0,Ml 4 1,Ml 5 2,(7,vI (j : Int)),(39,vB true),(50,vB true)] [(2,0,cSV s),(4,1,[Sn,Sn]),(5,2,[vS q l.length,vS q59 (f ++ [x46]).length])] fun _ _ => ?_
    have ew41 : IntKind.wrap .i64 ((j : Int) + (1)) = ((j + 1 : Nat) : Int) := (wrap_i64 (by omega) (by omega)).trans (by omega)
    refine ⟨_,rfl,?_⟩
    exact ⟨(j + 1,q59,f ++ [x46]),s.x.floors.length - (j + 1),by omega,⟨rfl,rfl,rfl,rfl,congrArg (Value.int .i64) ew41,trivial⟩,⟨rfl,rfl,rfl,trivial⟩,rfl,by simp only; omega,by rw [flS_in hy46 h50,← hw],hO59,hN59.le (hPj.trans hP49).1,hP59.pres (hPj.trans hP49) hNj⟩
 ·replace h13 : (i : Int) < (s.x.items.length : Int) := of_decide_eq_true h13
  refine Cm gg st' [(1,vS p L.length),Ml 2 0,Ml 4 1,Ml 5 2,(6,vI (i : Int)),(13,vB true)] [(2,0,cSV s),(4,1,[Sn,Sn]),(5,2,[vS q l.length,Sn])] fun _ _ => ?_
  refine cxs ?_
  refine ⟨_,rfl,?_⟩
  refine ⟨_,Od rfl,?_⟩
  refine op_at i (hP.rows hR.1) (by omega) rfl rfl rfl rfl rfl rfl rfl ?_
  intro x20 b20 d20 k20 hy20 hb20 hm20 hc20 ho20
  refine ⟨_,rfl,?_⟩
  refine ⟨_,op_ldc (i := 0) rfl rfl rfl rfl hm20 hc20 rfl rfl,?_⟩
  refine ⟨_,rfl,(ac_spec_LeafOf x20.id st').mono ?_⟩
  rintro _ s23 ⟨rfl,hP23⟩
  refine ⟨_,rfl,(ac_spec_l1Has p L (leafOf x20.id) s23 ((hP.trans hP23).rows hL) (by first | assumption | omega)).mono ?_⟩
  rintro _ s23 ⟨x24,rfl,h24,rfl⟩
  rcases x24 with _|_
  ·replace h24 := fun k => Bool.false_ne_true (h24.2 k)
   refine Cm gg s23 [(1,vS p L.length),Ml 2 0,Ml 4 1,Ml 5 2,(6,vI (i : Int)),(13,vB true),(24,vB false)] [(2,0,cSV s),(4,1,[Sn,Sn]),(5,2,[vS q l.length,Sn])] fun _ _ => ?_
   refine cxs ?_
   have ew15 : IntKind.wrap .i64 ((i : Int) + (1)) = ((i + 1 : Nat) : Int) := (wrap_i64 (by omega) (by omega)).trans (by omega)
   refine ⟨_,rfl,?_⟩
   exact ⟨(i + 1,q,l),s.x.items.length - (i + 1),by omega,⟨rfl,rfl,rfl,rfl,congrArg (Value.int .i64) ew15,trivial⟩,⟨rfl,rfl,rfl,trivial⟩,rfl,by simp only; omega,by rw [itS_out hy20 h24]; exact hv,hP23.ownR hO,hN,hP.trans hP23⟩
  ·replace h24 := h24.1 rfl
   refine Cm gg s23 [(1,vS p L.length),Ml 2 0,Ml 4 1,Ml 5 2,(6,vI (i : Int)),(13,vB true),(24,vB true)] [(2,0,cSV s),(4,1,[Sn,Sn]),(5,2,[vS q l.length,Sn])] fun _ _ => ?_
   refine ⟨_,rfl,?_⟩
   refine ⟨_,Od rfl,?_⟩
   refine ⟨ld_own rfl rfl rfl,?_⟩
   refine ⟨_,rfl,?_⟩
   refine ⟨_,Od rfl,?_⟩
   refine op_el i ((hP.trans hP23).rows hR.1) hy20 rfl rfl rfl rfl rfl rfl rfl ?_
   intro b30 d30 k30 hb30 hm30 hc30 ho30
   refine ⟨_,op_lda rfl rfl rfl rfl rfl hm30 hc30 rfl,?_⟩
   refine op_one (z := 6) (a := (x20 : Itm)) (f := cItm) rfl rfl rfl rfl rfl (by decide) rfl (Lb rfl) rfl rfl rfl ?_
   refine ⟨Pres.push.2,?_⟩
   refine op_snoc (z := 6) (st := s23) (f := cItm) (b := 56) (l := l) (x := x20) rfl rfl rfl rfl rfl rfl rfl (by decide) len_cItm rfl rfl rfl (by omega) (by unfold maxLen; omega) (hP23.ownR hO) ?_
   intro q33 s33 hO33 hP33 hN33
   refine ⟨_,rfl,?_⟩
   refine ⟨_,Os rfl,?_⟩
   refine Cm gg s33 [(1,vS p L.length),Ml 2 0,Ml 4 1,Ml 5 2,(6,vI (i : Int)),(13,vB true),(24,vB true)] [(2,0,cSV s),(4,1,[Sn,Sn]),(5,2,[vS q33 (l ++ [x20]).length,Sn])] fun _ _ => ?_
   have ew15 : IntKind.wrap .i64 ((i : Int) + (1)) = ((i + 1 : Nat) : Int) := (wrap_i64 (by omega) (by omega)).trans (by omega)
   refine ⟨_,rfl,?_⟩
   exact ⟨(i + 1,q33,l ++ [x20]),s.x.items.length - (i + 1),by omega,⟨rfl,rfl,rfl,rfl,congrArg (Value.int .i64) ew15,trivial⟩,⟨rfl,rfl,rfl,trivial⟩,rfl,by simp only; omega,by rw [itS_in hy20 h24,← hv],hO33,hN33.le (hP.trans hP23).1,hP33.pres (hP.trans hP23) hN⟩
def itL (x : Itm) : List Int := [x.id,x.e.inc,x.e.rank,x.e.beat,x.e.ver]
def itB (x : Itm) : List Int := numsB (itL x) ++ putS x.e.data
def flB (x : Flr) : List Int := putN x.id ++ putN x.inc
def itsB (l : List Itm) : List Int := l.flatMap itB
def flsB (l : List Flr) : List Int := l.flatMap flB
def stB (s : Sta) : List Int := putN (s.items.length : Int) ++ itsB s.items ++ putN (s.floors.length : Int) ++ flsB s.floors
theorem fm_succ {α : Type} {g : α → List Int} {l : List α} {i : Nat} {x : α} (h : l[i]? = some x) : (l.take (i + 1)).flatMap g = (l.take i).flatMap g ++ g x := by
 rw [List.take_add_one,h,List.flatMap_append]
 simp
theorem fm_len {α : Type} {g : α → List Int} {c : Nat} : ∀ {l : List α},(∀ x ∈ l,(g x).length ≤ c) → (l.flatMap g).length ≤ c * l.length
 | [],_ => Nat.zero_le _
 | x :: l,h => by
  have h1 := fm_len (l := l) fun y hy => h y (List.mem_cons_of_mem _ hy)
  have h2 := h x (List.mem_cons_self ..)
  rw [List.flatMap_cons,List.length_append,List.length_cons,Nat.mul_add,Nat.mul_one]
  omega
theorem fm_ok {α : Type} {g : α → List Int} {l : List α} (h : ∀ x,bytesOk (g x)) : bytesOk (l.flatMap g) := fun y hy => by
 obtain ⟨x,_,hx⟩ := List.mem_flatMap.1 hy
 exact h x y hx
theorem itB_len {x : Itm} (h : x.e.data.size ≤ 8) : (itB x).length ≤ 38 := by
 have h1 := numsB_len (itL x)
 have h2 := putS_len x.e.data
 rw [itB,List.length_append]
 have : (itL x).length = 5 := rfl
 omega
theorem flB_len (x : Flr) : (flB x).length ≤ 10 := by
 have h1 := putN_len x.id
 have h2 := putN_len x.inc
 rw [flB,List.length_append]
 omega
theorem stB_ok (s : Sta) : bytesOk (stB s) :=
 (((putN_ok _).app (fm_ok fun x => (numsB_ok _).app (putS_ok _))).app (putN_ok _)).app (fm_ok fun x => (putN_ok _).app (putN_ok _))
theorem okSize {s : Sta} (hk : stateOk s) {x : Itm} (hx : x ∈ s.items) : x.e.data.size ≤ 8 := by
 obtain ⟨j,hj⟩ := List.getElem?_of_mem hx
 exact (hk.1 j x hj).2.1.2.2.2.2
theorem its_len {s : Sta} (hk : stateOk s) (i : Nat) : (itsB (s.items.take i)).length ≤ 38 * s.items.length := by
 have h1 : (itsB (s.items.take i)).length ≤ 38 * (s.items.take i).length := fm_len fun x hx => itB_len (okSize hk (List.mem_of_mem_take hx))
 rw [List.length_take] at h1
 omega
theorem fls_len (l : List Flr) (i : Nat) : (flsB (l.take i)).length ≤ 10 * l.length := by
 have h1 : (flsB (l.take i)).length ≤ 10 * (l.take i).length := fm_len fun x _ => flB_len x
 rw [List.length_take] at h1
 omega
theorem stB_len {s : Sta} (hk : stateOk s) : (stB s).length ≤ 10 + 38 * s.items.length + 10 * s.floors.length := by
 have h1 := its_len hk s.items.length
 have h2 := fls_len s.floors s.floors.length
 rw [List.take_length] at h1 h2
 have h3 := putN_len (s.items.length : Int)
 have h4 := putN_len (s.floors.length : Int)
 rw [stB,List.length_append,List.length_append,List.length_append]
 omega
theorem cat_dis {st : St} {p q r : Option Addr} {A B : Prop} {m : Nat} (hd : Dis p r) (ho : Old st.next r) (h : (q = p ∧ A ∧ B) ∨ (0 < m ∧ New st.next q)) : Dis q r := by
 rcases h with ⟨h,_⟩ | ⟨_,h⟩
 ·rw [h]; exact hd
 ·exact (Dis.of ho h).symm
theorem ac_spec_l6Bytes (s : SV) (st : St) (hR : RdS st s) (hb : bigS s.x) (hk : stateOk s.x) : C 97 [.agg #[vS s.p s.x.items.length,vS s.q s.x.floors.length]] st (fun v s' => ∃ q,v = vS q (stB s.x).length ∧ OwnR s' 1 fB q (stB s.x) ∧ New st.next q ∧ Pres st s') := by
 have hs1 : s.x.items.length ≤ 1048576 := hb.1
 have hs2 : s.x.floors.length ≤ 1048576 := hb.2.1
 have hpl1 := putN_len (s.x.items.length : Int)
 have hpl2 := putN_len (s.x.floors.length : Int)
 refine AC.enterX (i := ⟨[1,5],[1,5,9,14,20,26,32,34,36,38,55,60,66,73,82],[0,1,2,3,4,5,6,7,8,17,44,69],[]⟩) [(6,[],[])] Try.func97 rfl rfl (by kernel_rfl) (by kernel_rfl) Try.ntmps97 (Lb rfl) rfl ?_
 refine ⟨_,rfl,?_⟩
 refine Cm 1 st [Ml 1 0,(2,Sn)] [(1,0,cSV s)] fun _ _ => ?_
 refine ⟨_,rfl,?_⟩
 refine ⟨_,Od rfl,?_⟩
 refine ⟨_,rfl,?_⟩
 refine ⟨_,rfl,(ac_spec_PutNum (s.x.items.length : Int) st).mono ?_⟩
 rintro _ s12 ⟨q12,rfl,hO12,hN12,hP12⟩
 refine cxs ?_
 refine Cm 1 s12 [Ml 1 0,(2,Sn),(3,vS q12 (putN (s.x.items.length : Int)).length),(4,vI 0)] [(1,0,cSV s)] fun _ _ => ?_
 refine AW.loopM (fun x : Nat × Option Addr × List Int => [(1,vL 1 0 (0)),(2,.slice none 0 0),(3,vS x.2.1 x.2.2.length),(4,vI (x.1 : Int))]) (fun x : Nat × Option Addr × List Int => [(1,0,[vS s.p s.x.items.length,vS s.q s.x.floors.length])]) (fun m (x : Nat × Option Addr × List Int) st' => m = s.x.items.length - x.1 ∧ x.1 ≤ s.x.items.length ∧ x.2.2 = putN (s.x.items.length : Int) ++ itsB (s.x.items.take x.1) ∧ OwnR st' 1 fB x.2.1 x.2.2 ∧ New st.next x.2.1 ∧ Pres st st') (0,q12,putN (s.x.items.length : Int)) _ ⟨rfl,rfl,rfl,rfl,trivial⟩ ⟨rfl,trivial⟩ ⟨rfl,Nat.zero_le _,(List.append_nil _).symm,hO12,hN12,hP12⟩ ?_
 rintro m ⟨i,q,b⟩ ρ0 ff gg st' ⟨rfl,hi,hv,hO,hN,hP⟩
 simp only at hi hv hO hN
 have hbl : b.length ≤ 5 + 38 * s.x.items.length := by rw [hv,List.length_append]; have := its_len hk i; omega
 refine ⟨_,rfl,?_⟩
 refine ⟨_,Od rfl,?_⟩
 iterate 2 refine ⟨_,rfl,?_⟩
 rintro (_|_) h17
 ·replace h17 : ¬ ((i : Int) < (s.x.items.length : Int)) := of_decide_eq_false h17
  refine Cm gg st' [Ml 1 0,(2,Sn),(3,vS q b.length),(4,vI (i : Int)),(17,vB false)] [(1,0,cSV s)] fun _ _ => ?_
  have hv1 : b = putN (s.x.items.length : Int) ++ itsB s.x.items := by rw [hv,show i = s.x.items.length by omega,List.take_length]
  obtain ⟨s1,hs1'⟩ : ∃ s1,s1 = st' := ⟨_,rfl⟩
  subst hs1'
  refine cxs ?_
  refine ⟨_,rfl,?_⟩
  refine ⟨_,Od rfl,?_⟩
  refine ⟨_,rfl,?_⟩
  refine ⟨_,rfl,(ac_spec_PutNum (s.x.floors.length : Int) s1).mono ?_⟩
  rintro _ s63 ⟨q63,rfl,hO63,hN63,hP63⟩
  refine op_cat' (z := 1) (st := s63) (f := fB) (b := 1) (l := b) (l2 := putN (s.x.floors.length : Int)) rfl rfl rfl rfl rfl rfl rfl (by decide) fB_len rfl rfl rfl rfl (by first | omega | (simp only [List.length_nil]; omega)) (by unfold maxLen; first | omega | (simp only [List.length_nil]; omega)) (hP63.ownR hO) (hO63.rows fB_len) ?_
  intro q64 s64 hO64 hPr64 hN64
  refine cxs ?_
  have hN64' := cat_new (hP.trans hP63) hN hN64
  have hP64' := hPr64.pres (hP.trans hP63) hN
  refine Cm gg s64 [Ml 1 0,(2,Sn),(3,vS q64 (b ++ (putN (s.x.floors.length : Int))).length),(8,vI 0)] [(1,0,cSV s)] fun _ _ => ?_
  refine AW.loopM (fun z : Nat × Option Addr × List Int => [(1,vL 1 0 (0)),(2,.slice none 0 0),(3,vS z.2.1 z.2.2.length),(8,vI (z.1 : Int))]) (fun z : Nat × Option Addr × List Int => [(1,0,[vS s.p s.x.items.length,vS s.q s.x.floors.length])]) (fun m (z : Nat × Option Addr × List Int) st' => m = s.x.floors.length - z.1 ∧ z.1 ≤ s.x.floors.length ∧ z.2.2 = b ++ putN (s.x.floors.length : Int) ++ flsB (s.x.floors.take z.1) ∧ OwnR st' 1 fB z.2.1 z.2.2 ∧ New st.next z.2.1 ∧ Pres st st') (0,q64,b ++ putN (s.x.floors.length : Int)) _ ⟨rfl,rfl,rfl,rfl,trivial⟩ ⟨rfl,trivial⟩ ⟨rfl,Nat.zero_le _,(List.append_nil _).symm,hO64,hN64',hP64'⟩ ?_
  rintro m ⟨j,r,f⟩ ρ0 ff gg st' ⟨rfl,hj,hw,hOf,hNf,hPf⟩
  simp only at hj hw hOf hNf
  have hfl : f.length ≤ 10 + 38 * s.x.items.length + 10 * s.x.floors.length := by rw [hw,List.length_append,List.length_append]; have := fls_len s.x.floors j; omega
  refine ⟨_,rfl,?_⟩
  refine ⟨_,Od rfl,?_⟩
  iterate 2 refine ⟨_,rfl,?_⟩
  rintro (_|_) h69
  ·replace h69 : ¬ ((j : Int) < (s.x.floors.length : Int)) := of_decide_eq_false h69
   refine Cm gg st' [Ml 1 0,(2,Sn),(3,vS r f.length),(8,vI (j : Int)),(69,vB false)] [(1,0,cSV s)] fun _ _ => ?_
   have hw1 : f = stB s.x := by rw [hw,show j = s.x.floors.length by omega,List.take_length,hv1]; rfl
   refine cxs ?_
   refine cxs ?_
   refine ⟨.inl rfl,_,rfl,r,?_⟩
   rw [← hw1]
   exact ⟨rfl,hOf,hNf,hPf⟩
  ·replace h69 : (j : Int) < (s.x.floors.length : Int) := of_decide_eq_true h69
   refine Cm gg st' [Ml 1 0,(2,Sn),(3,vS r f.length),(8,vI (j : Int)),(69,vB true)] [(1,0,cSV s)] fun _ _ => ?_
   refine cxs ?_
   refine ⟨_,rfl,?_⟩
   refine ⟨_,Od rfl,?_⟩
   refine op_at j (hPf.rows hR.2) (by omega) rfl rfl rfl rfl rfl rfl rfl ?_
   intro x76 b76 d76 k76 hy76 hb76 hm76 hc76 ho76
   refine ⟨_,rfl,?_⟩
   refine ⟨_,op_ldc (i := 0) rfl rfl rfl rfl hm76 hc76 rfl rfl,?_⟩
   have hpa := putN_len x76.id
   refine ⟨_,rfl,(ac_spec_PutNum x76.id st').mono ?_⟩
   rintro _ s79 ⟨q79,rfl,hO79,hN79,hP79⟩
   refine op_cat' (z := 1) (st := s79) (f := fB) (b := 1) (l := f) (l2 := putN x76.id) rfl rfl rfl rfl rfl rfl rfl (by decide) fB_len rfl rfl rfl rfl (by first | omega | (simp only [List.length_nil]; omega)) (by unfold maxLen; first | omega | (simp only [List.length_nil]; omega)) (hP79.ownR hOf) (hO79.rows fB_len) ?_
   intro q80 s80 hO80 hPr80 hN80
   refine Cm gg s80 [Ml 1 0,(2,Sn),(3,vS q80 (f ++ (putN x76.id)).length),(8,vI (j : Int)),(69,vB true)] [(1,0,cSV s)] fun _ _ => ?_
   have hfa : (f ++ putN x76.id).length = f.length + (putN x76.id).length := List.length_append
   have hN80' := cat_new (hPf.trans hP79) hNf hN80
   have hP80' := hPr80.pres (hPf.trans hP79) hNf
   refine ⟨_,rfl,?_⟩
   refine ⟨_,Od rfl,?_⟩
   refine op_el j (hP80'.rows hR.2) hy76 rfl rfl rfl rfl rfl rfl rfl ?_
   intro b85 d85 k85 hb85 hm85 hc85 ho85
   refine ⟨_,rfl,?_⟩
   refine ⟨_,op_ldc (i := 1) rfl rfl rfl rfl hm85 hc85 rfl rfl,?_⟩
   have hpb := putN_len x76.inc
   refine ⟨_,rfl,(ac_spec_PutNum x76.inc s80).mono ?_⟩
   rintro _ s88 ⟨q88,rfl,hO88,hN88,hP88⟩
   refine op_cat' (z := 1) (st := s88) (f := fB) (b := 1) (l := (f ++ putN x76.id)) (l2 := putN x76.inc) rfl rfl rfl rfl rfl rfl rfl (by decide) fB_len rfl rfl rfl rfl (by first | omega | (simp only [List.length_nil]; omega)) (by unfold maxLen; first | omega | (simp only [List.length_nil]; omega)) (hP88.ownR hO80) (hO88.rows fB_len) ?_
   intro q89 s89 hO89 hPr89 hN89
   refine Cm gg s89 [Ml 1 0,(2,Sn),(3,vS q89 ((f ++ putN x76.id) ++ (putN x76.inc)).length),(8,vI (j : Int)),(69,vB true)] [(1,0,cSV s)] fun _ _ => ?_
   have ew71 : IntKind.wrap .i64 ((j : Int) + (1)) = ((j + 1 : Nat) : Int) := (wrap_i64 (by omega) (by omega)).trans (by omega)
   refine ⟨_,rfl,?_⟩
   exact ⟨(j + 1,q89,f ++ putN x76.id ++ putN x76.inc),s.x.floors.length - (j + 1),by omega,⟨rfl,rfl,rfl,congrArg (Value.int .i64) ew71,trivial⟩,⟨rfl,trivial⟩,rfl,by first | omega | (simp only; omega),by rw [show flsB (s.x.floors.take (j + 1)) = flsB (s.x.floors.take j) ++ flB x76 from fm_succ hy76,← List.append_assoc,← hw,List.append_assoc]; rfl,hO89,cat_new (hP80'.trans hP88) hN80' hN89,hPr89.pres (hP80'.trans hP88) hN80'⟩
 ·replace h17 : (i : Int) < (s.x.items.length : Int) := of_decide_eq_true h17
  refine Cm gg st' [Ml 1 0,(2,Sn),(3,vS q b.length),(4,vI (i : Int)),(17,vB true)] [(1,0,cSV s)] fun _ _ => ?_
  obtain ⟨s1,hs1'⟩ : ∃ s1,s1 = st' := ⟨_,rfl⟩
  subst hs1'
  refine cxs ?_
  refine ⟨_,rfl,?_⟩
  refine ⟨_,Od rfl,?_⟩
  refine op_at i (hP.rows hR.1) (by omega) rfl rfl rfl rfl rfl rfl rfl ?_
  intro x23 b23 d23 k23 hy23 hb23 hm23 hc23 ho23
  refine ⟨_,rfl,?_⟩
  refine ⟨_,op_lda rfl rfl rfl rfl rfl hm23 (sub_row 1 5 hc23 rfl (by decide)) rfl,?_⟩
  refine ⟨_,rfl,?_⟩
  refine ⟨_,Os rfl,?_⟩
  refine Cm (gg + 1) s1 [Ml 1 0,(2,Sn),(3,vS q b.length),(4,vI (i : Int)),Ml 5 gg,(17,vB true)] [(1,0,cSV s),(5,gg,[vI x23.e.inc,vI x23.e.rank,vI x23.e.beat,vI x23.e.ver,.string x23.e.data])] fun _ _ => ?_
  have hdz : x23.e.data.size ≤ 8 := okSize hk (List.mem_of_getElem? hy23)
  refine ⟨_,rfl,?_⟩
  refine ⟨_,Od rfl,?_⟩
  refine op_el i (hP.rows hR.1) hy23 rfl rfl rfl rfl rfl rfl rfl ?_
  intro b29 d29 k29 hb29 hm29 hc29 ho29
  refine ⟨_,rfl,?_⟩
  refine ⟨_,op_ldc (i := 0) rfl rfl rfl rfl hm29 hc29 rfl rfl,?_⟩
  refine ⟨_,rfl,?_⟩
  refine ⟨_,Od rfl,?_⟩
  refine ⟨_,rfl,?_⟩
  refine ⟨_,Od rfl,?_⟩
  refine ⟨_,rfl,?_⟩
  refine ⟨_,Od rfl,?_⟩
  refine ⟨_,rfl,?_⟩
  refine ⟨_,Od rfl,?_⟩
  refine op_litI (k := .i64) (l := itL x23) rfl rfl rfl rfl rfl rfl (by decide) ?_
  intro q40 s40 hO40 hP40 hN40
  refine cxs ?_
  have h5 : (itL x23).length = 5 := rfl
  have hO40 : OwnR s40 1 fI q40 (itL x23) := hO40
  refine Cm (gg + 1) s40 [Ml 1 0,(2,Sn),(3,vS q b.length),(4,vI (i : Int)),Ml 5 gg,(6,vS q40 (itL x23).length),(7,vI 0),(17,vB true)] [(1,0,cSV s),(5,gg,[vI x23.e.inc,vI x23.e.rank,vI x23.e.beat,vI x23.e.ver,.string x23.e.data])] fun _ _ => ?_
  refine AW.loopM (fun y : Nat × Option Addr × List Int => [(1,vL 1 0 (0)),(2,.slice none 0 0),(3,vS y.2.1 y.2.2.length),(4,vI (i : Int)),(5,vL 5 0 (gg)),(6,vS q40 (itL x23).length),(7,vI (y.1 : Int)),(17,vB true)]) (fun y : Nat × Option Addr × List Int => [(1,0,[vS s.p s.x.items.length,vS s.q s.x.floors.length]),(5,gg,[vI x23.e.inc,vI x23.e.rank,vI x23.e.beat,vI x23.e.ver,.string x23.e.data])]) (fun m (y : Nat × Option Addr × List Int) st' => m = 5 - y.1 ∧ y.1 ≤ 5 ∧ y.2.2 = b ++ numsB ((itL x23).take y.1) ∧ OwnR st' 1 fB y.2.1 y.2.2 ∧ New st.next y.2.1 ∧ OwnR st' 1 fI q40 (itL x23) ∧ Dis y.2.1 q40 ∧ Pres st st') (0,q,b) _ ⟨rfl,rfl,rfl,rfl,rfl,rfl,rfl,rfl,trivial⟩ ⟨rfl,rfl,trivial⟩ ⟨rfl,Nat.zero_le _,(List.append_nil _).symm,hP40.ownR hO,hN,hO40,Dis.of hO.old hN40,hP.trans hP40⟩ ?_
  rintro m ⟨k,r,c⟩ ρ0 ff gg2 st' ⟨rfl,hk5,hc,hOc,hNc,hO5,hd5,hPc⟩
  simp only at hk5 hc hOc hNc hd5
  have hcl : c.length ≤ 30 + 38 * s.x.items.length := by rw [hc,List.length_append]; have := numsB_len ((itL x23).take k); rw [List.length_take] at this; omega
  iterate 2 refine ⟨_,rfl,?_⟩
  rintro (_|_) h44
  ·replace h44 : ¬ ((k : Int) < ((itL x23).length : Int)) := of_decide_eq_false h44
   refine Cm gg2 st' [Ml 1 0,(2,Sn),(3,vS r c.length),(4,vI (i : Int)),Ml 5 gg,(6,vS q40 (itL x23).length),(7,vI (k : Int)),(17,vB true),(44,vB false)] [(1,0,cSV s),(5,gg,[vI x23.e.inc,vI x23.e.rank,vI x23.e.beat,vI x23.e.ver,.string x23.e.data])] fun _ _ => ?_
   have hc5 : c = b ++ numsB (itL x23) := by rw [hc,show k = 5 by omega]; rfl
   refine cxs ?_
   refine ⟨_,rfl,?_⟩
   refine ⟨_,Od rfl,?_⟩
   have hpt := putS_len x23.e.data
   refine ⟨_,rfl,(ac_spec_PutText x23.e.data st' (by first | assumption | omega)).mono ?_⟩
   rintro _ s57 ⟨q57,rfl,hO57,hN57,hP57⟩
   refine op_cat' (z := 1) (st := s57) (f := fB) (b := 1) (l := c) (l2 := putS x23.e.data) rfl rfl rfl rfl rfl rfl rfl (by decide) fB_len rfl rfl rfl rfl (by first | omega | (simp only [List.length_nil]; omega)) (by unfold maxLen; first | omega | (simp only [List.length_nil]; omega)) (hP57.ownR hOc) (hO57.rows fB_len) ?_
   intro q58 s58 hO58 hPr58 hN58
   refine Cm gg2 s58 [Ml 1 0,(2,Sn),(3,vS q58 (c ++ (putS x23.e.data)).length),(4,vI (i : Int)),Ml 5 gg,(6,vS q40 (itL x23).length),(7,vI (k : Int)),(17,vB true),(44,vB false)] [(1,0,cSV s),(5,gg,[vI x23.e.inc,vI x23.e.rank,vI x23.e.beat,vI x23.e.ver,.string x23.e.data])] fun _ _ => ?_
   have ew19 : IntKind.wrap .i64 ((i : Int) + (1)) = ((i + 1 : Nat) : Int) := (wrap_i64 (by omega) (by omega)).trans (by omega)
   refine ⟨_,rfl,?_⟩
   exact ⟨(i + 1,q58,c ++ putS x23.e.data),s.x.items.length - (i + 1),by omega,⟨rfl,rfl,rfl,congrArg (Value.int .i64) ew19,trivial⟩,⟨rfl,trivial⟩,rfl,by first | omega | (simp only; omega),by rw [show itsB (s.x.items.take (i + 1)) = itsB (s.x.items.take i) ++ itB x23 from fm_succ hy23,← List.append_assoc,← hv,hc5,List.append_assoc]; rfl,hO58,cat_new (hPc.trans hP57) hNc hN58,hPr58.pres (hPc.trans hP57) hNc⟩
  ·replace h44 : (k : Int) < ((itL x23).length : Int) := of_decide_eq_true h44
   refine Cm gg2 st' [Ml 1 0,(2,Sn),(3,vS r c.length),(4,vI (i : Int)),Ml 5 gg,(6,vS q40 (itL x23).length),(7,vI (k : Int)),(17,vB true),(44,vB true)] [(1,0,cSV s),(5,gg,[vI x23.e.inc,vI x23.e.rank,vI x23.e.beat,vI x23.e.ver,.string x23.e.data])] fun _ _ => ?_
   refine cxs ?_
   refine op_at k (hO5.rows fI_len) (by omega) rfl rfl rfl rfl rfl rfl rfl ?_
   intro x50 b50 d50 k50 hy50 hb50 hm50 hc50 ho50
   refine ⟨_,op_ldc (i := 0) rfl rfl rfl rfl hm50 hc50 rfl rfl,?_⟩
   have hpl := putN_len x50
   refine ⟨_,rfl,(ac_spec_PutNum x50 st').mono ?_⟩
   rintro _ s52 ⟨q52,rfl,hO52,hN52,hP52⟩
   refine op_cat' (z := 1) (st := s52) (f := fB) (b := 1) (l := c) (l2 := putN x50) rfl rfl rfl rfl rfl rfl rfl (by decide) fB_len rfl rfl rfl rfl (by first | omega | (simp only [List.length_nil]; omega)) (by unfold maxLen; first | omega | (simp only [List.length_nil]; omega)) (hP52.ownR hOc) (hO52.rows fB_len) ?_
   intro q53 s53 hO53 hPr53 hN53
   refine Cm gg2 s53 [Ml 1 0,(2,Sn),(3,vS q53 (c ++ (putN x50)).length),(4,vI (i : Int)),Ml 5 gg,(6,vS q40 (itL x23).length),(7,vI (k : Int)),(17,vB true),(44,vB true)] [(1,0,cSV s),(5,gg,[vI x23.e.inc,vI x23.e.rank,vI x23.e.beat,vI x23.e.ver,.string x23.e.data])] fun _ _ => ?_
   have ew46 : IntKind.wrap .i64 ((k : Int) + (1)) = ((k + 1 : Nat) : Int) := (wrap_i64 (by omega) (by omega)).trans (by omega)
   refine ⟨_,rfl,?_⟩
   exact ⟨(k + 1,q53,c ++ putN x50),5 - (k + 1),by omega,⟨rfl,rfl,rfl,rfl,rfl,rfl,congrArg (Value.int .i64) ew46,rfl,trivial⟩,⟨rfl,rfl,trivial⟩,rfl,by first | omega | (simp only; omega),by rw [numsB_succ hy50,← List.append_assoc,← hc],hO53,cat_new (hPc.trans hP52) hNc hN53,hPr53.ownR hd5 (hP52.ownR hO5),cat_dis hd5 (hP52.ownR hO5).old hN53,hPr53.pres (hPc.trans hP52) hNc⟩
theorem ac_impl_StateBytes (s : SV) (st : St) (hR : RdS st s) (hb : bigS s.x) (hk : stateOk s.x) : C 47 [.agg #[vS s.p s.x.items.length,vS s.q s.x.floors.length]] st (fun v s' => ∃ q,v = vS q (stB s.x).length ∧ OwnR s' 1 fB q (stB s.x) ∧ New st.next q ∧ Pres st s') := by
 have hs1 : s.x.items.length ≤ 1048576 := hb.1
 have hs2 : s.x.floors.length ≤ 1048576 := hb.2.1
 have hpl1 := putN_len (s.x.items.length : Int)
 have hpl2 := putN_len (s.x.floors.length : Int)
 refine AC.enterX (i := ⟨[1,5,6,8],[1,5,6,8,12,16,23,26,29,32,35,38,41,48,54,62,65],[0,1,2,3,5,6,8,11,17,18,19,20,55,56,57,58],[]⟩) [(8,[3,6,9,12,15],[5,8,11,14,17]),(14,[3],[5])] Try.func47 rfl rfl (by kernel_rfl) (by kernel_rfl) Try.ntmps47 (Lb rfl) rfl ?_
 refine ⟨_,rfl,?_⟩
 refine Cm 1 st [Ml 1 0,(2,Sn)] [(1,0,cSV s)] fun _ _ => ?_
 refine ⟨_,Od rfl,?_⟩
 refine ⟨_,rfl,(AC.tru (ac_impl_StateOk s st hR hb) hk).mono ?_⟩
 rintro _ st ⟨rfl,rfl⟩
 refine ⟨_,rfl,?_⟩
 refine Cm 1 st [Ml 1 0,(2,Sn),(11,vB false)] [(1,0,cSV s)] fun _ _ => ?_
 refine cxs ?_
 refine ⟨_,rfl,?_⟩
 refine ⟨_,Od rfl,?_⟩
 refine ⟨_,rfl,?_⟩
 refine ⟨_,rfl,(ac_impl_PutNum (s.x.items.length : Int) st).mono ?_⟩
 rintro _ s15 ⟨q15,rfl,hO15,hN15,hP15⟩
 refine Cm 1 s15 [Ml 1 0,(2,Sn),(3,vS q15 (putN (s.x.items.length : Int)).length)] [(1,0,cSV s)] fun _ _ => ?_
 refine ⟨_,rfl,?_⟩
 refine ⟨_,Od rfl,?_⟩
 refine ⟨_,rfl,?_⟩
 refine Cm 1 s15 [Ml 1 0,(2,Sn),(3,vS q15 (putN (s.x.items.length : Int)).length),(17,vS s.p s.x.items.length),(18,vI (s.x.items.length : Int)),(19,vI 0)] [(1,0,cSV s)] fun _ _ => ?_
 refine AW.loopM (fun x : Nat × Option Addr × List Int => [(1,vL 1 0 (0)),(2,.slice none 0 0),(3,vS x.2.1 x.2.2.length),(17,vS s.p s.x.items.length),(18,vI (s.x.items.length : Int)),(19,vI (x.1 : Int))]) (fun x : Nat × Option Addr × List Int => [(1,0,[vS s.p s.x.items.length,vS s.q s.x.floors.length])]) (fun m (x : Nat × Option Addr × List Int) st' => m = s.x.items.length - x.1 ∧ x.1 ≤ s.x.items.length ∧ x.2.2 = putN (s.x.items.length : Int) ++ itsB (s.x.items.take x.1) ∧ OwnR st' 1 fB x.2.1 x.2.2 ∧ New st.next x.2.1 ∧ Pres st st') (0,q15,putN (s.x.items.length : Int)) _ ⟨rfl,rfl,rfl,rfl,rfl,rfl,trivial⟩ ⟨rfl,trivial⟩ ⟨rfl,Nat.zero_le _,(List.append_nil _).symm,hO15,hN15,hP15⟩ ?_
 rintro m ⟨i,q,b⟩ ρ0 ff gg st' ⟨rfl,hi,hv,hO,hN,hP⟩
 simp only at hi hv hO hN
 have hbl : b.length ≤ 5 + 38 * s.x.items.length := by rw [hv,List.length_append]; have := its_len hk i; omega
 refine ⟨_,rfl,?_⟩
 rintro (_|_) h20
 ·replace h20 : ¬ ((i : Int) < (s.x.items.length : Int)) := of_decide_eq_false h20
  refine Cm gg st' [Ml 1 0,(2,Sn),(3,vS q b.length),(17,vS s.p s.x.items.length),(18,vI (s.x.items.length : Int)),(19,vI (i : Int)),(20,vB false)] [(1,0,cSV s)] fun _ _ => ?_
  have hv1 : b = putN (s.x.items.length : Int) ++ itsB s.x.items := by rw [hv,show i = s.x.items.length by omega,List.take_length]
  obtain ⟨s1,hs1'⟩ : ∃ s1,s1 = st' := ⟨_,rfl⟩
  subst hs1'
  refine cxs ?_
  refine ⟨_,rfl,?_⟩
  refine ⟨_,Od rfl,?_⟩
  refine ⟨_,rfl,?_⟩
  refine ⟨_,rfl,(ac_impl_PutNum (s.x.floors.length : Int) s1).mono ?_⟩
  rintro _ s51 ⟨q51,rfl,hO51,hN51,hP51⟩
  have hfm : fl [⟨q,b⟩,⟨q51,putN (s.x.floors.length : Int)⟩] = b ++ putN (s.x.floors.length : Int) := by simp [fl]
  refine op_litR [⟨q,b⟩,⟨q51,putN (s.x.floors.length : Int)⟩] rfl rfl rfl (by decide) rfl rfl rfl (by decide) ?_
  intro q52 s52 hO52 hP52 hN52
  refine ⟨_,rfl,(ac_impl_joined q52 [⟨q,b⟩,⟨q51,putN (s.x.floors.length : Int)⟩] s52 (hO52.rows cRV_len) (fun r hr => by
  simp only [List.mem_cons,List.not_mem_nil,or_false] at hr
  rcases hr with rfl | rfl
  ·exact (hP51.trans hP52).rows (hO.rows fB_len)
  ·exact hP52.rows (hO51.rows fB_len)) (by show (2 : Nat) ≤ 1048576; omega) (by rw [hfm,List.length_append]; omega)).mono ?_⟩
  rintro _ s53 ⟨q53,rfl,hO53,hN53,hP53⟩
  refine Cm gg s53 [Ml 1 0,(2,Sn),(3,vS q53 (fl [⟨q,b⟩,⟨q51,putN (s.x.floors.length : Int)⟩]).length)] [(1,0,cSV s)] fun _ _ => ?_
  have hN53' : New st.next q53 := hN53.le ((hP.trans hP51).trans hP52).1
  have hP53' := ((hP.trans hP51).trans hP52).trans hP53
  refine ⟨_,rfl,?_⟩
  refine ⟨_,Od rfl,?_⟩
  refine ⟨_,rfl,?_⟩
  refine Cm gg s53 [(2,Sn),(3,vS q53 (fl [⟨q,b⟩,⟨q51,putN (s.x.floors.length : Int)⟩]).length),(55,vS s.q s.x.floors.length),(56,vI (s.x.floors.length : Int)),(57,vI 0)] [] fun _ _ => ?_
  refine AW.loopM (fun z : Nat × Option Addr × List Int => [(2,.slice none 0 0),(3,vS z.2.1 z.2.2.length),(55,vS s.q s.x.floors.length),(56,vI (s.x.floors.length : Int)),(57,vI (z.1 : Int))]) (fun z : Nat × Option Addr × List Int => []) (fun m (z : Nat × Option Addr × List Int) st' => m = s.x.floors.length - z.1 ∧ z.1 ≤ s.x.floors.length ∧ z.2.2 = b ++ putN (s.x.floors.length : Int) ++ flsB (s.x.floors.take z.1) ∧ OwnR st' 1 fB z.2.1 z.2.2 ∧ New st.next z.2.1 ∧ Pres st st') (0,q53,fl [⟨q,b⟩,⟨q51,putN (s.x.floors.length : Int)⟩]) _ ⟨rfl,rfl,rfl,rfl,rfl,trivial⟩ trivial ⟨rfl,Nat.zero_le _,hfm.trans (List.append_nil _).symm,hO53,hN53',hP53'⟩ ?_
  rintro m ⟨j,r,f⟩ ρ0 ff gg st' ⟨rfl,hj,hw,hOf,hNf,hPf⟩
  simp only at hj hw hOf hNf
  have hfl : f.length ≤ 10 + 38 * s.x.items.length + 10 * s.x.floors.length := by rw [hw,List.length_append,List.length_append]; have := fls_len s.x.floors j; omega
  refine ⟨_,rfl,?_⟩
  rintro (_|_) h58
  ·replace h58 : ¬ ((j : Int) < (s.x.floors.length : Int)) := of_decide_eq_false h58
   refine Cm gg st' [(2,Sn),(3,vS r f.length),(55,vS s.q s.x.floors.length),(56,vI (s.x.floors.length : Int)),(57,vI (j : Int)),(58,vB false)] [] fun _ _ => ?_
   have hw1 : f = stB s.x := by rw [hw,show j = s.x.floors.length by omega,List.take_length,hv1]; rfl
   refine cxs ?_
   refine cxs ?_
   refine ⟨.inl rfl,_,rfl,r,?_⟩
   rw [← hw1]
   exact ⟨rfl,hOf,hNf,hPf⟩
  ·replace h58 : (j : Int) < (s.x.floors.length : Int) := of_decide_eq_true h58
   refine Cm gg st' [(2,Sn),(3,vS r f.length),(55,vS s.q s.x.floors.length),(56,vI (s.x.floors.length : Int)),(57,vI (j : Int)),(58,vB true)] [] fun _ _ => ?_
   refine cxs ?_
   refine op_at j (hPf.rows hR.2) (by omega) rfl rfl rfl rfl rfl rfl rfl ?_
   intro x59 b59 d59 k59 hy59 hb59 hm59 hc59 ho59
   refine ⟨_,op_lda rfl rfl rfl rfl rfl hm59 hc59 rfl,?_⟩
   refine ⟨_,rfl,?_⟩
   refine ⟨_,Os rfl,?_⟩
   refine Cm (gg + 1) st' [(2,Sn),(3,vS r f.length),Ml 8 gg,(55,vS s.q s.x.floors.length),(56,vI (s.x.floors.length : Int)),(57,vI (j : Int)),(58,vB true)] [(8,gg,[vI x59.id,vI x59.inc])] fun _ _ => ?_
   refine ⟨_,rfl,?_⟩
   refine ⟨_,Od rfl,?_⟩
   refine ⟨_,rfl,(ac_impl_PutNum x59.id st').mono ?_⟩
   rintro _ s64 ⟨q64,rfl,hO64,hN64,hP64⟩
   refine ⟨hP64.2,?_⟩
   refine ⟨_,rfl,?_⟩
   refine ⟨_,Od rfl,?_⟩
   refine ⟨ld_own rfl rfl rfl,?_⟩
   refine ⟨_,rfl,(ac_impl_PutNum x59.inc s64).mono ?_⟩
   rintro _ s67 ⟨q67,rfl,hO67,hN67,hP67⟩
   have hpa := putN_len x59.id
   have hpb := putN_len x59.inc
   have g64 := hP64.trans hP67
   have hfn : fl [⟨r,f⟩,⟨q64,putN x59.id⟩,⟨q67,putN x59.inc⟩] = f ++ flB x59 := by simp [fl,flB]
   have hil := flB_len x59
   refine op_litR [⟨r,f⟩,⟨q64,putN x59.id⟩,⟨q67,putN x59.inc⟩] rfl rfl rfl (by decide) rfl rfl rfl (by decide) ?_
   intro q68 s68 hO68 hP68 hN68
   refine ⟨_,rfl,(ac_impl_joined q68 [⟨r,f⟩,⟨q64,putN x59.id⟩,⟨q67,putN x59.inc⟩] s68 (hO68.rows cRV_len) (fun r hr => by
  simp only [List.mem_cons,List.not_mem_nil,or_false] at hr
  rcases hr with rfl | rfl | rfl
  ·exact (g64.trans hP68).rows (hOf.rows fB_len)
  ·exact (hP67.trans hP68).rows (hO64.rows fB_len)
  ·exact hP68.rows (hO67.rows fB_len)) (by show (3 : Nat) ≤ 1048576; omega) (by rw [hfn,List.length_append]; omega)).mono ?_⟩
   rintro _ s69 ⟨q69,rfl,hO69,hN69,hP69⟩
   refine Cm (gg + 1) s69 [(2,Sn),(3,vS q69 (fl [⟨r,f⟩,⟨q64,putN x59.id⟩,⟨q67,putN x59.inc⟩]).length),Ml 8 gg,(55,vS s.q s.x.floors.length),(56,vI (s.x.floors.length : Int)),(57,vI (j : Int)),(58,vB true)] [(8,gg,[vI x59.id,vI x59.inc])] fun _ _ => ?_
   have ew70 : IntKind.wrap .i64 ((j : Int) + (1)) = ((j + 1 : Nat) : Int) := (wrap_i64 (by omega) (by omega)).trans (by omega)
   refine ⟨_,rfl,?_⟩
   exact ⟨(j + 1,q69,fl [⟨r,f⟩,⟨q64,putN x59.id⟩,⟨q67,putN x59.inc⟩]),s.x.floors.length - (j + 1),by omega,⟨rfl,rfl,rfl,rfl,congrArg (Value.int .i64) ew70,trivial⟩,trivial,rfl,by first | omega | (simp only; omega),by rw [show flsB (s.x.floors.take (j + 1)) = flsB (s.x.floors.take j) ++ flB x59 from fm_succ hy59,← List.append_assoc,← hw]; exact hfn,hO69,hN69.le ((hPf.trans g64).trans hP68).1,((hPf.trans g64).trans hP68).trans hP69⟩
 ·replace h20 : (i : Int) < (s.x.items.length : Int) := of_decide_eq_true h20
  refine Cm gg st' [Ml 1 0,(2,Sn),(3,vS q b.length),(17,vS s.p s.x.items.length),(18,vI (s.x.items.length : Int)),(19,vI (i : Int)),(20,vB true)] [(1,0,cSV s)] fun _ _ => ?_
  obtain ⟨s1,hs1'⟩ : ∃ s1,s1 = st' := ⟨_,rfl⟩
  subst hs1'
  refine cxs ?_
  refine op_at i (hP.rows hR.1) (by omega) rfl rfl rfl rfl rfl rfl rfl ?_
  intro x21 b21 d21 k21 hy21 hb21 hm21 hc21 ho21
  refine ⟨_,op_lda rfl rfl rfl rfl rfl hm21 hc21 rfl,?_⟩
  refine ⟨_,rfl,?_⟩
  refine ⟨_,Os rfl,?_⟩
  refine Cm (gg + 1) s1 [Ml 1 0,(2,Sn),(3,vS q b.length),Ml 5 gg,(17,vS s.p s.x.items.length),(18,vI (s.x.items.length : Int)),(19,vI (i : Int)),(20,vB true)] [(1,0,cSV s),(5,gg,[vI x21.id,vI x21.e.inc,vI x21.e.rank,vI x21.e.beat,vI x21.e.ver,.string x21.e.data])] fun _ _ => ?_
  refine ⟨_,rfl,?_⟩
  refine ⟨_,Od rfl,?_⟩
  refine ⟨_,rfl,?_⟩
  refine ⟨_,Os rfl,?_⟩
  refine Cm (gg + 2) s1 [Ml 1 0,(2,Sn),(3,vS q b.length),Ml 5 gg,(6,vL 6 0 (gg + 1)),(17,vS s.p s.x.items.length),(18,vI (s.x.items.length : Int)),(19,vI (i : Int)),(20,vB true)] [(1,0,cSV s),(5,gg,[vI x21.id,vI x21.e.inc,vI x21.e.rank,vI x21.e.beat,vI x21.e.ver,.string x21.e.data]),(6,gg + 1,[vI x21.e.inc,vI x21.e.rank,vI x21.e.beat,vI x21.e.ver,.string x21.e.data])] fun _ _ => ?_
  have hdz : x21.e.data.size ≤ 8 := okSize hk (List.mem_of_getElem? hy21)
  refine ⟨_,rfl,?_⟩
  refine ⟨_,Od rfl,?_⟩
  refine ⟨_,rfl,(ac_impl_PutNum x21.id s1).mono ?_⟩
  rintro _ s28 ⟨q28,rfl,hO28,hN28,hP28⟩
  refine ⟨hP28.2,?_⟩
  refine ⟨_,rfl,?_⟩
  refine ⟨_,Od rfl,?_⟩
  refine ⟨ld_own rfl rfl rfl,?_⟩
  refine ⟨_,rfl,(ac_impl_PutNum x21.e.inc s28).mono ?_⟩
  rintro _ s31 ⟨q31,rfl,hO31,hN31,hP31⟩
  refine ⟨hP31.low hP28,?_⟩
  refine ⟨_,rfl,?_⟩
  refine ⟨_,Od rfl,?_⟩
  refine ⟨ld_own rfl rfl rfl,?_⟩
  refine ⟨_,rfl,(ac_impl_PutNum x21.e.rank s31).mono ?_⟩
  rintro _ s34 ⟨q34,rfl,hO34,hN34,hP34⟩
  refine ⟨hP34.low (hP28.trans hP31),?_⟩
  refine ⟨_,rfl,?_⟩
  refine ⟨_,Od rfl,?_⟩
  refine ⟨ld_own rfl rfl rfl,?_⟩
  refine ⟨_,rfl,(ac_impl_PutNum x21.e.beat s34).mono ?_⟩
  rintro _ s37 ⟨q37,rfl,hO37,hN37,hP37⟩
  refine ⟨hP37.low ((hP28.trans hP31).trans hP34),?_⟩
  refine ⟨_,rfl,?_⟩
  refine ⟨_,Od rfl,?_⟩
  refine ⟨ld_own rfl rfl rfl,?_⟩
  refine ⟨_,rfl,(ac_impl_PutNum x21.e.ver s37).mono ?_⟩
  rintro _ s40 ⟨q40,rfl,hO40,hN40,hP40⟩
  refine ⟨hP40.low (((hP28.trans hP31).trans hP34).trans hP37),?_⟩
  refine ⟨_,rfl,?_⟩
  refine ⟨_,Od rfl,?_⟩
  refine ⟨ld_own rfl rfl rfl,?_⟩
  refine ⟨_,rfl,(ac_impl_PutText x21.e.data s40 (by first | assumption | omega)).mono ?_⟩
  rintro _ s43 ⟨q43,rfl,hO43,hN43,hP43⟩
  have g43 := hP43
  have g40 := hP40.trans g43
  have g37 := hP37.trans g40
  have g34 := hP34.trans g37
  have g31 := hP31.trans g34
  have g28 := hP28.trans g31
  have hfl : fl [⟨q,b⟩,⟨q28,putN x21.id⟩,⟨q31,putN x21.e.inc⟩,⟨q34,putN x21.e.rank⟩,⟨q37,putN x21.e.beat⟩,⟨q40,putN x21.e.ver⟩,⟨q43,putS x21.e.data⟩] = b ++ itB x21 := by simp [fl,itB,numsB,itL]
  have hil := itB_len hdz
  refine op_litR [⟨q,b⟩,⟨q28,putN x21.id⟩,⟨q31,putN x21.e.inc⟩,⟨q34,putN x21.e.rank⟩,⟨q37,putN x21.e.beat⟩,⟨q40,putN x21.e.ver⟩,⟨q43,putS x21.e.data⟩] rfl rfl rfl (by decide) rfl rfl rfl (by decide) ?_
  intro q44 s44 hO44 hP44 hN44
  refine ⟨_,rfl,(ac_impl_joined q44 [⟨q,b⟩,⟨q28,putN x21.id⟩,⟨q31,putN x21.e.inc⟩,⟨q34,putN x21.e.rank⟩,⟨q37,putN x21.e.beat⟩,⟨q40,putN x21.e.ver⟩,⟨q43,putS x21.e.data⟩] s44 (hO44.rows cRV_len) (fun r hr => by
  simp only [List.mem_cons,List.not_mem_nil,or_false] at hr
  rcases hr with rfl | rfl | rfl | rfl | rfl | rfl | rfl
  ·exact (g28.trans hP44).rows (hO.rows fB_len)
  ·exact (g31.trans hP44).rows (hO28.rows fB_len)
  ·exact (g34.trans hP44).rows (hO31.rows fB_len)
  ·exact (g37.trans hP44).rows (hO34.rows fB_len)
  ·exact (g40.trans hP44).rows (hO37.rows fB_len)
  ·exact (g43.trans hP44).rows (hO40.rows fB_len)
  ·exact hP44.rows (hO43.rows fB_len)) (by show (7 : Nat) ≤ 1048576; omega) (by rw [hfl,List.length_append]; omega)).mono ?_⟩
  rintro _ s45 ⟨q45,rfl,hO45,hN45,hP45⟩
  refine Cm (gg + 2) s45 [Ml 1 0,(2,Sn),(3,vS q45 (fl [⟨q,b⟩,⟨q28,putN x21.id⟩,⟨q31,putN x21.e.inc⟩,⟨q34,putN x21.e.rank⟩,⟨q37,putN x21.e.beat⟩,⟨q40,putN x21.e.ver⟩,⟨q43,putS x21.e.data⟩]).length),Ml 5 gg,(6,vL 6 0 (gg + 1)),(17,vS s.p s.x.items.length),(18,vI (s.x.items.length : Int)),(19,vI (i : Int)),(20,vB true)] [(1,0,cSV s),(5,gg,[vI x21.id,vI x21.e.inc,vI x21.e.rank,vI x21.e.beat,vI x21.e.ver,.string x21.e.data]),(6,gg + 1,[vI x21.e.inc,vI x21.e.rank,vI x21.e.beat,vI x21.e.ver,.string x21.e.data])] fun _ _ => ?_
  have ew46 : IntKind.wrap .i64 ((i : Int) + (1)) = ((i + 1 : Nat) : Int) := (wrap_i64 (by omega) (by omega)).trans (by omega)
  refine ⟨_,rfl,?_⟩
  exact ⟨(i + 1,q45,fl [⟨q,b⟩,⟨q28,putN x21.id⟩,⟨q31,putN x21.e.inc⟩,⟨q34,putN x21.e.rank⟩,⟨q37,putN x21.e.beat⟩,⟨q40,putN x21.e.ver⟩,⟨q43,putS x21.e.data⟩]),s.x.items.length - (i + 1),by omega,⟨rfl,rfl,rfl,rfl,rfl,congrArg (Value.int .i64) ew46,trivial⟩,⟨rfl,trivial⟩,rfl,by first | omega | (simp only; omega),by rw [show itsB (s.x.items.take (i + 1)) = itsB (s.x.items.take i) ++ itB x21 from fm_succ hy21,← List.append_assoc,← hv]; exact hfl,hO45,hN45.le ((hP.trans g28).trans hP44).1,((hP.trans g28).trans hP44).trans hP45⟩
theorem cmpS {A : Option Value} {Q : Prop} {K : Bool → Prop} (h : ∃ b,A = some (.bool b) ∧ (b = true ↔ Q)) (hk : ∀ c,(c = true ↔ Q) → K c) : ∃ b,A = some (.bool b) ∧ ∀ c,b = c → K c := by
 obtain ⟨b,h1,h2⟩ := h
 exact ⟨b,h1,fun c hc => hc ▸ hk b h2⟩
theorem same_next {α β : Type} {f : α → β} {a b : List α} {i : Nat} {x y : α} (hx : a[i]? = some x) (hy : b[i]? = some y) (h : f x = f y) (heq : ∀ (j : Nat) x y,j < i → a[j]? = some x → b[j]? = some y → f x = f y) : ∀ (j : Nat) x y,j < i + 1 → a[j]? = some x → b[j]? = some y → f x = f y := by
 intro j u v hj hu hv
 rcases Nat.lt_or_ge j i with h2 | h2
 ·exact heq j u v h2 hu hv
 ·obtain rfl : j = i := by omega
  rw [hx] at hu; rw [hy] at hv
  injection hu with hu; injection hv with hv
  rw [← hu,← hv]; exact h
theorem same_at {α : Type} {a b : List α} {i : Nat} {x y : α} (hx : a[i]? = some x) (hy : b[i]? = some y) (h : a = b) : x = y := by
 subst h; rw [hx] at hy; injection hy
theorem sta_ext {a b : Sta} (h1 : a.items = b.items) (h2 : a.floors = b.floors) : a = b := by cases a; cases b; simp only at h1 h2; rw [h1,h2]
theorem neq_Mark (x y : Flr) : ∃ b,abin Try.prog .neq 97 (.agg #[vI x.id,vI x.inc]) (.agg #[vI y.id,vI y.inc]) = some (.bool b) ∧ (b = true ↔ ¬ x = y) := by
 refine ⟨!((if (x.id == y.id) = true then (if (x.inc == y.inc) = true then true else false) else false)),?_,?_⟩
 ·have h : abin Try.prog .neq 97 (.agg #[vI x.id,vI x.inc]) (.agg #[vI y.id,vI y.inc]) = (((some (x.id == y.id)).bind fun r => if r = true then ((some (x.inc == y.inc)).bind fun r => if r = true then some true else some false) else some false)).map fun b => Value.bool !b := by kernel_rfl
  rw [h]; cases x.id == y.id <;> cases x.inc == y.inc <;> rfl
 ·cases x; cases y; simp [Classical.or_iff_not_imp_left]
theorem neq_Floor (x y : Flr) : ∃ b,abin Try.prog .neq 112 (.agg #[vI x.id,vI x.inc]) (.agg #[vI y.id,vI y.inc]) = some (.bool b) ∧ (b = true ↔ ¬ x = y) := by
 refine ⟨!((if (x.id == y.id) = true then (if (x.inc == y.inc) = true then true else false) else false)),?_,?_⟩
 ·have h : abin Try.prog .neq 112 (.agg #[vI x.id,vI x.inc]) (.agg #[vI y.id,vI y.inc]) = (((some (x.id == y.id)).bind fun r => if r = true then ((some (x.inc == y.inc)).bind fun r => if r = true then some true else some false) else some false)).map fun b => Value.bool !b := by kernel_rfl
  rw [h]; cases x.id == y.id <;> cases x.inc == y.inc <;> rfl
 ·cases x; cases y; simp [Classical.or_iff_not_imp_left]
theorem neq_Item (x y : Itm) : ∃ b,abin Try.prog .neq 110 (.agg #[vI x.id,vI x.e.inc,vI x.e.rank,vI x.e.beat,vI x.e.ver,.string x.e.data]) (.agg #[vI y.id,vI y.e.inc,vI y.e.rank,vI y.e.beat,vI y.e.ver,.string y.e.data]) = some (.bool b) ∧ (b = true ↔ ¬ x = y) := by
 refine ⟨!(x.id == y.id && (x.e.inc == y.e.inc && (x.e.rank == y.e.rank && (x.e.beat == y.e.beat && (x.e.ver == y.e.ver && x.e.data.toList == y.e.data.toList))))),?_,?_⟩
 ·have h : abin Try.prog .neq 110 (.agg #[vI x.id,vI x.e.inc,vI x.e.rank,vI x.e.beat,vI x.e.ver,.string x.e.data]) (.agg #[vI y.id,vI y.e.inc,vI y.e.rank,vI y.e.beat,vI y.e.ver,.string y.e.data]) = ((some (x.id == y.id)).bind fun r => if r = true then (((some (x.e.inc == y.e.inc)).bind fun r => if r = true then ((some (x.e.rank == y.e.rank)).bind fun r => if r = true then ((some (x.e.beat == y.e.beat)).bind fun r => if r = true then ((some (x.e.ver == y.e.ver)).bind fun r => if r = true then ((some (x.e.data.toList == y.e.data.toList)).bind fun r => if r = true then some true else some false) else some false) else some false) else some false) else some false).bind fun r => if r = true then some true else some false) else some false).map fun b => Value.bool !b := by kernel_rfl
  rw [h]; cases x.id == y.id <;> cases x.e.inc == y.e.inc <;> cases x.e.rank == y.e.rank <;> cases x.e.beat == y.e.beat <;> cases x.e.ver == y.e.ver <;> cases x.e.data.toList == y.e.data.toList <;> rfl
 ·rcases x with ⟨i,a,b,c,d,s⟩
  rcases y with ⟨j,a',b',c',d',s'⟩
  have hb : (s.toList == s'.toList) = true ↔ s = s' := beq_bytes
  cases hs : (s.toList == s'.toList) with
  | true => simp [hs,hb.1 hs,Classical.or_iff_not_imp_left]
  | false =>
   have : ¬ s = s' := fun h => by rw [hb.2 h] at hs; cases hs
   simp [hs,this]
theorem ac_spec_l1Same (p q : Option Addr) (a b : List Int) (st : St) (hA : Rows st 1 fI p a) (hB : Rows st 1 fI q b) (hs : szOk a.length) : C 143 [vS p a.length,vS q b.length] st (fun v s => ∃ x,v = .bool x ∧ (x = true ↔ a = b) ∧ s = st) := by
 have hs : a.length ≤ 1048576 := hs
 refine AC.enterX (i := ⟨[],[],[0,1,4,5,10,14,25],[]⟩) [(6,[],[])] Try.func143 rfl rfl (by kernel_rfl) (by kernel_rfl) Try.ntmps143 (Lb rfl) rfl ?_
 refine Cu lo0 st [(0,vS p a.length),(1,vS q b.length),(4,vB false)] fun _ => ?_
 iterate 3 refine ⟨_,rfl,?_⟩
 rintro (_|_) h10
 ·replace h10 : (a.length : Int) = (b.length : Int) := bne_eq_false_iff_eq.1 h10
  refine Cu lo0 st [(0,vS p a.length),(1,vS q b.length),(4,vB false),(10,vB false)] fun _ => ?_
  refine cxs ?_
  refine Cu lo0 st [(0,vS p a.length),(1,vS q b.length),(4,vB false),(5,vI 0)] fun _ => ?_
  refine AW.loop0 (fun i : Nat => [(0,vS p a.length),(1,vS q b.length),(5,vI (i : Int))]) (fun m (i : Nat) st' => m = a.length - i ∧ i ≤ a.length ∧ (∀ (j : Nat) x y,j < i → a[j]? = some x → b[j]? = some y → x = y) ∧ st = st') 0 _ ⟨rfl,rfl,rfl,trivial⟩ rfl ⟨rfl,Nat.zero_le _,fun j x y h => absurd h (Nat.not_lt_zero _),rfl⟩ ?_
  rintro m i ρ0 st' ⟨rfl,hi,heq,rfl⟩
  iterate 2 refine ⟨_,rfl,?_⟩
  rintro (_|_) h14
  ·replace h14 : ¬ ((i : Int) < (a.length : Int)) := of_decide_eq_false h14
   refine Cu lo0 st [(0,vS p a.length),(1,vS q b.length),(5,vI (i : Int)),(14,vB false)] fun _ => ?_
   refine cxs ?_
   exact cxs (Rt ⟨true,rfl,⟨fun _ => iff_lists (by omega) fun j x y hj hx hy => heq j x y (by omega) hx hy,fun _ => rfl⟩,rfl⟩)
  ·replace h14 : (i : Int) < (a.length : Int) := of_decide_eq_true h14
   refine Cu lo0 st [(0,vS p a.length),(1,vS q b.length),(5,vI (i : Int)),(14,vB true)] fun _ => ?_
   refine cxs ?_
   refine op_at i hA (by omega) rfl rfl rfl rfl rfl rfl rfl ?_
   intro x19 b19 d19 k19 hy19 hb19 hm19 hc19 ho19
   refine ⟨_,op_ldc (i := 0) rfl rfl rfl rfl hm19 hc19 rfl rfl,?_⟩
   refine op_at i hB (by omega) rfl rfl rfl rfl rfl rfl rfl ?_
   intro x23 b23 d23 k23 hy23 hb23 hm23 hc23 ho23
   refine ⟨_,op_ldc (i := 0) rfl rfl rfl rfl hm23 hc23 rfl rfl,?_⟩
   refine ⟨_,rfl,?_⟩
   rintro (_|_) h25
   ·replace h25 : x19 = x23 := bne_eq_false_iff_eq.1 h25
    refine Cu lo0 st [(0,vS p a.length),(1,vS q b.length),(5,vI (i : Int)),(14,vB true),(25,vB false)] fun _ => ?_
    refine cxs ?_
    have ew16 : IntKind.wrap .i64 ((i : Int) + (1)) = ((i + 1 : Nat) : Int) := (wrap_i64 (by omega) (by omega)).trans (by omega)
    refine ⟨_,rfl,?_⟩
    exact ⟨i + 1,a.length - (i + 1),by omega,⟨rfl,rfl,congrArg (Value.int .i64) ew16,trivial⟩,rfl,rfl,by omega,same_next (f := fun x => x) hy19 hy23 h25 heq,rfl⟩
   ·replace h25 : ¬ (x19 = x23) := bne_iff_ne.1 h25
    refine Cu lo0 st [(0,vS p a.length),(1,vS q b.length),(5,vI (i : Int)),(14,vB true),(25,vB true)] fun _ => ?_
    exact cxs (Rt ⟨false,rfl,⟨fun h => absurd h Bool.false_ne_true,fun h => (show False from (absurd (same_at hy19 hy23 h) h25)).elim⟩,rfl⟩)
 ·replace h10 : ¬ ((a.length : Int) = (b.length : Int)) := bne_iff_ne.1 h10
  refine Cu lo0 st [(0,vS p a.length),(1,vS q b.length),(4,vB false),(10,vB true)] fun _ => ?_
  exact cxs (Rt ⟨false,rfl,⟨fun h => absurd h Bool.false_ne_true,fun h => (show False from (absurd (congrArg (fun l : List Int => (l.length : Int)) h) h10)).elim⟩,rfl⟩)
theorem ac_spec_l10Marks (p q : Option Addr) (a b : List Flr) (st : St) (hA : Rows st 2 cFlr p a) (hB : Rows st 2 cFlr q b) (hs : szOk a.length) : C 144 [vS p a.length,vS q b.length] st (fun v s => ∃ x,v = .bool x ∧ (x = true ↔ a = b) ∧ s = st) := by
 have hs : a.length ≤ 1048576 := hs
 refine AC.enterX (i := ⟨[],[],[0,1,4,5,10,14,25],[]⟩) [(6,[],[])] Try.func144 rfl rfl (by kernel_rfl) (by kernel_rfl) Try.ntmps144 (Lb rfl) rfl ?_
 refine Cu lo0 st [(0,vS p a.length),(1,vS q b.length),(4,vB false)] fun _ => ?_
 iterate 3 refine ⟨_,rfl,?_⟩
 rintro (_|_) h10
 ·replace h10 : (a.length : Int) = (b.length : Int) := bne_eq_false_iff_eq.1 h10
  refine Cu lo0 st [(0,vS p a.length),(1,vS q b.length),(4,vB false),(10,vB false)] fun _ => ?_
  refine cxs ?_
  refine Cu lo0 st [(0,vS p a.length),(1,vS q b.length),(4,vB false),(5,vI 0)] fun _ => ?_
  refine AW.loop0 (fun i : Nat => [(0,vS p a.length),(1,vS q b.length),(5,vI (i : Int))]) (fun m (i : Nat) st' => m = a.length - i ∧ i ≤ a.length ∧ (∀ (j : Nat) x y,j < i → a[j]? = some x → b[j]? = some y → x = y) ∧ st = st') 0 _ ⟨rfl,rfl,rfl,trivial⟩ rfl ⟨rfl,Nat.zero_le _,fun j x y h => absurd h (Nat.not_lt_zero _),rfl⟩ ?_
  rintro m i ρ0 st' ⟨rfl,hi,heq,rfl⟩
  iterate 2 refine ⟨_,rfl,?_⟩
  rintro (_|_) h14
  ·replace h14 : ¬ ((i : Int) < (a.length : Int)) := of_decide_eq_false h14
   refine Cu lo0 st [(0,vS p a.length),(1,vS q b.length),(5,vI (i : Int)),(14,vB false)] fun _ => ?_
   refine cxs ?_
   exact cxs (Rt ⟨true,rfl,⟨fun _ => iff_lists (by omega) fun j x y hj hx hy => heq j x y (by omega) hx hy,fun _ => rfl⟩,rfl⟩)
  ·replace h14 : (i : Int) < (a.length : Int) := of_decide_eq_true h14
   refine Cu lo0 st [(0,vS p a.length),(1,vS q b.length),(5,vI (i : Int)),(14,vB true)] fun _ => ?_
   refine cxs ?_
   refine op_at i hA (by omega) rfl rfl rfl rfl rfl rfl rfl ?_
   intro x19 b19 d19 k19 hy19 hb19 hm19 hc19 ho19
   refine ⟨_,op_lda rfl rfl rfl rfl rfl hm19 hc19 rfl,?_⟩
   refine op_at i hB (by omega) rfl rfl rfl rfl rfl rfl rfl ?_
   intro x23 b23 d23 k23 hy23 hb23 hm23 hc23 ho23
   refine ⟨_,op_lda rfl rfl rfl rfl rfl hm23 hc23 rfl,?_⟩
   refine cmpS (neq_Mark x19 x23) ?_
   rintro (_|_) h25
   ·replace h25 : x19 = x23 := Classical.byContradiction fun k => Bool.false_ne_true (h25.2 k)
    refine Cu lo0 st [(0,vS p a.length),(1,vS q b.length),(5,vI (i : Int)),(14,vB true),(25,vB false)] fun _ => ?_
    refine cxs ?_
    have ew16 : IntKind.wrap .i64 ((i : Int) + (1)) = ((i + 1 : Nat) : Int) := (wrap_i64 (by omega) (by omega)).trans (by omega)
    refine ⟨_,rfl,?_⟩
    exact ⟨i + 1,a.length - (i + 1),by omega,⟨rfl,rfl,congrArg (Value.int .i64) ew16,trivial⟩,rfl,rfl,by omega,same_next (f := fun x => x) hy19 hy23 h25 heq,rfl⟩
   ·replace h25 : ¬ x19 = x23 := h25.1 rfl
    refine Cu lo0 st [(0,vS p a.length),(1,vS q b.length),(5,vI (i : Int)),(14,vB true),(25,vB true)] fun _ => ?_
    exact cxs (Rt ⟨false,rfl,⟨fun h => absurd h Bool.false_ne_true,fun h => (show False from (absurd (same_at hy19 hy23 h) h25)).elim⟩,rfl⟩)
 ·replace h10 : ¬ ((a.length : Int) = (b.length : Int)) := bne_iff_ne.1 h10
  refine Cu lo0 st [(0,vS p a.length),(1,vS q b.length),(4,vB false),(10,vB true)] fun _ => ?_
  exact cxs (Rt ⟨false,rfl,⟨fun h => absurd h Bool.false_ne_true,fun h => (show False from (absurd (congrArg (fun l : List Flr => (l.length : Int)) h) h10)).elim⟩,rfl⟩)
theorem ac_spec_StateSame (a b : SV) (st : St) (hA : RdS st a) (hB : RdS st b) (hb : bigS a.x) : C 49 [.agg #[vS a.p a.x.items.length,vS a.q a.x.floors.length],.agg #[vS b.p b.x.items.length,vS b.q b.x.floors.length]] st (fun v s => ∃ x,v = .bool x ∧ (x = true ↔ a.x = b.x) ∧ s = st) := by
 have hs1 : a.x.items.length ≤ 1048576 := hb.1
 have hs2 : a.x.floors.length ≤ 1048576 := hb.2.1
 refine AC.enterX (i := ⟨[2,3],[2,3,7,10,15,18,24,30,35,42,48,53],[0,1,2,3,4,5,6,22,27,40,45,58],[]⟩) [(6,[],[]),(11,[],[])] Try.func49 rfl rfl (by kernel_rfl) (by kernel_rfl) Try.ntmps49 (Lb rfl) rfl ?_
 iterate 2 refine ⟨_,rfl,?_⟩
 refine Cm 2 st [Ml 2 0,Ml 3 1,(4,vB false)] [(2,0,cSV a),(3,1,cSV b)] fun _ _ => ?_
 refine ⟨_,rfl,?_⟩
 refine ⟨_,Od rfl,?_⟩
 iterate 2 refine ⟨_,rfl,?_⟩
 refine ⟨_,Od rfl,?_⟩
 iterate 2 refine ⟨_,rfl,?_⟩
 rintro (_|_) h13
 ·replace h13 : (a.x.items.length : Int) = (b.x.items.length : Int) := bne_eq_false_iff_eq.1 h13
  refine ⟨_,rfl,?_⟩
  refine ⟨_,Od rfl,?_⟩
  iterate 2 refine ⟨_,rfl,?_⟩
  refine ⟨_,Od rfl,?_⟩
  iterate 2 refine ⟨_,rfl,?_⟩
  rintro (_|_) h21
  ·replace h21 : (a.x.floors.length : Int) = (b.x.floors.length : Int) := bne_eq_false_iff_eq.1 h21
   refine ⟨_,rfl,?_⟩
   refine Cm 2 st [Ml 2 0,Ml 3 1,(4,vB false),(22,vB false)] [(2,0,cSV a),(3,1,cSV b)] fun _ _ => ?_
   refine cxs ?_
   refine Cm 2 st [Ml 2 0,Ml 3 1,(4,vB false),(5,vI 0)] [(2,0,cSV a),(3,1,cSV b)] fun _ _ => ?_
   refine AW.loopM (fun i : Nat => [(2,vL 2 0 (0)),(3,vL 3 0 (1)),(5,vI (i : Int))]) (fun i : Nat => [(2,0,[vS a.p a.x.items.length,vS a.q a.x.floors.length]),(3,1,[vS b.p b.x.items.length,vS b.q b.x.floors.length])]) (fun m (i : Nat) st' => m = a.x.items.length - i ∧ i ≤ a.x.items.length ∧ (∀ (j : Nat) x y,j < i → a.x.items[j]? = some x → b.x.items[j]? = some y → x = y) ∧ st = st') 0 _ ⟨rfl,rfl,rfl,trivial⟩ ⟨rfl,rfl,trivial⟩ ⟨rfl,Nat.zero_le _,fun j x y h => absurd h (Nat.not_lt_zero _),rfl⟩ ?_
   rintro m i ρ0 ff gg st' ⟨rfl,hi,heq,rfl⟩
   refine ⟨_,rfl,?_⟩
   refine ⟨_,Od rfl,?_⟩
   iterate 2 refine ⟨_,rfl,?_⟩
   rintro (_|_) h27
   ·replace h27 : ¬ ((i : Int) < (a.x.items.length : Int)) := of_decide_eq_false h27
    refine Cm gg st [Ml 2 0,Ml 3 1,(5,vI (i : Int)),(27,vB false)] [(2,0,cSV a),(3,1,cSV b)] fun _ _ => ?_
    have hI : a.x.items = b.x.items := iff_lists (by omega) fun j x y hj hx hy => heq j x y (by omega) hx hy
    clear heq
    refine cxs ?_
    refine Cm gg st [Ml 2 0,Ml 3 1,(6,vI 0)] [(2,0,cSV a),(3,1,cSV b)] fun _ _ => ?_
    refine AW.loopM (fun i : Nat => [(2,vL 2 0 (0)),(3,vL 3 0 (1)),(6,vI (i : Int))]) (fun i : Nat => [(2,0,[vS a.p a.x.items.length,vS a.q a.x.floors.length]),(3,1,[vS b.p b.x.items.length,vS b.q b.x.floors.length])]) (fun m (i : Nat) st' => m = a.x.floors.length - i ∧ i ≤ a.x.floors.length ∧ (∀ (j : Nat) x y,j < i → a.x.floors[j]? = some x → b.x.floors[j]? = some y → x = y) ∧ st = st') 0 _ ⟨rfl,rfl,rfl,trivial⟩ ⟨rfl,rfl,trivial⟩ ⟨rfl,Nat.zero_le _,fun j x y h => absurd h (Nat.not_lt_zero _),rfl⟩ ?_
    rintro m i ρ0 ff gg st' ⟨rfl,hi,heq,rfl⟩
    refine ⟨_,rfl,?_⟩
    refine ⟨_,Od rfl,?_⟩
    iterate 2 refine ⟨_,rfl,?_⟩
    rintro (_|_) h45
    ·replace h45 : ¬ ((i : Int) < (a.x.floors.length : Int)) := of_decide_eq_false h45
     refine Cm gg st [Ml 2 0,Ml 3 1,(6,vI (i : Int)),(45,vB false)] [(2,0,cSV a),(3,1,cSV b)] fun _ _ => ?_
     refine cxs ?_
     exact cxs (Rt ⟨true,rfl,⟨fun _ => sta_ext hI (iff_lists (by omega) fun j x y hj hx hy => heq j x y (by omega) hx hy),fun _ => rfl⟩,rfl⟩)
    ·replace h45 : (i : Int) < (a.x.floors.length : Int) := of_decide_eq_true h45
     refine Cm gg st [Ml 2 0,Ml 3 1,(6,vI (i : Int)),(45,vB true)] [(2,0,cSV a),(3,1,cSV b)] fun _ _ => ?_
     refine cxs ?_
     refine ⟨_,rfl,?_⟩
     refine ⟨_,Od rfl,?_⟩
     refine op_at i hA.2 (by omega) rfl rfl rfl rfl rfl rfl rfl ?_
     intro x51 b51 d51 k51 hy51 hb51 hm51 hc51 ho51
     refine ⟨_,op_lda rfl rfl rfl rfl rfl hm51 hc51 rfl,?_⟩
     refine ⟨_,rfl,?_⟩
     refine ⟨_,Od rfl,?_⟩
     refine op_at i hB.2 (by omega) rfl rfl rfl rfl rfl rfl rfl ?_
     intro x56 b56 d56 k56 hy56 hb56 hm56 hc56 ho56
     refine ⟨_,op_lda rfl rfl rfl rfl rfl hm56 hc56 rfl,?_⟩
     refine cmpS (neq_Floor x51 x56) ?_
     rintro (_|_) h58
     ·replace h58 : x51 = x56 := Classical.byContradiction fun k => Bool.false_ne_true (h58.2 k)
      refine Cm gg st [Ml 2 0,Ml 3 1,(6,vI (i : Int)),(45,vB true),(58,vB false)] [(2,0,cSV a),(3,1,cSV b)] fun _ _ => ?_
      refine cxs ?_
      have ew47 : IntKind.wrap .i64 ((i : Int) + (1)) = ((i + 1 : Nat) : Int) := (wrap_i64 (by omega) (by omega)).trans (by omega)
      refine ⟨_,rfl,?_⟩
      exact ⟨i + 1,a.x.floors.length - (i + 1),by omega,⟨rfl,rfl,congrArg (Value.int .i64) ew47,trivial⟩,⟨rfl,rfl,trivial⟩,rfl,by omega,same_next (f := fun x => x) hy51 hy56 h58 heq,rfl⟩
     ·replace h58 : ¬ x51 = x56 := h58.1 rfl
      refine Cm gg st [Ml 2 0,Ml 3 1,(6,vI (i : Int)),(45,vB true),(58,vB true)] [(2,0,cSV a),(3,1,cSV b)] fun _ _ => ?_
      exact cxs (Rt ⟨false,rfl,⟨fun h => absurd h Bool.false_ne_true,fun h => (show False from (absurd (same_at hy51 hy56 (congrArg Sta.floors h)) h58)).elim⟩,rfl⟩)
   ·replace h27 : (i : Int) < (a.x.items.length : Int) := of_decide_eq_true h27
    refine Cm gg st [Ml 2 0,Ml 3 1,(5,vI (i : Int)),(27,vB true)] [(2,0,cSV a),(3,1,cSV b)] fun _ _ => ?_
    refine cxs ?_
    refine ⟨_,rfl,?_⟩
    refine ⟨_,Od rfl,?_⟩
    refine op_at i hA.1 (by omega) rfl rfl rfl rfl rfl rfl rfl ?_
    intro x33 b33 d33 k33 hy33 hb33 hm33 hc33 ho33
    refine ⟨_,op_lda rfl rfl rfl rfl rfl hm33 hc33 rfl,?_⟩
    refine ⟨_,rfl,?_⟩
    refine ⟨_,Od rfl,?_⟩
    refine op_at i hB.1 (by omega) rfl rfl rfl rfl rfl rfl rfl ?_
    intro x38 b38 d38 k38 hy38 hb38 hm38 hc38 ho38
    refine ⟨_,op_lda rfl rfl rfl rfl rfl hm38 hc38 rfl,?_⟩
    refine cmpS (neq_Item x33 x38) ?_
    rintro (_|_) h40
    ·replace h40 : x33 = x38 := Classical.byContradiction fun k => Bool.false_ne_true (h40.2 k)
     refine Cm gg st [Ml 2 0,Ml 3 1,(5,vI (i : Int)),(27,vB true),(40,vB false)] [(2,0,cSV a),(3,1,cSV b)] fun _ _ => ?_
     refine cxs ?_
     have ew29 : IntKind.wrap .i64 ((i : Int) + (1)) = ((i + 1 : Nat) : Int) := (wrap_i64 (by omega) (by omega)).trans (by omega)
     refine ⟨_,rfl,?_⟩
     exact ⟨i + 1,a.x.items.length - (i + 1),by omega,⟨rfl,rfl,congrArg (Value.int .i64) ew29,trivial⟩,⟨rfl,rfl,trivial⟩,rfl,by omega,same_next (f := fun x => x) hy33 hy38 h40 heq,rfl⟩
    ·replace h40 : ¬ x33 = x38 := h40.1 rfl
     refine Cm gg st [Ml 2 0,Ml 3 1,(5,vI (i : Int)),(27,vB true),(40,vB true)] [(2,0,cSV a),(3,1,cSV b)] fun _ _ => ?_
     exact cxs (Rt ⟨false,rfl,⟨fun h => absurd h Bool.false_ne_true,fun h => (show False from (absurd (same_at hy33 hy38 (congrArg Sta.items h)) h40)).elim⟩,rfl⟩)
  ·replace h21 : ¬ ((a.x.floors.length : Int) = (b.x.floors.length : Int)) := bne_iff_ne.1 h21
   refine ⟨_,rfl,?_⟩
   refine Cm 2 st [Ml 2 0,Ml 3 1,(4,vB false),(22,vB true)] [(2,0,cSV a),(3,1,cSV b)] fun _ _ => ?_
   exact cxs (Rt ⟨false,rfl,⟨fun h => absurd h Bool.false_ne_true,fun h => (show False from (absurd (congrArg (fun l : Sta => (l.floors.length : Int)) h) h21)).elim⟩,rfl⟩)
 ·replace h13 : ¬ ((a.x.items.length : Int) = (b.x.items.length : Int)) := bne_iff_ne.1 h13
  refine ⟨_,rfl,?_⟩
  refine Cm 2 st [Ml 2 0,Ml 3 1,(4,vB false),(22,vB true)] [(2,0,cSV a),(3,1,cSV b)] fun _ _ => ?_
  exact cxs (Rt ⟨false,rfl,⟨fun h => absurd h Bool.false_ne_true,fun h => (show False from (absurd (congrArg (fun l : Sta => (l.items.length : Int)) h) h13)).elim⟩,rfl⟩)
theorem mg_ext {a b : Mg} (h1 : a.kind = b.kind) (h2 : a.frm = b.frm) (h3 : a.to = b.to) (h4 : a.num = b.num) (h5 : a.hi = b.hi) (h6 : a.tree = b.tree) (h7 : a.vec = b.vec) (h8 : a.leaves = b.leaves) (h9 : a.part = b.part) (h10 : a.marks = b.marks) : a = b := by
 cases a; cases b; simp only at h1 h2 h3 h4 h5 h6 h7 h8 h9 h10; rw [h1,h2,h3,h4,h5,h6,h7,h8,h9,h10]
theorem ac_spec_MsgSame (a b : MV) (st : St) (hA : RdM st a) (hB : RdM st b) (hb : bigM a.x) : C 65 [.agg #[vI a.kind,vI a.frm,vI a.to,vI a.num,vI a.hi,vS a.tree.p a.tree.l.length,vI a.tree.root,vS a.vec.p a.vec.l.length,vS a.leaves.p a.leaves.l.length,vS a.part.p a.part.x.items.length,vS a.part.q a.part.x.floors.length,vS a.marks.p a.marks.l.length],.agg #[vI b.kind,vI b.frm,vI b.to,vI b.num,vI b.hi,vS b.tree.p b.tree.l.length,vI b.tree.root,vS b.vec.p b.vec.l.length,vS b.leaves.p b.leaves.l.length,vS b.part.p b.part.x.items.length,vS b.part.q b.part.x.floors.length,vS b.marks.p b.marks.l.length]] st (fun v s => ∃ x,v = .bool x ∧ (x = true ↔ a.x = b.x) ∧ s = st) := by
 refine AC.enterX (i := ⟨[2,3],[2,3,5,7,11,13,18,20,25,27,32,34,39,40,42,43,48,49,51,52,57,59,64,66,71,73,78,80],[0,1,2,3,4],[]⟩) [] Try.func65 rfl rfl (by kernel_rfl) (by kernel_rfl) Try.ntmps65 (Lb rfl) rfl ?_
 iterate 2 refine ⟨_,rfl,?_⟩
 refine Cm 2 st [Ml 2 0,Ml 3 1,(4,vB false)] [(2,0,cMV a),(3,1,cMV b)] fun _ _ => ?_
 refine ⟨_,rfl,?_⟩
 refine ⟨_,Od rfl,?_⟩
 refine ⟨_,rfl,?_⟩
 refine ⟨_,Od rfl,?_⟩
 refine ⟨_,rfl,?_⟩
 rintro (_|_) h9
 ·replace h9 : ¬ (a.kind = b.kind) := beq_eq_false_iff_ne.1 h9
  iterate 2 refine ⟨_,rfl,?_⟩
  refine ow_cut [(2,vL 2 0 (0)),(3,vL 3 0 (1)),(4,vB false),(23,vB false)] ⟨rfl,rfl,rfl,rfl,trivial⟩ fun _ => ?_
  iterate 3 refine ⟨_,rfl,?_⟩
  refine ow_cut [(2,vL 2 0 (0)),(3,vL 3 0 (1)),(4,vB false),(46,vB false)] ⟨rfl,rfl,rfl,rfl,trivial⟩ fun _ => ?_
  iterate 3 refine ⟨_,rfl,?_⟩
  refine ow_cut [(2,vL 2 0 (0)),(3,vL 3 0 (1)),(4,vB false),(69,vB false)] ⟨rfl,rfl,rfl,rfl,trivial⟩ fun _ => ?_
  iterate 2 refine ⟨_,rfl,?_⟩
  exact cxs (Rt ⟨false,rfl,⟨fun h => absurd h Bool.false_ne_true,fun h => (show False from (absurd (congrArg Mg.kind h) h9)).elim⟩,rfl⟩)
 ·replace h9 : a.kind = b.kind := beq_iff_eq.1 h9
  refine ⟨_,rfl,?_⟩
  refine ⟨_,Od rfl,?_⟩
  refine ⟨_,rfl,?_⟩
  refine ⟨_,Od rfl,?_⟩
  refine ⟨_,rfl,?_⟩
  rintro (_|_) h15
  ·replace h15 : ¬ (a.frm = b.frm) := beq_eq_false_iff_ne.1 h15
   iterate 2 refine ⟨_,rfl,?_⟩
   refine ow_cut [(2,vL 2 0 (0)),(3,vL 3 0 (1)),(4,vB false),(23,vB false)] ⟨rfl,rfl,rfl,rfl,trivial⟩ fun _ => ?_
   iterate 3 refine ⟨_,rfl,?_⟩
   refine ow_cut [(2,vL 2 0 (0)),(3,vL 3 0 (1)),(4,vB false),(46,vB false)] ⟨rfl,rfl,rfl,rfl,trivial⟩ fun _ => ?_
   iterate 3 refine ⟨_,rfl,?_⟩
   refine ow_cut [(2,vL 2 0 (0)),(3,vL 3 0 (1)),(4,vB false),(69,vB false)] ⟨rfl,rfl,rfl,rfl,trivial⟩ fun _ => ?_
   iterate 2 refine ⟨_,rfl,?_⟩
   exact cxs (Rt ⟨false,rfl,⟨fun h => absurd h Bool.false_ne_true,fun h => (show False from (absurd (congrArg Mg.frm h) h15)).elim⟩,rfl⟩)
  ·replace h15 : a.frm = b.frm := beq_iff_eq.1 h15
   iterate 2 refine ⟨_,rfl,?_⟩
   refine ⟨_,Od rfl,?_⟩
   refine ⟨_,rfl,?_⟩
   refine ⟨_,Od rfl,?_⟩
   refine ⟨_,rfl,?_⟩
   rintro (_|_) h22
   ·replace h22 : ¬ (a.to = b.to) := beq_eq_false_iff_ne.1 h22
    refine ow_cut [(2,vL 2 0 (0)),(3,vL 3 0 (1)),(4,vB false),(17,vB true),(22,vB false)] ⟨rfl,rfl,rfl,rfl,rfl,trivial⟩ fun _ => ?_
    iterate 4 refine ⟨_,rfl,?_⟩
    refine ow_cut [(2,vL 2 0 (0)),(3,vL 3 0 (1)),(4,vB false),(46,vB false)] ⟨rfl,rfl,rfl,rfl,trivial⟩ fun _ => ?_
    iterate 3 refine ⟨_,rfl,?_⟩
    refine ow_cut [(2,vL 2 0 (0)),(3,vL 3 0 (1)),(4,vB false),(69,vB false)] ⟨rfl,rfl,rfl,rfl,trivial⟩ fun _ => ?_
    iterate 2 refine ⟨_,rfl,?_⟩
    exact cxs (Rt ⟨false,rfl,⟨fun h => absurd h Bool.false_ne_true,fun h => (show False from (absurd (congrArg Mg.to h) h22)).elim⟩,rfl⟩)
   ·replace h22 : a.to = b.to := beq_iff_eq.1 h22
    refine ow_cut [(2,vL 2 0 (0)),(3,vL 3 0 (1)),(4,vB false),(17,vB true),(22,vB true)] ⟨rfl,rfl,rfl,rfl,rfl,trivial⟩ fun _ => ?_
    iterate 2 refine ⟨_,rfl,?_⟩
    refine ⟨_,Od rfl,?_⟩
    refine ⟨_,rfl,?_⟩
    refine ⟨_,Od rfl,?_⟩
    refine ⟨_,rfl,?_⟩
    rintro (_|_) h29
    ·replace h29 : ¬ (a.num = b.num) := beq_eq_false_iff_ne.1 h29
     iterate 3 refine ⟨_,rfl,?_⟩
     refine ow_cut [(2,vL 2 0 (0)),(3,vL 3 0 (1)),(4,vB false),(46,vB false)] ⟨rfl,rfl,rfl,rfl,trivial⟩ fun _ => ?_
     iterate 3 refine ⟨_,rfl,?_⟩
     refine ow_cut [(2,vL 2 0 (0)),(3,vL 3 0 (1)),(4,vB false),(69,vB false)] ⟨rfl,rfl,rfl,rfl,trivial⟩ fun _ => ?_
     iterate 2 refine ⟨_,rfl,?_⟩
     exact cxs (Rt ⟨false,rfl,⟨fun h => absurd h Bool.false_ne_true,fun h => (show False from (absurd (congrArg Mg.num h) h29)).elim⟩,rfl⟩)
    ·replace h29 : a.num = b.num := beq_iff_eq.1 h29
     iterate 2 refine ⟨_,rfl,?_⟩
     refine ⟨_,Od rfl,?_⟩
     refine ⟨_,rfl,?_⟩
     refine ⟨_,Od rfl,?_⟩
     refine ⟨_,rfl,?_⟩
     rintro (_|_) h36
     ·replace h36 : ¬ (a.hi = b.hi) := beq_eq_false_iff_ne.1 h36
      iterate 2 refine ⟨_,rfl,?_⟩
      refine ow_cut [(2,vL 2 0 (0)),(3,vL 3 0 (1)),(4,vB false),(46,vB false)] ⟨rfl,rfl,rfl,rfl,trivial⟩ fun _ => ?_
      iterate 3 refine ⟨_,rfl,?_⟩
      refine ow_cut [(2,vL 2 0 (0)),(3,vL 3 0 (1)),(4,vB false),(69,vB false)] ⟨rfl,rfl,rfl,rfl,trivial⟩ fun _ => ?_
      iterate 2 refine ⟨_,rfl,?_⟩
      exact cxs (Rt ⟨false,rfl,⟨fun h => absurd h Bool.false_ne_true,fun h => (show False from (absurd (congrArg Mg.hi h) h36)).elim⟩,rfl⟩)
     ·replace h36 : a.hi = b.hi := beq_iff_eq.1 h36
      iterate 3 refine ⟨_,rfl,?_⟩
      refine ow_cut [(2,vL 2 0 (0)),(3,vL 3 0 (1)),(4,vB false),(38,vB true),(40,vL 2 5 (0))] ⟨rfl,rfl,rfl,rfl,rfl,trivial⟩ fun _ => ?_
      refine ⟨_,Od rfl,?_⟩
      iterate 2 refine ⟨_,rfl,?_⟩
      refine ⟨_,Od rfl,?_⟩
      refine ⟨_,rfl,(ac_spec_l1Same a.tree.p b.tree.p a.tree.l b.tree.l st hA.tree hB.tree (hb.tree)).mono ?_⟩
      rintro _ st ⟨x45,rfl,h45,rfl⟩
      rcases x45 with _|_
      ·replace h45 := fun k => Bool.false_ne_true (h45.2 k)
       iterate 3 refine ⟨_,rfl,?_⟩
       refine ow_cut [(2,vL 2 0 (0)),(3,vL 3 0 (1)),(4,vB false),(62,vB false)] ⟨rfl,rfl,rfl,rfl,trivial⟩ fun _ => ?_
       iterate 3 refine ⟨_,rfl,?_⟩
       exact cxs (Rt ⟨false,rfl,⟨fun h => absurd h Bool.false_ne_true,fun h => (show False from (absurd (congrArg (fun m : Mg => m.tree.leaves) h) h45)).elim⟩,rfl⟩)
      ·replace h45 := h45.1 rfl
       iterate 3 refine ⟨_,rfl,?_⟩
       refine ⟨_,Od rfl,?_⟩
       iterate 2 refine ⟨_,rfl,?_⟩
       refine ⟨_,Od rfl,?_⟩
       refine ⟨_,rfl,?_⟩
       rintro (_|_) h54
       ·replace h54 : ¬ (a.tree.root = b.tree.root) := beq_eq_false_iff_ne.1 h54
        iterate 2 refine ⟨_,rfl,?_⟩
        refine ow_cut [(2,vL 2 0 (0)),(3,vL 3 0 (1)),(4,vB false),(62,vB false)] ⟨rfl,rfl,rfl,rfl,trivial⟩ fun _ => ?_
        iterate 3 refine ⟨_,rfl,?_⟩
        exact cxs (Rt ⟨false,rfl,⟨fun h => absurd h Bool.false_ne_true,fun h => (show False from (absurd (congrArg (fun m : Mg => m.tree.root) h) h54)).elim⟩,rfl⟩)
       ·replace h54 : a.tree.root = b.tree.root := beq_iff_eq.1 h54
        iterate 2 refine ⟨_,rfl,?_⟩
        refine ⟨_,Od rfl,?_⟩
        refine ow_cut [(2,vL 2 0 (0)),(3,vL 3 0 (1)),(4,vB false),(56,vB true),(58,vS a.vec.p a.vec.l.length)] ⟨rfl,rfl,rfl,rfl,rfl,trivial⟩ fun _ => ?_
        refine ⟨_,rfl,?_⟩
        refine ⟨_,Od rfl,?_⟩
        refine ⟨_,rfl,(ac_spec_l1Same a.vec.p b.vec.p a.vec.l b.vec.l st hA.vec hB.vec (hb.vec)).mono ?_⟩
        rintro _ st ⟨x61,rfl,h61,rfl⟩
        rcases x61 with _|_
        ·replace h61 := fun k => Bool.false_ne_true (h61.2 k)
         iterate 3 refine ⟨_,rfl,?_⟩
         refine ow_cut [(2,vL 2 0 (0)),(3,vL 3 0 (1)),(4,vB false),(76,vB false)] ⟨rfl,rfl,rfl,rfl,trivial⟩ fun _ => ?_
         refine ⟨_,rfl,?_⟩
         exact cxs (Rt ⟨false,rfl,⟨fun h => absurd h Bool.false_ne_true,fun h => (show False from (absurd (congrArg Mg.vec h) h61)).elim⟩,rfl⟩)
        ·replace h61 := h61.1 rfl
         iterate 2 refine ⟨_,rfl,?_⟩
         refine ⟨_,Od rfl,?_⟩
         refine ⟨_,rfl,?_⟩
         refine ⟨_,Od rfl,?_⟩
         refine ⟨_,rfl,(ac_spec_l1Same a.leaves.p b.leaves.p a.leaves.l b.leaves.l st hA.leaves hB.leaves (hb.leaves)).mono ?_⟩
         rintro _ st ⟨x68,rfl,h68,rfl⟩
         rcases x68 with _|_
         ·replace h68 := fun k => Bool.false_ne_true (h68.2 k)
          iterate 2 refine ⟨_,rfl,?_⟩
          refine ow_cut [(2,vL 2 0 (0)),(3,vL 3 0 (1)),(4,vB false),(76,vB false)] ⟨rfl,rfl,rfl,rfl,trivial⟩ fun _ => ?_
          refine ⟨_,rfl,?_⟩
          exact cxs (Rt ⟨false,rfl,⟨fun h => absurd h Bool.false_ne_true,fun h => (show False from (absurd (congrArg Mg.leaves h) h68)).elim⟩,rfl⟩)
         ·replace h68 := h68.1 rfl
          iterate 2 refine ⟨_,rfl,?_⟩
          refine ⟨_,Od rfl,?_⟩
          refine ⟨_,rfl,?_⟩
          refine ⟨_,Od rfl,?_⟩
          refine ⟨_,rfl,(ac_spec_StateSame a.part b.part st hA.part hB.part (hb.part)).mono ?_⟩
          rintro _ st ⟨x75,rfl,h75,rfl⟩
          rcases x75 with _|_
          ·replace h75 := fun k => Bool.false_ne_true (h75.2 k)
           refine ⟨_,rfl,?_⟩
           refine ow_cut [(2,vL 2 0 (0)),(3,vL 3 0 (1)),(4,vB false),(76,vB false)] ⟨rfl,rfl,rfl,rfl,trivial⟩ fun _ => ?_
           refine ⟨_,rfl,?_⟩
           exact cxs (Rt ⟨false,rfl,⟨fun h => absurd h Bool.false_ne_true,fun h => (show False from (absurd (congrArg Mg.part h) h75)).elim⟩,rfl⟩)
          ·replace h75 := h75.1 rfl
           refine ⟨_,rfl,?_⟩
           refine ow_cut [(2,vL 2 0 (0)),(3,vL 3 0 (1)),(4,vB false),(76,vB true)] ⟨rfl,rfl,rfl,rfl,trivial⟩ fun _ => ?_
           refine ⟨_,rfl,?_⟩
           refine ⟨_,Od rfl,?_⟩
           refine ⟨_,rfl,?_⟩
           refine ⟨_,Od rfl,?_⟩
           refine ⟨_,rfl,(ac_spec_l10Marks a.marks.p b.marks.p a.marks.l b.marks.l st hA.marks hB.marks (hb.marks)).mono ?_⟩
           rintro _ st ⟨x82,rfl,h82,rfl⟩
           rcases x82 with _|_
           ·replace h82 := fun k => Bool.false_ne_true (h82.2 k)
            refine ⟨_,rfl,?_⟩
            exact cxs (Rt ⟨false,rfl,⟨fun h => absurd h Bool.false_ne_true,fun h => (show False from (absurd (congrArg Mg.marks h) h82)).elim⟩,rfl⟩)
           ·replace h82 := h82.1 rfl
            refine ⟨_,rfl,?_⟩
            exact cxs (Rt ⟨true,rfl,⟨fun _ => mg_ext h9 h15 h22 h29 h36 (by simp only [TV.x,h45,h54]) h61 h68 h75 h82,fun _ => rfl⟩,rfl⟩)
def numsOk (l : List Int) (most top : Int) : Prop := (l.length : Int) ≤ most ∧ ∀ (j : Nat) x,l[j]? = some x → 0 ≤ x ∧ x ≤ top
def trOk (t : Tr) : Prop := if t.leaves.length = 0 then t.root = 0 else t.leaves.length = 4 ∧ (∀ (j : Nat) x,t.leaves[j]? = some x → 0 ≤ x ∧ x ≤ 1023) ∧ (0 ≤ t.root ∧ t.root ≤ 1023)
def incOk (l : List Int) : Prop := ∀ (j : Nat) x,l[j]? = some x → (0 ≤ x ∧ x ≤ 3) ∧ ∀ y,0 < j → l[j - 1]? = some y → y < x
def msgOk (m : Mg) : Prop := ((0 ≤ m.kind ∧ m.kind ≤ 5) ∧ (0 ≤ m.frm ∧ m.frm ≤ 4) ∧ (0 ≤ m.to ∧ m.to ≤ 4) ∧ ¬ m.frm = m.to) ∧ ((0 ≤ m.num ∧ m.num ≤ 100000) ∧ (0 ≤ m.hi ∧ m.hi ≤ 100000)) ∧ trOk m.tree ∧ numsOk m.vec 5 100000 ∧ incOk m.leaves ∧ stateOk m.part ∧ marksOk m.marks
theorem inc_ge {l : List Int} (h : incOk l) : ∀ (j : Nat) x,l[j]? = some x → (j : Int) ≤ x := by
 intro j
 induction j with
 | zero => intro x hx; have := (h 0 x hx).1.1; omega
 | succ j ih =>
  intro x hx
  have hj := (List.getElem?_eq_some_iff.1 hx).1
  have hy : l[j]? = some l[j] := List.getElem?_eq_getElem (by omega)
  have h1 := ih _ hy
  have h2 := (h (j + 1) x hx).2 l[j] (by omega) hy
  omega
theorem inc_len {l : List Int} (h : incOk l) : l.length ≤ 4 := by
 rcases Nat.lt_or_ge 4 l.length with h1 | h1
 ·have hx : l[4]? = some l[4] := List.getElem?_eq_getElem h1
  have h2 := inc_ge h 4 _ hx
  have h3 := (h 4 _ hx).1.2
  omega
 ·exact h1
theorem inc_nums {l : List Int} (h : incOk l) : numsOk l 4 3 := ⟨by have := inc_len h; omega,fun j x hx => (h j x hx).1⟩
theorem ac_spec_l10Nums (p : Option Addr) (l : List Int) (most top : Int) (st : St) (hR : Rows st 1 fI p l) (hs : szOk l.length) : C 122 [vS p l.length,vI most,vI top] st (fun v s => ∃ x,v = .bool x ∧ (x = true ↔ numsOk l most top) ∧ s = st) := by
 have hs : l.length ≤ 1048576 := hs
 refine AC.enterX (i := ⟨[],[],[0,1,2,6,7,11,15,24],[]⟩) [] Try.func122 rfl rfl (by kernel_rfl) (by kernel_rfl) Try.ntmps122 (Lb rfl) rfl ?_
 refine Cu lo0 st [(0,vS p l.length),(1,vI most),(2,vI top),(6,vB false)] fun _ => ?_
 iterate 2 refine ⟨_,rfl,?_⟩
 rintro (_|_) h11
 ·replace h11 : ¬ ((l.length : Int) > most) := of_decide_eq_false h11
  refine Cu lo0 st [(0,vS p l.length),(2,vI top),(6,vB false),(11,vB false)] fun _ => ?_
  refine cxs ?_
  refine Cu lo0 st [(0,vS p l.length),(2,vI top),(6,vB false),(7,vI 0)] fun _ => ?_
  refine AW.loop0 (fun i : Nat => [(0,vS p l.length),(2,vI top),(7,vI (i : Int))]) (fun m (i : Nat) st' => m = l.length - i ∧ i ≤ l.length ∧ (∀ (j : Nat) x,j < i → l[j]? = some x → 0 ≤ x ∧ x ≤ top) ∧ st = st') 0 _ ⟨rfl,rfl,rfl,trivial⟩ rfl ⟨rfl,Nat.zero_le _,fun j x h => absurd h (Nat.not_lt_zero _),rfl⟩ ?_
  rintro m i ρ0 st' ⟨rfl,hi,hok,rfl⟩
  iterate 2 refine ⟨_,rfl,?_⟩
  rintro (_|_) h15
  ·replace h15 : ¬ ((i : Int) < (l.length : Int)) := of_decide_eq_false h15
   refine Cu lo0 st [(0,vS p l.length),(2,vI top),(7,vI (i : Int)),(15,vB false)] fun _ => ?_
   refine cxs ?_
   exact cxs (Rt ⟨true,rfl,⟨fun _ => ⟨by omega,fun j x hx => hok j x (by have := (List.getElem?_eq_some_iff.1 hx).1; omega) hx⟩,fun _ => rfl⟩,rfl⟩)
  ·replace h15 : (i : Int) < (l.length : Int) := of_decide_eq_true h15
   refine Cu lo0 st [(0,vS p l.length),(2,vI top),(7,vI (i : Int)),(15,vB true)] fun _ => ?_
   refine cxs ?_
   refine op_at i hR (by omega) rfl rfl rfl rfl rfl rfl rfl ?_
   intro x20 b20 d20 k20 hy20 hb20 hm20 hc20 ho20
   refine ⟨_,op_ldc (i := 0) rfl rfl rfl rfl hm20 hc20 rfl rfl,?_⟩
   refine ⟨_,rfl,(ac_spec_l1In x20 0 top st).mono ?_⟩
   rintro _ st ⟨x23,rfl,h23,rfl⟩
   rcases x23 with _|_
   ·replace h23 := of_decide_eq_false h23.symm
    refine ⟨_,rfl,?_⟩
    refine Cu lo0 st [(0,vS p l.length),(2,vI top),(7,vI (i : Int)),(15,vB true),(24,vB true)] fun _ => ?_
    exact cxs (Rt ⟨false,rfl,⟨fun h => absurd h Bool.false_ne_true,fun h => (show False from (absurd (h.2 i x20 hy20) h23)).elim⟩,rfl⟩)
   ·replace h23 := of_decide_eq_true h23.symm
    refine ⟨_,rfl,?_⟩
    refine Cu lo0 st [(0,vS p l.length),(2,vI top),(7,vI (i : Int)),(15,vB true),(24,vB false)] fun _ => ?_
    refine cxs ?_
    have ew17 : IntKind.wrap .i64 ((i : Int) + (1)) = ((i + 1 : Nat) : Int) := (wrap_i64 (by omega) (by omega)).trans (by omega)
    refine ⟨_,rfl,?_⟩
    refine ⟨i + 1,l.length - (i + 1),by omega,⟨rfl,rfl,congrArg (Value.int .i64) ew17,trivial⟩,rfl,rfl,by omega,fun j x hj hx => ?_,rfl⟩
    rcases Nat.lt_or_ge j i with h | h
    ·exact hok j x h hx
    ·obtain rfl : j = i := by omega
     rw [hy20] at hx; injection hx with hx; rw [← hx]; exact h23
 ·replace h11 : (l.length : Int) > most := of_decide_eq_true h11
  refine Cu lo0 st [(0,vS p l.length),(2,vI top),(6,vB false),(11,vB true)] fun _ => ?_
  exact cxs (Rt ⟨false,rfl,⟨fun h => absurd h Bool.false_ne_true,fun h => (show False from (absurd h.1 (by omega))).elim⟩,rfl⟩)
theorem ac_spec_l10Tree (t : TV) (st : St) (hR : Rows st 1 fI t.p t.l) (hs : szOk t.l.length) : C 121 [.agg #[vS t.p t.l.length,vI t.root]] st (fun v s => ∃ x,v = .bool x ∧ (x = true ↔ trOk t.x) ∧ s = st) := by
 refine AC.enterX (i := ⟨[1],[1,3,7,10,15,20],[0,1,2,6],[]⟩) [] Try.func121 rfl rfl (by kernel_rfl) (by kernel_rfl) Try.ntmps121 (Lb rfl) rfl ?_
 refine ⟨_,rfl,?_⟩
 refine Cm 1 st [Ml 1 0,(2,vB false)] [(1,0,[vS t.p t.l.length,vI t.root])] fun _ _ => ?_
 refine ⟨_,rfl,?_⟩
 refine ⟨_,Od rfl,?_⟩
 iterate 2 refine ⟨_,rfl,?_⟩
 rintro (_|_) h6
 ·replace h6 : ¬ ((t.l.length : Int) = (0)) := beq_eq_false_iff_ne.1 h6
  refine Cm 1 st [Ml 1 0,(2,vB false),(6,vB false)] [(1,0,[vS t.p t.l.length,vI t.root])] fun _ _ => ?_
  have h0 : ¬ t.l.length = 0 := by omega
  refine cxs ?_
  refine ⟨_,rfl,?_⟩
  refine ⟨_,Od rfl,?_⟩
  iterate 2 refine ⟨_,rfl,?_⟩
  rintro (_|_) h13
  ·replace h13 : ¬ ((t.l.length : Int) = (4)) := beq_eq_false_iff_ne.1 h13
   iterate 2 refine ⟨_,rfl,?_⟩
   exact cxs (Rt ⟨false,rfl,⟨fun h => absurd h Bool.false_ne_true,fun h => (show False from (by rw [trOk,if_neg h0] at h; have h1 : t.l.length = 4 := h.1; omega)).elim⟩,rfl⟩)
  ·replace h13 : (t.l.length : Int) = (4) := beq_iff_eq.1 h13
   refine ⟨_,rfl,?_⟩
   refine ⟨_,Od rfl,?_⟩
   refine ⟨_,rfl,(ac_spec_l10Nums t.p t.l 4 1023 st hR (by first | assumption | omega)).mono ?_⟩
   rintro _ st ⟨x17,rfl,h17,rfl⟩
   rcases x17 with _|_
   ·replace h17 := fun k => Bool.false_ne_true (h17.2 k)
    iterate 2 refine ⟨_,rfl,?_⟩
    exact cxs (Rt ⟨false,rfl,⟨fun h => absurd h Bool.false_ne_true,fun h => (show False from (by rw [trOk,if_neg h0] at h; exact h17 ⟨by have h1 : t.l.length = 4 := h.1; omega,h.2.1⟩)).elim⟩,rfl⟩)
   ·replace h17 := h17.1 rfl
    iterate 2 refine ⟨_,rfl,?_⟩
    refine ⟨_,Od rfl,?_⟩
    refine ⟨_,rfl,(ac_spec_l1In t.root 0 1023 st).mono ?_⟩
    rintro _ st ⟨x22,rfl,h22,rfl⟩
    rcases x22 with _|_
    ·replace h22 := of_decide_eq_false h22.symm
     refine ⟨_,rfl,?_⟩
     exact cxs (Rt ⟨false,rfl,⟨fun h => absurd h Bool.false_ne_true,fun h => (show False from (by rw [trOk,if_neg h0] at h; exact h22 h.2.2)).elim⟩,rfl⟩)
    ·replace h22 := of_decide_eq_true h22.symm
     refine ⟨_,rfl,?_⟩
     exact cxs (Rt ⟨true,rfl,⟨fun _ => by rw [trOk,if_neg h0]; exact ⟨by show t.l.length = 4; omega,h17.2,h22⟩,fun _ => rfl⟩,rfl⟩)
 ·replace h6 : (t.l.length : Int) = (0) := beq_iff_eq.1 h6
  refine Cm 1 st [Ml 1 0,(2,vB false),(6,vB true)] [(1,0,[vS t.p t.l.length,vI t.root])] fun _ _ => ?_
  have h0 : t.l.length = 0 := by omega
  refine ⟨_,rfl,?_⟩
  refine ⟨_,Od rfl,?_⟩
  refine ⟨_,rfl,?_⟩
  rintro (_|_) h9
  ·replace h9 : ¬ (t.root = (0)) := beq_eq_false_iff_ne.1 h9
   exact cxs (Rt ⟨false,rfl,⟨fun h => absurd h Bool.false_ne_true,fun h => (show False from (by rw [trOk,if_pos h0] at h; exact h9 h)).elim⟩,rfl⟩)
  ·replace h9 : t.root = (0) := beq_iff_eq.1 h9
   exact cxs (Rt ⟨true,rfl,⟨fun _ => by rw [trOk,if_pos h0]; exact h9,fun _ => rfl⟩,rfl⟩)
theorem ac_impl_treeOk (t : TV) (st : St) (hR : Rows st 1 fI t.p t.l) (hs : szOk t.l.length) : C 147 [.agg #[vS t.p t.l.length,vI t.root]] st (fun v s => ∃ x,v = .bool x ∧ (x = true ↔ trOk t.x) ∧ s = st) := by
 have hs : t.l.length ≤ 1048576 := hs
 refine AC.enterX (i := ⟨[1],[1,5,9,12,23,28],[0,1,2,4,8,13,14,15,16,21],[]⟩) [] Try.func147 rfl rfl (by kernel_rfl) (by kernel_rfl) Try.ntmps147 (Lb rfl) rfl ?_
 refine ⟨_,rfl,?_⟩
 refine Cm 1 st [Ml 1 0,(2,vB false)] [(1,0,[vS t.p t.l.length,vI t.root])] fun _ _ => ?_
 refine ⟨_,rfl,?_⟩
 refine ⟨_,Od rfl,?_⟩
 iterate 2 refine ⟨_,rfl,?_⟩
 rintro (_|_) h8
 ·replace h8 : ¬ ((t.l.length : Int) = (0)) := beq_eq_false_iff_ne.1 h8
  refine Cm 1 st [Ml 1 0,(2,vB false),(8,vB false)] [(1,0,[vS t.p t.l.length,vI t.root])] fun _ _ => ?_
  have h0 : ¬ t.l.length = 0 := by omega
  refine cxs ?_
  refine ⟨_,rfl,?_⟩
  refine ⟨_,Od rfl,?_⟩
  refine ⟨_,rfl,?_⟩
  refine Cm 1 st [Ml 1 0,(2,vB false),(13,vS t.p t.l.length),(14,vI (t.l.length : Int)),(15,vI 0)] [(1,0,[vS t.p t.l.length,vI t.root])] fun _ _ => ?_
  refine AW.loopM (fun i : Nat => [(1,vL 1 0 (0)),(13,vS t.p t.l.length),(14,vI (t.l.length : Int)),(15,vI (i : Int))]) (fun i : Nat => [(1,0,[vS t.p t.l.length,vI t.root])]) (fun m (i : Nat) st' => m = t.l.length - i ∧ i ≤ t.l.length ∧ (∀ (j : Nat) x,j < i → t.l[j]? = some x → 0 ≤ x ∧ x ≤ 1023) ∧ st = st') 0 _ ⟨rfl,rfl,rfl,rfl,trivial⟩ ⟨rfl,trivial⟩ ⟨rfl,Nat.zero_le _,fun j x h => absurd h (Nat.not_lt_zero _),rfl⟩ ?_
  rintro m i ρ0 ff gg st' ⟨rfl,hi,hok,rfl⟩
  refine ⟨_,rfl,?_⟩
  rintro (_|_) h16
  ·replace h16 : ¬ ((i : Int) < (t.l.length : Int)) := of_decide_eq_false h16
   refine Cm gg st [Ml 1 0,(13,vS t.p t.l.length),(14,vI (t.l.length : Int)),(15,vI (i : Int)),(16,vB false)] [(1,0,[vS t.p t.l.length,vI t.root])] fun _ _ => ?_
   refine cxs ?_
   refine ⟨_,rfl,?_⟩
   refine ⟨_,Od rfl,?_⟩
   iterate 2 refine ⟨_,rfl,?_⟩
   rintro (_|_) h26
   ·replace h26 : ¬ ((t.l.length : Int) = (4)) := beq_eq_false_iff_ne.1 h26
    refine ⟨_,rfl,?_⟩
    exact cxs (Rt ⟨false,rfl,⟨fun h => absurd h Bool.false_ne_true,fun h => (show False from (by rw [trOk,if_neg h0] at h; have h1 : t.l.length = 4 := h.1; omega)).elim⟩,rfl⟩)
   ·replace h26 : (t.l.length : Int) = (4) := beq_iff_eq.1 h26
    refine ⟨_,rfl,?_⟩
    refine ⟨_,Od rfl,?_⟩
    refine ⟨_,rfl,(ac_impl_within t.root 0 1023 st).mono ?_⟩
    rintro _ st ⟨x30,rfl,h30,rfl⟩
    rcases x30 with _|_
    ·replace h30 := of_decide_eq_false h30.symm
     refine ⟨_,rfl,?_⟩
     exact cxs (Rt ⟨false,rfl,⟨fun h => absurd h Bool.false_ne_true,fun h => (show False from (by rw [trOk,if_neg h0] at h; exact h30 h.2.2)).elim⟩,rfl⟩)
    ·replace h30 := of_decide_eq_true h30.symm
     refine ⟨_,rfl,?_⟩
     exact cxs (Rt ⟨true,rfl,⟨fun _ => by rw [trOk,if_neg h0]; exact ⟨by show t.l.length = 4; omega,fun j x hx => hok j x (by have := (List.getElem?_eq_some_iff.1 hx).1; simp only [TV.x] at this; omega) hx,h30⟩,fun _ => rfl⟩,rfl⟩)
  ·replace h16 : (i : Int) < (t.l.length : Int) := of_decide_eq_true h16
   refine Cm gg st [Ml 1 0,(13,vS t.p t.l.length),(14,vI (t.l.length : Int)),(15,vI (i : Int)),(16,vB true)] [(1,0,[vS t.p t.l.length,vI t.root])] fun _ _ => ?_
   refine cxs ?_
   refine op_at i hR (by omega) rfl rfl rfl rfl rfl rfl rfl ?_
   intro x17 b17 d17 k17 hy17 hb17 hm17 hc17 ho17
   refine ⟨_,op_ldc (i := 0) rfl rfl rfl rfl hm17 hc17 rfl rfl,?_⟩
   refine Cm gg st [Ml 1 0,(4,vI x17),(13,vS t.p t.l.length),(14,vI (t.l.length : Int)),(15,vI (i : Int)),(16,vB true)] [(1,0,[vS t.p t.l.length,vI t.root])] fun _ _ => ?_
   refine ⟨_,rfl,(ac_impl_within x17 0 1023 st).mono ?_⟩
   rintro _ st ⟨x20,rfl,h20,rfl⟩
   rcases x20 with _|_
   ·replace h20 := of_decide_eq_false h20.symm
    refine ⟨_,rfl,?_⟩
    refine Cm gg st [Ml 1 0,(4,vI x17),(13,vS t.p t.l.length),(14,vI (t.l.length : Int)),(15,vI (i : Int)),(16,vB true),(21,vB true)] [(1,0,[vS t.p t.l.length,vI t.root])] fun _ _ => ?_
    exact cxs (Rt ⟨false,rfl,⟨fun h => absurd h Bool.false_ne_true,fun h => (show False from (by rw [trOk,if_neg h0] at h; exact h20 (h.2.1 i x17 hy17))).elim⟩,rfl⟩)
   ·replace h20 := of_decide_eq_true h20.symm
    refine ⟨_,rfl,?_⟩
    refine Cm gg st [Ml 1 0,(4,vI x17),(13,vS t.p t.l.length),(14,vI (t.l.length : Int)),(15,vI (i : Int)),(16,vB true),(21,vB false)] [(1,0,[vS t.p t.l.length,vI t.root])] fun _ _ => ?_
    refine cxs ?_
    have ew22 : IntKind.wrap .i64 ((i : Int) + (1)) = ((i + 1 : Nat) : Int) := (wrap_i64 (by omega) (by omega)).trans (by omega)
    refine ⟨_,rfl,?_⟩
    refine ⟨i + 1,t.l.length - (i + 1),by omega,⟨rfl,rfl,rfl,congrArg (Value.int .i64) ew22,trivial⟩,⟨rfl,trivial⟩,rfl,by omega,fun j x hj hx => ?_,rfl⟩
    rcases Nat.lt_or_ge j i with h | h
    ·exact hok j x h hx
    ·obtain rfl : j = i := by omega
     rw [hy17] at hx; injection hx with hx; rw [← hx]; exact h20
 ·replace h8 : (t.l.length : Int) = (0) := beq_iff_eq.1 h8
  refine Cm 1 st [Ml 1 0,(2,vB false),(8,vB true)] [(1,0,[vS t.p t.l.length,vI t.root])] fun _ _ => ?_
  have h0 : t.l.length = 0 := by omega
  refine ⟨_,rfl,?_⟩
  refine ⟨_,Od rfl,?_⟩
  refine ⟨_,rfl,?_⟩
  rintro (_|_) h11
  ·replace h11 : ¬ (t.root = (0)) := beq_eq_false_iff_ne.1 h11
   exact cxs (Rt ⟨false,rfl,⟨fun h => absurd h Bool.false_ne_true,fun h => (show False from (by rw [trOk,if_pos h0] at h; exact h11 h)).elim⟩,rfl⟩)
  ·replace h11 : t.root = (0) := beq_iff_eq.1 h11
   exact cxs (Rt ⟨true,rfl,⟨fun _ => by rw [trOk,if_pos h0]; exact h11,fun _ => rfl⟩,rfl⟩)
theorem ac_impl_MsgOk (g : MV) (st : St) (hR : RdM st g) (hb : bigM g.x) : C 67 [.agg #[vI g.kind,vI g.frm,vI g.to,vI g.num,vI g.hi,vS g.tree.p g.tree.l.length,vI g.tree.root,vS g.vec.p g.vec.l.length,vS g.leaves.p g.leaves.l.length,vS g.part.p g.part.x.items.length,vS g.part.q g.part.x.floors.length,vS g.marks.p g.marks.l.length]] st (fun v s => ∃ x,v = .bool x ∧ (x = true ↔ msgOk g.x) ∧ s = st) := by
 have hs1 : g.leaves.l.length ≤ 1048576 := hb.leaves
 have hs2 : g.vec.l.length ≤ 1048576 := hb.vec
 refine AC.enterX (i := ⟨[1],[1,7,12,18,24,26,30,45,56,67,71,76,81,87,92],[0,1,2,3,4,6,29,31,32,33,34,54,57,58,59,60,65],[]⟩) [] Try.func67 rfl rfl (by kernel_rfl) (by kernel_rfl) Try.ntmps67 (Lb rfl) rfl ?_
 refine ⟨_,rfl,?_⟩
 refine Cm 1 st [Ml 1 0,(2,vB false)] [(1,0,cMV g)] fun _ _ => ?_
 refine ⟨_,rfl,?_⟩
 refine ⟨_,Od rfl,?_⟩
 refine ⟨_,rfl,(ac_impl_within g.kind 0 5 st).mono ?_⟩
 rintro _ st ⟨x9,rfl,h9,rfl⟩
 rcases x9 with _|_
 ·replace h9 := of_decide_eq_false h9.symm
  iterate 4 refine ⟨_,rfl,?_⟩
  refine Cm 1 st [Ml 1 0,(2,vB false),(29,vB true)] [(1,0,cMV g)] fun _ _ => ?_
  exact cxs (Rt ⟨false,rfl,⟨fun h => absurd h Bool.false_ne_true,fun h => (show False from (h9 h.1.1)).elim⟩,rfl⟩)
 ·replace h9 := of_decide_eq_true h9.symm
  iterate 2 refine ⟨_,rfl,?_⟩
  refine ⟨_,Od rfl,?_⟩
  refine ⟨_,rfl,(ac_impl_isNode g.frm st).mono ?_⟩
  rintro _ st ⟨x14,rfl,h14,rfl⟩
  rcases x14 with _|_
  ·replace h14 := of_decide_eq_false h14.symm
   iterate 4 refine ⟨_,rfl,?_⟩
   refine Cm 1 st [Ml 1 0,(2,vB false),(29,vB true)] [(1,0,cMV g)] fun _ _ => ?_
   exact cxs (Rt ⟨false,rfl,⟨fun h => absurd h Bool.false_ne_true,fun h => (show False from (h14 h.1.2.1)).elim⟩,rfl⟩)
  ·replace h14 := of_decide_eq_true h14.symm
   iterate 3 refine ⟨_,rfl,?_⟩
   refine ⟨_,Od rfl,?_⟩
   refine ⟨_,rfl,(ac_impl_isNode g.to st).mono ?_⟩
   rintro _ st ⟨x20,rfl,h20,rfl⟩
   rcases x20 with _|_
   ·replace h20 := of_decide_eq_false h20.symm
    iterate 3 refine ⟨_,rfl,?_⟩
    refine Cm 1 st [Ml 1 0,(2,vB false),(29,vB true)] [(1,0,cMV g)] fun _ _ => ?_
    exact cxs (Rt ⟨false,rfl,⟨fun h => absurd h Bool.false_ne_true,fun h => (show False from (h20 h.1.2.2.1)).elim⟩,rfl⟩)
   ·replace h20 := of_decide_eq_true h20.symm
    iterate 3 refine ⟨_,rfl,?_⟩
    refine ⟨_,Od rfl,?_⟩
    refine ⟨_,rfl,?_⟩
    refine ⟨_,Od rfl,?_⟩
    refine ⟨_,rfl,?_⟩
    rintro (_|_) h28
    ·replace h28 : ¬ (g.frm = g.to) := beq_eq_false_iff_ne.1 h28
     refine ⟨_,rfl,?_⟩
     refine Cm 1 st [Ml 1 0,(2,vB false),(29,vB false)] [(1,0,cMV g)] fun _ _ => ?_
     refine cxs ?_
     refine ⟨_,rfl,?_⟩
     refine ⟨_,Od rfl,?_⟩
     refine ⟨_,rfl,?_⟩
     refine Cm 1 st [Ml 1 0,(2,vB false),(31,vS g.leaves.p g.leaves.l.length),(32,vI (g.leaves.l.length : Int)),(33,vI 0)] [(1,0,cMV g)] fun _ _ => ?_
     refine AW.loopM (fun i : Nat => [(1,vL 1 0 (0)),(31,vS g.leaves.p g.leaves.l.length),(32,vI (g.leaves.l.length : Int)),(33,vI (i : Int))]) (fun i : Nat => [(1,0,cMV g)]) (fun m (i : Nat) st' => m = g.leaves.l.length - i ∧ i ≤ g.leaves.l.length ∧ (∀ (j : Nat) x,j < i → g.leaves.l[j]? = some x → (0 ≤ x ∧ x ≤ 3) ∧ ∀ y,0 < j → g.leaves.l[j - 1]? = some y → y < x) ∧ st = st') 0 _ ⟨rfl,rfl,rfl,rfl,trivial⟩ ⟨rfl,trivial⟩ ⟨rfl,Nat.zero_le _,fun j x h => absurd h (Nat.not_lt_zero _),rfl⟩ ?_
     rintro m i ρ0 ff gg st' ⟨rfl,hi,hok,rfl⟩
     refine ⟨_,rfl,?_⟩
     rintro (_|_) h34
     ·replace h34 : ¬ ((i : Int) < (g.leaves.l.length : Int)) := of_decide_eq_false h34
      refine Cm gg st [Ml 1 0,(31,vS g.leaves.p g.leaves.l.length),(32,vI (g.leaves.l.length : Int)),(33,vI (i : Int)),(34,vB false)] [(1,0,cMV g)] fun _ _ => ?_
      have hL : incOk g.leaves.l := fun j x hx => hok j x (by have := (List.getElem?_eq_some_iff.1 hx).1; omega) hx
      clear hok
      refine cxs ?_
      refine ⟨_,rfl,?_⟩
      refine ⟨_,Od rfl,?_⟩
      refine ⟨_,rfl,?_⟩
      refine Cm gg st [Ml 1 0,(57,vS g.vec.p g.vec.l.length),(58,vI (g.vec.l.length : Int)),(59,vI 0)] [(1,0,cMV g)] fun _ _ => ?_
      refine AW.loopM (fun i : Nat => [(1,vL 1 0 (0)),(57,vS g.vec.p g.vec.l.length),(58,vI (g.vec.l.length : Int)),(59,vI (i : Int))]) (fun i : Nat => [(1,0,cMV g)]) (fun m (i : Nat) st' => m = g.vec.l.length - i ∧ i ≤ g.vec.l.length ∧ (∀ (j : Nat) x,j < i → g.vec.l[j]? = some x → 0 ≤ x ∧ x ≤ 100000) ∧ st = st') 0 _ ⟨rfl,rfl,rfl,rfl,trivial⟩ ⟨rfl,trivial⟩ ⟨rfl,Nat.zero_le _,fun j x h => absurd h (Nat.not_lt_zero _),rfl⟩ ?_
      rintro m i ρ0 ff gg st' ⟨rfl,hi,hok,rfl⟩
      refine ⟨_,rfl,?_⟩
      rintro (_|_) h60
      ·replace h60 : ¬ ((i : Int) < (g.vec.l.length : Int)) := of_decide_eq_false h60
       refine Cm gg st [Ml 1 0,(57,vS g.vec.p g.vec.l.length),(58,vI (g.vec.l.length : Int)),(59,vI (i : Int)),(60,vB false)] [(1,0,cMV g)] fun _ _ => ?_
       have hV : ∀ (j : Nat) x,g.vec.l[j]? = some x → 0 ≤ x ∧ x ≤ 100000 := fun j x hx => hok j x (by have := (List.getElem?_eq_some_iff.1 hx).1; omega) hx
       clear hok
       refine cxs ?_
       refine ⟨_,rfl,?_⟩
       refine ⟨_,Od rfl,?_⟩
       refine ⟨_,rfl,(ac_impl_within g.num 0 100000 st).mono ?_⟩
       rintro _ st ⟨x69,rfl,h69,rfl⟩
       rcases x69 with _|_
       ·replace h69 := of_decide_eq_false h69.symm
        iterate 3 refine ⟨_,rfl,?_⟩
        refine ow_cut [(1,vL 1 0 (0)),(85,vB false)] ⟨rfl,rfl,trivial⟩ fun _ => ?_
        iterate 2 refine ⟨_,rfl,?_⟩
        exact cxs (Rt ⟨false,rfl,⟨fun h => absurd h Bool.false_ne_true,fun h => (show False from (h69 h.2.1.1)).elim⟩,rfl⟩)
       ·replace h69 := of_decide_eq_true h69.symm
        refine ⟨_,rfl,?_⟩
        refine ⟨_,Od rfl,?_⟩
        refine ⟨_,rfl,(ac_impl_within g.hi 0 100000 st).mono ?_⟩
        rintro _ st ⟨x73,rfl,h73,rfl⟩
        rcases x73 with _|_
        ·replace h73 := of_decide_eq_false h73.symm
         iterate 3 refine ⟨_,rfl,?_⟩
         refine ow_cut [(1,vL 1 0 (0)),(85,vB false)] ⟨rfl,rfl,trivial⟩ fun _ => ?_
         iterate 2 refine ⟨_,rfl,?_⟩
         exact cxs (Rt ⟨false,rfl,⟨fun h => absurd h Bool.false_ne_true,fun h => (show False from (h73 h.2.1.2)).elim⟩,rfl⟩)
        ·replace h73 := of_decide_eq_true h73.symm
         iterate 2 refine ⟨_,rfl,?_⟩
         refine ⟨_,Od rfl,?_⟩
         refine ⟨_,rfl,(ac_impl_treeOk g.tree st hR.tree (hb.tree)).mono ?_⟩
         rintro _ st ⟨x78,rfl,h78,rfl⟩
         rcases x78 with _|_
         ·replace h78 := fun k => Bool.false_ne_true (h78.2 k)
          iterate 2 refine ⟨_,rfl,?_⟩
          refine ow_cut [(1,vL 1 0 (0)),(85,vB false)] ⟨rfl,rfl,trivial⟩ fun _ => ?_
          iterate 2 refine ⟨_,rfl,?_⟩
          exact cxs (Rt ⟨false,rfl,⟨fun h => absurd h Bool.false_ne_true,fun h => (show False from (h78 h.2.2.1)).elim⟩,rfl⟩)
         ·replace h78 := h78.1 rfl
          iterate 2 refine ⟨_,rfl,?_⟩
          refine ⟨_,Od rfl,?_⟩
          iterate 2 refine ⟨_,rfl,?_⟩
          rintro (_|_) h84
          ·replace h84 : ¬ ((g.vec.l.length : Int) ≤ (5)) := of_decide_eq_false h84
           refine ow_cut [(1,vL 1 0 (0)),(80,vB true),(84,vB false)] ⟨rfl,rfl,rfl,trivial⟩ fun _ => ?_
           iterate 3 refine ⟨_,rfl,?_⟩
           exact cxs (Rt ⟨false,rfl,⟨fun h => absurd h Bool.false_ne_true,fun h => (show False from (absurd h.2.2.2.1.1 h84)).elim⟩,rfl⟩)
          ·replace h84 : (g.vec.l.length : Int) ≤ (5) := of_decide_eq_true h84
           refine ow_cut [(1,vL 1 0 (0)),(80,vB true),(84,vB true)] ⟨rfl,rfl,rfl,trivial⟩ fun _ => ?_
           iterate 2 refine ⟨_,rfl,?_⟩
           refine ⟨_,Od rfl,?_⟩
           refine ⟨_,rfl,(ac_impl_StateOk g.part st hR.part (hb.part)).mono ?_⟩
           rintro _ st ⟨x89,rfl,h89,rfl⟩
           rcases x89 with _|_
           ·replace h89 := fun k => Bool.false_ne_true (h89.2 k)
            iterate 2 refine ⟨_,rfl,?_⟩
            exact cxs (Rt ⟨false,rfl,⟨fun h => absurd h Bool.false_ne_true,fun h => (show False from (h89 h.2.2.2.2.2.1)).elim⟩,rfl⟩)
           ·replace h89 := h89.1 rfl
            iterate 2 refine ⟨_,rfl,?_⟩
            refine ⟨_,Od rfl,?_⟩
            refine ⟨_,rfl,(ac_impl_MarksOk g.marks.p g.marks.l st hR.marks (hb.marks)).mono ?_⟩
            rintro _ st ⟨x94,rfl,h94,rfl⟩
            rcases x94 with _|_
            ·replace h94 := fun k => Bool.false_ne_true (h94.2 k)
             refine ⟨_,rfl,?_⟩
             exact cxs (Rt ⟨false,rfl,⟨fun h => absurd h Bool.false_ne_true,fun h => (show False from (h94 h.2.2.2.2.2.2)).elim⟩,rfl⟩)
            ·replace h94 := h94.1 rfl
             refine ⟨_,rfl,?_⟩
             exact cxs (Rt ⟨true,rfl,⟨fun _ => ⟨⟨h9,h14,h20,h28⟩,⟨h69,h73⟩,h78,⟨h84,hV⟩,hL,h89,h94⟩,fun _ => rfl⟩,rfl⟩)
      ·replace h60 : (i : Int) < (g.vec.l.length : Int) := of_decide_eq_true h60
       refine Cm gg st [Ml 1 0,(57,vS g.vec.p g.vec.l.length),(58,vI (g.vec.l.length : Int)),(59,vI (i : Int)),(60,vB true)] [(1,0,cMV g)] fun _ _ => ?_
       refine cxs ?_
       refine op_at i hR.vec (by omega) rfl rfl rfl rfl rfl rfl rfl ?_
       intro x61 b61 d61 k61 hy61 hb61 hm61 hc61 ho61
       refine ⟨_,op_ldc (i := 0) rfl rfl rfl rfl hm61 hc61 rfl rfl,?_⟩
       refine Cm gg st [Ml 1 0,(6,vI x61),(57,vS g.vec.p g.vec.l.length),(58,vI (g.vec.l.length : Int)),(59,vI (i : Int)),(60,vB true)] [(1,0,cMV g)] fun _ _ => ?_
       refine ⟨_,rfl,(ac_impl_within x61 0 100000 st).mono ?_⟩
       rintro _ st ⟨x64,rfl,h64,rfl⟩
       rcases x64 with _|_
       ·replace h64 := of_decide_eq_false h64.symm
        refine ⟨_,rfl,?_⟩
        refine Cm gg st [Ml 1 0,(6,vI x61),(57,vS g.vec.p g.vec.l.length),(58,vI (g.vec.l.length : Int)),(59,vI (i : Int)),(60,vB true),(65,vB true)] [(1,0,cMV g)] fun _ _ => ?_
        exact cxs (Rt ⟨false,rfl,⟨fun h => absurd h Bool.false_ne_true,fun h => (show False from (h64 (h.2.2.2.1.2 i x61 hy61))).elim⟩,rfl⟩)
       ·replace h64 := of_decide_eq_true h64.symm
        refine ⟨_,rfl,?_⟩
        refine Cm gg st [Ml 1 0,(6,vI x61),(57,vS g.vec.p g.vec.l.length),(58,vI (g.vec.l.length : Int)),(59,vI (i : Int)),(60,vB true),(65,vB false)] [(1,0,cMV g)] fun _ _ => ?_
        refine cxs ?_
        have ew66 : IntKind.wrap .i64 ((i : Int) + (1)) = ((i + 1 : Nat) : Int) := (wrap_i64 (by omega) (by omega)).trans (by omega)
        refine ⟨_,rfl,?_⟩
        refine ⟨i + 1,g.vec.l.length - (i + 1),by omega,⟨rfl,rfl,rfl,congrArg (Value.int .i64) ew66,trivial⟩,⟨rfl,trivial⟩,rfl,by omega,fun j x hj hx => ?_,rfl⟩
        rcases Nat.lt_or_ge j i with h | h
        ·exact hok j x h hx
        ·obtain rfl : j = i := by omega
         rw [hy61] at hx; injection hx with hx; rw [← hx]; exact h64
     ·replace h34 : (i : Int) < (g.leaves.l.length : Int) := of_decide_eq_true h34
      refine Cm gg st [Ml 1 0,(31,vS g.leaves.p g.leaves.l.length),(32,vI (g.leaves.l.length : Int)),(33,vI (i : Int)),(34,vB true)] [(1,0,cMV g)] fun _ _ => ?_
      refine cxs ?_
      refine op_at i hR.leaves (by omega) rfl rfl rfl rfl rfl rfl rfl ?_
      intro x36 b36 d36 k36 hy36 hb36 hm36 hc36 ho36
      refine ⟨_,op_ldc (i := 0) rfl rfl rfl rfl hm36 hc36 rfl rfl,?_⟩
      refine Cm gg st [Ml 1 0,(3,vI (i : Int)),(4,vI x36),(31,vS g.leaves.p g.leaves.l.length),(32,vI (g.leaves.l.length : Int)),(33,vI (i : Int)),(34,vB true)] [(1,0,cMV g)] fun _ _ => ?_
      refine ⟨_,rfl,(ac_impl_within x36 0 3 st).mono ?_⟩
      rintro _ st ⟨x39,rfl,h39,rfl⟩
      rcases x39 with _|_
      ·replace h39 := of_decide_eq_false h39.symm
       iterate 2 refine ⟨_,rfl,?_⟩
       refine Cm gg st [Ml 1 0,(3,vI (i : Int)),(4,vI x36),(31,vS g.leaves.p g.leaves.l.length),(32,vI (g.leaves.l.length : Int)),(33,vI (i : Int)),(34,vB true),(54,vB true)] [(1,0,cMV g)] fun _ _ => ?_
       exact cxs (Rt ⟨false,rfl,⟨fun h => absurd h Bool.false_ne_true,fun h => (show False from (h39 (h.2.2.2.2.1 i x36 hy36).1)).elim⟩,rfl⟩)
      ·replace h39 := of_decide_eq_true h39.symm
       iterate 2 refine ⟨_,rfl,?_⟩
       rintro (_|_) h43
       ·replace h43 : ¬ ((i : Int) > (0)) := of_decide_eq_false h43
        iterate 2 refine ⟨_,rfl,?_⟩
        refine Cm gg st [Ml 1 0,(3,vI (i : Int)),(4,vI x36),(31,vS g.leaves.p g.leaves.l.length),(32,vI (g.leaves.l.length : Int)),(33,vI (i : Int)),(34,vB true),(54,vB false)] [(1,0,cMV g)] fun _ _ => ?_
        have hnew : (0 ≤ x36 ∧ x36 ≤ 3) ∧ ∀ y,0 < i → g.leaves.l[i - 1]? = some y → y < x36 := ⟨h39,fun y h0 _ => by omega⟩
        refine cxs ?_
        have ew55 : IntKind.wrap .i64 ((i : Int) + (1)) = ((i + 1 : Nat) : Int) := (wrap_i64 (by omega) (by omega)).trans (by omega)
        refine ⟨_,rfl,?_⟩
        refine ⟨i + 1,g.leaves.l.length - (i + 1),by omega,⟨rfl,rfl,rfl,congrArg (Value.int .i64) ew55,trivial⟩,⟨rfl,trivial⟩,rfl,by omega,fun j x hj hx => ?_,rfl⟩
        rcases Nat.lt_or_ge j i with h | h
        ·exact hok j x h hx
        ·obtain rfl : j = i := by omega
         rw [hy36] at hx; injection hx with hx; rw [← hx]; exact hnew
       ·replace h43 : (i : Int) > (0) := of_decide_eq_true h43
        refine ⟨_,rfl,?_⟩
        refine ⟨_,Od rfl,?_⟩
        have ew48 : IntKind.wrap .i64 ((i : Int) - (1)) = (i : Int) - (1) := wrap_i64 (by omega) (by omega)
        refine ⟨_,rfl,?_⟩
        refine op_at (i - 1) hR.leaves (by omega) rfl rfl rfl rfl (by rw [ew48]; omega) rfl rfl ?_
        intro x49 b49 d49 k49 hy49 hb49 hm49 hc49 ho49
        refine ⟨_,op_ldc (i := 0) rfl rfl rfl rfl hm49 hc49 rfl rfl,?_⟩
        refine ⟨_,rfl,?_⟩
        rintro (_|_) h52
        ·replace h52 : ¬ (x49 ≥ x36) := of_decide_eq_false h52
         iterate 2 refine ⟨_,rfl,?_⟩
         refine Cm gg st [Ml 1 0,(3,vI (i : Int)),(4,vI x36),(31,vS g.leaves.p g.leaves.l.length),(32,vI (g.leaves.l.length : Int)),(33,vI (i : Int)),(34,vB true),(54,vB false)] [(1,0,cMV g)] fun _ _ => ?_
         have hnew : (0 ≤ x36 ∧ x36 ≤ 3) ∧ ∀ y,0 < i → g.leaves.l[i - 1]? = some y → y < x36 := ⟨h39,fun y h0 hy => by rw [hy49] at hy; injection hy with hy; omega⟩
         refine cxs ?_
         have ew55 : IntKind.wrap .i64 ((i : Int) + (1)) = ((i + 1 : Nat) : Int) := (wrap_i64 (by omega) (by omega)).trans (by omega)
         refine ⟨_,rfl,?_⟩
         refine ⟨i + 1,g.leaves.l.length - (i + 1),by omega,⟨rfl,rfl,rfl,congrArg (Value.int .i64) ew55,trivial⟩,⟨rfl,trivial⟩,rfl,by omega,fun j x hj hx => ?_,rfl⟩
         rcases Nat.lt_or_ge j i with h | h
         ·exact hok j x h hx
         ·obtain rfl : j = i := by omega
          rw [hy36] at hx; injection hx with hx; rw [← hx]; exact hnew
        ·replace h52 : x49 ≥ x36 := of_decide_eq_true h52
         iterate 2 refine ⟨_,rfl,?_⟩
         refine Cm gg st [Ml 1 0,(3,vI (i : Int)),(4,vI x36),(31,vS g.leaves.p g.leaves.l.length),(32,vI (g.leaves.l.length : Int)),(33,vI (i : Int)),(34,vB true),(54,vB true)] [(1,0,cMV g)] fun _ _ => ?_
         exact cxs (Rt ⟨false,rfl,⟨fun h => absurd h Bool.false_ne_true,fun h => (show False from (absurd ((h.2.2.2.2.1 i x36 hy36).2 x49 (by omega) hy49) (by omega))).elim⟩,rfl⟩)
    ·replace h28 : g.frm = g.to := beq_iff_eq.1 h28
     refine ⟨_,rfl,?_⟩
     refine Cm 1 st [Ml 1 0,(2,vB false),(29,vB true)] [(1,0,cMV g)] fun _ _ => ?_
     exact cxs (Rt ⟨false,rfl,⟨fun h => absurd h Bool.false_ne_true,fun h => (show False from (h.1.2.2.2 h28)).elim⟩,rfl⟩)
theorem ac_spec_MsgOk (g : MV) (st : St) (hR : RdM st g) (hb : bigM g.x) : C 54 [.agg #[vI g.kind,vI g.frm,vI g.to,vI g.num,vI g.hi,vS g.tree.p g.tree.l.length,vI g.tree.root,vS g.vec.p g.vec.l.length,vS g.leaves.p g.leaves.l.length,vS g.part.p g.part.x.items.length,vS g.part.q g.part.x.floors.length,vS g.marks.p g.marks.l.length]] st (fun v s => ∃ x,v = .bool x ∧ (x = true ↔ msgOk g.x) ∧ s = st) := by
 have hs1 : g.leaves.l.length ≤ 1048576 := hb.leaves
 refine AC.enterX (i := ⟨[1],[1,4,9,15,21,23,28,34,39,44,50,56,62,68,74,79],[0,1,2,3,38,66,71,85],[]⟩) [(8,[],[])] Try.func54 rfl rfl (by kernel_rfl) (by kernel_rfl) Try.ntmps54 (Lb rfl) rfl ?_
 refine ⟨_,rfl,?_⟩
 refine Cm 1 st [Ml 1 0,(2,vB false)] [(1,0,cMV g)] fun _ _ => ?_
 refine ⟨_,rfl,?_⟩
 refine ⟨_,Od rfl,?_⟩
 refine ⟨_,rfl,(ac_spec_l1In g.kind 0 5 st).mono ?_⟩
 rintro _ st ⟨x6,rfl,h6,rfl⟩
 rcases x6 with _|_
 ·replace h6 := of_decide_eq_false h6.symm
  iterate 4 refine ⟨_,rfl,?_⟩
  refine ow_cut [(1,vL 1 0 (0)),(2,vB false),(26,vB true)] ⟨rfl,rfl,rfl,trivial⟩ fun _ => ?_
  iterate 2 refine ⟨_,rfl,?_⟩
  refine Cm 1 st [Ml 1 0,(2,vB false),(38,vB true)] [(1,0,cMV g)] fun _ _ => ?_
  exact cxs (Rt ⟨false,rfl,⟨fun h => absurd h Bool.false_ne_true,fun h => (show False from (h6 h.1.1)).elim⟩,rfl⟩)
 ·replace h6 := of_decide_eq_true h6.symm
  iterate 2 refine ⟨_,rfl,?_⟩
  refine ⟨_,Od rfl,?_⟩
  refine ⟨_,rfl,(ac_spec_l3Node g.frm st).mono ?_⟩
  rintro _ st ⟨x11,rfl,h11,rfl⟩
  rcases x11 with _|_
  ·replace h11 := of_decide_eq_false h11.symm
   iterate 4 refine ⟨_,rfl,?_⟩
   refine ow_cut [(1,vL 1 0 (0)),(2,vB false),(26,vB true)] ⟨rfl,rfl,rfl,trivial⟩ fun _ => ?_
   iterate 2 refine ⟨_,rfl,?_⟩
   refine Cm 1 st [Ml 1 0,(2,vB false),(38,vB true)] [(1,0,cMV g)] fun _ _ => ?_
   exact cxs (Rt ⟨false,rfl,⟨fun h => absurd h Bool.false_ne_true,fun h => (show False from (h11 h.1.2.1)).elim⟩,rfl⟩)
  ·replace h11 := of_decide_eq_true h11.symm
   iterate 3 refine ⟨_,rfl,?_⟩
   refine ⟨_,Od rfl,?_⟩
   refine ⟨_,rfl,(ac_spec_l3Node g.to st).mono ?_⟩
   rintro _ st ⟨x17,rfl,h17,rfl⟩
   rcases x17 with _|_
   ·replace h17 := of_decide_eq_false h17.symm
    iterate 3 refine ⟨_,rfl,?_⟩
    refine ow_cut [(1,vL 1 0 (0)),(2,vB false),(26,vB true)] ⟨rfl,rfl,rfl,trivial⟩ fun _ => ?_
    iterate 2 refine ⟨_,rfl,?_⟩
    refine Cm 1 st [Ml 1 0,(2,vB false),(38,vB true)] [(1,0,cMV g)] fun _ _ => ?_
    exact cxs (Rt ⟨false,rfl,⟨fun h => absurd h Bool.false_ne_true,fun h => (show False from (h17 h.1.2.2.1)).elim⟩,rfl⟩)
   ·replace h17 := of_decide_eq_true h17.symm
    iterate 3 refine ⟨_,rfl,?_⟩
    refine ow_cut [(1,vL 1 0 (0)),(2,vB false),(20,vB false),(21,vL 1 1 (0))] ⟨rfl,rfl,rfl,rfl,trivial⟩ fun _ => ?_
    refine ⟨_,Od rfl,?_⟩
    refine ⟨_,rfl,?_⟩
    refine ⟨_,Od rfl,?_⟩
    refine ⟨_,rfl,?_⟩
    rintro (_|_) h25
    ·replace h25 : ¬ (g.frm = g.to) := beq_eq_false_iff_ne.1 h25
     iterate 2 refine ⟨_,rfl,?_⟩
     refine ⟨_,Od rfl,?_⟩
     refine ⟨_,rfl,(ac_spec_l1In g.num 0 100000 st).mono ?_⟩
     rintro _ st ⟨x30,rfl,h30,rfl⟩
     rcases x30 with _|_
     ·replace h30 := of_decide_eq_false h30.symm
      iterate 3 refine ⟨_,rfl,?_⟩
      refine Cm 1 st [Ml 1 0,(2,vB false),(38,vB true)] [(1,0,cMV g)] fun _ _ => ?_
      exact cxs (Rt ⟨false,rfl,⟨fun h => absurd h Bool.false_ne_true,fun h => (show False from (h30 h.2.1.1)).elim⟩,rfl⟩)
     ·replace h30 := of_decide_eq_true h30.symm
      iterate 3 refine ⟨_,rfl,?_⟩
      refine ⟨_,Od rfl,?_⟩
      refine ⟨_,rfl,(ac_spec_l1In g.hi 0 100000 st).mono ?_⟩
      rintro _ st ⟨x36,rfl,h36,rfl⟩
      rcases x36 with _|_
      ·replace h36 := of_decide_eq_false h36.symm
       iterate 2 refine ⟨_,rfl,?_⟩
       refine Cm 1 st [Ml 1 0,(2,vB false),(38,vB true)] [(1,0,cMV g)] fun _ _ => ?_
       exact cxs (Rt ⟨false,rfl,⟨fun h => absurd h Bool.false_ne_true,fun h => (show False from (h36 h.2.1.2)).elim⟩,rfl⟩)
      ·replace h36 := of_decide_eq_true h36.symm
       iterate 2 refine ⟨_,rfl,?_⟩
       refine Cm 1 st [Ml 1 0,(2,vB false),(38,vB false)] [(1,0,cMV g)] fun _ _ => ?_
       refine cxs ?_
       refine ⟨_,rfl,?_⟩
       refine ⟨_,Od rfl,?_⟩
       refine ⟨_,rfl,(ac_spec_l10Tree g.tree st hR.tree (hb.tree)).mono ?_⟩
       rintro _ st ⟨x41,rfl,h41,rfl⟩
       rcases x41 with _|_
       ·replace h41 := fun k => Bool.false_ne_true (h41.2 k)
        iterate 5 refine ⟨_,rfl,?_⟩
        refine Cm 1 st [Ml 1 0,(2,vB false),(66,vB true)] [(1,0,cMV g)] fun _ _ => ?_
        exact cxs (Rt ⟨false,rfl,⟨fun h => absurd h Bool.false_ne_true,fun h => (show False from (h41 h.2.2.1)).elim⟩,rfl⟩)
       ·replace h41 := h41.1 rfl
        iterate 2 refine ⟨_,rfl,?_⟩
        refine ⟨_,Od rfl,?_⟩
        refine ⟨_,rfl,(ac_spec_l10Nums g.vec.p g.vec.l 5 100000 st hR.vec (hb.vec)).mono ?_⟩
        rintro _ st ⟨x46,rfl,h46,rfl⟩
        rcases x46 with _|_
        ·replace h46 := fun k => Bool.false_ne_true (h46.2 k)
         iterate 5 refine ⟨_,rfl,?_⟩
         refine Cm 1 st [Ml 1 0,(2,vB false),(66,vB true)] [(1,0,cMV g)] fun _ _ => ?_
         exact cxs (Rt ⟨false,rfl,⟨fun h => absurd h Bool.false_ne_true,fun h => (show False from (h46 h.2.2.2.1)).elim⟩,rfl⟩)
        ·replace h46 := h46.1 rfl
         iterate 3 refine ⟨_,rfl,?_⟩
         refine ⟨_,Od rfl,?_⟩
         refine ⟨_,rfl,(ac_spec_l10Nums g.leaves.p g.leaves.l 4 3 st hR.leaves (hb.leaves)).mono ?_⟩
         rintro _ st ⟨x52,rfl,h52,rfl⟩
         rcases x52 with _|_
         ·replace h52 := fun k => Bool.false_ne_true (h52.2 k)
          iterate 4 refine ⟨_,rfl,?_⟩
          refine Cm 1 st [Ml 1 0,(2,vB false),(66,vB true)] [(1,0,cMV g)] fun _ _ => ?_
          exact cxs (Rt ⟨false,rfl,⟨fun h => absurd h Bool.false_ne_true,fun h => (show False from (h52 (inc_nums h.2.2.2.2.1))).elim⟩,rfl⟩)
         ·replace h52 := h52.1 rfl
          iterate 3 refine ⟨_,rfl,?_⟩
          refine ow_cut [(1,vL 1 0 (0)),(2,vB false),(55,vB false),(56,vL 1 9 (0))] ⟨rfl,rfl,rfl,rfl,trivial⟩ fun _ => ?_
          refine ⟨_,Od rfl,?_⟩
          refine ⟨_,rfl,(ac_spec_StateOk g.part st hR.part (hb.part)).mono ?_⟩
          rintro _ st ⟨x58,rfl,h58,rfl⟩
          rcases x58 with _|_
          ·replace h58 := fun k => Bool.false_ne_true (h58.2 k)
           iterate 3 refine ⟨_,rfl,?_⟩
           refine Cm 1 st [Ml 1 0,(2,vB false),(66,vB true)] [(1,0,cMV g)] fun _ _ => ?_
           exact cxs (Rt ⟨false,rfl,⟨fun h => absurd h Bool.false_ne_true,fun h => (show False from (h58 h.2.2.2.2.2.1)).elim⟩,rfl⟩)
          ·replace h58 := h58.1 rfl
           iterate 3 refine ⟨_,rfl,?_⟩
           refine ⟨_,Od rfl,?_⟩
           refine ⟨_,rfl,(ac_spec_MarksOk g.marks.p g.marks.l st hR.marks (hb.marks)).mono ?_⟩
           rintro _ st ⟨x64,rfl,h64,rfl⟩
           rcases x64 with _|_
           ·replace h64 := fun k => Bool.false_ne_true (h64.2 k)
            iterate 2 refine ⟨_,rfl,?_⟩
            refine Cm 1 st [Ml 1 0,(2,vB false),(66,vB true)] [(1,0,cMV g)] fun _ _ => ?_
            exact cxs (Rt ⟨false,rfl,⟨fun h => absurd h Bool.false_ne_true,fun h => (show False from (h64 h.2.2.2.2.2.2)).elim⟩,rfl⟩)
           ·replace h64 := h64.1 rfl
            iterate 2 refine ⟨_,rfl,?_⟩
            refine Cm 1 st [Ml 1 0,(2,vB false),(66,vB false)] [(1,0,cMV g)] fun _ _ => ?_
            refine cxs ?_
            refine Cm 1 st [Ml 1 0,(2,vB false),(3,vI 1)] [(1,0,cMV g)] fun _ _ => ?_
            refine AW.loopM (fun i : Nat => [(1,vL 1 0 (0)),(3,vI ((i + 1 : Nat) : Int))]) (fun i : Nat => [(1,0,cMV g)]) (fun m (i : Nat) st' => m = g.leaves.l.length - i ∧ (i = 0 ∨ i + 1 ≤ g.leaves.l.length) ∧ (∀ (j : Nat) x y,j < i → g.leaves.l[j + 1]? = some x → g.leaves.l[j]? = some y → y < x) ∧ st = st') 0 _ ⟨rfl,rfl,trivial⟩ ⟨rfl,trivial⟩ ⟨rfl,.inl rfl,fun j x y h => absurd h (Nat.not_lt_zero _),rfl⟩ ?_
            rintro m i ρ0 ff gg st' ⟨rfl,hi,hok,rfl⟩
            refine ⟨_,rfl,?_⟩
            refine ⟨_,Od rfl,?_⟩
            iterate 2 refine ⟨_,rfl,?_⟩
            rintro (_|_) h71
            ·replace h71 : ¬ (((i + 1 : Nat) : Int) < (g.leaves.l.length : Int)) := of_decide_eq_false h71
             refine Cm gg st [Ml 1 0,(3,vI ((i + 1 : Nat) : Int)),(71,vB false)] [(1,0,cMV g)] fun _ _ => ?_
             refine cxs ?_
             refine cxs ?_
             refine ⟨.inl rfl,_,rfl,true,rfl,⟨fun _ => ⟨⟨h6,h11,h17,h25⟩,⟨h30,h36⟩,h41,h46,fun j x hx => ⟨h52.2 j x hx,fun y h0 hy => ?_⟩,h58,h64⟩,fun _ => rfl⟩,rfl⟩
             have hj := (List.getElem?_eq_some_iff.1 hx).1
             simp only [MV.x] at hj
             exact hok (j - 1) x y (by omega) (by rw [show j - 1 + 1 = j by omega]; exact hx) hy
            ·replace h71 : ((i + 1 : Nat) : Int) < (g.leaves.l.length : Int) := of_decide_eq_true h71
             refine Cm gg st [Ml 1 0,(3,vI ((i + 1 : Nat) : Int)),(71,vB true)] [(1,0,cMV g)] fun _ _ => ?_
             refine cxs ?_
             refine ⟨_,rfl,?_⟩
             refine ⟨_,Od rfl,?_⟩
             refine op_at (i + 1) hR.leaves (by omega) rfl rfl rfl rfl rfl rfl rfl ?_
             intro x77 b77 d77 k77 hy77 hb77 hm77 hc77 ho77
             refine ⟨_,op_ldc (i := 0) rfl rfl rfl rfl hm77 hc77 rfl rfl,?_⟩
             refine ⟨_,rfl,?_⟩
             refine ⟨_,Od rfl,?_⟩
             have ew82 : IntKind.wrap .i64 (((i + 1 : Nat) : Int) - (1)) = ((i + 1 : Nat) : Int) - (1) := wrap_i64 (by omega) (by omega)
             refine ⟨_,rfl,?_⟩
             refine op_at i ((hR.leaves)) (by omega) rfl rfl rfl rfl (by rw [ew82]; omega) rfl rfl ?_
             intro x83 b83 d83 k83 hy83 hb83 hm83 hc83 ho83
             refine ⟨_,op_ldc (i := 0) rfl rfl rfl rfl hm83 hc83 rfl rfl,?_⟩
             refine ⟨_,rfl,?_⟩
             rintro (_|_) h85
             ·replace h85 : ¬ (x77 ≤ x83) := of_decide_eq_false h85
              refine Cm gg st [Ml 1 0,(3,vI ((i + 1 : Nat) : Int)),(71,vB true),(85,vB false)] [(1,0,cMV g)] fun _ _ => ?_
              refine cxs ?_
              have ew73 : IntKind.wrap .i64 (((i + 1 : Nat) : Int) + (1)) = ((i + 1 + 1 : Nat) : Int) := (wrap_i64 (by omega) (by omega)).trans (by omega)
              refine ⟨_,rfl,?_⟩
              refine ⟨i + 1,g.leaves.l.length - (i + 1),by omega,⟨rfl,congrArg (Value.int .i64) ew73,trivial⟩,⟨rfl,trivial⟩,rfl,.inr (by omega),fun j x y hj hx hy => ?_,rfl⟩
              rcases Nat.lt_or_ge j i with h | h
              ·exact hok j x y h hx hy
              ·obtain rfl : j = i := by omega
               rw [hy77] at hx; injection hx with hx; rw [hy83] at hy; injection hy with hy; omega
             ·replace h85 : x77 ≤ x83 := of_decide_eq_true h85
              refine Cm gg st [Ml 1 0,(3,vI ((i + 1 : Nat) : Int)),(71,vB true),(85,vB true)] [(1,0,cMV g)] fun _ _ => ?_
              exact cxs (Rt ⟨false,rfl,⟨fun h => absurd h Bool.false_ne_true,fun h => (show False from (absurd ((h.2.2.2.2.1 (i + 1) x77 hy77).2 x83 (by omega) hy83) (by omega))).elim⟩,rfl⟩)
    ·replace h25 : g.frm = g.to := beq_iff_eq.1 h25
     iterate 3 refine ⟨_,rfl,?_⟩
     refine Cm 1 st [Ml 1 0,(2,vB false),(38,vB true)] [(1,0,cMV g)] fun _ _ => ?_
     exact cxs (Rt ⟨false,rfl,⟨fun h => absurd h Bool.false_ne_true,fun h => (show False from (h.1.2.2.2 h25)).elim⟩,rfl⟩)
def numsL (l : List Int) : List Int := putN (l.length : Int) ++ numsB l
def crcB (l : List Int) : List Int := [crc l / 16777216,crc l / 65536 % 256,crc l / 256 % 256,crc l % 256]
def mgN (g : Mg) : List Int := [g.kind,g.frm,g.to,g.num,g.hi]
def mgH (g : Mg) : List Int := [82,75] ++ numsB (mgN g) ++ numsL g.tree.leaves ++ putN g.tree.root ++ numsL g.vec ++ numsL g.leaves ++ putN ((stB g.part).length : Int) ++ stB g.part ++ putN (g.marks.length : Int)
def mgB0 (g : Mg) : List Int := mgH g ++ flsB g.marks
def mgB (g : Mg) : List Int := mgB0 g ++ crcB (mgB0 g)
open Classical in
noncomputable def mgBz (g : Mg) : List Int := if msgOk g then mgB g else []
theorem numsL_len (l : List Int) : (numsL l).length ≤ 5 + 5 * l.length := by
 have h1 := putN_len (l.length : Int)
 have h2 := numsB_len l
 rw [numsL,List.length_append]
 omega
theorem numsL_ok (l : List Int) : bytesOk (numsL l) := (putN_ok _).app (numsB_ok _)
theorem crcB_ok {l : List Int} (hl : bytesOk l) : bytesOk (crcB l) := by
 have h := crc_rng hl
 have h0 := h.1
 have h1 := h.2
 intro x hx
 simp only [crcB,List.mem_cons,List.not_mem_nil,or_false] at hx
 rcases hx with rfl | rfl | rfl | rfl <;> omega
theorem mgH_ok (g : Mg) : bytesOk (mgH g) := by
 unfold mgH
 refine ((((((((bytesOk.app ?_ (numsB_ok _)).app (numsL_ok _)).app (putN_ok _)).app (numsL_ok _)).app (numsL_ok _)).app (putN_ok _)).app (stB_ok _)).app (putN_ok _))
 intro x hx
 simp only [List.mem_cons,List.not_mem_nil,or_false] at hx
 rcases hx with rfl | rfl <;> omega
theorem flsB_ok (l : List Flr) : bytesOk (flsB l) := fm_ok fun x => (putN_ok _).app (putN_ok _)
theorem mgB0_ok (g : Mg) : bytesOk (mgB0 g) := (mgH_ok g).app (flsB_ok _)
theorem mgB_ok (g : Mg) : bytesOk (mgB g) := (mgB0_ok g).app (crcB_ok (mgB0_ok g))
theorem mgH_len {g : Mg} (hb : bigM g) (hk : stateOk g.part) : (mgH g).length ≤ 100000000 := by
 have h1 := numsL_len g.tree.leaves
 have h2 := numsL_len g.vec
 have h3 := numsL_len g.leaves
 have h4 := stB_len hk
 have h5 := putN_len g.tree.root
 have h6 := putN_len ((stB g.part).length : Int)
 have h7 := putN_len (g.marks.length : Int)
 have h8 := numsB_len (mgN g)
 have e8 : (mgN g).length = 5 := rfl
 have b1 : g.tree.leaves.length ≤ 1048576 := hb.tree
 have b2 : g.vec.length ≤ 1048576 := hb.vec
 have b3 : g.leaves.length ≤ 1048576 := hb.leaves
 have b4 : g.part.items.length ≤ 1048576 := hb.part.1
 have b5 : g.part.floors.length ≤ 1048576 := hb.part.2.1
 simp only [mgH,List.length_append,List.length_cons,List.length_nil]
 omega
section
variable {P : Program} {ls : List Tmp} {call : ACallT} {o : Oper} {e : Operand → Value} {lo : Lo} {st : St}
theorem op_fz {t el : TypeId} {x : Operand} {q : Option Addr} {l : List Int} (ho : o.op = .convert t t x) (hx : e x = vS q l.length) (hO : OwnR st 1 fB q l) (hl : 0 < l.length) (he : telem P t = some el) (hk : tint P el = some .u8) : aoper P ls call o e lo st = some (vS q l.length,lo,st) := by
 rcases hO with ⟨_,h⟩ | ⟨a,rfl,_,hm⟩
 ·rw [h] at hl; exact absurd hl (Nat.lt_irrefl 0)
 ·obtain ⟨d,op,tt,pos,after,gd⟩ := o
  simp only at ho
  subst ho
  simp only [aoper,he,hx,abytesOf,hm,hk]
  rw [if_pos ⟨trivial,trivial,trivial,trivial,hl⟩]
theorem op_shr {t ty : TypeId} {x y : Operand} {k : IntKind} {a b r : Int} (ho : o.op = .binOp .shr t x y ty) (hx : e x = vI a) (hy : e y = .int k b) (hb : 0 ≤ b ∧ b ≤ 64) (hr : a / 2 ^ b.toNat = r) : aoper P ls call o e lo st = some (vI r,lo,st) := by
 subst hr
 obtain ⟨d,op,tt,pos,after,gd⟩ := o
 simp only at ho
 subst ho
 simp only [aoper,rop,hx,hy,abin]
 rw [if_pos (show 0 ≤ b ∧ b ≤ (IntKind.bits .i64 : Int) from hb)]
 rfl
theorem op_a255 {t ty : TypeId} {x y : Operand} {a r : Int} (ho : o.op = .binOp .and t x y ty) (hx : e x = vI a) (hy : e y = vI 255) (h0 : 0 ≤ a) (h1 : a < 9223372036854775808) (hr : a % 256 = r) : aoper P ls call o e lo st = some (vI r,lo,st) := by
 subst hr
 obtain ⟨d,op,tt,pos,after,gd⟩ := o
 simp only at ho
 subst ho
 obtain ⟨n,rfl⟩ := Int.eq_ofNat_of_zero_le h0
 have h2 : (BitVec.ofInt 64 (n : Int) &&& BitVec.ofInt 64 255).toNat = n % 256 := by
  rw [BitVec.toNat_and,BitVec.ofInt_natCast,show BitVec.ofInt 64 255 = BitVec.ofNat 64 255 from rfl,BitVec.toNat_ofNat,BitVec.toNat_ofNat,Nat.mod_eq_of_lt (by omega),show 255 % 2 ^ 64 = 2 ^ 8 - 1 from rfl,Nat.and_two_pow_sub_one_eq_mod]
 simp only [aoper,rop,hx,hy,abin,aint,if_true,Option.map_some]
 show some (Value.int .i64 (IntKind.wrap .i64 (((BitVec.ofInt 64 (n : Int) &&& BitVec.ofInt 64 255).toNat : Nat) : Int)),lo,st) = _
 rw [h2,wrap_nat _ (by omega)]
 rfl
end
theorem ac_impl_crcBytes (p : Option Addr) (l : List Int) (st : St) (hR : Rows st 1 fB p l) (hl : bytesOk l) (hs : l.length ≤ 1099511627776) : C 120 [vS p l.length] st (fun v s => ∃ q,v = vS q (crcB l).length ∧ OwnR s 1 fB q (crcB l) ∧ New st.next q ∧ Pres st s) := by
 have hr := crc_rng hl
 have h0 : 0 ≤ crc l := hr.1
 have h1 : crc l < 4294967296 := hr.2
 refine AC.enterX (i := ⟨[],[],[0,2,3],[]⟩) [] Try.func120 rfl rfl (by kernel_rfl) (by kernel_rfl) Try.ntmps120 (Lb rfl) rfl ?_
 refine Cu lo0 st [(0,vS p l.length),(2,Sn)] fun _ => ?_
 refine ⟨_,rfl,(ac_impl_Crc p l st hR (by first | assumption | omega) (by first | assumption | omega)).mono ?_⟩
 rintro _ st ⟨rfl,rfl⟩
 refine Cu lo0 st [(2,Sn),(3,vI (crc l))] fun _ => ?_
 refine ⟨_,op_shr (r := crc l / 16777216) rfl rfl rfl (by decide) (congrArg (crc l / ·) (by decide)),?_⟩
 refine ⟨_,op_a255 (r := crc l / 16777216) rfl rfl rfl (by omega) (by omega) (by omega),?_⟩
 refine ⟨_,op_toB (r := crc l / 16777216) rfl rfl rfl rfl rfl rfl (by omega) (by omega),?_⟩
 refine ⟨_,op_shr (r := crc l / 65536) rfl rfl rfl (by decide) (congrArg (crc l / ·) (by decide)),?_⟩
 refine ⟨_,op_a255 (r := crc l / 65536 % 256) rfl rfl rfl (by omega) (by omega) rfl,?_⟩
 refine ⟨_,op_toB (r := crc l / 65536 % 256) rfl rfl rfl rfl rfl rfl (by omega) (by omega),?_⟩
 refine ⟨_,op_shr (r := crc l / 256) rfl rfl rfl (by decide) (congrArg (crc l / ·) (by decide)),?_⟩
 refine ⟨_,op_a255 (r := crc l / 256 % 256) rfl rfl rfl (by omega) (by omega) rfl,?_⟩
 refine ⟨_,op_toB (r := crc l / 256 % 256) rfl rfl rfl rfl rfl rfl (by omega) (by omega),?_⟩
 refine ⟨_,op_a255 (r := crc l % 256) rfl rfl rfl (by omega) (by omega) rfl,?_⟩
 refine ⟨_,op_toB (r := crc l % 256) rfl rfl rfl rfl rfl rfl (by omega) (by omega),?_⟩
 refine op_litI (k := .u8) (l := crcB l) rfl rfl rfl rfl rfl rfl (by decide) ?_
 intro q21 s21 hO21 hP21 hN21
 exact cxs (Rt ⟨q21,rfl,hO21,hN21,hP21⟩)
theorem ac_spec_l10Sum (p : Option Addr) (l : List Int) (st : St) (hR : Rows st 1 fB p l) (hl : bytesOk l) (hs : l.length ≤ 1099511627776) : C 129 [vS p l.length] st (fun v s => ∃ q,v = vS q (crcB l).length ∧ OwnR s 1 fB q (crcB l) ∧ New st.next q ∧ Pres st s) := by
 have hr := crc_rng hl
 have h0 : 0 ≤ crc l := hr.1
 have h1 : crc l < 4294967296 := hr.2
 refine AC.enterX (i := ⟨[],[],[0,2,3],[]⟩) [] Try.func129 rfl rfl (by kernel_rfl) (by kernel_rfl) Try.ntmps129 (Lb rfl) rfl ?_
 refine Cu lo0 st [(0,vS p l.length),(2,Sn)] fun _ => ?_
 refine ⟨_,rfl,(ac_spec_Crc p l st hR (by first | assumption | omega) (by first | assumption | omega)).mono ?_⟩
 rintro _ st ⟨rfl,rfl⟩
 refine Cu lo0 st [(2,Sn),(3,vI (crc l))] fun _ => ?_
 refine ⟨_,op_qo (r := crc l / 16777216) rfl rfl rfl (by decide) (td_ediv 16777216 h0) (by omega) (by omega),?_⟩
 refine ⟨_,op_toB (r := crc l / 16777216) rfl rfl rfl rfl rfl rfl (by omega) (by omega),?_⟩
 refine ⟨_,op_qo (r := crc l / 65536) rfl rfl rfl (by decide) (td_ediv 65536 h0) (by omega) (by omega),?_⟩
 refine ⟨_,op_rm (r := crc l / 65536 % 256) rfl rfl rfl (by decide) (tm_emod 256 (by omega)),?_⟩
 refine ⟨_,op_toB (r := crc l / 65536 % 256) rfl rfl rfl rfl rfl rfl (by omega) (by omega),?_⟩
 refine ⟨_,op_qo (r := crc l / 256) rfl rfl rfl (by decide) (td_ediv 256 h0) (by omega) (by omega),?_⟩
 refine ⟨_,op_rm (r := crc l / 256 % 256) rfl rfl rfl (by decide) (tm_emod 256 (by omega)),?_⟩
 refine ⟨_,op_toB (r := crc l / 256 % 256) rfl rfl rfl rfl rfl rfl (by omega) (by omega),?_⟩
 refine ⟨_,op_rm (r := crc l % 256) rfl rfl rfl (by decide) (tm_emod 256 h0),?_⟩
 refine ⟨_,op_toB (r := crc l % 256) rfl rfl rfl rfl rfl rfl (by omega) (by omega),?_⟩
 refine op_litI (k := .u8) (l := crcB l) rfl rfl rfl rfl rfl rfl (by decide) ?_
 intro q20 s20 hO20 hP20 hN20
 exact cxs (Rt ⟨q20,rfl,hO20,hN20,hP20⟩)
theorem ac_impl_putNums (p : Option Addr) (l : List Int) (st : St) (hR : Rows st 1 fI p l) (hs : szOk l.length) : C 119 [vS p l.length] st (fun v s => ∃ q,v = vS q (numsL l).length ∧ OwnR s 1 fB q (numsL l) ∧ New st.next q ∧ Pres st s) := by
 have hs : l.length ≤ 1048576 := hs
 have hpl := putN_len (l.length : Int)
 refine AC.enterX (i := ⟨[],[],[0,2,3,5,9,10,11,12],[]⟩) [] Try.func119 rfl rfl (by kernel_rfl) (by kernel_rfl) Try.ntmps119 (Lb rfl) rfl ?_
 refine Cu lo0 st [(0,vS p l.length),(2,Sn)] fun _ => ?_
 refine ⟨_,rfl,?_⟩
 refine ⟨_,rfl,(ac_impl_PutNum (l.length : Int) st).mono ?_⟩
 rintro _ s8 ⟨q8,rfl,hO8,hN8,hP8⟩
 refine Cu lo0 s8 [(0,vS p l.length),(2,Sn),(3,vS q8 (putN (l.length : Int)).length)] fun _ => ?_
 refine ⟨_,rfl,?_⟩
 refine Cu lo0 s8 [(2,Sn),(3,vS q8 (putN (l.length : Int)).length),(9,vS p l.length),(10,vI (l.length : Int)),(11,vI 0)] fun _ => ?_
 refine AW.loop0 (fun x : Nat × Option Addr × List Int => [(2,.slice none 0 0),(3,vS x.2.1 x.2.2.length),(9,vS p l.length),(10,vI (l.length : Int)),(11,vI (x.1 : Int))]) (fun m (x : Nat × Option Addr × List Int) st' => m = l.length - x.1 ∧ x.1 ≤ l.length ∧ x.2.2 = putN (l.length : Int) ++ numsB (l.take x.1) ∧ OwnR st' 1 fB x.2.1 x.2.2 ∧ New st.next x.2.1 ∧ Pres st st') (0,q8,putN (l.length : Int)) _ ⟨rfl,rfl,rfl,rfl,rfl,trivial⟩ rfl ⟨rfl,Nat.zero_le _,(List.append_nil _).symm,hO8,hN8,hP8⟩ ?_
 rintro m ⟨i,q,b⟩ ρ0 st' ⟨rfl,hi,hv,hO,hN,hP⟩
 simp only at hi hv hO hN
 have hbl : b.length ≤ 5 + 5 * l.length := by rw [hv,List.length_append]; have := numsB_len (l.take i); rw [List.length_take] at this; omega
 refine ⟨_,rfl,?_⟩
 rintro (_|_) h12
 ·replace h12 : ¬ ((i : Int) < (l.length : Int)) := of_decide_eq_false h12
  refine Cu lo0 st' [(2,Sn),(3,vS q b.length),(9,vS p l.length),(10,vI (l.length : Int)),(11,vI (i : Int)),(12,vB false)] fun _ => ?_
  refine cxs ?_
  refine cxs ?_
  refine ⟨.inl rfl,_,rfl,q,?_⟩
  rw [show numsL l = b by rw [hv,show i = l.length by omega,List.take_length]; rfl]
  exact ⟨rfl,hO,hN,hP⟩
 ·replace h12 : (i : Int) < (l.length : Int) := of_decide_eq_true h12
  refine Cu lo0 st' [(2,Sn),(3,vS q b.length),(9,vS p l.length),(10,vI (l.length : Int)),(11,vI (i : Int)),(12,vB true)] fun _ => ?_
  refine cxs ?_
  refine op_at i (hP.rows hR) (by omega) rfl rfl rfl rfl rfl rfl rfl ?_
  intro x13 b13 d13 k13 hy13 hb13 hm13 hc13 ho13
  refine ⟨_,op_ldc (i := 0) rfl rfl rfl rfl hm13 hc13 rfl rfl,?_⟩
  refine Cu lo0 st' [(2,Sn),(3,vS q b.length),(5,vI x13),(9,vS p l.length),(10,vI (l.length : Int)),(11,vI (i : Int)),(12,vB true)] fun _ => ?_
  obtain ⟨s1,hs1'⟩ : ∃ s1,s1 = st' := ⟨_,rfl⟩
  subst hs1'
  refine ⟨_,rfl,(ac_impl_PutNum x13 s1).mono ?_⟩
  rintro _ s17 ⟨q17,rfl,hO17,hN17,hP17⟩
  have hpn := putN_len x13
  have hfl : fl [⟨q,b⟩,⟨q17,putN x13⟩] = b ++ putN x13 := by simp [fl]
  refine op_litR [⟨q,b⟩,⟨q17,putN x13⟩] rfl rfl rfl (by decide) rfl rfl rfl (by decide) ?_
  intro q18 s18 hO18 hP18 hN18
  refine ⟨_,rfl,(ac_impl_joined q18 [⟨q,b⟩,⟨q17,putN x13⟩] s18 (hO18.rows cRV_len) (fun r hr => by
  simp only [List.mem_cons,List.not_mem_nil,or_false] at hr
  rcases hr with rfl | rfl
  ·exact (hP17.trans hP18).rows (hO.rows fB_len)
  ·exact hP18.rows (hO17.rows fB_len)) (by show (2 : Nat) ≤ 1048576; omega) (by rw [hfl,List.length_append]; omega)).mono ?_⟩
  rintro _ s19 ⟨q19,rfl,hO19,hN19,hP19⟩
  refine Cu lo0 s19 [(2,Sn),(3,vS q19 (fl [⟨q,b⟩,⟨q17,putN x13⟩]).length),(5,vI x13),(9,vS p l.length),(10,vI (l.length : Int)),(11,vI (i : Int)),(12,vB true)] fun _ => ?_
  have ew20 : IntKind.wrap .i64 ((i : Int) + (1)) = ((i + 1 : Nat) : Int) := (wrap_i64 (by omega) (by omega)).trans (by omega)
  refine ⟨_,rfl,?_⟩
  exact ⟨(i + 1,q19,fl [⟨q,b⟩,⟨q17,putN x13⟩]),l.length - (i + 1),by omega,⟨rfl,rfl,rfl,rfl,congrArg (Value.int .i64) ew20,trivial⟩,rfl,rfl,by simp only; omega,by rw [numsB_succ hy13,← List.append_assoc,← hv]; exact hfl,hO19,hN19.le ((hP.trans hP17).trans hP18).1,((hP.trans hP17).trans hP18).trans hP19⟩
theorem ac_spec_l10List (p : Option Addr) (l : List Int) (st : St) (hR : Rows st 1 fI p l) (hs : szOk l.length) : C 171 [vS p l.length] st (fun v s => ∃ q,v = vS q (numsL l).length ∧ OwnR s 1 fB q (numsL l) ∧ New st.next q ∧ Pres st s) := by
 have hs : l.length ≤ 1048576 := hs
 have hpl := putN_len (l.length : Int)
 refine AC.enterX (i := ⟨[],[],[0,2,3,4,11],[]⟩) [] Try.func171 rfl rfl (by kernel_rfl) (by kernel_rfl) Try.ntmps171 (Lb rfl) rfl ?_
 refine Cu lo0 st [(0,vS p l.length),(2,Sn)] fun _ => ?_
 refine ⟨_,rfl,?_⟩
 refine ⟨_,rfl,(ac_spec_PutNum (l.length : Int) st).mono ?_⟩
 rintro _ s7 ⟨q7,rfl,hO7,hN7,hP7⟩
 refine cxs ?_
 refine Cu lo0 s7 [(0,vS p l.length),(2,Sn),(3,vS q7 (putN (l.length : Int)).length),(4,vI 0)] fun _ => ?_
 refine AW.loop0 (fun x : Nat × Option Addr × List Int => [(0,vS p l.length),(2,.slice none 0 0),(3,vS x.2.1 x.2.2.length),(4,vI (x.1 : Int))]) (fun m (x : Nat × Option Addr × List Int) st' => m = l.length - x.1 ∧ x.1 ≤ l.length ∧ x.2.2 = putN (l.length : Int) ++ numsB (l.take x.1) ∧ OwnR st' 1 fB x.2.1 x.2.2 ∧ New st.next x.2.1 ∧ Pres st st') (0,q7,putN (l.length : Int)) _ ⟨rfl,rfl,rfl,rfl,trivial⟩ rfl ⟨rfl,Nat.zero_le _,(List.append_nil _).symm,hO7,hN7,hP7⟩ ?_
 rintro m ⟨i,q,b⟩ ρ0 st' ⟨rfl,hi,hv,hO,hN,hP⟩
 simp only at hi hv hO hN
 have hbl : b.length ≤ 5 + 5 * l.length := by rw [hv,List.length_append]; have := numsB_len (l.take i); rw [List.length_take] at this; omega
 iterate 2 refine ⟨_,rfl,?_⟩
 rintro (_|_) h11
 ·replace h11 : ¬ ((i : Int) < (l.length : Int)) := of_decide_eq_false h11
  refine Cu lo0 st' [(0,vS p l.length),(2,Sn),(3,vS q b.length),(4,vI (i : Int)),(11,vB false)] fun _ => ?_
  refine cxs ?_
  refine cxs ?_
  refine ⟨.inl rfl,_,rfl,q,?_⟩
  rw [show numsL l = b by rw [hv,show i = l.length by omega,List.take_length]; rfl]
  exact ⟨rfl,hO,hN,hP⟩
 ·replace h11 : (i : Int) < (l.length : Int) := of_decide_eq_true h11
  refine Cu lo0 st' [(0,vS p l.length),(2,Sn),(3,vS q b.length),(4,vI (i : Int)),(11,vB true)] fun _ => ?_
  obtain ⟨s1,hs1'⟩ : ∃ s1,s1 = st' := ⟨_,rfl⟩
  subst hs1'
  refine cxs ?_
  refine op_at i (hP.rows hR) (by omega) rfl rfl rfl rfl rfl rfl rfl ?_
  intro x17 b17 d17 k17 hy17 hb17 hm17 hc17 ho17
  refine ⟨_,op_ldc (i := 0) rfl rfl rfl rfl hm17 hc17 rfl rfl,?_⟩
  refine ⟨_,rfl,(ac_spec_PutNum x17 s1).mono ?_⟩
  rintro _ s19 ⟨q19,rfl,hO19,hN19,hP19⟩
  have hpn := putN_len x17
  refine op_cat' (z := 1) (st := s19) (f := fB) (b := 1) (l := b) (l2 := putN x17) rfl rfl rfl rfl rfl rfl rfl (by decide) fB_len rfl rfl rfl rfl (by first | omega | (simp only [List.length_nil]; omega)) (by unfold maxLen; first | omega | (simp only [List.length_nil]; omega)) (hP19.ownR hO) (hO19.rows fB_len) ?_
  intro q20 s20 hO20 hPr20 hN20
  refine Cu lo0 s20 [(0,vS p l.length),(2,Sn),(3,vS q20 (b ++ (putN x17)).length),(4,vI (i : Int)),(11,vB true)] fun _ => ?_
  have ew13 : IntKind.wrap .i64 ((i : Int) + (1)) = ((i + 1 : Nat) : Int) := (wrap_i64 (by omega) (by omega)).trans (by omega)
  refine ⟨_,rfl,?_⟩
  exact ⟨(i + 1,q20,b ++ putN x17),l.length - (i + 1),by omega,⟨rfl,rfl,rfl,congrArg (Value.int .i64) ew13,trivial⟩,rfl,rfl,by simp only; omega,by rw [numsB_succ hy17,← List.append_assoc,← hv],hO20,cat_new (hP.trans hP19) hN hN20,hPr20.pres (hP.trans hP19) hN⟩
end Go.Proofs.Yteabadoaeadcgaa.AM
