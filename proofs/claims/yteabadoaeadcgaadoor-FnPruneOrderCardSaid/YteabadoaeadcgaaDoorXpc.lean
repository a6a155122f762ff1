/- Part 3 of the texts on which the law's proof rests. -/
import Derived.Test.YteabadoaeadcgaaDoorXpb
namespace Go.Proofs.YteabadoaeadcgaaDoor.AM
open Go Go.Proofs
set_option linter.unusedVariables false
set_option linter.unusedSimpArgs false
set_option maxRecDepth 100000
set_option maxHeartbeats 4000000
def NC (c : Nat) (q : Option Addr) : Prop := ∀ a,q = some a → a.block ≠ c
theorem NC.new {c n : Nat} {q : Option Addr} (hN : New n q) (h : c < n) : NC c q := fun a ha => Nat.ne_of_gt (Nat.lt_of_lt_of_le h (hN a ha))
theorem Cur.lt {st : St} {c : Nat} {p : Option Addr} {bs : List Int} (h : Cur st c p bs) : c < st.next := h.1
def FrC (c : Nat) (a b : St) (l : List Pc) : Prop := OwnP b l ∧ NewP a.next l ∧ PresC c a b ∧ c < a.next
theorem FrC.nil {c : Nat} {a : St} (h : c < a.next) : FrC c a a [] := ⟨OwnP.nil,NewP.nil,PresC.refl _ _,h⟩
theorem Frs.toC {c : Nat} {a b : St} {l : List Pc} (h : Frs a b l) (hc : c < a.next) : FrC c a b l := ⟨h.1,h.2.1,h.2.2.c,hc⟩
theorem OwnP.presC {c n : Nat} {st st' : St} {l : List Pc} (h : OwnP st l) (hP : PresC c st st') (hN : NewP n l) (hn : c < n) : OwnP st' l :=
 h.keep hP.1 fun x hx q hq => hP.2 _ ((h.1 x hx).old q hq) (Nat.ne_of_gt (Nat.lt_of_lt_of_le hn (hN x hx q hq)))
theorem FrC.later {c : Nat} {a b d : St} {l : List Pc} (h : FrC c a b l) (k : PresC c b d) : FrC c a d l := ⟨h.1.presC k h.2.1 h.2.2.2,h.2.1,h.2.2.1.trans k,h.2.2.2⟩
theorem FrC.step {c : Nat} {a b d : St} {l : List Pc} (h : FrC c a b l) (k : Pres b d) : FrC c a d l := h.later k.c
theorem FrC.sooner {c : Nat} {a b d : St} {l : List Pc} (h : FrC c b d l) (k : PresC c a b) (hc : c < a.next) : FrC c a d l := ⟨h.1,h.2.1.le k.1,k.trans h.2.2.1,hc⟩
theorem FrC.join {c : Nat} {a b d : St} {l m : List Pc} (h : FrC c a b l) (k : FrC c b d m) : FrC c a d (l ++ m) :=
 ⟨(h.later k.2.2.1).1.app k.1 fun x hx y hy => Dis.of (h.1.1 x hx).old (k.2.1 y hy),h.2.1.app (k.2.1.le h.2.2.1.1),h.2.2.1.trans k.2.2.1,h.2.2.2⟩
theorem FrC.lt {c : Nat} {a b : St} {l : List Pc} (h : FrC c a b l) : c < b.next := Nat.lt_of_lt_of_le h.2.2.2 h.2.2.1.1
theorem FrC.add {c : Nat} {a b d : St} {l m : List Pc} (h : FrC c a b l) (k : Frs b d m) : FrC c a d (l ++ m) := h.join (k.toC h.lt)
theorem FrC.left {c : Nat} {a b : St} {l m : List Pc} (h : FrC c a b (l ++ m)) : FrC c a b l := ⟨h.1.left,fun x hx => h.2.1 x (List.mem_append_left _ hx),h.2.2⟩
theorem FrC.right {c : Nat} {a b : St} {l m : List Pc} (h : FrC c a b (l ++ m)) : FrC c a b m := ⟨h.1.right,fun x hx => h.2.1 x (List.mem_append_right _ hx),h.2.2⟩
theorem FrC.out {st s1 s2 : St} {l : List Pc} (hF : FrC st.next s1 s2 l) (hP : Pres st s1) : Frs st s2 l := ⟨hF.1,hF.2.1.le hP.1,PresC.pres hP hF.2.2.1 (Nat.le_refl _)⟩
theorem PresC.thenNew {c : Nat} {q : Option Addr} {a b d : St} (h : PresC c a b) (k : Pr q b d) (hn : New a.next q) : PresC c a d :=
 ⟨Nat.le_trans h.1 k.1,fun x hx hc => (k.2 x (Nat.lt_of_lt_of_le hx h.1) fun r hr he => by have := hn r hr; omega).trans (h.2 x hx hc)⟩
theorem Cur.thenNew {c : Nat} {p q : Option Addr} {bs : List Int} {s0 s1 s2 : St} (h1 : Cur s1 c p bs) (h0 : Cur s0 c p bs) (h : PresC c s0 s1) (k : Pr q s1 s2) (hn : New s0.next q) : Cur s2 c p bs := Cur.grow h0 h h1 k.2 k.1 hn
theorem FrC.items {c : Nat} {a b d : St} {u : SV} {q : Option Addr} {l : List Itm} (h : FrC c a b (pcS u)) (hp : Pr u.p b d) (ho : OwnR d 6 cItm q l) (hn : New b.next q) : FrC c a d (pcS ⟨q,u.q,⟨l,u.x.floors⟩⟩) ∧ PresC c a d :=
 have hP := PresC.thenNew h.2.2.1 hp (h.2.1 _ (List.mem_cons_self ..))
 ⟨⟨pcS_items h.1 hp ho hn,NewP.cons (hn.le h.2.2.1.1) (NewP.cons (h.2.1 _ (List.mem_cons_of_mem _ (List.mem_cons_self ..))) NewP.nil),hP,h.2.2.2⟩,hP⟩
theorem FrC.floors {c : Nat} {a b d : St} {u : SV} {q : Option Addr} {l : List Flr} (h : FrC c a b (pcS u)) (hp : Pr u.q b d) (ho : OwnR d 2 cFlr q l) (hn : New b.next q) : FrC c a d (pcS ⟨u.p,q,⟨u.x.items,l⟩⟩) ∧ PresC c a d :=
 have hP := PresC.thenNew h.2.2.1 hp (h.2.1 _ (List.mem_cons_of_mem _ (List.mem_cons_self ..)))
 ⟨⟨pcS_floors h.1 hp ho hn,NewP.cons (h.2.1 _ (List.mem_cons_self ..)) (NewP.cons (hn.le h.2.2.1.1) NewP.nil),hP,h.2.2.2⟩,hP⟩
theorem FrC.setItems {c : Nat} {a b d : St} {u : SV} {l : List Itm} (h : FrC c a b (pcS u)) (hp : Pr u.p b d) (ho : OwnR d 6 cItm u.p l) : FrC c a d (pcS ⟨u.p,u.q,⟨l,u.x.floors⟩⟩) ∧ PresC c a d :=
 have hP := PresC.thenNew h.2.2.1 hp (h.2.1 _ (List.mem_cons_self ..))
 ⟨⟨OwnP.update (l := []) (m := [pcR 2 cFlr u.q u.x.floors]) (d := pcR 6 cItm u.p l) h.1 hp (own_pc ho) rfl,NewP.cons (h.2.1 (pcR 6 cItm u.p u.x.items) (List.mem_cons_self ..)) (NewP.cons (h.2.1 _ (List.mem_cons_of_mem _ (List.mem_cons_self ..))) NewP.nil),hP,h.2.2.2⟩,hP⟩
theorem Frs.nlS {a : St} : Frs a a (pcS ⟨none,none,nilS⟩) := ⟨pcS_nil,newS_nil,Pres.refl _⟩
structure smS (n : Nat) (x : Sta) : Prop where
 i : x.items.length ≤ n
 f : x.floors.length ≤ n
 d : ∀ y ∈ x.items,y.e.data.size ≤ 9
theorem smS.big {n : Nat} {x : Sta} (h : smS n x) (hn : n ≤ 1048576) : bigS x := ⟨Nat.le_trans h.i hn,Nat.le_trans h.f hn,fun y hy => Nat.le_trans (h.d y hy) (by decide)⟩
theorem smS.le {n m : Nat} {x : Sta} (h : smS n x) (k : n ≤ m) : smS m x := ⟨Nat.le_trans h.i k,Nat.le_trans h.f k,h.d⟩
theorem ids_len {α : Type} {id : α → Int} {l : List α} (h : ∀ (j : Nat) x,l[j]? = some x → (0 ≤ id x ∧ id x ≤ 4) ∧ ∀ y,0 < j → l[j - 1]? = some y → id y < id x) : l.length ≤ 5 := by
 have key : ∀ (j : Nat) x,l[j]? = some x → (j : Int) ≤ id x := by
  intro j
  induction j with
  | zero => intro x hx; exact (h 0 x hx).1.1
  | succ j ih =>
   intro x hx
   obtain ⟨hj,_⟩ := List.getElem?_eq_some_iff.1 hx
   have hy : l[j]? = some l[j] := List.getElem?_eq_getElem (by omega)
   have := ih _ hy
   have := (h _ _ hx).2 l[j] (Nat.succ_pos j) hy
   omega
 rcases Nat.lt_or_ge 5 l.length with h5 | h5
 ·have hx : l[5]? = some l[5] := List.getElem?_eq_getElem h5
  have := key 5 _ hx
  have := (h 5 _ hx).1.2
  omega
 ·exact h5
theorem marks_len {l : List Flr} (h : marksOk l) : l.length ≤ 5 := ids_len (id := fun x => x.id) fun j x hx => ⟨(h j x hx).1,(h j x hx).2.2⟩
theorem items_len {s : Sta} (h : stateOk s) : s.items.length ≤ 5 := ids_len (id := fun x => x.id) fun j x hx => ⟨(h.1 j x hx).1,(h.1 j x hx).2.2.2⟩
theorem sm_ok {s : Sta} (h : stateOk s) : smS 5 s := ⟨items_len h,marks_len h.2,fun y hy => by
 obtain ⟨j,hj⟩ := List.getElem?_of_mem hy
 have := (h.1 j y hj).2.1.2.2.2.2
 omega⟩
theorem big_ok {s : Sta} (h : stateOk s) : bigS s := (sm_ok h).big (by decide)
theorem szm (g : Int → Int) : szOk (marksF g 5).length := Nat.le_trans (marksF_len g 5) (by decide)
abbrev cStr : ByteArray → List Value := fun s => [.string s]
theorem cStr_len (x : ByteArray) : (cStr x).length = 1 := rfl
theorem ent_mk {i r b v : Int} {d : ByteArray} (h1 : 1 ≤ i ∧ i ≤ 1000) (h2 : 0 ≤ r ∧ r ≤ 1) (h3 : 0 ≤ b ∧ b ≤ 100000) (h4 : 0 ≤ v ∧ v ≤ 1000) (h5 : d.size ≤ 8) : entOk ⟨i,r,b,v,d⟩ := ⟨h1,h2,h3,h4,h5⟩
section
variable {P : Program} {ls : List Tmp} {call : ACallT} {o : Oper} {e : Operand → Value} {lo : Lo} {st : St} {K : Value × Lo × St → Prop}
theorem op_litS {t el : TypeId} {n : Nat} {ps : Array (Nat × Operand)} {u : Value} {l : List ByteArray} (ho : o.op = .buildSlice t n ps) (hp : parts e ps = mkp 0 (l.map Value.string)) (hn : n = l.length) (h0 : 0 < n) (he : telem P t = some el) (hz : tsize P el = some 1) (hz0 : tzero P el = some [u]) (hsz : n ≤ 16777216)
  (hK : ∀ q st',OwnR st' 1 cStr q l → Pres st st' → New st.next q → K (.slice q n n,lo,st')) : ∃ r,aoper P ls call o e lo st = some r ∧ K r := by
 refine op_lit ho hp (by rw [hn,List.length_map]) h0 he hz hz0 Nat.one_pos rfl (by omega) (fun v hv => ?_) ?_
 ·obtain ⟨r,_,rfl⟩ := List.mem_map.1 hv
  exact ⟨rfl,rfl⟩
 ·rw [show (l.map Value.string).flatMap (fun v => v.cells.toList) = l.flatMap cStr by rw [List.flatMap_map]; rfl]
  exact hK _ _ OwnR.push Pres.push New.self
theorem op_putw {α : Type} {f : α → List Value} {z : Nat} {t : TypeId} {x u : Operand} {p : Option Addr} {a d i : Nat} {l : List α} {j : Nat} {w y : α} {ws : List Value} {v : Value} (ho : o.op = .store t x u) (hx : e x = .pointer (some ⟨a,d,none⟩)) (hd : d = j * z + i) (hu : e u = v) (ht : tsize P t = some ws.length) (hz : ∀ x,(f x).length = z) (hv : v.cells.toList = ws) (hi : ws.all isCell = true) (hw : l[j]? = some w) (hf : ∃ A M B,f w = A ++ (M ++ B) ∧ f y = A ++ (ws ++ B) ∧ A.length = i ∧ M.length = ws.length)
  (hown : OwnR st z f p l) (hp : p = some ⟨a,0,none⟩)
  (hK : ∀ st',OwnR st' z f p (l.set j y) → Pr p st st' → st'.next = st.next → K (undef,lo,st')) : ∃ r,aoper P ls call o e lo st = some r ∧ K r := by
 subst hp hd
 rcases hown with ⟨h,_⟩ | ⟨a',h,ha,hm⟩
 ·cases h
 injection h with h
 injection h with h _ _
 subst h
 obtain ⟨hj,_⟩ := List.getElem?_eq_some_iff.1 hw
 obtain ⟨pre,cs,suf,h1,h2,h3,h4⟩ := flat_set hz (l := l) (j := j) (x := y) hj
 rw [hw] at h3
 injection h3 with h3
 obtain ⟨A,M,B,e1,e2,e3,e4⟩ := hf
 have hlen : j * z + i + ws.length ≤ (l.flatMap f).length := by
  rw [h1,← h3,e1]
  simp only [List.length_append]
  omega
 refine op_sta (z := ws.length) ho hx hu rfl ht (by rw [hv]) (by rw [hv]; exact hi) hm rfl hlen fun st' k1 k2 k3 => hK st' (.inr ⟨a,rfl,by omega,?_⟩) ⟨Nat.le_of_eq k2.symm,fun b _ hne => k3 b (fun hb => hne _ rfl hb)⟩ k2
 rw [k1]
 show some (Blk.mk true z (splice (l.flatMap f) (j * z + i) v.cells.toList)) = _
 rw [hv,h4,h1,← h3,e1,e2,← h2,← e3]
 have := splice_mid ws (pre ++ A) M (B ++ suf) e4
 simp only [List.append_assoc,List.length_append] at this ⊢
 rw [this]
end
theorem ac_d_l1Below {p : Option Addr} {bs : List Int} (c : Nat) (n : Int) (st : St) (hc : Cur st c p bs) (hs : bs.length < 1099511627776) : C 49 [vP c 0,vI n] st (fun v s => ∃ r,v = vI r ∧ 0 ≤ r ∧ (0 < n → r < n) ∧ (n ≤ 0 → r = 0) ∧ Cur s c p bs ∧ PresC c st s) := ac_l1Below c p bs n st hc hs
theorem ac_d_l1PickInt {p : Option Addr} {bs : List Int} (c : Nat) (q : Option Addr) (l : List Int) (st : St) (hc : Cur st c p bs) (hs : bs.length < 1099511627776) (hl : 0 < l.length) (hO : OwnR st 1 fI q l) (hp : NC c q) : C 61 [vP c 0,vS q l.length] st (fun v s => ∃ r,v = vI r ∧ r ∈ l ∧ Cur s c p bs ∧ PresC c st s) := by
 refine AC.enter' (i := ⟨[],[],[0,1,4],[]⟩) Tryd.func61 rfl rfl (by kernel_rfl) Tryd.ntmps61 (Lb rfl) rfl (cw_sound _ _ _ _ _ ?_)
 refine ⟨_,rfl,?_⟩
 refine ⟨_,rfl,(ac_l1Below c p bs l.length st hc hs).mono ?_⟩
 rintro _ s1 ⟨r1,rfl,h0,h1,_,hc1,hp1⟩
 have h1 := h1 (by omega)
 obtain ⟨j,rfl⟩ : ∃ j : Nat,r1 = j := ⟨r1.toNat,by omega⟩
 have hO1 : OwnR s1 1 fI q l := by
  rcases hO with h | ⟨a,rfl,ha,hm⟩
  ·exact .inl h
  ·exact .inr ⟨a,rfl,Nat.lt_of_lt_of_le ha hp1.1,(hp1.2 a ha (hp _ rfl)).trans hm⟩
 obtain ⟨b1,o1,k1,x,rfl,hx,hb1,hcc,_⟩ := (hO1.rows fI_len).atB (j := j) (by omega)
 refine ⟨_,op_idx rfl rfl rfl rfl rfl (by omega) (by omega),?_⟩
 refine ⟨_,op_ldc (i := 0) rfl rfl rfl rfl hb1 hcc rfl rfl,?_⟩
 exact Rt ⟨x,rfl,List.mem_of_getElem? hx,hc1,hp1⟩
theorem ac_d_l1Pick {p : Option Addr} {bs : List Int} (c : Nat) (q : Option Addr) (l : List ByteArray) (st : St) (hc : Cur st c p bs) (hs : bs.length < 1099511627776) (hl : 0 < l.length) (hO : OwnR st 1 cStr q l) (hp : NC c q) : C 84 [vP c 0,vS q l.length] st (fun v s => ∃ r : ByteArray,v = .string r ∧ r ∈ l ∧ Cur s c p bs ∧ PresC c st s) := by
 refine AC.enter' (i := ⟨[],[],[0,1,4],[]⟩) Tryd.func84 rfl rfl (by kernel_rfl) Tryd.ntmps84 (Lb rfl) rfl (cw_sound _ _ _ _ _ ?_)
 refine ⟨_,rfl,?_⟩
 refine ⟨_,rfl,(ac_l1Below c p bs l.length st hc hs).mono ?_⟩
 rintro _ s1 ⟨r1,rfl,h0,h1,_,hc1,hp1⟩
 have h1 := h1 (by omega)
 obtain ⟨j,rfl⟩ : ∃ j : Nat,r1 = j := ⟨r1.toNat,by omega⟩
 have hO1 : OwnR s1 1 cStr q l := by
  rcases hO with h | ⟨a,rfl,ha,hm⟩
  ·exact .inl h
  ·exact .inr ⟨a,rfl,Nat.lt_of_lt_of_le ha hp1.1,(hp1.2 a ha (hp _ rfl)).trans hm⟩
 obtain ⟨b1,o1,k1,x,rfl,hx,hb1,hcc,_⟩ := (hO1.rows cStr_len).atB (j := j) (by omega)
 refine ⟨_,op_idx rfl rfl rfl rfl rfl (by omega) (by omega),?_⟩
 refine ⟨_,op_ldc (i := 0) rfl rfl rfl rfl hb1 hcc rfl rfl,?_⟩
 exact Rt ⟨x,rfl,List.mem_of_getElem? hx,hc1,hp1⟩
theorem texts_8 {x : ByteArray} (h : x ∈ [⟨#[]⟩,⟨#[97]⟩,⟨#[98]⟩,⟨#[97,98]⟩,⟨#[49,50,51,52,53,54,55,56]⟩]) : x.size ≤ 8 := by
 simp only [List.mem_cons,List.not_mem_nil,or_false] at h
 rcases h with rfl | rfl | rfl | rfl | rfl <;> decide
theorem ac_d_l2Right {p : Option Addr} {bs : List Int} (c : Nat) (st : St) (hc : Cur st c p bs) (hs : bs.length < 1099511627776) : C 76 [vP c 0] st (fun v s => ∃ e : Ent,v = .agg #[vI e.inc,vI e.rank,vI e.beat,vI e.ver,.string e.data] ∧ entOk e ∧ Cur s c p bs ∧ PresC c st s) := by
 refine AC.enterX (i := ⟨[2],[2],[0,2],[]⟩) [] Tryd.func76 rfl rfl (by kernel_rfl) (by kernel_rfl) Tryd.ntmps76 (Lb rfl) rfl ?_
 refine ⟨_,rfl,?_⟩
 refine Cm 1 st [(0,vP c 0),Ml 2 0] [(2,0,[vI 0,vI 0,vI 0,vI 0,.string ⟨#[]⟩])] fun _ _ => ?_
 refine ⟨_,rfl,(ac_d_l1Below c 3 st hc (by first | assumption | omega)).mono ?_⟩
 rintro _ s4 ⟨r4,rfl,h4,h4',h4'',hC4,hL4⟩
 have ew5 : IntKind.wrap .i64 ((1) + r4) = (1) + r4 := wrap_i64 (by omega) (by omega)
 refine ⟨_,rfl,?_⟩
 refine ⟨_,rfl,(ac_d_l1Below c 2 s4 hC4 (by first | assumption | omega)).mono ?_⟩
 rintro _ s7 ⟨r7,rfl,h7,h7',h7'',hC7,hL7⟩
 refine ⟨_,rfl,(ac_d_l1Below c 3 s7 hC7 (by first | assumption | omega)).mono ?_⟩
 rintro _ s9 ⟨r9,rfl,h9,h9',h9'',hC9,hL9⟩
 refine ⟨_,rfl,(ac_d_l1Below c 3 s9 hC9 (by first | assumption | omega)).mono ?_⟩
 rintro _ s11 ⟨r11,rfl,h11,h11',h11'',hC11,hL11⟩
 refine op_litS (l := [⟨#[]⟩,⟨#[97]⟩,⟨#[98]⟩,⟨#[97,98]⟩,⟨#[49,50,51,52,53,54,55,56]⟩]) rfl rfl rfl (Lb rfl) rfl rfl rfl (Lb rfl) ?_
 intro q13 s13 hO13 hP13 hN13
 refine ⟨_,rfl,(ac_d_l1Pick c q13 ([⟨#[]⟩,⟨#[97]⟩,⟨#[98]⟩,⟨#[97,98]⟩,⟨#[49,50,51,52,53,54,55,56]⟩]) s13 (hC11.pres hP13) (by first | assumption | omega) (by first | assumption | omega | decide) (by first | assumption | omega) (by first | assumption | exact NC.new (by assumption) (Cur.lt (by assumption)))).mono ?_⟩
 rintro _ s14 ⟨r14,rfl,h14,hC14,hL14⟩
 refine ⟨_,rfl,?_⟩
 refine ⟨_,Os rfl,?_⟩
 exact cxs (Rt ⟨⟨IntKind.wrap .i64 (1 + r4),r7,r9,r11,r14⟩,rfl,ent_mk (by omega) (by omega) (by omega) (by omega) (texts_8 h14),hC14,((((hL4.trans hL7).trans hL9).trans hL11).trans hP13.c).trans hL14⟩)
end Go.Proofs.YteabadoaeadcgaaDoor.AM
namespace Go.Proofs.YteabadoaeadcgaaDoor.AM
open Go Go.Proofs
set_option linter.unusedVariables false
set_option linter.unusedSimpArgs false
abbrev FS (g : Int → Int) : Sta := ⟨[],marksF g 5⟩
theorem FS_ok {g : Int → Int} (h : ∀ i,g i ≤ 1000) : stateOk (FS g) := stateOk_floors (marksOk_F h)
theorem FS_gF (g : Int → Int) {j : Nat} (hj : j < 5) : gF (FS g) (j : Int) = max (g (j : Int)) 0 := by
 show floorOf ((List.range 5).filterMap fun (j : Nat) => if g (j : Int) > 0 then some (⟨(j : Int),g (j : Int)⟩ : Flr) else none) (j : Int) = _
 rw [floorOf_pick g j 5]
 split
 ·omega
 ·rename_i h
  have : ¬ g (j : Int) > 0 := fun k => h ⟨hj,k⟩
  omega
theorem FS_gE (g : Int → Int) (j : Int) : gE (FS g) j = zEnt := rfl
theorem gone_FS {g : Int → Int} (hg : ∀ i,g i ≤ 1000) {j : Nat} (hj : j < 5) : goneAt (FS g) (j : Int) = max (g (j : Int)) 0 := by
 rw [goneAt_gon (FS_ok hg),FS_gE,FS_gF g hj]
 unfold gon
 rw [if_neg (by simp [zEnt])]
theorem pruneG_le {s : Sta} (h : stateOk s) (t : List (List Int)) : ∀ i,pruneG s t i ≤ 1000 := fun i => Int.le_trans (Int.min_le_right _ _) (goneAt_le h i).2
theorem prune_eq {s : Sta} (h : stateOk s) (t : List (List Int)) : pruneF s t = joinF s (FS (pruneG s t)) 5 := if_pos h
theorem prune_ok {s : Sta} (h : stateOk s) (t : List (List Int)) : stateOk (pruneF s t) := ok_prune rfl h
theorem prune_gone {s : Sta} (h : stateOk s) (t : List (List Int)) {j : Nat} (hj : j < 5) : goneAt (pruneF s t) (j : Int) = goneAt s (j : Int) := by
 rw [prune_eq h,gone_join h (FS_ok (pruneG_le h t)) hj,gone_FS (pruneG_le h t) hj]
 have := (goneAt_le h (j : Int)).1
 have : pruneG s t (j : Int) ≤ goneAt s (j : Int) := Int.min_le_right _ _
 omega
theorem row_set {l : List Int} {i : Nat} {v : Int} (h : rowOk l) (hv : 0 ≤ v ∧ v ≤ 1000) : rowOk (l.set i v) := ⟨by rw [List.length_set]; exact h.1,fun j x hx => by
 rw [List.getElem?_set] at hx
 split at hx
 ·split at hx
  ·injection hx with hx; rw [← hx]; exact hv
  ·cases hx
 ·exact h.2 j x hx⟩
theorem row_get {l : List Int} (h : rowOk l) (i : Nat) : 0 ≤ l.getD i 0 ∧ l.getD i 0 ≤ 1000 := by
 rw [List.getD_eq_getElem?_getD]
 cases hx : l[i]? with
 | none => exact ⟨Int.le_refl _,by decide⟩
 | some x => exact h.2 i x hx
theorem addMarks_row : ∀ (ms : List Flr) (l : List Int),rowOk l → (∀ m ∈ ms,m.inc ≤ 1000) → rowOk (addMarks l ms)
 | [],l,h,_ => h
 | m :: ms,l,h,hm => addMarks_row ms _ (row_set h (by have := row_get h m.id.toNat; have := hm m (List.mem_cons_self ..); omega)) fun x hx => hm x (List.mem_cons_of_mem _ hx)
theorem marks_inc {ms : List Flr} (h : marksOk ms) : ∀ m ∈ ms,m.inc ≤ 1000 := fun m hm => by
 obtain ⟨j,hj⟩ := List.getElem?_of_mem hm
 exact (h j m hj).2.1.2
theorem addMarks_two {g h : Int → Int} {l : List Int} (hl : rowOk l) (hg : ∀ i,g i ≤ 1000) {j : Nat} (hj : j < 5) : (addMarks (addMarks l (marksF g 5)) (marksF h 5)).getD j 0 = max (max (l.getD j 0) (g (j : Int))) (h (j : Int)) := by
 have h1 := addMarks_max hl.1 hj (row_get hl j).1 (g := g)
 have h2 := addMarks_row (marksF g 5) l hl (marks_inc (marksOk_F hg))
 rw [addMarks_max h2.1 hj (row_get h2 j).1,h1]
end Go.Proofs.YteabadoaeadcgaaDoor.AM
namespace Go.Proofs.YteabadoaeadcgaaDoor.AM
open Go Go.Proofs
set_option linter.unusedVariables false
set_option linter.unusedSimpArgs false
set_option maxRecDepth 100000
set_option maxHeartbeats 4000000
def rankT (r : Int) : ByteArray := if r = 0 then ⟨#[117]⟩ else ⟨#[103]⟩
def entT (e : Ent) : ByteArray := itoaB e.inc ++ rankT e.rank ++ itoaB e.beat ++ ⟨#[46]⟩ ++ itoaB e.ver ++ ⟨#[58]⟩ ++ e.data
def itmT (x : Itm) : ByteArray := itoaB x.id ++ ⟨#[61]⟩ ++ entT x.e
def txtI (l : List Itm) : ByteArray := joinB (l.map itmT) ⟨#[32]⟩
theorem i64_of {n : Int} (h : -1000000 ≤ n ∧ n ≤ 1000000) : i64 n := ⟨by omega,by omega⟩
theorem rankT_size (r : Int) : (rankT r).size = 1 := by unfold rankT; split <;> rfl
theorem entT_size {e : Ent} (h : entOk e) : (entT e).size ≤ 71 := by
 obtain ⟨h1,h2,h3,h4,h5⟩ := h
 have a := itoaB_size (n := e.inc) (i64_of (by omega))
 have b := itoaB_size (n := e.beat) (i64_of (by omega))
 have c := itoaB_size (n := e.ver) (i64_of (by omega))
 have d := rankT_size e.rank
 have e1 : (⟨#[46]⟩ : ByteArray).size = 1 := rfl
 have e2 : (⟨#[58]⟩ : ByteArray).size = 1 := rfl
 unfold entT
 simp only [ByteArray.size_append]
 omega
theorem itmT_size {x : Itm} (hi : i64 x.id) (h : entOk x.e) : (itmT x).size ≤ 92 := by
 have a := itoaB_size hi
 have b := entT_size h
 have e1 : (⟨#[61]⟩ : ByteArray).size = 1 := rfl
 unfold itmT
 simp only [ByteArray.size_append]
 omega
theorem ac_impl_EntryText (e : Ent) (st : St) (h : entOk e) (hT : Tab st) : C 57 [.agg #[vI e.inc,vI e.rank,vI e.beat,vI e.ver,.string e.data]] st (fun v s => v = .string (entT e) ∧ s = st) := by
 obtain ⟨h1,h2,h3,h4,h5⟩ := h
 have i1 : i64 e.inc := i64_of (by omega)
 have i2 : i64 e.beat := i64_of (by omega)
 have i3 : i64 e.ver := i64_of (by omega)
 have z1 := itoaB_size i1
 have z2 := itoaB_size i2
 have z3 := itoaB_size i3
 have z4 := rankT_size e.rank
 have y1 : (⟨#[46]⟩ : ByteArray).size = 1 := rfl
 have y2 : (⟨#[58]⟩ : ByteArray).size = 1 := rfl
 refine AC.enterX (i := ⟨[1],[1,4,10,15,20,25],[0,1,2,3,5,6,8],[]⟩) [(7,[2,7,12],[6,11,16])] Tryd.func57 rfl rfl (by kernel_rfl) (by kernel_rfl) Tryd.ntmps57 (Lb rfl) rfl ?_
 refine ⟨_,rfl,?_⟩
 refine cxs ?_
 refine Cm 1 st [Ml 1 0,(2,.string ⟨#[]⟩),(3,.string ⟨#[63]⟩)] [(1,0,[vI e.inc,vI e.rank,vI e.beat,vI e.ver,.string e.data])] fun _ _ => ?_
 refine ⟨_,rfl,?_⟩
 refine ⟨_,Od rfl,?_⟩
 refine Cm 1 st [Ml 1 0,(2,.string ⟨#[]⟩),(3,.string ⟨#[63]⟩),(5,vI e.rank)] [(1,0,[vI e.inc,vI e.rank,vI e.beat,vI e.ver,.string e.data])] fun _ _ => ?_
 refine ⟨_,rfl,?_⟩
 rintro (_|_) h7
 ·replace h7 : ¬ (e.rank = 0) := beq_eq_false_iff_ne.1 h7
  refine Cm 1 st [Ml 1 0,(2,.string ⟨#[]⟩),(3,.string ⟨#[63]⟩),(5,vI e.rank),(6,vB false)] [(1,0,[vI e.inc,vI e.rank,vI e.beat,vI e.ver,.string e.data])] fun _ _ => ?_
  have hr : (⟨#[103]⟩ : ByteArray) = rankT e.rank := (if_neg h7).symm
  refine ⟨_,rfl,?_⟩
  rintro (_|_) h9
  ·exact absurd ((by omega)) (beq_eq_false_iff_ne.1 h9)
  refine Cm 1 st [Ml 1 0,(2,.string ⟨#[]⟩),(3,.string ⟨#[63]⟩),(8,vB true)] [(1,0,[vI e.inc,vI e.rank,vI e.beat,vI e.ver,.string e.data])] fun _ _ => ?_
  refine Cm 1 st [Ml 1 0,(2,.string ⟨#[]⟩),(3,.string ⟨#[103]⟩)] [(1,0,[vI e.inc,vI e.rank,vI e.beat,vI e.ver,.string e.data])] fun _ _ => ?_
  refine ⟨_,rfl,?_⟩
  refine ⟨_,Od rfl,?_⟩
  refine ⟨_,rfl,(ac_impl_Digits e.inc st i1 hT).mono ?_⟩
  rintro _ st ⟨rfl,rfl⟩
  refine ⟨fun _ _ => rfl,?_⟩
  refine ⟨_,op_cat (a := itoaB e.inc) (b := rankT e.rank) rfl rfl (congrArg Value.string (if_neg h7).symm) (by omega),?_⟩
  refine ⟨_,rfl,?_⟩
  refine ⟨_,Od rfl,?_⟩
  refine ⟨ld_own rfl rfl rfl,?_⟩
  refine ⟨_,rfl,(ac_impl_Digits e.beat st i2 hT).mono ?_⟩
  rintro _ st ⟨rfl,rfl⟩
  refine ⟨fun _ _ => rfl,?_⟩
  refine ⟨_,op_cat (a := itoaB e.inc ++ rankT e.rank) (b := itoaB e.beat) rfl rfl rfl (by simp only [ByteArray.size_append]; omega),?_⟩
  refine ⟨_,op_cat (a := itoaB e.inc ++ rankT e.rank ++ itoaB e.beat) (b := ⟨#[46]⟩) rfl rfl rfl (by simp only [ByteArray.size_append]; omega),?_⟩
  refine ⟨_,rfl,?_⟩
  refine ⟨_,Od rfl,?_⟩
  refine ⟨ld_own rfl rfl rfl,?_⟩
  refine ⟨_,rfl,(ac_impl_Digits e.ver st i3 hT).mono ?_⟩
  rintro _ st ⟨rfl,rfl⟩
  refine ⟨fun _ _ => rfl,?_⟩
  refine ⟨_,op_cat (a := itoaB e.inc ++ rankT e.rank ++ itoaB e.beat ++ ⟨#[46]⟩) (b := itoaB e.ver) rfl rfl rfl (by simp only [ByteArray.size_append]; omega),?_⟩
  refine ⟨_,op_cat (a := itoaB e.inc ++ rankT e.rank ++ itoaB e.beat ++ ⟨#[46]⟩ ++ itoaB e.ver) (b := ⟨#[58]⟩) rfl rfl rfl (by simp only [ByteArray.size_append]; omega),?_⟩
  refine ⟨_,rfl,?_⟩
  refine ⟨_,Od rfl,?_⟩
  refine ⟨ld_own rfl rfl rfl,?_⟩
  refine ⟨_,op_cat (a := itoaB e.inc ++ rankT e.rank ++ itoaB e.beat ++ ⟨#[46]⟩ ++ itoaB e.ver ++ ⟨#[58]⟩) (b := e.data) rfl rfl rfl (by simp only [ByteArray.size_append]; omega),?_⟩
  exact cxs (Rt ⟨rfl,rfl⟩)
 ·replace h7 : e.rank = 0 := beq_iff_eq.1 h7
  refine Cm 1 st [Ml 1 0,(2,.string ⟨#[]⟩),(3,.string ⟨#[63]⟩),(5,vI e.rank),(6,vB true)] [(1,0,[vI e.inc,vI e.rank,vI e.beat,vI e.ver,.string e.data])] fun _ _ => ?_
  have hr : (⟨#[117]⟩ : ByteArray) = rankT e.rank := (if_pos h7).symm
  refine Cm 1 st [Ml 1 0,(2,.string ⟨#[]⟩),(3,.string ⟨#[117]⟩)] [(1,0,[vI e.inc,vI e.rank,vI e.beat,vI e.ver,.string e.data])] fun _ _ => ?_
  refine ⟨_,rfl,?_⟩
  refine ⟨_,Od rfl,?_⟩
  refine ⟨_,rfl,(ac_impl_Digits e.inc st i1 hT).mono ?_⟩
  rintro _ st ⟨rfl,rfl⟩
  refine ⟨fun _ _ => rfl,?_⟩
  refine ⟨_,op_cat (a := itoaB e.inc) (b := rankT e.rank) rfl rfl (congrArg Value.string (if_pos h7).symm) (by omega),?_⟩
  refine ⟨_,rfl,?_⟩
  refine ⟨_,Od rfl,?_⟩
  refine ⟨ld_own rfl rfl rfl,?_⟩
  refine ⟨_,rfl,(ac_impl_Digits e.beat st i2 hT).mono ?_⟩
  rintro _ st ⟨rfl,rfl⟩
  refine ⟨fun _ _ => rfl,?_⟩
  refine ⟨_,op_cat (a := itoaB e.inc ++ rankT e.rank) (b := itoaB e.beat) rfl rfl rfl (by simp only [ByteArray.size_append]; omega),?_⟩
  refine ⟨_,op_cat (a := itoaB e.inc ++ rankT e.rank ++ itoaB e.beat) (b := ⟨#[46]⟩) rfl rfl rfl (by simp only [ByteArray.size_append]; omega),?_⟩
  refine ⟨_,rfl,?_⟩
  refine ⟨_,Od rfl,?_⟩
  refine ⟨ld_own rfl rfl rfl,?_⟩
  refine ⟨_,rfl,(ac_impl_Digits e.ver st i3 hT).mono ?_⟩
  rintro _ st ⟨rfl,rfl⟩
  refine ⟨fun _ _ => rfl,?_⟩
  refine ⟨_,op_cat (a := itoaB e.inc ++ rankT e.rank ++ itoaB e.beat ++ ⟨#[46]⟩) (b := itoaB e.ver) rfl rfl rfl (by simp only [ByteArray.size_append]; omega),?_⟩
  refine ⟨_,op_cat (a := itoaB e.inc ++ rankT e.rank ++ itoaB e.beat ++ ⟨#[46]⟩ ++ itoaB e.ver) (b := ⟨#[58]⟩) rfl rfl rfl (by simp only [ByteArray.size_append]; omega),?_⟩
  refine ⟨_,rfl,?_⟩
  refine ⟨_,Od rfl,?_⟩
  refine ⟨ld_own rfl rfl rfl,?_⟩
  refine ⟨_,op_cat (a := itoaB e.inc ++ rankT e.rank ++ itoaB e.beat ++ ⟨#[46]⟩ ++ itoaB e.ver ++ ⟨#[58]⟩) (b := e.data) rfl rfl rfl (by simp only [ByteArray.size_append]; omega),?_⟩
  exact cxs (Rt ⟨rfl,rfl⟩)
theorem ac_impl_StateText (p : Option Addr) (l : List Itm) (st : St) (hR : Rows st 6 cItm p l) (hs : szOk l.length) (hl : ∀ x ∈ l,i64 x.id ∧ entOk x.e) (hT : Tab st) : C 31 [.agg #[vS p l.length,.slice none 0 0]] st (fun v s => v = .string (txtI l) ∧ Pres st s) := by
 have hs1 : l.length ≤ 1048576 := hs
 refine AC.enterX (i := ⟨[1,5,7],[1,5,7,9,17,21,28,36,41],[0,1,2,3,5,7,10,11,12,13,29,30,31,32],[]⟩) [(5,[3],[6]),(10,[3],[7])] Tryd.func31 rfl rfl (by kernel_rfl) (by kernel_rfl) Tryd.ntmps31 (Lb rfl) rfl ?_
 refine ⟨_,rfl,?_⟩
 refine Cm 1 st [Ml 1 0,(2,.string ⟨#[]⟩)] [(1,0,[vS p l.length,Sn])] fun _ _ => ?_
 refine op_nilK (z := 1) (f := fT) rfl rfl rfl rfl (by decide) rfl ?_
 intro q8 s8 hO8 hP8 hN8
 refine Cm 1 s8 [Ml 1 0,(2,.string ⟨#[]⟩),(3,vS q8 0)] [(1,0,[vS p l.length,Sn])] fun _ _ => ?_
 refine ⟨_,rfl,?_⟩
 refine ⟨_,Od rfl,?_⟩
 refine ⟨_,rfl,?_⟩
 refine Cm 1 s8 [Ml 1 0,(2,.string ⟨#[]⟩),(3,vS q8 0),(10,vS p l.length),(11,vI (l.length : Int)),(12,vI 0)] [(1,0,[vS p l.length,Sn])] fun _ _ => ?_
 refine AW.loopM (fun x : Nat × Option Addr × List ByteArray => [(1,vL 1 0 (0)),(2,.string ⟨#[]⟩),(3,vS x.2.1 x.2.2.length),(10,vS p l.length),(11,vI (l.length : Int)),(12,vI (x.1 : Int))]) (fun x : Nat × Option Addr × List ByteArray => [(1,0,[vS p l.length,.slice none 0 0])]) (fun m (x : Nat × Option Addr × List ByteArray) st' => m = l.length - x.1 ∧ x.1 ≤ l.length ∧ x.2.2 = (l.take x.1).map itmT ∧ OwnR st' 1 fT x.2.1 x.2.2 ∧ New st.next x.2.1 ∧ Pres st st') (0,q8,[]) _ ⟨rfl,rfl,rfl,rfl,rfl,rfl,trivial⟩ ⟨rfl,trivial⟩ ⟨rfl,Nat.zero_le _,rfl,hO8,hN8,hP8⟩ ?_
 rintro m ⟨i,q,b⟩ ρ0 ff gg st' ⟨rfl,hi,hv,hO,hN,hP⟩
 simp only at hi hv hO hN
 have hbl : b.length ≤ l.length := by rw [hv,List.length_map,List.length_take]; omega
 have hT' := hT.pres hP
 refine ⟨_,rfl,?_⟩
 rintro (_|_) h13
 ·replace h13 : ¬ ((i : Int) < (l.length : Int)) := of_decide_eq_false h13
  refine Cm gg st' [Ml 1 0,(2,.string ⟨#[]⟩),(3,vS q b.length),(10,vS p l.length),(11,vI (l.length : Int)),(12,vI (i : Int)),(13,vB false)] [(1,0,[vS p l.length,Sn])] fun _ _ => ?_
  refine cxs ?_
  refine ⟨_,rfl,?_⟩
  refine ⟨_,Od rfl,?_⟩
  refine ⟨_,rfl,?_⟩
  refine Cm gg st' [(2,.string ⟨#[]⟩),(3,vS q b.length),(29,Sn),(30,_),(31,vI 0)] [] fun _ _ => ?_
  refine AW.loopM (fun j : Nat => [(2,.string ⟨#[]⟩),(3,vS q b.length),(29,.slice none 0 0),(30,vI 0),(31,vI (j : Int))]) (fun j : Nat => []) (fun m (j : Nat) st' => m = 0 ∧ j = 0 ∧ OwnR st' 1 fT q b ∧ Pres st st') 0 _ ⟨rfl,rfl,rfl,rfl,rfl,trivial⟩ trivial ⟨rfl,rfl,hO,hP⟩ ?_
  rintro m j ρ0 ff gg st' ⟨rfl,hj,hO,hP⟩
  refine ⟨_,rfl,?_⟩
  rintro (_|_) h32
  rotate_left
  ·exact absurd (of_decide_eq_true h32) ((by omega))
  refine Cm gg st' [(2,.string ⟨#[]⟩),(3,vS q b.length),(29,Sn),(30,vI 0),(31,vI (j : Int)),(32,vB false)] [] fun _ _ => ?_
  refine cxs ?_
  have hbe : b = l.map itmT := by rw [hv,show i = l.length by omega,List.take_length]
  refine ⟨_,rfl,(ac_strings_Join q b ⟨#[32]⟩ st' (hO.rows fT_len) (by omega) (by
  have := joinB_le (m := 92) (l := b) (sep := ⟨#[32]⟩) (Nat.le_refl 1) fun x hx => by
   rw [hbe] at hx
   obtain ⟨y,hy,rfl⟩ := List.mem_map.1 hx
   exact itmT_size (hl y hy).1 (hl y hy).2
  omega)).mono ?_⟩
  rintro _ st' ⟨rfl,rfl⟩
  exact cxs (Rt ⟨congrArg Value.string (by rw [hbe]; rfl),hP⟩)
 ·replace h13 : (i : Int) < (l.length : Int) := of_decide_eq_true h13
  refine Cm gg st' [Ml 1 0,(2,.string ⟨#[]⟩),(3,vS q b.length),(10,vS p l.length),(11,vI (l.length : Int)),(12,vI (i : Int)),(13,vB true)] [(1,0,[vS p l.length,Sn])] fun _ _ => ?_
  refine cxs ?_
  refine op_at i (hP.rows hR) (by omega) rfl rfl rfl rfl rfl rfl rfl ?_
  intro x14 b14 d14 k14 hy14 hb14 hm14 hc14 ho14
  refine ⟨_,op_lda rfl rfl rfl rfl rfl hm14 hc14 rfl,?_⟩
  refine ⟨_,rfl,?_⟩
  refine ⟨_,Os rfl,?_⟩
  refine Cm (gg + 1) st' [Ml 1 0,(2,.string ⟨#[]⟩),(3,vS q b.length),Ml 5 gg,(10,vS p l.length),(11,vI (l.length : Int)),(12,vI (i : Int)),(13,vB true)] [(1,0,[vS p l.length,Sn]),(5,gg,[vI x14.id,vI x14.e.inc,vI x14.e.rank,vI x14.e.beat,vI x14.e.ver,.string x14.e.data])] fun _ _ => ?_
  refine ⟨_,rfl,?_⟩
  refine ⟨_,Od rfl,?_⟩
  obtain ⟨hx1,hx2⟩ := hl _ (List.mem_of_getElem? hy14)
  have z1 := itoaB_size hx1
  have z2 := entT_size hx2
  refine ⟨_,rfl,(ac_impl_Digits x14.id st' hx1 hT').mono ?_⟩
  rintro _ st' ⟨rfl,rfl⟩
  refine ⟨fun _ _ => rfl,?_⟩
  refine ⟨_,op_cat (a := itoaB x14.id) (b := ⟨#[61]⟩) rfl rfl rfl (by show _ + 1 ≤ _; omega),?_⟩
  refine ⟨_,rfl,?_⟩
  refine ⟨_,Od rfl,?_⟩
  refine ⟨ld_own rfl rfl rfl,?_⟩
  refine ⟨_,rfl,(ac_impl_EntryText x14.e st' hx2 hT').mono ?_⟩
  rintro _ st' ⟨rfl,rfl⟩
  refine ⟨_,op_cat (a := itoaB x14.id ++ ⟨#[61]⟩) (b := entT x14.e) rfl rfl rfl (by rw [ByteArray.size_append]; show _ + 1 + _ ≤ _; omega),?_⟩
  refine op_one (z := 1) (a := ((itmT x14) : ByteArray)) (f := fT) rfl rfl rfl rfl rfl (by decide) rfl (Lb rfl) rfl rfl rfl ?_
  refine op_snoc (z := 1) (st := st') (f := fT) (b := 16) (l := b) (x := (itmT x14)) rfl rfl rfl rfl rfl rfl rfl (by decide) fT_len rfl rfl rfl (by omega) (by unfold maxLen; omega) hO ?_
  intro q26 s26 hO26 hP26 hN26
  refine Cm (gg + 1) s26 [Ml 1 0,(2,.string ⟨#[]⟩),(3,vS q26 (b ++ [(itmT x14)]).length),Ml 5 gg,(10,vS p l.length),(11,vI (l.length : Int)),(12,vI (i : Int)),(13,vB true)] [(1,0,[vS p l.length,Sn]),(5,gg,[vI x14.id,vI x14.e.inc,vI x14.e.rank,vI x14.e.beat,vI x14.e.ver,.string x14.e.data])] fun _ _ => ?_
  have ew27 : IntKind.wrap .i64 ((i : Int) + (1)) = ((i + 1 : Nat) : Int) := (wrap_i64 (by omega) (by omega)).trans (by omega)
  refine ⟨_,rfl,?_⟩
  exact ⟨(i + 1,q26,b ++ [itmT x14]),l.length - (i + 1),by omega,⟨rfl,rfl,rfl,rfl,rfl,congrArg (Value.int .i64) ew27,trivial⟩,⟨rfl,trivial⟩,rfl,by simp only; omega,by simp only; rw [take_snoc hy14,List.map_append,← hv]; rfl,hO26,hN26.le hP.1,hP26.pres hP hN⟩
theorem view_ok {s : Sta} : ∀ x ∈ viewF s,i64 x.id ∧ entOk x.e := by
 unfold viewF
 split
 ·rename_i h
  intro x hx
  obtain ⟨j,hj⟩ := List.getElem?_of_mem (List.mem_filter.1 hx).1
  obtain ⟨h1,h2,_⟩ := h.1 j x hj
  exact ⟨i64_of (by omega),h2⟩
 ·intro x hx; cases hx
theorem ac_impl_ViewText (s : SV) (st : St) (hR : RdS st s) (hb : bigS s.x) (hT : Tab st) : C 14 [.agg #[vS s.p s.x.items.length,vS s.q s.x.floors.length]] st (fun v s' => v = .string (txtI (viewF s.x)) ∧ Pres st s') := by
 refine AC.enterX (i := ⟨[1],[1],[0,1,2],[]⟩) [] Tryd.func14 rfl rfl (by kernel_rfl) (by kernel_rfl) Tryd.ntmps14 (Lb rfl) rfl ?_
 refine ⟨_,rfl,?_⟩
 refine Cm 1 st [Ml 1 0,(2,.string ⟨#[]⟩)] [(1,0,cSV s)] fun _ _ => ?_
 refine ⟨_,Od rfl,?_⟩
 refine ⟨_,rfl,(ac_impl_View s st hR (by first | assumption | omega)).mono ?_⟩
 rintro _ s4 ⟨q4,rfl,hO4,hN4,hP4⟩
 refine ⟨_,rfl,?_⟩
 refine ⟨_,rfl,(ac_impl_StateText q4 (viewF s.x) s4 (hO4.rows len_cItm) (view_big hb).1 view_ok (hT.pres hP4)).mono ?_⟩
 rintro _ s6 ⟨rfl,hP6⟩
 exact cxs (Rt ⟨rfl,hP4.trans hP6⟩)
theorem filter_fmap {α : Type} (p : Itm → Bool) (f : α → Option Itm) (l : List α) : (l.filterMap f).filter p = l.filterMap fun x => (f x).filter p := by
 induction l with
 | nil => rfl
 | cons x l ih =>
  rw [List.filterMap_cons,List.filterMap_cons]
  cases f x with
  | none => simpa using ih
  | some y =>
   by_cases hp : p y = true
   ·simp [hp,ih,Option.filter]
   ·simp [hp,ih,Option.filter]
theorem view_eq {s : Sta} (h : stateOk s) : viewF s = (List.range 5).filterMap fun (j : Nat) => if 1 ≤ (gE s (j : Int)).inc ∧ (gE s (j : Int)).rank = 0 then some (⟨(j : Int),gE s (j : Int)⟩ : Itm) else none := by
 unfold viewF
 rw [if_pos h]
 show s.items.filter _ = _
 conv => lhs; rw [items_canon h]
 rw [filter_fmap]
 refine fmap_congr fun j _ => ?_
 have hin := gE_in h (j : Int)
 by_cases h1 : (entP s.items (j : Int)).2 = true
 ·rw [if_pos h1]
  by_cases h2 : (gE s (j : Int)).rank = 0
  ·rw [if_pos ⟨hin.1 h1,h2⟩]
   have h3 : (entP s.items (j : Int)).1.rank = 0 := h2
   simp [Option.filter,h3]; rfl
  ·rw [if_neg (fun k => h2 k.2)]
   have h3 : ¬ (entP s.items (j : Int)).1.rank = 0 := h2
   simp [Option.filter,h3]
 ·rw [if_neg h1,if_neg (fun k => h1 (hin.2 k.1))]
  rfl
theorem prune_gE {s : Sta} (h : stateOk s) (t : List (List Int)) {j : Nat} (hj : j < 5) : gE (pruneF s t) (j : Int) = cut (max (gF s (j : Int)) (max (pruneG s t (j : Int)) 0)) (gE s (j : Int)) := by
 rw [prune_eq h,gE_join _ _ hj,FS_gF _ hj,FS_gE,entMax_comm,entMax_zl (gE_v h _)]
theorem prune_gF {s : Sta} (h : stateOk s) (t : List (List Int)) {j : Nat} (hj : j < 5) : gF (pruneF s t) (j : Int) = max (gF s (j : Int)) (max (pruneG s t (j : Int)) 0) := by
 rw [prune_eq h,gF_join h (FS_ok (pruneG_le h t)) hj,FS_gF _ hj]
theorem pruneG_eq (s : Sta) (t : List (List Int)) (i : Int) : pruneG s t i = min (common t i) (goneAt s i) := rfl
theorem view_prune {s : Sta} (h : stateOk s) (t : List (List Int)) : viewF (pruneF s t) = viewF s := by
 rw [view_eq h,view_eq (prune_ok h t)]
 refine fmap_congr fun j hj => ?_
 have hj := List.mem_range.1 hj
 rw [prune_gE h t hj]
 have hv := gE_v h (j : Int)
 have hc := gE_cut h (j : Int)
 have hgo := goneAt_eq h (j : Int)
 have hF := gF_pos h (j : Int)
 by_cases h1 : 1 ≤ (gE s (j : Int)).inc ∧ (gE s (j : Int)).rank = 0
 ·have hlt : gF s (j : Int) < (gE s (j : Int)).inc := ((gon_rng hF.1 hv hc).2.2 h1.1).2
  rw [if_pos h1.1,if_neg (by omega)] at hgo
  have hp : pruneG s t (j : Int) ≤ (gE s (j : Int)).inc - 1 := by rw [pruneG_eq,hgo]; exact Int.min_le_right _ _
  have hcut : cut (max (gF s (j : Int)) (max (pruneG s t (j : Int)) 0)) (gE s (j : Int)) = gE s (j : Int) := by
   unfold cut
   rw [if_pos (by omega)]
  rw [hcut]
 ·rw [if_neg h1]
  by_cases h2 : (gE s (j : Int)).inc > max (gF s (j : Int)) (max (pruneG s t (j : Int)) 0)
  ·rw [show cut (max (gF s (j : Int)) (max (pruneG s t (j : Int)) 0)) (gE s (j : Int)) = gE s (j : Int) from if_pos h2,if_neg h1]
  ·rw [show cut (max (gF s (j : Int)) (max (pruneG s t (j : Int)) 0)) (gE s (j : Int)) = zEnt from if_neg h2,if_neg (fun k => absurd k.1 (by decide))]
theorem Frs.t0 {a : St} : Frs a a (pcTT ⟨none,[]⟩) := ⟨OwnP.one (.inl ⟨rfl,rfl⟩),NewP.cons New.none NewP.nil,Pres.refl _⟩
theorem Frs.r0 {a : St} : Frs a a (pcRis ⟨none,[]⟩) := ⟨OwnP.one (.inl ⟨rfl,rfl⟩),NewP.cons New.none NewP.nil,Pres.refl _⟩
theorem Frs.s0 {a : St} : Frs a a (pcS ⟨none,none,nilS⟩) := ⟨pcS_nil,newS_nil,Pres.refl _⟩
theorem Frs.got {s0 st st' : St} {v : NW} {q : RV} (h : Frs s0 st (pcNW v)) (hF : Frs st st' (pcIs q)) : Frs s0 st' (pcNW { v with got := q }) := by
 have e : ∀ x : RV,pcNW { v with got := x } = (pcS v.s ++ (pcIs v.t.toRV ++ pcLog v.g)) ++ (pcIs x ++ (pcIs v.acked ++ (pcTT v.seen ++ (pcSes v.sess ++ pcRis v.rises)))) := fun x => by simp only [List.append_assoc]
 rw [e]
 exact Frs.swap (c := pcIs v.got) (by rw [← e]; exact h) hF
theorem Frs.acked {s0 st st' : St} {v : NW} {q : RV} (h : Frs s0 st (pcNW v)) (hF : Frs st st' (pcIs q)) : Frs s0 st' (pcNW { v with acked := q }) := by
 have e : ∀ x : RV,pcNW { v with acked := x } = (pcS v.s ++ (pcIs v.t.toRV ++ (pcLog v.g ++ pcIs v.got))) ++ (pcIs x ++ (pcTT v.seen ++ (pcSes v.sess ++ pcRis v.rises))) := fun x => by simp only [List.append_assoc]
 rw [e]
 exact Frs.swap (c := pcIs v.acked) (by rw [← e]; exact h) hF
theorem ac_d_l2Draw {p : Option Addr} {bs : List Int} (c : Nat) (st : St) (hc : Cur st c p bs) (hs : bs.length < 1099511627776) : C 60 [vP c 0] st (fun v s => ∃ e : Ent,v = .agg #[vI e.inc,vI e.rank,vI e.beat,vI e.ver,.string e.data] ∧ e.data.size ≤ 9 ∧ Cur s c p bs ∧ PresC c st s) := by
 refine AC.enterX (i := ⟨[2,3],[2,3,13,19,25,31,34],[0,2,3,7,8,14,20,26,32],[]⟩) [] Tryd.func60 rfl rfl (by kernel_rfl) (by kernel_rfl) Tryd.ntmps60 (Lb rfl) rfl ?_
 refine ⟨_,rfl,?_⟩
 refine Cm 1 st [(0,vP c 0),Ml 2 0] [(2,0,[vI 0,vI 0,vI 0,vI 0,.string ⟨#[]⟩])] fun _ _ => ?_
 refine ⟨_,rfl,(ac_d_l2Right c st hc (by first | assumption | omega)).mono ?_⟩
 rintro _ s5 ⟨e5,rfl,h5,hC5,hL5⟩
 refine ⟨_,rfl,?_⟩
 refine ⟨_,Os rfl,?_⟩
 refine Cm 2 s5 [(0,vP c 0),Ml 2 0,Ml 3 1] [(2,0,[vI 0,vI 0,vI 0,vI 0,.string ⟨#[]⟩]),(3,1,[vI e5.inc,vI e5.rank,vI e5.beat,vI e5.ver,.string e5.data])] fun _ _ => ?_
 have hd : e5.data.size ≤ 9 := Nat.le_trans h5.2.2.2.2 (by decide)
 refine ⟨_,rfl,(ac_d_l1Below c 14 s5 hC5 (by first | assumption | omega)).mono ?_⟩
 rintro _ s7 ⟨r7,rfl,h7,h7',h7'',hC7,hL7⟩
 refine Cm 2 s7 [(0,vP c 0),Ml 2 0,Ml 3 1,(7,vI r7)] [(2,0,[vI 0,vI 0,vI 0,vI 0,.string ⟨#[]⟩]),(3,1,[vI e5.inc,vI e5.rank,vI e5.beat,vI e5.ver,.string e5.data])] fun _ _ => ?_
 refine ⟨_,rfl,?_⟩
 rintro (_|_) h9
 ·replace h9 : ¬ (r7 = (0)) := beq_eq_false_iff_ne.1 h9
  refine Cm 2 s7 [(0,vP c 0),Ml 2 0,Ml 3 1,(7,vI r7),(8,vB false)] [(2,0,[vI 0,vI 0,vI 0,vI 0,.string ⟨#[]⟩]),(3,1,[vI e5.inc,vI e5.rank,vI e5.beat,vI e5.ver,.string e5.data])] fun _ _ => ?_
  refine ⟨_,rfl,?_⟩
  rintro (_|_) h15
  ·replace h15 : ¬ (r7 = (1)) := beq_eq_false_iff_ne.1 h15
   refine Cm 2 s7 [(0,vP c 0),Ml 2 0,Ml 3 1,(7,vI r7),(14,vB false)] [(2,0,[vI 0,vI 0,vI 0,vI 0,.string ⟨#[]⟩]),(3,1,[vI e5.inc,vI e5.rank,vI e5.beat,vI e5.ver,.string e5.data])] fun _ _ => ?_
   refine ⟨_,rfl,?_⟩
   rintro (_|_) h21
   ·replace h21 : ¬ (r7 = (2)) := beq_eq_false_iff_ne.1 h21
    refine Cm 2 s7 [(0,vP c 0),Ml 2 0,Ml 3 1,(7,vI r7),(20,vB false)] [(2,0,[vI 0,vI 0,vI 0,vI 0,.string ⟨#[]⟩]),(3,1,[vI e5.inc,vI e5.rank,vI e5.beat,vI e5.ver,.string e5.data])] fun _ _ => ?_
    refine ⟨_,rfl,?_⟩
    rintro (_|_) h27
    ·replace h27 : ¬ (r7 = (3)) := beq_eq_false_iff_ne.1 h27
     refine Cm 2 s7 [(0,vP c 0),Ml 2 0,Ml 3 1,(7,vI r7),(26,vB false)] [(2,0,[vI 0,vI 0,vI 0,vI 0,.string ⟨#[]⟩]),(3,1,[vI e5.inc,vI e5.rank,vI e5.beat,vI e5.ver,.string e5.data])] fun _ _ => ?_
     refine ⟨_,rfl,?_⟩
     rintro (_|_) h33
     ·replace h33 : ¬ (r7 = (4)) := beq_eq_false_iff_ne.1 h33
      refine Cm 2 s7 [Ml 2 0,Ml 3 1,(32,vB false)] [(2,0,[vI 0,vI 0,vI 0,vI 0,.string ⟨#[]⟩]),(3,1,[vI e5.inc,vI e5.rank,vI e5.beat,vI e5.ver,.string e5.data])] fun _ _ => ?_
      refine cxs ?_
      refine ⟨_,Od rfl,?_⟩
      refine ⟨_,Os rfl,?_⟩
      exact cxs (Rt ⟨e5,rfl,hd,hC7,hL5.trans hL7⟩)
     ·replace h33 : r7 = (4) := beq_iff_eq.1 h33
      refine Cm 2 s7 [Ml 2 0,Ml 3 1,(32,vB true)] [(2,0,[vI 0,vI 0,vI 0,vI 0,.string ⟨#[]⟩]),(3,1,[vI e5.inc,vI e5.rank,vI e5.beat,vI e5.ver,.string e5.data])] fun _ _ => ?_
      refine ⟨_,rfl,?_⟩
      refine ⟨_,Os rfl,?_⟩
      refine Cm 2 s7 [Ml 2 0,Ml 3 1] [(2,0,[vI 0,vI 0,vI 0,vI 0,.string ⟨#[]⟩]),(3,1,[vI e5.inc,vI e5.rank,vI e5.beat,vI e5.ver,.string ⟨#[49,50,51,52,53,54,55,56,57]⟩])] fun _ _ => ?_
      refine ⟨_,Od rfl,?_⟩
      refine ⟨_,Os rfl,?_⟩
      exact cxs (Rt ⟨⟨e5.inc,e5.rank,e5.beat,e5.ver,⟨#[49,50,51,52,53,54,55,56,57]⟩⟩,rfl,by show 9 ≤ 9; exact Nat.le_refl 9,hC7,hL5.trans hL7⟩)
    ·replace h27 : r7 = (3) := beq_iff_eq.1 h27
     refine Cm 2 s7 [(0,vP c 0),Ml 2 0,Ml 3 1,(7,vI r7),(26,vB true)] [(2,0,[vI 0,vI 0,vI 0,vI 0,.string ⟨#[]⟩]),(3,1,[vI e5.inc,vI e5.rank,vI e5.beat,vI e5.ver,.string e5.data])] fun _ _ => ?_
     refine op_litI (k := .i64) (l := [-1,1000,1001]) rfl rfl rfl rfl rfl rfl (Lb rfl) ?_
     intro q29 s29 hO29 hP29 hN29
     refine ⟨_,rfl,(ac_d_l1PickInt c q29 ([-1,1000,1001]) s29 (hC7.pres hP29) (by first | assumption | omega) (by first | assumption | omega | decide) (by first | assumption | omega) (by first | assumption | exact NC.new (by assumption) (Cur.lt (by assumption)))).mono ?_⟩
     rintro _ s30 ⟨r30,rfl,h30,hC30,hL30⟩
     refine ⟨_,rfl,?_⟩
     refine ⟨_,Os rfl,?_⟩
     refine Cm 2 s30 [Ml 2 0,Ml 3 1] [(2,0,[vI 0,vI 0,vI 0,vI 0,.string ⟨#[]⟩]),(3,1,[vI e5.inc,vI e5.rank,vI e5.beat,vI r30,.string e5.data])] fun _ _ => ?_
     refine ⟨_,Od rfl,?_⟩
     refine ⟨_,Os rfl,?_⟩
     exact cxs (Rt ⟨⟨e5.inc,e5.rank,e5.beat,r30,e5.data⟩,rfl,hd,hC30,((hL5.trans hL7).trans hP29.c).trans hL30⟩)
   ·replace h21 : r7 = (2) := beq_iff_eq.1 h21
    refine Cm 2 s7 [(0,vP c 0),Ml 2 0,Ml 3 1,(7,vI r7),(20,vB true)] [(2,0,[vI 0,vI 0,vI 0,vI 0,.string ⟨#[]⟩]),(3,1,[vI e5.inc,vI e5.rank,vI e5.beat,vI e5.ver,.string e5.data])] fun _ _ => ?_
    refine op_litI (k := .i64) (l := [-1,100000,100001]) rfl rfl rfl rfl rfl rfl (Lb rfl) ?_
    intro q23 s23 hO23 hP23 hN23
    refine ⟨_,rfl,(ac_d_l1PickInt c q23 ([-1,100000,100001]) s23 (hC7.pres hP23) (by first | assumption | omega) (by first | assumption | omega | decide) (by first | assumption | omega) (by first | assumption | exact NC.new (by assumption) (Cur.lt (by assumption)))).mono ?_⟩
    rintro _ s24 ⟨r24,rfl,h24,hC24,hL24⟩
    refine ⟨_,rfl,?_⟩
    refine ⟨_,Os rfl,?_⟩
    refine Cm 2 s24 [Ml 2 0,Ml 3 1] [(2,0,[vI 0,vI 0,vI 0,vI 0,.string ⟨#[]⟩]),(3,1,[vI e5.inc,vI e5.rank,vI r24,vI e5.ver,.string e5.data])] fun _ _ => ?_
    refine ⟨_,Od rfl,?_⟩
    refine ⟨_,Os rfl,?_⟩
    exact cxs (Rt ⟨⟨e5.inc,e5.rank,r24,e5.ver,e5.data⟩,rfl,hd,hC24,((hL5.trans hL7).trans hP23.c).trans hL24⟩)
  ·replace h15 : r7 = (1) := beq_iff_eq.1 h15
   refine Cm 2 s7 [(0,vP c 0),Ml 2 0,Ml 3 1,(7,vI r7),(14,vB true)] [(2,0,[vI 0,vI 0,vI 0,vI 0,.string ⟨#[]⟩]),(3,1,[vI e5.inc,vI e5.rank,vI e5.beat,vI e5.ver,.string e5.data])] fun _ _ => ?_
   refine op_litI (k := .i64) (l := [-1,2]) rfl rfl rfl rfl rfl rfl (Lb rfl) ?_
   intro q17 s17 hO17 hP17 hN17
   refine ⟨_,rfl,(ac_d_l1PickInt c q17 ([-1,2]) s17 (hC7.pres hP17) (by first | assumption | omega) (by first | assumption | omega | decide) (by first | assumption | omega) (by first | assumption | exact NC.new (by assumption) (Cur.lt (by assumption)))).mono ?_⟩
   rintro _ s18 ⟨r18,rfl,h18,hC18,hL18⟩
   refine ⟨_,rfl,?_⟩
   refine ⟨_,Os rfl,?_⟩
   refine Cm 2 s18 [Ml 2 0,Ml 3 1] [(2,0,[vI 0,vI 0,vI 0,vI 0,.string ⟨#[]⟩]),(3,1,[vI e5.inc,vI r18,vI e5.beat,vI e5.ver,.string e5.data])] fun _ _ => ?_
   refine ⟨_,Od rfl,?_⟩
   refine ⟨_,Os rfl,?_⟩
   exact cxs (Rt ⟨⟨e5.inc,r18,e5.beat,e5.ver,e5.data⟩,rfl,hd,hC18,((hL5.trans hL7).trans hP17.c).trans hL18⟩)
 ·replace h9 : r7 = (0) := beq_iff_eq.1 h9
  refine Cm 2 s7 [(0,vP c 0),Ml 2 0,Ml 3 1,(7,vI r7),(8,vB true)] [(2,0,[vI 0,vI 0,vI 0,vI 0,.string ⟨#[]⟩]),(3,1,[vI e5.inc,vI e5.rank,vI e5.beat,vI e5.ver,.string e5.data])] fun _ _ => ?_
  refine op_litI (k := .i64) (l := [0,1000,1001,-1]) rfl rfl rfl rfl rfl rfl (Lb rfl) ?_
  intro q11 s11 hO11 hP11 hN11
  refine ⟨_,rfl,(ac_d_l1PickInt c q11 ([0,1000,1001,-1]) s11 (hC7.pres hP11) (by first | assumption | omega) (by first | assumption | omega | decide) (by first | assumption | omega) (by first | assumption | exact NC.new (by assumption) (Cur.lt (by assumption)))).mono ?_⟩
  rintro _ s12 ⟨r12,rfl,h12,hC12,hL12⟩
  refine ⟨_,rfl,?_⟩
  refine ⟨_,Os rfl,?_⟩
  refine Cm 2 s12 [Ml 2 0,Ml 3 1] [(2,0,[vI 0,vI 0,vI 0,vI 0,.string ⟨#[]⟩]),(3,1,[vI r12,vI e5.rank,vI e5.beat,vI e5.ver,.string e5.data])] fun _ _ => ?_
  refine ⟨_,Od rfl,?_⟩
  refine ⟨_,Os rfl,?_⟩
  exact cxs (Rt ⟨⟨r12,e5.rank,e5.beat,e5.ver,e5.data⟩,rfl,hd,hC12,((hL5.trans hL7).trans hP11.c).trans hL12⟩)
open Classical in
noncomputable def singF (id : Int) (e : Ent) : Sta × Bool := if stateOk ⟨[⟨id,e⟩],[]⟩ then (⟨[⟨id,e⟩],[]⟩,true) else (nilS,false)
theorem sing_ok {id : Int} {e : Ent} {x : Sta} {b : Bool} (h : (x,b) = singF id e) : stateOk x := by
 unfold singF at h
 split at h
 ·injection h with h _; rw [h]; assumption
 ·injection h with h _; rw [h]; exact stateOk_nil
theorem ac_spec_Single (id : Int) (e : Ent) (st : St) (hz : e.data.size ≤ 1048576) : C 75 [vI id,.agg #[vI e.inc,vI e.rank,vI e.beat,vI e.ver,.string e.data]] st (fun v s => ∃ (u : SV) (b : Bool),v = .tuple #[.agg #[vS u.p u.x.items.length,vS u.q u.x.floors.length],vB b] ∧ (u.x,b) = singF id e ∧ OwnP s (pcS u) ∧ NewP st.next (pcS u) ∧ Pres st s) := by
 refine AC.enterX (i := ⟨[3,4,6],[3,4,6],[0,1,3,4,5,6,14],[]⟩) [] Tryd.func75 rfl rfl (by kernel_rfl) (by kernel_rfl) Tryd.ntmps75 (Lb rfl) rfl ?_
 iterate 2 refine ⟨_,rfl,?_⟩
 refine Cm 2 st [(0,vI id),Ml 3 0,Ml 4 1,(5,vB false)] [(3,0,[vI e.inc,vI e.rank,vI e.beat,vI e.ver,.string e.data]),(4,1,[Sn,Sn])] fun _ _ => ?_
 refine ⟨_,Od rfl,?_⟩
 refine ⟨_,rfl,?_⟩
 refine op_one (z := 6) (a := (⟨id,e⟩ : Itm)) (f := cItm) rfl rfl rfl rfl rfl (by decide) rfl (Lb rfl) rfl rfl rfl ?_
 iterate 2 refine ⟨_,rfl,?_⟩
 refine ⟨_,Os rfl,?_⟩
 refine Cm 3 (st.push 6 ([(⟨id,e⟩ : Itm)].flatMap cItm)) [Ml 4 1,(5,vB false),Ml 6 2] [(4,1,[Sn,Sn]),(6,2,[vS (some ⟨st.next,0,none⟩) 1,Sn])] fun _ _ => ?_
 have hO : OwnR (st.push 6 ([(⟨id,e⟩ : Itm)].flatMap cItm)) 6 cItm (some ⟨st.next,0,none⟩) [(⟨id,e⟩ : Itm)] := OwnR.push
 obtain ⟨s1,hs1⟩ : ∃ s,s = st.push 6 ([(⟨id,e⟩ : Itm)].flatMap cItm) := ⟨_,rfl⟩
 have hP1 : Pres st (st.push 6 ([(⟨id,e⟩ : Itm)].flatMap cItm)) := Pres.push
 rw [← hs1] at hO hP1 ⊢
 have hF : Frs st s1 (pcS ⟨some ⟨st.next,0,none⟩,none,⟨[⟨id,e⟩],[]⟩⟩) := ⟨⟨fun d hd => by
  rcases List.mem_cons.1 hd with rfl | hd
  ·exact own_pc hO
  ·rw [List.mem_singleton.1 hd]; exact .inl ⟨rfl,rfl⟩,List.pairwise_pair.2 (Dis.symm Dis.none)⟩,NewP.cons (by intro r hr; injection hr with hr; rw [← hr]; exact Nat.le_refl _) (NewP.cons New.none NewP.nil),hP1⟩
 have hb : bigS ⟨[⟨id,e⟩],[]⟩ := ⟨show 1 ≤ 1048576 by decide,Nat.zero_le _,fun y hy => by rw [List.mem_singleton.1 hy]; exact hz⟩
 refine ⟨_,Od rfl,?_⟩
 refine ⟨_,rfl,(ac_spec_StateOk ⟨some ⟨st.next,0,none⟩,none,⟨[⟨id,e⟩],[]⟩⟩ s1 hF.1.rdS hb).mono ?_⟩
 rintro _ s1 ⟨x13,rfl,h13,rfl⟩
 rcases x13 with _|_
 ·replace h13 := fun k => Bool.false_ne_true (h13.2 k)
  refine ⟨_,rfl,?_⟩
  refine Cm 3 s1 [Ml 4 1,(5,vB false),Ml 6 2,(14,vB true)] [(4,1,[Sn,Sn]),(6,2,[vS (some ⟨st.next,0,none⟩) 1,Sn])] fun _ _ => ?_
  refine ⟨_,rfl,?_⟩
  refine ⟨_,Os rfl,?_⟩
  exact cxs (Rt ⟨⟨none,none,nilS⟩,false,rfl,(if_neg h13).symm,pcS_nil,newS_nil,hP1⟩)
 ·replace h13 := h13.1 rfl
  refine ⟨_,rfl,?_⟩
  refine Cm 3 s1 [Ml 4 1,(5,vB false),Ml 6 2,(14,vB false)] [(4,1,[Sn,Sn]),(6,2,[vS (some ⟨st.next,0,none⟩) 1,Sn])] fun _ _ => ?_
  refine cxs ?_
  refine ⟨_,Od rfl,?_⟩
  refine ⟨_,Os rfl,?_⟩
  exact cxs (Rt ⟨⟨some ⟨st.next,0,none⟩,none,⟨[⟨id,e⟩],[]⟩⟩,true,rfl,(if_pos h13).symm,hF.1,hF.2.1,hP1⟩)
theorem frs_floor1 {a : St} {x : Flr} : Frs a (a.push 2 ([x].flatMap cFlr)) (pcS ⟨none,some ⟨a.next,0,none⟩,⟨[],[x]⟩⟩) := ⟨⟨fun d hd => by
  rcases List.mem_cons.1 hd with rfl | hd
  ·exact .inl ⟨rfl,rfl⟩
  ·rw [List.mem_singleton.1 hd]; exact own_pc OwnR.push,List.pairwise_pair.2 Dis.none⟩,NewP.cons New.none (NewP.cons (by intro r hr; injection hr with hr; rw [← hr]; exact Nat.le_refl _) NewP.nil),Pres.push⟩
theorem ok_floor1 {id inc : Int} (h : 0 ≤ id ∧ id ≤ 4) (k : 1 ≤ inc ∧ inc ≤ 1000) : stateOk ⟨[],[⟨id,inc⟩]⟩ := stateOk_floors fun j x hx => by
 cases j with
 | zero => injection hx with hx; rw [← hx]; exact ⟨h,k,fun y hy => by omega⟩
 | succ j => simp at hx
theorem ac_d_l3Right {p : Option Addr} {bs : List Int} (c : Nat) (st : St) (hc : Cur st c p bs) (hs : bs.length < 1099511627776) : C 59 [vP c 0] st (fun v s => ∃ u : SV,v = .agg #[vS u.p u.x.items.length,vS u.q u.x.floors.length] ∧ stateOk u.x ∧ FrC c st s (pcS u) ∧ Cur s c p bs) := by
 refine AC.enterX (i := ⟨[2,3,6],[2,3,6],[0,2,3,4,5,6,8,9,15,33],[]⟩) [(2012,[],[1]),(12,[2,4,7],[0])] Tryd.func59 rfl rfl (by kernel_rfl) (by kernel_rfl) Tryd.ntmps59 (Lb rfl) rfl ?_
 refine ⟨_,rfl,?_⟩
 refine Cm 1 st [(0,vP c 0),Ml 2 0] [(2,0,[Sn,Sn])] fun _ _ => ?_
 iterate 2 refine ⟨_,rfl,?_⟩
 refine ⟨_,Os rfl,?_⟩
 refine Cm 2 st [(0,vP c 0),Ml 2 0,Ml 3 1] [(2,0,[Sn,Sn]),(3,1,[Sn,Sn])] fun _ _ => ?_
 refine ⟨_,rfl,(ac_d_l1Below c 7 st hc (by first | assumption | omega)).mono ?_⟩
 rintro _ s12 ⟨r12,rfl,h12,h12',h12'',hC12,hL12⟩
 refine cxs ?_
 refine Cm 2 s12 [(0,vP c 0),Ml 2 0,Ml 3 1,(4,vI r12),(5,vI 0)] [(2,0,[Sn,Sn]),(3,1,[Sn,Sn])] fun _ _ => ?_
 refine AW.loopM (fun x : Nat × SV => [(0,vP c 0),(2,vL 2 0 (0)),(3,vL 3 0 (1)),(4,vI r12),(5,vI (x.1 : Int))]) (fun x : Nat × SV => [(2,0,[.slice none 0 0,.slice none 0 0]),(3,1,[vS x.2.p x.2.x.items.length,vS x.2.q x.2.x.floors.length])]) (fun m (x : Nat × SV) st' => m = r12.toNat - x.1 ∧ (x.1 : Int) ≤ r12 ∧ stateOk x.2.x ∧ FrC c st st' (pcS x.2) ∧ Cur st' c p bs) (0,⟨none,none,nilS⟩) _ ⟨rfl,rfl,rfl,rfl,rfl,trivial⟩ ⟨rfl,rfl,trivial⟩ ⟨rfl,h12,stateOk_nil,(Frs.nlS.toC hC12.lt).sooner hL12 hc.lt,hC12⟩ ?_
 rintro m ⟨i,u⟩ ρ0 ff gg st' ⟨rfl,hi,hk,hF,hC⟩
 simp only at hi hk hF
 refine ⟨_,rfl,?_⟩
 rintro (_|_) h15
 ·replace h15 : ¬ ((i : Int) < r12) := of_decide_eq_false h15
  refine Cm gg st' [(0,vP c 0),Ml 2 0,Ml 3 1,(4,vI r12),(5,vI (i : Int)),(15,vB false)] [(2,0,[Sn,Sn]),(3,1,cSV u)] fun _ _ => ?_
  refine cxs ?_
  refine ⟨_,rfl,(ac_d_l1Below c 3 st' hC (by first | assumption | omega)).mono ?_⟩
  rintro _ s30 ⟨r30,rfl,h30,h30',h30'',hC30,hL30⟩
  refine cxs ?_
  have hF30 := hF.later hL30
  refine Cm gg s30 [(0,vP c 0),Ml 2 0,Ml 3 1,(8,vI r30),(9,vI 0)] [(2,0,[Sn,Sn]),(3,1,cSV u)] fun _ _ => ?_
  refine AW.loopM (fun x : Nat × SV => [(0,vP c 0),(2,vL 2 0 (0)),(3,vL 3 0 (1)),(8,vI r30),(9,vI (x.1 : Int))]) (fun x : Nat × SV => [(2,0,[.slice none 0 0,.slice none 0 0]),(3,1,[vS x.2.p x.2.x.items.length,vS x.2.q x.2.x.floors.length])]) (fun m (x : Nat × SV) st' => m = r30.toNat - x.1 ∧ (x.1 : Int) ≤ r30 ∧ stateOk x.2.x ∧ FrC c st st' (pcS x.2) ∧ Cur st' c p bs) (0,u) _ ⟨rfl,rfl,rfl,rfl,rfl,trivial⟩ ⟨rfl,rfl,trivial⟩ ⟨rfl,h30,hk,hF30,hC30⟩ ?_
  rintro m ⟨i,u⟩ ρ0 ff gg st' ⟨rfl,hi,hk,hF,hC⟩
  simp only at hi hk hF
  refine ⟨_,rfl,?_⟩
  rintro (_|_) h33
  ·replace h33 : ¬ ((i : Int) < r30) := of_decide_eq_false h33
   refine Cm gg st' [(0,vP c 0),Ml 2 0,Ml 3 1,(8,vI r30),(9,vI (i : Int)),(33,vB false)] [(2,0,[Sn,Sn]),(3,1,cSV u)] fun _ _ => ?_
   refine cxs ?_
   refine ⟨_,Od rfl,?_⟩
   refine ⟨_,Os rfl,?_⟩
   exact cxs (Rt ⟨u,rfl,hk,hF,hC⟩)
  ·replace h33 : (i : Int) < r30 := of_decide_eq_true h33
   refine Cm gg st' [(0,vP c 0),Ml 2 0,Ml 3 1,(8,vI r30),(9,vI (i : Int)),(33,vB true)] [(2,0,[Sn,Sn]),(3,1,cSV u)] fun _ _ => ?_
   refine cxs ?_
   refine ⟨fun _ => False,?_⟩
   refine ⟨_,Od rfl,?_⟩
   refine ⟨ld_own rfl rfl rfl,?_⟩
   refine ⟨_,rfl,(ac_d_l1Below c 5 st' hC (by first | assumption | omega)).mono ?_⟩
   rintro _ s38 ⟨r38,rfl,h38,h38',h38'',hC38,hL38⟩
   refine ⟨fun _ h => h.elim,?_⟩
   refine ⟨_,rfl,(ac_d_l1Below c 2 s38 hC38 (by first | assumption | omega)).mono ?_⟩
   rintro _ s40 ⟨r40,rfl,h40,h40',h40'',hC40,hL40⟩
   refine ⟨fun _ h => h.elim,?_⟩
   have ew41 : IntKind.wrap .i64 ((1) + r40) = (1) + r40 := wrap_i64 (by omega) (by omega)
   iterate 2 refine ⟨_,rfl,?_⟩
   refine op_one (z := 2) (a := ((⟨r38,IntKind.wrap .i64 (1 + r40)⟩ : Flr) : Flr)) (f := cFlr) rfl rfl rfl rfl rfl (by decide) rfl (Lb rfl) rfl rfl rfl ?_
   refine ⟨fun _ h => h.elim,?_⟩
   refine ⟨_,rfl,?_⟩
   have hF40 := (hF.later hL38).later hL40
   have hP43 : Pres s40 (s40.push 2 ([(⟨r38,IntKind.wrap .i64 (1 + r40)⟩ : Flr)].flatMap cFlr)) := Pres.push
   have hF43 : Frs s40 (s40.push 2 ([(⟨r38,IntKind.wrap .i64 (1 + r40)⟩ : Flr)].flatMap cFlr)) (pcS ⟨none,some ⟨s40.next,0,none⟩,⟨[],[⟨r38,IntKind.wrap .i64 (1 + r40)⟩]⟩⟩) := frs_floor1
   have hR43 := (hF40.step hP43).1.rdS
   have hC43 := hC40.pres hP43
   have hk43 : stateOk ⟨[],[⟨r38,IntKind.wrap .i64 (1 + r40)⟩]⟩ := ok_floor1 (by omega) (by omega)
   refine ⟨_,rfl,(ac_spec_l3Join u ⟨none,some ⟨s40.next,0,none⟩,⟨[],[⟨r38,IntKind.wrap .i64 (1 + r40)⟩]⟩⟩ (s40.push 2 ([(⟨r38,IntKind.wrap .i64 (1 + r40)⟩ : Flr)].flatMap cFlr)) hR43 hF43.1.rdS (big_ok hk) (big_ok hk43) hk hk43).mono ?_⟩
   rintro _ s45 ⟨u45,rfl,h45,hO45,hN45,hP45⟩
   refine ⟨_,Os rfl,?_⟩
   refine Cm gg s45 [(0,vP c 0),Ml 2 0,Ml 3 1,(8,vI r30),(9,vI (i : Int)),(33,vB true)] [(2,0,[Sn,Sn]),(3,1,cSV u45)] fun _ _ => ?_
   have hF45 : FrC c st s45 (pcS u45) := (Frs.toC ⟨hO45,hN45,hP45⟩ (hF40.step hP43).lt).sooner (hF40.step hP43).2.2.1 hc.lt
   have ew35 : IntKind.wrap .i64 ((i : Int) + (1)) = ((i + 1 : Nat) : Int) := (wrap_i64 (by omega) (by omega)).trans (by omega)
   refine ⟨_,rfl,?_⟩
   exact ⟨(i + 1,u45),r30.toNat - (i + 1),by omega,⟨rfl,rfl,rfl,rfl,congrArg (Value.int .i64) ew35,trivial⟩,⟨rfl,rfl,trivial⟩,rfl,by simp only; omega,by rw [h45]; exact stateOk_join hk hk43,hF45,hC43.pres hP45⟩
 ·replace h15 : (i : Int) < r12 := of_decide_eq_true h15
  refine Cm gg st' [(0,vP c 0),Ml 2 0,Ml 3 1,(4,vI r12),(5,vI (i : Int)),(15,vB true)] [(2,0,[Sn,Sn]),(3,1,cSV u)] fun _ _ => ?_
  refine cxs ?_
  refine ⟨_,rfl,(ac_d_l1Below c 5 st' hC (by first | assumption | omega)).mono ?_⟩
  rintro _ s20 ⟨r20,rfl,h20,h20',h20'',hC20,hL20⟩
  refine ⟨_,rfl,(ac_d_l2Right c s20 hC20 (by first | assumption | omega)).mono ?_⟩
  rintro _ s22 ⟨e22,rfl,h22,hC22,hL22⟩
  refine ⟨_,rfl,(ac_spec_Single r20 e22 s22 (Nat.le_trans h22.2.2.2.2 (by decide))).mono ?_⟩
  rintro _ s23 ⟨u23,b23,rfl,h23,hO23,hN23,hP23⟩
  iterate 3 refine ⟨_,rfl,?_⟩
  refine ⟨_,Os rfl,?_⟩
  refine Cm (gg + 1) s23 [(0,vP c 0),Ml 2 0,Ml 3 1,(4,vI r12),(5,vI (i : Int)),Ml 6 gg,(15,vB true)] [(2,0,[Sn,Sn]),(3,1,cSV u),(6,gg,cSV u23)] fun _ _ => ?_
  have hF22 := (hF.later hL20).later hL22
  have hF23 : FrC c st s23 (pcS u23) := (Frs.toC ⟨hO23,hN23,hP23⟩ hF22.lt).sooner hF22.2.2.1 hc.lt
  have hR23 : RdS s23 u := (hF22.step hP23).1.rdS
  have hC23 := hC22.pres hP23
  have hk23 := sing_ok h23
  have hbu := big_ok hk
  have hbv := big_ok hk23
  refine ⟨_,Od rfl,?_⟩
  refine ⟨_,Od rfl,?_⟩
  refine ⟨_,rfl,(ac_spec_l3Join u u23 s23 hR23 hF23.1.rdS (by first | assumption | omega) (by first | assumption | omega) (by first | assumption | omega) (by first | assumption | omega)).mono ?_⟩
  rintro _ s28 ⟨u28,rfl,h28,hO28,hN28,hP28⟩
  refine ⟨_,Os rfl,?_⟩
  refine Cm (gg + 1) s28 [(0,vP c 0),Ml 2 0,Ml 3 1,(4,vI r12),(5,vI (i : Int)),Ml 6 gg,(15,vB true)] [(2,0,[Sn,Sn]),(3,1,cSV u28),(6,gg,cSV u23)] fun _ _ => ?_
  have ew17 : IntKind.wrap .i64 ((i : Int) + (1)) = ((i + 1 : Nat) : Int) := (wrap_i64 (by omega) (by omega)).trans (by omega)
  refine ⟨_,rfl,?_⟩
  exact ⟨(i + 1,u28),r12.toNat - (i + 1),by omega,⟨rfl,rfl,rfl,rfl,congrArg (Value.int .i64) ew17,trivial⟩,⟨rfl,rfl,trivial⟩,rfl,by simp only; omega,by rw [h28]; exact stateOk_join hk hk23,(Frs.toC ⟨hO28,hN28,hP28⟩ hF23.lt).sooner hF23.2.2.1 hc.lt,hC23.pres hP28⟩
theorem smS.snocI {n : Nat} {x : Sta} {y : Itm} (h : smS n x) (hy : y.e.data.size ≤ 9) : smS (n + 1) ⟨x.items ++ [y],x.floors⟩ := ⟨by rw [List.length_append]; exact Nat.succ_le_succ h.i,Nat.le_succ_of_le h.f,fun z hz => by
 rcases List.mem_append.1 hz with hz | hz
 ·exact h.d z hz
 ·rw [List.mem_singleton.1 hz]; exact hy⟩
theorem smS.snocF {n : Nat} {x : Sta} {y : Flr} (h : smS n x) : smS (n + 1) ⟨x.items,x.floors ++ [y]⟩ := ⟨Nat.le_succ_of_le h.i,by rw [List.length_append]; exact Nat.succ_le_succ h.f,h.d⟩
theorem smS.setI {n i : Nat} {x : Sta} {y : Itm} (h : smS n x) (hy : y.e.data.size ≤ 9) : smS (n + 1) ⟨x.items.set i y,x.floors⟩ := ⟨by rw [List.length_set]; exact Nat.le_succ_of_le h.i,Nat.le_succ_of_le h.f,fun z hz => by
 rcases List.mem_or_eq_of_mem_set hz with hz | rfl
 ·exact h.d z hz
 ·exact hy⟩
theorem ac_d_l3Draw {p : Option Addr} {bs : List Int} (c : Nat) (st : St) (hc : Cur st c p bs) (hs : bs.length < 1099511627776) : C 34 [vP c 0] st (fun v s => ∃ u : SV,v = .agg #[vS u.p u.x.items.length,vS u.q u.x.floors.length] ∧ smS 6 u.x ∧ FrC c st s (pcS u) ∧ Cur s c p bs) := by
 refine AC.enterX (i := ⟨[2,3],[2,3,10,20,23,34,37,41,44,54,58,60],[0,2,3,7,8,21,35,40,52,57],[]⟩) [(2004,[],[1]),(2006,[],[1]),(2009,[],[1]),(4,[3,6,8],[1]),(6,[3,6,7,9],[1]),(9,[6,8],[1]),(12,[],[])] Tryd.func34 rfl rfl (by kernel_rfl) (by kernel_rfl) Tryd.ntmps34 (Lb rfl) rfl ?_
 refine ⟨_,rfl,?_⟩
 refine Cm 1 st [(0,vP c 0),Ml 2 0] [(2,0,[Sn,Sn])] fun _ _ => ?_
 refine ⟨_,rfl,(ac_d_l3Right c st hc (by first | assumption | omega)).mono ?_⟩
 rintro _ s5 ⟨u5,rfl,h5,hF5,hC5⟩
 refine ⟨_,rfl,?_⟩
 refine ⟨_,Os rfl,?_⟩
 refine Cm 2 s5 [(0,vP c 0),Ml 2 0,Ml 3 1] [(2,0,[Sn,Sn]),(3,1,cSV u5)] fun _ _ => ?_
 have hsm := sm_ok h5
 have hNi : New st.next u5.p := hF5.2.1 _ (List.mem_cons_self ..)
 have hNf : New st.next u5.q := hF5.2.1 _ (List.mem_cons_of_mem _ (List.mem_cons_self ..))
 refine ⟨_,rfl,(ac_d_l1Below c 14 s5 hC5 (by first | assumption | omega)).mono ?_⟩
 rintro _ s7 ⟨r7,rfl,h7,h7',h7'',hC7,hL7⟩
 refine Cm 2 s7 [(0,vP c 0),Ml 2 0,Ml 3 1,(7,vI r7)] [(2,0,[Sn,Sn]),(3,1,cSV u5)] fun _ _ => ?_
 have hF7 := hF5.later hL7
 have hR7 := hF7.1.rdS
 refine ⟨_,rfl,?_⟩
 rintro (_|_) h9
 ·replace h9 : ¬ (r7 = (0)) := beq_eq_false_iff_ne.1 h9
  refine Cm 2 s7 [(0,vP c 0),Ml 2 0,Ml 3 1,(7,vI r7),(8,vB false)] [(2,0,[Sn,Sn]),(3,1,cSV u5)] fun _ _ => ?_
  refine ⟨_,rfl,?_⟩
  rintro (_|_) h22
  ·replace h22 : ¬ (r7 = (1)) := beq_eq_false_iff_ne.1 h22
   refine Cm 2 s7 [(0,vP c 0),Ml 2 0,Ml 3 1,(7,vI r7),(21,vB false)] [(2,0,[Sn,Sn]),(3,1,cSV u5)] fun _ _ => ?_
   refine ⟨_,rfl,?_⟩
   rintro (_|_) h36
   ·replace h36 : ¬ (r7 = (2)) := beq_eq_false_iff_ne.1 h36
    refine Cm 2 s7 [(0,vP c 0),Ml 2 0,Ml 3 1,(7,vI r7),(35,vB false)] [(2,0,[Sn,Sn]),(3,1,cSV u5)] fun _ _ => ?_
    refine ⟨_,rfl,?_⟩
    rintro (_|_) h53
    ·replace h53 : ¬ (r7 = (3)) := beq_eq_false_iff_ne.1 h53
     refine Cm 2 s7 [Ml 2 0,Ml 3 1,(52,vB false)] [(2,0,[Sn,Sn]),(3,1,cSV u5)] fun _ _ => ?_
     refine cxs ?_
     refine ⟨_,Od rfl,?_⟩
     refine ⟨_,Os rfl,?_⟩
     exact cxs (Rt ⟨u5,rfl,hsm.le (by decide),hF7,hC7⟩)
    ·replace h53 : r7 = (3) := beq_iff_eq.1 h53
     refine Cm 2 s7 [Ml 2 0,Ml 3 1,(52,vB true)] [(2,0,[Sn,Sn]),(3,1,cSV u5)] fun _ _ => ?_
     refine ⟨_,rfl,?_⟩
     refine ⟨_,Od rfl,?_⟩
     iterate 2 refine ⟨_,rfl,?_⟩
     rintro (_|_) h57
     ·replace h57 : ¬ ((u5.x.items.length : Int) > (1)) := of_decide_eq_false h57
      refine Cm 2 s7 [Ml 2 0,Ml 3 1,(57,vB false)] [(2,0,[Sn,Sn]),(3,1,cSV u5)] fun _ _ => ?_
      refine cxs ?_
      refine ⟨_,Od rfl,?_⟩
      refine ⟨_,Os rfl,?_⟩
      exact cxs (Rt ⟨u5,rfl,hsm.le (by decide),hF7,hC7⟩)
     ·replace h57 : (u5.x.items.length : Int) > (1) := of_decide_eq_true h57
      refine Cm 2 s7 [Ml 2 0,Ml 3 1,(57,vB true)] [(2,0,[Sn,Sn]),(3,1,cSV u5)] fun _ _ => ?_
      refine ⟨_,rfl,?_⟩
      refine ⟨_,Od rfl,?_⟩
      refine ⟨_,rfl,?_⟩
      refine ⟨_,Od rfl,?_⟩
      refine op_at 1 hR7.1 (by omega) rfl rfl rfl rfl rfl rfl rfl ?_
      intro x62 b62 d62 k62 hy62 hb62 hm62 hc62 ho62
      refine ⟨_,op_lda rfl rfl rfl rfl rfl hm62 hc62 rfl,?_⟩
      have hO7 : OwnR s7 6 cItm u5.p u5.x.items := hF7.1.items
      obtain ⟨a,ha⟩ := hO7.some (by omega)
      have hd62 : x62.e.data.size ≤ 9 := hsm.d _ (List.mem_of_getElem? hy62)
      refine ⟨_,op_idx (j := 0) (n := u5.x.items.length) (q := ⟨a,0,none⟩) rfl (congrArg (fun v => vS v u5.x.items.length) ha) rfl rfl rfl (Int.le_refl 0) (by omega),?_⟩
      refine op_put (st := s7) (f := cItm) (j := 0) (l := u5.x.items) (y := x62) (p := u5.p) (d := 0 + (0 : Int).toNat * 6) rfl rfl rfl rfl rfl len_cItm rfl rfl (by omega) hO7 ha ?_
      intro s64 hO64 hP64 hn64
      refine Cm 2 s64 [Ml 2 0,Ml 3 1] [(2,0,[Sn,Sn]),(3,1,cSV u5)] fun _ _ => ?_
      refine ⟨_,Od rfl,?_⟩
      refine ⟨_,Os rfl,?_⟩
      refine cxs ?_
      have hF64 := hF7.setItems hP64 hO64
      exact Rt ⟨⟨u5.p,u5.q,⟨u5.x.items.set 0 x62,u5.x.floors⟩⟩,congrArg (fun n => Value.agg #[vS u5.p n,vS u5.q u5.x.floors.length]) List.length_set.symm,hsm.setI hd62,hF64.1,hC7.thenNew hc hF7.2.2.1 hP64 hNi⟩
   ·replace h36 : r7 = (2) := beq_iff_eq.1 h36
    refine Cm 2 s7 [(0,vP c 0),Ml 2 0,Ml 3 1,(7,vI r7),(35,vB true)] [(2,0,[Sn,Sn]),(3,1,cSV u5)] fun _ _ => ?_
    refine ⟨_,rfl,?_⟩
    refine ⟨_,Od rfl,?_⟩
    iterate 2 refine ⟨_,rfl,?_⟩
    rintro (_|_) h40
    ·replace h40 : ¬ ((u5.x.items.length : Int) > (0)) := of_decide_eq_false h40
     refine Cm 2 s7 [(0,vP c 0),Ml 2 0,Ml 3 1,(40,vB false)] [(2,0,[Sn,Sn]),(3,1,cSV u5)] fun _ _ => ?_
     refine cxs ?_
     refine ⟨_,Od rfl,?_⟩
     refine ⟨_,Os rfl,?_⟩
     exact cxs (Rt ⟨u5,rfl,hsm.le (by decide),hF7,hC7⟩)
    ·replace h40 : (u5.x.items.length : Int) > (0) := of_decide_eq_true h40
     refine Cm 2 s7 [(0,vP c 0),Ml 2 0,Ml 3 1,(40,vB true)] [(2,0,[Sn,Sn]),(3,1,cSV u5)] fun _ _ => ?_
     refine ⟨fun _ => False,?_⟩
     refine ⟨_,rfl,?_⟩
     refine ⟨_,Od rfl,?_⟩
     refine ⟨ld_own rfl rfl rfl,?_⟩
     refine ⟨_,rfl,?_⟩
     refine ⟨_,Od rfl,?_⟩
     refine ⟨_,rfl,?_⟩
     refine ⟨_,rfl,(ac_d_l1Below c (u5.x.items.length : Int) s7 hC7 (by first | assumption | omega)).mono ?_⟩
     rintro _ s47 ⟨r47,rfl,h47,h47',h47'',hC47,hL47⟩
     refine ⟨fun _ h => h.elim,?_⟩
     refine ⟨_,rfl,(ac_d_l2Draw c s47 hC47 (by first | assumption | omega)).mono ?_⟩
     rintro _ s49 ⟨e49,rfl,h49,hC49,hL49⟩
     refine ⟨fun _ h => h.elim,?_⟩
     have hF49 := (hF7.later hL47).later hL49
     have hO49 : OwnR s49 6 cItm u5.p u5.x.items := hF49.1.items
     have h47l := h47' (by omega)
     obtain ⟨a,ha⟩ := hO49.some (by omega)
     obtain ⟨w,hw⟩ : ∃ w,u5.x.items[r47.toNat]? = some w := ⟨_,List.getElem?_eq_getElem (by omega)⟩
     refine ⟨_,op_idx (j := r47) (n := u5.x.items.length) (q := ⟨a,0,none⟩) rfl (congrArg (fun v => vS v u5.x.items.length) ha) rfl rfl rfl h47 (by omega),?_⟩
     refine ⟨_,rfl,?_⟩
     refine op_putw (st := s49) (f := cItm) (z := 6) (i := 1) (j := r47.toNat) (l := u5.x.items) (w := w) (y := (⟨w.id,e49⟩ : Itm)) (ws := cEnt e49) (p := u5.p) (d := 0 + r47.toNat * 6 + 1) rfl rfl (congrArg (· + 1) (Nat.zero_add _)) rfl rfl len_cItm rfl rfl hw ⟨[vI w.id],cEnt w.e,[],rfl,rfl,rfl,rfl⟩ hO49 ha ?_
     intro s51 hO51 hP51 hn51
     refine Cm 2 s51 [Ml 2 0,Ml 3 1] [(2,0,[Sn,Sn]),(3,1,cSV u5)] fun _ _ => ?_
     refine ⟨_,Od rfl,?_⟩
     refine ⟨_,Os rfl,?_⟩
     refine cxs ?_
     have hF51 := hF49.setItems hP51 hO51
     exact Rt ⟨⟨u5.p,u5.q,⟨u5.x.items.set r47.toNat ⟨w.id,e49⟩,u5.x.floors⟩⟩,congrArg (fun n => Value.agg #[vS u5.p n,vS u5.q u5.x.floors.length]) List.length_set.symm,hsm.setI h49,hF51.1,hC49.thenNew hc hF49.2.2.1 hP51 hNi⟩
  ·replace h22 : r7 = (1) := beq_iff_eq.1 h22
   refine Cm 2 s7 [(0,vP c 0),Ml 2 0,Ml 3 1,(7,vI r7),(21,vB true)] [(2,0,[Sn,Sn]),(3,1,cSV u5)] fun _ _ => ?_
   refine ⟨fun _ => False,?_⟩
   refine ⟨_,rfl,?_⟩
   refine ⟨_,Od rfl,?_⟩
   refine ⟨ld_own rfl rfl rfl,?_⟩
   refine ⟨_,rfl,(ac_d_l1Below c 7 s7 hC7 (by first | assumption | omega)).mono ?_⟩
   rintro _ s26 ⟨r26,rfl,h26,h26',h26'',hC26,hL26⟩
   refine ⟨fun _ h => h.elim,?_⟩
   have ew27 : IntKind.wrap .i64 (r26 - (1)) = r26 - (1) := wrap_i64 (by omega) (by omega)
   refine ⟨_,rfl,?_⟩
   refine op_litI (k := .i64) (l := [0,1,5,1001]) rfl rfl rfl rfl rfl rfl (Lb rfl) ?_
   intro q29 s29 hO29 hP29 hN29
   refine ⟨fun _ h => h.elim,?_⟩
   refine ⟨_,rfl,(ac_d_l1PickInt c q29 ([0,1,5,1001]) s29 (hC26.pres hP29) (by first | assumption | omega) (by first | assumption | omega | decide) (by first | assumption | omega) (by first | assumption | exact NC.new (by assumption) (Cur.lt (by assumption)))).mono ?_⟩
   rintro _ s30 ⟨r30,rfl,h30,hC30,hL30⟩
   refine ⟨fun _ h => h.elim,?_⟩
   refine ⟨_,rfl,?_⟩
   refine op_one (z := 2) (a := ((⟨IntKind.wrap .i64 (r26 - 1),r30⟩ : Flr) : Flr)) (f := cFlr) rfl rfl rfl rfl rfl (by decide) rfl (Lb rfl) rfl rfl rfl ?_
   refine ⟨fun _ h => h.elim,?_⟩
   have hF30 := ((hF7.later hL26).step hP29).later hL30
   have hO30 : OwnR s30 2 cFlr u5.q u5.x.floors := hF30.1.floors
   have hfl : u5.x.floors.length ≤ 5 := hsm.f
   refine op_snoc (z := 2) (st := s30) (f := cFlr) (b := 16) (l := u5.x.floors) (x := (⟨IntKind.wrap .i64 (r26 - 1),r30⟩ : Flr)) rfl rfl rfl rfl rfl rfl rfl (by decide) len_cFlr rfl rfl rfl (by omega) (by unfold maxLen; omega) hO30 ?_
   intro q33 s33 hO33 hP33 hN33
   refine ⟨_,rfl,?_⟩
   refine ⟨_,Os rfl,?_⟩
   refine Cm 2 s33 [Ml 2 0,Ml 3 1] [(2,0,[Sn,Sn]),(3,1,[vS u5.p u5.x.items.length,vS q33 (u5.x.floors ++ [(⟨IntKind.wrap .i64 (r26 - 1),r30⟩ : Flr)]).length])] fun _ _ => ?_
   refine ⟨_,Od rfl,?_⟩
   refine ⟨_,Os rfl,?_⟩
   refine cxs ?_
   have hF33 := hF30.floors hP33 hO33 hN33
   exact Rt ⟨_,rfl,hsm.snocF,hF33.1,hC30.thenNew hc hF30.2.2.1 hP33 hNf⟩
 ·replace h9 : r7 = (0) := beq_iff_eq.1 h9
  refine Cm 2 s7 [(0,vP c 0),Ml 2 0,Ml 3 1,(7,vI r7),(8,vB true)] [(2,0,[Sn,Sn]),(3,1,cSV u5)] fun _ _ => ?_
  refine ⟨fun _ => False,?_⟩
  refine ⟨_,rfl,?_⟩
  refine ⟨_,Od rfl,?_⟩
  refine ⟨ld_own rfl rfl rfl,?_⟩
  refine ⟨_,rfl,(ac_d_l1Below c 7 s7 hC7 (by first | assumption | omega)).mono ?_⟩
  rintro _ s13 ⟨r13,rfl,h13,h13',h13'',hC13,hL13⟩
  refine ⟨fun _ h => h.elim,?_⟩
  have ew14 : IntKind.wrap .i64 (r13 - (1)) = r13 - (1) := wrap_i64 (by omega) (by omega)
  refine ⟨_,rfl,?_⟩
  refine ⟨_,rfl,(ac_d_l2Draw c s13 hC13 (by first | assumption | omega)).mono ?_⟩
  rintro _ s16 ⟨e16,rfl,h16,hC16,hL16⟩
  refine ⟨fun _ h => h.elim,?_⟩
  refine ⟨_,rfl,?_⟩
  refine op_one (z := 6) (a := ((⟨IntKind.wrap .i64 (r13 - 1),e16⟩ : Itm) : Itm)) (f := cItm) rfl rfl rfl rfl rfl (by decide) rfl (Lb rfl) rfl rfl rfl ?_
  refine ⟨fun _ h => h.elim,?_⟩
  have hF16 := (hF7.later hL13).later hL16
  have hO16 : OwnR s16 6 cItm u5.p u5.x.items := hF16.1.items
  have hil : u5.x.items.length ≤ 5 := hsm.i
  refine op_snoc (z := 6) (st := s16) (f := cItm) (b := 56) (l := u5.x.items) (x := (⟨IntKind.wrap .i64 (r13 - 1),e16⟩ : Itm)) rfl rfl rfl rfl rfl rfl rfl (by decide) len_cItm rfl rfl rfl (by omega) (by unfold maxLen; omega) hO16 ?_
  intro q19 s19 hO19 hP19 hN19
  refine ⟨_,rfl,?_⟩
  refine ⟨_,Os rfl,?_⟩
  refine Cm 2 s19 [Ml 2 0,Ml 3 1] [(2,0,[Sn,Sn]),(3,1,[vS q19 (u5.x.items ++ [(⟨IntKind.wrap .i64 (r13 - 1),e16⟩ : Itm)]).length,vS u5.q u5.x.floors.length])] fun _ _ => ?_
  refine ⟨_,Od rfl,?_⟩
  refine ⟨_,Os rfl,?_⟩
  refine cxs ?_
  have hF19 := hF16.items hP19 hO19 hN19
  exact Rt ⟨_,rfl,hsm.snocI h16,hF19.1,hC16.thenNew hc hF16.2.2.1 hP19 hNi⟩
theorem ac_spec_l3Two (p : Option Addr) (bs : List Int) (st : St) (hI : Ints st .u8 p bs) (hs : bs.length < 1099511627776) : C 24 [vS p bs.length] st (fun v s => ∃ (u w : SV),v = .tuple #[.agg #[vS u.p u.x.items.length,vS u.q u.x.floors.length],.agg #[vS w.p w.x.items.length,vS w.q w.x.floors.length]] ∧ smS 6 u.x ∧ smS 6 w.x ∧ Frs st s (pcS u ++ pcS w)) := by
 refine AC.enterX (i := ⟨[2,3,5,6],[2,3,5,6],[0,2,3,4,5,6,14,15,19,26],[]⟩) [(10,[2],[1]),(1010,[],[6])] Tryd.func24 rfl rfl (by kernel_rfl) (by kernel_rfl) Tryd.ntmps24 (Lb rfl) rfl ?_
 iterate 2 refine ⟨_,rfl,?_⟩
 refine Cm 2 st [(0,vS p bs.length),Ml 2 0,Ml 3 1] [(2,0,[Sn,Sn]),(3,1,[Sn,Sn])] fun _ _ => ?_
 refine ⟨_,rfl,(ac_spec_l1New p bs st hI (by first | assumption | omega)).mono ?_⟩
 rintro _ s8 ⟨rfl,hC8,hP8,h8⟩
 refine Cm 2 s8 [Ml 2 0,Ml 3 1,(4,vP st.next 0)] [(2,0,[Sn,Sn]),(3,1,[Sn,Sn])] fun _ _ => ?_
 refine ⟨_,rfl,(ac_d_l3Draw st.next s8 hC8 (by first | assumption | omega)).mono ?_⟩
 rintro _ s10 ⟨u10,rfl,h10,hF10,hC10⟩
 refine ⟨_,rfl,?_⟩
 refine ⟨_,Os rfl,?_⟩
 refine Cm 3 s10 [Ml 2 0,Ml 3 1,(4,vP st.next 0),Ml 5 2] [(2,0,[Sn,Sn]),(3,1,[Sn,Sn]),(5,2,cSV u10)] fun _ _ => ?_
 refine ⟨_,rfl,(ac_d_l3Draw st.next s10 hC10 (by first | assumption | omega)).mono ?_⟩
 rintro _ s12 ⟨u12,rfl,h12,hF12,hC12⟩
 refine ⟨_,rfl,?_⟩
 refine ⟨_,Os rfl,?_⟩
 refine Cm 4 s12 [Ml 2 0,Ml 3 1,(4,vP st.next 0),Ml 5 2,Ml 6 3] [(2,0,[Sn,Sn]),(3,1,[Sn,Sn]),(5,2,cSV u10),(6,3,cSV u12)] fun _ _ => ?_
 refine ⟨_,rfl,(ac_d_l1Below st.next 5 s12 hC12 (by first | assumption | omega)).mono ?_⟩
 rintro _ s14 ⟨r14,rfl,h14,h14',h14'',hC14,hL14⟩
 refine Cm 4 s14 [Ml 2 0,Ml 3 1,Ml 5 2,Ml 6 3,(14,vI r14)] [(2,0,[Sn,Sn]),(3,1,[Sn,Sn]),(5,2,cSV u10),(6,3,cSV u12)] fun _ _ => ?_
 have hFa := (hF10.join hF12).later hL14
 have hb10 := h10.big (by decide)
 have hb12 := h12.big (by decide)
 refine ⟨_,rfl,?_⟩
 rintro (_|_) h16
 ·replace h16 : ¬ (r14 = (0)) := beq_eq_false_iff_ne.1 h16
  refine Cm 4 s14 [Ml 2 0,Ml 3 1,Ml 5 2,Ml 6 3,(14,vI r14),(15,vB false)] [(2,0,[Sn,Sn]),(3,1,[Sn,Sn]),(5,2,cSV u10),(6,3,cSV u12)] fun _ _ => ?_
  refine ⟨_,rfl,?_⟩
  rintro (_|_) h20
  ·replace h20 : ¬ (r14 = (1)) := beq_eq_false_iff_ne.1 h20
   refine Cm 4 s14 [Ml 2 0,Ml 3 1,Ml 5 2,Ml 6 3,(19,vB false)] [(2,0,[Sn,Sn]),(3,1,[Sn,Sn]),(5,2,cSV u10),(6,3,cSV u12)] fun _ _ => ?_
   refine cxs ?_
   refine ⟨_,Od rfl,?_⟩
   refine ⟨_,Od rfl,?_⟩
   refine ⟨ld_own rfl rfl rfl,?_⟩
   refine ⟨_,Os rfl,?_⟩
   refine ⟨sx_cons ⟨_,_,_,rfl,rfl,rfl,by decide⟩ (sx_nil),?_⟩
   refine ⟨_,Os rfl,?_⟩
   exact cxs (Rt ⟨u10,u12,rfl,h10,h12,hFa.out hP8⟩)
  ·replace h20 : r14 = (1) := beq_iff_eq.1 h20
   refine Cm 4 s14 [Ml 2 0,Ml 3 1,Ml 5 2,Ml 6 3,(19,vB true)] [(2,0,[Sn,Sn]),(3,1,[Sn,Sn]),(5,2,cSV u10),(6,3,cSV u12)] fun _ _ => ?_
   refine ⟨_,Od rfl,?_⟩
   refine ⟨_,rfl,(ac_spec_StateOk u10 s14 hFa.left.1.rdS (by first | assumption | omega)).mono ?_⟩
   rintro _ s14 ⟨x22,rfl,h22,rfl⟩
   rcases x22 with _|_
   ·replace h22 := fun k => Bool.false_ne_true (h22.2 k)
    refine ⟨_,rfl,?_⟩
    refine Cm 4 s14 [Ml 2 0,Ml 3 1,Ml 5 2,Ml 6 3,(26,vB false)] [(2,0,[Sn,Sn]),(3,1,[Sn,Sn]),(5,2,cSV u10),(6,3,cSV u12)] fun _ _ => ?_
    refine cxs ?_
    refine ⟨_,Od rfl,?_⟩
    refine ⟨_,Od rfl,?_⟩
    refine ⟨ld_own rfl rfl rfl,?_⟩
    refine ⟨_,Os rfl,?_⟩
    refine ⟨sx_cons ⟨_,_,_,rfl,rfl,rfl,by decide⟩ (sx_nil),?_⟩
    refine ⟨_,Os rfl,?_⟩
    exact cxs (Rt ⟨u10,u12,rfl,h10,h12,hFa.out hP8⟩)
   ·replace h22 := h22.1 rfl
    refine ⟨_,Od rfl,?_⟩
    refine ⟨_,rfl,(ac_spec_StateOk u12 s14 hFa.right.1.rdS (by first | assumption | omega)).mono ?_⟩
    rintro _ s14 ⟨x25,rfl,h25,rfl⟩
    rcases x25 with _|_
    ·replace h25 := fun k => Bool.false_ne_true (h25.2 k)
     refine ⟨_,rfl,?_⟩
     refine Cm 4 s14 [Ml 2 0,Ml 3 1,Ml 5 2,Ml 6 3,(26,vB false)] [(2,0,[Sn,Sn]),(3,1,[Sn,Sn]),(5,2,cSV u10),(6,3,cSV u12)] fun _ _ => ?_
     refine cxs ?_
     refine ⟨_,Od rfl,?_⟩
     refine ⟨_,Od rfl,?_⟩
     refine ⟨ld_own rfl rfl rfl,?_⟩
     refine ⟨_,Os rfl,?_⟩
     refine ⟨sx_cons ⟨_,_,_,rfl,rfl,rfl,by decide⟩ (sx_nil),?_⟩
     refine ⟨_,Os rfl,?_⟩
     exact cxs (Rt ⟨u10,u12,rfl,h10,h12,hFa.out hP8⟩)
    ·replace h25 := h25.1 rfl
     refine ⟨_,rfl,?_⟩
     refine Cm 4 s14 [Ml 2 0,Ml 3 1,Ml 5 2,Ml 6 3,(26,vB true)] [(2,0,[Sn,Sn]),(3,1,[Sn,Sn]),(5,2,cSV u10),(6,3,cSV u12)] fun _ _ => ?_
     refine ⟨_,Od rfl,?_⟩
     refine ⟨_,Od rfl,?_⟩
     refine ⟨_,rfl,(ac_spec_l3Join u10 u12 s14 hFa.left.1.rdS hFa.right.1.rdS (by first | assumption | omega) (by first | assumption | omega) (by first | assumption | omega) (by first | assumption | omega)).mono ?_⟩
     rintro _ s29 ⟨u29,rfl,h29,hO29,hN29,hP29⟩
     refine ⟨_,Os rfl,?_⟩
     refine Cm 4 s29 [Ml 2 0,Ml 3 1,Ml 5 2,Ml 6 3] [(2,0,[Sn,Sn]),(3,1,[Sn,Sn]),(5,2,cSV u10),(6,3,cSV u29)] fun _ _ => ?_
     refine ⟨_,Od rfl,?_⟩
     refine ⟨_,Od rfl,?_⟩
     refine ⟨ld_own rfl rfl rfl,?_⟩
     refine ⟨_,Os rfl,?_⟩
     refine ⟨sx_cons ⟨_,_,_,rfl,rfl,rfl,by decide⟩ (sx_nil),?_⟩
     refine ⟨_,Os rfl,?_⟩
     exact cxs (Rt ⟨u10,u29,rfl,h10,by rw [h29]; exact (sm_ok (stateOk_join h22 h25)).le (by decide),(hFa.left.add ⟨hO29,hN29,hP29⟩).out hP8⟩)
 ·replace h16 : r14 = (0) := beq_iff_eq.1 h16
  refine Cm 4 s14 [Ml 2 0,Ml 3 1,Ml 5 2,Ml 6 3,(14,vI r14),(15,vB true)] [(2,0,[Sn,Sn]),(3,1,[Sn,Sn]),(5,2,cSV u10),(6,3,cSV u12)] fun _ _ => ?_
  refine ⟨_,Od rfl,?_⟩
  refine ⟨_,rfl,(ac_spec_l3Copy u10 s14 hFa.left.1.rdS (by first | assumption | omega)).mono ?_⟩
  rintro _ s18 ⟨u18,rfl,h18,hO18,hN18,hP18⟩
  refine ⟨_,Os rfl,?_⟩
  refine Cm 4 s18 [Ml 2 0,Ml 3 1,Ml 5 2,Ml 6 3] [(2,0,[Sn,Sn]),(3,1,[Sn,Sn]),(5,2,cSV u10),(6,3,cSV u18)] fun _ _ => ?_
  refine ⟨_,Od rfl,?_⟩
  refine ⟨_,Od rfl,?_⟩
  refine ⟨ld_own rfl rfl rfl,?_⟩
  refine ⟨_,Os rfl,?_⟩
  refine ⟨sx_cons ⟨_,_,_,rfl,rfl,rfl,by decide⟩ (sx_nil),?_⟩
  refine ⟨_,Os rfl,?_⟩
  exact cxs (Rt ⟨u10,u18,rfl,h10,by rw [h18]; exact h10,(hFa.left.add ⟨hO18,hN18,hP18⟩).out hP8⟩)
theorem ac_spec_DrawStateJoin (p : Option Addr) (bs : List Int) (st : St) (hI : Ints st .u8 p bs) (hs : bs.length < 1099511627776) : C 6 [vS p bs.length] st (fun v s => ∃ (u w : SV),v = .tuple #[.agg #[vS u.p u.x.items.length,vS u.q u.x.floors.length],.agg #[vS w.p w.x.items.length,vS w.q w.x.floors.length]] ∧ smS 6 u.x ∧ smS 6 w.x ∧ Frs st s (pcS u ++ pcS w)) := by
 refine AC.enterX (i := ⟨[2,3],[2,3],[0,2,3],[]⟩) [] Tryd.func6 rfl rfl (by kernel_rfl) (by kernel_rfl) Tryd.ntmps6 (Lb rfl) rfl ?_
 iterate 2 refine ⟨_,rfl,?_⟩
 refine Cm 2 st [(0,vS p bs.length),Ml 2 0,Ml 3 1] [(2,0,[Sn,Sn]),(3,1,[Sn,Sn])] fun _ _ => ?_
 refine ⟨_,rfl,(ac_spec_l3Two p bs st hI (by first | assumption | omega)).mono ?_⟩
 rintro _ s5 ⟨u5,w5,rfl,h5,h5',hF5⟩
 iterate 2 refine ⟨_,rfl,?_⟩
 refine ⟨_,Os rfl,?_⟩
 refine ⟨_,Os rfl,?_⟩
 exact cxs (Rt ⟨u5,w5,rfl,h5,h5',hF5⟩)
open Classical in
noncomputable def joinP (a b : Sta) : Sta × Bool := if stateOk a ∧ stateOk b then (joinF a b 5,true) else (nilS,false)
theorem ac_impl_StateJoin (A B : SV) (st : St) (hA : RdS st A) (hB : RdS st B) (ha : bigS A.x) (hb : bigS B.x) : C 7 [.agg #[vS A.p A.x.items.length,vS A.q A.x.floors.length],.agg #[vS B.p B.x.items.length,vS B.q B.x.floors.length]] st (fun v s => ∃ (u : SV) (b : Bool),v = .tuple #[.agg #[vS u.p u.x.items.length,vS u.q u.x.floors.length],vB b] ∧ (u.x,b) = joinP A.x B.x ∧ OwnP s (pcS u) ∧ NewP st.next (pcS u) ∧ Pres st s) := by
 refine AC.enterX (i := ⟨[2,3,4],[2,3,4],[0,1,2,3,4,5,13],[]⟩) [] Tryd.func7 rfl rfl (by kernel_rfl) (by kernel_rfl) Tryd.ntmps7 (Lb rfl) rfl ?_
 iterate 3 refine ⟨_,rfl,?_⟩
 refine Cm 3 st [Ml 2 0,Ml 3 1,Ml 4 2,(5,vB false)] [(2,0,cSV A),(3,1,cSV B),(4,2,[Sn,Sn])] fun _ _ => ?_
 refine ⟨_,Od rfl,?_⟩
 refine ⟨_,rfl,(ac_impl_StateOk A st hA (by first | assumption | omega)).mono ?_⟩
 rintro _ st ⟨x7,rfl,h7,rfl⟩
 rcases x7 with _|_
 ·replace h7 := fun k => Bool.false_ne_true (h7.2 k)
  iterate 2 refine ⟨_,rfl,?_⟩
  refine Cm 3 st [Ml 2 0,Ml 3 1,Ml 4 2,(5,vB false),(13,vB true)] [(2,0,cSV A),(3,1,cSV B),(4,2,[Sn,Sn])] fun _ _ => ?_
  refine ⟨_,rfl,?_⟩
  refine ⟨_,Os rfl,?_⟩
  exact cxs (Rt ⟨⟨none,none,nilS⟩,false,rfl,(if_neg (fun k => h7 k.1)).symm,pcS_nil,newS_nil,Pres.refl _⟩)
 ·replace h7 := h7.1 rfl
  refine ⟨_,rfl,?_⟩
  refine ⟨_,Od rfl,?_⟩
  refine ⟨_,rfl,(ac_impl_StateOk B st hB (by first | assumption | omega)).mono ?_⟩
  rintro _ st ⟨x11,rfl,h11,rfl⟩
  rcases x11 with _|_
  ·replace h11 := fun k => Bool.false_ne_true (h11.2 k)
   iterate 2 refine ⟨_,rfl,?_⟩
   refine Cm 3 st [Ml 2 0,Ml 3 1,Ml 4 2,(5,vB false),(13,vB true)] [(2,0,cSV A),(3,1,cSV B),(4,2,[Sn,Sn])] fun _ _ => ?_
   refine ⟨_,rfl,?_⟩
   refine ⟨_,Os rfl,?_⟩
   exact cxs (Rt ⟨⟨none,none,nilS⟩,false,rfl,(if_neg (fun k => h11 k.2)).symm,pcS_nil,newS_nil,Pres.refl _⟩)
  ·replace h11 := h11.1 rfl
   iterate 2 refine ⟨_,rfl,?_⟩
   refine Cm 3 st [Ml 2 0,Ml 3 1,Ml 4 2,(5,vB false),(13,vB false)] [(2,0,cSV A),(3,1,cSV B),(4,2,[Sn,Sn])] fun _ _ => ?_
   refine cxs ?_
   refine ⟨_,Od rfl,?_⟩
   refine ⟨_,Od rfl,?_⟩
   refine ⟨_,rfl,(ac_impl_stateJoin A B st hA hB (by first | assumption | omega) (by first | assumption | omega)).mono ?_⟩
   rintro _ s17 ⟨u17,rfl,h17,hO17,hN17,hP17⟩
   refine ⟨_,Os rfl,?_⟩
   exact cxs (Rt ⟨u17,true,rfl,(by rw [h17]; exact (if_pos ⟨h7,h11⟩).symm),hO17,hN17,hP17⟩)
theorem ac_spec_StateJoin (A B : SV) (st : St) (hA : RdS st A) (hB : RdS st B) (ha : bigS A.x) (hb : bigS B.x) : C 8 [.agg #[vS A.p A.x.items.length,vS A.q A.x.floors.length],.agg #[vS B.p B.x.items.length,vS B.q B.x.floors.length]] st (fun v s => ∃ (u : SV) (b : Bool),v = .tuple #[.agg #[vS u.p u.x.items.length,vS u.q u.x.floors.length],vB b] ∧ (u.x,b) = joinP A.x B.x ∧ OwnP s (pcS u) ∧ NewP st.next (pcS u) ∧ Pres st s) := by
 refine AC.enterX (i := ⟨[2,3,4],[2,3,4],[0,1,2,3,4,5,13],[]⟩) [] Tryd.func8 rfl rfl (by kernel_rfl) (by kernel_rfl) Tryd.ntmps8 (Lb rfl) rfl ?_
 iterate 3 refine ⟨_,rfl,?_⟩
 refine Cm 3 st [Ml 2 0,Ml 3 1,Ml 4 2,(5,vB false)] [(2,0,cSV A),(3,1,cSV B),(4,2,[Sn,Sn])] fun _ _ => ?_
 refine ⟨_,Od rfl,?_⟩
 refine ⟨_,rfl,(ac_spec_StateOk A st hA (by first | assumption | omega)).mono ?_⟩
 rintro _ st ⟨x7,rfl,h7,rfl⟩
 rcases x7 with _|_
 ·replace h7 := fun k => Bool.false_ne_true (h7.2 k)
  iterate 2 refine ⟨_,rfl,?_⟩
  refine Cm 3 st [Ml 2 0,Ml 3 1,Ml 4 2,(5,vB false),(13,vB true)] [(2,0,cSV A),(3,1,cSV B),(4,2,[Sn,Sn])] fun _ _ => ?_
  refine ⟨_,rfl,?_⟩
  refine ⟨_,Os rfl,?_⟩
  exact cxs (Rt ⟨⟨none,none,nilS⟩,false,rfl,(if_neg (fun k => h7 k.1)).symm,pcS_nil,newS_nil,Pres.refl _⟩)
 ·replace h7 := h7.1 rfl
  refine ⟨_,rfl,?_⟩
  refine ⟨_,Od rfl,?_⟩
  refine ⟨_,rfl,(ac_spec_StateOk B st hB (by first | assumption | omega)).mono ?_⟩
  rintro _ st ⟨x11,rfl,h11,rfl⟩
  rcases x11 with _|_
  ·replace h11 := fun k => Bool.false_ne_true (h11.2 k)
   iterate 2 refine ⟨_,rfl,?_⟩
   refine Cm 3 st [Ml 2 0,Ml 3 1,Ml 4 2,(5,vB false),(13,vB true)] [(2,0,cSV A),(3,1,cSV B),(4,2,[Sn,Sn])] fun _ _ => ?_
   refine ⟨_,rfl,?_⟩
   refine ⟨_,Os rfl,?_⟩
   exact cxs (Rt ⟨⟨none,none,nilS⟩,false,rfl,(if_neg (fun k => h11 k.2)).symm,pcS_nil,newS_nil,Pres.refl _⟩)
  ·replace h11 := h11.1 rfl
   iterate 2 refine ⟨_,rfl,?_⟩
   refine Cm 3 st [Ml 2 0,Ml 3 1,Ml 4 2,(5,vB false),(13,vB false)] [(2,0,cSV A),(3,1,cSV B),(4,2,[Sn,Sn])] fun _ _ => ?_
   refine cxs ?_
   refine ⟨_,Od rfl,?_⟩
   refine ⟨_,Od rfl,?_⟩
   refine ⟨_,rfl,(ac_spec_l3Join A B st hA hB (by first | assumption | omega) (by first | assumption | omega) (by first | assumption | omega) (by first | assumption | omega)).mono ?_⟩
   rintro _ s17 ⟨u17,rfl,h17,hO17,hN17,hP17⟩
   refine ⟨_,Os rfl,?_⟩
   exact cxs (Rt ⟨u17,true,rfl,(by rw [h17]; exact (if_pos ⟨h7,h11⟩).symm),hO17,hN17,hP17⟩)
structure smL (n : Nat) (g : Lg) : Prop where
 l : g.list.length ≤ n
 s : ∀ x ∈ g.list,smS 6 x
 f : -1 ≤ g.frm ∧ g.frm ≤ 9223372036854775807
theorem smL.big {n : Nat} {g : LV} (h : smL n g.x) (hn : n ≤ 1000) : bigL g.l := ⟨by have := h.l; simp only [List.length_map] at this; unfold szOk; omega,fun s hs => (h.s _ (List.mem_map_of_mem hs)).big (by decide)⟩
theorem smL.add {n : Nat} {g : Lg} {d : Sta} (h : smL n g) (hd : smS 6 d) : smL (n + 1) (addL g d).1 := by
 unfold addL
 split
 ·rename_i hk
  have h3 : 0 ≤ g.frm ∧ g.frm ≤ 100000 := hk.1.2.2.1
  have hs : ∀ x ∈ g.list ++ [d],smS 6 x := fun x hx => by
   rcases List.mem_append.1 hx with hx | hx
   ·exact h.s x hx
   ·rw [List.mem_singleton.1 hx]; exact hd
  have hl : (g.list ++ [d]).length ≤ n + 1 := by rw [List.length_append]; exact Nat.succ_le_succ h.l
  split
  ·exact ⟨by show ((g.list ++ [d]).drop 1).length ≤ n + 1; rw [List.length_drop]; omega,fun x hx => hs x (List.mem_of_mem_drop hx),by show -1 ≤ g.frm + 1 ∧ _; simp only; omega⟩
  ·exact ⟨hl,hs,h.f⟩
 ·exact ⟨Nat.le_succ_of_le h.l,h.s,h.f⟩
theorem smL.of {n : Nat} {g x : Lg} {d : Sta} {b : Bool} (he : (x,b) = addL g d) (h : smL n g) (hd : smS 6 d) : smL (n + 1) x := by
 have := h.add hd
 rw [← he] at this
 exact this
theorem NW.gotAt (v : NW) (x : RV) : pcNW { v with got := x } = (pcS v.s ++ (pcIs v.t.toRV ++ pcLog v.g)) ++ pcR 1 fI x.p x.l :: (pcIs v.acked ++ (pcTT v.seen ++ (pcSes v.sess ++ pcRis v.rises))) := by simp [List.append_assoc]
theorem NW.ackedAt (v : NW) (x : RV) : pcNW { v with acked := x } = (pcS v.s ++ (pcIs v.t.toRV ++ (pcLog v.g ++ pcIs v.got))) ++ pcR 1 fI x.p x.l :: (pcTT v.seen ++ (pcSes v.sess ++ pcRis v.rises)) := by simp [List.append_assoc]
theorem FrC.perm {c : Nat} {a b : St} {l m : List Pc} (h : FrC c a b l) (hp : l.Perm m) : FrC c a b m := ⟨h.1.perm hp,fun x hx => h.2.1 x (hp.mem_iff.2 hx),h.2.2⟩
theorem FrC.swap {c : Nat} {a b d : St} {A C D B : List Pc} (h : FrC c a b (A ++ (C ++ B))) (hF : FrC c b d D) : FrC c a d (A ++ (D ++ B)) :=
 ((h.join hF).perm (m := C ++ (A ++ (D ++ B))) (by
  classical
  exact List.perm_iff_count.2 fun x => by simp only [List.count_append]; omega)).right
theorem NewP.got {n : Nat} {v : NW} (h : NewP n (pcNW v)) : New n v.got.p := by
 have h : NewP n (pcNW { v with got := v.got }) := h
 rw [NW.gotAt] at h
 exact h _ (List.mem_append_right _ (List.mem_cons_self ..))
theorem NewP.acked {n : Nat} {v : NW} (h : NewP n (pcNW v)) : New n v.acked.p := by
 have h : NewP n (pcNW { v with acked := v.acked }) := h
 rw [NW.ackedAt] at h
 exact h _ (List.mem_append_right _ (List.mem_cons_self ..))
theorem zRow_get {j : Nat} (h : j < 5) : zRow.getD j 0 = 0 := by
 rw [List.getD_eq_getElem?_getD,List.getElem?_replicate]
 split <;> rfl
theorem joinP_ok {a b x : Sta} (h : (x,true) = joinP a b) : stateOk a ∧ stateOk b ∧ x = joinF a b 5 := by
 unfold joinP at h
 split at h
 ·rename_i hk; injection h with h _; exact ⟨hk.1,hk.2,h⟩
 ·injection h with _ h; cases h
theorem cut_cut {f g : Int} {e : Ent} (h : f ≤ g) : cut g (cut f e) = cut g e := by
 by_cases h1 : e.inc > f
 ·rw [show cut f e = e from if_pos h1]
 ·rw [show cut f e = zEnt from if_neg h1,cut_z]; exact (if_neg (by omega)).symm
theorem cut_two {f g h : Int} {a b : Ent} (ha : vE a) (hb : vE b) (hf : f ≤ h) (hg : g ≤ h) : cut h (entMax (cut f a) (cut g b)) = cut h (entMax a b) := by
 rw [cut_max ha (cut_vE hb) hf,entMax_comm,cut_max hb ha hg,entMax_comm]
theorem gone_F {s : Sta} (h : stateOk s) (i : Int) : gF s i ≤ goneAt s i := by
 rw [goneAt_gon h]
 exact (gon_rng (gF_pos h i).1 (gE_v h i) (gE_cut h i)).1
theorem prune_order {a b : Sta} (ha : stateOk a) (hb : stateOk b) {t : List (List Int)} (ht : ∀ j : Nat,j < 5 → common t (j : Int) = max (goneAt a (j : Int)) (goneAt b (j : Int))) :
  pruneF (joinF a b 5) t = pruneF (joinF (pruneF a t) (pruneF b t) 5) t := by
 have hpa := prune_ok ha t
 have hpb := prune_ok hb t
 have hj1 := stateOk_join ha hb
 have hj2 := stateOk_join hpa hpb
 refine sta_eq (prune_ok hj1 t) (prune_ok hj2 t) fun j hj => ?_
 have c := ht j hj
 have a0 := (goneAt_le ha (j : Int)).1
 have b0 := (goneAt_le hb (j : Int)).1
 have fa := gone_F ha (j : Int)
 have fb := gone_F hb (j : Int)
 have fa0 := (gF_pos ha (j : Int)).1
 have fb0 := (gF_pos hb (j : Int)).1
 have pa : pruneG a t (j : Int) = goneAt a (j : Int) := by rw [pruneG_eq,c]; omega
 have pb : pruneG b t (j : Int) = goneAt b (j : Int) := by rw [pruneG_eq,c]; omega
 have pj : pruneG (joinF a b 5) t (j : Int) = max (goneAt a (j : Int)) (goneAt b (j : Int)) := by rw [pruneG_eq,c,gone_join ha hb hj]; omega
 have pk : pruneG (joinF (pruneF a t) (pruneF b t) 5) t (j : Int) = max (goneAt a (j : Int)) (goneAt b (j : Int)) := by rw [pruneG_eq,c,gone_join hpa hpb hj,prune_gone ha t hj,prune_gone hb t hj]; omega
 have Fa : gF (pruneF a t) (j : Int) = goneAt a (j : Int) := by rw [prune_gF ha t hj,pa]; omega
 have Fb : gF (pruneF b t) (j : Int) = goneAt b (j : Int) := by rw [prune_gF hb t hj,pb]; omega
 have Ea : gE (pruneF a t) (j : Int) = cut (goneAt a (j : Int)) (gE a (j : Int)) := by
  rw [prune_gE ha t hj,pa,show max (gF a (j : Int)) (max (goneAt a (j : Int)) 0) = goneAt a (j : Int) by omega]
 have Eb : gE (pruneF b t) (j : Int) = cut (goneAt b (j : Int)) (gE b (j : Int)) := by
  rw [prune_gE hb t hj,pb,show max (gF b (j : Int)) (max (goneAt b (j : Int)) 0) = goneAt b (j : Int) by omega]
 refine ⟨?_,?_⟩
 ·rw [prune_gE hj1 t hj,prune_gE hj2 t hj,gF_join ha hb hj,gF_join hpa hpb hj,gE_join _ _ hj,gE_join _ _ hj,Fa,Fb,Ea,Eb,pj,pk,
   cut_cut (show max (gF a (j : Int)) (gF b (j : Int)) ≤ max (max (gF a (j : Int)) (gF b (j : Int))) (max (max (goneAt a (j : Int)) (goneAt b (j : Int))) 0) by omega),
   cut_cut (show max (goneAt a (j : Int)) (goneAt b (j : Int)) ≤ max (max (goneAt a (j : Int)) (goneAt b (j : Int))) (max (max (goneAt a (j : Int)) (goneAt b (j : Int))) 0) by omega),
   cut_two (gE_v ha _) (gE_v hb _) (by omega) (by omega)]
  congr 1
  omega
 ·rw [prune_gF hj1 t hj,prune_gF hj2 t hj,gF_join ha hb hj,gF_join hpa hpb hj,Fa,Fb,pj,pk]
  omega
theorem tableAdd_two0 {l m : List Int} {ms : List Flr} (hl : l.length = 5) (hm : marksOk ms) : tableAdd [l,m] 0 ms = [addMarks l ms,m] := by
 unfold tableAdd
 rw [if_pos ⟨by simp,hm,by simp [hl]⟩]
 rfl
theorem tableAdd_two1 {l m : List Int} {ms : List Flr} (hl : m.length = 5) (hm : marksOk ms) : tableAdd [l,m] 1 ms = [l,addMarks m ms] := by
 unfold tableAdd
 rw [if_pos ⟨by simp,hm,by simp [hl]⟩]
 rfl
theorem common_two {l m : List Int} {j : Nat} (hl : j < l.length) (hm : j < m.length) : common [l,m] (j : Int) = min (l.getD j 0) (m.getD j 0) := by
 unfold common commonGo commonGo commonGo
 rw [if_pos (by omega),if_pos (.inl rfl),if_pos (by omega),Int.toNat_natCast]
 by_cases h : m.getD j 0 < l.getD j 0
 ·rw [if_pos (.inr h)]; omega
 ·rw [if_neg (by intro k; rcases k with k | k; cases k; exact h k)]; omega
theorem tnew_two : tnew 2 = [zRow,zRow] := by
 unfold tnew
 rw [if_pos (by decide)]
 rfl
theorem zRow_ok : rowOk zRow := ⟨rfl,fun j x hx => by
 have := List.eq_of_mem_replicate (List.mem_of_getElem? hx)
 subst this; decide⟩
theorem common_law {a b : Sta} (ha : stateOk a) (hb : stateOk b) {j : Nat} (hj : j < 5) : common [addMarks (addMarks zRow (marksF (goneAt a) 5)) (marksF (goneAt b) 5),addMarks zRow (marksF (goneAt (joinF a b 5)) 5)] (j : Int) = max (goneAt a (j : Int)) (goneAt b (j : Int)) := by
 have a0 := (goneAt_le ha (j : Int)).1
 have b0 := (goneAt_le hb (j : Int)).1
 have hz : zRow.getD j 0 = 0 := zRow_get hj
 rw [common_two (by rw [addMarks_len,addMarks_len]; exact hj) (by rw [addMarks_len]; exact hj),addMarks_two zRow_ok (fun i => (goneAt_le ha i).2) hj,addMarks_max rfl hj (by rw [hz]; exact Int.le_refl _),hz,gone_join ha hb hj]
 omega
theorem ac_laws_FnPruneOrder (p : Option Addr) (bs : List Int) (st : St) (hI : Ints st .u8 p bs) (hT : Tab st) : C 3 [vS p bs.length] st (fun v s => v = vB true) := by
 refine AC.enterX (i := ⟨[3,4,5,7,10,11,13],[3,4,5,7,10,11,13],[0,2,3,4,5,6,8,9,10,11,13,15,35,37],[]⟩) [(15,[2],[0,3]),(17,[5],[6])] Tryd.func3 rfl rfl (by kernel_rfl) (by kernel_rfl) Tryd.ntmps3 (Lb rfl) rfl ?_
 refine Cm 0 st [(0,vS p bs.length),(2,vB false)] [] fun _ _ => ?_
 refine ⟨_,rfl,(ac_laws_big p bs.length st).mono ?_⟩
 rintro _ st ⟨x15,rfl,h15,rfl⟩
 rcases x15 with _|_
 ·replace h15 := of_decide_eq_false h15.symm
  refine Cm 0 st [(0,vS p bs.length),(2,vB false),(15,vB false)] [] fun _ _ => ?_
  refine cxs ?_
  refine ⟨_,rfl,(ac_spec_DrawStateJoin p bs st hI (by first | assumption | omega)).mono ?_⟩
  rintro _ s18 ⟨u18,w18,rfl,h18,h18',hF18⟩
  iterate 4 refine ⟨_,rfl,?_⟩
  refine ⟨_,Os rfl,?_⟩
  refine ⟨_,Os rfl,?_⟩
  refine Cm 2 s18 [(2,vB false),Ml 3 0,Ml 4 1] [(3,0,cSV u18),(4,1,cSV w18)] fun _ _ => ?_
  have hb18 := h18.big (by decide)
  have hbw18 := h18'.big (by decide)
  refine ⟨_,Od rfl,?_⟩
  refine ⟨_,Od rfl,?_⟩
  refine ⟨_,rfl,(ac_impl_StateJoin u18 w18 s18 (hF18.1.left.rdS) (hF18.1.right.rdS) (by first | assumption | omega) (by first | assumption | omega)).mono ?_⟩
  rintro _ s24 ⟨u24,b24,rfl,h24,hO24,hN24,hP24⟩
  rcases b24 with _|_
  ·iterate 3 refine ⟨_,rfl,?_⟩
   refine ⟨_,Os rfl,?_⟩
   refine Cm 3 s24 [(2,vB false),Ml 3 0,Ml 4 1,Ml 5 2,(6,vB false)] [(3,0,cSV u18),(4,1,cSV w18),(5,2,cSV u24)] fun _ _ => ?_
   refine ⟨_,Od rfl,?_⟩
   refine ⟨_,Od rfl,?_⟩
   refine ⟨_,rfl,(ac_spec_StateJoin u18 w18 s24 (hF18.1.left.rdS.pres hP24) (hF18.1.right.rdS.pres hP24) hb18 hbw18).mono ?_⟩
   rintro _ s30 ⟨u30,b30,rfl,h30,hO30,hN30,hP30⟩
   iterate 3 refine ⟨_,rfl,?_⟩
   refine ⟨_,Os rfl,?_⟩
   refine Cm 4 s30 [(2,vB false),Ml 3 0,Ml 4 1,Ml 5 2,(6,vB false),(8,vB b30)] [(3,0,cSV u18),(4,1,cSV w18),(5,2,cSV u24)] fun _ _ => ?_
   refine ⟨_,rfl,?_⟩
   rintro (_|_) h35
   rotate_left
   ·exact absurd ((congrArg Prod.snd (h24.trans h30.symm))) (b_ne h35)
   refine Cm 4 s30 [(2,vB false),Ml 3 0,Ml 4 1,Ml 5 2,(6,vB false),(35,vB false)] [(3,0,cSV u18),(4,1,cSV w18),(5,2,cSV u24)] fun _ _ => ?_
   refine cxs ?_
   refine ⟨_,rfl,?_⟩
   refine Cm 4 s30 [(2,vB false),Ml 3 0,Ml 4 1,Ml 5 2,(37,vB true)] [(3,0,cSV u18),(4,1,cSV w18),(5,2,cSV u24)] fun _ _ => ?_
   refine cxs ?_
   exact ⟨.inl rfl,_,rfl,rfl⟩
  ·iterate 3 refine ⟨_,rfl,?_⟩
   refine ⟨_,Os rfl,?_⟩
   refine Cm 3 s24 [(2,vB false),Ml 3 0,Ml 4 1,Ml 5 2,(6,vB true)] [(3,0,cSV u18),(4,1,cSV w18),(5,2,cSV u24)] fun _ _ => ?_
   refine ⟨_,Od rfl,?_⟩
   refine ⟨_,Od rfl,?_⟩
   refine ⟨_,rfl,(ac_spec_StateJoin u18 w18 s24 (hF18.1.left.rdS.pres hP24) (hF18.1.right.rdS.pres hP24) hb18 hbw18).mono ?_⟩
   rintro _ s30 ⟨u30,b30,rfl,h30,hO30,hN30,hP30⟩
   iterate 3 refine ⟨_,rfl,?_⟩
   refine ⟨_,Os rfl,?_⟩
   refine Cm 4 s30 [(2,vB false),Ml 3 0,Ml 4 1,Ml 5 2,(6,vB true),(8,vB b30)] [(3,0,cSV u18),(4,1,cSV w18),(5,2,cSV u24)] fun _ _ => ?_
   refine ⟨_,rfl,?_⟩
   rintro (_|_) h35
   rotate_left
   ·exact absurd ((congrArg Prod.snd (h24.trans h30.symm))) (b_ne h35)
   refine Cm 4 s30 [(2,vB false),Ml 3 0,Ml 4 1,Ml 5 2,(6,vB true),(35,vB false)] [(3,0,cSV u18),(4,1,cSV w18),(5,2,cSV u24)] fun _ _ => ?_
   refine cxs ?_
   refine ⟨_,rfl,?_⟩
   refine Cm 4 s30 [(2,vB false),Ml 3 0,Ml 4 1,Ml 5 2,(37,vB false)] [(3,0,cSV u18),(4,1,cSV w18),(5,2,cSV u24)] fun _ _ => ?_
   have ⟨hka,hkb,hxj⟩ := joinP_ok h24
   have hkj : stateOk u24.x := by rw [hxj]; exact stateOk_join hka hkb
   have hbj := big_ok hkj
   have hP30' : Pres st s30 := (hF18.2.2.trans hP24).trans hP30
   refine cxs ?_
   refine ⟨_,rfl,(ac_impl_TableNew 2 s30).mono ?_⟩
   rintro _ s38 ⟨p38,t38,rfl,hO38,hN38,hP38,h38⟩
   refine Cm 4 s38 [(2,vB false),Ml 3 0,Ml 4 1,Ml 5 2,(9,vS p38 t38.length)] [(3,0,cSV u18),(4,1,cSV w18),(5,2,cSV u24)] fun _ _ => ?_
   refine ⟨_,Od rfl,?_⟩
   refine ⟨_,rfl,(ac_impl_MarksOf u18 s38 ((hF18.1.left.rdS).pres ((hP24.trans hP30).trans hP38)) (by first | assumption | omega)).mono ?_⟩
   rintro _ s41 ⟨q41,rfl,hO41,hP41,hN41⟩
   have hs38 : szOk t38.length := Nat.le_trans (tnew_rows h38).1 (by decide)
   have hr38 : ∀ r ∈ t38,szOk r.l.length := fun r hr => by rw [(tnew_rows h38).2.1 r hr]; unfold szOk; omega
   refine ⟨_,rfl,(ac_impl_TableAdd p38 q41 t38 0 (marksF (goneAt u18.x) 5) s41 (hO38.rdT.pres hP41) (hO41.rows len_cFlr) hs38 hr38 (szm _)).mono ?_⟩
   rintro _ s42 ⟨q42,u42,rfl,h42,h42',hO42,hN42,hP42⟩
   refine AW.cutM (4) s42 [(2,vB false),Ml 3 0,Ml 4 1,Ml 5 2,(9,vS q42 u42.length)] [(3,0,cSV u18),(4,1,cSV w18),(5,2,cSV u24)] ⟨rfl,rfl,rfl,rfl,congrArg (vS q42) h42.symm,trivial⟩ ⟨rfl,rfl,rfl,trivial⟩ rfl fun _ _ => ?_
   have hl42 : u42.map (·.l) = [addMarks zRow (marksF (goneAt u18.x) 5),zRow] := by rw [h42',h38,tnew_two]; exact tableAdd_two0 rfl (marks_ok hka)
   have hs42 : szOk u42.length := by rw [h42]; exact hs38
   have hr42 : ∀ r ∈ u42,szOk r.l.length := rows_lens (by rw [h42']; exact tableAdd_lens _ _ _) hr38
   have hR42 := hO42.rdT
   refine ⟨_,Od rfl,?_⟩
   refine ⟨_,rfl,(ac_impl_MarksOf u24 s42 ((hO24.rdS.pres hP30).pres ((hP38.trans hP41).trans hP42)) (by first | assumption | omega)).mono ?_⟩
   rintro _ s45 ⟨q45,rfl,hO45,hP45,hN45⟩
   refine ⟨_,rfl,(ac_impl_TableAdd q42 q45 u42 1 (marksF (goneAt u24.x) 5) s45 (hR42.pres hP45) (hO45.rows len_cFlr) hs42 hr42 (szm _)).mono ?_⟩
   rintro _ s46 ⟨q46,u46,rfl,h46,h46',hO46,hN46,hP46⟩
   refine AW.cutM (4) s46 [(2,vB false),Ml 3 0,Ml 4 1,Ml 5 2,(9,vS q46 u46.length)] [(3,0,cSV u18),(4,1,cSV w18),(5,2,cSV u24)] ⟨rfl,rfl,rfl,rfl,congrArg (vS q46) h46.symm,trivial⟩ ⟨rfl,rfl,rfl,trivial⟩ rfl fun _ _ => ?_
   have hl46 : u46.map (·.l) = [addMarks zRow (marksF (goneAt u18.x) 5),addMarks zRow (marksF (goneAt u24.x) 5)] := by rw [h46',hl42]; exact tableAdd_two1 rfl (marks_ok hkj)
   have hs46 : szOk u46.length := by rw [h46]; exact hs42
   have hr46 : ∀ r ∈ u46,szOk r.l.length := rows_lens (by rw [h46']; exact tableAdd_lens _ _ _) hr42
   have hR46 := hO46.rdT
   refine ⟨_,Od rfl,?_⟩
   refine ⟨_,rfl,(ac_impl_MarksOf w18 s46 ((hF18.1.right.rdS).pres ((((((hP24.trans hP30).trans hP38).trans hP41).trans hP42).trans hP45).trans hP46)) (by first | assumption | omega)).mono ?_⟩
   rintro _ s49 ⟨q49,rfl,hO49,hP49,hN49⟩
   refine ⟨_,rfl,(ac_impl_TableAdd q46 q49 u46 0 (marksF (goneAt w18.x) 5) s49 (hR46.pres hP49) (hO49.rows len_cFlr) hs46 hr46 (szm _)).mono ?_⟩
   rintro _ s50 ⟨q50,u50,rfl,h50,h50',hO50,hN50,hP50⟩
   refine AW.cutM (4) s50 [(2,vB false),Ml 3 0,Ml 4 1,Ml 5 2,(9,vS q50 u50.length)] [(3,0,cSV u18),(4,1,cSV w18),(5,2,cSV u24)] ⟨rfl,rfl,rfl,rfl,congrArg (vS q50) h50.symm,trivial⟩ ⟨rfl,rfl,rfl,trivial⟩ rfl fun _ _ => ?_
   have hl50 : rls u50 = [addMarks (addMarks zRow (marksF (goneAt u18.x) 5)) (marksF (goneAt w18.x) 5),addMarks zRow (marksF (goneAt (joinF u18.x w18.x 5)) 5)] := by
    show u50.map (·.l) = _
    rw [h50',hl46,← hxj]
    exact tableAdd_two0 (by rw [addMarks_len]; rfl) (marks_ok hkb)
   have hc50 : ∀ j : Nat,j < 5 → common (rls u50) (j : Int) = max (goneAt u18.x (j : Int)) (goneAt w18.x (j : Int)) := fun j hj => by rw [hl50]; exact common_law hka hkb hj
   have hlen50 : u50.length = 2 := by have := congrArg List.length hl50; rwa [List.length_map] at this
   have hs50 : szOk u50.length := by rw [h50]; exact hs46
   have hr50 : ∀ r ∈ u50,szOk r.l.length := rows_lens (by rw [h50']; exact tableAdd_lens _ _ _) hr46
   have hR50 := hO50.rdT
   have hPn : Pres s30 s50 := (((((hP38.trans hP41).trans hP42).trans hP45).trans hP46).trans hP49).trans hP50
   have hRa := (hF18.1.left.rdS.pres (hP24.trans hP30)).pres hPn
   have hRb := (hF18.1.right.rdS.pres (hP24.trans hP30)).pres hPn
   have hRj := (hO24.rdS.pres hP30).pres hPn
   have hT50 := hT.pres (hP30'.trans hPn)
   refine ⟨_,Od rfl,?_⟩
   refine ⟨_,rfl,(ac_impl_Prune u24 q50 u50 s50 hRj hR50 hbj hs50 hr50).mono ?_⟩
   rintro _ s53 ⟨u53,rfl,h53,hO53,hN53,hP53⟩
   refine ⟨_,rfl,?_⟩
   refine ⟨_,Os rfl,?_⟩
   refine Cm 5 s53 [(2,vB false),Ml 3 0,Ml 4 1,Ml 5 2,(9,vS q50 u50.length),Ml 10 4] [(3,0,cSV u18),(4,1,cSV w18),(5,2,cSV u24),(10,4,cSV u53)] fun _ _ => ?_
   refine ⟨_,Od rfl,?_⟩
   refine ⟨ld_own rfl rfl rfl,?_⟩
   refine ⟨_,rfl,(ac_impl_Prune u18 q50 u50 s53 (hRa.pres hP53) (hR50.pres hP53) hb18 hs50 hr50).mono ?_⟩
   rintro _ s57 ⟨u57,rfl,h57,hO57,hN57,hP57⟩
   refine ⟨hP57.2,?_⟩
   refine ⟨_,Od rfl,?_⟩
   refine ⟨ld_own rfl rfl rfl,?_⟩
   refine ⟨_,rfl,(ac_impl_Prune w18 q50 u50 s57 ((hRb.pres hP53).pres hP57) ((hR50.pres hP53).pres hP57) hbw18 hs50 hr50).mono ?_⟩
   rintro _ s60 ⟨u60,rfl,h60,hO60,hN60,hP60⟩
   have hk57 : stateOk u57.x := h57 ▸ prune_ok hka _
   have hk60 : stateOk u60.x := h60 ▸ prune_ok hkb _
   refine ⟨_,rfl,(ac_impl_StateJoin u57 u60 s60 (hO57.rdS.pres hP60) hO60.rdS (big_ok hk57) (big_ok hk60)).mono ?_⟩
   rintro _ s61 ⟨u61,b61,rfl,h61,hO61,hN61,hP61⟩
   iterate 3 refine ⟨_,rfl,?_⟩
   refine ⟨_,Os rfl,?_⟩
   refine Cm 6 s61 [(2,vB false),Ml 5 2,(9,vS q50 u50.length),Ml 10 4,Ml 11 5] [(5,2,cSV u24),(10,4,cSV u53),(11,5,cSV u61)] fun _ _ => ?_
   have hx61 : u61.x = joinF u57.x u60.x 5 := by
    unfold joinP at h61
    rw [if_pos ⟨hk57,hk60⟩] at h61
    injection h61
   have hk61 : stateOk u61.x := by rw [hx61]; exact stateOk_join hk57 hk60
   have hP61' : Pres s53 s61 := (hP57.trans hP60).trans hP61
   refine ⟨_,Od rfl,?_⟩
   refine ⟨_,rfl,(ac_impl_Prune u61 q50 u50 s61 hO61.rdS (hR50.pres (hP53.trans hP61')) (big_ok hk61) hs50 hr50).mono ?_⟩
   rintro _ s66 ⟨u66,rfl,h66,hO66,hN66,hP66⟩
   refine ⟨_,rfl,?_⟩
   refine ⟨_,Os rfl,?_⟩
   refine Cm 7 s66 [(2,vB false),Ml 5 2,(9,vS q50 u50.length),Ml 10 4,Ml 13 6] [(5,2,cSV u24),(10,4,cSV u53),(13,6,cSV u66)] fun _ _ => ?_
   have hk53 : stateOk u53.x := h53 ▸ prune_ok hkj _
   have hxz : u53.x = u66.x := by
    rw [h53,h66,hx61,h57,h60,hxj]
    exact prune_order hka hkb hc50
   have hR53 := (hO53.rdS.pres hP61').pres hP66
   have hRj66 := (hRj.pres hP53).pres (hP61'.trans hP66)
   have hT66 := (hT50.pres hP53).pres (hP61'.trans hP66)
   refine ⟨_,Od rfl,?_⟩
   refine ⟨_,Od rfl,?_⟩
   refine ⟨_,rfl,(AC.tru (ac_spec_StateSame u53 u66 s66 hR53 hO66.rdS (big_ok hk53)) hxz).mono ?_⟩
   rintro _ s66 ⟨rfl,rfl⟩
   refine ⟨_,Od rfl,?_⟩
   refine ⟨_,rfl,(ac_impl_ViewText u53 s66 hR53 (big_ok hk53) hT66).mono ?_⟩
   rintro _ s72 ⟨rfl,hP72⟩
   refine ⟨hP72.2,?_⟩
   refine ⟨_,Od rfl,?_⟩
   refine ⟨ld_own rfl rfl rfl,?_⟩
   refine ⟨_,rfl,(ac_impl_ViewText u24 s72 (hRj66.pres hP72) hbj (hT66.pres hP72)).mono ?_⟩
   rintro _ s74 ⟨rfl,hP74⟩
   refine ⟨_,rfl,?_⟩
   rintro (_|_) h75
   ·exact absurd ((by rw [h53,view_prune hkj])) (str_bne h75)
   iterate 3 refine ⟨_,rfl,?_⟩
   rintro (_|_) h80
   ·exact absurd ((by omega)) (beq_eq_false_iff_ne.1 h80)
   refine ⟨_,rfl,?_⟩
   refine cxs ?_
   exact ⟨.inl rfl,_,rfl,rfl⟩
 ·replace h15 := of_decide_eq_true h15.symm
  refine Cm 0 st [(0,vS p bs.length),(2,vB false),(15,vB true)] [] fun _ _ => ?_
  refine cxs ?_
  exact ⟨.inl rfl,_,rfl,rfl⟩
end Go.Proofs.YteabadoaeadcgaaDoor.AM
