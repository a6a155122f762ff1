/- A part of the machine on which the law's proof rests. -/
import Derived.Test.YteabadoaeadcgaaDoorXpA12
namespace Go.Proofs.YteabadoaeadcgaaDoor.AM
open Go Go.RowKit
set_option linter.unusedVariables false
set_option linter.unusedSimpArgs false
abbrev vI (n : Int) : Value := .int .i64 n
abbrev vB (b : Bool) : Value := .bool b
abbrev vS (p : Option Addr) (n : Nat) : Value := .slice p n n
abbrev vP (a o : Nat) : Value := .pointer (some ⟨a,o,none⟩)
abbrev vL (t o g : Nat) : Value := .pointer (some ⟨t,o,some g⟩)
def Pr (p : Option Addr) (st st' : St) : Prop := st.next ≤ st'.next ∧ ∀ a,a < st.next → (∀ q,p = some q → a ≠ q.block) → st'.mem a = st.mem a
def Pres (st st' : St) : Prop := st.next ≤ st'.next ∧ ∀ a,a < st.next → st'.mem a = st.mem a
def New (n : Nat) (p : Option Addr) : Prop := ∀ q,p = some q → n ≤ q.block
def Dis (p q : Option Addr) : Prop := ∀ a b,p = some a → q = some b → a.block ≠ b.block
def Old (n : Nat) (p : Option Addr) : Prop := ∀ q,p = some q → q.block < n
theorem Pres.refl (st : St) : Pres st st := ⟨Nat.le_refl _,fun _ _ => rfl⟩
theorem Pres.trans {a b c : St} (h : Pres a b) (k : Pres b c) : Pres a c := ⟨Nat.le_trans h.1 k.1,fun x hx => (k.2 x (Nat.lt_of_lt_of_le hx h.1)).trans (h.2 x hx)⟩
theorem Pres.push {st : St} {z : Nat} {cs : List Value} : Pres st (st.push z cs) := ⟨Nat.le_succ _,fun a ha => by show (if a = st.next then _ else st.mem a) = st.mem a; rw [if_neg (Nat.ne_of_lt ha)]⟩
theorem Pres.pr {p : Option Addr} {st st' : St} (h : Pres st st') : Pr p st st' := ⟨h.1,fun a ha _ => h.2 a ha⟩
theorem Pr.refl (p : Option Addr) (st : St) : Pr p st st := ⟨Nat.le_refl _,fun _ _ _ => rfl⟩
theorem Pr.trans {p : Option Addr} {a b c : St} (h : Pr p a b) (k : Pr p b c) : Pr p a c := ⟨Nat.le_trans h.1 k.1,fun x hx hn => (k.2 x (Nat.lt_of_lt_of_le hx h.1) hn).trans (h.2 x hx hn)⟩
theorem Pr.pres {p : Option Addr} {st0 st st' : St} (h : Pr p st st') (h0 : Pres st0 st) (hn : New st0.next p) : Pres st0 st' :=
 ⟨Nat.le_trans h0.1 h.1,fun a ha => (h.2 a (Nat.lt_of_lt_of_le ha h0.1) fun q hq => by have := hn q hq; omega).trans (h0.2 a ha)⟩
theorem Pr.then {p q : Option Addr} {st0 st st' : St} (h : Pr q st st') (h0 : Pr p st0 st) (hn : New st0.next q) : Pr p st0 st' :=
 ⟨Nat.le_trans h0.1 h.1,fun a ha hp => (h.2 a (Nat.lt_of_lt_of_le ha h0.1) fun r hr => by have := hn r hr; omega).trans (h0.2 a ha hp)⟩
theorem New.self {n : Nat} : New n (some ⟨n,0,none⟩) := fun q hq => by injection hq with hq; rw [← hq]; exact Nat.le_refl _
theorem New.none {n : Nat} : New n none := fun q hq => by cases hq
theorem New.le {n m : Nat} {p : Option Addr} (h : New m p) (hm : n ≤ m) : New n p := fun q hq => Nat.le_trans hm (h q hq)
theorem Old.le {n m : Nat} {p : Option Addr} (h : Old n p) (hm : n ≤ m) : Old m p := fun q hq => Nat.lt_of_lt_of_le (h q hq) hm
theorem Old.some {n c o : Nat} (h : c < n) : Old n (some ⟨c,o,none⟩) := fun q hq => by injection hq with hq; subst hq; exact h
theorem Old.none {n : Nat} : Old n none := fun q hq => by cases hq
theorem Dis.of {n : Nat} {p q : Option Addr} (h : Old n p) (k : New n q) : Dis p q := fun a b ha hb hab => by have := h a ha; have := k b hb; omega
theorem Dis.symm {p q : Option Addr} (h : Dis p q) : Dis q p := fun a b ha hb hab => h b a hb ha hab.symm
theorem Dis.none {p : Option Addr} : Dis none p := fun a b ha => by cases ha
section
variable {α : Type}
def Rows (st : St) (z : Nat) (f : α → List Value) (p : Option Addr) (l : List α) : Prop :=
 l = [] ∨ ∃ b off blk,p = some ⟨b,off,none⟩ ∧ st.mem b = some blk ∧ b < st.next ∧ ∀ j x,l[j]? = some x → (blk.cells.drop (off + j * z)).take z = f x
def OwnR (st : St) (z : Nat) (f : α → List Value) (p : Option Addr) (l : List α) : Prop :=
 (p = none ∧ l = []) ∨ ∃ a,p = some ⟨a,0,none⟩ ∧ a < st.next ∧ st.mem a = some ⟨true,z,l.flatMap f⟩
variable {st st' : St} {z : Nat} {f : α → List Value} {p q : Option Addr} {l : List α}
theorem Rows.at (h : Rows st z f p l) {j : Nat} (hj : j < l.length) : ∃ b off blk x,p = some ⟨b,off,none⟩ ∧ l[j]? = some x ∧ st.mem b = some blk ∧ (blk.cells.drop (off + j * z)).take z = f x := by
 rcases h with rfl | ⟨b,off,blk,h1,h2,_,h3⟩
 ·cases hj
 ·exact ⟨b,off,blk,l[j],h1,List.getElem?_eq_getElem hj,h2,h3 j _ (List.getElem?_eq_getElem hj)⟩
theorem Rows.nil : Rows st z f p [] := .inl rfl
theorem OwnR.nil : OwnR st z f none [] := .inl ⟨rfl,rfl⟩
theorem OwnR.old (h : OwnR st z f p l) : Old st.next p := by
 rcases h with ⟨rfl,_⟩ | ⟨a,rfl,ha,_⟩
 ·exact Old.none
 ·exact fun q hq => by injection hq with hq; rw [← hq]; exact ha
theorem flat_at {l : List α} (hz : ∀ x,(f x).length = z) : ∀ {l : List α} {j : Nat} {x : α},l[j]? = some x → ((l.flatMap f).drop (j * z)).take z = f x := by
 intro l
 induction l with
 | nil => intro j x h; simp at h
 | cons a l ih =>
  intro j x h
  rw [List.flatMap_cons]
  cases j with
  | zero =>
   simp only [List.getElem?_cons_zero,Option.some.injEq] at h
   subst h
   simp [List.take_append,hz]
  | succ j =>
   simp only [List.getElem?_cons_succ] at h
   have h1 : (f a ++ l.flatMap f).drop ((j + 1) * z) = (l.flatMap f).drop (j * z) := by
    rw [Nat.succ_mul,Nat.add_comm,← List.drop_drop]
    congr 1
    rw [← hz a]; simp
   rw [h1]
   exact ih h
theorem flat_len (hz : ∀ x,(f x).length = z) : ∀ (l : List α),(l.flatMap f).length = l.length * z
 | [] => by simp
 | a :: l => by rw [List.flatMap_cons,List.length_append,hz,flat_len hz l,List.length_cons,Nat.succ_mul,Nat.add_comm]
theorem OwnR.rows (hz : ∀ x,(f x).length = z) (h : OwnR st z f p l) : Rows st z f p l := by
 rcases h with ⟨_,rfl⟩ | ⟨a,rfl,ha,hm⟩
 ·exact .inl rfl
 ·refine .inr ⟨a,0,_,rfl,hm,ha,fun j x hx => ?_⟩
  rw [Nat.zero_add]
  exact flat_at (l := l) hz hx
theorem Pres.rows (h : Pres st st') (hi : Rows st z f p l) : Rows st' z f p l := by
 rcases hi with hi | ⟨b,off,blk,rfl,hm,hb,hc⟩
 ·exact .inl hi
 ·exact .inr ⟨b,off,blk,rfl,(h.2 b hb).trans hm,Nat.lt_of_lt_of_le hb h.1,hc⟩
theorem Pr.rows (h : Pr q st st') (hd : Dis q p) (hi : Rows st z f p l) : Rows st' z f p l := by
 rcases hi with hi | ⟨b,off,blk,rfl,hm,hb,hc⟩
 ·exact .inl hi
 ·exact .inr ⟨b,off,blk,rfl,(h.2 b hb fun q hq he => hd q _ hq rfl he.symm).trans hm,Nat.lt_of_lt_of_le hb h.1,hc⟩
theorem Pr.ownR (h : Pr q st st') (hd : Dis q p) (hi : OwnR st z f p l) : OwnR st' z f p l := by
 rcases hi with hi | ⟨a,rfl,ha,hm⟩
 ·exact .inl hi
 ·exact .inr ⟨a,rfl,Nat.lt_of_lt_of_le ha h.1,(h.2 a ha fun q hq he => hd q _ hq rfl he.symm).trans hm⟩
theorem Pres.ownR (h : Pres st st') (hi : OwnR st z f p l) : OwnR st' z f p l := (Pres.pr (p := none) h).ownR Dis.none hi
theorem OwnR.push : OwnR (st.push z (l.flatMap f)) z f (some ⟨st.next,0,none⟩) l := .inr ⟨_,rfl,Nat.lt_succ_self _,by show (if st.next = st.next then _ else _ : Option Blk) = _; rw [if_pos rfl]⟩
theorem OwnR.len0 (h : OwnR st z f none l) : l = [] := by
 rcases h with ⟨_,h⟩ | ⟨a,h,_⟩
 ·exact h
 ·cases h
theorem Rows.drop {a o : Nat} (h : Rows st z f (some ⟨a,o,none⟩) l) (i : Nat) : Rows st z f (some ⟨a,o + i * z,none⟩) (l.drop i) := by
 rcases h with rfl | ⟨b,off,blk,h1,h2,h3,h4⟩
 ·exact .inl (by simp)
 ·injection h1 with h1
  injection h1 with h1 h5 h6
  subst h1 h5
  refine .inr ⟨a,_,blk,rfl,h2,h3,fun j x hx => ?_⟩
  have := h4 (i + j) x (by rw [← List.getElem?_drop]; exact hx)
  rw [← this,Nat.add_mul,Nat.add_assoc]
theorem Rows.take (h : Rows st z f p l) (i : Nat) : Rows st z f p (l.take i) := by
 rcases h with rfl | ⟨b,off,blk,h1,h2,h3,h4⟩
 ·exact .inl (by simp)
 ·refine .inr ⟨b,off,blk,h1,h2,h3,fun j x hx => h4 j x ?_⟩
  rw [List.getElem?_take] at hx
  split at hx
  ·exact hx
  ·cases hx
end
theorem splice_mid : ∀ (vs pre cs suf : List Value),cs.length = vs.length → splice (pre ++ (cs ++ suf)) pre.length vs = pre ++ (vs ++ suf)
 | [],pre,cs,suf,h => by rw [List.length_eq_zero_iff.1 h]; rfl
 | v :: vs,pre,[],suf,h => by simp at h
 | v :: vs,pre,c :: cs,suf,h => by
  have h2 : (pre ++ (c :: cs ++ suf)).set pre.length v = (pre ++ [v]) ++ (cs ++ suf) := by simp
  have := splice_mid vs (pre ++ [v]) cs suf (by simpa using h)
  rw [List.length_append,List.length_singleton] at this
  rw [splice,h2,this]
  simp
theorem flat_set {α : Type} {f : α → List Value} {z : Nat} (hz : ∀ x,(f x).length = z) : ∀ {l : List α} {j : Nat} {x : α},j < l.length → ∃ pre cs suf,l.flatMap f = pre ++ (cs ++ suf) ∧ pre.length = j * z ∧ l[j]?.map f = some cs ∧ (l.set j x).flatMap f = pre ++ (f x ++ suf)
 | [],j,x,h => by cases h
 | a :: l,0,x,h => ⟨[],f a,l.flatMap f,by simp,by simp,by simp,by simp⟩
 | a :: l,j + 1,x,h => by
  obtain ⟨pre,cs,suf,h1,h2,h3,h4⟩ := flat_set hz (l := l) (j := j) (x := x) (by simpa using h)
  refine ⟨f a ++ pre,cs,suf,by simp [h1],by simp [hz,h2,Nat.succ_mul,Nat.add_comm],by simpa using h3,by simp [h4]⟩
theorem flat_splice {α : Type} {f : α → List Value} {z : Nat} (hz : ∀ x,(f x).length = z) {l : List α} {j : Nat} {x : α} (hj : j < l.length) : splice (l.flatMap f) (j * z) (f x) = (l.set j x).flatMap f := by
 obtain ⟨pre,cs,suf,h1,h2,h3,h4⟩ := flat_set hz (l := l) (j := j) (x := x) hj
 rw [h1,h4,← h2]
 obtain ⟨y,_,hy⟩ := Option.map_eq_some_iff.1 h3
 exact splice_mid _ _ _ _ (by rw [← hy,hz,hz])
def mkp : Nat → List Value → List (Nat × Value)
 | _,[] => []
 | i,v :: vs => (i,v) :: mkp (i + 1) vs
theorem afill_mkp {z : Nat} : ∀ (vs : List Value) (i : Nat) (pre cs : List Value),(∀ v ∈ vs,v.cells.toList.length = z ∧ v.cells.toList.all isCell = true) → pre.length = i * z → cs.length = vs.length * z →
  afill (fun i => some (i * z,z)) (pre ++ cs) (mkp i vs) = some (pre ++ vs.flatMap fun v => v.cells.toList)
 | [],i,pre,cs,hv,hp,hc => by
  have : cs = [] := List.length_eq_zero_iff.1 (by simpa using hc)
  subst this
  simp [mkp,afill]
 | v :: vs,i,pre,cs,hv,hp,hc => by
  obtain ⟨h1,h2⟩ := hv v (List.mem_cons_self ..)
  have hlen : (vs.length + 1) * z = vs.length * z + z := Nat.succ_mul _ _
  simp only [List.length_cons] at hc
  rw [mkp,afill]
  simp only [Option.bind_some]
  rw [if_pos ⟨h1,by rw [List.length_append,hp,hc]; omega,h2⟩]
  have hs : splice (pre ++ cs) (i * z) v.cells.toList = (pre ++ v.cells.toList) ++ cs.drop z := by
   have := splice_mid v.cells.toList pre (cs.take z) (cs.drop z) (by rw [List.length_take,h1]; omega)
   rw [List.take_append_drop,hp] at this
   rw [this,List.append_assoc]
  rw [hs,afill_mkp vs (i + 1) _ _ (fun u hu => hv u (List.mem_cons_of_mem _ hu)) (by rw [List.length_append,hp,h1,Nat.succ_mul]) (by rw [List.length_drop,hc]; omega)]
  simp
theorem zrow_len {n : Nat} {z0 : List Value} : (zrow n z0).length = n * z0.length := by
 unfold zrow
 induction n with
 | zero => simp
 | succ n ih => rw [List.replicate_succ,List.flatten_cons,List.length_append,ih,Nat.succ_mul,Nat.add_comm]
section
variable {P : Program} {ls : List Tmp} {call : ACallT} {o : Oper} {e : Operand → Value} {lo : Lo} {st : St} {K : Value × Lo × St → Prop} {α : Type} {f : α → List Value} {z : Nat}
theorem op_lit {t el : TypeId} {n : Nat} {ps : Array (Nat × Operand)} {vs : List Value} {z0 : List Value} (ho : o.op = .buildSlice t n ps) (hp : parts e ps = mkp 0 vs) (hn : n = vs.length) (hnz : 0 < n) (he : telem P t = some el) (hz : tsize P el = some z) (hz0 : tzero P el = some z0) (h0 : 0 < z) (hu : z0.length = z) (hsz : n * z ≤ 16777216)
  (hv : ∀ v ∈ vs,v.cells.toList.length = z ∧ v.cells.toList.all isCell = true)
  (hK : K (.slice (some ⟨st.next,0,none⟩) n n,lo,st.push z (vs.flatMap fun v => v.cells.toList))) : ∃ r,aoper P ls call o e lo st = some r ∧ K r := by
 refine ⟨_,?_,hK⟩
 obtain ⟨d,op,ty,pos,after,gd⟩ := o
 simp only at ho
 subst ho
 have h1 := afill_mkp (z := z) vs 0 [] (zrow n z0) hv (by simp) (by rw [zrow_len,hu,hn])
 simp only [List.nil_append] at h1
 simp only [aoper,alit,he,hz,hz0,hp,Option.bind_some,Option.bind]
 rw [if_neg (Nat.ne_of_gt hnz),if_pos ⟨hsz,h0,hu⟩,h1]
 rfl
theorem op_one {t el : TypeId} {x : Operand} {v : Value} {a : α} {z0 : List Value} (ho : o.op = .buildSlice t 1 #[(0,x)]) (hx : e x = v) (he : telem P t = some el) (hz : tsize P el = some z) (hz0 : tzero P el = some z0) (h0 : 0 < z) (hu : z0.length = z) (hsz : z ≤ 16777216) (hv : v.cells.toList = f a) (hl : (f a).length = z) (hc : (f a).all isCell = true)
  (hK : K (.slice (some ⟨st.next,0,none⟩) 1 1,lo,st.push z ([a].flatMap f))) : ∃ r,aoper P ls call o e lo st = some r ∧ K r := by
 subst hx
 refine op_lit (vs := [e x]) ho rfl rfl Nat.one_pos he hz hz0 h0 hu (by omega) (fun v hv' => ?_) ?_
 ·rw [List.mem_singleton.1 hv',hv]; exact ⟨hl,hc⟩
 ·simpa [hv] using hK
theorem op_nil {t el : TypeId} {z0 : List Value} (ho : o.op = .buildSlice t 0 #[]) (he : telem P t = some el) (hz : tsize P el = some z) (hz0 : tzero P el = some z0) (h0 : 0 < z) (hu : z0.length = z)
  (hK : K (.slice none 0 0,lo,st)) : ∃ r,aoper P ls call o e lo st = some r ∧ K r := by
 refine ⟨_,?_,hK⟩
 obtain ⟨d,op,ty,pos,after,gd⟩ := o
 simp only at ho
 subst ho
 simp [aoper,rop,litNil,he,hz,h0]
theorem take_rows {l : List α} {cs : List Value} {off : Nat} (hz : ∀ x,(f x).length = z) : ∀ {l : List α} {off : Nat},(∀ j x,l[j]? = some x → (cs.drop (off + j * z)).take z = f x) → (cs.drop off).take (l.length * z) = l.flatMap f := by
 intro l
 induction l with
 | nil => intro off _; simp
 | cons a l ih =>
  intro off h
  have h1 := h 0 a rfl
  rw [Nat.zero_mul,Nat.add_zero] at h1
  have h2 := ih (off := off + z) fun j x hx => by
   have := h (j + 1) x (by simpa using hx)
   rw [← this,Nat.succ_mul,Nat.add_assoc,Nat.add_comm z]
  rw [List.length_cons,Nat.succ_mul,Nat.add_comm,List.take_add,h1,List.drop_drop,h2,List.flatMap_cons]
theorem src_rows {l : List α} {q : Option Addr} (hz : ∀ x,(f x).length = z) (h : Rows st z f q l) : asrc z (rdB lo st) (.slice q l.length l.length) = some (l.length,l.flatMap f) := by
 rcases h with rfl | ⟨b,off,blk,rfl,hm,_,hc⟩
 ·cases q <;> simp [asrc]
 ·by_cases h0 : l.length = 0
  ·have := List.length_eq_zero_iff.1 h0
   subst this
   simp [asrc]
  ·have := take_rows (l := l) (cs := blk.cells) (off := off) hz hc
   simp only [asrc,rdB,hm,Option.map_some,Option.bind_some]
   rw [if_neg h0,this,if_pos (flat_len hz l)]
theorem op_app {c : Call} {t el : TypeId} {ov ox : Operand} {p q : Option Addr} {l l2 : List α} {n m b : Nat} {z0 : List Value}
  (hat : c.argTypes.toList = [t,t]) (har : c.args.toList = [ov,ox]) (he : telem P t = some el) (hzz : tsize P el = some z) (hb : tbytes P el = some b) (hz0 : tzero P el = some z0) (hz1 : z0.length = z) (h0 : 0 < z) (hz : ∀ x,(f x).length = z)
  (hov : e ov = .slice p n n) (hox : e ox = .slice q m m) (hn : n = l.length) (hm : m = l2.length) (hl : (n + m) * b ≤ 140737488355328) (hml : n + m ≤ maxLen)
  (hown : OwnR st z f p l) (hint : Rows st z f q l2)
  (hK : ∀ q st',OwnR st' z f q (l ++ l2) → Pr p st st' → (q = p ∧ l2 = [] ∧ st' = st ∨ 0 < m ∧ New st.next q) → K (.slice q (n + m) (n + m),lo,st')) : ∃ r,aappend P c e lo st = some r ∧ K r := by
 subst hn hm
 have hsrc := src_rows (lo := lo) hz hint
 have hred : aappend P c e lo st = (aapp z l2.length b (.slice p l.length l.length) (l2.flatMap f) st).map fun r => (r.1,lo,r.2) := by
  simp [aappend,hat,har,he,hzz,hb,hz0,hz1,hov,hox,hsrc]
 rw [hred]
 unfold aapp
 simp only
 rw [if_pos ⟨hl,hml,h0,flat_len hz l2⟩]
 by_cases hl0 : l2.length = 0
 ·have : l2 = [] := List.length_eq_zero_iff.1 hl0
  subst this
  exact ⟨_,by simp,hK p st (by simpa using hown) (Pr.refl _ _) (.inl ⟨rfl,rfl,rfl⟩)⟩
 ·rw [if_neg hl0]
  rcases hown with ⟨rfl,rfl⟩ | ⟨a,rfl,ha,hmem⟩
  ·refine ⟨_,rfl,?_⟩
   have := hK (some ⟨st.next,0,none⟩) (st.push z (l2.flatMap f)) OwnR.push Pres.push.pr (.inr ⟨by omega,New.self⟩)
   simpa using this
  ·simp only [hmem]
   rw [if_pos ⟨trivial,trivial,trivial,trivial,flat_len hz l⟩]
   refine ⟨_,rfl,hK (some ⟨st.next,0,none⟩) ((st.set a none).push z (l.flatMap f ++ l2.flatMap f)) (.inr ⟨_,rfl,Nat.lt_succ_self _,?_⟩) ⟨Nat.le_succ _,fun x hx hne => ?_⟩ (.inr ⟨by omega,New.self⟩)⟩
   ·simp [St.push,St.set]
   ·show (if x = st.next then _ else if x = a then none else st.mem x) = _
    rw [if_neg (by omega),if_neg (hne _ rfl)]
theorem op_add {c : Call} {t el : TypeId} {ov ox : Operand} {p : Option Addr} {l : List α} {x : α} {n b : Nat} {z0 : List Value}
  (hat : c.argTypes.toList = [t,t]) (har : c.args.toList = [ov,ox]) (he : telem P t = some el) (hzz : tsize P el = some z) (hb : tbytes P el = some b) (hz0 : tzero P el = some z0) (hz1 : z0.length = z) (h0 : 0 < z) (hz : ∀ x,(f x).length = z)
  (hov : e ov = .slice p n n) (hox : e ox = .slice (some ⟨st.next,0,none⟩) 1 1) (hn : n = l.length) (hl : (n + 1) * b ≤ 140737488355328) (hml : n + 1 ≤ maxLen)
  (hown : OwnR st z f p l)
  (hK : ∀ q st',OwnR st' z f q (l ++ [x]) → Pr p st st' → New st.next q → K (.slice q (n + 1) (n + 1),lo,st')) : ∃ r,aappend P c e lo (st.push z ([x].flatMap f)) = some r ∧ K r := by
 have hp1 : Pres st (st.push z ([x].flatMap f)) := Pres.push
 refine op_app (l := l) (l2 := [x]) hat har he hzz hb hz0 hz1 h0 hz hov hox hn rfl hl hml (hp1.ownR hown) (OwnR.push.rows hz) fun q st' h1 h2 h3 => ?_
 refine hK q st' h1 ⟨Nat.le_trans hp1.1 h2.1,fun a ha hne => (h2.2 a (Nat.lt_of_lt_of_le ha hp1.1) hne).trans (hp1.2 a ha)⟩ ?_
 rcases h3 with ⟨_,h,_⟩ | ⟨_,h⟩
 ·cases h
 ·exact h.le hp1.1
theorem op_lda {t : TypeId} {x : Operand} {p : Addr} {blk : Blk} {r : List Value} (ho : o.op = .load t x) (hx : e x = .pointer (some p)) (hs : p.spot = none) (ht : tagg P t = some true) (hz : tsize P t = some z) (hm : st.mem p.block = some blk) (hc : (blk.cells.drop p.off).take z = r) (hr : r.length = z) : aoper P ls call o e lo st = some (.agg r.toArray,lo,st) := by
 obtain ⟨d,op,ty,pos,after,gd⟩ := o
 simp only at ho
 subst ho
 simp only [aoper,rop,hx,hs,rdB,hm,aload,ht,hz,hc,hr,Option.map_some,Option.bind_some,if_true]
theorem row_cell {cs r : List Value} {d i : Nat} {v : Value} (hc : (cs.drop d).take z = r) (hi : r[i]? = some v) : cs[d + i]? = some v := by
 subst hc
 rw [List.getElem?_take] at hi
 split at hi
 ·rw [← List.getElem?_drop]; exact hi
 ·cases hi
theorem op_ldc {t : TypeId} {x : Operand} {p : Addr} {blk : Blk} {r : List Value} {v : Value} {d i : Nat} (ho : o.op = .load t x) (hx : e x = .pointer (some p)) (hs : p.spot = none) (ht : tagg P t = some false) (hm : st.mem p.block = some blk) (hc : (blk.cells.drop d).take z = r) (hi : r[i]? = some v) (hd : p.off = d + i) : aoper P ls call o e lo st = some (v,lo,st) :=
 op_ld ho hx hs ht hm (by rw [hd]; exact row_cell hc hi)
theorem op_sta {t : TypeId} {x u : Operand} {p : Addr} {blk : Blk} {v : Value} (ho : o.op = .store t x u) (hx : e x = .pointer (some p)) (hu : e u = v) (hs : p.spot = none) (ht : tsize P t = some z) (hv : v.cells.toList.length = z) (hi : v.cells.toList.all isCell = true) (hm : st.mem p.block = some blk) (hr : blk.rw = true) (hl : p.off + z ≤ blk.cells.length)
  (hK : ∀ st',st'.mem p.block = some ⟨true,blk.esz,splice blk.cells p.off v.cells.toList⟩ → st'.next = st.next → (∀ a,a ≠ p.block → st'.mem a = st.mem a) → K (undef,lo,st')) : ∃ r,aoper P ls call o e lo st = some r ∧ K r := by
 refine ⟨(undef,lo,st.set p.block (some ⟨true,blk.esz,splice blk.cells p.off v.cells.toList⟩)),?_,hK _ (by simp [St.set]) rfl (fun a ha => by simp [St.set,ha])⟩
 obtain ⟨d,op,ty,pos,after,gd⟩ := o
 simp only at ho
 subst ho
 subst hv
 simp only [aoper,astore,hx,hu,hs,hm]
 rw [if_pos ⟨ht,hi⟩,if_pos ⟨hr,hl⟩]
theorem op_put {t : TypeId} {x u : Operand} {p : Option Addr} {a d : Nat} {l : List α} {j : Nat} {y : α} {v : Value} (ho : o.op = .store t x u) (hx : e x = .pointer (some ⟨a,d,none⟩)) (hd : d = j * z) (hu : e u = v) (ht : tsize P t = some z) (hz : ∀ x,(f x).length = z) (hv : v.cells.toList = f y) (hi : (f y).all isCell = true) (hj : j < l.length)
  (hown : OwnR st z f p l) (hp : p = some ⟨a,0,none⟩)
  (hK : ∀ st',OwnR st' z f p (l.set j y) → Pr p st st' → st'.next = st.next → K (undef,lo,st')) : ∃ r,aoper P ls call o e lo st = some r ∧ K r := by
 subst hp hd
 rcases hown with ⟨h,_⟩ | ⟨a',h,ha,hm⟩
 ·cases h
 injection h with h
 injection h with h _ _
 subst h
 have hlen := flat_len hz l
 have hle : j * z + z ≤ l.length * z := by rw [← Nat.succ_mul]; exact Nat.mul_le_mul_right _ hj
 refine op_sta ho hx hu rfl ht (by rw [hv]; exact hz y) (by rw [hv]; exact hi) hm rfl (by show j * z + z ≤ (l.flatMap f).length; omega) fun st' h1 h2 h3 => hK st' (.inr ⟨a,rfl,by omega,?_⟩) ⟨Nat.le_of_eq h2.symm,fun b _ hne => h3 b (fun hb => hne _ rfl hb)⟩ h2
 rw [h1]
 show some (Blk.mk true z (splice (l.flatMap f) (j * z) v.cells.toList)) = _
 rw [hv,flat_splice hz hj]
theorem op_litI {t el : TypeId} {n : Nat} {ps : Array (Nat × Operand)} {k : IntKind} {l : List Int} {u : Value} (ho : o.op = .buildSlice t n ps) (hp : parts e ps = mkp 0 (l.map (Value.int k))) (hn : n = l.length) (he : telem P t = some el) (hz : tsize P el = some 1) (hz0 : tzero P el = some [u]) (hsz : n ≤ 16777216)
  (hK : ∀ q st',OwnR st' 1 (fun x => [Value.int k x]) q l → Pres st st' → New st.next q → K (.slice q n n,lo,st')) : ∃ r,aoper P ls call o e lo st = some r ∧ K r := by
 rcases Nat.eq_zero_or_pos n with h0 | h0
 ·obtain rfl : l = [] := List.length_eq_zero_iff.1 (hn.symm.trans h0)
  have hps : ps = #[] := by
   have := congrArg List.length hp
   simp [parts,mkp] at this
   exact this
  subst hps h0
  exact op_nil ho he hz hz0 Nat.one_pos rfl (hK _ _ (.inl ⟨rfl,rfl⟩) (Pres.refl _) New.none)
 refine op_lit ho hp (by rw [hn,List.length_map]) h0 he hz hz0 Nat.one_pos rfl (by omega) (fun v hv => ?_) ?_
 ·obtain ⟨x,_,rfl⟩ := List.mem_map.1 hv
  exact ⟨rfl,rfl⟩
 ·have h1 : ((l.map (Value.int k)).flatMap fun v => v.cells.toList) = l.flatMap fun x => [Value.int k x] := by rw [List.flatMap_map]; rfl
  rw [h1]
  exact hK _ _ OwnR.push Pres.push New.self
theorem op_nilK {t el : TypeId} {z0 : List Value} (ho : o.op = .buildSlice t 0 #[]) (he : telem P t = some el) (hz : tsize P el = some z) (hz0 : tzero P el = some z0) (h0 : 0 < z) (hu : z0.length = z)
  (hK : ∀ q st',OwnR st' z f q [] → Pres st st' → New st.next q → K (.slice q 0 0,lo,st')) : ∃ r,aoper P ls call o e lo st = some r ∧ K r :=
 op_nil ho he hz hz0 h0 hu (hK _ _ (.inl ⟨rfl,rfl⟩) (Pres.refl _) New.none)
theorem OwnR.some {p : Option Addr} {l : List α} (h : OwnR st z f p l) (hl : 0 < l.length) : ∃ a,p = Option.some ⟨a,0,none⟩ := by
 rcases h with ⟨_,rfl⟩ | ⟨a,rfl,_⟩
 ·cases hl
 ·exact ⟨a,rfl⟩
theorem op_mk {t el : TypeId} {x : Operand} {y : Operand} {k k' : IntKind} {n m : Int} {i : Nat} {a : α} {b : Nat} {z0 : List Value} (ho : o.op = .makeSlice t x y) (hx : e x = .int k n) (hy : e y = .int k' m) (hn : n = i) (hm : m = i) (he : telem P t = some el) (hzz : tsize P el = some z) (hb : tbytes P el = some b) (hz0 : tzero P el = some z0) (h0 : 0 < z) (hz1 : z0.length = z) (hf : f a = z0) (hl : i * b ≤ 140737488355328) (hml : i ≤ 9223372036854775807)
  (hK : K (.slice (some ⟨st.next,0,none⟩) i i,lo,st.push z ((List.replicate i a).flatMap f))) : ∃ r,aoper P ls call o e lo st = some r ∧ K r := by
 subst hn hm hf
 have h1 : (List.replicate i a).flatMap f = zrow i (f a) := by simp [zrow,List.flatMap_replicate]
 rw [h1] at hK
 refine ⟨_,?_,hK⟩
 obtain ⟨d,op,ty,pos,after,gd⟩ := o
 simp only at ho
 subst ho
 simp only [aoper,amake,hx,hy,he,hzz,hb,hz0,Option.bind_some,Option.bind]
 rw [if_pos (show (True ∧ 0 ≤ (i : Int) ∧ ((i : Int).toNat * b ≤ 140737488355328) ∧ (i : Int) ≤ 9223372036854775807 ∧ 0 < z ∧ (f a).length = z) from ⟨trivial,by omega,by simpa using hl,by omega,h0,hz1⟩)]
 simp
theorem op_ldo {t : TypeId} {x : Operand} {b off g : Nat} {cs : List Value} {v : Value} (ho : o.op = .load t x) (hx : e x = .pointer (Option.some ⟨b,off,Option.some g⟩)) (hl : lo.loc b = Option.some (g,cs)) (hv : aload P t cs off = Option.some v) : aoper P ls call o e lo st = Option.some (v,lo,st) := by
 obtain ⟨d,op,ty,pos,after,gd⟩ := o
 simp only at ho
 subst ho
 simp only [aoper,rop,hx,rdB,hl,if_true,Option.bind_some,hv,Option.map_some]
theorem op_sto {t : TypeId} {x u : Operand} {b off g : Nat} {cs : List Value} {v : Value} (ho : o.op = .store t x u) (hx : e x = .pointer (Option.some ⟨b,off,Option.some g⟩)) (hu : e u = v) (hl : lo.loc b = Option.some (g,cs)) (hz : tsize P t = Option.some v.cells.toList.length) (hi : v.cells.toList.all isCell = true) (hb : Nat.ble (off + v.cells.toList.length) cs.length = true) : aoper P ls call o e lo st = Option.some (undef,lo.set b g (splice cs off v.cells.toList),st) := by
 obtain ⟨d,op,ty,pos,after,gd⟩ := o
 simp only at ho
 subst ho
 simp only [aoper,astore,hx,hu,hl]
 rw [if_pos ⟨hz,hi⟩,if_pos ⟨trivial,Nat.le_of_ble_eq_true hb⟩]
theorem op_mkK {t el : TypeId} {x : Operand} {y : Operand} {k k' : IntKind} {n m : Int} {i : Nat} {a : α} {b : Nat} {z0 : List Value} (ho : o.op = .makeSlice t x y) (hx : e x = .int k n) (hy : e y = .int k' m) (hn : n = i) (hm : m = i) (he : telem P t = some el) (hzz : tsize P el = some z) (hb : tbytes P el = some b) (hz0 : tzero P el = some z0) (h0 : 0 < z) (hz1 : z0.length = z) (hf : f a = z0) (hl : i * b ≤ 140737488355328) (hml : i ≤ 9223372036854775807)
  (hK : ∀ q st',OwnR st' z f q (List.replicate i a) → Pres st st' → New st.next q → K (.slice q i i,lo,st')) : ∃ r,aoper P ls call o e lo st = some r ∧ K r :=
 op_mk ho hx hy hn hm he hzz hb hz0 h0 hz1 hf hl hml (hK _ _ OwnR.push Pres.push New.self)
end
end Go.Proofs.YteabadoaeadcgaaDoor.AM
