/- A part of the machine on which the law's proof rests. -/
import Derived.Test.YteabadoaeadcgaaDoorXpA1
namespace Go.Proofs.YteabadoaeadcgaaDoor.AM
open Go Go.RowKit
set_option linter.unusedVariables false
set_option linter.unusedSimpArgs false
structure Inj where
 h : Nat → Nat × Nat
 cap : Nat → Nat
 n : Nat
 l : Nat → Nat → Nat
 g : Nat
def Inj.base (ι : Inj) : Inj := { ι with g := 0 }
def tr (ι : Inj) (p : Addr) : Addr := match p.spot with
 | none => ⟨(ι.h p.block).1,(ι.h p.block).2 + p.off,none⟩
 | some g => ⟨ι.l p.block g,p.off,none⟩
def okA (ι : Inj) (p : Addr) : Prop := match p.spot with
 | none => p.block < ι.n
 | some g => g < ι.g
def VR0 (ι : Inj) (x y : Value) : Prop := match x with
 | .bool b => y = .bool b
 | .int k n => y = .int k n
 | .string s => y = .string s
 | .pointer none => y = .pointer none
 | .pointer (some p) => okA ι p ∧ y = .pointer (some (tr ι p))
 | .slice p n _ => ∃ q c,y = .slice q n c ∧ n ≤ c ∧ c ≤ maxLen ∧ (c = 0 ∨ ∃ a,p = some a ∧ okA ι a ∧ a.spot = none ∧ q = some (tr ι a) ∧ (a.off = 0 → c ≤ ι.cap a.block))
 | .nilFunc => y = .nilFunc
 | .func fn a b => a = #[] ∧ b = #[] ∧ y = .func fn #[] #[]
 | _ => False
def VR1 (ι : Inj) (x y : Value) : Prop := match x with
 | .agg cs => ∃ ds,y = .agg ds ∧ ds.size = cs.size ∧ ∀ (i : Nat) (u : Value),cs[i]? = some u → ∃ v : Value,ds[i]? = some v ∧ VR0 ι u v
 | x => VR0 ι x y
def VR (ι : Inj) (x y : Value) : Prop := match x with
 | .tuple vs => vs.size = 0 ∨ ∃ us,y = .tuple us ∧ us.size = vs.size ∧ ∀ (i : Nat) (u : Value),vs[i]? = some u → ∃ v : Value,us[i]? = some v ∧ VR1 ι u v
 | .chan none => y = undef
 | x => VR1 ι x y
structure Ext (ι ι' : Inj) : Prop where
 n : ι.n ≤ ι'.n
 g : ι.g ≤ ι'.g
 h : ∀ a,a < ι.n → ι'.h a = ι.h a
 cap : ∀ a,a < ι.n → ι'.cap a = ι.cap a
 l : ∀ t g,g < ι.g → ι'.l t g = ι.l t g
theorem Ext.refl (ι : Inj) : Ext ι ι := ⟨Nat.le_refl _,Nat.le_refl _,fun _ _ => rfl,fun _ _ => rfl,fun _ _ _ => rfl⟩
theorem Ext.trans {a b c : Inj} (h : Ext a b) (k : Ext b c) : Ext a c :=
 ⟨Nat.le_trans h.n k.n,Nat.le_trans h.g k.g,fun x hx => (k.h x (Nat.lt_of_lt_of_le hx h.n)).trans (h.h x hx),
  fun x hx => (k.cap x (Nat.lt_of_lt_of_le hx h.n)).trans (h.cap x hx),fun t g hg => (k.l t g (Nat.lt_of_lt_of_le hg h.g)).trans (h.l t g hg)⟩
theorem Ext.base {a b : Inj} (h : Ext a b) : Ext a.base b.base := ⟨h.n,Nat.le_refl _,h.h,h.cap,fun _ _ hg => absurd hg (Nat.not_lt_zero _)⟩
theorem Ext.ofBase (a : Inj) : Ext a.base a := ⟨Nat.le_refl _,Nat.zero_le _,fun _ _ => rfl,fun _ _ => rfl,fun _ _ _ => rfl⟩
theorem okA_mono {ι ι' : Inj} (h : Ext ι ι') {p : Addr} (hp : okA ι p) : okA ι' p ∧ tr ι' p = tr ι p := by
 unfold okA tr at *
 cases hs : p.spot with
 | none => rw [hs] at hp; simp only at hp ⊢; rw [h.h _ hp]; exact ⟨Nat.lt_of_lt_of_le hp h.n,rfl⟩
 | some g => rw [hs] at hp; simp only at hp ⊢; rw [h.l _ _ hp]; exact ⟨Nat.lt_of_lt_of_le hp h.g,rfl⟩
theorem VR0_mono {ι ι' : Inj} (h : Ext ι ι') {x y : Value} (hx : VR0 ι x y) : VR0 ι' x y := by
 unfold VR0 at *
 split at hx
 case h_5 p => obtain ⟨h1,h2⟩ := hx; obtain ⟨h3,h4⟩ := okA_mono h h1; exact ⟨h3,by rw [h4]; exact h2⟩
 case h_6 p n _ =>
  obtain ⟨q,c,rfl,h1,h2,h3⟩ := hx
  refine ⟨q,c,rfl,h1,h2,?_⟩
  rcases h3 with h3 | ⟨a,rfl,ha,hs,rfl,hc⟩
  ·exact .inl h3
  ·obtain ⟨h4,h5⟩ := okA_mono h ha
   refine .inr ⟨a,rfl,h4,hs,by rw [h5],fun ho => ?_⟩
   rw [h.cap _ (by unfold okA at ha; rw [hs] at ha; exact ha)]
   exact hc ho
 all_goals exact hx
theorem VR1_mono {ι ι' : Inj} (h : Ext ι ι') {x y : Value} (hx : VR1 ι x y) : VR1 ι' x y := by
 unfold VR1 at *
 split at hx
 ·obtain ⟨ds,rfl,h1,h2⟩ := hx
  exact ⟨ds,rfl,h1,fun i u hu => by obtain ⟨v,hv,hr⟩ := h2 i u hu; exact ⟨v,hv,VR0_mono h hr⟩⟩
 ·exact VR0_mono h hx
theorem VR_mono {ι ι' : Inj} (h : Ext ι ι') {x y : Value} (hx : VR ι x y) : VR ι' x y := by
 unfold VR at *
 split at hx
 ·rcases hx with hx | ⟨us,rfl,h1,h2⟩
  ·exact .inl hx
  ·exact .inr ⟨us,rfl,h1,fun i u hu => by obtain ⟨v,hv,hr⟩ := h2 i u hu; exact ⟨v,hv,VR1_mono h hr⟩⟩
 ·exact hx
 ·exact VR1_mono h hx
theorem VR_bool {ι : Inj} {b : Bool} {y : Value} : VR ι (.bool b) y ↔ y = .bool b := Iff.rfl
theorem VR_int {ι : Inj} {k : IntKind} {n : Int} {y : Value} : VR ι (.int k n) y ↔ y = .int k n := Iff.rfl
theorem VR_string {ι : Inj} {s : ByteArray} {y : Value} : VR ι (.string s) y ↔ y = .string s := Iff.rfl
theorem VR_pointer {ι : Inj} {p : Addr} {y : Value} : VR ι (.pointer (some p)) y ↔ okA ι p ∧ y = .pointer (some (tr ι p)) := Iff.rfl
theorem VR_slice {ι : Inj} {p : Option Addr} {n c0 : Nat} {y : Value} : VR ι (.slice p n c0) y ↔
  ∃ q c,y = .slice q n c ∧ n ≤ c ∧ c ≤ maxLen ∧ (c = 0 ∨ ∃ a,p = some a ∧ okA ι a ∧ a.spot = none ∧ q = some (tr ι a) ∧ (a.off = 0 → c ≤ ι.cap a.block)) := Iff.rfl
theorem VR_agg {ι : Inj} {cs : Array Value} {y : Value} : VR ι (.agg cs) y ↔ ∃ ds,y = .agg ds ∧ ds.size = cs.size ∧ ∀ (i : Nat) (u : Value),cs[i]? = some u → ∃ v : Value,ds[i]? = some v ∧ VR0 ι u v := Iff.rfl
theorem VR_func {ι : Inj} {fn : Fn} {a b : Array Value} {y : Value} : VR ι (.func fn a b) y ↔ a = #[] ∧ b = #[] ∧ y = .func fn #[] #[] := Iff.rfl
theorem VR_skip (ι : Inj) : VR ι skipV undef := rfl
theorem VR_undef (ι : Inj) (y : Value) : VR ι undef y := Or.inl rfl
theorem VR0_of {ι : Inj} {x y : Value} (hx : isCell x = true) (h : VR ι x y) : VR0 ι x y := by
 cases x <;> first | (simp [isCell] at hx; done) | exact h
theorem VR_of0' {ι : Inj} {x y : Value} (h : VR0 ι x y) : VR ι x y := by
 cases x <;> first
  | exact h
  | exact h.elim
def frOk (fr : Nat × Nat) (n : Nat) : Prop := fr = (0,0) ∨ n ≤ fr.1
theorem frOk.free {fr : Nat × Nat} {n : Nat} (h : frOk fr n) : ∀ j,j < n → ¬ (fr.1 ≤ j ∧ j < fr.2) := by
 intro j hj
 rcases h with rfl | h
 ·simp
 ·omega
def HK (ι : Inj) (w : World) (a : Nat) (b : Blk) : Prop :=
 (∀ (i : Nat) (x : Value),b.cells[i]? = some x → ∃ y : Value,w.cell? ⟨(ι.h a).1,(ι.h a).2 + i,none⟩ = some y ∧ VR0 ι.base x y) ∧
 (b.rw = true → (ι.h a).2 = 0 ∧ ∃ c e fr,w.heap[(ι.h a).1]? = some (.cells c e fr) ∧ frOk fr c.size ∧ b.cells.length ≤ c.size ∧ ι.cap a * b.esz ≤ c.size) ∧
 (b.rw = false → b.esz = 1 → (ι.h a).2 = 0 ∧ ∃ c e fr,w.heap[(ι.h a).1]? = some (.cells c e fr) ∧ c.size = b.cells.length)
def LK (ι : Inj) (w : World) (t g : Nat) (cs : List Value) : Prop :=
 ∃ c e,w.heap[ι.l t g]? = some (.cells c e (0,0)) ∧ cs.length ≤ c.size ∧ ∀ (i : Nat) (x : Value),cs[i]? = some x → ∃ y : Value,c[i]? = some y ∧ VR0 ι.base x y
theorem HK.mono {ι ι' : Inj} {w w' : World} {a : Nat} {b : Blk} (h : HK ι w a b) (hE : Ext ι ι') (ha : a < ι.n) (hw : w'.heap[(ι.h a).1]? = w.heap[(ι.h a).1]?) : HK ι' w' a b := by
 refine ⟨fun i x hx => ?_,fun hr => ?_,fun hr hz => ?_⟩
 ·obtain ⟨y,hy,hv⟩ := h.1 i x hx
  refine ⟨y,?_,VR0_mono hE.base hv⟩
  rw [hE.h a ha]
  rw [World.cell?_of_block (w := w) (a := ⟨(ι.h a).1,(ι.h a).2 + i,none⟩) hw]
  exact hy
 ·rw [hE.h a ha,hE.cap a ha,hw]
  exact h.2.1 hr
 ·rw [hE.h a ha,hw]
  exact h.2.2 hr hz
theorem LK.mono {ι ι' : Inj} {w w' : World} {t g : Nat} {cs : List Value} (h : LK ι w t g cs) (hE : Ext ι ι') (ha : g < ι.g) (hw : w'.heap[ι.l t g]? = w.heap[ι.l t g]?) : LK ι' w' t g cs := by
 obtain ⟨c,e,hc,hl,hcell⟩ := h
 refine ⟨c,e,by rw [hE.l t g ha,hw]; exact hc,hl,fun i x hx => ?_⟩
 obtain ⟨y,hy,hv⟩ := hcell i x hx
 exact ⟨y,hy,VR0_mono hE.base hv⟩
structure Rel (ι : Inj) (lo : Lo) (st : St) (w : World) : Prop where
 n : ι.n = st.next
 g : ι.g = lo.gen
 lt : ∀ a b,st.mem a = some b → a < st.next
 hk : ∀ a b,st.mem a = some b → HK ι w a b
 lg : ∀ t g cs,lo.loc t = some (g,cs) → g < lo.gen
 lk : ∀ t g cs,lo.loc t = some (g,cs) → LK ι w t g cs
 hh : ∀ a b a' b',a ≠ a' → st.mem a = some b → st.mem a' = some b' → b.rw = true → (ι.h a).1 ≠ (ι.h a').1
 hl : ∀ a b t g cs,st.mem a = some b → lo.loc t = some (g,cs) → (ι.h a).1 ≠ ι.l t g
 ll : ∀ t g cs t' g' cs',t ≠ t' → lo.loc t = some (g,cs) → lo.loc t' = some (g',cs') → ι.l t g ≠ ι.l t' g'
 hb : ∀ a b,st.mem a = some b → (ι.h a).1 < w.heap.size
def img (ι : Inj) (lo : Lo) (st : St) (b : Nat) : Prop := (∃ a blk,st.mem a = some blk ∧ blk.rw = true ∧ (ι.h a).1 = b) ∨ (∃ t g cs,lo.loc t = some (g,cs) ∧ ι.l t g = b)
structure Frm (I : Nat → Prop) (w w' : World) : Prop where
 os : w'.os = w.os
 tape : w'.tape = w.tape
 output : w'.output = w.output
 size : w.heap.size ≤ w'.heap.size
 keep : ∀ b,b < w.heap.size → ¬ I b → w'.heap[b]? = w.heap[b]?
theorem Frm.refl (I : Nat → Prop) (w : World) : Frm I w w := ⟨rfl,rfl,rfl,Nat.le_refl _,fun _ _ _ => rfl⟩
theorem Frm.trans {I J : Nat → Prop} {a b c : World} (h : Frm I a b) (k : Frm J b c) (hJ : ∀ x,J x → I x ∨ a.heap.size ≤ x) : Frm I a c :=
 ⟨k.os.trans h.os,k.tape.trans h.tape,k.output.trans h.output,Nat.le_trans h.size k.size,fun x hx hI =>
  (k.keep x (Nat.lt_of_lt_of_le hx h.size) (fun hj => (hJ x hj).elim hI (fun hle => absurd hle (Nat.not_le_of_lt hx)))).trans (h.keep x hx hI)⟩
theorem Frm.imp {I J : Nat → Prop} {a b : World} (h : Frm I a b) (hIJ : ∀ x,I x → J x) : Frm J a b :=
 ⟨h.os,h.tape,h.output,h.size,fun x hx hj => h.keep x hx (fun hi => hj (hIJ x hi))⟩
structure Goes (ι : Inj) (lo : Lo) (st : St) (w : World) (ι' : Inj) (lo' : Lo) (st' : St) (w' : World) : Prop where
 ext : Ext ι ι'
 rel : Rel ι' lo' st' w'
 frm : Frm (img ι lo st) w w'
 sub : ∀ b,img ι' lo' st' b → img ι lo st b ∨ w.heap.size ≤ b
 ro : ∀ a b,st'.mem a = some b → b.rw = false → st.mem a = some b
theorem Goes.refl {ι : Inj} {lo : Lo} {st : St} {w : World} (h : Rel ι lo st w) : Goes ι lo st w ι lo st w := ⟨Ext.refl _,h,Frm.refl _ _,fun _ hb => .inl hb,fun _ _ h _ => h⟩
theorem Goes.trans {ι ι' ι'' : Inj} {lo lo' lo'' : Lo} {st st' st'' : St} {w w' w'' : World} (h : Goes ι lo st w ι' lo' st' w') (k : Goes ι' lo' st' w' ι'' lo'' st'' w'') : Goes ι lo st w ι'' lo'' st'' w'' :=
 ⟨h.ext.trans k.ext,k.rel,h.frm.trans k.frm h.sub,fun b hb => (k.sub b hb).elim (h.sub b) (fun hle => .inr (Nat.le_trans h.frm.size hle)),fun a b hb hr => h.ro a b (k.ro a b hb hr) hr⟩
theorem add_plain (g j n : Nat) : (⟨g,j,none⟩ : Addr).add n = ⟨g,j + n,none⟩ := by unfold Addr.add; split <;> simp_all
theorem Rel.lt_l {ι : Inj} {lo : Lo} {st : St} {w : World} (h : Rel ι lo st w) {t g : Nat} {cs : List Value} (ha : lo.loc t = some (g,cs)) : ι.l t g < w.heap.size := by
 obtain ⟨c,e,hc,_⟩ := h.lk t g cs ha
 exact (Array.getElem?_eq_some_iff.1 hc).1
theorem Rel.read {ι κ : Inj} {lo : Lo} {st : St} {w : World} (h : Rel ι lo st w) (hκ : κ = ι ∨ κ = ι.base) {p : Addr} (hp : okA κ p) {cs : List Value} (hr : rdB lo st p.block p.spot = some cs) (i : Nat) (x : Value) (hx : cs[p.off + i]? = some x) :
  ∃ y,w.cell? ((tr κ p).add i) = some y ∧ VR0 ι.base x y := by
 unfold rdB at hr
 unfold tr okA at *
 cases hs : p.spot with
 | none =>
  rw [hs] at hr hp
  simp only at hr hp ⊢
  obtain ⟨b,hb,rfl⟩ := Option.map_eq_some_iff.1 hr
  obtain ⟨y,hy,hv⟩ := (h.hk _ b hb).1 _ x hx
  refine ⟨y,?_,hv⟩
  rw [add_plain]
  have : (κ.h p.block) = (ι.h p.block) := by rcases hκ with rfl | rfl <;> rfl
  rw [this,Nat.add_assoc]
  exact hy
 | some g =>
  rw [hs] at hr hp
  simp only at hr hp ⊢
  split at hr
  ·rename_i g' cs' hl
   split at hr
   ·rename_i he
    subst he
    injection hr with hr
    subst hr
    obtain ⟨c,e,hc,_,hcell⟩ := h.lk _ _ _ hl
    obtain ⟨y,hy,hv⟩ := hcell _ x hx
    refine ⟨y,?_,hv⟩
    have : (κ.l p.block g') = (ι.l p.block g') := by rcases hκ with rfl | rfl <;> rfl
    rw [add_plain,this]
    simp only [World.cell?,hc,Option.isSome_none,Bool.false_eq_true,if_false]
    exact hy
   ·cases hr
  ·cases hr
theorem Rel.readN {ι κ : Inj} {lo : Lo} {st : St} {w : World} (h : Rel ι lo st w) (hκ : κ = ι ∨ κ = ι.base) {p : Addr} (hp : okA κ p) {cs : List Value} (hr : rdB lo st p.block p.spot = some cs) (n : Nat) (hl : ((cs.drop p.off).take n).length = n) :
  ∃ ys : List Value,ys.length = n ∧ (∀ j v,ys[j]? = some v → w.cell? ((tr κ p).add j) = some v) ∧ ∀ (i : Nat) (x : Value),((cs.drop p.off).take n)[i]? = some x → ∃ y : Value,ys[i]? = some y ∧ VR0 ι.base x y := by
 have key : ∀ i,i < n → ∃ y,w.cell? ((tr κ p).add i) = some y ∧ ∀ x,cs[p.off + i]? = some x → VR0 ι.base x y := by
  intro i hi
  have hlt : p.off + i < cs.length := by rw [List.length_take,List.length_drop] at hl; omega
  obtain ⟨y,hy,hv⟩ := h.read hκ hp hr i _ (List.getElem?_eq_getElem hlt)
  exact ⟨y,hy,fun x hx => by rw [List.getElem?_eq_getElem hlt] at hx; injection hx with hx; subst hx; exact hv⟩
 have all : ∀ m,m ≤ n → ∃ ys : List Value,ys.length = m ∧ (∀ j v,ys[j]? = some v → w.cell? ((tr κ p).add j) = some v) ∧ ∀ i,i < m → ∀ x,cs[p.off + i]? = some x → ∃ y : Value,ys[i]? = some y ∧ VR0 ι.base x y := by
  intro m
  induction m with
  | zero => intro _; exact ⟨[],rfl,fun j v hj => by simp at hj,fun i hi => absurd hi (Nat.not_lt_zero _)⟩
  | succ m ih =>
   intro hm
   obtain ⟨ys,hl2,h1,h2⟩ := ih (by omega)
   obtain ⟨y,hy,hv⟩ := key m (by omega)
   refine ⟨ys ++ [y],by simp [hl2],fun j v hj => ?_,fun i hi x hx => ?_⟩
   ·rcases Nat.lt_or_ge j m with hjm | hjm
    ·rw [List.getElem?_append_left (by omega)] at hj
     exact h1 j v hj
    ·rw [List.getElem?_append_right (by omega),hl2] at hj
     have : j - m = 0 := by
      rcases Nat.eq_zero_or_pos (j - m) with h0 | h0
      ·exact h0
      ·rw [List.getElem?_eq_none (by simp; omega)] at hj; cases hj
     rw [this] at hj
     simp at hj
     subst hj
     have hjm' : j = m := by omega
     rw [hjm']; exact hy
   ·rcases Nat.lt_or_ge i m with him | him
    ·obtain ⟨z,hz,hzv⟩ := h2 i him x hx
     exact ⟨z,by rw [List.getElem?_append_left (by omega)]; exact hz,hzv⟩
    ·have : i = m := by omega
     subst this
     exact ⟨y,by rw [List.getElem?_append_right (by omega),hl2]; simp,hv x hx⟩
 obtain ⟨ys,h1,h2,h3⟩ := all n (Nat.le_refl _)
 refine ⟨ys,h1,h2,fun i x hx => ?_⟩
 rw [List.getElem?_take] at hx
 split at hx
 ·rename_i hi
  rw [List.getElem?_drop] at hx
  exact h3 i hi x hx
 ·cases hx
end Go.Proofs.YteabadoaeadcgaaDoor.AM
