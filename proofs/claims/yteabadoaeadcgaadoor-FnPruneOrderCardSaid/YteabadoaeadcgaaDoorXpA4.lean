/- A part of the machine on which the law's proof rests. -/
import Derived.Test.YteabadoaeadcgaaDoorXpA3
namespace Go.Proofs.YteabadoaeadcgaaDoor.AM
open Go Go.RowKit
set_option linter.unusedVariables false
set_option linter.unusedSimpArgs false
def Inj.push (ι : Inj) (b cap : Nat) : Inj := { ι with h := fun a => if a = ι.n then (b,0) else ι.h a,cap := fun a => if a = ι.n then cap else ι.cap a,n := ι.n + 1 }
def Inj.pushL (ι : Inj) (t b : Nat) : Inj := { ι with l := fun t' g' => if t' = t ∧ g' = ι.g then b else ι.l t' g',g := ι.g + 1 }
theorem Ext.push (ι : Inj) (b cap : Nat) : Ext ι (ι.push b cap) :=
 ⟨Nat.le_succ _,Nat.le_refl _,fun a ha => if_neg (Nat.ne_of_lt ha),fun a ha => if_neg (Nat.ne_of_lt ha),fun _ _ _ => rfl⟩
theorem Ext.pushL (ι : Inj) (t b : Nat) : Ext ι (ι.pushL t b) :=
 ⟨Nat.le_refl _,Nat.le_succ _,fun _ _ => rfl,fun _ _ => rfl,fun t' g hg => if_neg (fun h => Nat.ne_of_lt hg h.2)⟩
theorem push_at (ι : Inj) (b cap : Nat) : (ι.push b cap).h ι.n = (b,0) := if_pos rfl
theorem push_cap (ι : Inj) (b cap : Nat) : (ι.push b cap).cap ι.n = cap := if_pos rfl
theorem pushL_at (ι : Inj) (t b : Nat) : (ι.pushL t b).l t ι.g = b := if_pos ⟨rfl,rfl⟩
theorem alloc_old (w : World) (o : Obj) {k : Nat} (h : k < w.heap.size) : (w.alloc o).heap[k]? = w.heap[k]? := Below.heap_alloc w o k h
theorem alloc_size (w : World) (o : Obj) : (w.alloc o).heap.size = w.heap.size + 1 := by
 show (w.heap.push o).size = _
 exact Array.size_push ..
theorem alloc_new (w : World) (o : Obj) : (w.alloc o).heap[w.heap.size]? = some o := by
 show (w.heap.push o)[w.heap.size]? = _
 rw [Array.getElem?_push,if_pos rfl]
theorem cell_of {w : World} {g j : Nat} {c : Array Value} {e : TypeId} {fr : Nat × Nat} (h : w.heap[g]? = some (.cells c e fr)) : w.cell? ⟨g,j,none⟩ = c[j]? := by
 simp [World.cell?,h]
structure Same (w w1 : World) : Prop where
 heap : w1.heap = w.heap
 os : w1.os = w.os
 tape : w1.tape = w.tape
 output : w1.output = w.output
theorem Same.refl (w : World) : Same w w := ⟨rfl,rfl,rfl,rfl⟩
theorem Same.drew (w : World) : Same w w.drew := ⟨rfl,rfl,rfl,rfl⟩
theorem goes_same {ι : Inj} {lo : Lo} {st : St} {w w1 : World} (h : Rel ι lo st w) (hs : Same w w1) : Goes ι lo st w ι lo st w1 := by
 have hb : ∀ k : Nat,w1.heap[k]? = w.heap[k]? := fun k => by rw [hs.heap]
 refine ⟨Ext.refl _,⟨h.n,h.g,h.lt,fun a b ha => (h.hk a b ha).mono (Ext.refl _) (by rw [h.n]; exact h.lt a b ha) (hb _),h.lg,fun t g cs ht => (h.lk t g cs ht).mono (Ext.refl _) (by rw [h.g]; exact h.lg t g cs ht) (hb _),h.hh,h.hl,h.ll,fun a b ha => by rw [hs.heap]; exact h.hb a b ha⟩,
  ⟨hs.os,hs.tape,hs.output,by rw [hs.heap]; exact Nat.le_refl _,fun k _ _ => hb k⟩,fun _ hb => .inl hb,fun _ _ h _ => h⟩
theorem goes_grow {ι : Inj} {lo : Lo} {st : St} {w : World} (h : Rel ι lo st w) {c : Array Value} {e : TypeId} {fr : Nat × Nat} : Goes ι lo st w ι lo st (w.alloc (.cells c e fr)) := by
 have old : ∀ k,k < w.heap.size → (w.alloc (.cells c e fr)).heap[k]? = w.heap[k]? := fun k hk => alloc_old w _ hk
 refine ⟨Ext.refl _,⟨h.n,h.g,h.lt,fun a b ha => (h.hk a b ha).mono (Ext.refl _) (by rw [h.n]; exact h.lt a b ha) (old _ (h.hb a b ha)),h.lg,fun t g cs ht => (h.lk t g cs ht).mono (Ext.refl _) (by rw [h.g]; exact h.lg t g cs ht) (old _ (h.lt_l ht)),h.hh,h.hl,h.ll,fun a b ha => Nat.lt_of_lt_of_le (h.hb a b ha) (by simp)⟩,
  ⟨rfl,rfl,rfl,by simp,fun k hk _ => old k hk⟩,fun _ hb => .inl hb,fun _ _ h _ => h⟩
theorem goes_push {ι : Inj} {lo : Lo} {st : St} {w w1 : World} (h : Rel ι lo st w) (hs : Same w w1) {c : Array Value} {e : TypeId} {fr : Nat × Nat} {cs : List Value} {z cap : Nat} (hr : ∀ (i : Nat) (x : Value),cs[i]? = some x → ∃ y : Value,c[i]? = some y ∧ VR0 ι.base x y) (hl : cs.length ≤ c.size)
  (hc : cap * z ≤ c.size) (hf : frOk fr c.size) : Goes ι lo st w (ι.push w.heap.size cap) lo (st.push z cs) (w1.alloc (.cells c e fr)) := by
 have h1 : w1.heap.size = w.heap.size := by rw [hs.heap]
 have old : ∀ k,k < w.heap.size → (w1.alloc (.cells c e fr)).heap[k]? = w.heap[k]? := fun k hk => by rw [alloc_old w1 _ (by omega),hs.heap]
 have new : (w1.alloc (.cells c e fr)).heap[w.heap.size]? = some (.cells c e fr) := by rw [← h1]; exact alloc_new w1 _
 have hE := Ext.push ι w.heap.size cap
 have hn : ι.n = st.next := h.n
 have hat : (ι.push w.heap.size cap).h st.next = (w.heap.size,0) := by rw [← hn]; exact push_at _ _ _
 have hold : ∀ a,a < st.next → (ι.push w.heap.size cap).h a = ι.h a := fun a ha => hE.h a (by omega)
 have hmem : ∀ a b,(st.push z cs).mem a = some b → (a = st.next ∧ b = ⟨true,z,cs⟩) ∨ (a < st.next ∧ st.mem a = some b) := by
  intro a b hb
  simp only [St.push] at hb
  split at hb
  ·rename_i he
   injection hb with hb
   exact .inl ⟨he,hb.symm⟩
  ·exact .inr ⟨h.lt a b hb,hb⟩
 refine ⟨hE,⟨?_,h.g,?_,?_,h.lg,?_,?_,?_,?_,?_⟩,⟨hs.os,hs.tape,hs.output,?_,fun k hk _ => old k hk⟩,?_,?_⟩
 ·show ι.n + 1 = st.next + 1; omega
 ·intro a b hb
  show a < st.next + 1
  rcases hmem a b hb with ⟨rfl,_⟩ | ⟨hlt,_⟩ <;> omega
 ·intro a b hb
  rcases hmem a b hb with ⟨rfl,rfl⟩ | ⟨hlt,hb⟩
  ·refine ⟨fun i x hx => ?_,fun _ => ?_,fun h0 => by cases h0⟩
   ·obtain ⟨y,hy,hv⟩ := hr i x hx
    refine ⟨y,?_,VR0_mono hE.base hv⟩
    rw [hat]
    simp only [Nat.zero_add]
    rw [cell_of new]
    exact hy
   ·rw [hat]
    refine ⟨rfl,c,e,fr,new,hf,hl,?_⟩
    have : (ι.push w.heap.size cap).cap st.next = cap := by rw [← hn]; exact push_cap _ _ _
    rw [this]
    exact hc
  ·exact (h.hk a b hb).mono hE (by omega) (old _ (h.hb a b hb))
 ·intro t g cs' ht
  exact (h.lk t g cs' ht).mono hE (by rw [h.g]; exact h.lg t g cs' ht) (old _ (h.lt_l ht))
 ·intro a b a' b' hne hb hb' hrw
  rcases hmem a b hb with ⟨rfl,rfl⟩ | ⟨hlt,hb⟩ <;> rcases hmem a' b' hb' with ⟨rfl,rfl⟩ | ⟨hlt',hb'⟩
  ·exact absurd rfl hne
  ·rw [hat,hold _ hlt']
   have := h.hb a' b' hb'
   simp only
   omega
  ·rw [hat,hold _ hlt]
   have := h.hb a b hb
   simp only
   omega
  ·rw [hold _ hlt,hold _ hlt']
   exact h.hh a b a' b' hne hb hb' hrw
 ·intro a b t g cs' hb ht
  show ((ι.push w.heap.size cap).h a).1 ≠ ι.l t g
  rcases hmem a b hb with ⟨rfl,rfl⟩ | ⟨hlt,hb⟩
  ·rw [hat]
   have := h.lt_l ht
   simp only
   omega
  ·rw [hold _ hlt]
   exact h.hl a b t g cs' hb ht
 ·exact h.ll
 ·intro a b hb
  have hsz : (w1.alloc (.cells c e fr)).heap.size = w.heap.size + 1 := by rw [alloc_size,h1]
  rw [hsz]
  rcases hmem a b hb with ⟨rfl,rfl⟩ | ⟨hlt,hb⟩
  ·rw [hat]; simp only; omega
  ·rw [hold _ hlt]
   have := h.hb a b hb
   omega
 ·rw [alloc_size,h1]; omega
 ·rintro k (⟨a,b,hb,hrw,rfl⟩ | ⟨t,g,cs',ht,rfl⟩)
  ·rcases hmem a b hb with ⟨rfl,rfl⟩ | ⟨hlt,hb⟩
   ·rw [hat]; exact .inr (Nat.le_refl _)
   ·rw [hold _ hlt]; exact .inl (.inl ⟨a,b,hb,hrw,rfl⟩)
  ·exact .inl (.inr ⟨t,g,cs',ht,rfl⟩)
 ·intro a b hb hr
  rcases hmem a b hb with ⟨rfl,rfl⟩ | ⟨hlt,hb⟩
  ·cases hr
  ·exact hb
theorem goes_box {ι : Inj} {lo : Lo} {st : St} {w : World} (h : Rel ι lo st w) (t : Tmp) {c : Array Value} {e : TypeId} {cs : List Value} (hr : ∀ (i : Nat) (x : Value),cs[i]? = some x → ∃ y : Value,c[i]? = some y ∧ VR0 ι.base x y) (hl : cs.length ≤ c.size) :
  Goes ι lo st w (ι.pushL t w.heap.size) (lo.box t cs) st (w.alloc (.cells c e)) := by
 have old : ∀ k,k < w.heap.size → (w.alloc (.cells c e)).heap[k]? = w.heap[k]? := fun k hk => alloc_old w _ hk
 have new : (w.alloc (.cells c e)).heap[w.heap.size]? = some (.cells c e (0,0)) := alloc_new w _
 have hE := Ext.pushL ι t w.heap.size
 have hg : ι.g = lo.gen := h.g
 have hat : (ι.pushL t w.heap.size).l t lo.gen = w.heap.size := by rw [← hg]; exact pushL_at _ _ _
 have hold : ∀ t' g',g' < lo.gen → (ι.pushL t w.heap.size).l t' g' = ι.l t' g' := fun t' g' hg' => hE.l t' g' (by omega)
 have hloc : ∀ t' g' cs',(lo.box t cs).loc t' = some (g',cs') → (t' = t ∧ g' = lo.gen ∧ cs' = cs) ∨ (t' ≠ t ∧ lo.loc t' = some (g',cs')) := by
  intro t' g' cs' hb
  simp only [Lo.box] at hb
  split at hb
  ·rename_i he
   injection hb with hb
   injection hb with hb1 hb2
   exact .inl ⟨he,hb1.symm,hb2.symm⟩
  ·rename_i he
   exact .inr ⟨he,hb⟩
 refine ⟨hE,⟨h.n,?_,h.lt,?_,?_,?_,h.hh,?_,?_,?_⟩,⟨rfl,rfl,rfl,?_,fun k hk _ => old k hk⟩,?_,fun _ _ h _ => h⟩
 ·show ι.g + 1 = lo.gen + 1; omega
 ·intro a b hb
  exact (h.hk a b hb).mono hE (by rw [h.n]; exact h.lt a b hb) (old _ (h.hb a b hb))
 ·intro t' g' cs' ht
  show g' < lo.gen + 1
  rcases hloc t' g' cs' ht with ⟨rfl,rfl,rfl⟩ | ⟨_,ht⟩
  ·omega
  ·have := h.lg _ _ _ ht; omega
 ·intro t' g' cs' ht
  rcases hloc t' g' cs' ht with ⟨rfl,rfl,rfl⟩ | ⟨_,ht⟩
  ·refine ⟨c,e,by rw [hat]; exact new,hl,fun i x hx => ?_⟩
   obtain ⟨y,hy,hv⟩ := hr i x hx
   exact ⟨y,hy,VR0_mono hE.base hv⟩
  ·exact (h.lk t' g' cs' ht).mono hE (by rw [h.g]; exact h.lg _ _ _ ht) (old _ (h.lt_l ht))
 ·intro a b t' g' cs' hb ht
  show (ι.h a).1 ≠ _
  rcases hloc t' g' cs' ht with ⟨rfl,rfl,rfl⟩ | ⟨_,ht⟩
  ·rw [hat]
   have := h.hb a b hb
   omega
  ·rw [hold _ _ (h.lg _ _ _ ht)]
   exact h.hl a b t' g' cs' hb ht
 ·intro t1 g1 cs1 t2 g2 cs2 hne k1 k2
  rcases hloc t1 g1 cs1 k1 with ⟨rfl,rfl,rfl⟩ | ⟨_,h1⟩ <;> rcases hloc t2 g2 cs2 k2 with ⟨rfl,rfl,rfl⟩ | ⟨_,h2⟩
  ·exact absurd rfl hne
  ·rw [hat,hold _ _ (h.lg _ _ _ h2)]
   have := h.lt_l h2
   omega
  ·rw [hat,hold _ _ (h.lg _ _ _ h1)]
   have := h.lt_l h1
   omega
  ·rw [hold _ _ (h.lg _ _ _ h1),hold _ _ (h.lg _ _ _ h2)]
   exact h.ll _ _ _ _ _ _ hne h1 h2
 ·intro a b hb
  have hsz : (w.alloc (.cells c e)).heap.size = w.heap.size + 1 := alloc_size ..
  rw [hsz]
  have := h.hb a b hb
  show (ι.h a).1 < _
  omega
 ·rw [alloc_size]; omega
 ·rintro k (⟨a,b,hb,hrw,rfl⟩ | ⟨t',g',cs',ht,rfl⟩)
  ·exact .inl (.inl ⟨a,b,hb,hrw,rfl⟩)
  ·rcases hloc t' g' cs' ht with ⟨rfl,rfl,rfl⟩ | ⟨_,ht⟩
   ·rw [hat]; exact .inr (Nat.le_refl _)
   ·rw [hold _ _ (h.lg _ _ _ ht)]
    exact .inl (.inr ⟨t',g',cs',ht,rfl⟩)
theorem goes_upd {ι : Inj} {lo : Lo} {st : St} {w w' : World} (h : Rel ι lo st w) {a0 : Nat} {b0 : Blk} (ha0 : st.mem a0 = some b0) (hrw0 : b0.rw = true) (b' : Blk) (hE : w'.os = w.os ∧ w'.tape = w.tape ∧ w'.output = w.output ∧ w'.heap.size = w.heap.size)
  (hold : ∀ k,k ≠ (ι.h a0).1 → w'.heap[k]? = w.heap[k]?) (hnew : HK ι w' a0 b') (hrw : b'.rw = true) : Goes ι lo st w ι lo (st.set a0 (some b')) w' := by
 have hmem : ∀ a b,(st.set a0 (some b')).mem a = some b → (a = a0 ∧ b = b') ∨ (a ≠ a0 ∧ st.mem a = some b) := by
  intro a b hb
  simp only [St.set] at hb
  split at hb
  ·rename_i he
   injection hb with hb
   exact .inl ⟨he,hb.symm⟩
  ·rename_i he
   exact .inr ⟨he,hb⟩
 have hin : ∀ a b,(st.set a0 (some b')).mem a = some b → ∃ b1,st.mem a = some b1 ∧ (b.rw = true → b1.rw = true) := by
  intro a b hb
  rcases hmem a b hb with ⟨rfl,rfl⟩ | ⟨_,hb⟩
  ·exact ⟨b0,ha0,fun _ => hrw0⟩
  ·exact ⟨b,hb,fun h => h⟩
 refine ⟨Ext.refl _,⟨h.n,h.g,?_,?_,h.lg,?_,?_,?_,h.ll,?_⟩,⟨hE.1,hE.2.1,hE.2.2.1,by omega,?_⟩,?_,fun a b hb hr => by
  rcases hmem a b hb with ⟨rfl,rfl⟩ | ⟨_,hb⟩
  ·rw [hrw] at hr; cases hr
  ·exact hb⟩
 ·intro a b hb
  obtain ⟨b1,h1,_⟩ := hin a b hb
  exact h.lt a b1 h1
 ·intro a b hb
  rcases hmem a b hb with ⟨rfl,rfl⟩ | ⟨hne,hb⟩
  ·exact hnew
  ·exact (h.hk a b hb).mono (Ext.refl _) (by rw [h.n]; exact h.lt a b hb) (hold _ (fun e => h.hh a0 b0 a b (Ne.symm hne) ha0 hb hrw0 e.symm))
 ·intro t g cs ht
  exact (h.lk t g cs ht).mono (Ext.refl _) (by rw [h.g]; exact h.lg t g cs ht) (hold _ (fun e => h.hl a0 b0 t g cs ha0 ht e.symm))
 ·intro a b a' b1 hne hb hb' hr
  obtain ⟨c,hc,hcr⟩ := hin a b hb
  obtain ⟨c',hc',_⟩ := hin a' b1 hb'
  exact h.hh a c a' c' hne hc hc' (hcr hr)
 ·intro a b t g cs hb ht
  obtain ⟨c,hc,_⟩ := hin a b hb
  exact h.hl a c t g cs hc ht
 ·intro a b hb
  obtain ⟨c,hc,_⟩ := hin a b hb
  rw [hE.2.2.2]
  exact h.hb a c hc
 ·intro k hk hni
  exact hold k (fun e => hni (.inl ⟨a0,b0,ha0,hrw0,e.symm⟩))
 ·rintro k (⟨a,b,hb,hr,rfl⟩ | ⟨t,g,cs,ht,rfl⟩)
  ·obtain ⟨c,hc,hcr⟩ := hin a b hb
   exact .inl (.inl ⟨a,c,hc,hcr hr,rfl⟩)
  ·exact .inl (.inr ⟨t,g,cs,ht,rfl⟩)
theorem goes_updL {ι : Inj} {lo : Lo} {st : St} {w w' : World} (h : Rel ι lo st w) {t0 g0 : Nat} {cs0 : List Value} (ht0 : lo.loc t0 = some (g0,cs0)) (cs' : List Value) (hE : w'.os = w.os ∧ w'.tape = w.tape ∧ w'.output = w.output ∧ w'.heap.size = w.heap.size)
  (hold : ∀ k,k ≠ ι.l t0 g0 → w'.heap[k]? = w.heap[k]?) (hnew : LK ι w' t0 g0 cs') : Goes ι lo st w ι (lo.set t0 g0 cs') st w' := by
 have hloc : ∀ t g cs,(lo.set t0 g0 cs').loc t = some (g,cs) → (t = t0 ∧ g = g0 ∧ cs = cs') ∨ (t ≠ t0 ∧ lo.loc t = some (g,cs)) := by
  intro t g cs hb
  simp only [Lo.set] at hb
  split at hb
  ·rename_i he
   injection hb with hb
   injection hb with hb1 hb2
   exact .inl ⟨he,hb1.symm,hb2.symm⟩
  ·rename_i he
   exact .inr ⟨he,hb⟩
 have hin : ∀ t g cs,(lo.set t0 g0 cs').loc t = some (g,cs) → ∃ cs1,lo.loc t = some (g,cs1) := by
  intro t g cs hb
  rcases hloc t g cs hb with ⟨rfl,rfl,rfl⟩ | ⟨_,hb⟩
  ·exact ⟨cs0,ht0⟩
  ·exact ⟨cs,hb⟩
 refine ⟨Ext.refl _,⟨h.n,h.g,h.lt,?_,?_,?_,h.hh,?_,?_,?_⟩,⟨hE.1,hE.2.1,hE.2.2.1,by omega,?_⟩,?_,fun _ _ h _ => h⟩
 ·intro a b hb
  exact (h.hk a b hb).mono (Ext.refl _) (by rw [h.n]; exact h.lt a b hb) (hold _ (h.hl a b t0 g0 cs0 hb ht0))
 ·intro t g cs ht
  obtain ⟨c,hc⟩ := hin t g cs ht
  exact h.lg t g c hc
 ·intro t g cs ht
  rcases hloc t g cs ht with ⟨rfl,rfl,rfl⟩ | ⟨hne,ht⟩
  ·exact hnew
  ·exact (h.lk t g cs ht).mono (Ext.refl _) (by rw [h.g]; exact h.lg t g cs ht) (hold _ (h.ll t g cs t0 g0 cs0 hne ht ht0))
 ·intro a b t g cs hb ht
  obtain ⟨c,hc⟩ := hin t g cs ht
  exact h.hl a b t g c hb hc
 ·intro t g cs t' g' c' hne ht ht'
  obtain ⟨c1,hc1⟩ := hin t g cs ht
  obtain ⟨c2,hc2⟩ := hin t' g' c' ht'
  exact h.ll t g c1 t' g' c2 hne hc1 hc2
 ·intro a b hb
  rw [hE.2.2.2]
  exact h.hb a b hb
 ·intro k hk hni
  exact hold k (fun e => hni (.inr ⟨t0,g0,cs0,ht0,e.symm⟩))
 ·rintro k (⟨a,b,hb,hr,rfl⟩ | ⟨t,g,cs,ht,rfl⟩)
  ·exact .inl (.inl ⟨a,b,hb,hr,rfl⟩)
  ·obtain ⟨c,hc⟩ := hin t g cs ht
   exact .inl (.inr ⟨t,g,c,hc,rfl⟩)
theorem goes_kill {ι : Inj} {lo : Lo} {st : St} {w : World} (h : Rel ι lo st w) (a0 : Nat) : Goes ι lo st w ι lo (st.set a0 none) w := by
 have hin : ∀ a b,(st.set a0 none).mem a = some b → st.mem a = some b := by
  intro a b hb
  simp only [St.set] at hb
  split at hb
  ·cases hb
  ·exact hb
 exact ⟨Ext.refl _,⟨h.n,h.g,fun a b hb => h.lt a b (hin a b hb),fun a b hb => h.hk a b (hin a b hb),h.lg,h.lk,fun a b a' b' hne hb hb' hr => h.hh a b a' b' hne (hin a b hb) (hin a' b' hb') hr,
  fun a b t g cs hb ht => h.hl a b t g cs (hin a b hb) ht,h.ll,fun a b hb => h.hb a b (hin a b hb)⟩,Frm.refl _ _,by
  rintro k (⟨a,b,hb,hr,rfl⟩ | ⟨t,g,cs,ht,rfl⟩)
  ·exact .inl (.inl ⟨a,b,hin a b hb,hr,rfl⟩)
  ·exact .inl (.inr ⟨t,g,cs,ht,rfl⟩),fun a b hb _ => hin a b hb⟩
theorem goes_adopt {ι : Inj} {lo : Lo} {st : St} {w w' : World} (h : Rel ι lo st w) {a0 : Nat} {b0 : Blk} (ha0 : st.mem a0 = some b0) (hrw0 : b0.rw = true) (z : Nat) (cs : List Value) (hE : w'.os = w.os ∧ w'.tape = w.tape ∧ w'.output = w.output ∧ w'.heap.size = w.heap.size)
  (hold : ∀ k,k ≠ (ι.h a0).1 → w'.heap[k]? = w.heap[k]?) (hnew : HK (ι.push (ι.h a0).1 (ι.cap a0)) w' st.next ⟨true,z,cs⟩) :
  Goes ι lo st w (ι.push (ι.h a0).1 (ι.cap a0)) lo ((st.set a0 none).push z cs) w' := by
 have hE' := Ext.push ι (ι.h a0).1 (ι.cap a0)
 have hn : ι.n = st.next := h.n
 have hat : (ι.push (ι.h a0).1 (ι.cap a0)).h st.next = ((ι.h a0).1,0) := by rw [← hn]; exact push_at _ _ _
 have hold' : ∀ a,a < st.next → (ι.push (ι.h a0).1 (ι.cap a0)).h a = ι.h a := fun a ha => hE'.h a (by omega)
 have hmem : ∀ a b,((st.set a0 none).push z cs).mem a = some b → (a = st.next ∧ b = ⟨true,z,cs⟩) ∨ (a ≠ a0 ∧ a < st.next ∧ st.mem a = some b) := by
  intro a b hb
  have hb' : (if a = st.next then some (⟨true,z,cs⟩ : Blk) else if a = a0 then none else st.mem a) = some b := hb
  by_cases he : a = st.next
  ·rw [if_pos he] at hb'
   injection hb' with hb'
   exact .inl ⟨he,hb'.symm⟩
  ·rw [if_neg he] at hb'
   by_cases he2 : a = a0
   ·rw [if_pos he2] at hb'
    cases hb'
   ·rw [if_neg he2] at hb'
    exact .inr ⟨he2,h.lt a b hb',hb'⟩
 refine ⟨hE',⟨?_,h.g,?_,?_,h.lg,?_,?_,?_,h.ll,?_⟩,⟨hE.1,hE.2.1,hE.2.2.1,by omega,?_⟩,?_,fun a b hb hr => by
  rcases hmem a b hb with ⟨rfl,rfl⟩ | ⟨_,_,hb⟩
  ·cases hr
  ·exact hb⟩
 ·show ι.n + 1 = st.next + 1; omega
 ·intro a b hb
  show a < st.next + 1
  rcases hmem a b hb with ⟨rfl,_⟩ | ⟨_,hlt,_⟩ <;> omega
 ·intro a b hb
  rcases hmem a b hb with ⟨rfl,rfl⟩ | ⟨hne,hlt,hb⟩
  ·exact hnew
  ·exact (h.hk a b hb).mono hE' (by omega) (hold _ (fun e => h.hh a0 b0 a b (Ne.symm hne) ha0 hb hrw0 e.symm))
 ·intro t g cs' ht
  exact (h.lk t g cs' ht).mono hE' (by rw [h.g]; exact h.lg t g cs' ht) (hold _ (fun e => h.hl a0 b0 t g cs' ha0 ht e.symm))
 ·intro a b a' b' hne hb hb' hr
  rcases hmem a b hb with ⟨rfl,rfl⟩ | ⟨hne1,hlt,hb⟩ <;> rcases hmem a' b' hb' with ⟨rfl,rfl⟩ | ⟨hne2,hlt',hb'⟩
  ·exact absurd rfl hne
  ·rw [hat,hold' _ hlt']
   exact h.hh a0 b0 a' b' (Ne.symm hne2) ha0 hb' hrw0
  ·rw [hat,hold' _ hlt]
   exact fun e => h.hh a0 b0 a b (Ne.symm hne1) ha0 hb hrw0 e.symm
  ·rw [hold' _ hlt,hold' _ hlt']
   exact h.hh a b a' b' hne hb hb' hr
 ·intro a b t g cs' hb ht
  show ((ι.push (ι.h a0).1 (ι.cap a0)).h a).1 ≠ ι.l t g
  rcases hmem a b hb with ⟨rfl,rfl⟩ | ⟨_,hlt,hb⟩
  ·rw [hat]
   exact h.hl a0 b0 t g cs' ha0 ht
  ·rw [hold' _ hlt]
   exact h.hl a b t g cs' hb ht
 ·intro a b hb
  rw [hE.2.2.2]
  rcases hmem a b hb with ⟨rfl,rfl⟩ | ⟨_,hlt,hb⟩
  ·rw [hat]; exact h.hb a0 b0 ha0
  ·rw [hold' _ hlt]; exact h.hb a b hb
 ·intro k hk hni
  exact hold k (fun e => hni (.inl ⟨a0,b0,ha0,hrw0,e.symm⟩))
 ·rintro k (⟨a,b,hb,hr,rfl⟩ | ⟨t,g,cs',ht,rfl⟩)
  ·rcases hmem a b hb with ⟨rfl,rfl⟩ | ⟨_,hlt,hb⟩
   ·rw [hat]; exact .inl (.inl ⟨a0,b0,ha0,hrw0,rfl⟩)
   ·rw [hold' _ hlt]; exact .inl (.inl ⟨a,b,hb,hr,rfl⟩)
  ·exact .inl (.inr ⟨t,g,cs',ht,rfl⟩)
end Go.Proofs.YteabadoaeadcgaaDoor.AM
