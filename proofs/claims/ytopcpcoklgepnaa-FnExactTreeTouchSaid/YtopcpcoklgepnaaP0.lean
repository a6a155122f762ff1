/- Pieces of memory of one's own: rows that lie apart, held together in a list. -/
import Derived.Test.YtopcpcoklgepnaaD0
namespace Go.Proofs.Ytopcpcoklgepnaa.AM
open Go Go.Proofs
set_option linter.unusedVariables false
set_option linter.unusedSimpArgs false
structure Pc where
  z : Nat
  p : Option Addr
  cs : List Value
def Pc.own (st : St) (c : Pc) : Prop := (c.p = none ∧ c.cs = []) ∨ ∃ a, c.p = some ⟨a, 0, none⟩ ∧ a < st.next ∧ st.mem a = some ⟨true, c.z, c.cs⟩
abbrev pcR {α : Type} (z : Nat) (f : α → List Value) (p : Option Addr) (l : List α) : Pc := ⟨z, p, l.flatMap f⟩
theorem own_pc {α : Type} {st : St} {z : Nat} {f : α → List Value} {p : Option Addr} {l : List α} (h : OwnR st z f p l) : (pcR z f p l).own st := by
  rcases h with ⟨rfl, rfl⟩ | h
  · exact .inl ⟨rfl, rfl⟩
  · exact .inr h
theorem pc_own {α : Type} {st : St} {z : Nat} {f : α → List Value} {p : Option Addr} {l : List α} (h0 : 0 < z) (hz : ∀ x, (f x).length = z) (h : (pcR z f p l).own st) : OwnR st z f p l := by
  rcases h with ⟨h1, h2⟩ | h
  · refine .inl ⟨h1, ?_⟩
    have h3 := flat_len hz l
    have h2 : l.flatMap f = [] := h2
    rw [h2, List.length_nil] at h3
    have : l.length = 0 := by
      rcases Nat.eq_zero_or_pos l.length with h | h
      · exact h
      · have := Nat.mul_pos h h0; omega
    exact List.length_eq_zero_iff.1 this
  · exact .inr h
/-- All but the listed blocks is as it was. -/
def PrL (ps : List (Option Addr)) (st st' : St) : Prop := st.next ≤ st'.next ∧ ∀ a, a < st.next → (∀ p ∈ ps, ∀ q, p = some q → a ≠ q.block) → st'.mem a = st.mem a
def OwnP (st : St) (l : List Pc) : Prop := (∀ c ∈ l, c.own st) ∧ l.Pairwise fun a b => Dis a.p b.p
def NewP (n : Nat) (l : List Pc) : Prop := ∀ c ∈ l, New n c.p
theorem Pc.own.old {st : St} {c : Pc} (h : c.own st) : Old st.next c.p := by
  rcases h with ⟨h, _⟩ | ⟨a, h, ha, _⟩
  · rw [h]; exact Old.none
  · rw [h]; exact Old.some ha
theorem Pc.own.keep {st st' : St} {c : Pc} (h : c.own st) (hn : st.next ≤ st'.next) (hm : ∀ q, c.p = some q → st'.mem q.block = st.mem q.block) : c.own st' := by
  rcases h with h | ⟨a, h1, ha, h2⟩
  · exact .inl h
  · exact .inr ⟨a, h1, Nat.lt_of_lt_of_le ha hn, (hm _ h1).trans h2⟩
theorem PrL.refl (ps : List (Option Addr)) (st : St) : PrL ps st st := ⟨Nat.le_refl _, fun _ _ _ => rfl⟩
theorem PrL.trans {ps : List (Option Addr)} {a b c : St} (h : PrL ps a b) (k : PrL ps b c) : PrL ps a c := ⟨Nat.le_trans h.1 k.1, fun x hx hn => (k.2 x (Nat.lt_of_lt_of_le hx h.1) hn).trans (h.2 x hx hn)⟩
theorem Pr.l {p : Option Addr} {st st' : St} (h : Pr p st st') {ps : List (Option Addr)} (hp : p ∈ ps) : PrL ps st st' := ⟨h.1, fun a ha hn => h.2 a ha (hn p hp)⟩
theorem Pres.l {ps : List (Option Addr)} {st st' : St} (h : Pres st st') : PrL ps st st' := ⟨h.1, fun a ha _ => h.2 a ha⟩
theorem PrL.mono {ps qs : List (Option Addr)} {st st' : St} (h : PrL ps st st') (hs : ∀ p ∈ ps, p ∈ qs) : PrL qs st st' := ⟨h.1, fun a ha hn => h.2 a ha fun p hp => hn p (hs p hp)⟩
theorem PrL.pres {ps : List (Option Addr)} {st0 st st' : St} (h : PrL ps st st') (h0 : Pres st0 st) (hn : ∀ p ∈ ps, New st0.next p) : Pres st0 st' :=
  ⟨Nat.le_trans h0.1 h.1, fun a ha => (h.2 a (Nat.lt_of_lt_of_le ha h0.1) fun p hp q hq => by have := hn p hp q hq; omega).trans (h0.2 a ha)⟩
theorem OwnP.nil {st : St} : OwnP st [] := ⟨fun c hc => (by cases hc), List.Pairwise.nil⟩
theorem NewP.nil {n : Nat} : NewP n [] := fun c hc => by cases hc
theorem NewP.le {n m : Nat} {l : List Pc} (h : NewP m l) (hn : n ≤ m) : NewP n l := fun c hc => (h c hc).le hn
theorem NewP.cons {n : Nat} {c : Pc} {l : List Pc} (h : New n c.p) (k : NewP n l) : NewP n (c :: l) := fun d hd => by
  rcases List.mem_cons.1 hd with rfl | hd
  · exact h
  · exact k d hd
theorem NewP.app {n : Nat} {l m : List Pc} (h : NewP n l) (k : NewP n m) : NewP n (l ++ m) := fun d hd => by
  rcases List.mem_append.1 hd with hd | hd
  · exact h d hd
  · exact k d hd
theorem OwnP.keep {st st' : St} {l : List Pc} (h : OwnP st l) (hn : st.next ≤ st'.next) (hm : ∀ c ∈ l, ∀ q, c.p = some q → st'.mem q.block = st.mem q.block) : OwnP st' l := ⟨fun c hc => (h.1 c hc).keep hn (hm c hc), h.2⟩
theorem OwnP.pres {st st' : St} {l : List Pc} (h : OwnP st l) (hp : Pres st st') : OwnP st' l := h.keep hp.1 fun c hc q hq => hp.2 _ ((h.1 c hc).old q hq)
theorem OwnP.prl {st st' : St} {l : List Pc} {ps : List (Option Addr)} (h : OwnP st l) (hp : PrL ps st st') (hd : ∀ c ∈ l, ∀ p ∈ ps, Dis p c.p) : OwnP st' l := h.keep hp.1 fun c hc q hq => hp.2 _ ((h.1 c hc).old q hq) fun p hp r hr he => hd c hc p hp r q hr hq he.symm
theorem OwnP.app {st : St} {l m : List Pc} (h : OwnP st l) (k : OwnP st m) (hd : ∀ a ∈ l, ∀ b ∈ m, Dis a.p b.p) : OwnP st (l ++ m) :=
  ⟨fun c hc => by
    rcases List.mem_append.1 hc with hc | hc
    · exact h.1 c hc
    · exact k.1 c hc, List.pairwise_append.2 ⟨h.2, k.2, hd⟩⟩
/-- What came later lies apart. -/
theorem OwnP.join {st st' : St} {l m : List Pc} (h : OwnP st l) (hp : Pres st st') (k : OwnP st' m) (hn : NewP st.next m) : OwnP st' (l ++ m) :=
  (h.pres hp).app k fun a ha b hb => Dis.of (h.1 a ha).old (hn b hb)
theorem OwnP.one {st : St} {c : Pc} (h : c.own st) : OwnP st [c] := ⟨fun d hd => by rw [List.mem_singleton.1 hd]; exact h, List.pairwise_singleton _ _⟩
theorem OwnP.left {st : St} {l m : List Pc} (h : OwnP st (l ++ m)) : OwnP st l := ⟨fun c hc => h.1 c (List.mem_append_left _ hc), (List.pairwise_append.1 h.2).1⟩
theorem OwnP.right {st : St} {l m : List Pc} (h : OwnP st (l ++ m)) : OwnP st m := ⟨fun c hc => h.1 c (List.mem_append_right _ hc), (List.pairwise_append.1 h.2).2.1⟩
theorem OwnP.tail {st : St} {c : Pc} {m : List Pc} (h : OwnP st (c :: m)) : OwnP st m := OwnP.right (l := [c]) h
theorem Dis.comm {p q : Option Addr} : Dis p q ↔ Dis q p := ⟨Dis.symm, Dis.symm⟩
/-- One piece is changed. -/
theorem OwnP.update {st st' : St} {l m : List Pc} {c d : Pc} (h : OwnP st (l ++ c :: m)) (hp : Pr c.p st st') (hd : d.own st') (he : d.p = c.p) : OwnP st' (l ++ d :: m) := by
  obtain ⟨h1, h2⟩ := h
  obtain ⟨p1, p2, p3⟩ := List.pairwise_append.1 h2
  obtain ⟨p4, p5⟩ := List.pairwise_cons.1 p2
  have key : ∀ e ∈ l ++ c :: m, Dis c.p e.p → e.own st' := fun e hm hdis => (h1 e hm).keep hp.1 fun q hq => hp.2 _ ((h1 e hm).old q hq) fun r hr hne => hdis r q hr hq hne.symm
  refine ⟨fun e he' => ?_, List.pairwise_append.2 ⟨p1, List.pairwise_cons.2 ⟨fun a ha => by rw [he]; exact p4 a ha, p5⟩, fun a ha b hb => ?_⟩⟩
  · rcases List.mem_append.1 he' with hm | hm
    · exact key e (List.mem_append_left _ hm) (p3 e hm c (List.mem_cons_self ..)).symm
    · rcases List.mem_cons.1 hm with rfl | hm
      · exact hd
      · exact key e (List.mem_append_right _ (List.mem_cons_of_mem _ hm)) (p4 e hm)
  · rcases List.mem_cons.1 hb with rfl | hb
    · rw [he]; exact p3 a ha c (List.mem_cons_self ..)
    · exact p3 a ha b (List.mem_cons_of_mem _ hb)
/-- A piece is replaced by a later one. -/
theorem OwnP.renew {st st' : St} {l m : List Pc} {c d : Pc} (h : OwnP st (l ++ c :: m)) (hp : Pr c.p st st') (hd : d.own st') (hn : New st.next d.p) : OwnP st' (l ++ d :: m) := by
  obtain ⟨h1, h2⟩ := h
  obtain ⟨p1, p2, p3⟩ := List.pairwise_append.1 h2
  obtain ⟨p4, p5⟩ := List.pairwise_cons.1 p2
  have key : ∀ e ∈ l ++ c :: m, Dis c.p e.p → e.own st' := fun e hm hdis => (h1 e hm).keep hp.1 fun q hq => hp.2 _ ((h1 e hm).old q hq) fun r hr hne => hdis r q hr hq hne.symm
  refine ⟨fun e he' => ?_, List.pairwise_append.2 ⟨p1, List.pairwise_cons.2 ⟨fun a ha => (Dis.of (h1 a (List.mem_append_right _ (List.mem_cons_of_mem _ ha))).old hn).symm, p5⟩, fun a ha b hb => ?_⟩⟩
  · rcases List.mem_append.1 he' with hm | hm
    · exact key e (List.mem_append_left _ hm) (p3 e hm c (List.mem_cons_self ..)).symm
    · rcases List.mem_cons.1 hm with rfl | hm
      · exact hd
      · exact key e (List.mem_append_right _ (List.mem_cons_of_mem _ hm)) (p4 e hm)
  · rcases List.mem_cons.1 hb with rfl | hb
    · exact Dis.of (h1 a (List.mem_append_left _ ha)).old hn
    · exact p3 a ha b (List.mem_cons_of_mem _ hb)
/-! Tables -/
structure RV where
  p : Option Addr
  l : List Int
abbrev cRV (r : RV) : List Value := [vS r.p r.l.length]
abbrev pcRV (r : RV) : Pc := pcR 1 fI r.p r.l
abbrev pcT (p : Option Addr) (t : List RV) : List Pc := pcR 1 cRV p t :: t.map pcRV
abbrev rls (t : List RV) : List (List Int) := t.map (·.l)
theorem cRV_len (r : RV) : (cRV r).length = 1 := rfl
/-- A table that is read. -/
def RdT (st : St) (p : Option Addr) (t : List RV) : Prop := Rows st 1 cRV p t ∧ ∀ r ∈ t, Rows st 1 fI r.p r.l
theorem RdT.pres {st st' : St} {p : Option Addr} {t : List RV} (h : RdT st p t) (k : Pres st st') : RdT st' p t := ⟨k.rows h.1, fun r hr => k.rows (h.2 r hr)⟩
theorem OwnP.outer {st : St} {p : Option Addr} {t : List RV} (h : OwnP st (pcT p t)) : OwnR st 1 cRV p t := pc_own Nat.one_pos cRV_len (h.1 _ (List.mem_cons_self ..))
theorem OwnP.row {st : St} {p : Option Addr} {t : List RV} (h : OwnP st (pcT p t)) {r : RV} (hr : r ∈ t) : OwnR st 1 fI r.p r.l := pc_own Nat.one_pos fI_len (h.1 _ (List.mem_cons_of_mem _ (List.mem_map_of_mem hr)))
theorem OwnP.rdT {st : St} {p : Option Addr} {t : List RV} (h : OwnP st (pcT p t)) : RdT st p t := ⟨h.outer.rows cRV_len, fun r hr => (h.row hr).rows fI_len⟩
end Go.Proofs.Ytopcpcoklgepnaa.AM
