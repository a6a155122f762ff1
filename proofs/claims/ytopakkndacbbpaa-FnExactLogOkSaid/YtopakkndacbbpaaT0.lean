/- The functions' own places, as a program of mine reckoned them from their text; each contract checks its own anew. -/
import Derived.Test.YtopakkndacbbpaaA14
import Derived.Test.YtopakkndacbbpaaProg
import Derived.KernelRfl
namespace Go.Proofs.Ytopakkndacbbpaa.AM
open Go Go.Proofs
set_option linter.unusedVariables false
def LTl : List (Nat × FInfo) := [(2, ⟨[], [], []⟩),
  (3, ⟨[], [], [0, 1, 4, 5, 6, 7, 10, 22, 27]⟩),
  (4, ⟨[], [], [0, 1, 4, 5, 6, 7, 8, 11, 14, 29, 34, 39]⟩),
  (5, ⟨[], [], [0, 1, 2, 6, 7, 8, 9, 10, 11, 12, 13, 16, 31, 36, 47, 55, 58, 67, 72, 75]⟩),
  (6, ⟨[], [], [0, 2, 3, 4, 5, 6, 11, 21, 26]⟩),
  (7, ⟨[], [], [0, 1, 4, 5, 6, 7, 8, 9, 10, 11, 12, 15, 18, 34, 39, 44, 58, 66, 69, 78, 83, 86]⟩),
  (8, ⟨[], [], [0, 2, 3, 4, 5, 6, 7, 15, 23, 26, 32, 37, 40]⟩),
  (9, ⟨[], [], [0, 1, 4, 5, 6, 7, 8, 13, 25, 30]⟩),
  (10, ⟨[], [], [0, 1, 4, 5, 6, 7, 8, 13, 25, 30]⟩),
  (11, ⟨[], [], [0, 2, 3, 4, 5, 6, 7, 8, 9, 10, 11, 12, 14, 29, 33, 47, 58, 91]⟩),
  (12, ⟨[], [], [0, 1, 2, 6, 7, 8, 9, 10, 11, 12, 13, 14, 15, 20, 25, 43, 48, 53, 67, 75, 78, 88, 93, 96]⟩),
  (13, ⟨[1, 5], [1, 5], [0, 1, 2, 3, 4, 5, 6, 11, 21, 26]⟩),
  (14, ⟨[], [], [0, 1, 4, 5, 14, 17, 25]⟩),
  (15, ⟨[], [], [0, 2, 3, 4, 11]⟩),
  (16, ⟨[], [], [0, 1, 4, 6, 7, 8, 9, 10, 15]⟩),
  (17, ⟨[], [], [0, 1, 4, 5, 10, 14, 25]⟩),
  (18, ⟨[], [], [0, 1, 4, 5, 9, 19]⟩),
  (19, ⟨[], [], [0, 1, 4, 5, 6, 7, 8, 9, 10, 18]⟩),
  (20, ⟨[], [], [0, 1, 2, 6, 7, 23]⟩),
  (21, ⟨[], [], [0, 1, 2, 6, 7, 14]⟩),
  (22, ⟨[], [], [0, 1, 4, 5, 9]⟩),
  (23, ⟨[], [], [0, 1, 4, 5, 9, 17]⟩),
  (24, ⟨[], [], [0, 1, 4, 10]⟩),
  (25, ⟨[], [], [0, 2, 3, 7, 43]⟩),
  (26, ⟨[], [], [0, 2, 3, 4, 11]⟩),
  (27, ⟨[4], [4, 12, 17, 32], [0, 2, 3, 4, 5, 6, 7, 8, 36]⟩),
  (28, ⟨[], [], [0, 1, 4, 5, 10, 14, 26]⟩),
  (29, ⟨[], [], [0, 1, 4, 5, 6, 17]⟩),
  (30, ⟨[], [], [0, 1, 4, 5, 6, 17]⟩),
  (31, ⟨[], [], [0, 2, 3, 4, 8, 12]⟩),
  (32, ⟨[], [], [0, 2, 3, 7, 9, 10, 11]⟩),
  (33, ⟨[], [], [0, 1, 4, 5, 10, 14, 26]⟩),
  (34, ⟨[], [], [0, 1, 4, 5, 9]⟩),
  (35, ⟨[], [], [0, 1, 4, 5, 9, 19]⟩),
  (36, ⟨[], [], [0, 1, 4, 5, 11, 15, 25]⟩),
  (37, ⟨[], [], [0, 1, 4, 5, 6, 9, 13, 24, 37]⟩),
  (38, ⟨[], [], [0, 2, 3, 4, 11]⟩),
  (39, ⟨[], [], [0, 1, 4, 5, 6, 7, 8, 9, 10, 11, 20, 30]⟩),
  (40, ⟨[], [], [0, 1, 4, 5, 6, 15, 18, 26, 33, 44]⟩),
  (41, ⟨[], [], [0, 1, 4, 6, 8, 9, 10, 11, 12, 15, 16, 17, 18, 23, 27]⟩),
  (42, ⟨[], [], [0, 2]⟩),
  (43, ⟨[], [], [0, 2, 3]⟩),
  (44, ⟨[], [], [0, 2, 3, 4, 5, 6]⟩),
  (45, ⟨[], [], [0, 1, 2, 6, 7, 8, 29, 34]⟩),
  (46, ⟨[9], [9, 42, 48, 52], [0, 1, 2, 6, 7, 9, 30, 32, 33, 34, 35]⟩),
  (47, ⟨[], [], [0, 1, 4, 5, 9]⟩),
  (48, ⟨[2], [2, 5], [0, 1, 2, 4, 10]⟩),
  (49, ⟨[1], [1, 4, 9, 12, 17, 23, 25, 32, 38], [0, 1, 2, 3, 30, 35, 44]⟩),
  (50, ⟨[1, 2, 3], [1, 2, 3, 4, 6, 7, 9, 10, 13], [0, 1, 2, 3]⟩),
  (51, ⟨[1, 4], [1, 4, 5, 16, 20, 23, 28, 33, 35], [0, 1, 2, 4, 6, 7, 8, 9, 14]⟩),
  (52, ⟨[2, 3], [2, 3, 5, 7, 10, 12, 15, 17], [0, 1, 2, 3, 4, 9, 14, 20]⟩),
  (53, ⟨[], [], [0, 1, 2, 6]⟩),
  (54, ⟨[], [], [0, 1, 2, 6]⟩),
  (55, ⟨[], [], [0, 1, 4, 8]⟩),
  (56, ⟨[], [], [0, 1, 4, 10]⟩),
  (57, ⟨[], [], [0, 2]⟩),
  (58, ⟨[], [], [0, 2]⟩),
  (59, ⟨[1, 2, 3], [1, 2, 3, 4, 6, 7, 9], [0, 1, 2, 3]⟩),
  (60, ⟨[], [], [0, 2]⟩),
  (61, ⟨[2, 3], [2, 3, 5, 7, 10, 12], [0, 1, 2, 3, 4, 9, 14]⟩),
  (62, ⟨[], [], [0, 1, 4, 7]⟩),
  (63, ⟨[], [], [0, 1, 4, 10]⟩),
  (64, ⟨[], [], [0, 2, 3, 4, 5, 11]⟩),
  (65, ⟨[], [], [0, 2, 3, 4, 15]⟩),
  (66, ⟨[], [], [0, 2, 3, 4, 5, 11, 26]⟩),
  (67, ⟨[], [], [0, 1, 4, 5, 6, 7, 8, 10, 12]⟩),
  (68, ⟨[], [], [0, 2, 3, 4, 9]⟩),
  (69, ⟨[], [], [0, 2, 3, 5, 7, 8, 9, 10]⟩),
  (70, ⟨[], [], [0, 1, 4, 5, 11, 15, 25]⟩),
  (71, ⟨[1, 4, 6], [1, 4, 6, 8, 14, 19, 27, 29, 40, 46, 47, 50, 56, 62, 67, 75, 77, 88], [0, 1, 2, 3, 4, 5, 6, 11, 54, 59, 92]⟩),
  (72, ⟨[], [], [0, 2, 3, 4, 11]⟩),
  (73, ⟨[1, 4, 6], [1, 4, 6, 7, 15, 20, 29, 36, 42, 50, 55, 61, 62, 65, 74, 81], [0, 1, 2, 3, 4, 5, 6, 8, 9, 10, 11, 40, 43, 44, 45, 46, 85]⟩),
  (74, ⟨[], [], [0, 1, 4, 5, 10, 14, 26]⟩),
  (75, ⟨[], [], [0, 1, 4]⟩),
  (76, ⟨[], [], [0, 1, 4]⟩),
  (77, ⟨[], [], [0, 2, 3, 34]⟩),
  (78, ⟨[2], [2, 5, 11], [0, 1, 2, 4, 10, 16]⟩),
  (79, ⟨[1], [1, 3, 7, 12, 17, 22], [0, 1, 2]⟩),
  (80, ⟨[2], [2, 7, 13, 21], [0, 1, 2, 4, 5, 10, 20]⟩),
  (81, ⟨[1, 2, 3], [1, 2, 3, 4, 7, 8, 11], [0, 1, 2, 3]⟩),
  (82, ⟨[1], [1, 3, 7, 12, 17, 22], [0, 1, 2]⟩),
  (83, ⟨[2, 6], [2, 6, 7, 14, 18], [0, 1, 2, 4, 6, 8, 9, 10, 11, 17]⟩),
  (84, ⟨[2, 3], [2, 3, 5, 7, 11, 13], [0, 1, 2, 3, 4, 10, 16]⟩),
  (85, ⟨[], [], [0, 1, 4, 5, 11, 15, 25]⟩),
  (86, ⟨[], [], [0, 1, 4, 10]⟩),
  (87, ⟨[], [], [0, 2, 3, 4, 11]⟩),
  (88, ⟨[], [], [0, 2, 3, 4, 11]⟩),
  (89, ⟨[], [], [0, 1, 4, 5, 10, 14, 26]⟩),
  (90, ⟨[], [], [0, 1, 4, 5, 10, 14, 26]⟩),
  (91, ⟨[2], [2, 5], [0, 1, 2, 4, 10]⟩),
  (92, ⟨[1, 2, 3], [1, 2, 3, 4, 6, 7, 10], [0, 1, 2, 3]⟩),
  (93, ⟨[1, 2, 3], [1, 2, 3, 4, 6, 7, 9], [0, 1, 2, 3]⟩),
  (94, ⟨[2, 3], [2, 3, 5, 7, 10, 12], [0, 1, 2, 3, 4, 9, 15]⟩),
  (95, ⟨[2, 3], [2, 3, 5, 7, 10, 12], [0, 1, 2, 3, 4, 9, 14]⟩),
  (96, ⟨[2], [2, 6], [0, 1, 2, 4, 11]⟩),
  (97, ⟨[1, 2, 3], [1, 2, 3, 4, 6, 7, 9, 10, 12, 13, 15, 16, 18], [0, 1, 2, 3]⟩),
  (98, ⟨[2, 3], [2, 3, 5, 7, 10, 12, 15, 17, 20, 22, 25, 27], [0, 1, 2, 3, 4, 9, 14, 19, 24, 29]⟩)]
def LT (f : FuncId) : FInfo := (LTl.lookup f).getD ⟨[], [], []⟩
def ext0 : String → List Value → St → Option (Value × St) := fun _ _ _ => none
abbrev C (f : FuncId) (args : List Value) (st : St) (R : Value → St → Prop) : Prop := AC Try.prog LT ext0 f args st R

/-! Rows of ints -/
def ints (k : IntKind) (l : List Int) : List Value := l.map (Value.int k)
/-- A row that is read. -/
def Ints (st : St) (k : IntKind) (p : Option Addr) (l : List Int) : Prop := l.length = 0 ∨ ∃ b off blk, p = some ⟨b, off, none⟩ ∧ st.mem b = some blk ∧ b < st.next ∧ ∀ j < l.length, blk.cells[off + j * 1]? = some (.int k (l.getD j 0))
theorem Ints.at {st : St} {k : IntKind} {p : Option Addr} {l : List Int} (h : Ints st k p l) {j : Nat} (hj : j < l.length) : ∃ b off blk, p = some ⟨b, off, none⟩ ∧ st.mem b = some blk ∧ blk.cells[off + j * 1]? = some (.int k (l.getD j 0)) := by
  rcases h with h | ⟨b, off, blk, h1, h2, _, h3⟩
  · omega
  · exact ⟨b, off, blk, h1, h2, h3 j hj⟩
/-- A row of one's own. -/
def Own (st : St) (k : IntKind) (p : Option Addr) (l : List Int) : Prop := (p = none ∧ l = []) ∨ ∃ a, p = some ⟨a, 0, none⟩ ∧ a < st.next ∧ st.mem a = some ⟨true, 1, ints k l⟩
theorem Own.ints {st : St} {k : IntKind} {p : Option Addr} {l : List Int} (h : Own st k p l) : Ints st k p l := by
  rcases h with ⟨rfl, rfl⟩ | ⟨a, rfl, ha, hm⟩
  · exact .inl rfl
  · refine .inr ⟨a, 0, _, rfl, hm, ha, fun j hj => ?_⟩
    simp [AM.ints, List.getD_eq_getElem?_getD, List.getElem?_eq_getElem hj]
theorem Pres.ints {st st' : St} {k : IntKind} {p : Option Addr} {l : List Int} (h : Pres st st') (hi : Ints st k p l) : Ints st' k p l := by
  rcases hi with hi | ⟨b, off, blk, rfl, hm, hb, hc⟩
  · exact .inl hi
  · exact .inr ⟨b, off, blk, rfl, (h.2 b hb).trans hm, Nat.lt_of_lt_of_le hb h.1, hc⟩
theorem Pres.own {st st' : St} {k : IntKind} {p : Option Addr} {l : List Int} (h : Pres st st') (hi : Own st k p l) : Own st' k p l := by
  rcases hi with ⟨rfl, rfl⟩ | ⟨a, rfl, ha, hm⟩
  · exact .inl ⟨rfl, rfl⟩
  · exact .inr ⟨a, rfl, Nat.lt_of_lt_of_le ha h.1, (h.2 a ha).trans hm⟩
theorem wrap_i64 {i : Int} (h0 : -9223372036854775808 ≤ i) (h : i < 9223372036854775808) : IntKind.wrap .i64 i = i := by
  unfold IntKind.wrap; simp [IntKind.bits, IntKind.signed]; omega
theorem eq_of_getD {a b : List Int} (hl : a.length = b.length) (h : ∀ j < a.length, a.getD j 0 = b.getD j 0) : a = b := by
  refine List.ext_getElem hl fun n h1 h2 => ?_
  have := h n h1
  rwa [List.getD_eq_getElem?_getD, List.getD_eq_getElem?_getD, List.getElem?_eq_getElem h1, List.getElem?_eq_getElem h2] at this
theorem getD_snoc (l : List Int) (x : Int) (j : Nat) : (l ++ [x]).getD j 0 = if j = l.length then x else l.getD j 0 := by
  simp only [List.getD_eq_getElem?_getD]
  by_cases h : j < l.length
  · rw [List.getElem?_append_left h, if_neg (by omega)]
  · by_cases h2 : j = l.length
    · subst h2; simp
    · rw [if_neg h2, List.getElem?_eq_none (by simp; omega), List.getElem?_eq_none (by omega)]
/-- 'append' of one number onto a row of one's own. -/
theorem op_app1 {P : Program} {e : Operand → Value} {lo : Lo} {st : St} {c : Call} {t el : TypeId} {ov ox : Operand} {k : IntKind} {p : Option Addr} {l : List Int} {x : Int} {n : Nat} {b : Nat} {z0 : List Value} {a2 : Nat}
    (hat : c.argTypes.toList = [t, t]) (har : c.args.toList = [ov, ox]) (he : telem P t = some el) (hz : tsize P el = some 1) (hb : tbytes P el = some b) (hz0 : tzero P el = some z0) (hz1 : z0.length = 1)
    (hov : e ov = .slice p n n) (hn : n = l.length) (hox : e ox = .slice (some ⟨a2, 0, none⟩) 1 1) (hm : rdB lo st a2 none = some [.int k x]) (hl : (n + 1) * b ≤ 140737488355328) (hml : n + 1 ≤ maxLen)
    (hown : Own st k p l) : ∃ st', aappend P c e lo st = some (.slice (some ⟨st.next, 0, none⟩) (n + 1) (n + 1), lo, st') ∧ st'.mem st.next = some ⟨true, 1, ints k (l ++ [x])⟩ ∧ st'.next = st.next + 1 ∧ (∀ a, a < st.next → (∀ q, p = some q → a ≠ q.block) → st'.mem a = st.mem a) := by
  subst hn
  obtain ⟨st', h1, h2, h3, h4⟩ := app1 (st := st) (z := 1) (b := b) (p := p) (l := ints k l) (x := .int k x) rfl (by simpa [ints] using hl) (by simpa [ints] using hml) (by
    rcases hown with ⟨rfl, rfl⟩ | ⟨a, rfl, _, ha⟩
    · exact .inl ⟨rfl, rfl⟩
    · exact .inr ⟨a, rfl, ha⟩)
  refine ⟨st', ?_, by simpa [ints] using h2, h3, h4⟩
  simp only [ints, List.length_map] at h1
  simp [aappend, hat, har, he, hz, hb, hz0, hz1, hov, hox, asrc, hm, h1]
section
variable {P : Program} {ls : List Tmp} {call : ACallT} {o : Oper} {e : Operand → Value} {lo : Lo} {st : St} {K : Value × Lo × St → Prop}
/-- A literal of one number. -/
theorem op_lit1 {t el : TypeId} {x : Operand} {k : IntKind} {n : Int} {u : Value} (ho : o.op = .buildSlice t 1 #[(0, x)]) (hx : e x = .int k n) (he : telem P t = some el) (hz : tsize P el = some 1) (hz0 : tzero P el = some [u])
    (hK : K (.slice (some ⟨st.next, 0, none⟩) 1 1, lo, st.push 1 [.int k n])) : ∃ r, aoper P ls call o e lo st = some r ∧ K r := by
  refine ⟨_, ?_, hK⟩
  obtain ⟨d, op, ty, pos, after, gd⟩ := o
  simp only at ho
  subst ho
  simp [aoper, alit, he, hz, hz0, parts, hx, afill, zrow, splice, Value.cells, isCell]
theorem op_lit0 {t el : TypeId} {u : List Value} {z : Nat} (ho : o.op = .buildSlice t 0 #[]) (he : telem P t = some el) (hz : tsize P el = some z) (hz0 : tzero P el = some u) (h0 : 0 < z) (hu : u.length = z)
    (hK : K (.slice (some ⟨st.next, 0, none⟩) 0 0, lo, st.push z [])) : ∃ r, aoper P ls call o e lo st = some r ∧ K r := by
  refine ⟨_, ?_, hK⟩
  obtain ⟨d, op, ty, pos, after, gd⟩ := o
  simp only at ho
  subst ho
  simp [aoper, alit, he, hz, hz0, parts, afill, zrow, h0, hu]
/-- 'append' of a literal of one number, just made. -/
theorem op_grow {st0 : St} {c : Call} {t el : TypeId} {ov ox : Operand} {k : IntKind} {p : Option Addr} {l : List Int} {x : Int} {n b : Nat} {z0 : List Value}
    (hat : c.argTypes.toList = [t, t]) (har : c.args.toList = [ov, ox]) (he : telem P t = some el) (hz : tsize P el = some 1) (hb : tbytes P el = some b) (hz0 : tzero P el = some z0) (hz1 : z0.length = 1)
    (hov : e ov = .slice p n n) (hox : e ox = .slice (some ⟨st.next, 0, none⟩) 1 1) (hn : n = l.length) (hl : (n + 1) * b ≤ 140737488355328) (hml : n + 1 ≤ maxLen)
    (hown : Own st k p l) (hP : Pres st0 st) (hN : New st0.next p)
    (hK : ∀ q st', Own st' k q (l ++ [x]) → Pres st0 st' → New st0.next q → K (.slice q (n + 1) (n + 1), lo, st')) : ∃ r, aappend P c e lo (st.push 1 [.int k x]) = some r ∧ K r := by
  have hp1 : Pres st (st.push 1 [.int k x]) := ⟨Nat.le_succ _, fun a ha => by show (if a = st.next then _ else st.mem a) = st.mem a; rw [if_neg (Nat.ne_of_lt ha)]⟩
  obtain ⟨st', h1, h2, h3, h4⟩ := op_app1 (P := P) (lo := lo) hat har he hz hb hz0 hz1 hov hn hox (by show ((if st.next = st.next then _ else _ : Option Blk)).map _ = _; rw [if_pos rfl]; rfl) hl hml (hp1.own hown)
  refine ⟨_, h1, hK _ _ (.inr ⟨_, rfl, by omega, h2⟩) ⟨?_, fun a ha => ?_⟩ (fun q hq => ?_)⟩
  · rw [h3]; exact Nat.le_succ_of_le (Nat.le_trans hP.1 hp1.1)
  · have ha2 := Nat.lt_of_lt_of_le ha hP.1
    rw [h4 a (Nat.lt_of_lt_of_le ha2 hp1.1) (fun q hq => by have := hN q hq; omega), hp1.2 a ha2, hP.2 a ha]
  · injection hq with hq
    rw [← hq]
    exact Nat.le_trans hP.1 hp1.1
theorem Ints.take {k : IntKind} {b off : Nat} {l : List Int} {cs : List Value} (h : ∀ j < l.length, cs[off + j * 1]? = some (.int k (l.getD j 0))) : (cs.drop off).take (l.length * 1) = ints k l := by
  refine List.ext_getElem? fun j => ?_
  rw [List.getElem?_take]
  split
  · rename_i hj
    rw [List.getElem?_drop]
    have := h j (by omega)
    rw [Nat.mul_one] at this
    rw [this]
    simp [ints, List.getD_eq_getElem?_getD, List.getElem?_eq_getElem (show j < l.length by omega)]
  · rename_i hj
    rw [List.getElem?_eq_none]
    simp [ints]; omega
/-- 'append(out, list...)' -/
theorem op_appN {st0 : St} {c : Call} {t el : TypeId} {ov ox : Operand} {k : IntKind} {p q : Option Addr} {l l2 : List Int} {n m b : Nat} {z0 : List Value}
    (hat : c.argTypes.toList = [t, t]) (har : c.args.toList = [ov, ox]) (he : telem P t = some el) (hz : tsize P el = some 1) (hb : tbytes P el = some b) (hz0 : tzero P el = some z0) (hz1 : z0.length = 1)
    (hov : e ov = .slice p n n) (hox : e ox = .slice q m m) (hn : n = l.length) (hm : m = l2.length) (hl : (n + m) * b ≤ 140737488355328) (hml : n + m ≤ maxLen)
    (hown : Own st k p l) (hint : Ints st k q l2) (hP : Pres st0 st) (hN : New st0.next p)
    (hK : ∀ q st', Own st' k q (l ++ l2) → Pres st0 st' → New st0.next q → K (.slice q (n + m) (n + m), lo, st')) : ∃ r, aappend P c e lo st = some r ∧ K r := by
  subst hn hm
  have hsrc : asrc 1 (rdB lo st) (.slice q l2.length l2.length) = some (l2.length, ints k l2) := by
    by_cases h0 : l2.length = 0
    · have : l2 = [] := List.length_eq_zero_iff.1 h0
      subst this
      cases q <;> simp [asrc, ints]
    · rcases hint with h | ⟨b2, off, blk, rfl, hmem, _, hc⟩
      · exact absurd h h0
      · have := Ints.take (b := b2) hc
        simp only [asrc, rdB, hmem, Option.map_some, Option.bind_some]
        rw [if_neg h0, this]
        simp [ints]
  have hred : aappend P c e lo st = (aapp 1 l2.length b (.slice p l.length l.length) (ints k l2) st).map fun r => (r.1, lo, r.2) := by
    simp [aappend, hat, har, he, hz, hb, hz0, hz1, hov, hox, hsrc]
  rw [hred]
  unfold aapp
  simp only
  rw [if_pos ⟨hl, hml, Nat.one_pos, by simp [ints]⟩]
  by_cases h0 : l2.length = 0
  · have : l2 = [] := List.length_eq_zero_iff.1 h0
    subst this
    exact ⟨_, by simp, hK p st (by simpa using hown) hP hN⟩
  · rw [if_neg h0]
    rcases hown with ⟨rfl, rfl⟩ | ⟨a, rfl, ha, hmem⟩
    · refine ⟨_, rfl, ?_⟩
      have := hK (some ⟨st.next, 0, none⟩) (st.push 1 (ints k l2)) (.inr ⟨_, rfl, Nat.lt_succ_self _, by simp [St.push]⟩) ⟨Nat.le_succ_of_le hP.1, fun x hx => ?_⟩ (fun q hq => ?_)
      · simpa using this
      · show (if x = st.next then _ else st.mem x) = _
        rw [if_neg (by have := hP.1; omega)]; exact hP.2 x hx
      · injection hq with hq; rw [← hq]; exact hP.1
    · simp only [hmem]
      rw [if_pos (by simp [ints])]
      refine ⟨_, rfl, hK (some ⟨st.next, 0, none⟩) ((st.set a none).push 1 (ints k l ++ ints k l2)) (.inr ⟨_, rfl, Nat.lt_succ_self _, ?_⟩) ⟨Nat.le_succ_of_le hP.1, fun x hx => ?_⟩ (fun q hq => ?_)⟩
      · simp [St.push, St.set, ints]
      · show (if x = st.next then _ else if x = a then none else st.mem x) = _
        rw [if_neg (by have := hP.1; omega), if_neg (by have := hN _ rfl; simp only at this; omega)]; exact hP.2 x hx
      · injection hq with hq; rw [← hq]; exact hP.1
end
theorem Own.push {st : St} {k : IntKind} {l : List Int} : Own (st.push 1 (AM.ints k l)) k (some ⟨st.next, 0, none⟩) l := .inr ⟨_, rfl, Nat.lt_succ_self _, by show (if st.next = st.next then _ else _ : Option Blk) = _; rw [if_pos rfl]⟩
/-! What was laid out, typed -/
theorem Rows.ints {st : St} {k : IntKind} {p : Option Addr} {l : List Int} (h : Rows st 1 (fun x => [Value.int k x]) p l) : Ints st k p l := by
  rcases h with rfl | ⟨b, off, blk, rfl, hm, hb, hc⟩
  · exact .inl rfl
  · refine .inr ⟨b, off, blk, rfl, hm, hb, fun j hj => ?_⟩
    have h1 := hc j l[j] (List.getElem?_eq_getElem hj)
    have h2 := row_cell h1 (i := 0) rfl
    rw [Nat.add_zero] at h2
    rw [h2, List.getD_eq_getElem?_getD, List.getElem?_eq_getElem hj]
    rfl
set_option maxRecDepth 100000 in
theorem wt_bytes {L : LL} {us : List Value} (h : WT Try.prog Try.prog.globals.size 12 44 L us) : ∃ p l, us = [vS p l.length] ∧ Ints (stL Try.prog.globals.size L) .u8 p l ∧ l.length ≤ maxLen := by
  obtain ⟨p, l, h1, h2, h3, _⟩ := WT.rows (f := fun x => [Value.int .u8 x]) (Q := fun _ => True) Try.underlying44 (z := 1) (by kernel_rfl) (fun us h => by
    obtain ⟨n, h, _⟩ := WT.int Try.underlying5 h
    exact ⟨n, h, trivial⟩) h
  exact ⟨p, l, h1, h2.ints, h3⟩
end Go.Proofs.Ytopakkndacbbpaa.AM
