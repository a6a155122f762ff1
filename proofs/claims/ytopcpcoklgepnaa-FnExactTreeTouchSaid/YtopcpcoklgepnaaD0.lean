/- The program's data as plain Lean. -/
import Derived.Test.YtopcpcoklgepnaaF2
import Derived.Laws.Strings
namespace Go.Proofs.Ytopcpcoklgepnaa.AM
open Go Go.Proofs
set_option linter.unusedVariables false
set_option linter.unusedSimpArgs false
set_option maxRecDepth 100000
set_option maxHeartbeats 4000000
structure Ent where
  inc : Int
  rank : Int
  beat : Int
  ver : Int
  data : ByteArray
structure Itm where
  id : Int
  e : Ent
/-- A floor, or a mark. -/
structure Flr where
  id : Int
  inc : Int
structure Sta where
  items : List Itm
  floors : List Flr
abbrev cEnt (e : Ent) : List Value := [vI e.inc, vI e.rank, vI e.beat, vI e.ver, .string e.data]
abbrev cItm (x : Itm) : List Value := [vI x.id, vI x.e.inc, vI x.e.rank, vI x.e.beat, vI x.e.ver, .string x.e.data]
abbrev cFlr (x : Flr) : List Value := [vI x.id, vI x.inc]
/-- A state, with the places of its rows. -/
structure SV where
  p : Option Addr
  q : Option Addr
  x : Sta
abbrev cSV (s : SV) : List Value := [vS s.p s.x.items.length, vS s.q s.x.floors.length]
def zEnt : Ent := ⟨0, 0, 0, 0, ⟨#[]⟩⟩
def zItm : Itm := ⟨0, zEnt⟩
def zFlr : Flr := ⟨0, 0⟩
def szOk (n : Nat) : Prop := n ≤ 1048576
theorem toList_inj {a b : ByteArray} (h : a.toList = b.toList) : a = b := by
  rw [ByteArray.toList_eq, ByteArray.toList_eq] at h
  rw [ByteArray.ext_iff]
  exact Array.toList_inj.1 h
theorem beq_bytes {a b : ByteArray} : (a.toList == b.toList) = true ↔ a = b :=
  ⟨fun h => toList_inj (beq_iff_eq.1 h), fun h => by rw [h]; exact beq_self_eq_true _⟩
theorem str_ne {a b : ByteArray} (h : (!(a.toList == b.toList)) = true) : ¬ a = b := fun e => by rw [e] at h; simp at h
theorem str_eq {a b : ByteArray} (h : (!(a.toList == b.toList)) = false) : a = b := beq_bytes.1 (by cases h2 : (a.toList == b.toList) <;> simp_all)
theorem str_bne {a b : ByteArray} (h : (a.toList == b.toList) = false) : ¬ a = b := fun e => by rw [e] at h; simp at h
theorem b_ne {a b : Bool} (h : (!(a == b)) = true) : ¬ a = b := by cases a <;> cases b <;> simp_all
theorem b_eq {a b : Bool} (h : (!(a == b)) = false) : a = b := by cases a <;> cases b <;> simp_all
theorem ld_lt {ρ : Tm} {o : Op} {t0 : TypeId} {x0 : Operand} {q : Addr} {n0 : Nat} (ho : o = .load t0 x0) (hx : ev ρ x0 = .pointer (some q)) (hb : q.block < n0) : ∀ t x, o = .load t x → ∀ p, ev ρ x = .pointer (some p) → p.spot = none → p.block < n0 := by
  intro t x h p hp _
  rw [ho] at h
  injection h with h1 h2
  rw [← h2, hx] at hp
  injection hp with hp
  injection hp with hp
  rw [← hp]; exact hb
theorem ld_own {ρ : Tm} {o : Op} {t0 : TypeId} {x0 : Operand} {q : Addr} {n0 g : Nat} (ho : o = .load t0 x0) (hx : ev ρ x0 = .pointer (some q)) (hs : q.spot = some g) : ∀ t x, o = .load t x → ∀ p, ev ρ x = .pointer (some p) → p.spot = none → p.block < n0 := by
  intro t x h p hp h0
  rw [ho] at h
  injection h with h1 h2
  rw [← h2, hx] at hp
  injection hp with hp
  injection hp with hp
  rw [← hp, hs] at h0
  cases h0
theorem AC.tru {f : FuncId} {args : List Value} {st : St} {P : Prop} (h : C f args st (fun v s => ∃ x, v = .bool x ∧ (x = true ↔ P) ∧ s = st)) (hp : P) : C f args st (fun v s => v = vB true ∧ s = st) :=
  AC.mono h fun v s ⟨x, h1, h2, h3⟩ => ⟨by rw [h1, h2.2 hp], h3⟩
theorem Rows.atB {α : Type} {st : St} {z : Nat} {f : α → List Value} {p : Option Addr} {l : List α} (h : Rows st z f p l) {j : Nat} (hj : j < l.length) : ∃ b off blk x, p = some ⟨b, off, none⟩ ∧ l[j]? = some x ∧ st.mem b = some blk ∧ (blk.cells.drop (off + j * z)).take z = f x ∧ b < st.next := by
  rcases h with rfl | ⟨b, off, blk, h1, h2, hb, h3⟩
  · cases hj
  · exact ⟨b, off, blk, l[j], h1, List.getElem?_eq_getElem hj, h2, h3 j _ (List.getElem?_eq_getElem hj), hb⟩
theorem bool_iff {a b : Bool} {P : Prop} (h : a = true ↔ P) (k : b = true ↔ P) : a = b := by cases a <;> cases b <;> simp_all
/-- A row that is filled from the front. -/
theorem fill_set {α : Type} {l : List α} {z x : α} {i : Nat} (hx : l[i]? = some x) : (l.take i ++ List.replicate (l.length - i) z).set i x = l.take (i + 1) ++ List.replicate (l.length - (i + 1)) z := by
  obtain ⟨hi, hx'⟩ := List.getElem?_eq_some_iff.1 hx
  obtain ⟨n, hn⟩ : ∃ n, l.length - i = n + 1 := ⟨l.length - i - 1, by omega⟩
  have hl : (l.take i).length = i := by rw [List.length_take]; omega
  rw [hn, show l.length - (i + 1) = n by omega, List.replicate_succ, List.set_append_right _ _ (by omega), hl, Nat.sub_self, List.set_cons_zero, List.take_add_one, hx]
  simp
theorem iff_lists {α : Type} {a b : List α} (hl : a.length = b.length) (h : ∀ (i : Nat) x y, i < a.length → a[i]? = some x → b[i]? = some y → x = y) : a = b := by
  refine List.ext_getElem hl fun n h1 h2 => h n _ _ h1 (List.getElem?_eq_getElem h1) (List.getElem?_eq_getElem h2)
section
variable {P : Program} {ls : List Tmp} {call : ACallT} {o : Oper} {e : Operand → Value} {lo : Lo} {st : St} {K : Value × Lo × St → Prop} {α : Type} {f : α → List Value} {z : Nat}
/-- An element of a row that is read, once it is known. -/
theorem op_el {t el : TypeId} {x i : Operand} {p : Option Addr} {l : List α} {n c : Nat} {k : IntKind} {j : Int} {y : α} (i' : Nat) (hR : Rows st z f p l) (hy : l[i']? = some y) (ho : o.op = .indexAddr t x i) (hx : e x = .slice p n c) (hi : e i = .int k j) (hn : n = l.length) (hj : j = (i' : Int)) (ht : telem P t = some el) (hz : tsize P el = some z)
    (hK : ∀ b d blk, b < st.next → st.mem b = some blk → (blk.cells.drop d).take z = f y → (∃ o, p = some ⟨b, o, none⟩) → K (.pointer (some ⟨b, d, none⟩), lo, st)) : ∃ r, aoper P ls call o e lo st = some r ∧ K r := by
  obtain ⟨hlt, _⟩ := List.getElem?_eq_some_iff.1 hy
  rcases hR with rfl | ⟨b, off, blk, h1, h2, hb, h3⟩
  · cases hlt
  · subst hn hj
    refine ⟨_, op_idx (q := ⟨b, off, none⟩) ho (hx.trans (by rw [h1])) hi ht hz (Int.natCast_nonneg _) (Int.ofNat_lt.2 hlt), ?_⟩
    exact hK b (off + i' * z) blk hb h2 (h3 i' y hy) ⟨off, h1⟩
/-- An element of a row that is read. -/
theorem op_at {t el : TypeId} {x i : Operand} {p : Option Addr} {l : List α} {n c : Nat} {k : IntKind} {j : Int} (i' : Nat) (hR : Rows st z f p l) (hlt : i' < l.length) (ho : o.op = .indexAddr t x i) (hx : e x = .slice p n c) (hi : e i = .int k j) (hn : n = l.length) (hj : j = (i' : Int)) (ht : telem P t = some el) (hz : tsize P el = some z)
    (hK : ∀ y b d blk, l[i']? = some y → b < st.next → st.mem b = some blk → (blk.cells.drop d).take z = f y → (∃ o, p = some ⟨b, o, none⟩) → K (.pointer (some ⟨b, d, none⟩), lo, st)) : ∃ r, aoper P ls call o e lo st = some r ∧ K r :=
  op_el i' hR (List.getElem?_eq_getElem hlt) ho hx hi hn hj ht hz fun b d blk => hK _ b d blk (List.getElem?_eq_getElem hlt)
end
section
variable {P : Program} {ls : List Tmp} {call : ACallT} {o : Oper} {e : Operand → Value} {lo : Lo} {st : St} {K : Value × Lo × St → Prop} {α : Type} {f : α → List Value} {z : Nat}
/-- 'append' of one element, the length told by the list. -/
theorem op_snoc {c : Call} {t el : TypeId} {ov ox : Operand} {p : Option Addr} {l : List α} {x : α} {n b : Nat} {z0 : List Value}
    (hat : c.argTypes.toList = [t, t]) (har : c.args.toList = [ov, ox]) (he : telem P t = some el) (hzz : tsize P el = some z) (hb : tbytes P el = some b) (hz0 : tzero P el = some z0) (hz1 : z0.length = z) (h0 : 0 < z) (hz : ∀ x, (f x).length = z)
    (hov : e ov = .slice p n n) (hox : e ox = .slice (some ⟨st.next, 0, none⟩) 1 1) (hn : n = l.length) (hl : (l.length + 1) * b ≤ 140737488355328) (hml : l.length + 1 ≤ maxLen)
    (hown : OwnR st z f p l)
    (hK : ∀ q st', OwnR st' z f q (l ++ [x]) → Pr p st st' → New st.next q → K (.slice q (l ++ [x]).length (l ++ [x]).length, lo, st')) : ∃ r, aappend P c e lo (st.push z ([x].flatMap f)) = some r ∧ K r := by
  subst hn
  refine op_add hat har he hzz hb hz0 hz1 h0 hz hov hox rfl hl hml hown fun q st' h1 h2 h3 => ?_
  have := hK q st' h1 h2 h3
  rw [List.length_append] at this
  exact this
/-- 'append' of a row, the length told by the lists. -/
theorem op_cat' {c : Call} {t el : TypeId} {ov ox : Operand} {p q : Option Addr} {l l2 : List α} {n m b : Nat} {z0 : List Value}
    (hat : c.argTypes.toList = [t, t]) (har : c.args.toList = [ov, ox]) (he : telem P t = some el) (hzz : tsize P el = some z) (hb : tbytes P el = some b) (hz0 : tzero P el = some z0) (hz1 : z0.length = z) (h0 : 0 < z) (hz : ∀ x, (f x).length = z)
    (hov : e ov = .slice p n n) (hox : e ox = .slice q m m) (hn : n = l.length) (hm : m = l2.length) (hl : (l.length + l2.length) * b ≤ 140737488355328) (hml : l.length + l2.length ≤ maxLen)
    (hown : OwnR st z f p l) (hint : Rows st z f q l2)
    (hK : ∀ q st', OwnR st' z f q (l ++ l2) → Pr p st st' → (q = p ∧ l2 = [] ∧ st' = st ∨ 0 < l2.length ∧ New st.next q) → K (.slice q (l ++ l2).length (l ++ l2).length, lo, st')) : ∃ r, aappend P c e lo st = some r ∧ K r := by
  subst hn hm
  refine op_app hat har he hzz hb hz0 hz1 h0 hz hov hox rfl rfl hl hml hown hint fun q st' h1 h2 h3 => ?_
  have := hK q st' h1 h2 h3
  rw [List.length_append] at this
  exact this
end
/-- In the midst of a region: the places are cut to clean words. -/
theorem ow_cut {P : Program} {LT : FuncId → FInfo} {ext : String → List Value → St → Option (Value × St)} {ls : List Tmp} {ops : Array Oper} {os : List Oper} {ρ : Tm} {lo : Lo} {st : St} {K : Tm → Lo → St → Prop} (L : List (Nat × Value)) (h : Has ρ L) (hK : ∀ ρ0, ow P LT ext ls ops os (ov L ρ0) lo st K) : ow P LT ext ls ops os ρ lo st K := by
  rw [ov_has h]; exact hK ρ
theorem owE_cut {P : Program} {LT : FuncId → FInfo} {ext : String → List Value → St → Option (Value × St)} {ls : List Tmp} {ops : Array Oper} {n0 : Nat} {fl ld : List Nat} {os : List Oper} {j : Nat} {ρ : Tm} {lo : Lo} {st : St} {K : Tm → Lo → St → Prop} (L : List (Nat × Value)) (h : Has ρ L) (hK : ∀ ρ0, owE P LT ext ls ops n0 fl ld os j (ov L ρ0) lo st K) : owE P LT ext ls ops n0 fl ld os j ρ lo st K := by
  rw [ov_has h]; exact hK ρ
theorem splice_all : ∀ (vs cs : List Value), cs.length = vs.length → splice cs 0 vs = vs := fun vs cs h => by
  have := splice_eq vs [] cs h
  simpa using this
/-- A whole variable of one's own is stored. -/
theorem op_stw {P : Program} {ls : List Tmp} {call : ACallT} {o : Oper} {e : Operand → Value} {lo : Lo} {st : St} {t : TypeId} {x u : Operand} {b g : Nat} {cs vs : List Value} {v : Value} (ho : o.op = .store t x u) (hx : e x = .pointer (some ⟨b, 0, some g⟩)) (hu : e u = v) (hv : v.cells.toList = vs) (hl : lo.loc b = some (g, cs)) (hz : tsize P t = some vs.length) (hi : vs.all isCell = true) (hb : cs.length = vs.length) : aoper P ls call o e lo st = some (undef, lo.set b g vs, st) := by
  obtain ⟨d, op, ty, pos, after, gd⟩ := o
  simp only at ho
  subst ho hv hu
  have hc : (tsize P t) = some (e u).cells.toList.length ∧ ((e u).cells.toList.all isCell = true) := ⟨hz, hi⟩
  simp only [aoper, astore, hx, hl]
  rw [if_pos hc, if_pos ⟨trivial, by omega⟩, splice_all _ _ hb]
theorem Rows.lt {α : Type} {st : St} {z : Nat} {f : α → List Value} {p : Option Addr} {l : List α} {i b : Nat} {y : α} (h : Rows st z f p l) (hy : l[i]? = some y) (hp : ∃ o, p = some ⟨b, o, none⟩) : b < st.next := by
  obtain ⟨o, hp⟩ := hp
  rcases h with rfl | ⟨b', off, blk, h1, _, hb, _⟩
  · cases hy
  · rw [hp] at h1
    injection h1 with h1
    injection h1 with h1 _ _
    rw [h1]; exact hb
theorem sub_row {cs r q : List Value} {d z : Nat} (i n : Nat) (hc : (cs.drop d).take z = r) (hq : (r.drop i).take n = q) (hle : i + n ≤ z) : (cs.drop (d + i)).take n = q := by
  subst hc hq
  rw [List.drop_take, List.take_take, List.drop_drop, Nat.min_eq_left (by omega)]
end Go.Proofs.Ytopcpcoklgepnaa.AM
