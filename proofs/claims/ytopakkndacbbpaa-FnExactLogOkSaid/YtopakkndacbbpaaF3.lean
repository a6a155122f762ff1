/- Contracts of the drawing cursor. -/
import Derived.Test.YtopakkndacbbpaaF2
namespace Go.Proofs.Ytopakkndacbbpaa.AM
open Go Go.Proofs
set_option linter.unusedVariables false
set_option linter.unusedSimpArgs false
set_option maxRecDepth 100000
set_option maxHeartbeats 4000000
theorem and255 (x : Int) : 0 ≤ bits .and .i64 x 255 ∧ bits .and .i64 x 255 < 256 := by
  simp only [bits, BitVec.toNat_and]
  have h : (BitVec.ofInt IntKind.i64.bits 255).toNat = 255 := by decide
  rw [h]
  have h2 : (BitVec.ofInt IntKind.i64.bits x).toNat &&& 255 ≤ 255 := Nat.and_le_right
  rw [wrap_i64 (by omega) (by omega)]
  omega
theorem op_and255 {P : Program} {ls : List Tmp} {call : ACallT} {o : Oper} {e : Operand → Value} {lo : Lo} {st : St} {K : Value × Lo × St → Prop} {t ty : TypeId} {x y : Operand} {a : Int} (ho : o.op = .binOp .and t x y ty) (hx : e x = .int .i64 a) (hy : e y = .int .i64 255)
    (hK : ∀ r, 0 ≤ r → r < 256 → K (.int .i64 r, lo, st)) : ∃ r, aoper P ls call o e lo st = some r ∧ K r := by
  refine ⟨_, ?_, hK (bits .and .i64 a 255) (and255 a).1 (and255 a).2⟩
  obtain ⟨d, op, ty, pos, after, gd⟩ := o
  simp only at ho
  subst ho
  simp [aoper, rop, hx, hy, abin, aint]
/-- The cursor over the bytes bs stands in block c. -/
def Cur (st : St) (c : Nat) (p : Option Addr) (bs : List Int) : Prop := c < st.next ∧ ∃ (z : Nat) (i : Nat) (h : Int), st.mem c = some ⟨true, z, [.slice p bs.length bs.length, .int .i64 i, .int .i64 h]⟩ ∧ Ints st .u8 p bs ∧ (bs.length = 0 ∨ ∀ q, p = some q → q.block ≠ c) ∧ i ≤ bs.length
/-- All but block c of what was there is as it was. -/
def PresC (c : Nat) (st st' : St) : Prop := st.next ≤ st'.next ∧ ∀ a, a < st.next → a ≠ c → st'.mem a = st.mem a
theorem PresC.refl (c : Nat) (st : St) : PresC c st st := ⟨Nat.le_refl _, fun _ _ _ => rfl⟩
theorem PresC.trans {c : Nat} {x y z : St} (h : PresC c x y) (k : PresC c y z) : PresC c x z := ⟨Nat.le_trans h.1 k.1, fun a ha hc => (k.2 a (Nat.lt_of_lt_of_le ha h.1) hc).trans (h.2 a ha hc)⟩
theorem PresC.ints {c : Nat} {st st' : St} {k : IntKind} {p : Option Addr} {l : List Int} (h : PresC c st st') (hi : Ints st k p l) (hp : l.length = 0 ∨ ∀ q, p = some q → q.block ≠ c) : Ints st' k p l := by
  rcases hi with hi | ⟨b, off, blk, rfl, hm, hb, hc⟩
  · exact .inl hi
  rcases hp with h0 | hp
  · exact .inl h0
  · exact .inr ⟨b, off, blk, rfl, (h.2 b hb (hp _ rfl)).trans hm, Nat.lt_of_lt_of_le hb h.1, hc⟩
theorem PresC.own {c : Nat} {st st' : St} {k : IntKind} {p : Option Addr} {l : List Int} (h : PresC c st st') (hi : Own st k p l) (hp : ∀ q, p = some q → q.block ≠ c) : Own st' k p l := by
  rcases hi with ⟨rfl, rfl⟩ | ⟨a, rfl, ha, hm⟩
  · exact .inl ⟨rfl, rfl⟩
  · exact .inr ⟨a, rfl, Nat.lt_of_lt_of_le ha h.1, (h.2 a ha (hp _ rfl)).trans hm⟩
theorem Pres.c {c : Nat} {st st' : St} (h : Pres st st') : PresC c st st' := ⟨h.1, fun a ha _ => h.2 a ha⟩
theorem Cur.pres {c : Nat} {st st' : St} {bs : List Int} {p : Option Addr} (h : Pres st st') (hc : Cur st c p bs) : Cur st' c p bs := by
  obtain ⟨h1, z, i, x, hm, hI, hp, hi⟩ := hc
  exact ⟨Nat.lt_of_lt_of_le h1 h.1, z, i, x, (h.2 c h1).trans hm, h.ints hI, hp, hi⟩
/-- What was made later is changed; the cursor stands. -/
theorem Cur.grow {c : Nat} {p q : Option Addr} {st0 st1 st2 : St} {bs : List Int} (h0 : Cur st0 c p bs) (h1 : PresC c st0 st1) (hc : Cur st1 c p bs) (h2 : ∀ a, a < st1.next → (∀ r, q = some r → a ≠ r.block) → st2.mem a = st1.mem a) (hn : st1.next ≤ st2.next) (hq : ∀ r, q = some r → st0.next ≤ r.block) : Cur st2 c p bs := by
  obtain ⟨hlt, _, _, _, _, hI, hp, _⟩ := h0
  obtain ⟨hl, z, i, h, hm, _, _, hi⟩ := hc
  have hP : PresC c st0 st2 := ⟨Nat.le_trans h1.1 hn, fun a ha hne => (h2 a (Nat.lt_of_lt_of_le ha h1.1) fun r hr he => by have := hq r hr; omega).trans (h1.2 a ha hne)⟩
  exact ⟨Nat.lt_of_lt_of_le hl hn, z, i, h, (h2 c hl fun r hr he => by have := hq r hr; omega).trans hm, hP.ints hI hp, hp, hi⟩
theorem ac_l1Byte (c : Nat) (p : Option Addr) (bs : List Int) (st : St) (hc : Cur st c p bs) (hs : bs.length < 1099511627776) : C 77 [.pointer (some ⟨c, 0, none⟩)] st (fun v s => ∃ r, v = .int .i64 r ∧ 0 ≤ r ∧ r < 256 ∧ Cur s c p bs ∧ PresC c st s) := by
  obtain ⟨hlt, z, i, h, hm, hI, hp, hi⟩ := hc
  refine AC.enterX (i := ⟨[], [], [0, 2, 3, 34]⟩) [(2, [], []), (3, [], []), (4, [], [])] Try.func77 rfl rfl (by kernel_rfl) (by kernel_rfl) Try.ntmps77 (Nat.le_of_ble_eq_true rfl) rfl ?_
  refine AW.cut lo0 st [(0, vP c 0)] ⟨rfl, trivial⟩ fun ρ0 => ?_
  refine ⟨_, rfl, ?_⟩
  refine ⟨_, rfl, ?_⟩
  refine ⟨_, op_ld rfl rfl rfl rfl hm rfl, ?_⟩
  refine ⟨_, rfl, ?_⟩
  refine ⟨_, rfl, ?_⟩
  refine ⟨_, rfl, ?_⟩
  refine ⟨_, rfl, ?_⟩
  refine op_stc rfl rfl rfl rfl rfl rfl rfl hm rfl (Nat.le_of_ble_eq_true rfl) ?_
  intro st1 hm1 hn1 hk1
  obtain ⟨h1, hm1⟩ : ∃ h1, st1.mem c = some ⟨true, z, [.slice p bs.length bs.length, .int .i64 i, .int .i64 h1]⟩ := ⟨_, hm1⟩
  have hP1 : PresC c st st1 := ⟨Nat.le_of_eq hn1.symm, fun a _ hne => hk1 a hne⟩
  have hI1 := hP1.ints hI hp
  have hlt1 : c < st1.next := by rw [hn1]; exact hlt
  have hC1 : Cur st1 c p bs := ⟨hlt1, z, i, h1, hm1, hI1, hp, hi⟩
  refine AW.cut lo0 st1 [(0, vP c 0)] ⟨rfl, trivial⟩ fun ρ0 => ?_
  refine ⟨_, rfl, ?_⟩
  refine ⟨_, rfl, ?_⟩
  refine ⟨_, op_ld rfl rfl rfl rfl hm1 rfl, ?_⟩
  refine ⟨_, rfl, ?_⟩
  refine ⟨_, rfl, ?_⟩
  refine ⟨_, rfl, ?_⟩
  refine ⟨_, op_ld rfl rfl rfl rfl hm1 rfl, ?_⟩
  refine ⟨_, rfl, ?_⟩
  refine ⟨_, rfl, ?_⟩
  refine op_and255 rfl rfl rfl ?_
  intro r1 hr1 hr1'
  refine AW.cut lo0 st1 [(0, vP c 0), (3, vI r1)] ⟨rfl, rfl, trivial⟩ fun ρ0 => ?_
  refine ⟨_, rfl, ?_⟩
  refine ⟨_, rfl, ?_⟩
  refine ⟨_, op_ld rfl rfl rfl rfl hm1 rfl, ?_⟩
  refine ⟨_, rfl, ?_⟩
  refine ⟨_, rfl, ?_⟩
  refine ⟨_, op_ld rfl rfl rfl rfl hm1 rfl, ?_⟩
  refine ⟨_, rfl, ?_⟩
  refine ⟨_, rfl, ?_⟩
  rintro (_|_) hd
  · refine AW.cut lo0 st1 [(0, vP c 0), (3, vI r1), (34, vB false)] ⟨rfl, rfl, rfl, trivial⟩ fun ρ0 => ?_
    refine AW.cut lo0 st1 [(0, vP c 0), (3, vI r1)] ⟨rfl, rfl, trivial⟩ fun ρ0 => ?_
    repeat refine cx_sound _ _ _ _ _ ?_
    exact ⟨.inl rfl, _, rfl, r1, rfl, hr1, hr1', hC1, hP1⟩
  · refine AW.cut lo0 st1 [(0, vP c 0), (3, vI r1), (34, vB true)] ⟨rfl, rfl, rfl, trivial⟩ fun ρ0 => ?_
    have hd : i < bs.length := Int.ofNat_lt.1 (of_decide_eq_true (show decide ((i : Int) < (bs.length : Int)) = true from hd))
    obtain ⟨b1, o1, k1, hpe, hb1, hc1⟩ := hI1.at hd
    refine ⟨_, rfl, ?_⟩
    refine ⟨_, rfl, ?_⟩
    refine ⟨_, op_ld rfl rfl rfl rfl hm1 rfl, ?_⟩
    refine ⟨_, rfl, ?_⟩
    refine ⟨_, rfl, ?_⟩
    refine ⟨_, op_ld rfl rfl rfl rfl hm1 rfl, ?_⟩
    refine ⟨_, op_idx (j := (i : Int)) (n := bs.length) (q := ⟨b1, o1, none⟩) rfl (congrArg (fun u => Value.slice u bs.length bs.length) hpe) rfl rfl rfl (Int.natCast_nonneg i) (Int.ofNat_lt.2 hd), ?_⟩
    refine ⟨_, op_ld rfl rfl rfl rfl hb1 hc1, ?_⟩
    refine ⟨_, rfl, ?_⟩
    refine ⟨_, rfl, ?_⟩
    refine op_and255 rfl rfl rfl ?_
    intro r2 hr2 hr2'
    refine AW.cut lo0 st1 [(0, vP c 0), (3, vI r2)] ⟨rfl, rfl, trivial⟩ fun ρ0 => ?_
    refine ⟨_, rfl, ?_⟩
    refine ⟨_, rfl, ?_⟩
    refine ⟨_, op_ld rfl rfl rfl rfl hm1 rfl, ?_⟩
    refine ⟨_, rfl, ?_⟩
    refine ⟨_, rfl, ?_⟩
    refine ⟨_, rfl, ?_⟩
    refine op_stc rfl rfl rfl rfl rfl rfl rfl hm1 rfl (Nat.le_of_ble_eq_true rfl) ?_
    intro st2 hm2 hn2 hk2
    have hm2 : st2.mem c = some ⟨true, z, [.slice p bs.length bs.length, .int .i64 (IntKind.wrap .i64 ((i : Int) + 1)), .int .i64 h1]⟩ := hm2
    rw [wrap_i64 (by omega) (by omega)] at hm2
    have hP2 : PresC c st1 st2 := ⟨Nat.le_of_eq hn2.symm, fun a _ hne => hk2 a hne⟩
    have hlt2 : c < st2.next := by rw [hn2]; exact hlt1
    have hC : Cur st2 c p bs := ⟨hlt2, z, i + 1, h1, hm2, hP2.ints hI1 hp, hp, hd⟩
    refine AW.cut lo0 st2 [(0, vP c 0), (3, vI r2)] ⟨rfl, rfl, trivial⟩ fun ρ0 => ?_
    repeat refine cx_sound _ _ _ _ _ ?_
    exact ⟨.inl rfl, _, rfl, r2, rfl, hr2, hr2', hC, hP1.trans hP2⟩
theorem tmod_lt {x n : Int} (hx : 0 ≤ x) (hn : 0 < n) : 0 ≤ x.tmod n ∧ x.tmod n < n := ⟨Int.tmod_nonneg _ hx, Int.tmod_lt_of_pos _ hn⟩
theorem ac_l1Below (c : Nat) (p : Option Addr) (bs : List Int) (n : Int) (st : St) (hc : Cur st c p bs) (hs : bs.length < 1099511627776) : C 67 [.pointer (some ⟨c, 0, none⟩), .int .i64 n] st (fun v s => ∃ r, v = .int .i64 r ∧ 0 ≤ r ∧ (0 < n → r < n) ∧ (n ≤ 0 → r = 0) ∧ Cur s c p bs ∧ PresC c st s) := by
  refine AC.enter' (i := ⟨[], [], [0, 1, 4, 5, 6, 7, 8, 10, 12]⟩) Try.func67 rfl rfl (by kernel_rfl) Try.ntmps67 (Nat.le_of_ble_eq_true rfl) rfl (cw_sound _ _ _ _ _ ?_)
  refine ⟨_, rfl, ?_⟩
  rintro (_|_) h0
  · have h0 : 0 < n := by simpa using h0
    refine ⟨_, rfl, ?_⟩
    rintro (_|_) h1
    · refine ⟨_, rfl, (ac_l1Byte c p bs st hc hs).mono ?_⟩
      rintro _ s1 ⟨r1, rfl, hr1, hr1', hc1, hp1⟩
      refine ⟨_, rfl, (ac_l1Byte c p bs s1 hc1 hs).mono ?_⟩
      rintro _ s2 ⟨r2, rfl, hr2, hr2', hc2, hp2⟩
      refine ⟨_, rfl, (ac_l1Byte c p bs s2 hc2 hs).mono ?_⟩
      rintro _ s3 ⟨r3, rfl, hr3, hr3', hc3, hp3⟩
      refine ⟨_, rfl, (ac_l1Byte c p bs s3 hc3 hs).mono ?_⟩
      rintro _ s4 ⟨r4, rfl, hr4, hr4', hc4, hp4⟩
      refine ⟨_, rfl, ?_⟩
      refine ⟨_, rfl, ?_⟩
      refine ⟨_, rfl, ?_⟩
      refine ⟨_, rfl, ?_⟩
      refine ⟨_, rfl, ?_⟩
      refine ⟨_, rfl, ?_⟩
      refine ⟨_, op_rem rfl rfl rfl (by omega), ?_⟩
      have e1 : IntKind.wrap .i64 (r1 * 16777216) = r1 * 16777216 := wrap_i64 (by omega) (by omega)
      have e2 : IntKind.wrap .i64 (r2 * 65536) = r2 * 65536 := wrap_i64 (by omega) (by omega)
      have e3 : IntKind.wrap .i64 (r3 * 256) = r3 * 256 := wrap_i64 (by omega) (by omega)
      have e4 : IntKind.wrap .i64 (r1 * 16777216 + r2 * 65536) = r1 * 16777216 + r2 * 65536 := wrap_i64 (by omega) (by omega)
      have e5 : IntKind.wrap .i64 (r1 * 16777216 + r2 * 65536 + r3 * 256) = r1 * 16777216 + r2 * 65536 + r3 * 256 := wrap_i64 (by omega) (by omega)
      have e6 : IntKind.wrap .i64 (r1 * 16777216 + r2 * 65536 + r3 * 256 + r4) = r1 * 16777216 + r2 * 65536 + r3 * 256 + r4 := wrap_i64 (by omega) (by omega)
      have hX : 0 ≤ IntKind.wrap .i64 (IntKind.wrap .i64 (IntKind.wrap .i64 (IntKind.wrap .i64 (r1 * 16777216) + IntKind.wrap .i64 (r2 * 65536)) + IntKind.wrap .i64 (r3 * 256)) + r4) := by
        rw [e1, e2, e4, e3, e5, e6]; omega
      refine ⟨.inl rfl, _, rfl, _, rfl, (tmod_lt hX h0).1, fun _ => (tmod_lt hX h0).2, fun h => by omega, hc4, ((hp1.trans hp2).trans hp3).trans hp4⟩
    · refine ⟨_, rfl, (ac_l1Byte c p bs st hc hs).mono ?_⟩
      rintro _ s1 ⟨r1, rfl, hr1, hr1', hc1, hp1⟩
      refine ⟨_, op_rem rfl rfl rfl (by omega), ?_⟩
      refine ⟨.inl rfl, _, rfl, _, rfl, (tmod_lt hr1 h0).1, fun _ => (tmod_lt hr1 h0).2, fun h => by omega, hc1, hp1⟩
  · have h0 : n ≤ 0 := by simpa using h0
    exact ⟨.inl rfl, _, rfl, 0, rfl, Int.le_refl _, fun h => by omega, fun _ => rfl, hc, PresC.refl _ _⟩
theorem ac_l1Once (c : Nat) (p : Option Addr) (bs : List Int) (n : Int) (st : St) (hc : Cur st c p bs) (hs : bs.length < 1099511627776) : C 75 [.pointer (some ⟨c, 0, none⟩), .int .i64 n] st (fun v s => ∃ b, v = .bool b ∧ Cur s c p bs ∧ PresC c st s) := by
  refine AC.enter' (i := ⟨[], [], [0, 1, 4]⟩) Try.func75 rfl rfl (by kernel_rfl) Try.ntmps75 (Nat.le_of_ble_eq_true rfl) rfl (cw_sound _ _ _ _ _ ?_)
  refine ⟨_, rfl, (ac_l1Below c p bs n st hc hs).mono ?_⟩
  rintro _ s1 ⟨r1, rfl, _, _, _, hc1, hp1⟩
  refine ⟨_, rfl, ?_⟩
  intro b hb
  exact ⟨.inl rfl, _, rfl, b, rfl, hc1, hp1⟩
theorem ac_l1PickInt (c : Nat) (p : Option Addr) (bs : List Int) (q : Option Addr) (l : List Int) (st : St) (hc : Cur st c p bs) (hs : bs.length < 1099511627776) (hl : 0 < l.length) (hI : Ints st .i64 q l) (hp : ∀ a, q = some a → a.block ≠ c) : C 76 [.pointer (some ⟨c, 0, none⟩), .slice q l.length l.length] st (fun v s => ∃ r, v = .int .i64 r ∧ Cur s c p bs ∧ PresC c st s) := by
  refine AC.enter' (i := ⟨[], [], [0, 1, 4]⟩) Try.func76 rfl rfl (by kernel_rfl) Try.ntmps76 (Nat.le_of_ble_eq_true rfl) rfl (cw_sound _ _ _ _ _ ?_)
  refine ⟨_, rfl, ?_⟩
  refine ⟨_, rfl, (ac_l1Below c p bs l.length st hc hs).mono ?_⟩
  rintro _ s1 ⟨r1, rfl, h0, h1, _, hc1, hp1⟩
  have h1 := h1 (by omega)
  obtain ⟨j, rfl⟩ : ∃ j : Nat, r1 = j := ⟨r1.toNat, by omega⟩
  obtain ⟨b1, o1, k1, rfl, hb1, hcc⟩ := (hp1.ints hI (.inr hp)).at (j := j) (by omega)
  refine ⟨_, op_idx rfl rfl rfl rfl rfl (by omega) (by omega), ?_⟩
  refine ⟨_, op_ld rfl rfl rfl rfl hb1 hcc, ?_⟩
  exact ⟨.inl rfl, _, rfl, _, rfl, hc1, hp1⟩
end Go.Proofs.Ytopakkndacbbpaa.AM
