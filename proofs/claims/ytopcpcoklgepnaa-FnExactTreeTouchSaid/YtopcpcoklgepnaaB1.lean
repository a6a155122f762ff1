/- Contracts of bytes: checksums, numbers, texts. -/
import Derived.Test.YtopcpcoklgepnaaN0
namespace Go.Proofs.Ytopcpcoklgepnaa.AM
open Go Go.Proofs
set_option linter.unusedVariables false
set_option linter.unusedSimpArgs false
set_option maxRecDepth 100000
set_option maxHeartbeats 4000000
def xr (a b : Int) : Int := bits .xor .i64 a b
theorem wrap_nat (n : Nat) (h : n < 9223372036854775808) : IntKind.wrap .i64 (n : Int) = (n : Int) := wrap_i64 (by omega) (by omega)
theorem xr_nat {a b : Nat} (ha : a < 4294967296) (hb : b < 4294967296) : xr a b = ((a ^^^ b : Nat) : Int) ∧ a ^^^ b < 4294967296 := by
  have h : a ^^^ b < 4294967296 := Nat.xor_lt_two_pow (n := 32) ha hb
  refine ⟨?_, h⟩
  have h1 : (BitVec.ofInt 64 (a : Int) ^^^ BitVec.ofInt 64 (b : Int)).toNat = a ^^^ b := by
    rw [BitVec.toNat_xor, BitVec.ofInt_natCast, BitVec.ofInt_natCast, BitVec.toNat_ofNat, BitVec.toNat_ofNat, Nat.mod_eq_of_lt (by omega), Nat.mod_eq_of_lt (by omega)]
  show IntKind.wrap .i64 (((BitVec.ofInt 64 (a : Int) ^^^ BitVec.ofInt 64 (b : Int)).toNat : Nat) : Int) = _
  rw [h1]
  exact wrap_nat _ (by omega)
def rng32 (x : Int) : Prop := 0 ≤ x ∧ x < 4294967296
theorem xr_rng {a b : Int} (ha : rng32 a) (hb : rng32 b) : rng32 (xr a b) := by
  obtain ⟨m, rfl⟩ := Int.eq_ofNat_of_zero_le ha.1
  obtain ⟨n, rfl⟩ := Int.eq_ofNat_of_zero_le hb.1
  have h := xr_nat (a := m) (b := n) (by have := ha.2; omega) (by have := hb.2; omega)
  rw [h.1]
  exact ⟨by omega, by omega⟩
def crc1 (x : Int) : Int := if x % 2 = 1 then xr (x / 2) 3988292384 else x / 2
def crcN : Nat → Int → Int
  | 0, x => x
  | n + 1, x => crc1 (crcN n x)
def crcS (x u : Int) : Int := crcN 8 (xr x u)
def crcP (l : List Int) (i : Nat) : Int := (l.take i).foldl crcS 4294967295
def crc (l : List Int) : Int := xr (crcP l l.length) 4294967295
def bytesOk (l : List Int) : Prop := ∀ x ∈ l, 0 ≤ x ∧ x < 256
theorem crc1_rng {x : Int} (h : rng32 x) : rng32 (crc1 x) := by
  have hd : rng32 (x / 2) := ⟨by have := h.1; omega, by have := h.1; have := h.2; omega⟩
  unfold crc1
  split
  · exact xr_rng hd ⟨by decide, by decide⟩
  · exact hd
theorem crcN_rng {x : Int} (h : rng32 x) : ∀ n, rng32 (crcN n x)
  | 0 => h
  | n + 1 => crc1_rng (crcN_rng h n)
theorem crcP_succ {l : List Int} {i : Nat} {u : Int} (h : l[i]? = some u) : crcP l (i + 1) = crcS (crcP l i) u := by
  unfold crcP
  rw [List.take_add_one, h, List.foldl_append]
  rfl
theorem bytesOk.at {l : List Int} (hl : bytesOk l) {i : Nat} {u : Int} (h : l[i]? = some u) : rng32 u := by
  have := hl u (List.mem_of_getElem? h)
  exact ⟨this.1, by omega⟩
theorem crcP_rng {l : List Int} (hl : bytesOk l) : ∀ i, rng32 (crcP l i)
  | 0 => ⟨by show (0 : Int) ≤ 4294967295; decide, by show (4294967295 : Int) < 4294967296; decide⟩
  | i + 1 => by
    cases h : l[i]? with
    | none =>
      have : crcP l (i + 1) = crcP l i := by
        unfold crcP
        rw [List.take_add_one, h]
        simp
      rw [this]; exact crcP_rng hl i
    | some u =>
      rw [crcP_succ h]
      exact crcN_rng (xr_rng (crcP_rng hl i) (hl.at h)) 8
theorem crc_rng {l : List Int} (hl : bytesOk l) : rng32 (crc l) := xr_rng (crcP_rng hl _) ⟨by decide, by decide⟩
section
variable {P : Program} {ls : List Tmp} {call : ACallT} {o : Oper} {e : Operand → Value} {lo : Lo} {st : St}
theorem op_xr {t ty : TypeId} {x y : Operand} {a b : Int} (ho : o.op = .binOp .xor t x y ty) (hx : e x = vI a) (hy : e y = vI b) : aoper P ls call o e lo st = some (vI (xr a b), lo, st) := by
  obtain ⟨d, op, tt, pos, after, gd⟩ := o
  simp only at ho
  subst ho
  simp [aoper, rop, hx, hy, abin, aint, xr]
theorem op_rm {t ty : TypeId} {x y : Operand} {a b r : Int} (ho : o.op = .binOp .rem t x y ty) (hx : e x = vI a) (hy : e y = vI b) (hb : b ≠ 0) (hr : a.tmod b = r) : aoper P ls call o e lo st = some (vI r, lo, st) := by
  subst hr
  exact op_rem ho hx hy hb
theorem op_qo {t ty : TypeId} {x y : Operand} {a b r : Int} (ho : o.op = .binOp .quo t x y ty) (hx : e x = vI a) (hy : e y = vI b) (hb : b ≠ 0) (hr : a.tdiv b = r) (h1 : -9223372036854775808 ≤ r) (h2 : r < 9223372036854775808) : aoper P ls call o e lo st = some (vI r, lo, st) := by
  subst hr
  rw [op_quo ho hx hy hb, wrap_i64 h1 h2]
theorem op_ofB {src dst : TypeId} {x : Operand} {b : Int} (ho : o.op = .convert src dst x) (hx : e x = .int .u8 b) (hd : telem P dst = none) (h1 : tint P src = some .u8) (h2 : tint P dst = some .i64) (hb : rng32 b) : aoper P ls call o e lo st = some (vI b, lo, st) := by
  obtain ⟨d, op, tt, pos, after, gd⟩ := o
  simp only at ho
  subst ho
  simp only [aoper, hd, rop, hx, aconv, h1, h2, Option.bind_some, Option.map_some]
  rw [wrap_i64 (by have := hb.1; omega) (by have := hb.2; omega)]
theorem op_toB {src dst : TypeId} {x : Operand} {b r : Int} (ho : o.op = .convert src dst x) (hx : e x = vI b) (hd : telem P dst = none) (h1 : tint P src = some .i64) (h2 : tint P dst = some .u8) (hb : b = r) (h3 : 0 ≤ r) (h4 : r < 256) : aoper P ls call o e lo st = some (.int .u8 r, lo, st) := by
  obtain ⟨d, op, tt, pos, after, gd⟩ := o
  simp only at ho
  subst ho hb
  simp only [aoper, hd, rop, hx, aconv, h1, h2, Option.bind_some, Option.map_some]
  rw [wrap_u8 h3 h4]
end
theorem tm_emod {a : Int} (b : Int) (h : 0 ≤ a) : a.tmod b = a % b := Int.tmod_eq_emod_of_nonneg h
theorem td_ediv {a : Int} (b : Int) (h : 0 ≤ a) : a.tdiv b = a / b := Int.tdiv_eq_ediv_of_nonneg h
theorem ac_spec_Crc (p : Option Addr) (l : List Int) (st : St) (hR : Rows st 1 fB p l) (hl : bytesOk l) (hs : l.length ≤ 1099511627776) : C 162 [vS p l.length] st (fun v s => v = vI (crc l) ∧ s = st) := by
  refine AC.enterX (i := ⟨[], [], [0, 2, 3, 4, 5, 6, 10, 21, 29]⟩) [] Try.func162 rfl rfl (by kernel_rfl) (by kernel_rfl) Try.ntmps162 (Nat.le_of_ble_eq_true rfl) rfl ?_
  refine cx_sound _ _ _ _ _ ?_
  refine cx_sound _ _ _ _ _ ?_
  refine AW.cut lo0 st [(0, vS p l.length), (2, vI (0)), (3, vI (4294967295)), (4, vI (0))] ⟨rfl, rfl, rfl, rfl, trivial⟩ fun ρ0 => ?_
  refine AW.loop0 (fun x : Nat × Int => [(0, vS p l.length), (2, vI (0)), (3, vI x.2), (4, vI (x.1 : Int))]) (fun m (x : Nat × Int) st' => m = l.length - x.1 ∧ x.1 ≤ l.length ∧ x.2 = crcP l x.1 ∧ st = st') (0, 4294967295) _ ⟨rfl, rfl, rfl, rfl, trivial⟩ rfl ⟨rfl, Nat.zero_le _, rfl, rfl⟩ ?_
  rintro m ⟨i, c⟩ ρ0 st' ⟨rfl, hi, hc, rfl⟩
  simp only at hi hc
  have hP : rng32 c := hc ▸ crcP_rng hl i
  iterate 2 refine ⟨_, rfl, ?_⟩
  rintro (_|_) h10
  · replace h10 : ¬ ((i : Int) < (l.length : Int)) := of_decide_eq_false h10
    refine AW.cut lo0 st [(0, vS p l.length), (2, vI (0)), (3, vI c), (4, vI (i : Int)), (10, vB false)] ⟨rfl, rfl, rfl, rfl, rfl, trivial⟩ fun ρ0 => ?_
    refine cx_sound _ _ _ _ _ ?_
    refine ⟨_, op_xr rfl rfl rfl, ?_⟩
    refine cx_sound _ _ _ _ _ ?_
    exact ⟨.inl rfl, _, rfl, congrArg vI (by rw [hc, crc, show l.length = i by omega]), rfl⟩
  · replace h10 : (i : Int) < (l.length : Int) := of_decide_eq_true h10
    refine AW.cut lo0 st [(0, vS p l.length), (2, vI (0)), (3, vI c), (4, vI (i : Int)), (10, vB true)] ⟨rfl, rfl, rfl, rfl, rfl, trivial⟩ fun ρ0 => ?_
    refine cx_sound _ _ _ _ _ ?_
    refine op_at i hR (by omega) rfl rfl rfl rfl rfl rfl rfl ?_
    intro x16 b16 d16 k16 hy16 hb16 hm16 hc16 ho16
    refine ⟨_, op_ldc (i := 0) rfl rfl rfl rfl hm16 hc16 rfl rfl, ?_⟩
    refine ⟨_, op_ofB rfl rfl rfl rfl rfl (hl.at hy16), ?_⟩
    refine ⟨_, op_xr rfl rfl rfl, ?_⟩
    refine cx_sound _ _ _ _ _ ?_
    refine AW.cut lo0 st [(0, vS p l.length), (2, vI (0)), (3, vI (xr c x16)), (4, vI (i : Int)), (5, vI (0)), (10, vB true)] ⟨rfl, rfl, rfl, rfl, rfl, rfl, trivial⟩ fun ρ0 => ?_
    refine AW.loop0 (fun y : Nat × Int => [(0, vS p l.length), (2, vI (0)), (3, vI y.2), (4, vI (i : Int)), (5, vI (y.1 : Int)), (10, vB true)]) (fun m (y : Nat × Int) st' => m = 8 - y.1 ∧ y.1 ≤ 8 ∧ y.2 = crcN y.1 (xr c x16) ∧ st = st') (0, xr c x16) _ ⟨rfl, rfl, rfl, rfl, rfl, rfl, trivial⟩ rfl ⟨rfl, Nat.zero_le _, rfl, rfl⟩ ?_
    rintro m ⟨k, d⟩ ρ0 st' ⟨rfl, hk, hd, rfl⟩
    simp only at hk hd
    have hX : rng32 d := hd ▸ crcN_rng (xr_rng hP (hl.at hy16)) k
    have hX0 := hX.1
    have hX1 := hX.2
    refine ⟨_, rfl, ?_⟩
    rintro (_|_) h21
    · replace h21 : ¬ ((k : Int) < (8)) := of_decide_eq_false h21
      refine AW.cut lo0 st [(0, vS p l.length), (2, vI (0)), (3, vI d), (4, vI (i : Int)), (5, vI (k : Int)), (10, vB true), (21, vB false)] ⟨rfl, rfl, rfl, rfl, rfl, rfl, rfl, trivial⟩ fun ρ0 => ?_
      refine cx_sound _ _ _ _ _ ?_
      have ew12 : IntKind.wrap .i64 ((i : Int) + (1)) = ((i + 1 : Nat) : Int) := (wrap_i64 (by omega) (by omega)).trans (by omega)
      refine ⟨_, rfl, ?_⟩
      refine ⟨(i + 1, d), l.length - (i + 1), by omega, ⟨rfl, rfl, rfl, congrArg (Value.int .i64) ew12, trivial⟩, rfl, rfl, by omega, ?_, rfl⟩
      rw [crcP_succ hy16, ← hc, hd, show k = 8 by omega]
      rfl
    · replace h21 : (k : Int) < (8) := of_decide_eq_true h21
      refine AW.cut lo0 st [(0, vS p l.length), (2, vI (0)), (3, vI d), (4, vI (i : Int)), (5, vI (k : Int)), (10, vB true), (21, vB true)] ⟨rfl, rfl, rfl, rfl, rfl, rfl, rfl, trivial⟩ fun ρ0 => ?_
      refine cx_sound _ _ _ _ _ ?_
      refine ⟨_, op_rm (r := d % 2) rfl rfl rfl (by decide) (tm_emod 2 hX0), ?_⟩
      refine ⟨_, rfl, ?_⟩
      rintro (_|_) h26
      · replace h26 : ¬ ((d % 2) = (1)) := beq_eq_false_iff_ne.1 h26
        refine AW.cut lo0 st [(0, vS p l.length), (2, vI (0)), (3, vI d), (4, vI (i : Int)), (5, vI (k : Int)), (6, vB false), (10, vB true), (21, vB true)] ⟨rfl, rfl, rfl, rfl, rfl, rfl, rfl, rfl, trivial⟩ fun ρ0 => ?_
        refine ⟨_, op_qo (r := d / 2) rfl rfl rfl (by decide) (td_ediv 2 hX0) (by omega) (by omega), ?_⟩
        refine cx_sound _ _ _ _ _ ?_
        refine AW.cut lo0 st [(0, vS p l.length), (2, vI (0)), (3, vI (d / 2)), (4, vI (i : Int)), (5, vI (k : Int)), (6, vB false), (10, vB true), (21, vB true), (29, vB false)] ⟨rfl, rfl, rfl, rfl, rfl, rfl, rfl, rfl, rfl, trivial⟩ fun ρ0 => ?_
        refine cx_sound _ _ _ _ _ ?_
        have ew23 : IntKind.wrap .i64 ((k : Int) + (1)) = ((k + 1 : Nat) : Int) := (wrap_i64 (by omega) (by omega)).trans (by omega)
        refine ⟨_, rfl, ?_⟩
        refine ⟨(k + 1, d / 2), 8 - (k + 1), by omega, ⟨rfl, rfl, rfl, rfl, congrArg (Value.int .i64) ew23, rfl, trivial⟩, rfl, rfl, by omega, ?_, rfl⟩
        show d / 2 = crc1 _
        rw [← hd, crc1, if_neg h26]
      · replace h26 : (d % 2) = (1) := beq_iff_eq.1 h26
        refine AW.cut lo0 st [(0, vS p l.length), (2, vI (0)), (3, vI d), (4, vI (i : Int)), (5, vI (k : Int)), (6, vB true), (10, vB true), (21, vB true)] ⟨rfl, rfl, rfl, rfl, rfl, rfl, rfl, rfl, trivial⟩ fun ρ0 => ?_
        refine ⟨_, op_qo (r := d / 2) rfl rfl rfl (by decide) (td_ediv 2 hX0) (by omega) (by omega), ?_⟩
        refine cx_sound _ _ _ _ _ ?_
        refine AW.cut lo0 st [(0, vS p l.length), (2, vI (0)), (3, vI (d / 2)), (4, vI (i : Int)), (5, vI (k : Int)), (6, vB true), (10, vB true), (21, vB true), (29, vB true)] ⟨rfl, rfl, rfl, rfl, rfl, rfl, rfl, rfl, rfl, trivial⟩ fun ρ0 => ?_
        refine ⟨_, op_xr rfl rfl rfl, ?_⟩
        refine AW.cut lo0 st [(0, vS p l.length), (2, vI (0)), (3, vI (xr (d / 2) 3988292384)), (4, vI (i : Int)), (5, vI (k : Int)), (6, vB true), (10, vB true), (21, vB true), (29, vB true)] ⟨rfl, rfl, rfl, rfl, rfl, rfl, rfl, rfl, rfl, trivial⟩ fun ρ0 => ?_
        have ew23 : IntKind.wrap .i64 ((k : Int) + (1)) = ((k + 1 : Nat) : Int) := (wrap_i64 (by omega) (by omega)).trans (by omega)
        refine ⟨_, rfl, ?_⟩
        refine ⟨(k + 1, xr (d / 2) 3988292384), 8 - (k + 1), by omega, ⟨rfl, rfl, rfl, rfl, congrArg (Value.int .i64) ew23, rfl, trivial⟩, rfl, rfl, by omega, ?_, rfl⟩
        show xr (d / 2) 3988292384 = crc1 _
        rw [← hd, crc1, if_pos h26]
theorem ac_impl_Crc (p : Option Addr) (l : List Int) (st : St) (hR : Rows st 1 fB p l) (hl : bytesOk l) (hs : l.length ≤ 1099511627776) : C 167 [vS p l.length] st (fun v s => v = vI (crc l) ∧ s = st) := by
  refine AC.enterX (i := ⟨[], [], [0, 2, 3, 5, 6, 7, 8, 9, 10, 17, 18, 24]⟩) [] Try.func167 rfl rfl (by kernel_rfl) (by kernel_rfl) Try.ntmps167 (Nat.le_of_ble_eq_true rfl) rfl ?_
  refine cx_sound _ _ _ _ _ ?_
  refine AW.cut lo0 st [(0, vS p l.length), (2, vI (0)), (3, vI (4294967295))] ⟨rfl, rfl, rfl, trivial⟩ fun ρ0 => ?_
  refine ⟨_, rfl, ?_⟩
  refine AW.cut lo0 st [(2, vI (0)), (3, vI (4294967295)), (7, vS p l.length), (8, vI (l.length : Int)), (9, vI (0))] ⟨rfl, rfl, rfl, rfl, rfl, trivial⟩ fun ρ0 => ?_
  refine AW.loop0 (fun x : Nat × Int => [(2, vI (0)), (3, vI x.2), (7, vS p l.length), (8, vI (l.length : Int)), (9, vI (x.1 : Int))]) (fun m (x : Nat × Int) st' => m = l.length - x.1 ∧ x.1 ≤ l.length ∧ x.2 = crcP l x.1 ∧ st = st') (0, 4294967295) _ ⟨rfl, rfl, rfl, rfl, rfl, trivial⟩ rfl ⟨rfl, Nat.zero_le _, rfl, rfl⟩ ?_
  rintro m ⟨i, c⟩ ρ0 st' ⟨rfl, hi, hc, rfl⟩
  simp only at hi hc
  have hP : rng32 c := hc ▸ crcP_rng hl i
  refine ⟨_, rfl, ?_⟩
  rintro (_|_) h10
  · replace h10 : ¬ ((i : Int) < (l.length : Int)) := of_decide_eq_false h10
    refine AW.cut lo0 st [(2, vI (0)), (3, vI c), (7, vS p l.length), (8, vI (l.length : Int)), (9, vI (i : Int)), (10, vB false)] ⟨rfl, rfl, rfl, rfl, rfl, rfl, trivial⟩ fun ρ0 => ?_
    refine cx_sound _ _ _ _ _ ?_
    refine ⟨_, op_xr rfl rfl rfl, ?_⟩
    refine cx_sound _ _ _ _ _ ?_
    exact ⟨.inl rfl, _, rfl, congrArg vI (by rw [hc, crc, show l.length = i by omega]), rfl⟩
  · replace h10 : (i : Int) < (l.length : Int) := of_decide_eq_true h10
    refine AW.cut lo0 st [(2, vI (0)), (3, vI c), (7, vS p l.length), (8, vI (l.length : Int)), (9, vI (i : Int)), (10, vB true)] ⟨rfl, rfl, rfl, rfl, rfl, rfl, trivial⟩ fun ρ0 => ?_
    refine cx_sound _ _ _ _ _ ?_
    refine op_at i hR (by omega) rfl rfl rfl rfl rfl rfl rfl ?_
    intro x11 b11 d11 k11 hy11 hb11 hm11 hc11 ho11
    refine ⟨_, op_ldc (i := 0) rfl rfl rfl rfl hm11 hc11 rfl rfl, ?_⟩
    refine AW.cut lo0 st [(2, vI (0)), (3, vI c), (5, .int .u8 x11), (7, vS p l.length), (8, vI (l.length : Int)), (9, vI (i : Int)), (10, vB true)] ⟨rfl, rfl, rfl, rfl, rfl, rfl, rfl, trivial⟩ fun ρ0 => ?_
    refine ⟨_, op_ofB rfl rfl rfl rfl rfl (hl.at hy11), ?_⟩
    refine ⟨_, op_xr rfl rfl rfl, ?_⟩
    refine cx_sound _ _ _ _ _ ?_
    refine AW.cut lo0 st [(2, vI (0)), (3, vI (xr c x11)), (5, .int .u8 x11), (7, vS p l.length), (8, vI (l.length : Int)), (9, vI (i : Int)), (10, vB true), (17, vI (0))] ⟨rfl, rfl, rfl, rfl, rfl, rfl, rfl, rfl, trivial⟩ fun ρ0 => ?_
    refine AW.loop0 (fun y : Nat × Int => [(2, vI (0)), (3, vI y.2), (5, .int .u8 x11), (7, vS p l.length), (8, vI (l.length : Int)), (9, vI (i : Int)), (10, vB true), (17, vI (y.1 : Int))]) (fun m (y : Nat × Int) st' => m = 8 - y.1 ∧ y.1 ≤ 8 ∧ y.2 = crcN y.1 (xr c x11) ∧ st = st') (0, xr c x11) _ ⟨rfl, rfl, rfl, rfl, rfl, rfl, rfl, rfl, trivial⟩ rfl ⟨rfl, Nat.zero_le _, rfl, rfl⟩ ?_
    rintro m ⟨k, d⟩ ρ0 st' ⟨rfl, hk, hd, rfl⟩
    simp only at hk hd
    have hX : rng32 d := hd ▸ crcN_rng (xr_rng hP (hl.at hy11)) k
    have hX0 := hX.1
    have hX1 := hX.2
    refine ⟨_, rfl, ?_⟩
    rintro (_|_) h18
    · replace h18 : ¬ ((k : Int) < (8)) := of_decide_eq_false h18
      refine AW.cut lo0 st [(2, vI (0)), (3, vI d), (5, .int .u8 x11), (7, vS p l.length), (8, vI (l.length : Int)), (9, vI (i : Int)), (10, vB true), (17, vI (k : Int)), (18, vB false)] ⟨rfl, rfl, rfl, rfl, rfl, rfl, rfl, rfl, rfl, trivial⟩ fun ρ0 => ?_
      refine cx_sound _ _ _ _ _ ?_
      have ew28 : IntKind.wrap .i64 ((i : Int) + (1)) = ((i + 1 : Nat) : Int) := (wrap_i64 (by omega) (by omega)).trans (by omega)
      refine ⟨_, rfl, ?_⟩
      refine ⟨(i + 1, d), l.length - (i + 1), by omega, ⟨rfl, rfl, rfl, rfl, congrArg (Value.int .i64) ew28, trivial⟩, rfl, rfl, by omega, ?_, rfl⟩
      rw [crcP_succ hy11, ← hc, hd, show k = 8 by omega]
      rfl
    · replace h18 : (k : Int) < (8) := of_decide_eq_true h18
      refine AW.cut lo0 st [(2, vI (0)), (3, vI d), (5, .int .u8 x11), (7, vS p l.length), (8, vI (l.length : Int)), (9, vI (i : Int)), (10, vB true), (17, vI (k : Int)), (18, vB true)] ⟨rfl, rfl, rfl, rfl, rfl, rfl, rfl, rfl, rfl, trivial⟩ fun ρ0 => ?_
      refine cx_sound _ _ _ _ _ ?_
      refine ⟨_, op_rm (r := d % 2) rfl rfl rfl (by decide) (tm_emod 2 hX0), ?_⟩
      refine ⟨_, rfl, ?_⟩
      rintro (_|_) h21
      · replace h21 : ¬ ((d % 2) = (1)) := beq_eq_false_iff_ne.1 h21
        refine AW.cut lo0 st [(2, vI (0)), (3, vI d), (5, .int .u8 x11), (6, vB false), (7, vS p l.length), (8, vI (l.length : Int)), (9, vI (i : Int)), (10, vB true), (17, vI (k : Int)), (18, vB true)] ⟨rfl, rfl, rfl, rfl, rfl, rfl, rfl, rfl, rfl, rfl, trivial⟩ fun ρ0 => ?_
        refine ⟨_, op_qo (r := d / 2) rfl rfl rfl (by decide) (td_ediv 2 hX0) (by omega) (by omega), ?_⟩
        refine cx_sound _ _ _ _ _ ?_
        refine AW.cut lo0 st [(2, vI (0)), (3, vI (d / 2)), (5, .int .u8 x11), (6, vB false), (7, vS p l.length), (8, vI (l.length : Int)), (9, vI (i : Int)), (10, vB true), (17, vI (k : Int)), (18, vB true), (24, vB false)] ⟨rfl, rfl, rfl, rfl, rfl, rfl, rfl, rfl, rfl, rfl, rfl, trivial⟩ fun ρ0 => ?_
        refine cx_sound _ _ _ _ _ ?_
        have ew27 : IntKind.wrap .i64 ((k : Int) + (1)) = ((k + 1 : Nat) : Int) := (wrap_i64 (by omega) (by omega)).trans (by omega)
        refine ⟨_, rfl, ?_⟩
        refine ⟨(k + 1, d / 2), 8 - (k + 1), by omega, ⟨rfl, rfl, rfl, rfl, rfl, rfl, rfl, congrArg (Value.int .i64) ew27, trivial⟩, rfl, rfl, by omega, ?_, rfl⟩
        show d / 2 = crc1 _
        rw [← hd, crc1, if_neg h21]
      · replace h21 : (d % 2) = (1) := beq_iff_eq.1 h21
        refine AW.cut lo0 st [(2, vI (0)), (3, vI d), (5, .int .u8 x11), (6, vB true), (7, vS p l.length), (8, vI (l.length : Int)), (9, vI (i : Int)), (10, vB true), (17, vI (k : Int)), (18, vB true)] ⟨rfl, rfl, rfl, rfl, rfl, rfl, rfl, rfl, rfl, rfl, trivial⟩ fun ρ0 => ?_
        refine ⟨_, op_qo (r := d / 2) rfl rfl rfl (by decide) (td_ediv 2 hX0) (by omega) (by omega), ?_⟩
        refine cx_sound _ _ _ _ _ ?_
        refine AW.cut lo0 st [(2, vI (0)), (3, vI (d / 2)), (5, .int .u8 x11), (6, vB true), (7, vS p l.length), (8, vI (l.length : Int)), (9, vI (i : Int)), (10, vB true), (17, vI (k : Int)), (18, vB true), (24, vB true)] ⟨rfl, rfl, rfl, rfl, rfl, rfl, rfl, rfl, rfl, rfl, rfl, trivial⟩ fun ρ0 => ?_
        refine ⟨_, op_xr rfl rfl rfl, ?_⟩
        refine AW.cut lo0 st [(2, vI (0)), (3, vI (xr (d / 2) 3988292384)), (5, .int .u8 x11), (6, vB true), (7, vS p l.length), (8, vI (l.length : Int)), (9, vI (i : Int)), (10, vB true), (17, vI (k : Int)), (18, vB true), (24, vB true)] ⟨rfl, rfl, rfl, rfl, rfl, rfl, rfl, rfl, rfl, rfl, rfl, trivial⟩ fun ρ0 => ?_
        have ew27 : IntKind.wrap .i64 ((k : Int) + (1)) = ((k + 1 : Nat) : Int) := (wrap_i64 (by omega) (by omega)).trans (by omega)
        refine ⟨_, rfl, ?_⟩
        refine ⟨(k + 1, xr (d / 2) 3988292384), 8 - (k + 1), by omega, ⟨rfl, rfl, rfl, rfl, rfl, rfl, rfl, congrArg (Value.int .i64) ew27, trivial⟩, rfl, rfl, by omega, ?_, rfl⟩
        show xr (d / 2) 3988292384 = crc1 _
        rw [← hd, crc1, if_pos h21]
/-! Numbers -/
def vlq (n : Nat) : List Int := if h : n < 128 then [(n : Int)] else ((n % 128 + 128 : Nat) : Int) :: vlq (n / 128)
termination_by n
decreasing_by omega
def putN (n : Int) : List Int := if 0 ≤ n ∧ n ≤ 2147483647 then vlq n.toNat else []
theorem vlq_lt {n : Nat} (h : n < 128) : vlq n = [(n : Int)] := by rw [vlq, dif_pos h]
theorem vlq_ge {n : Nat} (h : ¬ n < 128) : vlq n = ((n % 128 + 128 : Nat) : Int) :: vlq (n / 128) := by rw [vlq, dif_neg h]
theorem vlq_len : ∀ (f n : Nat), n < 128 ^ (f + 1) → (vlq n).length ≤ f + 1
  | 0, n, h => by rw [vlq_lt (by omega)]; exact Nat.le_refl _
  | f + 1, n, h => by
    by_cases h1 : n < 128
    · rw [vlq_lt h1]; simp
    · rw [vlq_ge h1, List.length_cons]
      have := vlq_len f (n / 128) (by rw [Nat.pow_succ] at h; omega)
      omega
theorem vlq_pos (n : Nat) : 0 < (vlq n).length := by
  by_cases h1 : n < 128
  · rw [vlq_lt h1]; exact Nat.one_pos
  · rw [vlq_ge h1, List.length_cons]; omega
theorem vlq_ok : ∀ (f n : Nat), n < 128 ^ (f + 1) → bytesOk (vlq n)
  | 0, n, h => by
    rw [vlq_lt (by omega)]
    intro x hx
    rw [List.mem_singleton.1 hx]
    omega
  | f + 1, n, h => by
    by_cases h1 : n < 128
    · rw [vlq_lt h1]
      intro x hx
      rw [List.mem_singleton.1 hx]
      omega
    · rw [vlq_ge h1]
      intro x hx
      rcases List.mem_cons.1 hx with rfl | hx
      · omega
      · exact vlq_ok f (n / 128) (by rw [Nat.pow_succ] at h; omega) x hx
theorem putN_len (n : Int) : (putN n).length ≤ 5 := by
  unfold putN
  split
  · exact vlq_len 4 _ (by omega)
  · exact Nat.zero_le _
theorem putN_ok (n : Int) : bytesOk (putN n) := by
  unfold putN
  split
  · exact vlq_ok 4 _ (by omega)
  · intro x hx; cases hx
theorem bytesOk.app {a b : List Int} (ha : bytesOk a) (hb : bytesOk b) : bytesOk (a ++ b) := fun x hx => by
  rcases List.mem_append.1 hx with h | h
  · exact ha x h
  · exact hb x h
theorem ac_spec_PutNum (n : Int) (st : St) : C 165 [vI n] st (fun v s => ∃ q, v = vS q (putN n).length ∧ OwnR s 1 fB q (putN n) ∧ New st.next q ∧ Pres st s) := by
  refine AC.enterX (i := ⟨[], [], [0, 2, 3, 7, 10]⟩) [] Try.func165 rfl rfl (by kernel_rfl) (by kernel_rfl) Try.ntmps165 (Nat.le_of_ble_eq_true rfl) rfl ?_
  refine AW.cut lo0 st [(0, vI n), (2, .slice none 0 0)] ⟨rfl, rfl, trivial⟩ fun ρ0 => ?_
  refine op_nilK (z := 1) (f := fB) rfl rfl rfl rfl (by decide) rfl ?_
  intro q4 s4 hO4 hP4 hN4
  refine AW.cut lo0 s4 [(0, vI n), (2, .slice none 0 0), (3, vS q4 0)] ⟨rfl, rfl, rfl, trivial⟩ fun ρ0 => ?_
  refine ⟨_, rfl, (ac_spec_l1In n 0 2147483647 s4).mono ?_⟩
  rintro _ s4 ⟨x6, rfl, h6, rfl⟩
  rcases x6 with _|_
  · replace h6 := of_decide_eq_false h6.symm
    refine ⟨_, rfl, ?_⟩
    refine AW.cut lo0 s4 [(0, vI n), (2, .slice none 0 0), (3, vS q4 0), (7, vB true)] ⟨rfl, rfl, rfl, rfl, trivial⟩ fun ρ0 => ?_
    refine cx_sound _ _ _ _ _ ?_
    refine ⟨.inl rfl, _, rfl, ?_⟩
    rw [show putN n = [] from if_neg h6]
    exact ⟨q4, rfl, hO4, hN4, hP4⟩
  · replace h6 := of_decide_eq_true h6.symm
    refine ⟨_, rfl, ?_⟩
    refine AW.cut lo0 s4 [(0, vI n), (2, .slice none 0 0), (3, vS q4 0), (7, vB false)] ⟨rfl, rfl, rfl, rfl, trivial⟩ fun ρ0 => ?_
    obtain ⟨n, rfl⟩ := Int.eq_ofNat_of_zero_le h6.1
    have hpn : vlq n = putN n := (if_pos h6).symm
    have hpl := putN_len n
    refine cx_sound _ _ _ _ _ ?_
    refine AW.loop0 (fun x : Nat × Option Addr × List Int => [(0, vI (x.1 : Int)), (2, .slice none 0 0), (3, vS x.2.1 x.2.2.length)]) (fun m (x : Nat × Option Addr × List Int) st' => m = x.1 ∧ x.1 ≤ n ∧ x.2.2 ++ vlq x.1 = putN n ∧ OwnR st' 1 fB x.2.1 x.2.2 ∧ New st.next x.2.1 ∧ Pres st st') (n, q4, []) _ ⟨rfl, rfl, rfl, trivial⟩ rfl ⟨rfl, Nat.le_refl _, hpn, hO4, hN4, hP4⟩ ?_
    rintro m ⟨k, q, l⟩ ρ0 st' ⟨hm, hk, hv, hO, hN, hP⟩
    simp only at hm hk hv hO hN
    have hvl := congrArg List.length hv
    rw [List.length_append] at hvl
    have hv1 := vlq_pos k
    refine ⟨_, rfl, ?_⟩
    rintro (_|_) h10
    · replace h10 : ¬ ((k : Int) > (127)) := of_decide_eq_false h10
      refine AW.cut lo0 st' [(0, vI (k : Int)), (2, .slice none 0 0), (3, vS q l.length), (10, vB false)] ⟨rfl, rfl, rfl, rfl, trivial⟩ fun ρ0 => ?_
      refine cx_sound _ _ _ _ _ ?_
      refine ⟨_, op_toB (r := (k : Int)) rfl rfl rfl rfl rfl rfl (by omega) (by omega), ?_⟩
      refine op_one (z := 1) (a := ((k : Int) : Int)) (f := fB) rfl rfl rfl rfl rfl (by decide) rfl (Nat.le_of_ble_eq_true rfl) rfl rfl rfl ?_
      refine op_snoc (z := 1) (st := st') (f := fB) (b := 1) (l := l) (x := (k : Int)) rfl rfl rfl rfl rfl rfl rfl (by decide) fB_len rfl rfl rfl (by omega) (by unfold maxLen; omega) hO ?_
      intro q24 s24 hO24 hP24 hN24
      refine cx_sound _ _ _ _ _ ?_
      refine ⟨.inl rfl, _, rfl, q24, ?_⟩
      rw [← hv, vlq_lt (n := k) (by omega)]
      exact ⟨rfl, hO24, hN24.le hP.1, hP24.pres hP hN⟩
    · replace h10 : (k : Int) > (127) := of_decide_eq_true h10
      refine AW.cut lo0 st' [(0, vI (k : Int)), (2, .slice none 0 0), (3, vS q l.length), (10, vB true)] ⟨rfl, rfl, rfl, rfl, trivial⟩ fun ρ0 => ?_
      refine cx_sound _ _ _ _ _ ?_
      refine ⟨_, op_rm (r := ((k % 128 : Nat) : Int)) rfl rfl rfl (by decide) ((tm_emod 128 (by omega)).trans (by omega)), ?_⟩
      have ew14 : IntKind.wrap .i64 (((k % 128 : Nat) : Int) + (128)) = ((k % 128 + 128 : Nat) : Int) := (wrap_i64 (by omega) (by omega)).trans (by omega)
      refine ⟨_, rfl, ?_⟩
      refine ⟨_, op_toB (r := ((k % 128 + 128 : Nat) : Int)) rfl rfl rfl rfl rfl (ew14.trans (by omega)) (by omega) (by omega), ?_⟩
      refine op_one (z := 1) (a := (((k % 128 + 128 : Nat) : Int) : Int)) (f := fB) rfl rfl rfl rfl rfl (by decide) rfl (Nat.le_of_ble_eq_true rfl) rfl rfl rfl ?_
      refine op_snoc (z := 1) (st := st') (f := fB) (b := 1) (l := l) (x := ((k % 128 + 128 : Nat) : Int)) rfl rfl rfl rfl rfl rfl rfl (by decide) fB_len rfl rfl rfl (by omega) (by unfold maxLen; omega) hO ?_
      intro q17 s17 hO17 hP17 hN17
      refine AW.cut lo0 s17 [(0, vI (k : Int)), (2, .slice none 0 0), (3, vS q17 (l ++ [((k % 128 + 128 : Nat) : Int)]).length), (10, vB true)] ⟨rfl, rfl, rfl, rfl, trivial⟩ fun ρ0 => ?_
      refine ⟨_, op_qo (r := ((k / 128 : Nat) : Int)) rfl rfl rfl (by decide) ((td_ediv 128 (by omega)).trans (by omega)) (by omega) (by omega), ?_⟩
      exact ⟨(k / 128, q17, l ++ [((k % 128 + 128 : Nat) : Int)]), k / 128, by omega, ⟨rfl, rfl, rfl, trivial⟩, rfl, rfl, by simp only; omega, by rw [← hv, vlq_ge (n := k) (by omega), List.append_assoc]; rfl, hO17, hN17.le hP.1, hP17.pres hP hN⟩
theorem ac_impl_PutNum (n : Int) (st : St) : C 168 [vI n] st (fun v s => ∃ q, v = vS q (putN n).length ∧ OwnR s 1 fB q (putN n) ∧ New st.next q ∧ Pres st s) := by
  refine AC.enterX (i := ⟨[], [], [0, 2, 3, 6, 9]⟩) [] Try.func168 rfl rfl (by kernel_rfl) (by kernel_rfl) Try.ntmps168 (Nat.le_of_ble_eq_true rfl) rfl ?_
  refine AW.cut lo0 st [(0, vI n), (2, .slice none 0 0)] ⟨rfl, rfl, trivial⟩ fun ρ0 => ?_
  refine ⟨_, rfl, (ac_impl_within n 0 2147483647 st).mono ?_⟩
  rintro _ st ⟨x5, rfl, h5, rfl⟩
  rcases x5 with _|_
  · replace h5 := of_decide_eq_false h5.symm
    refine ⟨_, rfl, ?_⟩
    refine AW.cut lo0 st [(0, vI n), (2, .slice none 0 0), (6, vB true)] ⟨rfl, rfl, rfl, trivial⟩ fun ρ0 => ?_
    refine cx_sound _ _ _ _ _ ?_
    refine ⟨.inl rfl, _, rfl, ?_⟩
    rw [show putN n = [] from if_neg h5]
    exact ⟨none, rfl, OwnR.nil, New.none, Pres.refl _⟩
  · replace h5 := of_decide_eq_true h5.symm
    refine ⟨_, rfl, ?_⟩
    refine AW.cut lo0 st [(0, vI n), (2, .slice none 0 0), (6, vB false)] ⟨rfl, rfl, rfl, trivial⟩ fun ρ0 => ?_
    obtain ⟨n, rfl⟩ := Int.eq_ofNat_of_zero_le h5.1
    have hpn : vlq n = putN n := (if_pos h5).symm
    have hpl := putN_len n
    refine cx_sound _ _ _ _ _ ?_
    refine op_nilK (z := 1) (f := fB) rfl rfl rfl rfl (by decide) rfl ?_
    intro q7 s7 hO7 hP7 hN7
    refine AW.cut lo0 s7 [(0, vI n), (2, .slice none 0 0), (3, vS q7 0)] ⟨rfl, rfl, rfl, trivial⟩ fun ρ0 => ?_
    refine AW.loop0 (fun x : Nat × Option Addr × List Int => [(0, vI (x.1 : Int)), (2, .slice none 0 0), (3, vS x.2.1 x.2.2.length)]) (fun m (x : Nat × Option Addr × List Int) st' => m = x.1 ∧ x.1 ≤ n ∧ x.2.2 ++ vlq x.1 = putN n ∧ OwnR st' 1 fB x.2.1 x.2.2 ∧ New st.next x.2.1 ∧ Pres st st') (n, q7, []) _ ⟨rfl, rfl, rfl, trivial⟩ rfl ⟨rfl, Nat.le_refl _, hpn, hO7, hN7, hP7⟩ ?_
    rintro m ⟨k, q, l⟩ ρ0 st' ⟨hm, hk, hv, hO, hN, hP⟩
    simp only at hm hk hv hO hN
    have hvl := congrArg List.length hv
    rw [List.length_append] at hvl
    have hv1 := vlq_pos k
    refine ⟨_, rfl, ?_⟩
    rintro (_|_) h9
    · replace h9 : ¬ ((k : Int) ≥ (128)) := of_decide_eq_false h9
      refine AW.cut lo0 st' [(0, vI (k : Int)), (2, .slice none 0 0), (3, vS q l.length), (9, vB false)] ⟨rfl, rfl, rfl, rfl, trivial⟩ fun ρ0 => ?_
      refine cx_sound _ _ _ _ _ ?_
      refine ⟨_, op_toB (r := (k : Int)) rfl rfl rfl rfl rfl rfl (by omega) (by omega), ?_⟩
      refine op_one (z := 1) (a := ((k : Int) : Int)) (f := fB) rfl rfl rfl rfl rfl (by decide) rfl (Nat.le_of_ble_eq_true rfl) rfl rfl rfl ?_
      refine op_snoc (z := 1) (st := st') (f := fB) (b := 1) (l := l) (x := (k : Int)) rfl rfl rfl rfl rfl rfl rfl (by decide) fB_len rfl rfl rfl (by omega) (by unfold maxLen; omega) hO ?_
      intro q23 s23 hO23 hP23 hN23
      refine cx_sound _ _ _ _ _ ?_
      refine ⟨.inl rfl, _, rfl, q23, ?_⟩
      rw [← hv, vlq_lt (n := k) (by omega)]
      exact ⟨rfl, hO23, hN23.le hP.1, hP23.pres hP hN⟩
    · replace h9 : (k : Int) ≥ (128) := of_decide_eq_true h9
      refine AW.cut lo0 st' [(0, vI (k : Int)), (2, .slice none 0 0), (3, vS q l.length), (9, vB true)] ⟨rfl, rfl, rfl, rfl, trivial⟩ fun ρ0 => ?_
      refine cx_sound _ _ _ _ _ ?_
      refine ⟨_, op_rm (r := ((k % 128 : Nat) : Int)) rfl rfl rfl (by decide) ((tm_emod 128 (by omega)).trans (by omega)), ?_⟩
      have ew13 : IntKind.wrap .i64 (((k % 128 : Nat) : Int) + (128)) = ((k % 128 + 128 : Nat) : Int) := (wrap_i64 (by omega) (by omega)).trans (by omega)
      refine ⟨_, rfl, ?_⟩
      refine ⟨_, op_toB (r := ((k % 128 + 128 : Nat) : Int)) rfl rfl rfl rfl rfl (ew13.trans (by omega)) (by omega) (by omega), ?_⟩
      refine op_one (z := 1) (a := (((k % 128 + 128 : Nat) : Int) : Int)) (f := fB) rfl rfl rfl rfl rfl (by decide) rfl (Nat.le_of_ble_eq_true rfl) rfl rfl rfl ?_
      refine op_snoc (z := 1) (st := st') (f := fB) (b := 1) (l := l) (x := ((k % 128 + 128 : Nat) : Int)) rfl rfl rfl rfl rfl rfl rfl (by decide) fB_len rfl rfl rfl (by omega) (by unfold maxLen; omega) hO ?_
      intro q16 s16 hO16 hP16 hN16
      refine AW.cut lo0 s16 [(0, vI (k : Int)), (2, .slice none 0 0), (3, vS q16 (l ++ [((k % 128 + 128 : Nat) : Int)]).length), (9, vB true)] ⟨rfl, rfl, rfl, rfl, trivial⟩ fun ρ0 => ?_
      refine ⟨_, op_qo (r := ((k / 128 : Nat) : Int)) rfl rfl rfl (by decide) ((td_ediv 128 (by omega)).trans (by omega)) (by omega) (by omega), ?_⟩
      exact ⟨(k / 128, q16, l ++ [((k % 128 + 128 : Nat) : Int)]), k / 128, by omega, ⟨rfl, rfl, rfl, trivial⟩, rfl, rfl, by simp only; omega, by rw [← hv, vlq_ge (n := k) (by omega), List.append_assoc]; rfl, hO16, hN16.le hP.1, hP16.pres hP hN⟩
/-! Rows of bytes that are joined -/
abbrev RdB (st : St) (p : Option Addr) (t : List RV) : Prop := Rows st 1 cRV p t ∧ ∀ r ∈ t, Rows st 1 fB r.p r.l
def fl (t : List RV) : List Int := t.flatMap fun r => r.l
theorem fl_succ {t : List RV} {i : Nat} {r : RV} (h : t[i]? = some r) : fl (t.take (i + 1)) = fl (t.take i) ++ r.l := by
  unfold fl
  rw [List.take_add_one, h, List.flatMap_append]
  simp
theorem fl_le (t : List RV) (i : Nat) : (fl (t.take i)).length ≤ (fl t).length := by
  unfold fl
  conv => rhs; rw [← List.take_append_drop i t]
  rw [List.flatMap_append, List.length_append]
  omega
theorem ac_impl_joined (p : Option Addr) (t : List RV) (st : St) (hR : Rows st 1 cRV p t) (hB : ∀ r ∈ t, Rows st 1 fB r.p r.l) (hs : szOk t.length) (hl : (fl t).length ≤ 1073741824) : C 171 [vS p t.length] st (fun v s => ∃ q, v = vS q (fl t).length ∧ OwnR s 1 fB q (fl t) ∧ New st.next q ∧ Pres st s) := by
  have hs : t.length ≤ 1048576 := hs
  refine AC.enterX (i := ⟨[], [], [0, 2, 3, 5, 7, 8, 9, 10]⟩) [] Try.func171 rfl rfl (by kernel_rfl) (by kernel_rfl) Try.ntmps171 (Nat.le_of_ble_eq_true rfl) rfl ?_
  refine AW.cut lo0 st [(0, vS p t.length), (2, .slice none 0 0)] ⟨rfl, rfl, trivial⟩ fun ρ0 => ?_
  refine op_nilK (z := 1) (f := fB) rfl rfl rfl rfl (by decide) rfl ?_
  intro q6 s6 hO6 hP6 hN6
  refine AW.cut lo0 s6 [(0, vS p t.length), (2, .slice none 0 0), (3, vS q6 0)] ⟨rfl, rfl, rfl, trivial⟩ fun ρ0 => ?_
  refine ⟨_, rfl, ?_⟩
  refine AW.cut lo0 s6 [(2, .slice none 0 0), (3, vS q6 0), (7, vS p t.length), (8, vI (t.length : Int)), (9, vI (0))] ⟨rfl, rfl, rfl, rfl, rfl, trivial⟩ fun ρ0 => ?_
  refine AW.loop0 (fun x : Nat × Option Addr × List Int => [(2, .slice none 0 0), (3, vS x.2.1 x.2.2.length), (7, vS p t.length), (8, vI (t.length : Int)), (9, vI (x.1 : Int))]) (fun m (x : Nat × Option Addr × List Int) st' => m = t.length - x.1 ∧ x.1 ≤ t.length ∧ x.2.2 = fl (t.take x.1) ∧ OwnR st' 1 fB x.2.1 x.2.2 ∧ New st.next x.2.1 ∧ Pres st st') (0, q6, []) _ ⟨rfl, rfl, rfl, rfl, rfl, trivial⟩ rfl ⟨rfl, Nat.zero_le _, rfl, hO6, hN6, hP6⟩ ?_
  rintro m ⟨i, q, l⟩ ρ0 st' ⟨rfl, hi, hv, hO, hN, hP⟩
  simp only at hi hv hO hN
  refine ⟨_, rfl, ?_⟩
  rintro (_|_) h10
  · replace h10 : ¬ ((i : Int) < (t.length : Int)) := of_decide_eq_false h10
    refine AW.cut lo0 st' [(2, .slice none 0 0), (3, vS q l.length), (7, vS p t.length), (8, vI (t.length : Int)), (9, vI (i : Int)), (10, vB false)] ⟨rfl, rfl, rfl, rfl, rfl, rfl, trivial⟩ fun ρ0 => ?_
    refine cx_sound _ _ _ _ _ ?_
    refine cx_sound _ _ _ _ _ ?_
    refine ⟨.inl rfl, _, rfl, q, ?_⟩
    rw [show fl t = l by rw [hv, show i = t.length by omega, List.take_length]]
    exact ⟨rfl, hO, hN, hP⟩
  · replace h10 : (i : Int) < (t.length : Int) := of_decide_eq_true h10
    refine AW.cut lo0 st' [(2, .slice none 0 0), (3, vS q l.length), (7, vS p t.length), (8, vI (t.length : Int)), (9, vI (i : Int)), (10, vB true)] ⟨rfl, rfl, rfl, rfl, rfl, rfl, trivial⟩ fun ρ0 => ?_
    refine cx_sound _ _ _ _ _ ?_
    refine op_at i (hP.rows hR) (by omega) rfl rfl rfl rfl rfl rfl rfl ?_
    intro x11 b11 d11 k11 hy11 hb11 hm11 hc11 ho11
    refine ⟨_, op_ldc (i := 0) rfl rfl rfl rfl hm11 hc11 rfl rfl, ?_⟩
    refine AW.cut lo0 st' [(2, .slice none 0 0), (3, vS q l.length), (5, vS x11.p x11.l.length), (7, vS p t.length), (8, vI (t.length : Int)), (9, vI (i : Int)), (10, vB true)] ⟨rfl, rfl, rfl, rfl, rfl, rfl, rfl, trivial⟩ fun ρ0 => ?_
    have hsc := fl_succ hy11
    have hle := fl_le t (i + 1)
    have hll := congrArg List.length hsc
    rw [List.length_append, ← hv] at hll
    have hrb := hB _ (List.mem_of_getElem? hy11)
    refine op_cat' (z := 1) (st := st') (f := fB) (b := 1) (l := l) (l2 := x11.l) rfl rfl rfl rfl rfl rfl rfl (by decide) fB_len rfl rfl rfl rfl (by first | omega | (simp only [List.length_nil]; omega)) (by unfold maxLen; first | omega | (simp only [List.length_nil]; omega)) hO (hP.rows hrb) ?_
    intro q15 s15 hO15 hPr15 hN15
    refine AW.cut lo0 s15 [(2, .slice none 0 0), (3, vS q15 (l ++ x11.l).length), (5, vS x11.p x11.l.length), (7, vS p t.length), (8, vI (t.length : Int)), (9, vI (i : Int)), (10, vB true)] ⟨rfl, rfl, rfl, rfl, rfl, rfl, rfl, trivial⟩ fun ρ0 => ?_
    have ew16 : IntKind.wrap .i64 ((i : Int) + (1)) = ((i + 1 : Nat) : Int) := (wrap_i64 (by omega) (by omega)).trans (by omega)
    refine ⟨_, rfl, ?_⟩
    refine ⟨(i + 1, q15, l ++ x11.l), t.length - (i + 1), by omega, ⟨rfl, rfl, rfl, rfl, congrArg (Value.int .i64) ew16, trivial⟩, rfl, rfl, by omega, by rw [hsc, ← hv], hO15, ?_, hPr15.pres hP hN⟩
    rcases hN15 with ⟨h, _⟩ | ⟨_, h⟩
    · rw [h]; exact hN
    · exact h.le hP.1
end Go.Proofs.Ytopcpcoklgepnaa.AM
