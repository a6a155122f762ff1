/- Operations on strings; the laws' mark text. -/
import Derived.Test.YtopcpcoklgepnaaP0
namespace Go.Proofs.Ytopcpcoklgepnaa.AM
open Go Go.Proofs
set_option linter.unusedVariables false
set_option linter.unusedSimpArgs false
set_option maxRecDepth 100000
set_option maxHeartbeats 4000000
abbrev fB : Int → List Value := fun x => [.int .u8 x]
theorem fB_len (x : Int) : (fB x).length = 1 := rfl
/-- The bytes of numbers. -/
def toB (l : List Int) : ByteArray := ⟨(l.map fun x => UInt8.ofNat x.toNat).toArray⟩
theorem abytes_ints : ∀ l : List Int, abytes (l.flatMap fB) = some (l.map fun x => UInt8.ofNat x.toNat)
  | [] => rfl
  | x :: l => by
    rw [List.flatMap_cons]
    show (abytes (l.flatMap fB)).map (UInt8.ofNat x.toNat :: ·) = _
    rw [abytes_ints l]
    rfl
section
variable {P : Program} {ls : List Tmp} {call : ACallT} {o : Oper} {e : Operand → Value} {lo : Lo} {st : St}
theorem op_str {src dst el : TypeId} {x : Operand} {p : Option Addr} {l : List Int} {n : Nat} (ho : o.op = .convert src dst x) (hx : e x = .slice p n n) (hn : n = l.length) (hd : telem P dst = none) (hs : tstr P dst = true) (hse : telem P src = some el) (hi : tint P el = some .u8) (hR : Rows st 1 fB p l) (hl : 0 < l.length) : aoper P ls call o e lo st = some (.string (toB l), lo, st) := by
  obtain ⟨d, op, ty, pos, after, gd⟩ := o
  simp only at ho
  subst ho hn
  rcases hR with rfl | ⟨b, off, blk, rfl, hm, _, hc⟩
  · cases hl
  · have h1 := take_rows (f := fB) (z := 1) (l := l) (cs := blk.cells) (off := off) fB_len hc
    rw [Nat.mul_one] at h1
    simp only [aoper, hd, hx, aconv, hs, hse, hi, astring, rdB, hm, Option.map_some, Option.bind_some, h1, flat_len fB_len l, Nat.mul_one, if_true, abytes_ints]
    rfl
theorem op_cat {t ty : TypeId} {x y : Operand} {a b : ByteArray} (ho : o.op = .binOp .add t x y ty) (hx : e x = .string a) (hy : e y = .string b) (hs : a.size + b.size ≤ 140737488355328) : aoper P ls call o e lo st = some (.string (a ++ b), lo, st) := by
  obtain ⟨d, op, tt, pos, after, gd⟩ := o
  simp only at ho
  subst ho
  simp [aoper, rop, hx, hy, abin, astrop, hs]
theorem op_quo {t ty : TypeId} {x y : Operand} {k : IntKind} {a b : Int} (ho : o.op = .binOp .quo t x y ty) (hx : e x = .int k a) (hy : e y = .int k b) (hb : b ≠ 0) : aoper P ls call o e lo st = some (.int k (k.wrap (a.tdiv b)), lo, st) := by
  obtain ⟨d, op, tt, pos, after, gd⟩ := o
  simp only at ho
  subst ho
  simp [aoper, rop, hx, hy, abin, aint, hb]
end
/-- Decimal digits, ahead of a text. -/
def digF : Nat → Nat → ByteArray → ByteArray
  | 0, _, acc => acc
  | f + 1, n, acc => if n = 0 then acc else digF f (n / 10) (toB [((48 + n % 10 : Nat) : Int)] ++ acc)
def mText (k : Int) : ByteArray := if k ≤ 0 then ⟨#[109, 48]⟩ else ⟨#[109]⟩ ++ digF k.toNat k.toNat ⟨#[]⟩
theorem toB_size (l : List Int) : (toB l).size = l.length := by simp [toB, ByteArray.size]
theorem wrap_u8 {i : Int} (h0 : 0 ≤ i) (h : i < 256) : IntKind.wrap .u8 i = i := by
  unfold IntKind.wrap; simp [IntKind.bits, IntKind.signed]; omega
theorem ac_laws_markText (k : Int) (st : St) (h0 : 0 ≤ k) (hk : k ≤ 1099511627776) : C 148 [vI k] st (fun v s => v = .string (mText k) ∧ Pres st s) := by
  refine AC.enterX (i := ⟨[], [], [0, 2, 3, 5, 7]⟩) [] Try.func148 rfl rfl (by kernel_rfl) (by kernel_rfl) Try.ntmps148 (Nat.le_of_ble_eq_true rfl) rfl ?_
  refine AW.cut lo0 st [(0, vI k), (2, .string ⟨#[]⟩)] ⟨rfl, rfl, trivial⟩ fun ρ0 => ?_
  refine ⟨_, rfl, ?_⟩
  rintro (_|_) h1
  · replace h1 : ¬ (k ≤ 0) := of_decide_eq_false h1
    refine AW.cut lo0 st [(0, vI k), (2, .string ⟨#[]⟩), (5, vB false)] ⟨rfl, rfl, rfl, trivial⟩ fun ρ0 => ?_
    refine cx_sound _ _ _ _ _ ?_
    refine AW.cut lo0 st [(0, vI k), (2, .string ⟨#[]⟩), (3, .string ⟨#[]⟩)] ⟨rfl, rfl, rfl, trivial⟩ fun ρ0 => ?_
    refine AW.loop0 (fun x : Nat × Nat × ByteArray => [(0, vI (x.2.1 : Int)), (3, .string x.2.2)]) (fun m (x : Nat × Nat × ByteArray) st' => m = x.1 ∧ x.2.1 ≤ x.1 ∧ digF k.toNat k.toNat ⟨#[]⟩ = digF x.1 x.2.1 x.2.2 ∧ x.2.2.size + x.2.1 ≤ k.toNat ∧ Pres st st') (k.toNat, k.toNat, ⟨#[]⟩) _ ⟨congrArg (Value.int .i64) (show k = ((k.toNat : Nat) : Int) by omega), rfl, trivial⟩ rfl ⟨rfl, Nat.le_refl _, rfl, Nat.le_of_eq (Nat.zero_add _), Pres.refl _⟩ ?_
    rintro m x ρ0 st' ⟨rfl, hi, hd, hsz, hP⟩
    refine ⟨_, rfl, ?_⟩
    rintro (_|_) h2
    · replace h2 : ¬ ((x.2.1 : Int) > 0) := of_decide_eq_false h2
      refine AW.cut lo0 st' [(0, vI (x.2.1 : Int)), (3, .string x.2.2), (7, vB false)] ⟨rfl, rfl, rfl, trivial⟩ fun ρ0 => ?_
      refine cx_sound _ _ _ _ _ ?_
      have hn0 : x.2.1 = 0 := by omega
      have hd2 : digF k.toNat k.toNat ⟨#[]⟩ = x.2.2 := by rw [hd, hn0]; cases x.1 <;> rfl
      refine ⟨_, op_cat (a := ⟨#[109]⟩) (b := x.2.2) rfl rfl rfl (by show 1 + x.2.2.size ≤ _; omega), ?_⟩
      refine cx_sound _ _ _ _ _ ?_
      exact ⟨.inl rfl, _, rfl, congrArg Value.string (by rw [mText, if_neg h1, hd2]), hP⟩
    · replace h2 : (x.2.1 : Int) > 0 := of_decide_eq_true h2
      refine AW.cut lo0 st' [(0, vI (x.2.1 : Int)), (3, .string x.2.2), (7, vB true)] ⟨rfl, rfl, rfl, trivial⟩ fun ρ0 => ?_
      obtain ⟨f, hf⟩ : ∃ f, x.1 = f + 1 := ⟨x.1 - 1, by omega⟩
      rw [hf, digF, if_neg (by omega)] at hd
      have hmod : (x.2.1 : Int).tmod 10 = ((x.2.1 % 10 : Nat) : Int) := by rw [Int.tmod_eq_emod_of_nonneg (by omega)]; omega
      have e10 : IntKind.wrap .i64 (48 + (x.2.1 : Int).tmod 10) = ((48 + x.2.1 % 10 : Nat) : Int) := (wrap_i64 (by omega) (by omega)).trans (by omega)
      have e11 : IntKind.wrap .u8 (IntKind.wrap .i64 (48 + (x.2.1 : Int).tmod 10)) = ((48 + x.2.1 % 10 : Nat) : Int) := by rw [e10]; exact wrap_u8 (by omega) (by omega)
      have hdiv : (x.2.1 : Int).tdiv 10 = ((x.2.1 / 10 : Nat) : Int) := by rw [Int.tdiv_eq_ediv_of_nonneg (by omega)]; omega
      have e17 : IntKind.wrap .i64 ((x.2.1 : Int).tdiv 10) = ((x.2.1 / 10 : Nat) : Int) := by rw [hdiv]; exact wrap_i64 (by omega) (by omega)
      refine cx_sound _ _ _ _ _ ?_
      refine ⟨_, op_rem rfl rfl rfl (by decide), ?_⟩
      iterate 2 refine ⟨_, rfl, ?_⟩
      refine op_one (z := 1) (a := ((48 + x.2.1 % 10 : Nat) : Int)) (f := fB) (v := .int .u8 ((48 + x.2.1 % 10 : Nat) : Int)) rfl (congrArg (Value.int .u8) e11) rfl rfl rfl Nat.one_pos rfl (Nat.le_of_ble_eq_true rfl) rfl rfl rfl ?_
      refine ⟨_, op_str (l := [((48 + x.2.1 % 10 : Nat) : Int)]) rfl rfl rfl rfl rfl rfl rfl (OwnR.push.rows fB_len) Nat.one_pos, ?_⟩
      refine ⟨_, op_cat (a := toB [((48 + x.2.1 % 10 : Nat) : Int)]) (b := x.2.2) rfl rfl rfl (by rw [toB_size]; simp only [List.length_singleton]; omega), ?_⟩
      refine AW.cut lo0 (st'.push 1 ([((48 + x.2.1 % 10 : Nat) : Int)].flatMap fB)) [(0, vI (x.2.1 : Int)), (3, .string (toB [((48 + x.2.1 % 10 : Nat) : Int)] ++ x.2.2)), (7, vB true)] ⟨rfl, rfl, rfl, trivial⟩ fun ρ0 => ?_
      refine ⟨_, op_quo rfl rfl rfl (by decide), ?_⟩
      exact ⟨(f, x.2.1 / 10, toB [((48 + x.2.1 % 10 : Nat) : Int)] ++ x.2.2), f, by omega, ⟨congrArg (Value.int .i64) e17, rfl, trivial⟩, rfl, rfl, by simp only; omega, hd, by simp only [ByteArray.size_append, toB_size, List.length_singleton]; omega, hP.trans Pres.push⟩
  · replace h1 : k ≤ 0 := of_decide_eq_true h1
    refine AW.cut lo0 st [(0, vI k), (2, .string ⟨#[]⟩), (5, vB true)] ⟨rfl, rfl, rfl, trivial⟩ fun ρ0 => ?_
    refine cx_sound _ _ _ _ _ ?_
    exact ⟨.inl rfl, _, rfl, congrArg Value.string (by rw [mText, if_pos h1]), Pres.refl _⟩
end Go.Proofs.Ytopcpcoklgepnaa.AM
