/- Contracts of entries' order. -/
import Derived.Test.YtopcpcoklgepnaaE1
import Derived.Lib.Bytealg
namespace Go.Proofs.Ytopcpcoklgepnaa.AM
open Go Go.Proofs
set_option linter.unusedVariables false
set_option linter.unusedSimpArgs false
set_option maxRecDepth 100000
set_option maxHeartbeats 4000000
def cmpI (a b : Int) : Int := if a < b then -1 else if a > b then 1 else 0
def firstNZ : List Int → Int
  | [] => 0
  | x :: l => if x = 0 then firstNZ l else x
def cmpB (a b : ByteArray) : Int := Lib.compareBytes a.data.toList b.data.toList
/-- The order of entries. -/
def entCmp (a b : Ent) : Int := firstNZ [cmpI a.inc b.inc, cmpI a.rank b.rank, cmpI a.beat b.beat, cmpI a.ver b.ver, cmpB a.data b.data]
def entMax (a b : Ent) : Ent := if entCmp a b < 0 then b else a
theorem compareBytes_less : ∀ (a b : List UInt8), Lib.compareBytes a b = if Op.bytesLess a b = true then -1 else if (a == b) = true then 0 else 1
  | [], [] => by simp [Lib.compareBytes, Op.bytesLess]
  | [], b :: bs => by simp [Lib.compareBytes, Op.bytesLess]
  | a :: l, [] => by simp [Lib.compareBytes, Op.bytesLess]
  | a :: l, b :: bs => by
    have ih := compareBytes_less l bs
    unfold Lib.compareBytes
    by_cases h1 : a < b
    · simp [Op.bytesLess, h1]
    · by_cases h2 : b < a
      · have hne : ¬ a = b := fun h => by rw [h] at h2; exact UInt8.lt_irrefl _ h2
        simp [Op.bytesLess, h1, h2, hne]
      · have he : a = b := UInt8.le_antisymm (UInt8.not_lt.1 h2) (UInt8.not_lt.1 h1)
        subst he
        simp only [h1, if_false, ih, Op.bytesLess, beq_self_eq_true, Bool.true_and, Bool.false_or, decide_false]
        simp
theorem ac_cmpstring (a b : ByteArray) (st : St) : C 188 [.string a, .string b] st (fun v s => v = vI (cmpB a b) ∧ s = st) :=
  AC.ext Try.func188 rfl rfl ⟨rfl, rfl⟩
theorem ac_bytealg_CompareString (a b : ByteArray) (st : St) : C 187 [.string a, .string b] st (fun v s => v = vI (cmpB a b) ∧ s = st) := by
  refine AC.enterX (i := ⟨[], [], [0, 1, 4]⟩) [] Try.func187 rfl rfl (by kernel_rfl) (by kernel_rfl) Try.ntmps187 (Nat.le_of_ble_eq_true rfl) rfl ?_
  refine AW.cut lo0 st [(0, .string a), (1, .string b), (4, vI (0))] ⟨rfl, rfl, rfl, trivial⟩ fun ρ0 => ?_
  refine ⟨_, rfl, (ac_cmpstring a b st).mono ?_⟩
  rintro _ st ⟨rfl, rfl⟩
  refine cx_sound _ _ _ _ _ ?_
  exact ⟨.inl rfl, _, rfl, rfl, rfl⟩
theorem ac_strings_Compare (a b : ByteArray) (st : St) : C 184 [.string a, .string b] st (fun v s => v = vI (cmpB a b) ∧ s = st) := by
  refine AC.enterX (i := ⟨[], [], [0, 1, 4]⟩) [] Try.func184 rfl rfl (by kernel_rfl) (by kernel_rfl) Try.ntmps184 (Nat.le_of_ble_eq_true rfl) rfl ?_
  refine AW.cut lo0 st [(0, .string a), (1, .string b), (4, vI (0))] ⟨rfl, rfl, rfl, trivial⟩ fun ρ0 => ?_
  refine ⟨_, rfl, (ac_bytealg_CompareString a b st).mono ?_⟩
  rintro _ st ⟨rfl, rfl⟩
  refine cx_sound _ _ _ _ _ ?_
  exact ⟨.inl rfl, _, rfl, rfl, rfl⟩
theorem ac_cmp_isNaN (a : Int) (st : St) : C 186 [vI a] st (fun v s => v = vB false ∧ s = st) := by
  refine AC.enterX (i := ⟨[], [], [0, 2]⟩) [] Try.func186 rfl rfl (by kernel_rfl) (by kernel_rfl) Try.ntmps186 (Nat.le_of_ble_eq_true rfl) rfl ?_
  refine AW.cut lo0 st [(0, vI a), (2, vB false)] ⟨rfl, rfl, trivial⟩ fun ρ0 => ?_
  refine ⟨_, rfl, ?_⟩
  rintro (_|_) h
  rotate_left
  · exact absurd (rfl) (bne_iff_ne.1 h)
  refine cx_sound _ _ _ _ _ ?_
  exact ⟨.inl rfl, _, rfl, rfl, rfl⟩
theorem ac_cmp_Compare (a b : Int) (st : St) : C 183 [vI a, vI b] st (fun v s => v = vI (cmpI a b) ∧ s = st) := by
  refine AC.enterX (i := ⟨[], [], [0, 1, 4, 5, 6, 11, 12, 13, 16, 19]⟩) [] Try.func183 rfl rfl (by kernel_rfl) (by kernel_rfl) Try.ntmps183 (Nat.le_of_ble_eq_true rfl) rfl ?_
  refine AW.cut lo0 st [(0, vI a), (1, vI b), (4, vI (0))] ⟨rfl, rfl, rfl, trivial⟩ fun ρ0 => ?_
  refine ⟨_, rfl, (ac_cmp_isNaN a st).mono ?_⟩
  rintro _ st ⟨rfl, rfl⟩
  refine AW.cut lo0 st [(0, vI a), (1, vI b), (4, vI (0)), (5, vB false)] ⟨rfl, rfl, rfl, rfl, trivial⟩ fun ρ0 => ?_
  refine ⟨_, rfl, (ac_cmp_isNaN b st).mono ?_⟩
  rintro _ st ⟨rfl, rfl⟩
  refine cx_sound _ _ _ _ _ ?_
  refine AW.cut lo0 st [(0, vI a), (1, vI b), (4, vI (0)), (6, vB false), (11, vB false)] ⟨rfl, rfl, rfl, rfl, rfl, trivial⟩ fun ρ0 => ?_
  refine cx_sound _ _ _ _ _ ?_
  refine AW.cut lo0 st [(0, vI a), (1, vI b), (4, vI (0)), (13, vB false)] ⟨rfl, rfl, rfl, rfl, trivial⟩ fun ρ0 => ?_
  refine cx_sound _ _ _ _ _ ?_
  refine ⟨_, rfl, ?_⟩
  rintro (_|_) h1
  · replace h1 : ¬ (a < b) := of_decide_eq_false h1
    refine AW.cut lo0 st [(0, vI a), (1, vI b), (4, vI (0)), (16, vB false)] ⟨rfl, rfl, rfl, rfl, trivial⟩ fun ρ0 => ?_
    refine cx_sound _ _ _ _ _ ?_
    refine ⟨_, rfl, ?_⟩
    rintro (_|_) h2
    · replace h2 : ¬ (a > b) := of_decide_eq_false h2
      refine AW.cut lo0 st [(4, vI (0)), (19, vB false)] ⟨rfl, rfl, trivial⟩ fun ρ0 => ?_
      refine cx_sound _ _ _ _ _ ?_
      refine cx_sound _ _ _ _ _ ?_
      exact ⟨.inl rfl, _, rfl, congrArg vI (by rw [cmpI, if_neg h1, if_neg h2]), rfl⟩
    · replace h2 : a > b := of_decide_eq_true h2
      refine AW.cut lo0 st [(4, vI (0)), (19, vB true)] ⟨rfl, rfl, trivial⟩ fun ρ0 => ?_
      refine cx_sound _ _ _ _ _ ?_
      exact ⟨.inl rfl, _, rfl, congrArg vI (by rw [cmpI, if_neg h1, if_pos h2]), rfl⟩
  · replace h1 : a < b := of_decide_eq_true h1
    refine AW.cut lo0 st [(0, vI a), (1, vI b), (4, vI (0)), (16, vB true)] ⟨rfl, rfl, rfl, rfl, trivial⟩ fun ρ0 => ?_
    refine cx_sound _ _ _ _ _ ?_
    exact ⟨.inl rfl, _, rfl, congrArg vI (by rw [cmpI, if_pos h1]), rfl⟩
theorem ac_cmp_Or (p : Option Addr) (l : List Int) (st : St) (hR : Rows st 1 fI p l) (hs : szOk l.length) : C 182 [vS p l.length] st (fun v s => v = vI (firstNZ l) ∧ s = st) := by
  have hs : l.length ≤ 1048576 := hs
  refine AC.enterX (i := ⟨[], [], [0, 2, 3, 5, 6, 7, 8, 9, 14]⟩) [] Try.func182 rfl rfl (by kernel_rfl) (by kernel_rfl) Try.ntmps182 (Nat.le_of_ble_eq_true rfl) rfl ?_
  refine cx_sound _ _ _ _ _ ?_
  refine AW.cut lo0 st [(0, vS p l.length), (2, vI (0)), (3, vI (0))] ⟨rfl, rfl, rfl, trivial⟩ fun ρ0 => ?_
  refine ⟨_, rfl, ?_⟩
  refine AW.cut lo0 st [(2, vI (0)), (3, vI (0)), (6, vS p l.length), (7, vI (l.length)), (8, vI (0))] ⟨rfl, rfl, rfl, rfl, rfl, trivial⟩ fun ρ0 => ?_
  refine AW.loop0 (fun i : Nat => [(3, vI 0), (6, vS p l.length), (7, vI (l.length : Int)), (8, vI (i : Int))]) (fun m (i : Nat) st' => m = l.length - i ∧ i ≤ l.length ∧ firstNZ l = firstNZ (l.drop i) ∧ st = st') 0 _ ⟨rfl, rfl, rfl, rfl, trivial⟩ rfl ⟨rfl, Nat.zero_le _, rfl, rfl⟩ ?_
  rintro m i ρ0 st' ⟨rfl, hi, hf, rfl⟩
  refine ⟨_, rfl, ?_⟩
  rintro (_|_) h1
  · replace h1 : ¬ ((i : Int) < (l.length : Int)) := of_decide_eq_false h1
    refine AW.cut lo0 st [(3, vI 0), (6, vS p l.length), (7, vI (l.length : Int)), (8, vI (i : Int)), (9, vB false)] ⟨rfl, rfl, rfl, rfl, rfl, trivial⟩ fun ρ0 => ?_
    refine cx_sound _ _ _ _ _ ?_
    refine cx_sound _ _ _ _ _ ?_
    have hil : i = l.length := by omega
    exact ⟨.inl rfl, _, rfl, congrArg vI (by rw [hf, hil, List.drop_length]; rfl), rfl⟩
  · replace h1 : (i : Int) < (l.length : Int) := of_decide_eq_true h1
    refine AW.cut lo0 st [(3, vI 0), (6, vS p l.length), (7, vI (l.length : Int)), (8, vI (i : Int)), (9, vB true)] ⟨rfl, rfl, rfl, rfl, rfl, trivial⟩ fun ρ0 => ?_
    have h1' := Int.ofNat_lt.1 h1
    have ⟨b1, o1, k1, x, hpe, hx, hm1, hc1, hb1⟩ := hR.atB h1'
    rw [(split_at' hx).2.2, firstNZ] at hf
    refine cx_sound _ _ _ _ _ ?_
    refine ⟨_, op_idx (j := (i : Int)) (n := l.length) (q := ⟨b1, o1, none⟩) rfl (congrArg (fun u => vS u l.length) hpe) rfl rfl rfl (Int.natCast_nonneg _) h1, ?_⟩
    refine ⟨_, op_ldc (i := 0) rfl rfl rfl rfl hm1 hc1 rfl rfl, ?_⟩
    refine AW.cut lo0 st [(3, vI 0), (5, vI x), (6, vS p l.length), (7, vI (l.length : Int)), (8, vI (i : Int)), (9, vB true)] ⟨rfl, rfl, rfl, rfl, rfl, rfl, trivial⟩ fun ρ0 => ?_
    refine ⟨_, rfl, ?_⟩
    rintro (_|_) h2
    · replace h2 : x = 0 := bne_eq_false_iff_eq.1 h2
      refine AW.cut lo0 st [(3, vI 0), (5, vI x), (6, vS p l.length), (7, vI (l.length : Int)), (8, vI (i : Int)), (9, vB true), (14, vB false)] ⟨rfl, rfl, rfl, rfl, rfl, rfl, rfl, trivial⟩ fun ρ0 => ?_
      refine cx_sound _ _ _ _ _ ?_
      have e16 : IntKind.wrap .i64 ((i : Int) + 1) = ((i + 1 : Nat) : Int) := (wrap_i64 (by omega) (by omega)).trans (by omega)
      refine ⟨_, rfl, ?_⟩
      exact ⟨i + 1, l.length - (i + 1), by omega, ⟨rfl, rfl, rfl, congrArg (Value.int .i64) e16, trivial⟩, rfl, rfl, h1', by rw [hf, if_pos h2], rfl⟩
    · replace h2 : ¬ (x = 0) := bne_iff_ne.1 h2
      refine AW.cut lo0 st [(3, vI 0), (5, vI x), (6, vS p l.length), (7, vI (l.length : Int)), (8, vI (i : Int)), (9, vB true), (14, vB true)] ⟨rfl, rfl, rfl, rfl, rfl, rfl, rfl, trivial⟩ fun ρ0 => ?_
      refine cx_sound _ _ _ _ _ ?_
      exact ⟨.inl rfl, _, rfl, congrArg vI (by rw [hf, if_neg h2]), rfl⟩
theorem ac_impl_EntryCmp (a b : Ent) (st : St) : C 177 [.agg #[vI a.inc, vI a.rank, vI a.beat, vI a.ver, .string a.data], .agg #[vI b.inc, vI b.rank, vI b.beat, vI b.ver, .string b.data]] st (fun v s => v = vI (entCmp a b) ∧ Pres st s) := by
  refine AC.enterX (i := ⟨[2, 3], [2, 3, 5, 7, 10, 12, 15, 17, 20, 22, 25, 27], [0, 1, 2, 3, 4]⟩) [(1, [4, 9, 14, 19], [6, 8, 11, 13, 16, 18, 21, 23])] Try.func177 rfl rfl (by kernel_rfl) (by kernel_rfl) Try.ntmps177 (Nat.le_of_ble_eq_true rfl) rfl ?_
  iterate 2 refine ⟨_, rfl, ?_⟩
  refine AW.cutM (2) st [(2, vL 2 0 (0)), (3, vL 3 0 (1)), (4, vI (0))] [(2, 0, [vI a.inc, vI a.rank, vI a.beat, vI a.ver, .string a.data]), (3, 1, [vI b.inc, vI b.rank, vI b.beat, vI b.ver, .string b.data])] ⟨rfl, rfl, rfl, trivial⟩ ⟨rfl, rfl, trivial⟩ rfl fun ρ0 ff => ?_
  iterate 4 refine ⟨_, rfl, ?_⟩
  refine ⟨_, rfl, (ac_cmp_Compare a.inc b.inc st).mono ?_⟩
  rintro _ st ⟨rfl, rfl⟩
  refine ⟨fun _ _ => rfl, ?_⟩
  iterate 2 refine ⟨_, rfl, ?_⟩
  refine ⟨ld_own rfl rfl rfl, ?_⟩
  iterate 2 refine ⟨_, rfl, ?_⟩
  refine ⟨ld_own rfl rfl rfl, ?_⟩
  refine ⟨_, rfl, (ac_cmp_Compare a.rank b.rank st).mono ?_⟩
  rintro _ st ⟨rfl, rfl⟩
  refine ⟨fun _ _ => rfl, ?_⟩
  iterate 2 refine ⟨_, rfl, ?_⟩
  refine ⟨ld_own rfl rfl rfl, ?_⟩
  iterate 2 refine ⟨_, rfl, ?_⟩
  refine ⟨ld_own rfl rfl rfl, ?_⟩
  refine ⟨_, rfl, (ac_cmp_Compare a.beat b.beat st).mono ?_⟩
  rintro _ st ⟨rfl, rfl⟩
  refine ⟨fun _ _ => rfl, ?_⟩
  iterate 2 refine ⟨_, rfl, ?_⟩
  refine ⟨ld_own rfl rfl rfl, ?_⟩
  iterate 2 refine ⟨_, rfl, ?_⟩
  refine ⟨ld_own rfl rfl rfl, ?_⟩
  refine ⟨_, rfl, (ac_cmp_Compare a.ver b.ver st).mono ?_⟩
  rintro _ st ⟨rfl, rfl⟩
  refine ⟨fun _ _ => rfl, ?_⟩
  iterate 2 refine ⟨_, rfl, ?_⟩
  refine ⟨ld_own rfl rfl rfl, ?_⟩
  iterate 2 refine ⟨_, rfl, ?_⟩
  refine ⟨ld_own rfl rfl rfl, ?_⟩
  refine ⟨_, rfl, (ac_strings_Compare a.data b.data st).mono ?_⟩
  rintro _ st ⟨rfl, rfl⟩
  refine op_litI (k := .i64) (l := [cmpI a.inc b.inc, cmpI a.rank b.rank, cmpI a.beat b.beat, cmpI a.ver b.ver, cmpB a.data b.data]) rfl rfl rfl rfl rfl rfl (Nat.le_of_ble_eq_true rfl) ?_
  intro q s1 hO1 hP1 hN1
  refine ⟨_, rfl, (ac_cmp_Or q [cmpI a.inc b.inc, cmpI a.rank b.rank, cmpI a.beat b.beat, cmpI a.ver b.ver, cmpB a.data b.data] s1 (hO1.rows fI_len) (show 5 ≤ 1048576 by decide)).mono ?_⟩
  rintro _ s1 ⟨rfl, rfl⟩
  refine cx_sound _ _ _ _ _ ?_
  exact ⟨.inl rfl, _, rfl, rfl, hP1⟩
theorem ac_impl_EntryMax (a b : Ent) (st : St) : C 161 [.agg #[vI a.inc, vI a.rank, vI a.beat, vI a.ver, .string a.data], .agg #[vI b.inc, vI b.rank, vI b.beat, vI b.ver, .string b.data]] st (fun v s => ∃ e, v = .agg #[vI e.inc, vI e.rank, vI e.beat, vI e.ver, .string e.data] ∧ e = entMax a b ∧ Pres st s) := by
  refine AC.enterX (i := ⟨[2, 3, 4], [2, 3, 4], [0, 1, 2, 3, 4, 8]⟩) [] Try.func161 rfl rfl (by kernel_rfl) (by kernel_rfl) Try.ntmps161 (Nat.le_of_ble_eq_true rfl) rfl ?_
  iterate 3 refine ⟨_, rfl, ?_⟩
  refine AW.cutM (3) st [(2, vL 2 0 (0)), (3, vL 3 0 (1)), (4, vL 4 0 (2))] [(2, 0, [vI a.inc, vI a.rank, vI a.beat, vI a.ver, .string a.data]), (3, 1, [vI b.inc, vI b.rank, vI b.beat, vI b.ver, .string b.data]), (4, 2, [vI 0, vI 0, vI 0, vI 0, .string ⟨#[]⟩])] ⟨rfl, rfl, rfl, trivial⟩ ⟨rfl, rfl, rfl, trivial⟩ rfl fun ρ0 ff => ?_
  iterate 2 refine ⟨_, rfl, ?_⟩
  refine ⟨_, rfl, (ac_impl_EntryCmp a b st).mono ?_⟩
  rintro _ s1 ⟨rfl, hP1⟩
  refine ⟨_, rfl, ?_⟩
  rintro (_|_) h1
  · replace h1 : ¬ (entCmp a b < 0) := of_decide_eq_false h1
    refine AW.cutM (3) s1 [(2, vL 2 0 (0)), (3, vL 3 0 (1)), (4, vL 4 0 (2)), (8, vB false)] [(2, 0, [vI a.inc, vI a.rank, vI a.beat, vI a.ver, .string a.data]), (3, 1, [vI b.inc, vI b.rank, vI b.beat, vI b.ver, .string b.data]), (4, 2, [vI 0, vI 0, vI 0, vI 0, .string ⟨#[]⟩])] ⟨rfl, rfl, rfl, rfl, trivial⟩ ⟨rfl, rfl, rfl, trivial⟩ rfl fun ρ0 ff => ?_
    refine cx_sound _ _ _ _ _ ?_
    iterate 2 refine ⟨_, rfl, ?_⟩
    refine cx_sound _ _ _ _ _ ?_
    exact ⟨.inl rfl, _, rfl, a, rfl, by rw [entMax, if_neg h1], hP1⟩
  · replace h1 : entCmp a b < 0 := of_decide_eq_true h1
    refine AW.cutM (3) s1 [(2, vL 2 0 (0)), (3, vL 3 0 (1)), (4, vL 4 0 (2)), (8, vB true)] [(2, 0, [vI a.inc, vI a.rank, vI a.beat, vI a.ver, .string a.data]), (3, 1, [vI b.inc, vI b.rank, vI b.beat, vI b.ver, .string b.data]), (4, 2, [vI 0, vI 0, vI 0, vI 0, .string ⟨#[]⟩])] ⟨rfl, rfl, rfl, rfl, trivial⟩ ⟨rfl, rfl, rfl, trivial⟩ rfl fun ρ0 ff => ?_
    iterate 2 refine ⟨_, rfl, ?_⟩
    refine cx_sound _ _ _ _ _ ?_
    exact ⟨.inl rfl, _, rfl, b, rfl, by rw [entMax, if_pos h1], hP1⟩
theorem ac_spec_l1BitT (st : St) : C 176 [vB true] st (fun v s => v = vI 1 ∧ s = st) := by
  refine AC.enterX (i := ⟨[], [], [0, 2, 3]⟩) [] Try.func176 rfl rfl (by kernel_rfl) (by kernel_rfl) Try.ntmps176 (Nat.le_of_ble_eq_true rfl) rfl ?_
  refine cx_sound _ _ _ _ _ ?_
  refine AW.cut lo0 st [(2, vI (0)), (3, vB true)] ⟨rfl, rfl, trivial⟩ fun ρ0 => ?_
  refine cx_sound _ _ _ _ _ ?_
  exact ⟨.inl rfl, _, rfl, rfl, rfl⟩
theorem ac_spec_l1BitF (st : St) : C 176 [vB false] st (fun v s => v = vI 0 ∧ s = st) := by
  refine AC.enterX (i := ⟨[], [], [0, 2, 3]⟩) [] Try.func176 rfl rfl (by kernel_rfl) (by kernel_rfl) Try.ntmps176 (Nat.le_of_ble_eq_true rfl) rfl ?_
  refine cx_sound _ _ _ _ _ ?_
  refine AW.cut lo0 st [(2, vI (0)), (3, vB false)] ⟨rfl, rfl, trivial⟩ fun ρ0 => ?_
  refine cx_sound _ _ _ _ _ ?_
  refine cx_sound _ _ _ _ _ ?_
  exact ⟨.inl rfl, _, rfl, rfl, rfl⟩
theorem ac_spec_l2Cmp (a b : Int) (st : St) : C 175 [vI a, vI b] st (fun v s => v = vI (cmpI a b) ∧ s = st) := by
  refine AC.enterX (i := ⟨[], [], [0, 1, 4, 7]⟩) [] Try.func175 rfl rfl (by kernel_rfl) (by kernel_rfl) Try.ntmps175 (Nat.le_of_ble_eq_true rfl) rfl ?_
  refine AW.cut lo0 st [(0, vI a), (1, vI b), (4, vI (0))] ⟨rfl, rfl, rfl, trivial⟩ fun ρ0 => ?_
  refine ⟨_, rfl, ?_⟩
  rintro (_|_) h1
  · replace h1 : ¬ (a < b) := of_decide_eq_false h1
    refine AW.cut lo0 st [(0, vI a), (1, vI b), (4, vI (0)), (7, vB false)] ⟨rfl, rfl, rfl, rfl, trivial⟩ fun ρ0 => ?_
    refine cx_sound _ _ _ _ _ ?_
    refine ⟨_, rfl, ?_⟩
    rintro (_|_) h2
    · replace h2 : ¬ (a > b) := of_decide_eq_false h2
      refine ⟨_, rfl, (ac_spec_l1BitF st).mono ?_⟩
      rintro _ st ⟨rfl, rfl⟩
      refine cx_sound _ _ _ _ _ ?_
      exact ⟨.inl rfl, _, rfl, congrArg vI (by rw [cmpI, if_neg h1, if_neg h2]), rfl⟩
    · replace h2 : a > b := of_decide_eq_true h2
      refine ⟨_, rfl, (ac_spec_l1BitT st).mono ?_⟩
      rintro _ st ⟨rfl, rfl⟩
      refine cx_sound _ _ _ _ _ ?_
      exact ⟨.inl rfl, _, rfl, congrArg vI (by rw [cmpI, if_neg h1, if_pos h2]), rfl⟩
  · replace h1 : a < b := of_decide_eq_true h1
    refine AW.cut lo0 st [(0, vI a), (1, vI b), (4, vI (0)), (7, vB true)] ⟨rfl, rfl, rfl, rfl, trivial⟩ fun ρ0 => ?_
    refine cx_sound _ _ _ _ _ ?_
    exact ⟨.inl rfl, _, rfl, congrArg vI (by rw [cmpI, if_pos h1]), rfl⟩
abbrev four (a b : Ent) : List Int := [cmpI a.inc b.inc, cmpI a.rank b.rank, cmpI a.beat b.beat, cmpI a.ver b.ver]
theorem ac_spec_EntryCmp (a b : Ent) (st : St) : C 160 [.agg #[vI a.inc, vI a.rank, vI a.beat, vI a.ver, .string a.data], .agg #[vI b.inc, vI b.rank, vI b.beat, vI b.ver, .string b.data]] st (fun v s => v = vI (entCmp a b) ∧ Pres st s) := by
  refine AC.enterX (i := ⟨[2, 3], [2, 3, 7, 9, 12, 14, 17, 19, 22, 24, 43, 45, 48, 50], [0, 1, 2, 3, 4, 5, 6, 31, 38, 47]⟩) [(1, [4, 9, 14], [6, 8, 11, 13, 16, 18])] Try.func160 rfl rfl (by kernel_rfl) (by kernel_rfl) Try.ntmps160 (Nat.le_of_ble_eq_true rfl) rfl ?_
  iterate 2 refine ⟨_, rfl, ?_⟩
  refine AW.cutM (2) st [(2, vL 2 0 (0)), (3, vL 3 0 (1)), (4, vI (0))] [(2, 0, [vI a.inc, vI a.rank, vI a.beat, vI a.ver, .string a.data]), (3, 1, [vI b.inc, vI b.rank, vI b.beat, vI b.ver, .string b.data])] ⟨rfl, rfl, rfl, trivial⟩ ⟨rfl, rfl, trivial⟩ rfl fun ρ0 ff => ?_
  iterate 4 refine ⟨_, rfl, ?_⟩
  refine ⟨_, rfl, (ac_spec_l2Cmp a.inc b.inc st).mono ?_⟩
  rintro _ st ⟨rfl, rfl⟩
  refine ⟨fun _ _ => rfl, ?_⟩
  iterate 2 refine ⟨_, rfl, ?_⟩
  refine ⟨ld_own rfl rfl rfl, ?_⟩
  iterate 2 refine ⟨_, rfl, ?_⟩
  refine ⟨ld_own rfl rfl rfl, ?_⟩
  refine ⟨_, rfl, (ac_spec_l2Cmp a.rank b.rank st).mono ?_⟩
  rintro _ st ⟨rfl, rfl⟩
  refine ⟨fun _ _ => rfl, ?_⟩
  iterate 2 refine ⟨_, rfl, ?_⟩
  refine ⟨ld_own rfl rfl rfl, ?_⟩
  iterate 2 refine ⟨_, rfl, ?_⟩
  refine ⟨ld_own rfl rfl rfl, ?_⟩
  refine ⟨_, rfl, (ac_spec_l2Cmp a.beat b.beat st).mono ?_⟩
  rintro _ st ⟨rfl, rfl⟩
  refine ⟨fun _ _ => rfl, ?_⟩
  iterate 2 refine ⟨_, rfl, ?_⟩
  refine ⟨ld_own rfl rfl rfl, ?_⟩
  iterate 2 refine ⟨_, rfl, ?_⟩
  refine ⟨ld_own rfl rfl rfl, ?_⟩
  refine ⟨_, rfl, (ac_spec_l2Cmp a.ver b.ver st).mono ?_⟩
  rintro _ st ⟨rfl, rfl⟩
  refine op_litI (k := .i64) (l := four a b) rfl rfl rfl rfl rfl rfl (Nat.le_of_ble_eq_true rfl) ?_
  intro q s1 hO1 hP1 hN1
  refine cx_sound _ _ _ _ _ ?_
  refine AW.cutM (2) s1 [(2, vL 2 0 (0)), (3, vL 3 0 (1)), (4, vI (0)), (5, vS q 4), (6, vI (0))] [(2, 0, [vI a.inc, vI a.rank, vI a.beat, vI a.ver, .string a.data]), (3, 1, [vI b.inc, vI b.rank, vI b.beat, vI b.ver, .string b.data])] ⟨rfl, rfl, rfl, rfl, rfl, trivial⟩ ⟨rfl, rfl, trivial⟩ rfl fun ρ0 ff => ?_
  refine AW.loopM (fun i : Nat => [(2, vL 2 0 (0)), (3, vL 3 0 (1)), (5, vS q 4), (6, vI (i : Int))]) (fun i : Nat => [(2, 0, [vI a.inc, vI a.rank, vI a.beat, vI a.ver, .string a.data]), (3, 1, [vI b.inc, vI b.rank, vI b.beat, vI b.ver, .string b.data])]) (fun m (i : Nat) st' => m = 4 - i ∧ i ≤ 4 ∧ entCmp a b = firstNZ ((four a b).drop i ++ [cmpB a.data b.data]) ∧ s1 = st') 0 _ ⟨rfl, rfl, rfl, rfl, trivial⟩ ⟨rfl, rfl, trivial⟩ ⟨rfl, Nat.zero_le _, rfl, rfl⟩ ?_
  rintro m i ρ0 ff gg st' ⟨rfl, hi, hf, rfl⟩
  iterate 2 refine ⟨_, rfl, ?_⟩
  rintro (_|_) h1
  · replace h1 : ¬ ((i : Int) < 4) := of_decide_eq_false h1
    refine AW.cutM (gg) s1 [(2, vL 2 0 (0)), (3, vL 3 0 (1)), (5, vS q 4), (6, vI (i : Int)), (31, vB false)] [(2, 0, [vI a.inc, vI a.rank, vI a.beat, vI a.ver, .string a.data]), (3, 1, [vI b.inc, vI b.rank, vI b.beat, vI b.ver, .string b.data])] ⟨rfl, rfl, rfl, rfl, rfl, trivial⟩ ⟨rfl, rfl, trivial⟩ rfl fun ρ0 ff => ?_
    have hil : i = 4 := by omega
    have hf : entCmp a b = firstNZ [cmpB a.data b.data] := by rw [hf, hil]; rfl
    have hf : entCmp a b = cmpB a.data b.data := by rw [hf, firstNZ, firstNZ]; split <;> simp [*]
    have hcb := compareBytes_less a.data.data.toList b.data.data.toList
    have hcb : cmpB a.data b.data = if Op.bytesLess a.data.toList b.data.toList = true then -1 else if (a.data.toList == b.data.toList) = true then 0 else 1 := by rw [ByteArray.toList_eq, ByteArray.toList_eq]; exact hcb
    refine cx_sound _ _ _ _ _ ?_
    refine ⟨_, rfl, ?_⟩
    refine ⟨_, op_ldo rfl rfl rfl rfl, ?_⟩
    refine ⟨_, rfl, ?_⟩
    refine ⟨_, op_ldo rfl rfl rfl rfl, ?_⟩
    refine ⟨_, rfl, ?_⟩
    rintro (_|_) h3
    · refine AW.cutM (gg) s1 [(2, vL 2 0 (0)), (3, vL 3 0 (1)), (47, vB false)] [(2, 0, [vI a.inc, vI a.rank, vI a.beat, vI a.ver, .string a.data]), (3, 1, [vI b.inc, vI b.rank, vI b.beat, vI b.ver, .string b.data])] ⟨rfl, rfl, rfl, trivial⟩ ⟨rfl, rfl, trivial⟩ rfl fun ρ0 ff => ?_
      refine cx_sound _ _ _ _ _ ?_
      refine ⟨_, rfl, ?_⟩
      refine ⟨_, op_ldo rfl rfl rfl rfl, ?_⟩
      refine ⟨_, rfl, ?_⟩
      refine ⟨_, op_ldo rfl rfl rfl rfl, ?_⟩
      refine ⟨_, rfl, ?_⟩
      rintro (_|_) h4
      · refine ⟨_, rfl, (ac_spec_l1BitF s1).mono ?_⟩
        rintro _ s1 ⟨rfl, rfl⟩
        refine cx_sound _ _ _ _ _ ?_
        have h3 : Op.bytesLess a.data.toList b.data.toList = false := h3
        have h4 : (!(Op.bytesLess a.data.toList b.data.toList || a.data.toList == b.data.toList)) = false := h4
        have h5 : (a.data.toList == b.data.toList) = true := by rw [h3, Bool.false_or] at h4; simpa using h4
        exact ⟨.inl rfl, _, rfl, congrArg vI (by rw [hf, hcb, h3, h5]; rfl), hP1⟩
      · refine ⟨_, rfl, (ac_spec_l1BitT s1).mono ?_⟩
        rintro _ s1 ⟨rfl, rfl⟩
        refine cx_sound _ _ _ _ _ ?_
        have h3 : Op.bytesLess a.data.toList b.data.toList = false := h3
        have h4 : (!(Op.bytesLess a.data.toList b.data.toList || a.data.toList == b.data.toList)) = true := h4
        have h5 : (a.data.toList == b.data.toList) = false := by rw [h3, Bool.false_or] at h4; simpa using h4
        exact ⟨.inl rfl, _, rfl, congrArg vI (by rw [hf, hcb, h3, h5]; rfl), hP1⟩
    · refine AW.cutM (gg) s1 [(2, vL 2 0 (0)), (3, vL 3 0 (1)), (47, vB true)] [(2, 0, [vI a.inc, vI a.rank, vI a.beat, vI a.ver, .string a.data]), (3, 1, [vI b.inc, vI b.rank, vI b.beat, vI b.ver, .string b.data])] ⟨rfl, rfl, rfl, trivial⟩ ⟨rfl, rfl, trivial⟩ rfl fun ρ0 ff => ?_
      refine cx_sound _ _ _ _ _ ?_
      have h3 : Op.bytesLess a.data.toList b.data.toList = true := h3
      exact ⟨.inl rfl, _, rfl, congrArg vI (by rw [hf, hcb, if_pos h3]), hP1⟩
  · replace h1 : (i : Int) < 4 := of_decide_eq_true h1
    refine AW.cutM (gg) s1 [(2, vL 2 0 (0)), (3, vL 3 0 (1)), (5, vS q 4), (6, vI (i : Int)), (31, vB true)] [(2, 0, [vI a.inc, vI a.rank, vI a.beat, vI a.ver, .string a.data]), (3, 1, [vI b.inc, vI b.rank, vI b.beat, vI b.ver, .string b.data])] ⟨rfl, rfl, rfl, rfl, rfl, trivial⟩ ⟨rfl, rfl, trivial⟩ rfl fun ρ0 ff => ?_
    have h1' : i < (four a b).length := by simp only [List.length_cons, List.length_nil]; omega
    have ⟨b1, o1, k1, x, hpe, hx, hm1, hc1, hb1⟩ := (hO1.rows fI_len).atB h1'
    rw [(split_at' hx).2.2, List.cons_append, firstNZ] at hf
    refine cx_sound _ _ _ _ _ ?_
    refine ⟨_, op_idx (j := (i : Int)) (n := 4) (q := ⟨b1, o1, none⟩) rfl (congrArg (fun u => vS u 4) hpe) rfl rfl rfl (Int.natCast_nonneg _) h1, ?_⟩
    refine ⟨_, op_ldc (i := 0) rfl rfl rfl rfl hm1 hc1 rfl rfl, ?_⟩
    refine ⟨_, rfl, ?_⟩
    rintro (_|_) h2
    · replace h2 : x = 0 := bne_eq_false_iff_eq.1 h2
      refine AW.cutM (gg) s1 [(2, vL 2 0 (0)), (3, vL 3 0 (1)), (5, vS q 4), (6, vI (i : Int)), (31, vB true), (38, vB false)] [(2, 0, [vI a.inc, vI a.rank, vI a.beat, vI a.ver, .string a.data]), (3, 1, [vI b.inc, vI b.rank, vI b.beat, vI b.ver, .string b.data])] ⟨rfl, rfl, rfl, rfl, rfl, rfl, trivial⟩ ⟨rfl, rfl, trivial⟩ rfl fun ρ0 ff => ?_
      refine cx_sound _ _ _ _ _ ?_
      have e33 : IntKind.wrap .i64 ((i : Int) + 1) = ((i + 1 : Nat) : Int) := (wrap_i64 (by omega) (by omega)).trans (by omega)
      refine ⟨_, rfl, ?_⟩
      exact ⟨i + 1, 4 - (i + 1), by omega, ⟨rfl, rfl, rfl, congrArg (Value.int .i64) e33, trivial⟩, ⟨rfl, rfl, trivial⟩, rfl, by omega, by rw [hf, if_pos h2], rfl⟩
    · replace h2 : ¬ (x = 0) := bne_iff_ne.1 h2
      refine AW.cutM (gg) s1 [(2, vL 2 0 (0)), (3, vL 3 0 (1)), (5, vS q 4), (6, vI (i : Int)), (31, vB true), (38, vB true)] [(2, 0, [vI a.inc, vI a.rank, vI a.beat, vI a.ver, .string a.data]), (3, 1, [vI b.inc, vI b.rank, vI b.beat, vI b.ver, .string b.data])] ⟨rfl, rfl, rfl, rfl, rfl, rfl, trivial⟩ ⟨rfl, rfl, trivial⟩ rfl fun ρ0 ff => ?_
      refine ⟨_, op_idx (j := (i : Int)) (n := 4) (q := ⟨b1, o1, none⟩) rfl (congrArg (fun u => vS u 4) hpe) rfl rfl rfl (Int.natCast_nonneg _) h1, ?_⟩
      refine ⟨_, op_ldc (i := 0) rfl rfl rfl rfl hm1 hc1 rfl rfl, ?_⟩
      refine cx_sound _ _ _ _ _ ?_
      exact ⟨.inl rfl, _, rfl, congrArg vI (by rw [hf, if_neg h2]), hP1⟩
/-! The join -/
abbrev topF (a b : Sta) (id : Int) : Int := max (floorOf a.floors id) (floorOf b.floors id)
abbrev topE (a b : Sta) (id : Int) : Ent := entMax (entP a.items id).1 (entP b.items id).1
def joinF (a b : Sta) (n : Nat) : Sta := ⟨(List.range n).filterMap fun (j : Nat) => if (topE a b (j : Int)).inc > topF a b (j : Int) then some ⟨(j : Int), topE a b (j : Int)⟩ else none,
  (List.range n).filterMap fun (j : Nat) => if topF a b (j : Int) > 0 then some ⟨(j : Int), topF a b (j : Int)⟩ else none⟩
theorem joinF_items (a b : Sta) (n : Nat) : (joinF a b (n + 1)).items = if (topE a b (n : Int)).inc > topF a b (n : Int) then (joinF a b n).items ++ [⟨(n : Int), topE a b (n : Int)⟩] else (joinF a b n).items := by
  unfold joinF
  simp only [List.range_succ, List.filterMap_append]
  split <;> simp [*]
theorem joinF_floors (a b : Sta) (n : Nat) : (joinF a b (n + 1)).floors = if topF a b (n : Int) > 0 then (joinF a b n).floors ++ [⟨(n : Int), topF a b (n : Int)⟩] else (joinF a b n).floors := by
  unfold joinF
  simp only [List.range_succ, List.filterMap_append]
  split <;> simp [*]
theorem joinF_len (a b : Sta) : ∀ n, (joinF a b n).items.length ≤ n ∧ (joinF a b n).floors.length ≤ n
  | 0 => by simp [joinF]
  | n + 1 => by
    have := joinF_len a b n
    rw [joinF_items, joinF_floors]
    refine ⟨?_, ?_⟩ <;> split <;> (try rw [List.length_append, List.length_singleton]) <;> omega
end Go.Proofs.Ytopcpcoklgepnaa.AM
