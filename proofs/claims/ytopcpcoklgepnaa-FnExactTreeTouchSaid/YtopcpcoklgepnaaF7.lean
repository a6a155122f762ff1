/- Contracts of rows and tables of ints: marked, held, sized, copied, compared; new tables. -/
import Derived.Test.YtopcpcoklgepnaaF6
import Derived.Test.YtopcpcoklgepnaaP0
namespace Go.Proofs.Ytopcpcoklgepnaa.AM
open Go Go.Proofs
set_option linter.unusedVariables false
set_option linter.unusedSimpArgs false
set_option maxRecDepth 100000
set_option maxHeartbeats 4000000
def mkInts (n : Nat) (k : Int) : List Int := (List.range n).map fun (j : Nat) => k + (j : Int)
theorem mkInts_len (n : Nat) (k : Int) : (mkInts n k).length = n := by simp [mkInts]
theorem mkInts_get {n : Nat} {k : Int} {j : Nat} {x : Int} (h : (mkInts n k)[j]? = some x) : x = k + (j : Int) := by
  have hj := (List.getElem?_eq_some_iff.1 h).1
  rw [mkInts_len] at hj
  simp [mkInts, List.getElem?_range hj] at h
  exact h.symm
theorem mark_set {l : List Int} {k : Int} {i : Nat} (hi : i < l.length) : (mkInts i k ++ l.drop i).set i (k + (i : Int)) = mkInts (i + 1) k ++ l.drop (i + 1) := by
  have h1 : mkInts (i + 1) k = mkInts i k ++ [k + (i : Int)] := by simp [mkInts, List.range_succ]
  rw [List.set_append_right _ _ (by rw [mkInts_len]; exact Nat.le_refl _), mkInts_len, Nat.sub_self, List.drop_eq_getElem_cons hi, List.set_cons_zero, h1]
  simp
theorem ac_laws_markIntS (p : Option Addr) (l : List Int) (k : Int) (st : St) (hO : OwnR st 1 fI p l) (hs : szOk l.length) (h0 : 0 ≤ k) (hk : k ≤ 1125899906842624) : C 127 [vS p l.length, vI k] st (fun v s => v = vI (k + (l.length : Int)) ∧ OwnR s 1 fI p (mkInts l.length k) ∧ Pr p st s) := by
  have hs : l.length ≤ 1048576 := hs
  refine AC.enterX (i := ⟨[], [], [0, 1, 4, 5, 9]⟩) [] Try.func127 rfl rfl (by kernel_rfl) (by kernel_rfl) Try.ntmps127 (Nat.le_of_ble_eq_true rfl) rfl ?_
  refine cx_sound _ _ _ _ _ ?_
  refine AW.cut lo0 st [(0, vS p l.length), (1, vI k), (4, vI (0)), (5, vI (0))] ⟨rfl, rfl, rfl, rfl, trivial⟩ fun ρ0 => ?_
  refine AW.loop0 (fun i : Nat => [(0, vS p l.length), (1, vI (k + (i : Int))), (5, vI (i : Int))]) (fun m (i : Nat) st' => m = l.length - i ∧ i ≤ l.length ∧ OwnR st' 1 fI p (mkInts i k ++ l.drop i) ∧ Pr p st st') 0 _ ⟨rfl, congrArg (Value.int .i64) (Int.add_zero k).symm, rfl, trivial⟩ rfl ⟨rfl, Nat.zero_le _, by simpa [mkInts] using hO, Pr.refl _ _⟩ ?_
  rintro m i ρ0 st' ⟨rfl, hi, hO', hP'⟩
  iterate 2 refine ⟨_, rfl, ?_⟩
  rintro (_|_) h1
  · replace h1 : ¬ ((i : Int) < (l.length : Int)) := of_decide_eq_false h1
    refine AW.cut lo0 st' [(0, vS p l.length), (1, vI (k + (i : Int))), (5, vI (i : Int)), (9, vB false)] ⟨rfl, rfl, rfl, rfl, trivial⟩ fun ρ0 => ?_
    refine cx_sound _ _ _ _ _ ?_
    refine cx_sound _ _ _ _ _ ?_
    have hil : i = l.length := by omega
    subst hil
    rw [List.drop_length, List.append_nil] at hO'
    exact ⟨.inl rfl, _, rfl, rfl, hO', hP'⟩
  · replace h1 : (i : Int) < (l.length : Int) := of_decide_eq_true h1
    refine AW.cut lo0 st' [(0, vS p l.length), (1, vI (k + (i : Int))), (5, vI (i : Int)), (9, vB true)] ⟨rfl, rfl, rfl, rfl, trivial⟩ fun ρ0 => ?_
    have h1' := Int.ofNat_lt.1 h1
    have hlen : i < (mkInts i k ++ l.drop i).length := by rw [List.length_append, mkInts_len, List.length_drop]; omega
    have ⟨a, ha⟩ := hO'.some (by omega)
    refine cx_sound _ _ _ _ _ ?_
    refine ⟨_, op_idx (j := (i : Int)) (n := l.length) (q := ⟨a, 0, none⟩) rfl (congrArg (fun u => vS u l.length) ha) rfl rfl rfl (Int.natCast_nonneg _) h1, ?_⟩
    refine op_put (st := st') (f := fI) (j := i) (l := mkInts i k ++ l.drop i) (y := k + (i : Int)) (p := p) (d := 0 + i * 1) rfl rfl ((Nat.zero_add _)) rfl rfl fI_len rfl rfl hlen hO' ha ?_
    intro s5 hO5 hP5 hn5
    rw [mark_set h1'] at hO5
    refine AW.cut lo0 s5 [(0, vS p l.length), (1, vI (k + (i : Int))), (5, vI (i : Int)), (9, vB true)] ⟨rfl, rfl, rfl, rfl, trivial⟩ fun ρ0 => ?_
    have e17 : IntKind.wrap .i64 (k + (i : Int) + 1) = k + ((i + 1 : Nat) : Int) := (wrap_i64 (by omega) (by omega)).trans (by omega)
    refine ⟨_, rfl, ?_⟩
    refine AW.cut lo0 s5 [(0, vS p l.length), (1, vI (k + ((i + 1 : Nat) : Int))), (5, vI (i : Int)), (9, vB true)] ⟨rfl, congrArg (Value.int .i64) e17, rfl, rfl, trivial⟩ fun ρ0 => ?_
    have e11 : IntKind.wrap .i64 ((i : Int) + 1) = ((i + 1 : Nat) : Int) := (wrap_i64 (by omega) (by omega)).trans (by omega)
    refine ⟨_, rfl, ?_⟩
    exact ⟨i + 1, l.length - (i + 1), by omega, ⟨rfl, rfl, congrArg (Value.int .i64) e11, trivial⟩, rfl, rfl, h1', hO5, hP'.trans hP5⟩
theorem ac_laws_heldIntS (p : Option Addr) (n : Nat) (k : Int) (st : St) (hR : Rows st 1 fI p (mkInts n k)) (hs : szOk n) (h0 : 0 ≤ k) (hk : k ≤ 1125899906842624) : C 138 [vS p n, vI k] st (fun v s => v = vI (k + (n : Int)) ∧ s = st) := by
  have hs : n ≤ 1048576 := hs
  refine AC.enterX (i := ⟨[], [], [0, 1, 4, 5, 9, 17]⟩) [] Try.func138 rfl rfl (by kernel_rfl) (by kernel_rfl) Try.ntmps138 (Nat.le_of_ble_eq_true rfl) rfl ?_
  refine cx_sound _ _ _ _ _ ?_
  refine AW.cut lo0 st [(0, vS p n), (1, vI k), (4, vI (0)), (5, vI (0))] ⟨rfl, rfl, rfl, rfl, trivial⟩ fun ρ0 => ?_
  refine AW.loop0 (fun i : Nat => [(0, vS p n), (1, vI (k + (i : Int))), (5, vI (i : Int))]) (fun m (i : Nat) st' => m = n - i ∧ i ≤ n ∧ st = st') 0 _ ⟨rfl, congrArg (Value.int .i64) (Int.add_zero k).symm, rfl, trivial⟩ rfl ⟨rfl, Nat.zero_le _, rfl⟩ ?_
  rintro m i ρ0 st' ⟨rfl, hi, rfl⟩
  iterate 2 refine ⟨_, rfl, ?_⟩
  rintro (_|_) h1
  · replace h1 : ¬ ((i : Int) < (n : Int)) := of_decide_eq_false h1
    refine AW.cut lo0 st [(0, vS p n), (1, vI (k + (i : Int))), (5, vI (i : Int)), (9, vB false)] ⟨rfl, rfl, rfl, rfl, trivial⟩ fun ρ0 => ?_
    refine cx_sound _ _ _ _ _ ?_
    refine cx_sound _ _ _ _ _ ?_
    have hil : i = n := by omega
    subst hil
    exact ⟨.inl rfl, _, rfl, rfl, rfl⟩
  · replace h1 : (i : Int) < (n : Int) := of_decide_eq_true h1
    refine AW.cut lo0 st [(0, vS p n), (1, vI (k + (i : Int))), (5, vI (i : Int)), (9, vB true)] ⟨rfl, rfl, rfl, rfl, trivial⟩ fun ρ0 => ?_
    have h1' := Int.ofNat_lt.1 h1
    have ⟨b1, o1, k1, x, hpe, hx, hm1, hc1⟩ := hR.at (j := i) (by rw [mkInts_len]; exact h1')
    have hx := mkInts_get hx
    have hc1 : (k1.cells.drop (o1 + i * 1)).take 1 = fI (k + (i : Int)) := by rw [hc1, hx]
    refine cx_sound _ _ _ _ _ ?_
    refine ⟨_, op_idx (j := (i : Int)) (n := n) (q := ⟨b1, o1, none⟩) rfl (congrArg (fun u => vS u n) hpe) rfl rfl rfl (Int.natCast_nonneg _) h1, ?_⟩
    refine ⟨_, op_ldc (i := 0) rfl rfl rfl rfl hm1 hc1 rfl rfl, ?_⟩
    refine ⟨_, rfl, ?_⟩
    rintro (_|_) h2
    rotate_left
    · exact absurd (rfl) (bne_iff_ne.1 h2)
    refine AW.cut lo0 st [(0, vS p n), (1, vI (k + (i : Int))), (5, vI (i : Int)), (9, vB true), (17, vB false)] ⟨rfl, rfl, rfl, rfl, rfl, trivial⟩ fun ρ0 => ?_
    refine cx_sound _ _ _ _ _ ?_
    have e19 : IntKind.wrap .i64 (k + (i : Int) + 1) = k + ((i + 1 : Nat) : Int) := (wrap_i64 (by omega) (by omega)).trans (by omega)
    refine ⟨_, rfl, ?_⟩
    refine AW.cut lo0 st [(0, vS p n), (1, vI (k + ((i + 1 : Nat) : Int))), (5, vI (i : Int)), (9, vB true), (17, vB false)] ⟨rfl, congrArg (Value.int .i64) e19, rfl, rfl, rfl, trivial⟩ fun ρ0 => ?_
    have e11 : IntKind.wrap .i64 ((i : Int) + 1) = ((i + 1 : Nat) : Int) := (wrap_i64 (by omega) (by omega)).trans (by omega)
    refine ⟨_, rfl, ?_⟩
    exact ⟨i + 1, n - (i + 1), by omega, ⟨rfl, rfl, congrArg (Value.int .i64) e11, trivial⟩, rfl, rfl, h1', rfl⟩
/-- A new table's rows. -/
def tnew (n : Int) : List (List Int) := if 1 ≤ n ∧ n ≤ 5 then List.replicate n.toNat [0, 0, 0, 0, 0] else []
abbrev zRow : List Int := List.replicate 5 0
end Go.Proofs.Ytopcpcoklgepnaa.AM
