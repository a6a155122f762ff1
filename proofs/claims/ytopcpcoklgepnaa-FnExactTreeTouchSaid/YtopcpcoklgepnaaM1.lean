/- Contracts of rows of plain structs that are marked and held (written by gen2.py). -/
import Derived.Test.YtopcpcoklgepnaaM0
import Derived.Test.YtopcpcoklgepnaaD1
namespace Go.Proofs.Ytopcpcoklgepnaa.AM
open Go Go.Proofs
set_option linter.unusedVariables false
set_option linter.unusedSimpArgs false
set_option maxRecDepth 100000
set_option maxHeartbeats 4000000
def mkFlr (k : Int) : Flr := ⟨k, k + 1⟩
def mkItm (k : Int) : Itm := ⟨k, ⟨k + 1, k + 2, k + 3, k + 4, mText (k + 5)⟩⟩
/-- A marked row. -/
def mkRow {α : Type} (mk : Int → α) (z n : Nat) (k : Int) : List α := (List.range n).map fun (j : Nat) => mk (k + (z : Int) * (j : Int))
theorem mkRow_len {α : Type} (mk : Int → α) (z n : Nat) (k : Int) : (mkRow mk z n k).length = n := by simp [mkRow]
theorem mkRow_get {α : Type} {mk : Int → α} {z n : Nat} {k : Int} {j : Nat} {x : α} (h : (mkRow mk z n k)[j]? = some x) : x = mk (k + (z : Int) * (j : Int)) := by
  have hj := (List.getElem?_eq_some_iff.1 h).1
  rw [mkRow_len] at hj
  simp [mkRow, List.getElem?_range hj] at h
  exact h.symm
theorem mkRow_set {α : Type} {mk : Int → α} {z : Nat} {l : List α} {k : Int} {i : Nat} (hi : i < l.length) : (mkRow mk z i k ++ l.drop i).set i (mk (k + (z : Int) * (i : Int))) = mkRow mk z (i + 1) k ++ l.drop (i + 1) := by
  have h1 : mkRow mk z (i + 1) k = mkRow mk z i k ++ [mk (k + (z : Int) * (i : Int))] := by simp [mkRow, List.range_succ]
  rw [List.set_append_right _ _ (by rw [mkRow_len]; exact Nat.le_refl _), mkRow_len, Nat.sub_self, List.drop_eq_getElem_cons hi, List.set_cons_zero, h1]
  simp
theorem set_set {α : Type} (l : List α) (i : Nat) (x y : α) : (l.set i x).set i y = l.set i y := List.set_set ..
theorem getElem?_set_same {α : Type} {l : List α} {i : Nat} {x : α} (h : i < l.length) : (l.set i x)[i]? = some x := List.getElem?_set_self h
theorem ac_laws_markFloorS (p : Option Addr) (l : List Flr) (k : Int) (st : St) (hO : OwnR st 2 cFlr p l) (hs : szOk l.length) (h0 : 0 ≤ k) (hk : k ≤ 549755813888) : C 79 [vS p l.length, vI k] st (fun v s => v = vI (k + 2 * (l.length : Int)) ∧ OwnR s 2 cFlr p (mkRow mkFlr 2 l.length k) ∧ Pr p st s) := by
  have hs : l.length ≤ 1048576 := hs
  refine AC.enterX (i := ⟨[], [], [0, 1, 4, 5, 9]⟩) [] Try.func79 rfl rfl (by kernel_rfl) (by kernel_rfl) Try.ntmps79 (Nat.le_of_ble_eq_true rfl) rfl ?_
  refine cx_sound _ _ _ _ _ ?_
  refine AW.cut lo0 st [(0, vS p l.length), (1, vI k), (4, vI (0)), (5, vI (0))] ⟨rfl, rfl, rfl, rfl, trivial⟩ fun ρ0 => ?_
  refine AW.loop0 (fun i : Nat => [(0, vS p l.length), (1, vI (k + 2 * (i : Int))), (5, vI (i : Int))]) (fun m (i : Nat) st' => m = l.length - i ∧ i ≤ l.length ∧ OwnR st' 2 cFlr p (mkRow mkFlr 2 i k ++ l.drop i) ∧ Pr p st st') 0 _ ⟨rfl, congrArg (Value.int .i64) (show k = k + 2 * ((0 : Nat) : Int) by omega), rfl, trivial⟩ rfl ⟨rfl, Nat.zero_le _, by simpa [mkRow] using hO, Pr.refl _ _⟩ ?_
  rintro m i ρ0 st' ⟨rfl, hi, hO0, hP0⟩
  iterate 2 refine ⟨_, rfl, ?_⟩
  rintro (_|_) h1
  · replace h1 : ¬ ((i : Int) < (l.length : Int)) := of_decide_eq_false h1
    refine AW.cut lo0 st' [(0, vS p l.length), (1, vI (k + 2 * (i : Int))), (5, vI (i : Int)), (9, vB false)] ⟨rfl, rfl, rfl, rfl, trivial⟩ fun ρ0 => ?_
    refine cx_sound _ _ _ _ _ ?_
    refine cx_sound _ _ _ _ _ ?_
    have hil : i = l.length := by omega
    subst hil
    rw [List.drop_length, List.append_nil] at hO0
    exact ⟨.inl rfl, _, rfl, rfl, hO0, hP0⟩
  · replace h1 : (i : Int) < (l.length : Int) := of_decide_eq_true h1
    refine AW.cut lo0 st' [(0, vS p l.length), (1, vI (k + 2 * (i : Int))), (5, vI (i : Int)), (9, vB true)] ⟨rfl, rfl, rfl, rfl, trivial⟩ fun ρ0 => ?_
    have h1' := Int.ofNat_lt.1 h1
    have hlen : i < (mkRow mkFlr 2 i k ++ l.drop i).length := by rw [List.length_append, mkRow_len, List.length_drop]; omega
    have ⟨a, ha⟩ := hO0.some (by omega)
    obtain ⟨w, hw⟩ : ∃ w, (mkRow mkFlr 2 i k ++ l.drop i)[i]? = some w := ⟨_, List.getElem?_eq_getElem hlen⟩
    have hset := mkRow_set (mk := mkFlr) (z := 2) (k := k) h1'
    refine cx_sound _ _ _ _ _ ?_
    refine ⟨_, op_idx (j := (i : Int)) (n := l.length) (q := ⟨a, 0, none⟩) rfl (congrArg (fun u => vS u l.length) ha) rfl rfl rfl (Int.natCast_nonneg _) h1, ?_⟩
    refine ⟨_, rfl, ?_⟩
    refine op_putc (z := 2) (i := 0) (st := st') (f := cFlr) (j := i) (l := (mkRow mkFlr 2 i k ++ l.drop i)) (w := w) (y := ((⟨(k + 2 * (i : Int)), w.inc⟩ : Flr) : Flr)) (p := p) (d := 0 + i * 2 + 0) rfl rfl (by omega) rfl rfl len_cFlr rfl rfl hw (by decide) rfl hO0 ha ?_
    intro s1 hO1 hP1 hn1
    have hQ1 : Pr p st s1 := hP0.trans hP1
    refine AW.cut lo0 s1 [(0, vS p l.length), (1, vI (k + 2 * (i : Int))), (5, vI (i : Int)), (9, vB true)] ⟨rfl, rfl, rfl, rfl, trivial⟩ fun ρ0 => ?_
    have e18 : IntKind.wrap .i64 (k + 2 * (i : Int) + 1) = k + 2 * (i : Int) + 1 := (wrap_i64 (by omega) (by omega)).trans (by omega)
    refine ⟨_, rfl, ?_⟩
    refine AW.cut lo0 s1 [(0, vS p l.length), (1, vI (k + 2 * (i : Int) + 1)), (5, vI (i : Int)), (9, vB true)] ⟨rfl, congrArg (Value.int .i64) e18, rfl, rfl, trivial⟩ fun ρ0 => ?_
    refine ⟨_, op_idx (j := (i : Int)) (n := l.length) (q := ⟨a, 0, none⟩) rfl (congrArg (fun u => vS u l.length) ha) rfl rfl rfl (Int.natCast_nonneg _) h1, ?_⟩
    refine ⟨_, rfl, ?_⟩
    refine op_putc (z := 2) (i := 1) (st := s1) (f := cFlr) (j := i) (l := ((mkRow mkFlr 2 i k ++ l.drop i).set i (⟨(k + 2 * (i : Int)), w.inc⟩ : Flr))) (w := (⟨(k + 2 * (i : Int)), w.inc⟩ : Flr)) (y := ((⟨(k + 2 * (i : Int)), (k + 2 * (i : Int)) + 1⟩ : Flr) : Flr)) (p := p) (d := 0 + i * 2 + 1) rfl rfl (by omega) rfl rfl len_cFlr rfl rfl (getElem?_set_same hlen) (by decide) rfl hO1 ha ?_
    intro s2 hO2 hP2 hn2
    rw [set_set] at hO2
    have hQ2 : Pr p st s2 := hQ1.trans hP2
    refine AW.cut lo0 s2 [(0, vS p l.length), (1, vI (k + 2 * (i : Int) + 1)), (5, vI (i : Int)), (9, vB true)] ⟨rfl, rfl, rfl, rfl, trivial⟩ fun ρ0 => ?_
    have e25 : IntKind.wrap .i64 (k + 2 * (i : Int) + 1 + 1) = k + 2 * ((i + 1 : Nat) : Int) := (wrap_i64 (by omega) (by omega)).trans (by omega)
    refine ⟨_, rfl, ?_⟩
    refine AW.cut lo0 s2 [(0, vS p l.length), (1, vI (k + 2 * ((i + 1 : Nat) : Int))), (5, vI (i : Int)), (9, vB true)] ⟨rfl, congrArg (Value.int .i64) e25, rfl, rfl, trivial⟩ fun ρ0 => ?_
    have e11 : IntKind.wrap .i64 ((i : Int) + 1) = ((i + 1 : Nat) : Int) := (wrap_i64 (by omega) (by omega)).trans (by omega)
    refine ⟨_, rfl, ?_⟩
    exact ⟨i + 1, l.length - (i + 1), by omega, ⟨rfl, rfl, congrArg (Value.int .i64) e11, trivial⟩, rfl, rfl, h1', (show OwnR s2 2 cFlr p (mkRow mkFlr 2 (i + 1) k ++ l.drop (i + 1)) by rw [← hset]; exact hO2), hQ2⟩
theorem ac_laws_markItemS (p : Option Addr) (l : List Itm) (k : Int) (st : St) (hO : OwnR st 6 cItm p l) (hs : szOk l.length) (h0 : 0 ≤ k) (hk : k ≤ 549755813888) : C 78 [vS p l.length, vI k] st (fun v s => v = vI (k + 6 * (l.length : Int)) ∧ OwnR s 6 cItm p (mkRow mkItm 6 l.length k) ∧ Pr p st s) := by
  have hs : l.length ≤ 1048576 := hs
  refine AC.enterX (i := ⟨[], [], [0, 1, 4, 5, 9]⟩) [] Try.func78 rfl rfl (by kernel_rfl) (by kernel_rfl) Try.ntmps78 (Nat.le_of_ble_eq_true rfl) rfl ?_
  refine cx_sound _ _ _ _ _ ?_
  refine AW.cut lo0 st [(0, vS p l.length), (1, vI k), (4, vI (0)), (5, vI (0))] ⟨rfl, rfl, rfl, rfl, trivial⟩ fun ρ0 => ?_
  refine AW.loop0 (fun i : Nat => [(0, vS p l.length), (1, vI (k + 6 * (i : Int))), (5, vI (i : Int))]) (fun m (i : Nat) st' => m = l.length - i ∧ i ≤ l.length ∧ OwnR st' 6 cItm p (mkRow mkItm 6 i k ++ l.drop i) ∧ Pr p st st') 0 _ ⟨rfl, congrArg (Value.int .i64) (show k = k + 6 * ((0 : Nat) : Int) by omega), rfl, trivial⟩ rfl ⟨rfl, Nat.zero_le _, by simpa [mkRow] using hO, Pr.refl _ _⟩ ?_
  rintro m i ρ0 st' ⟨rfl, hi, hO0, hP0⟩
  iterate 2 refine ⟨_, rfl, ?_⟩
  rintro (_|_) h1
  · replace h1 : ¬ ((i : Int) < (l.length : Int)) := of_decide_eq_false h1
    refine AW.cut lo0 st' [(0, vS p l.length), (1, vI (k + 6 * (i : Int))), (5, vI (i : Int)), (9, vB false)] ⟨rfl, rfl, rfl, rfl, trivial⟩ fun ρ0 => ?_
    refine cx_sound _ _ _ _ _ ?_
    refine cx_sound _ _ _ _ _ ?_
    have hil : i = l.length := by omega
    subst hil
    rw [List.drop_length, List.append_nil] at hO0
    exact ⟨.inl rfl, _, rfl, rfl, hO0, hP0⟩
  · replace h1 : (i : Int) < (l.length : Int) := of_decide_eq_true h1
    refine AW.cut lo0 st' [(0, vS p l.length), (1, vI (k + 6 * (i : Int))), (5, vI (i : Int)), (9, vB true)] ⟨rfl, rfl, rfl, rfl, trivial⟩ fun ρ0 => ?_
    have h1' := Int.ofNat_lt.1 h1
    have hlen : i < (mkRow mkItm 6 i k ++ l.drop i).length := by rw [List.length_append, mkRow_len, List.length_drop]; omega
    have ⟨a, ha⟩ := hO0.some (by omega)
    obtain ⟨w, hw⟩ : ∃ w, (mkRow mkItm 6 i k ++ l.drop i)[i]? = some w := ⟨_, List.getElem?_eq_getElem hlen⟩
    have hset := mkRow_set (mk := mkItm) (z := 6) (k := k) h1'
    refine cx_sound _ _ _ _ _ ?_
    refine ⟨_, op_idx (j := (i : Int)) (n := l.length) (q := ⟨a, 0, none⟩) rfl (congrArg (fun u => vS u l.length) ha) rfl rfl rfl (Int.natCast_nonneg _) h1, ?_⟩
    refine ⟨_, rfl, ?_⟩
    refine op_putc (z := 6) (i := 0) (st := st') (f := cItm) (j := i) (l := (mkRow mkItm 6 i k ++ l.drop i)) (w := w) (y := ((⟨(k + 6 * (i : Int)), ⟨w.e.inc, w.e.rank, w.e.beat, w.e.ver, w.e.data⟩⟩ : Itm) : Itm)) (p := p) (d := 0 + i * 6 + 0) rfl rfl (by omega) rfl rfl len_cItm rfl rfl hw (by decide) rfl hO0 ha ?_
    intro s1 hO1 hP1 hn1
    have hQ1 : Pr p st s1 := hP0.trans hP1
    refine AW.cut lo0 s1 [(0, vS p l.length), (1, vI (k + 6 * (i : Int))), (5, vI (i : Int)), (9, vB true)] ⟨rfl, rfl, rfl, rfl, trivial⟩ fun ρ0 => ?_
    have e18 : IntKind.wrap .i64 (k + 6 * (i : Int) + 1) = k + 6 * (i : Int) + 1 := (wrap_i64 (by omega) (by omega)).trans (by omega)
    refine ⟨_, rfl, ?_⟩
    refine AW.cut lo0 s1 [(0, vS p l.length), (1, vI (k + 6 * (i : Int) + 1)), (5, vI (i : Int)), (9, vB true)] ⟨rfl, congrArg (Value.int .i64) e18, rfl, rfl, trivial⟩ fun ρ0 => ?_
    refine ⟨_, op_idx (j := (i : Int)) (n := l.length) (q := ⟨a, 0, none⟩) rfl (congrArg (fun u => vS u l.length) ha) rfl rfl rfl (Int.natCast_nonneg _) h1, ?_⟩
    iterate 2 refine ⟨_, rfl, ?_⟩
    refine op_putc (z := 6) (i := 1) (st := s1) (f := cItm) (j := i) (l := ((mkRow mkItm 6 i k ++ l.drop i).set i (⟨(k + 6 * (i : Int)), ⟨w.e.inc, w.e.rank, w.e.beat, w.e.ver, w.e.data⟩⟩ : Itm))) (w := (⟨(k + 6 * (i : Int)), ⟨w.e.inc, w.e.rank, w.e.beat, w.e.ver, w.e.data⟩⟩ : Itm)) (y := ((⟨(k + 6 * (i : Int)), ⟨(k + 6 * (i : Int)) + 1, w.e.rank, w.e.beat, w.e.ver, w.e.data⟩⟩ : Itm) : Itm)) (p := p) (d := 0 + i * 6 + 1) rfl rfl (by omega) rfl rfl len_cItm rfl rfl (getElem?_set_same hlen) (by decide) rfl hO1 ha ?_
    intro s2 hO2 hP2 hn2
    rw [set_set] at hO2
    have hQ2 : Pr p st s2 := hQ1.trans hP2
    refine AW.cut lo0 s2 [(0, vS p l.length), (1, vI (k + 6 * (i : Int) + 1)), (5, vI (i : Int)), (9, vB true)] ⟨rfl, rfl, rfl, rfl, trivial⟩ fun ρ0 => ?_
    have e26 : IntKind.wrap .i64 (k + 6 * (i : Int) + 1 + 1) = k + 6 * (i : Int) + 2 := (wrap_i64 (by omega) (by omega)).trans (by omega)
    refine ⟨_, rfl, ?_⟩
    refine AW.cut lo0 s2 [(0, vS p l.length), (1, vI (k + 6 * (i : Int) + 2)), (5, vI (i : Int)), (9, vB true)] ⟨rfl, congrArg (Value.int .i64) e26, rfl, rfl, trivial⟩ fun ρ0 => ?_
    refine ⟨_, op_idx (j := (i : Int)) (n := l.length) (q := ⟨a, 0, none⟩) rfl (congrArg (fun u => vS u l.length) ha) rfl rfl rfl (Int.natCast_nonneg _) h1, ?_⟩
    iterate 2 refine ⟨_, rfl, ?_⟩
    refine op_putc (z := 6) (i := 2) (st := s2) (f := cItm) (j := i) (l := ((mkRow mkItm 6 i k ++ l.drop i).set i (⟨(k + 6 * (i : Int)), ⟨(k + 6 * (i : Int)) + 1, w.e.rank, w.e.beat, w.e.ver, w.e.data⟩⟩ : Itm))) (w := (⟨(k + 6 * (i : Int)), ⟨(k + 6 * (i : Int)) + 1, w.e.rank, w.e.beat, w.e.ver, w.e.data⟩⟩ : Itm)) (y := ((⟨(k + 6 * (i : Int)), ⟨(k + 6 * (i : Int)) + 1, (k + 6 * (i : Int)) + 2, w.e.beat, w.e.ver, w.e.data⟩⟩ : Itm) : Itm)) (p := p) (d := 0 + i * 6 + 2) rfl rfl (by omega) rfl rfl len_cItm rfl rfl (getElem?_set_same hlen) (by decide) rfl hO2 ha ?_
    intro s3 hO3 hP3 hn3
    rw [set_set] at hO3
    have hQ3 : Pr p st s3 := hQ2.trans hP3
    refine AW.cut lo0 s3 [(0, vS p l.length), (1, vI (k + 6 * (i : Int) + 2)), (5, vI (i : Int)), (9, vB true)] ⟨rfl, rfl, rfl, rfl, trivial⟩ fun ρ0 => ?_
    have e34 : IntKind.wrap .i64 (k + 6 * (i : Int) + 2 + 1) = k + 6 * (i : Int) + 3 := (wrap_i64 (by omega) (by omega)).trans (by omega)
    refine ⟨_, rfl, ?_⟩
    refine AW.cut lo0 s3 [(0, vS p l.length), (1, vI (k + 6 * (i : Int) + 3)), (5, vI (i : Int)), (9, vB true)] ⟨rfl, congrArg (Value.int .i64) e34, rfl, rfl, trivial⟩ fun ρ0 => ?_
    refine ⟨_, op_idx (j := (i : Int)) (n := l.length) (q := ⟨a, 0, none⟩) rfl (congrArg (fun u => vS u l.length) ha) rfl rfl rfl (Int.natCast_nonneg _) h1, ?_⟩
    iterate 2 refine ⟨_, rfl, ?_⟩
    refine op_putc (z := 6) (i := 3) (st := s3) (f := cItm) (j := i) (l := ((mkRow mkItm 6 i k ++ l.drop i).set i (⟨(k + 6 * (i : Int)), ⟨(k + 6 * (i : Int)) + 1, (k + 6 * (i : Int)) + 2, w.e.beat, w.e.ver, w.e.data⟩⟩ : Itm))) (w := (⟨(k + 6 * (i : Int)), ⟨(k + 6 * (i : Int)) + 1, (k + 6 * (i : Int)) + 2, w.e.beat, w.e.ver, w.e.data⟩⟩ : Itm)) (y := ((⟨(k + 6 * (i : Int)), ⟨(k + 6 * (i : Int)) + 1, (k + 6 * (i : Int)) + 2, (k + 6 * (i : Int)) + 3, w.e.ver, w.e.data⟩⟩ : Itm) : Itm)) (p := p) (d := 0 + i * 6 + 3) rfl rfl (by omega) rfl rfl len_cItm rfl rfl (getElem?_set_same hlen) (by decide) rfl hO3 ha ?_
    intro s4 hO4 hP4 hn4
    rw [set_set] at hO4
    have hQ4 : Pr p st s4 := hQ3.trans hP4
    refine AW.cut lo0 s4 [(0, vS p l.length), (1, vI (k + 6 * (i : Int) + 3)), (5, vI (i : Int)), (9, vB true)] ⟨rfl, rfl, rfl, rfl, trivial⟩ fun ρ0 => ?_
    have e42 : IntKind.wrap .i64 (k + 6 * (i : Int) + 3 + 1) = k + 6 * (i : Int) + 4 := (wrap_i64 (by omega) (by omega)).trans (by omega)
    refine ⟨_, rfl, ?_⟩
    refine AW.cut lo0 s4 [(0, vS p l.length), (1, vI (k + 6 * (i : Int) + 4)), (5, vI (i : Int)), (9, vB true)] ⟨rfl, congrArg (Value.int .i64) e42, rfl, rfl, trivial⟩ fun ρ0 => ?_
    refine ⟨_, op_idx (j := (i : Int)) (n := l.length) (q := ⟨a, 0, none⟩) rfl (congrArg (fun u => vS u l.length) ha) rfl rfl rfl (Int.natCast_nonneg _) h1, ?_⟩
    iterate 2 refine ⟨_, rfl, ?_⟩
    refine op_putc (z := 6) (i := 4) (st := s4) (f := cItm) (j := i) (l := ((mkRow mkItm 6 i k ++ l.drop i).set i (⟨(k + 6 * (i : Int)), ⟨(k + 6 * (i : Int)) + 1, (k + 6 * (i : Int)) + 2, (k + 6 * (i : Int)) + 3, w.e.ver, w.e.data⟩⟩ : Itm))) (w := (⟨(k + 6 * (i : Int)), ⟨(k + 6 * (i : Int)) + 1, (k + 6 * (i : Int)) + 2, (k + 6 * (i : Int)) + 3, w.e.ver, w.e.data⟩⟩ : Itm)) (y := ((⟨(k + 6 * (i : Int)), ⟨(k + 6 * (i : Int)) + 1, (k + 6 * (i : Int)) + 2, (k + 6 * (i : Int)) + 3, (k + 6 * (i : Int)) + 4, w.e.data⟩⟩ : Itm) : Itm)) (p := p) (d := 0 + i * 6 + 4) rfl rfl (by omega) rfl rfl len_cItm rfl rfl (getElem?_set_same hlen) (by decide) rfl hO4 ha ?_
    intro s5 hO5 hP5 hn5
    rw [set_set] at hO5
    have hQ5 : Pr p st s5 := hQ4.trans hP5
    refine AW.cut lo0 s5 [(0, vS p l.length), (1, vI (k + 6 * (i : Int) + 4)), (5, vI (i : Int)), (9, vB true)] ⟨rfl, rfl, rfl, rfl, trivial⟩ fun ρ0 => ?_
    have e50 : IntKind.wrap .i64 (k + 6 * (i : Int) + 4 + 1) = k + 6 * (i : Int) + 5 := (wrap_i64 (by omega) (by omega)).trans (by omega)
    refine ⟨_, rfl, ?_⟩
    refine AW.cut lo0 s5 [(0, vS p l.length), (1, vI (k + 6 * (i : Int) + 5)), (5, vI (i : Int)), (9, vB true)] ⟨rfl, congrArg (Value.int .i64) e50, rfl, rfl, trivial⟩ fun ρ0 => ?_
    refine ⟨_, rfl, (ac_laws_markText (k + 6 * (i : Int) + 5) s5 (by omega) (by omega)).mono ?_⟩
    rintro _ sT ⟨rfl, hPT⟩
    have hO5T := hPT.ownR hO5
    refine ⟨_, op_idx (j := (i : Int)) (n := l.length) (q := ⟨a, 0, none⟩) rfl (congrArg (fun u => vS u l.length) ha) rfl rfl rfl (Int.natCast_nonneg _) h1, ?_⟩
    iterate 2 refine ⟨_, rfl, ?_⟩
    refine op_putc (z := 6) (i := 5) (st := sT) (f := cItm) (j := i) (l := ((mkRow mkItm 6 i k ++ l.drop i).set i (⟨(k + 6 * (i : Int)), ⟨(k + 6 * (i : Int)) + 1, (k + 6 * (i : Int)) + 2, (k + 6 * (i : Int)) + 3, (k + 6 * (i : Int)) + 4, w.e.data⟩⟩ : Itm))) (w := (⟨(k + 6 * (i : Int)), ⟨(k + 6 * (i : Int)) + 1, (k + 6 * (i : Int)) + 2, (k + 6 * (i : Int)) + 3, (k + 6 * (i : Int)) + 4, w.e.data⟩⟩ : Itm)) (y := ((⟨(k + 6 * (i : Int)), ⟨(k + 6 * (i : Int)) + 1, (k + 6 * (i : Int)) + 2, (k + 6 * (i : Int)) + 3, (k + 6 * (i : Int)) + 4, mText ((k + 6 * (i : Int)) + 5)⟩⟩ : Itm) : Itm)) (p := p) (d := 0 + i * 6 + 5) rfl rfl (by omega) rfl rfl len_cItm rfl rfl (getElem?_set_same hlen) (by decide) rfl hO5T ha ?_
    intro s6 hO6 hP6 hn6
    rw [set_set] at hO6
    have hQ6 : Pr p st s6 := (hQ5.trans (Pres.pr hPT)).trans hP6
    refine AW.cut lo0 s6 [(0, vS p l.length), (1, vI (k + 6 * (i : Int) + 5)), (5, vI (i : Int)), (9, vB true)] ⟨rfl, rfl, rfl, rfl, trivial⟩ fun ρ0 => ?_
    have e59 : IntKind.wrap .i64 (k + 6 * (i : Int) + 5 + 1) = k + 6 * ((i + 1 : Nat) : Int) := (wrap_i64 (by omega) (by omega)).trans (by omega)
    refine ⟨_, rfl, ?_⟩
    refine AW.cut lo0 s6 [(0, vS p l.length), (1, vI (k + 6 * ((i + 1 : Nat) : Int))), (5, vI (i : Int)), (9, vB true)] ⟨rfl, congrArg (Value.int .i64) e59, rfl, rfl, trivial⟩ fun ρ0 => ?_
    have e11 : IntKind.wrap .i64 ((i : Int) + 1) = ((i + 1 : Nat) : Int) := (wrap_i64 (by omega) (by omega)).trans (by omega)
    refine ⟨_, rfl, ?_⟩
    exact ⟨i + 1, l.length - (i + 1), by omega, ⟨rfl, rfl, congrArg (Value.int .i64) e11, trivial⟩, rfl, rfl, h1', (show OwnR s6 6 cItm p (mkRow mkItm 6 (i + 1) k ++ l.drop (i + 1)) by rw [← hset]; exact hO6), hQ6⟩
theorem ac_laws_heldMarkS (p : Option Addr) (n : Nat) (k : Int) (st : St) (hR : Rows st 2 cFlr p (mkRow mkFlr 2 n k)) (hs : szOk n) (h0 : 0 ≤ k) (hk : k ≤ 549755813888) : C 27 [vS p n, vI k] st (fun v s => v = vI (k + 2 * (n : Int)) ∧ Pres st s) := by
  have hs : n ≤ 1048576 := hs
  refine AC.enterX (i := ⟨[], [], [0, 1, 4, 5, 9, 18, 27]⟩) [] Try.func27 rfl rfl (by kernel_rfl) (by kernel_rfl) Try.ntmps27 (Nat.le_of_ble_eq_true rfl) rfl ?_
  refine cx_sound _ _ _ _ _ ?_
  refine AW.cut lo0 st [(0, vS p n), (1, vI k), (4, vI (0)), (5, vI (0))] ⟨rfl, rfl, rfl, rfl, trivial⟩ fun ρ0 => ?_
  refine AW.loop0 (fun i : Nat => [(0, vS p n), (1, vI (k + 2 * (i : Int))), (5, vI (i : Int))]) (fun m (i : Nat) st' => m = n - i ∧ i ≤ n ∧ Pres st st') 0 _ ⟨rfl, congrArg (Value.int .i64) (show k = k + 2 * ((0 : Nat) : Int) by omega), rfl, trivial⟩ rfl ⟨rfl, Nat.zero_le _, Pres.refl _⟩ ?_
  rintro m i ρ0 st' ⟨rfl, hi, hP⟩
  iterate 2 refine ⟨_, rfl, ?_⟩
  rintro (_|_) h1
  · replace h1 : ¬ ((i : Int) < (n : Int)) := of_decide_eq_false h1
    refine AW.cut lo0 st' [(0, vS p n), (1, vI (k + 2 * (i : Int))), (5, vI (i : Int)), (9, vB false)] ⟨rfl, rfl, rfl, rfl, trivial⟩ fun ρ0 => ?_
    refine cx_sound _ _ _ _ _ ?_
    refine cx_sound _ _ _ _ _ ?_
    have hil : i = n := by omega
    subst hil
    exact ⟨.inl rfl, _, rfl, rfl, hP⟩
  · replace h1 : (i : Int) < (n : Int) := of_decide_eq_true h1
    refine AW.cut lo0 st' [(0, vS p n), (1, vI (k + 2 * (i : Int))), (5, vI (i : Int)), (9, vB true)] ⟨rfl, rfl, rfl, rfl, trivial⟩ fun ρ0 => ?_
    have h1' := Int.ofNat_lt.1 h1
    have ⟨b1, o1, k1, x, hpe, hx, hm1, hc1, hb1⟩ := (hP.rows hR).atB (j := i) (by rw [mkRow_len]; exact h1')
    have hx := mkRow_get hx
    have hc1 : (k1.cells.drop (o1 + i * 2)).take 2 = cFlr (mkFlr (k + 2 * (i : Int))) := by rw [hc1, hx]; rfl
    refine cx_sound _ _ _ _ _ ?_
    refine ⟨_, op_idx (j := (i : Int)) (n := n) (q := ⟨b1, o1, none⟩) rfl (congrArg (fun u => vS u n) hpe) rfl rfl rfl (Int.natCast_nonneg _) h1, ?_⟩
    refine ⟨_, rfl, ?_⟩
    refine ⟨_, op_ldc (i := 0) rfl rfl rfl rfl hm1 hc1 rfl rfl, ?_⟩
    refine ⟨_, rfl, ?_⟩
    rintro (_|_) h18
    rotate_left
    · exact absurd (rfl) (bne_iff_ne.1 h18)
    refine AW.cut lo0 st' [(0, vS p n), (1, vI (k + 2 * (i : Int))), (5, vI (i : Int)), (9, vB true), (18, vB false)] ⟨rfl, rfl, rfl, rfl, rfl, trivial⟩ fun ρ0 => ?_
    refine cx_sound _ _ _ _ _ ?_
    have e20 : IntKind.wrap .i64 (k + 2 * (i : Int) + 1) = k + 2 * (i : Int) + 1 := (wrap_i64 (by omega) (by omega)).trans (by omega)
    refine ⟨_, rfl, ?_⟩
    refine AW.cut lo0 st' [(0, vS p n), (1, vI (k + 2 * (i : Int) + 1)), (5, vI (i : Int)), (9, vB true), (18, vB false)] ⟨rfl, congrArg (Value.int .i64) e20, rfl, rfl, rfl, trivial⟩ fun ρ0 => ?_
    refine ⟨_, op_idx (j := (i : Int)) (n := n) (q := ⟨b1, o1, none⟩) rfl (congrArg (fun u => vS u n) hpe) rfl rfl rfl (Int.natCast_nonneg _) h1, ?_⟩
    refine ⟨_, rfl, ?_⟩
    refine ⟨_, op_ldc (i := 1) rfl rfl rfl rfl hm1 hc1 rfl rfl, ?_⟩
    refine ⟨_, rfl, ?_⟩
    rintro (_|_) h27
    rotate_left
    · exact absurd (rfl) (bne_iff_ne.1 h27)
    refine AW.cut lo0 st' [(0, vS p n), (1, vI (k + 2 * (i : Int) + 1)), (5, vI (i : Int)), (9, vB true), (18, vB false), (27, vB false)] ⟨rfl, rfl, rfl, rfl, rfl, rfl, trivial⟩ fun ρ0 => ?_
    refine cx_sound _ _ _ _ _ ?_
    have e29 : IntKind.wrap .i64 (k + 2 * (i : Int) + 1 + 1) = k + 2 * ((i + 1 : Nat) : Int) := (wrap_i64 (by omega) (by omega)).trans (by omega)
    refine ⟨_, rfl, ?_⟩
    refine AW.cut lo0 st' [(0, vS p n), (1, vI (k + 2 * ((i + 1 : Nat) : Int))), (5, vI (i : Int)), (9, vB true), (18, vB false), (27, vB false)] ⟨rfl, congrArg (Value.int .i64) e29, rfl, rfl, rfl, rfl, trivial⟩ fun ρ0 => ?_
    have e11 : IntKind.wrap .i64 ((i : Int) + 1) = ((i + 1 : Nat) : Int) := (wrap_i64 (by omega) (by omega)).trans (by omega)
    refine ⟨_, rfl, ?_⟩
    exact ⟨i + 1, n - (i + 1), by omega, ⟨rfl, rfl, congrArg (Value.int .i64) e11, trivial⟩, rfl, rfl, h1', hP⟩
theorem ac_laws_heldFloorS (p : Option Addr) (n : Nat) (k : Int) (st : St) (hR : Rows st 2 cFlr p (mkRow mkFlr 2 n k)) (hs : szOk n) (h0 : 0 ≤ k) (hk : k ≤ 549755813888) : C 129 [vS p n, vI k] st (fun v s => v = vI (k + 2 * (n : Int)) ∧ Pres st s) := by
  have hs : n ≤ 1048576 := hs
  refine AC.enterX (i := ⟨[], [], [0, 1, 4, 5, 9, 18, 27]⟩) [] Try.func129 rfl rfl (by kernel_rfl) (by kernel_rfl) Try.ntmps129 (Nat.le_of_ble_eq_true rfl) rfl ?_
  refine cx_sound _ _ _ _ _ ?_
  refine AW.cut lo0 st [(0, vS p n), (1, vI k), (4, vI (0)), (5, vI (0))] ⟨rfl, rfl, rfl, rfl, trivial⟩ fun ρ0 => ?_
  refine AW.loop0 (fun i : Nat => [(0, vS p n), (1, vI (k + 2 * (i : Int))), (5, vI (i : Int))]) (fun m (i : Nat) st' => m = n - i ∧ i ≤ n ∧ Pres st st') 0 _ ⟨rfl, congrArg (Value.int .i64) (show k = k + 2 * ((0 : Nat) : Int) by omega), rfl, trivial⟩ rfl ⟨rfl, Nat.zero_le _, Pres.refl _⟩ ?_
  rintro m i ρ0 st' ⟨rfl, hi, hP⟩
  iterate 2 refine ⟨_, rfl, ?_⟩
  rintro (_|_) h1
  · replace h1 : ¬ ((i : Int) < (n : Int)) := of_decide_eq_false h1
    refine AW.cut lo0 st' [(0, vS p n), (1, vI (k + 2 * (i : Int))), (5, vI (i : Int)), (9, vB false)] ⟨rfl, rfl, rfl, rfl, trivial⟩ fun ρ0 => ?_
    refine cx_sound _ _ _ _ _ ?_
    refine cx_sound _ _ _ _ _ ?_
    have hil : i = n := by omega
    subst hil
    exact ⟨.inl rfl, _, rfl, rfl, hP⟩
  · replace h1 : (i : Int) < (n : Int) := of_decide_eq_true h1
    refine AW.cut lo0 st' [(0, vS p n), (1, vI (k + 2 * (i : Int))), (5, vI (i : Int)), (9, vB true)] ⟨rfl, rfl, rfl, rfl, trivial⟩ fun ρ0 => ?_
    have h1' := Int.ofNat_lt.1 h1
    have ⟨b1, o1, k1, x, hpe, hx, hm1, hc1, hb1⟩ := (hP.rows hR).atB (j := i) (by rw [mkRow_len]; exact h1')
    have hx := mkRow_get hx
    have hc1 : (k1.cells.drop (o1 + i * 2)).take 2 = cFlr (mkFlr (k + 2 * (i : Int))) := by rw [hc1, hx]; rfl
    refine cx_sound _ _ _ _ _ ?_
    refine ⟨_, op_idx (j := (i : Int)) (n := n) (q := ⟨b1, o1, none⟩) rfl (congrArg (fun u => vS u n) hpe) rfl rfl rfl (Int.natCast_nonneg _) h1, ?_⟩
    refine ⟨_, rfl, ?_⟩
    refine ⟨_, op_ldc (i := 0) rfl rfl rfl rfl hm1 hc1 rfl rfl, ?_⟩
    refine ⟨_, rfl, ?_⟩
    rintro (_|_) h18
    rotate_left
    · exact absurd (rfl) (bne_iff_ne.1 h18)
    refine AW.cut lo0 st' [(0, vS p n), (1, vI (k + 2 * (i : Int))), (5, vI (i : Int)), (9, vB true), (18, vB false)] ⟨rfl, rfl, rfl, rfl, rfl, trivial⟩ fun ρ0 => ?_
    refine cx_sound _ _ _ _ _ ?_
    have e20 : IntKind.wrap .i64 (k + 2 * (i : Int) + 1) = k + 2 * (i : Int) + 1 := (wrap_i64 (by omega) (by omega)).trans (by omega)
    refine ⟨_, rfl, ?_⟩
    refine AW.cut lo0 st' [(0, vS p n), (1, vI (k + 2 * (i : Int) + 1)), (5, vI (i : Int)), (9, vB true), (18, vB false)] ⟨rfl, congrArg (Value.int .i64) e20, rfl, rfl, rfl, trivial⟩ fun ρ0 => ?_
    refine ⟨_, op_idx (j := (i : Int)) (n := n) (q := ⟨b1, o1, none⟩) rfl (congrArg (fun u => vS u n) hpe) rfl rfl rfl (Int.natCast_nonneg _) h1, ?_⟩
    refine ⟨_, rfl, ?_⟩
    refine ⟨_, op_ldc (i := 1) rfl rfl rfl rfl hm1 hc1 rfl rfl, ?_⟩
    refine ⟨_, rfl, ?_⟩
    rintro (_|_) h27
    rotate_left
    · exact absurd (rfl) (bne_iff_ne.1 h27)
    refine AW.cut lo0 st' [(0, vS p n), (1, vI (k + 2 * (i : Int) + 1)), (5, vI (i : Int)), (9, vB true), (18, vB false), (27, vB false)] ⟨rfl, rfl, rfl, rfl, rfl, rfl, trivial⟩ fun ρ0 => ?_
    refine cx_sound _ _ _ _ _ ?_
    have e29 : IntKind.wrap .i64 (k + 2 * (i : Int) + 1 + 1) = k + 2 * ((i + 1 : Nat) : Int) := (wrap_i64 (by omega) (by omega)).trans (by omega)
    refine ⟨_, rfl, ?_⟩
    refine AW.cut lo0 st' [(0, vS p n), (1, vI (k + 2 * ((i + 1 : Nat) : Int))), (5, vI (i : Int)), (9, vB true), (18, vB false), (27, vB false)] ⟨rfl, congrArg (Value.int .i64) e29, rfl, rfl, rfl, rfl, trivial⟩ fun ρ0 => ?_
    have e11 : IntKind.wrap .i64 ((i : Int) + 1) = ((i + 1 : Nat) : Int) := (wrap_i64 (by omega) (by omega)).trans (by omega)
    refine ⟨_, rfl, ?_⟩
    exact ⟨i + 1, n - (i + 1), by omega, ⟨rfl, rfl, congrArg (Value.int .i64) e11, trivial⟩, rfl, rfl, h1', hP⟩
theorem ac_laws_heldItemS (p : Option Addr) (n : Nat) (k : Int) (st : St) (hR : Rows st 6 cItm p (mkRow mkItm 6 n k)) (hs : szOk n) (h0 : 0 ≤ k) (hk : k ≤ 549755813888) : C 128 [vS p n, vI k] st (fun v s => v = vI (k + 6 * (n : Int)) ∧ Pres st s) := by
  have hs : n ≤ 1048576 := hs
  refine AC.enterX (i := ⟨[], [], [0, 1, 4, 5, 9, 18, 28, 38, 48, 58, 69]⟩) [(19, [7], [5])] Try.func128 rfl rfl (by kernel_rfl) (by kernel_rfl) Try.ntmps128 (Nat.le_of_ble_eq_true rfl) rfl ?_
  refine cx_sound _ _ _ _ _ ?_
  refine AW.cut lo0 st [(0, vS p n), (1, vI k), (4, vI (0)), (5, vI (0))] ⟨rfl, rfl, rfl, rfl, trivial⟩ fun ρ0 => ?_
  refine AW.loop0 (fun i : Nat => [(0, vS p n), (1, vI (k + 6 * (i : Int))), (5, vI (i : Int))]) (fun m (i : Nat) st' => m = n - i ∧ i ≤ n ∧ Pres st st') 0 _ ⟨rfl, congrArg (Value.int .i64) (show k = k + 6 * ((0 : Nat) : Int) by omega), rfl, trivial⟩ rfl ⟨rfl, Nat.zero_le _, Pres.refl _⟩ ?_
  rintro m i ρ0 st' ⟨rfl, hi, hP⟩
  iterate 2 refine ⟨_, rfl, ?_⟩
  rintro (_|_) h1
  · replace h1 : ¬ ((i : Int) < (n : Int)) := of_decide_eq_false h1
    refine AW.cut lo0 st' [(0, vS p n), (1, vI (k + 6 * (i : Int))), (5, vI (i : Int)), (9, vB false)] ⟨rfl, rfl, rfl, rfl, trivial⟩ fun ρ0 => ?_
    refine cx_sound _ _ _ _ _ ?_
    refine cx_sound _ _ _ _ _ ?_
    have hil : i = n := by omega
    subst hil
    exact ⟨.inl rfl, _, rfl, rfl, hP⟩
  · replace h1 : (i : Int) < (n : Int) := of_decide_eq_true h1
    refine AW.cut lo0 st' [(0, vS p n), (1, vI (k + 6 * (i : Int))), (5, vI (i : Int)), (9, vB true)] ⟨rfl, rfl, rfl, rfl, trivial⟩ fun ρ0 => ?_
    have h1' := Int.ofNat_lt.1 h1
    have ⟨b1, o1, k1, x, hpe, hx, hm1, hc1, hb1⟩ := (hP.rows hR).atB (j := i) (by rw [mkRow_len]; exact h1')
    have hx := mkRow_get hx
    have hc1 : (k1.cells.drop (o1 + i * 6)).take 6 = cItm (mkItm (k + 6 * (i : Int))) := by rw [hc1, hx]; rfl
    refine cx_sound _ _ _ _ _ ?_
    refine ⟨_, op_idx (j := (i : Int)) (n := n) (q := ⟨b1, o1, none⟩) rfl (congrArg (fun u => vS u n) hpe) rfl rfl rfl (Int.natCast_nonneg _) h1, ?_⟩
    refine ⟨_, rfl, ?_⟩
    refine ⟨_, op_ldc (i := 0) rfl rfl rfl rfl hm1 hc1 rfl rfl, ?_⟩
    refine ⟨_, rfl, ?_⟩
    rintro (_|_) h18
    rotate_left
    · exact absurd (rfl) (bne_iff_ne.1 h18)
    refine AW.cut lo0 st' [(0, vS p n), (1, vI (k + 6 * (i : Int))), (5, vI (i : Int)), (9, vB true), (18, vB false)] ⟨rfl, rfl, rfl, rfl, rfl, trivial⟩ fun ρ0 => ?_
    refine cx_sound _ _ _ _ _ ?_
    have e20 : IntKind.wrap .i64 (k + 6 * (i : Int) + 1) = k + 6 * (i : Int) + 1 := (wrap_i64 (by omega) (by omega)).trans (by omega)
    refine ⟨_, rfl, ?_⟩
    refine AW.cut lo0 st' [(0, vS p n), (1, vI (k + 6 * (i : Int) + 1)), (5, vI (i : Int)), (9, vB true), (18, vB false)] ⟨rfl, congrArg (Value.int .i64) e20, rfl, rfl, rfl, trivial⟩ fun ρ0 => ?_
    refine ⟨_, op_idx (j := (i : Int)) (n := n) (q := ⟨b1, o1, none⟩) rfl (congrArg (fun u => vS u n) hpe) rfl rfl rfl (Int.natCast_nonneg _) h1, ?_⟩
    iterate 2 refine ⟨_, rfl, ?_⟩
    refine ⟨_, op_ldc (i := 1) rfl rfl rfl rfl hm1 hc1 rfl rfl, ?_⟩
    refine ⟨_, rfl, ?_⟩
    rintro (_|_) h28
    rotate_left
    · exact absurd (rfl) (bne_iff_ne.1 h28)
    refine AW.cut lo0 st' [(0, vS p n), (1, vI (k + 6 * (i : Int) + 1)), (5, vI (i : Int)), (9, vB true), (18, vB false), (28, vB false)] ⟨rfl, rfl, rfl, rfl, rfl, rfl, trivial⟩ fun ρ0 => ?_
    refine cx_sound _ _ _ _ _ ?_
    have e30 : IntKind.wrap .i64 (k + 6 * (i : Int) + 1 + 1) = k + 6 * (i : Int) + 2 := (wrap_i64 (by omega) (by omega)).trans (by omega)
    refine ⟨_, rfl, ?_⟩
    refine AW.cut lo0 st' [(0, vS p n), (1, vI (k + 6 * (i : Int) + 2)), (5, vI (i : Int)), (9, vB true), (18, vB false), (28, vB false)] ⟨rfl, congrArg (Value.int .i64) e30, rfl, rfl, rfl, rfl, trivial⟩ fun ρ0 => ?_
    refine ⟨_, op_idx (j := (i : Int)) (n := n) (q := ⟨b1, o1, none⟩) rfl (congrArg (fun u => vS u n) hpe) rfl rfl rfl (Int.natCast_nonneg _) h1, ?_⟩
    iterate 2 refine ⟨_, rfl, ?_⟩
    refine ⟨_, op_ldc (i := 2) rfl rfl rfl rfl hm1 hc1 rfl rfl, ?_⟩
    refine ⟨_, rfl, ?_⟩
    rintro (_|_) h38
    rotate_left
    · exact absurd (rfl) (bne_iff_ne.1 h38)
    refine AW.cut lo0 st' [(0, vS p n), (1, vI (k + 6 * (i : Int) + 2)), (5, vI (i : Int)), (9, vB true), (18, vB false), (28, vB false), (38, vB false)] ⟨rfl, rfl, rfl, rfl, rfl, rfl, rfl, trivial⟩ fun ρ0 => ?_
    refine cx_sound _ _ _ _ _ ?_
    have e40 : IntKind.wrap .i64 (k + 6 * (i : Int) + 2 + 1) = k + 6 * (i : Int) + 3 := (wrap_i64 (by omega) (by omega)).trans (by omega)
    refine ⟨_, rfl, ?_⟩
    refine AW.cut lo0 st' [(0, vS p n), (1, vI (k + 6 * (i : Int) + 3)), (5, vI (i : Int)), (9, vB true), (18, vB false), (28, vB false), (38, vB false)] ⟨rfl, congrArg (Value.int .i64) e40, rfl, rfl, rfl, rfl, rfl, trivial⟩ fun ρ0 => ?_
    refine ⟨_, op_idx (j := (i : Int)) (n := n) (q := ⟨b1, o1, none⟩) rfl (congrArg (fun u => vS u n) hpe) rfl rfl rfl (Int.natCast_nonneg _) h1, ?_⟩
    iterate 2 refine ⟨_, rfl, ?_⟩
    refine ⟨_, op_ldc (i := 3) rfl rfl rfl rfl hm1 hc1 rfl rfl, ?_⟩
    refine ⟨_, rfl, ?_⟩
    rintro (_|_) h48
    rotate_left
    · exact absurd (rfl) (bne_iff_ne.1 h48)
    refine AW.cut lo0 st' [(0, vS p n), (1, vI (k + 6 * (i : Int) + 3)), (5, vI (i : Int)), (9, vB true), (18, vB false), (28, vB false), (38, vB false), (48, vB false)] ⟨rfl, rfl, rfl, rfl, rfl, rfl, rfl, rfl, trivial⟩ fun ρ0 => ?_
    refine cx_sound _ _ _ _ _ ?_
    have e50 : IntKind.wrap .i64 (k + 6 * (i : Int) + 3 + 1) = k + 6 * (i : Int) + 4 := (wrap_i64 (by omega) (by omega)).trans (by omega)
    refine ⟨_, rfl, ?_⟩
    refine AW.cut lo0 st' [(0, vS p n), (1, vI (k + 6 * (i : Int) + 4)), (5, vI (i : Int)), (9, vB true), (18, vB false), (28, vB false), (38, vB false), (48, vB false)] ⟨rfl, congrArg (Value.int .i64) e50, rfl, rfl, rfl, rfl, rfl, rfl, trivial⟩ fun ρ0 => ?_
    refine ⟨_, op_idx (j := (i : Int)) (n := n) (q := ⟨b1, o1, none⟩) rfl (congrArg (fun u => vS u n) hpe) rfl rfl rfl (Int.natCast_nonneg _) h1, ?_⟩
    iterate 2 refine ⟨_, rfl, ?_⟩
    refine ⟨_, op_ldc (i := 4) rfl rfl rfl rfl hm1 hc1 rfl rfl, ?_⟩
    refine ⟨_, rfl, ?_⟩
    rintro (_|_) h58
    rotate_left
    · exact absurd (rfl) (bne_iff_ne.1 h58)
    refine AW.cut lo0 st' [(0, vS p n), (1, vI (k + 6 * (i : Int) + 4)), (5, vI (i : Int)), (9, vB true), (18, vB false), (28, vB false), (38, vB false), (48, vB false), (58, vB false)] ⟨rfl, rfl, rfl, rfl, rfl, rfl, rfl, rfl, rfl, trivial⟩ fun ρ0 => ?_
    refine cx_sound _ _ _ _ _ ?_
    have e60 : IntKind.wrap .i64 (k + 6 * (i : Int) + 4 + 1) = k + 6 * (i : Int) + 5 := (wrap_i64 (by omega) (by omega)).trans (by omega)
    refine ⟨_, rfl, ?_⟩
    refine AW.cut lo0 st' [(0, vS p n), (1, vI (k + 6 * (i : Int) + 5)), (5, vI (i : Int)), (9, vB true), (18, vB false), (28, vB false), (38, vB false), (48, vB false), (58, vB false)] ⟨rfl, congrArg (Value.int .i64) e60, rfl, rfl, rfl, rfl, rfl, rfl, rfl, trivial⟩ fun ρ0 => ?_
    refine ⟨_, op_idx (j := (i : Int)) (n := n) (q := ⟨b1, o1, none⟩) rfl (congrArg (fun u => vS u n) hpe) rfl rfl rfl (Int.natCast_nonneg _) h1, ?_⟩
    iterate 2 refine ⟨_, rfl, ?_⟩
    refine ⟨_, op_ldc (i := 5) rfl rfl rfl rfl hm1 hc1 rfl rfl, ?_⟩
    refine ⟨ld_lt rfl rfl hb1, ?_⟩
    refine ⟨_, rfl, (ac_laws_markText (k + 6 * (i : Int) + 5) st' (by omega) (by omega)).mono ?_⟩
    rintro _ sT ⟨rfl, hPT⟩
    refine ⟨hPT.2, ?_⟩
    refine ⟨_, rfl, ?_⟩
    rintro (_|_) h69
    rotate_left
    · exact absurd (rfl) (str_ne h69)
    refine AW.cut lo0 sT [(0, vS p n), (1, vI (k + 6 * (i : Int) + 5)), (5, vI (i : Int)), (9, vB true), (18, vB false), (28, vB false), (38, vB false), (48, vB false), (58, vB false), (69, vB false)] ⟨rfl, rfl, rfl, rfl, rfl, rfl, rfl, rfl, rfl, rfl, trivial⟩ fun ρ0 => ?_
    refine cx_sound _ _ _ _ _ ?_
    have e71 : IntKind.wrap .i64 (k + 6 * (i : Int) + 5 + 1) = k + 6 * ((i + 1 : Nat) : Int) := (wrap_i64 (by omega) (by omega)).trans (by omega)
    refine ⟨_, rfl, ?_⟩
    refine AW.cut lo0 sT [(0, vS p n), (1, vI (k + 6 * ((i + 1 : Nat) : Int))), (5, vI (i : Int)), (9, vB true), (18, vB false), (28, vB false), (38, vB false), (48, vB false), (58, vB false), (69, vB false)] ⟨rfl, congrArg (Value.int .i64) e71, rfl, rfl, rfl, rfl, rfl, rfl, rfl, rfl, trivial⟩ fun ρ0 => ?_
    have e11 : IntKind.wrap .i64 ((i : Int) + 1) = ((i + 1 : Nat) : Int) := (wrap_i64 (by omega) (by omega)).trans (by omega)
    refine ⟨_, rfl, ?_⟩
    exact ⟨i + 1, n - (i + 1), by omega, ⟨rfl, rfl, congrArg (Value.int .i64) e11, trivial⟩, rfl, rfl, h1', hP.trans hPT⟩
theorem ac_laws_markMarkSx (p : Option Addr) (l : List Flr) (k : Int) (st : St) (hO : OwnR st 2 cFlr p l) (hs : szOk l.length) (h0 : 0 ≤ k) (hk : k ≤ 549755813888) : C 26 [vS p l.length, vI k] st (fun v s => v = vI (k + 2 * (l.length : Int)) ∧ OwnR s 2 cFlr p (mkRow mkFlr 2 l.length k) ∧ Pr p st s) := by
  have hs : l.length ≤ 1048576 := hs
  refine AC.enterX (i := ⟨[], [], [0, 1, 4, 5, 9]⟩) [] Try.func26 rfl rfl (by kernel_rfl) (by kernel_rfl) Try.ntmps26 (Nat.le_of_ble_eq_true rfl) rfl ?_
  refine cx_sound _ _ _ _ _ ?_
  refine AW.cut lo0 st [(0, vS p l.length), (1, vI k), (4, vI (0)), (5, vI (0))] ⟨rfl, rfl, rfl, rfl, trivial⟩ fun ρ0 => ?_
  refine AW.loop0 (fun i : Nat => [(0, vS p l.length), (1, vI (k + 2 * (i : Int))), (5, vI (i : Int))]) (fun m (i : Nat) st' => m = l.length - i ∧ i ≤ l.length ∧ OwnR st' 2 cFlr p (mkRow mkFlr 2 i k ++ l.drop i) ∧ Pr p st st') 0 _ ⟨rfl, congrArg (Value.int .i64) (show k = k + 2 * ((0 : Nat) : Int) by omega), rfl, trivial⟩ rfl ⟨rfl, Nat.zero_le _, by simpa [mkRow] using hO, Pr.refl _ _⟩ ?_
  rintro m i ρ0 st' ⟨rfl, hi, hO0, hP0⟩
  iterate 2 refine ⟨_, rfl, ?_⟩
  rintro (_|_) h1
  · replace h1 : ¬ ((i : Int) < (l.length : Int)) := of_decide_eq_false h1
    refine AW.cut lo0 st' [(0, vS p l.length), (1, vI (k + 2 * (i : Int))), (5, vI (i : Int)), (9, vB false)] ⟨rfl, rfl, rfl, rfl, trivial⟩ fun ρ0 => ?_
    refine cx_sound _ _ _ _ _ ?_
    refine cx_sound _ _ _ _ _ ?_
    have hil : i = l.length := by omega
    subst hil
    rw [List.drop_length, List.append_nil] at hO0
    exact ⟨.inl rfl, _, rfl, rfl, hO0, hP0⟩
  · replace h1 : (i : Int) < (l.length : Int) := of_decide_eq_true h1
    refine AW.cut lo0 st' [(0, vS p l.length), (1, vI (k + 2 * (i : Int))), (5, vI (i : Int)), (9, vB true)] ⟨rfl, rfl, rfl, rfl, trivial⟩ fun ρ0 => ?_
    have h1' := Int.ofNat_lt.1 h1
    have hlen : i < (mkRow mkFlr 2 i k ++ l.drop i).length := by rw [List.length_append, mkRow_len, List.length_drop]; omega
    have ⟨a, ha⟩ := hO0.some (by omega)
    obtain ⟨w, hw⟩ : ∃ w, (mkRow mkFlr 2 i k ++ l.drop i)[i]? = some w := ⟨_, List.getElem?_eq_getElem hlen⟩
    have hset := mkRow_set (mk := mkFlr) (z := 2) (k := k) h1'
    refine cx_sound _ _ _ _ _ ?_
    refine ⟨_, op_idx (j := (i : Int)) (n := l.length) (q := ⟨a, 0, none⟩) rfl (congrArg (fun u => vS u l.length) ha) rfl rfl rfl (Int.natCast_nonneg _) h1, ?_⟩
    refine ⟨_, rfl, ?_⟩
    refine op_putc (z := 2) (i := 0) (st := st') (f := cFlr) (j := i) (l := (mkRow mkFlr 2 i k ++ l.drop i)) (w := w) (y := ((⟨(k + 2 * (i : Int)), w.inc⟩ : Flr) : Flr)) (p := p) (d := 0 + i * 2 + 0) rfl rfl (by omega) rfl rfl len_cFlr rfl rfl hw (by decide) rfl hO0 ha ?_
    intro s1 hO1 hP1 hn1
    have hQ1 : Pr p st s1 := hP0.trans hP1
    refine AW.cut lo0 s1 [(0, vS p l.length), (1, vI (k + 2 * (i : Int))), (5, vI (i : Int)), (9, vB true)] ⟨rfl, rfl, rfl, rfl, trivial⟩ fun ρ0 => ?_
    have e18 : IntKind.wrap .i64 (k + 2 * (i : Int) + 1) = k + 2 * (i : Int) + 1 := (wrap_i64 (by omega) (by omega)).trans (by omega)
    refine ⟨_, rfl, ?_⟩
    refine AW.cut lo0 s1 [(0, vS p l.length), (1, vI (k + 2 * (i : Int) + 1)), (5, vI (i : Int)), (9, vB true)] ⟨rfl, congrArg (Value.int .i64) e18, rfl, rfl, trivial⟩ fun ρ0 => ?_
    refine ⟨_, op_idx (j := (i : Int)) (n := l.length) (q := ⟨a, 0, none⟩) rfl (congrArg (fun u => vS u l.length) ha) rfl rfl rfl (Int.natCast_nonneg _) h1, ?_⟩
    refine ⟨_, rfl, ?_⟩
    refine op_putc (z := 2) (i := 1) (st := s1) (f := cFlr) (j := i) (l := ((mkRow mkFlr 2 i k ++ l.drop i).set i (⟨(k + 2 * (i : Int)), w.inc⟩ : Flr))) (w := (⟨(k + 2 * (i : Int)), w.inc⟩ : Flr)) (y := ((⟨(k + 2 * (i : Int)), (k + 2 * (i : Int)) + 1⟩ : Flr) : Flr)) (p := p) (d := 0 + i * 2 + 1) rfl rfl (by omega) rfl rfl len_cFlr rfl rfl (getElem?_set_same hlen) (by decide) rfl hO1 ha ?_
    intro s2 hO2 hP2 hn2
    rw [set_set] at hO2
    have hQ2 : Pr p st s2 := hQ1.trans hP2
    refine AW.cut lo0 s2 [(0, vS p l.length), (1, vI (k + 2 * (i : Int) + 1)), (5, vI (i : Int)), (9, vB true)] ⟨rfl, rfl, rfl, rfl, trivial⟩ fun ρ0 => ?_
    have e25 : IntKind.wrap .i64 (k + 2 * (i : Int) + 1 + 1) = k + 2 * ((i + 1 : Nat) : Int) := (wrap_i64 (by omega) (by omega)).trans (by omega)
    refine ⟨_, rfl, ?_⟩
    refine AW.cut lo0 s2 [(0, vS p l.length), (1, vI (k + 2 * ((i + 1 : Nat) : Int))), (5, vI (i : Int)), (9, vB true)] ⟨rfl, congrArg (Value.int .i64) e25, rfl, rfl, trivial⟩ fun ρ0 => ?_
    have e11 : IntKind.wrap .i64 ((i : Int) + 1) = ((i + 1 : Nat) : Int) := (wrap_i64 (by omega) (by omega)).trans (by omega)
    refine ⟨_, rfl, ?_⟩
    exact ⟨i + 1, l.length - (i + 1), by omega, ⟨rfl, rfl, congrArg (Value.int .i64) e11, trivial⟩, rfl, rfl, h1', (show OwnR s2 2 cFlr p (mkRow mkFlr 2 (i + 1) k ++ l.drop (i + 1)) by rw [← hset]; exact hO2), hQ2⟩
end Go.Proofs.Ytopcpcoklgepnaa.AM
