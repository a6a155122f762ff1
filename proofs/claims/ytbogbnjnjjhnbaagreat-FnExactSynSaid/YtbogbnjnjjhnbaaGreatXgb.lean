/- Part 2 of the texts on which the law's proof rests. -/
import Derived.Test.YtbogbnjnjjhnbaaGreatXga
namespace Go.Proofs.YtbogbnjnjjhnbaaGreat.AM
open Go Go.Proofs
set_option linter.unusedVariables false
set_option linter.unusedSimpArgs false
set_option maxRecDepth 100000
set_option maxHeartbeats 4000000
def mkSes (k : Int) : Ses := ⟨k, k + 1, (k + 2).tmod 3 == 0, k + 3⟩
def mkRis (k : Int) : Ris := ⟨k, k + 1, k + 2⟩
theorem ac_laws_markSessS (p : Option Addr) (l : List Ses) (k : Int) (st : St) (hO : OwnR st 4 cSess p l) (hs : szOk l.length) (h0 : 0 ≤ k) (hk : k ≤ 549755813888) : C 66 [vS p l.length, vI k] st (fun v s => v = vI (k + 4 * (l.length : Int)) ∧ OwnR s 4 cSess p (mkRow mkSes 4 l.length k) ∧ Pr p st s) := by
 have hs : l.length ≤ 1048576 := hs
 refine AC.enterX (i := ⟨[], [], [0, 1, 4, 5, 9]⟩) [] Tryz.func66 rfl rfl (by kernel_rfl) (by kernel_rfl) Tryz.ntmps66 (Nat.le_of_ble_eq_true rfl) rfl ?_
 refine cxs ?_
 refine AW.cut lo0 st [(0, vS p l.length), (1, vI k), (4, vI (0)), (5, vI (0))] ⟨rfl, rfl, rfl, rfl, trivial⟩ fun ρ0 => ?_
 refine AW.loop0 (fun i : Nat => [(0, vS p l.length), (1, vI (k + 4 * (i : Int))), (5, vI (i : Int))]) (fun m (i : Nat) st' => m = l.length - i ∧ i ≤ l.length ∧ OwnR st' 4 cSess p (mkRow mkSes 4 i k ++ l.drop i) ∧ Pr p st st') 0 _ ⟨rfl, congrArg (Value.int .i64) (show k = k + 4 * ((0 : Nat) : Int) by omega), rfl, trivial⟩ rfl ⟨rfl, Nat.zero_le _, by simpa [mkRow] using hO, Pr.refl _ _⟩ ?_
 rintro m i ρ0 st' ⟨rfl, hi, hO0, hP0⟩
 iterate 2 refine ⟨_, rfl, ?_⟩
 rintro (_|_) h1
 ·replace h1 : ¬ ((i : Int) < (l.length : Int)) := of_decide_eq_false h1
  refine AW.cut lo0 st' [(0, vS p l.length), (1, vI (k + 4 * (i : Int))), (5, vI (i : Int)), (9, vB false)] ⟨rfl, rfl, rfl, rfl, trivial⟩ fun ρ0 => ?_
  refine cxs ?_
  refine cxs ?_
  have hil : i = l.length := by omega
  subst hil
  rw [List.drop_length, List.append_nil] at hO0
  exact ⟨.inl rfl, _, rfl, rfl, hO0, hP0⟩
 ·replace h1 : (i : Int) < (l.length : Int) := of_decide_eq_true h1
  refine AW.cut lo0 st' [(0, vS p l.length), (1, vI (k + 4 * (i : Int))), (5, vI (i : Int)), (9, vB true)] ⟨rfl, rfl, rfl, rfl, trivial⟩ fun ρ0 => ?_
  have h1' := Int.ofNat_lt.1 h1
  have hlen : i < (mkRow mkSes 4 i k ++ l.drop i).length := by rw [List.length_append, mkRow_len, List.length_drop]; omega
  have ⟨a, ha⟩ := hO0.some (by omega)
  obtain ⟨w, hw⟩ : ∃ w, (mkRow mkSes 4 i k ++ l.drop i)[i]? = some w := ⟨_, List.getElem?_eq_getElem hlen⟩
  have hset := mkRow_set (mk := mkSes) (z := 4) (k := k) h1'
  refine cxs ?_
  refine ⟨_, op_idx (j := (i : Int)) (n := l.length) (q := ⟨a, 0, none⟩) rfl (congrArg (fun u => vS u l.length) ha) rfl rfl rfl (Int.natCast_nonneg _) h1, ?_⟩
  refine ⟨_, rfl, ?_⟩
  refine op_putc (z := 4) (i := 0) (st := st') (f := cSess) (j := i) (l := (mkRow mkSes 4 i k ++ l.drop i)) (w := w) (y := ((⟨(k + 4 * (i : Int)), w.num, w.inn, w.age⟩ : Ses) : Ses)) (p := p) (d := 0 + i * 4 + 0) rfl rfl (by omega) rfl rfl len_cSess rfl rfl hw (by decide) rfl hO0 ha ?_
  intro s1 hO1 hP1 hn1
  have hQ1 : Pr p st s1 := hP0.trans hP1
  refine AW.cut lo0 s1 [(0, vS p l.length), (1, vI (k + 4 * (i : Int))), (5, vI (i : Int)), (9, vB true)] ⟨rfl, rfl, rfl, rfl, trivial⟩ fun ρ0 => ?_
  have e18 : IntKind.wrap .i64 (k + 4 * (i : Int) + 1) = k + 4 * (i : Int) + 1 := (wrap_i64 (by omega) (by omega)).trans (by omega)
  refine ⟨_, rfl, ?_⟩
  refine AW.cut lo0 s1 [(0, vS p l.length), (1, vI (k + 4 * (i : Int) + 1)), (5, vI (i : Int)), (9, vB true)] ⟨rfl, congrArg (Value.int .i64) e18, rfl, rfl, trivial⟩ fun ρ0 => ?_
  refine ⟨_, op_idx (j := (i : Int)) (n := l.length) (q := ⟨a, 0, none⟩) rfl (congrArg (fun u => vS u l.length) ha) rfl rfl rfl (Int.natCast_nonneg _) h1, ?_⟩
  refine ⟨_, rfl, ?_⟩
  refine op_putc (z := 4) (i := 1) (st := s1) (f := cSess) (j := i) (l := ((mkRow mkSes 4 i k ++ l.drop i).set i (⟨(k + 4 * (i : Int)), w.num, w.inn, w.age⟩ : Ses))) (w := (⟨(k + 4 * (i : Int)), w.num, w.inn, w.age⟩ : Ses)) (y := ((⟨(k + 4 * (i : Int)), (k + 4 * (i : Int)) + 1, w.inn, w.age⟩ : Ses) : Ses)) (p := p) (d := 0 + i * 4 + 1) rfl rfl (by omega) rfl rfl len_cSess rfl rfl (getElem?_set_same hlen) (by decide) rfl hO1 ha ?_
  intro s2 hO2 hP2 hn2
  rw [set_set] at hO2
  have hQ2 : Pr p st s2 := hQ1.trans hP2
  refine AW.cut lo0 s2 [(0, vS p l.length), (1, vI (k + 4 * (i : Int) + 1)), (5, vI (i : Int)), (9, vB true)] ⟨rfl, rfl, rfl, rfl, trivial⟩ fun ρ0 => ?_
  have e25 : IntKind.wrap .i64 (k + 4 * (i : Int) + 1 + 1) = k + 4 * (i : Int) + 2 := (wrap_i64 (by omega) (by omega)).trans (by omega)
  refine ⟨_, rfl, ?_⟩
  refine AW.cut lo0 s2 [(0, vS p l.length), (1, vI (k + 4 * (i : Int) + 2)), (5, vI (i : Int)), (9, vB true)] ⟨rfl, congrArg (Value.int .i64) e25, rfl, rfl, trivial⟩ fun ρ0 => ?_
  refine ⟨_, op_rem rfl rfl rfl (by decide), ?_⟩
  refine ⟨_, rfl, ?_⟩
  rintro _ rfl
  refine ⟨_, op_idx (j := (i : Int)) (n := l.length) (q := ⟨a, 0, none⟩) rfl (congrArg (fun u => vS u l.length) ha) rfl rfl rfl (Int.natCast_nonneg _) h1, ?_⟩
  refine ⟨_, rfl, ?_⟩
  refine op_putc (z := 4) (i := 2) (st := s2) (f := cSess) (j := i) (l := ((mkRow mkSes 4 i k ++ l.drop i).set i (⟨(k + 4 * (i : Int)), (k + 4 * (i : Int)) + 1, w.inn, w.age⟩ : Ses))) (w := (⟨(k + 4 * (i : Int)), (k + 4 * (i : Int)) + 1, w.inn, w.age⟩ : Ses)) (y := ((⟨(k + 4 * (i : Int)), (k + 4 * (i : Int)) + 1, ((k + 4 * (i : Int)) + 2).tmod 3 == 0, w.age⟩ : Ses) : Ses)) (p := p) (d := 0 + i * 4 + 2) rfl rfl (by omega) rfl rfl len_cSess rfl rfl (getElem?_set_same hlen) (by decide) rfl hO2 ha ?_
  intro s3 hO3 hP3 hn3
  rw [set_set] at hO3
  have hQ3 : Pr p st s3 := hQ2.trans hP3
  refine AW.cut lo0 s3 [(0, vS p l.length), (1, vI (k + 4 * (i : Int) + 2)), (5, vI (i : Int)), (9, vB true)] ⟨rfl, rfl, rfl, rfl, trivial⟩ fun ρ0 => ?_
  have e34 : IntKind.wrap .i64 (k + 4 * (i : Int) + 2 + 1) = k + 4 * (i : Int) + 3 := (wrap_i64 (by omega) (by omega)).trans (by omega)
  refine ⟨_, rfl, ?_⟩
  refine AW.cut lo0 s3 [(0, vS p l.length), (1, vI (k + 4 * (i : Int) + 3)), (5, vI (i : Int)), (9, vB true)] ⟨rfl, congrArg (Value.int .i64) e34, rfl, rfl, trivial⟩ fun ρ0 => ?_
  refine ⟨_, op_idx (j := (i : Int)) (n := l.length) (q := ⟨a, 0, none⟩) rfl (congrArg (fun u => vS u l.length) ha) rfl rfl rfl (Int.natCast_nonneg _) h1, ?_⟩
  refine ⟨_, rfl, ?_⟩
  refine op_putc (z := 4) (i := 3) (st := s3) (f := cSess) (j := i) (l := ((mkRow mkSes 4 i k ++ l.drop i).set i (⟨(k + 4 * (i : Int)), (k + 4 * (i : Int)) + 1, ((k + 4 * (i : Int)) + 2).tmod 3 == 0, w.age⟩ : Ses))) (w := (⟨(k + 4 * (i : Int)), (k + 4 * (i : Int)) + 1, ((k + 4 * (i : Int)) + 2).tmod 3 == 0, w.age⟩ : Ses)) (y := ((⟨(k + 4 * (i : Int)), (k + 4 * (i : Int)) + 1, ((k + 4 * (i : Int)) + 2).tmod 3 == 0, (k + 4 * (i : Int)) + 3⟩ : Ses) : Ses)) (p := p) (d := 0 + i * 4 + 3) rfl rfl (by omega) rfl rfl len_cSess rfl rfl (getElem?_set_same hlen) (by decide) rfl hO3 ha ?_
  intro s4 hO4 hP4 hn4
  rw [set_set] at hO4
  have hQ4 : Pr p st s4 := hQ3.trans hP4
  refine AW.cut lo0 s4 [(0, vS p l.length), (1, vI (k + 4 * (i : Int) + 3)), (5, vI (i : Int)), (9, vB true)] ⟨rfl, rfl, rfl, rfl, trivial⟩ fun ρ0 => ?_
  have e41 : IntKind.wrap .i64 (k + 4 * (i : Int) + 3 + 1) = k + 4 * ((i + 1 : Nat) : Int) := (wrap_i64 (by omega) (by omega)).trans (by omega)
  refine ⟨_, rfl, ?_⟩
  refine AW.cut lo0 s4 [(0, vS p l.length), (1, vI (k + 4 * ((i + 1 : Nat) : Int))), (5, vI (i : Int)), (9, vB true)] ⟨rfl, congrArg (Value.int .i64) e41, rfl, rfl, trivial⟩ fun ρ0 => ?_
  have e11 : IntKind.wrap .i64 ((i : Int) + 1) = ((i + 1 : Nat) : Int) := (wrap_i64 (by omega) (by omega)).trans (by omega)
  refine ⟨_, rfl, ?_⟩
  exact ⟨i + 1, l.length - (i + 1), by omega, ⟨rfl, rfl, congrArg (Value.int .i64) e11, trivial⟩, rfl, rfl, h1', (show OwnR s4 4 cSess p (mkRow mkSes 4 (i + 1) k ++ l.drop (i + 1)) by rw [← hset]; exact hO4), hQ4⟩
theorem ac_laws_heldSessS (p : Option Addr) (n : Nat) (k : Int) (st : St) (hR : Rows st 4 cSess p (mkRow mkSes 4 n k)) (hs : szOk n) (h0 : 0 ≤ k) (hk : k ≤ 549755813888) : C 82 [vS p n, vI k] st (fun v s => v = vI (k + 4 * (n : Int)) ∧ Pres st s) := by
 have hs : n ≤ 1048576 := hs
 refine AC.enterX (i := ⟨[], [], [0, 1, 4, 5, 9, 18, 27, 38, 47]⟩) [] Tryz.func82 rfl rfl (by kernel_rfl) (by kernel_rfl) Tryz.ntmps82 (Nat.le_of_ble_eq_true rfl) rfl ?_
 refine cxs ?_
 refine AW.cut lo0 st [(0, vS p n), (1, vI k), (4, vI (0)), (5, vI (0))] ⟨rfl, rfl, rfl, rfl, trivial⟩ fun ρ0 => ?_
 refine AW.loop0 (fun i : Nat => [(0, vS p n), (1, vI (k + 4 * (i : Int))), (5, vI (i : Int))]) (fun m (i : Nat) st' => m = n - i ∧ i ≤ n ∧ Pres st st') 0 _ ⟨rfl, congrArg (Value.int .i64) (show k = k + 4 * ((0 : Nat) : Int) by omega), rfl, trivial⟩ rfl ⟨rfl, Nat.zero_le _, Pres.refl _⟩ ?_
 rintro m i ρ0 st' ⟨rfl, hi, hP⟩
 iterate 2 refine ⟨_, rfl, ?_⟩
 rintro (_|_) h1
 ·replace h1 : ¬ ((i : Int) < (n : Int)) := of_decide_eq_false h1
  refine AW.cut lo0 st' [(0, vS p n), (1, vI (k + 4 * (i : Int))), (5, vI (i : Int)), (9, vB false)] ⟨rfl, rfl, rfl, rfl, trivial⟩ fun ρ0 => ?_
  refine cxs ?_
  refine cxs ?_
  have hil : i = n := by omega
  subst hil
  exact ⟨.inl rfl, _, rfl, rfl, hP⟩
 ·replace h1 : (i : Int) < (n : Int) := of_decide_eq_true h1
  refine AW.cut lo0 st' [(0, vS p n), (1, vI (k + 4 * (i : Int))), (5, vI (i : Int)), (9, vB true)] ⟨rfl, rfl, rfl, rfl, trivial⟩ fun ρ0 => ?_
  have h1' := Int.ofNat_lt.1 h1
  have ⟨b1, o1, k1, x, hpe, hx, hm1, hc1, hb1⟩ := (hP.rows hR).atB (j := i) (by rw [mkRow_len]; exact h1')
  have hx := mkRow_get hx
  have hc1 : (k1.cells.drop (o1 + i * 4)).take 4 = cSess (mkSes (k + 4 * (i : Int))) := by rw [hc1, hx]; rfl
  refine cxs ?_
  refine ⟨_, op_idx (j := (i : Int)) (n := n) (q := ⟨b1, o1, none⟩) rfl (congrArg (fun u => vS u n) hpe) rfl rfl rfl (Int.natCast_nonneg _) h1, ?_⟩
  refine ⟨_, rfl, ?_⟩
  refine ⟨_, op_ldc (i := 0) rfl rfl rfl rfl hm1 hc1 rfl rfl, ?_⟩
  refine ⟨_, rfl, ?_⟩
  rintro (_|_) h18
  rotate_left
  ·exact absurd (rfl) (bne_iff_ne.1 h18)
  refine AW.cut lo0 st' [(0, vS p n), (1, vI (k + 4 * (i : Int))), (5, vI (i : Int)), (9, vB true), (18, vB false)] ⟨rfl, rfl, rfl, rfl, rfl, trivial⟩ fun ρ0 => ?_
  refine cxs ?_
  have e20 : IntKind.wrap .i64 (k + 4 * (i : Int) + 1) = k + 4 * (i : Int) + 1 := (wrap_i64 (by omega) (by omega)).trans (by omega)
  refine ⟨_, rfl, ?_⟩
  refine AW.cut lo0 st' [(0, vS p n), (1, vI (k + 4 * (i : Int) + 1)), (5, vI (i : Int)), (9, vB true), (18, vB false)] ⟨rfl, congrArg (Value.int .i64) e20, rfl, rfl, rfl, trivial⟩ fun ρ0 => ?_
  refine ⟨_, op_idx (j := (i : Int)) (n := n) (q := ⟨b1, o1, none⟩) rfl (congrArg (fun u => vS u n) hpe) rfl rfl rfl (Int.natCast_nonneg _) h1, ?_⟩
  refine ⟨_, rfl, ?_⟩
  refine ⟨_, op_ldc (i := 1) rfl rfl rfl rfl hm1 hc1 rfl rfl, ?_⟩
  refine ⟨_, rfl, ?_⟩
  rintro (_|_) h27
  rotate_left
  ·exact absurd (rfl) (bne_iff_ne.1 h27)
  refine AW.cut lo0 st' [(0, vS p n), (1, vI (k + 4 * (i : Int) + 1)), (5, vI (i : Int)), (9, vB true), (18, vB false), (27, vB false)] ⟨rfl, rfl, rfl, rfl, rfl, rfl, trivial⟩ fun ρ0 => ?_
  refine cxs ?_
  have e29 : IntKind.wrap .i64 (k + 4 * (i : Int) + 1 + 1) = k + 4 * (i : Int) + 2 := (wrap_i64 (by omega) (by omega)).trans (by omega)
  refine ⟨_, rfl, ?_⟩
  refine AW.cut lo0 st' [(0, vS p n), (1, vI (k + 4 * (i : Int) + 2)), (5, vI (i : Int)), (9, vB true), (18, vB false), (27, vB false)] ⟨rfl, congrArg (Value.int .i64) e29, rfl, rfl, rfl, rfl, trivial⟩ fun ρ0 => ?_
  refine ⟨_, op_idx (j := (i : Int)) (n := n) (q := ⟨b1, o1, none⟩) rfl (congrArg (fun u => vS u n) hpe) rfl rfl rfl (Int.natCast_nonneg _) h1, ?_⟩
  refine ⟨_, rfl, ?_⟩
  refine ⟨_, op_ldc (i := 2) rfl rfl rfl rfl hm1 hc1 rfl rfl, ?_⟩
  refine ⟨_, op_rem rfl rfl rfl (by decide), ?_⟩
  refine ⟨_, rfl, ?_⟩
  rintro _ rfl
  refine ⟨_, rfl, ?_⟩
  rintro (_|_) h38
  rotate_left
  ·exact absurd (rfl) (b_ne h38)
  refine AW.cut lo0 st' [(0, vS p n), (1, vI (k + 4 * (i : Int) + 2)), (5, vI (i : Int)), (9, vB true), (18, vB false), (27, vB false), (38, vB false)] ⟨rfl, rfl, rfl, rfl, rfl, rfl, rfl, trivial⟩ fun ρ0 => ?_
  refine cxs ?_
  have e40 : IntKind.wrap .i64 (k + 4 * (i : Int) + 2 + 1) = k + 4 * (i : Int) + 3 := (wrap_i64 (by omega) (by omega)).trans (by omega)
  refine ⟨_, rfl, ?_⟩
  refine AW.cut lo0 st' [(0, vS p n), (1, vI (k + 4 * (i : Int) + 3)), (5, vI (i : Int)), (9, vB true), (18, vB false), (27, vB false), (38, vB false)] ⟨rfl, congrArg (Value.int .i64) e40, rfl, rfl, rfl, rfl, rfl, trivial⟩ fun ρ0 => ?_
  refine ⟨_, op_idx (j := (i : Int)) (n := n) (q := ⟨b1, o1, none⟩) rfl (congrArg (fun u => vS u n) hpe) rfl rfl rfl (Int.natCast_nonneg _) h1, ?_⟩
  refine ⟨_, rfl, ?_⟩
  refine ⟨_, op_ldc (i := 3) rfl rfl rfl rfl hm1 hc1 rfl rfl, ?_⟩
  refine ⟨_, rfl, ?_⟩
  rintro (_|_) h47
  rotate_left
  ·exact absurd (rfl) (bne_iff_ne.1 h47)
  refine AW.cut lo0 st' [(0, vS p n), (1, vI (k + 4 * (i : Int) + 3)), (5, vI (i : Int)), (9, vB true), (18, vB false), (27, vB false), (38, vB false), (47, vB false)] ⟨rfl, rfl, rfl, rfl, rfl, rfl, rfl, rfl, trivial⟩ fun ρ0 => ?_
  refine cxs ?_
  have e49 : IntKind.wrap .i64 (k + 4 * (i : Int) + 3 + 1) = k + 4 * ((i + 1 : Nat) : Int) := (wrap_i64 (by omega) (by omega)).trans (by omega)
  refine ⟨_, rfl, ?_⟩
  refine AW.cut lo0 st' [(0, vS p n), (1, vI (k + 4 * ((i + 1 : Nat) : Int))), (5, vI (i : Int)), (9, vB true), (18, vB false), (27, vB false), (38, vB false), (47, vB false)] ⟨rfl, congrArg (Value.int .i64) e49, rfl, rfl, rfl, rfl, rfl, rfl, trivial⟩ fun ρ0 => ?_
  have e11 : IntKind.wrap .i64 ((i : Int) + 1) = ((i + 1 : Nat) : Int) := (wrap_i64 (by omega) (by omega)).trans (by omega)
  refine ⟨_, rfl, ?_⟩
  exact ⟨i + 1, n - (i + 1), by omega, ⟨rfl, rfl, congrArg (Value.int .i64) e11, trivial⟩, rfl, rfl, h1', hP⟩
theorem ac_laws_markRiseS (p : Option Addr) (l : List Ris) (k : Int) (st : St) (hO : OwnR st 3 cRise p l) (hs : szOk l.length) (h0 : 0 ≤ k) (hk : k ≤ 549755813888) : C 67 [vS p l.length, vI k] st (fun v s => v = vI (k + 3 * (l.length : Int)) ∧ OwnR s 3 cRise p (mkRow mkRis 3 l.length k) ∧ Pr p st s) := by
 have hs : l.length ≤ 1048576 := hs
 refine AC.enterX (i := ⟨[], [], [0, 1, 4, 5, 9]⟩) [] Tryz.func67 rfl rfl (by kernel_rfl) (by kernel_rfl) Tryz.ntmps67 (Nat.le_of_ble_eq_true rfl) rfl ?_
 refine cxs ?_
 refine AW.cut lo0 st [(0, vS p l.length), (1, vI k), (4, vI (0)), (5, vI (0))] ⟨rfl, rfl, rfl, rfl, trivial⟩ fun ρ0 => ?_
 refine AW.loop0 (fun i : Nat => [(0, vS p l.length), (1, vI (k + 3 * (i : Int))), (5, vI (i : Int))]) (fun m (i : Nat) st' => m = l.length - i ∧ i ≤ l.length ∧ OwnR st' 3 cRise p (mkRow mkRis 3 i k ++ l.drop i) ∧ Pr p st st') 0 _ ⟨rfl, congrArg (Value.int .i64) (show k = k + 3 * ((0 : Nat) : Int) by omega), rfl, trivial⟩ rfl ⟨rfl, Nat.zero_le _, by simpa [mkRow] using hO, Pr.refl _ _⟩ ?_
 rintro m i ρ0 st' ⟨rfl, hi, hO0, hP0⟩
 iterate 2 refine ⟨_, rfl, ?_⟩
 rintro (_|_) h1
 ·replace h1 : ¬ ((i : Int) < (l.length : Int)) := of_decide_eq_false h1
  refine AW.cut lo0 st' [(0, vS p l.length), (1, vI (k + 3 * (i : Int))), (5, vI (i : Int)), (9, vB false)] ⟨rfl, rfl, rfl, rfl, trivial⟩ fun ρ0 => ?_
  refine cxs ?_
  refine cxs ?_
  have hil : i = l.length := by omega
  subst hil
  rw [List.drop_length, List.append_nil] at hO0
  exact ⟨.inl rfl, _, rfl, rfl, hO0, hP0⟩
 ·replace h1 : (i : Int) < (l.length : Int) := of_decide_eq_true h1
  refine AW.cut lo0 st' [(0, vS p l.length), (1, vI (k + 3 * (i : Int))), (5, vI (i : Int)), (9, vB true)] ⟨rfl, rfl, rfl, rfl, trivial⟩ fun ρ0 => ?_
  have h1' := Int.ofNat_lt.1 h1
  have hlen : i < (mkRow mkRis 3 i k ++ l.drop i).length := by rw [List.length_append, mkRow_len, List.length_drop]; omega
  have ⟨a, ha⟩ := hO0.some (by omega)
  obtain ⟨w, hw⟩ : ∃ w, (mkRow mkRis 3 i k ++ l.drop i)[i]? = some w := ⟨_, List.getElem?_eq_getElem hlen⟩
  have hset := mkRow_set (mk := mkRis) (z := 3) (k := k) h1'
  refine cxs ?_
  refine ⟨_, op_idx (j := (i : Int)) (n := l.length) (q := ⟨a, 0, none⟩) rfl (congrArg (fun u => vS u l.length) ha) rfl rfl rfl (Int.natCast_nonneg _) h1, ?_⟩
  refine ⟨_, rfl, ?_⟩
  refine op_putc (z := 3) (i := 0) (st := st') (f := cRise) (j := i) (l := (mkRow mkRis 3 i k ++ l.drop i)) (w := w) (y := ((⟨(k + 3 * (i : Int)), w.beat, w.tick⟩ : Ris) : Ris)) (p := p) (d := 0 + i * 3 + 0) rfl rfl (by omega) rfl rfl len_cRise rfl rfl hw (by decide) rfl hO0 ha ?_
  intro s1 hO1 hP1 hn1
  have hQ1 : Pr p st s1 := hP0.trans hP1
  refine AW.cut lo0 s1 [(0, vS p l.length), (1, vI (k + 3 * (i : Int))), (5, vI (i : Int)), (9, vB true)] ⟨rfl, rfl, rfl, rfl, trivial⟩ fun ρ0 => ?_
  have e18 : IntKind.wrap .i64 (k + 3 * (i : Int) + 1) = k + 3 * (i : Int) + 1 := (wrap_i64 (by omega) (by omega)).trans (by omega)
  refine ⟨_, rfl, ?_⟩
  refine AW.cut lo0 s1 [(0, vS p l.length), (1, vI (k + 3 * (i : Int) + 1)), (5, vI (i : Int)), (9, vB true)] ⟨rfl, congrArg (Value.int .i64) e18, rfl, rfl, trivial⟩ fun ρ0 => ?_
  refine ⟨_, op_idx (j := (i : Int)) (n := l.length) (q := ⟨a, 0, none⟩) rfl (congrArg (fun u => vS u l.length) ha) rfl rfl rfl (Int.natCast_nonneg _) h1, ?_⟩
  refine ⟨_, rfl, ?_⟩
  refine op_putc (z := 3) (i := 1) (st := s1) (f := cRise) (j := i) (l := ((mkRow mkRis 3 i k ++ l.drop i).set i (⟨(k + 3 * (i : Int)), w.beat, w.tick⟩ : Ris))) (w := (⟨(k + 3 * (i : Int)), w.beat, w.tick⟩ : Ris)) (y := ((⟨(k + 3 * (i : Int)), (k + 3 * (i : Int)) + 1, w.tick⟩ : Ris) : Ris)) (p := p) (d := 0 + i * 3 + 1) rfl rfl (by omega) rfl rfl len_cRise rfl rfl (getElem?_set_same hlen) (by decide) rfl hO1 ha ?_
  intro s2 hO2 hP2 hn2
  rw [set_set] at hO2
  have hQ2 : Pr p st s2 := hQ1.trans hP2
  refine AW.cut lo0 s2 [(0, vS p l.length), (1, vI (k + 3 * (i : Int) + 1)), (5, vI (i : Int)), (9, vB true)] ⟨rfl, rfl, rfl, rfl, trivial⟩ fun ρ0 => ?_
  have e25 : IntKind.wrap .i64 (k + 3 * (i : Int) + 1 + 1) = k + 3 * (i : Int) + 2 := (wrap_i64 (by omega) (by omega)).trans (by omega)
  refine ⟨_, rfl, ?_⟩
  refine AW.cut lo0 s2 [(0, vS p l.length), (1, vI (k + 3 * (i : Int) + 2)), (5, vI (i : Int)), (9, vB true)] ⟨rfl, congrArg (Value.int .i64) e25, rfl, rfl, trivial⟩ fun ρ0 => ?_
  refine ⟨_, op_idx (j := (i : Int)) (n := l.length) (q := ⟨a, 0, none⟩) rfl (congrArg (fun u => vS u l.length) ha) rfl rfl rfl (Int.natCast_nonneg _) h1, ?_⟩
  refine ⟨_, rfl, ?_⟩
  refine op_putc (z := 3) (i := 2) (st := s2) (f := cRise) (j := i) (l := ((mkRow mkRis 3 i k ++ l.drop i).set i (⟨(k + 3 * (i : Int)), (k + 3 * (i : Int)) + 1, w.tick⟩ : Ris))) (w := (⟨(k + 3 * (i : Int)), (k + 3 * (i : Int)) + 1, w.tick⟩ : Ris)) (y := ((⟨(k + 3 * (i : Int)), (k + 3 * (i : Int)) + 1, (k + 3 * (i : Int)) + 2⟩ : Ris) : Ris)) (p := p) (d := 0 + i * 3 + 2) rfl rfl (by omega) rfl rfl len_cRise rfl rfl (getElem?_set_same hlen) (by decide) rfl hO2 ha ?_
  intro s3 hO3 hP3 hn3
  rw [set_set] at hO3
  have hQ3 : Pr p st s3 := hQ2.trans hP3
  refine AW.cut lo0 s3 [(0, vS p l.length), (1, vI (k + 3 * (i : Int) + 2)), (5, vI (i : Int)), (9, vB true)] ⟨rfl, rfl, rfl, rfl, trivial⟩ fun ρ0 => ?_
  have e32 : IntKind.wrap .i64 (k + 3 * (i : Int) + 2 + 1) = k + 3 * ((i + 1 : Nat) : Int) := (wrap_i64 (by omega) (by omega)).trans (by omega)
  refine ⟨_, rfl, ?_⟩
  refine AW.cut lo0 s3 [(0, vS p l.length), (1, vI (k + 3 * ((i + 1 : Nat) : Int))), (5, vI (i : Int)), (9, vB true)] ⟨rfl, congrArg (Value.int .i64) e32, rfl, rfl, trivial⟩ fun ρ0 => ?_
  have e11 : IntKind.wrap .i64 ((i : Int) + 1) = ((i + 1 : Nat) : Int) := (wrap_i64 (by omega) (by omega)).trans (by omega)
  refine ⟨_, rfl, ?_⟩
  exact ⟨i + 1, l.length - (i + 1), by omega, ⟨rfl, rfl, congrArg (Value.int .i64) e11, trivial⟩, rfl, rfl, h1', (show OwnR s3 3 cRise p (mkRow mkRis 3 (i + 1) k ++ l.drop (i + 1)) by rw [← hset]; exact hO3), hQ3⟩
theorem ac_laws_heldRiseS (p : Option Addr) (n : Nat) (k : Int) (st : St) (hR : Rows st 3 cRise p (mkRow mkRis 3 n k)) (hs : szOk n) (h0 : 0 ≤ k) (hk : k ≤ 549755813888) : C 83 [vS p n, vI k] st (fun v s => v = vI (k + 3 * (n : Int)) ∧ Pres st s) := by
 have hs : n ≤ 1048576 := hs
 refine AC.enterX (i := ⟨[], [], [0, 1, 4, 5, 9, 18, 27, 36]⟩) [] Tryz.func83 rfl rfl (by kernel_rfl) (by kernel_rfl) Tryz.ntmps83 (Nat.le_of_ble_eq_true rfl) rfl ?_
 refine cxs ?_
 refine AW.cut lo0 st [(0, vS p n), (1, vI k), (4, vI (0)), (5, vI (0))] ⟨rfl, rfl, rfl, rfl, trivial⟩ fun ρ0 => ?_
 refine AW.loop0 (fun i : Nat => [(0, vS p n), (1, vI (k + 3 * (i : Int))), (5, vI (i : Int))]) (fun m (i : Nat) st' => m = n - i ∧ i ≤ n ∧ Pres st st') 0 _ ⟨rfl, congrArg (Value.int .i64) (show k = k + 3 * ((0 : Nat) : Int) by omega), rfl, trivial⟩ rfl ⟨rfl, Nat.zero_le _, Pres.refl _⟩ ?_
 rintro m i ρ0 st' ⟨rfl, hi, hP⟩
 iterate 2 refine ⟨_, rfl, ?_⟩
 rintro (_|_) h1
 ·replace h1 : ¬ ((i : Int) < (n : Int)) := of_decide_eq_false h1
  refine AW.cut lo0 st' [(0, vS p n), (1, vI (k + 3 * (i : Int))), (5, vI (i : Int)), (9, vB false)] ⟨rfl, rfl, rfl, rfl, trivial⟩ fun ρ0 => ?_
  refine cxs ?_
  refine cxs ?_
  have hil : i = n := by omega
  subst hil
  exact ⟨.inl rfl, _, rfl, rfl, hP⟩
 ·replace h1 : (i : Int) < (n : Int) := of_decide_eq_true h1
  refine AW.cut lo0 st' [(0, vS p n), (1, vI (k + 3 * (i : Int))), (5, vI (i : Int)), (9, vB true)] ⟨rfl, rfl, rfl, rfl, trivial⟩ fun ρ0 => ?_
  have h1' := Int.ofNat_lt.1 h1
  have ⟨b1, o1, k1, x, hpe, hx, hm1, hc1, hb1⟩ := (hP.rows hR).atB (j := i) (by rw [mkRow_len]; exact h1')
  have hx := mkRow_get hx
  have hc1 : (k1.cells.drop (o1 + i * 3)).take 3 = cRise (mkRis (k + 3 * (i : Int))) := by rw [hc1, hx]; rfl
  refine cxs ?_
  refine ⟨_, op_idx (j := (i : Int)) (n := n) (q := ⟨b1, o1, none⟩) rfl (congrArg (fun u => vS u n) hpe) rfl rfl rfl (Int.natCast_nonneg _) h1, ?_⟩
  refine ⟨_, rfl, ?_⟩
  refine ⟨_, op_ldc (i := 0) rfl rfl rfl rfl hm1 hc1 rfl rfl, ?_⟩
  refine ⟨_, rfl, ?_⟩
  rintro (_|_) h18
  rotate_left
  ·exact absurd (rfl) (bne_iff_ne.1 h18)
  refine AW.cut lo0 st' [(0, vS p n), (1, vI (k + 3 * (i : Int))), (5, vI (i : Int)), (9, vB true), (18, vB false)] ⟨rfl, rfl, rfl, rfl, rfl, trivial⟩ fun ρ0 => ?_
  refine cxs ?_
  have e20 : IntKind.wrap .i64 (k + 3 * (i : Int) + 1) = k + 3 * (i : Int) + 1 := (wrap_i64 (by omega) (by omega)).trans (by omega)
  refine ⟨_, rfl, ?_⟩
  refine AW.cut lo0 st' [(0, vS p n), (1, vI (k + 3 * (i : Int) + 1)), (5, vI (i : Int)), (9, vB true), (18, vB false)] ⟨rfl, congrArg (Value.int .i64) e20, rfl, rfl, rfl, trivial⟩ fun ρ0 => ?_
  refine ⟨_, op_idx (j := (i : Int)) (n := n) (q := ⟨b1, o1, none⟩) rfl (congrArg (fun u => vS u n) hpe) rfl rfl rfl (Int.natCast_nonneg _) h1, ?_⟩
  refine ⟨_, rfl, ?_⟩
  refine ⟨_, op_ldc (i := 1) rfl rfl rfl rfl hm1 hc1 rfl rfl, ?_⟩
  refine ⟨_, rfl, ?_⟩
  rintro (_|_) h27
  rotate_left
  ·exact absurd (rfl) (bne_iff_ne.1 h27)
  refine AW.cut lo0 st' [(0, vS p n), (1, vI (k + 3 * (i : Int) + 1)), (5, vI (i : Int)), (9, vB true), (18, vB false), (27, vB false)] ⟨rfl, rfl, rfl, rfl, rfl, rfl, trivial⟩ fun ρ0 => ?_
  refine cxs ?_
  have e29 : IntKind.wrap .i64 (k + 3 * (i : Int) + 1 + 1) = k + 3 * (i : Int) + 2 := (wrap_i64 (by omega) (by omega)).trans (by omega)
  refine ⟨_, rfl, ?_⟩
  refine AW.cut lo0 st' [(0, vS p n), (1, vI (k + 3 * (i : Int) + 2)), (5, vI (i : Int)), (9, vB true), (18, vB false), (27, vB false)] ⟨rfl, congrArg (Value.int .i64) e29, rfl, rfl, rfl, rfl, trivial⟩ fun ρ0 => ?_
  refine ⟨_, op_idx (j := (i : Int)) (n := n) (q := ⟨b1, o1, none⟩) rfl (congrArg (fun u => vS u n) hpe) rfl rfl rfl (Int.natCast_nonneg _) h1, ?_⟩
  refine ⟨_, rfl, ?_⟩
  refine ⟨_, op_ldc (i := 2) rfl rfl rfl rfl hm1 hc1 rfl rfl, ?_⟩
  refine ⟨_, rfl, ?_⟩
  rintro (_|_) h36
  rotate_left
  ·exact absurd (rfl) (bne_iff_ne.1 h36)
  refine AW.cut lo0 st' [(0, vS p n), (1, vI (k + 3 * (i : Int) + 2)), (5, vI (i : Int)), (9, vB true), (18, vB false), (27, vB false), (36, vB false)] ⟨rfl, rfl, rfl, rfl, rfl, rfl, rfl, trivial⟩ fun ρ0 => ?_
  refine cxs ?_
  have e38 : IntKind.wrap .i64 (k + 3 * (i : Int) + 2 + 1) = k + 3 * ((i + 1 : Nat) : Int) := (wrap_i64 (by omega) (by omega)).trans (by omega)
  refine ⟨_, rfl, ?_⟩
  refine AW.cut lo0 st' [(0, vS p n), (1, vI (k + 3 * ((i + 1 : Nat) : Int))), (5, vI (i : Int)), (9, vB true), (18, vB false), (27, vB false), (36, vB false)] ⟨rfl, congrArg (Value.int .i64) e38, rfl, rfl, rfl, rfl, rfl, trivial⟩ fun ρ0 => ?_
  have e11 : IntKind.wrap .i64 ((i : Int) + 1) = ((i + 1 : Nat) : Int) := (wrap_i64 (by omega) (by omega)).trans (by omega)
  refine ⟨_, rfl, ?_⟩
  exact ⟨i + 1, n - (i + 1), by omega, ⟨rfl, rfl, congrArg (Value.int .i64) e11, trivial⟩, rfl, rfl, h1', hP⟩
def mkSesR (g : SesV) (k : Int) : SesV := ⟨g.p, mkRow mkSes 4 g.l.length k⟩
theorem mkp_SesR (g : SesV) (k : Int) : (pcSes (mkSesR g k)).map (·.p) = (pcSes g).map (·.p) := rfl
theorem uc_markSessS (u : SesV) (k : Int) (st : St) (hO : OwnP st (pcSes u)) (hb : szOk u.l.length) (h0 : 0 ≤ k) (hk : k ≤ 274877906944) : C 66 [vS u.p u.l.length, vI k] st (fun v s => v = vI (k + ((4 * u.l.length : Nat) : Int)) ∧ OwnP s (pcSes (mkSesR u k)) ∧ PrL ((pcSes u).map (·.p)) st s) :=
 (ac_laws_markSessS u.p u.l k st (own_one (by decide) len_cSess hO) hb h0 (by omega)).mono fun v s ⟨h1, h2, h3⟩ => ⟨h1.trans (congrArg (Value.int .i64) (by omega)), OwnP.one (own_pc h2), h3.l (List.mem_singleton_self _)⟩
theorem uc_heldSessS (u : SesV) (k : Int) (st : St) (hR : Rows st 4 cSess (mkSesR u k).p (mkSesR u k).l) (hb : szOk u.l.length) (h0 : 0 ≤ k) (hk : k ≤ 274877906944) : C 82 [vS u.p u.l.length, vI k] st (fun v s => v = vI (k + ((4 * u.l.length : Nat) : Int)) ∧ Pres st s) :=
 (ac_laws_heldSessS u.p u.l.length k st hR hb h0 (by omega)).mono fun v s ⟨h1, h2⟩ => ⟨h1.trans (congrArg (Value.int .i64) (by omega)), h2⟩
def mkRisR (g : RisV) (k : Int) : RisV := ⟨g.p, mkRow mkRis 3 g.l.length k⟩
theorem mkp_RisR (g : RisV) (k : Int) : (pcRis (mkRisR g k)).map (·.p) = (pcRis g).map (·.p) := rfl
theorem uc_markRiseS (u : RisV) (k : Int) (st : St) (hO : OwnP st (pcRis u)) (hb : szOk u.l.length) (h0 : 0 ≤ k) (hk : k ≤ 274877906944) : C 67 [vS u.p u.l.length, vI k] st (fun v s => v = vI (k + ((3 * u.l.length : Nat) : Int)) ∧ OwnP s (pcRis (mkRisR u k)) ∧ PrL ((pcRis u).map (·.p)) st s) :=
 (ac_laws_markRiseS u.p u.l k st (own_one (by decide) len_cRise hO) hb h0 (by omega)).mono fun v s ⟨h1, h2, h3⟩ => ⟨h1.trans (congrArg (Value.int .i64) (by omega)), OwnP.one (own_pc h2), h3.l (List.mem_singleton_self _)⟩
theorem uc_heldRiseS (u : RisV) (k : Int) (st : St) (hR : Rows st 3 cRise (mkRisR u k).p (mkRisR u k).l) (hb : szOk u.l.length) (h0 : 0 ≤ k) (hk : k ≤ 274877906944) : C 83 [vS u.p u.l.length, vI k] st (fun v s => v = vI (k + ((3 * u.l.length : Nat) : Int)) ∧ Pres st s) :=
 (ac_laws_heldRiseS u.p u.l.length k st hR hb h0 (by omega)).mono fun v s ⟨h1, h2⟩ => ⟨h1.trans (congrArg (Value.int .i64) (by omega)), h2⟩
theorem OwnP.rot {st : St} {a b : List Pc} (h : OwnP st (a ++ b)) : OwnP st (b ++ a) := h.perm List.perm_append_comm
def mkNode (u : NW) (k : Int) : NW := { u with s := mkState u.s k, t := mkTV u.t (k + (cntState u.s.x : Int)), g := mkLog u.g (k + (cntState u.s.x : Int) + (cntTV u.t.x : Int)), got := mkIs u.got (k + (cntState u.s.x : Int) + (cntTV u.t.x : Int) + (cntLog u.g.v.x : Int)), acked := mkIs u.acked (k + (cntState u.s.x : Int) + (cntTV u.t.x : Int) + (cntLog u.g.v.x : Int) + (cntIs u.got.l : Int)), seen := mkTT u.seen (k + (cntState u.s.x : Int) + (cntTV u.t.x : Int) + (cntLog u.g.v.x : Int) + (cntIs u.got.l : Int) + (cntIs u.acked.l : Int)), sess := mkSesR u.sess (k + (cntState u.s.x : Int) + (cntTV u.t.x : Int) + (cntLog u.g.v.x : Int) + (cntIs u.got.l : Int) + (cntIs u.acked.l : Int) + (cntTab u.seen.x : Int)), rises := mkRisR u.rises (k + (cntState u.s.x : Int) + (cntTV u.t.x : Int) + (cntLog u.g.v.x : Int) + (cntIs u.got.l : Int) + (cntIs u.acked.l : Int) + (cntTab u.seen.x : Int) + ((4 * u.sess.l.length : Nat) : Int)) }
theorem mkp_Node (u : NW) (k : Int) : (pcNW (mkNode u k)).map (·.p) = (pcNW u).map (·.p) :=
 map_app2 (mkp_State _ _) (map_app2 (mkp_TV _ _) (map_app2 (mkp_Log _ _) (map_app2 (mkp_Is _ _) (map_app2 (mkp_Is _ _) (map_app2 (mkp_TT _ _) (map_app2 (mkp_SesR _ _) (mkp_RisR _ _)))))))
theorem uc_markNode (u : NW) (k : Int) (st : St) (hO : OwnP st (pcNW u)) (hb : bigN u.x) (h0 : 0 ≤ k) (hk : k + (cntNode u.x : Int) ≤ 137438953472) : C 18 [.agg #[vI u.id, vI u.n, vS u.s.p u.s.x.items.length, vS u.s.q u.s.x.floors.length, vS u.t.p u.t.l.length, vI u.t.root, vI u.g.cap, vI u.g.frm, vS u.g.p u.g.l.length, vS u.got.p u.got.l.length, vS u.acked.p u.acked.l.length, vS u.seen.p u.seen.t.length, vI u.num, vI u.slots, vS u.sess.p u.sess.l.length, vI u.wait, vI u.limit, vI u.clock, vS u.rises.p u.rises.l.length], vI k] st (fun v s => v = vI (k + (cntNode u.x : Int)) ∧ OwnP s (pcNW (mkNode u k)) ∧ PrL ((pcNW u).map (·.p)) st s) := by
 have hc : cntNode u.x = cntState u.s.x + cntTV u.t.x + cntLog u.g.v.x + cntIs u.got.l + cntIs u.acked.l + cntTab u.seen.x + 4 * u.sess.l.length + 3 * u.rises.l.length := rfl
 refine AC.enterX (i := ⟨[2], [2, 5, 9, 13, 17, 21, 25, 29, 33], [0, 1, 2, 4]⟩) [] Tryz.func18 rfl rfl (by kernel_rfl) (by kernel_rfl) Tryz.ntmps18 (Nat.le_of_ble_eq_true rfl) rfl ?_
 refine ⟨_, rfl, ?_⟩
 refine AW.cutM (1) st [(1, vI k), (2, vL 2 0 (0)), (4, vI (0))] [(2, 0, cNV u.v)] ⟨rfl, rfl, rfl, trivial⟩ ⟨rfl, trivial⟩ rfl fun ρ0 ff => ?_
 refine ⟨_, rfl, ?_⟩
 refine ⟨_, op_ldo rfl rfl rfl rfl, ?_⟩
 refine ⟨_, rfl, (uc_markState u.s k st (OwnP.left hO) hb.s (by omega) (by omega)).mono ?_⟩
 rintro _ s8 ⟨rfl, hO8, hL8⟩
 refine AW.cutM (1) s8 [(1, vI (k + (cntState u.s.x : Int))), (2, vL 2 0 (0)), (4, vI (0))] [(2, 0, cNV u.v)] ⟨rfl, rfl, rfl, trivial⟩ ⟨rfl, trivial⟩ rfl fun ρ0 ff => ?_
 have hA8 : OwnP s8 (pcTV u.t ++ (pcLog u.g ++ (pcIs u.got ++ (pcIs u.acked ++ (pcTT u.seen ++ (pcSes u.sess ++ (pcRis u.rises ++ (pcS (mkState u.s k))))))))) := by
  have := (OwnP.markG hO hO8 (mkp_State _ _) hL8).rot
  simpa only [List.append_assoc] using this
 refine ⟨_, rfl, ?_⟩
 refine ⟨_, op_ldo rfl rfl rfl rfl, ?_⟩
 refine ⟨_, rfl, (uc_markTree u.t (k + (cntState u.s.x : Int)) s8 (OwnP.left hA8) hb.t (by omega) (by omega)).mono ?_⟩
 rintro _ s12 ⟨rfl, hO12, hL12⟩
 refine AW.cutM (1) s12 [(1, vI (k + (cntState u.s.x : Int) + (cntTV u.t.x : Int))), (2, vL 2 0 (0)), (4, vI (0))] [(2, 0, cNV u.v)] ⟨rfl, rfl, rfl, trivial⟩ ⟨rfl, trivial⟩ rfl fun ρ0 ff => ?_
 have hA12 : OwnP s12 (pcLog u.g ++ (pcIs u.got ++ (pcIs u.acked ++ (pcTT u.seen ++ (pcSes u.sess ++ (pcRis u.rises ++ (pcS (mkState u.s k) ++ (pcTV (mkTV u.t (k + (cntState u.s.x : Int))))))))))) := by
  have := (OwnP.markG hA8 hO12 (mkp_TV _ _) hL12).rot
  simpa only [List.append_assoc] using this
 refine ⟨_, rfl, ?_⟩
 refine ⟨_, op_ldo rfl rfl rfl rfl, ?_⟩
 refine ⟨_, rfl, (uc_markLog u.g (k + (cntState u.s.x : Int) + (cntTV u.t.x : Int)) s12 (OwnP.left hA12) hb.g (by omega) (by omega)).mono ?_⟩
 rintro _ s16 ⟨rfl, hO16, hL16⟩
 refine AW.cutM (1) s16 [(1, vI (k + (cntState u.s.x : Int) + (cntTV u.t.x : Int) + (cntLog u.g.v.x : Int))), (2, vL 2 0 (0)), (4, vI (0))] [(2, 0, cNV u.v)] ⟨rfl, rfl, rfl, trivial⟩ ⟨rfl, trivial⟩ rfl fun ρ0 ff => ?_
 have hA16 : OwnP s16 (pcIs u.got ++ (pcIs u.acked ++ (pcTT u.seen ++ (pcSes u.sess ++ (pcRis u.rises ++ (pcS (mkState u.s k) ++ (pcTV (mkTV u.t (k + (cntState u.s.x : Int))) ++ (pcLog (mkLog u.g (k + (cntState u.s.x : Int) + (cntTV u.t.x : Int))))))))))) := by
  have := (OwnP.markG hA12 hO16 (mkp_Log _ _) hL16).rot
  simpa only [List.append_assoc] using this
 refine ⟨_, rfl, ?_⟩
 refine ⟨_, op_ldo rfl rfl rfl rfl, ?_⟩
 refine ⟨_, rfl, (uc_markIntS u.got (k + (cntState u.s.x : Int) + (cntTV u.t.x : Int) + (cntLog u.g.v.x : Int)) s16 (OwnP.left hA16) hb.got (by omega) (by omega)).mono ?_⟩
 rintro _ s20 ⟨rfl, hO20, hL20⟩
 refine AW.cutM (1) s20 [(1, vI (k + (cntState u.s.x : Int) + (cntTV u.t.x : Int) + (cntLog u.g.v.x : Int) + (cntIs u.got.l : Int))), (2, vL 2 0 (0)), (4, vI (0))] [(2, 0, cNV u.v)] ⟨rfl, rfl, rfl, trivial⟩ ⟨rfl, trivial⟩ rfl fun ρ0 ff => ?_
 have hA20 : OwnP s20 (pcIs u.acked ++ (pcTT u.seen ++ (pcSes u.sess ++ (pcRis u.rises ++ (pcS (mkState u.s k) ++ (pcTV (mkTV u.t (k + (cntState u.s.x : Int))) ++ (pcLog (mkLog u.g (k + (cntState u.s.x : Int) + (cntTV u.t.x : Int))) ++ (pcIs (mkIs u.got (k + (cntState u.s.x : Int) + (cntTV u.t.x : Int) + (cntLog u.g.v.x : Int))))))))))) := by
  have := (OwnP.markG hA16 hO20 (mkp_Is _ _) hL20).rot
  simpa only [List.append_assoc] using this
 refine ⟨_, rfl, ?_⟩
 refine ⟨_, op_ldo rfl rfl rfl rfl, ?_⟩
 refine ⟨_, rfl, (uc_markIntS u.acked (k + (cntState u.s.x : Int) + (cntTV u.t.x : Int) + (cntLog u.g.v.x : Int) + (cntIs u.got.l : Int)) s20 (OwnP.left hA20) hb.acked (by omega) (by omega)).mono ?_⟩
 rintro _ s24 ⟨rfl, hO24, hL24⟩
 refine AW.cutM (1) s24 [(1, vI (k + (cntState u.s.x : Int) + (cntTV u.t.x : Int) + (cntLog u.g.v.x : Int) + (cntIs u.got.l : Int) + (cntIs u.acked.l : Int))), (2, vL 2 0 (0)), (4, vI (0))] [(2, 0, cNV u.v)] ⟨rfl, rfl, rfl, trivial⟩ ⟨rfl, trivial⟩ rfl fun ρ0 ff => ?_
 have hA24 : OwnP s24 (pcTT u.seen ++ (pcSes u.sess ++ (pcRis u.rises ++ (pcS (mkState u.s k) ++ (pcTV (mkTV u.t (k + (cntState u.s.x : Int))) ++ (pcLog (mkLog u.g (k + (cntState u.s.x : Int) + (cntTV u.t.x : Int))) ++ (pcIs (mkIs u.got (k + (cntState u.s.x : Int) + (cntTV u.t.x : Int) + (cntLog u.g.v.x : Int))) ++ (pcIs (mkIs u.acked (k + (cntState u.s.x : Int) + (cntTV u.t.x : Int) + (cntLog u.g.v.x : Int) + (cntIs u.got.l : Int))))))))))) := by
  have := (OwnP.markG hA20 hO24 (mkp_Is _ _) hL24).rot
  simpa only [List.append_assoc] using this
 refine ⟨_, rfl, ?_⟩
 refine ⟨_, op_ldo rfl rfl rfl rfl, ?_⟩
 refine ⟨_, rfl, (uc_markIntSS u.seen (k + (cntState u.s.x : Int) + (cntTV u.t.x : Int) + (cntLog u.g.v.x : Int) + (cntIs u.got.l : Int) + (cntIs u.acked.l : Int)) s24 (OwnP.left hA24) hb.seen (by omega) (by omega)).mono ?_⟩
 rintro _ s28 ⟨rfl, hO28, hL28⟩
 refine AW.cutM (1) s28 [(1, vI (k + (cntState u.s.x : Int) + (cntTV u.t.x : Int) + (cntLog u.g.v.x : Int) + (cntIs u.got.l : Int) + (cntIs u.acked.l : Int) + (cntTab u.seen.x : Int))), (2, vL 2 0 (0)), (4, vI (0))] [(2, 0, cNV u.v)] ⟨rfl, rfl, rfl, trivial⟩ ⟨rfl, trivial⟩ rfl fun ρ0 ff => ?_
 have hA28 : OwnP s28 (pcSes u.sess ++ (pcRis u.rises ++ (pcS (mkState u.s k) ++ (pcTV (mkTV u.t (k + (cntState u.s.x : Int))) ++ (pcLog (mkLog u.g (k + (cntState u.s.x : Int) + (cntTV u.t.x : Int))) ++ (pcIs (mkIs u.got (k + (cntState u.s.x : Int) + (cntTV u.t.x : Int) + (cntLog u.g.v.x : Int))) ++ (pcIs (mkIs u.acked (k + (cntState u.s.x : Int) + (cntTV u.t.x : Int) + (cntLog u.g.v.x : Int) + (cntIs u.got.l : Int))) ++ (pcTT (mkTT u.seen (k + (cntState u.s.x : Int) + (cntTV u.t.x : Int) + (cntLog u.g.v.x : Int) + (cntIs u.got.l : Int) + (cntIs u.acked.l : Int))))))))))) := by
  have := (OwnP.markG hA24 hO28 (mkp_TT _ _) hL28).rot
  simpa only [List.append_assoc] using this
 refine ⟨_, rfl, ?_⟩
 refine ⟨_, op_ldo rfl rfl rfl rfl, ?_⟩
 refine ⟨_, rfl, (uc_markSessS u.sess (k + (cntState u.s.x : Int) + (cntTV u.t.x : Int) + (cntLog u.g.v.x : Int) + (cntIs u.got.l : Int) + (cntIs u.acked.l : Int) + (cntTab u.seen.x : Int)) s28 (OwnP.left hA28) hb.sess (by omega) (by omega)).mono ?_⟩
 rintro _ s32 ⟨rfl, hO32, hL32⟩
 refine AW.cutM (1) s32 [(1, vI (k + (cntState u.s.x : Int) + (cntTV u.t.x : Int) + (cntLog u.g.v.x : Int) + (cntIs u.got.l : Int) + (cntIs u.acked.l : Int) + (cntTab u.seen.x : Int) + ((4 * u.sess.l.length : Nat) : Int))), (2, vL 2 0 (0)), (4, vI (0))] [(2, 0, cNV u.v)] ⟨rfl, rfl, rfl, trivial⟩ ⟨rfl, trivial⟩ rfl fun ρ0 ff => ?_
 have hA32 : OwnP s32 (pcRis u.rises ++ (pcS (mkState u.s k) ++ (pcTV (mkTV u.t (k + (cntState u.s.x : Int))) ++ (pcLog (mkLog u.g (k + (cntState u.s.x : Int) + (cntTV u.t.x : Int))) ++ (pcIs (mkIs u.got (k + (cntState u.s.x : Int) + (cntTV u.t.x : Int) + (cntLog u.g.v.x : Int))) ++ (pcIs (mkIs u.acked (k + (cntState u.s.x : Int) + (cntTV u.t.x : Int) + (cntLog u.g.v.x : Int) + (cntIs u.got.l : Int))) ++ (pcTT (mkTT u.seen (k + (cntState u.s.x : Int) + (cntTV u.t.x : Int) + (cntLog u.g.v.x : Int) + (cntIs u.got.l : Int) + (cntIs u.acked.l : Int))) ++ (pcSes (mkSesR u.sess (k + (cntState u.s.x : Int) + (cntTV u.t.x : Int) + (cntLog u.g.v.x : Int) + (cntIs u.got.l : Int) + (cntIs u.acked.l : Int) + (cntTab u.seen.x : Int))))))))))) := by
  have := (OwnP.markG hA28 hO32 (mkp_SesR _ _) hL32).rot
  simpa only [List.append_assoc] using this
 refine ⟨_, rfl, ?_⟩
 refine ⟨_, op_ldo rfl rfl rfl rfl, ?_⟩
 refine ⟨_, rfl, (uc_markRiseS u.rises (k + (cntState u.s.x : Int) + (cntTV u.t.x : Int) + (cntLog u.g.v.x : Int) + (cntIs u.got.l : Int) + (cntIs u.acked.l : Int) + (cntTab u.seen.x : Int) + ((4 * u.sess.l.length : Nat) : Int)) s32 (OwnP.left hA32) hb.rises (by omega) (by omega)).mono ?_⟩
 rintro _ s36 ⟨rfl, hO36, hL36⟩
 refine cxs ?_
 have hA36 : OwnP s36 (pcS (mkState u.s k) ++ (pcTV (mkTV u.t (k + (cntState u.s.x : Int))) ++ (pcLog (mkLog u.g (k + (cntState u.s.x : Int) + (cntTV u.t.x : Int))) ++ (pcIs (mkIs u.got (k + (cntState u.s.x : Int) + (cntTV u.t.x : Int) + (cntLog u.g.v.x : Int))) ++ (pcIs (mkIs u.acked (k + (cntState u.s.x : Int) + (cntTV u.t.x : Int) + (cntLog u.g.v.x : Int) + (cntIs u.got.l : Int))) ++ (pcTT (mkTT u.seen (k + (cntState u.s.x : Int) + (cntTV u.t.x : Int) + (cntLog u.g.v.x : Int) + (cntIs u.got.l : Int) + (cntIs u.acked.l : Int))) ++ (pcSes (mkSesR u.sess (k + (cntState u.s.x : Int) + (cntTV u.t.x : Int) + (cntLog u.g.v.x : Int) + (cntIs u.got.l : Int) + (cntIs u.acked.l : Int) + (cntTab u.seen.x : Int))) ++ (pcRis (mkRisR u.rises (k + (cntState u.s.x : Int) + (cntTV u.t.x : Int) + (cntLog u.g.v.x : Int) + (cntIs u.got.l : Int) + (cntIs u.acked.l : Int) + (cntTab u.seen.x : Int) + ((4 * u.sess.l.length : Nat) : Int))))))))))) := by
  have := (OwnP.markG hA32 hO36 (mkp_RisR _ _) hL36).rot
  simpa only [List.append_assoc] using this
 refine cxs ?_
 exact ⟨.inl rfl, _, rfl, congrArg vI (by rw [hc]; omega), hA36, ((((((((PrL.inl hL8).trans (PrL.inr (PrL.inl hL12))).trans (PrL.inr (PrL.inr (PrL.inl hL16)))).trans (PrL.inr (PrL.inr (PrL.inr (PrL.inl hL20))))).trans (PrL.inr (PrL.inr (PrL.inr (PrL.inr (PrL.inl hL24)))))).trans (PrL.inr (PrL.inr (PrL.inr (PrL.inr (PrL.inr (PrL.inl hL28))))))).trans (PrL.inr (PrL.inr (PrL.inr (PrL.inr (PrL.inr (PrL.inr (PrL.inl hL32)))))))).trans (PrL.inr (PrL.inr (PrL.inr (PrL.inr (PrL.inr (PrL.inr (PrL.inr (hL36)))))))))⟩
theorem uc_heldNode (u : NW) (k : Int) (st : St) (hO : OwnP st (pcNW (mkNode u k))) (hb : bigN u.x) (h0 : 0 ≤ k) (hk : k + (cntNode u.x : Int) ≤ 137438953472) : C 28 [.agg #[vI u.id, vI u.n, vS u.s.p u.s.x.items.length, vS u.s.q u.s.x.floors.length, vS u.t.p u.t.l.length, vI u.t.root, vI u.g.cap, vI u.g.frm, vS u.g.p u.g.l.length, vS u.got.p u.got.l.length, vS u.acked.p u.acked.l.length, vS u.seen.p u.seen.t.length, vI u.num, vI u.slots, vS u.sess.p u.sess.l.length, vI u.wait, vI u.limit, vI u.clock, vS u.rises.p u.rises.l.length], vI k] st (fun v s => v = vI (k + (cntNode u.x : Int)) ∧ Pres st s) := by
 have hc : cntNode u.x = cntState u.s.x + cntTV u.t.x + cntLog u.g.v.x + cntIs u.got.l + cntIs u.acked.l + cntTab u.seen.x + 4 * u.sess.l.length + 3 * u.rises.l.length := rfl
 refine AC.enterX (i := ⟨[2], [2, 5, 11, 17, 23, 29, 35, 41, 47], [0, 1, 2, 4, 10, 16, 22, 28, 34, 40, 46, 52]⟩) [] Tryz.func28 rfl rfl (by kernel_rfl) (by kernel_rfl) Tryz.ntmps28 (Nat.le_of_ble_eq_true rfl) rfl ?_
 refine ⟨_, rfl, ?_⟩
 refine AW.cutM (1) st [(1, vI k), (2, vL 2 0 (0)), (4, vI (0))] [(2, 0, cNV u.v)] ⟨rfl, rfl, rfl, trivial⟩ ⟨rfl, trivial⟩ rfl fun ρ0 ff => ?_
 refine ⟨_, rfl, ?_⟩
 refine ⟨_, op_ldo rfl rfl rfl rfl, ?_⟩
 refine ⟨_, rfl, (uc_heldState u.s k st (OwnP.rdS (OwnP.left hO)) hb.s (by omega) (by omega)).mono ?_⟩
 rintro _ s8 ⟨rfl, hP8⟩
 refine AW.cutM (1) s8 [(1, vI (k + (cntState u.s.x : Int))), (2, vL 2 0 (0)), (4, vI (0))] [(2, 0, cNV u.v)] ⟨rfl, rfl, rfl, trivial⟩ ⟨rfl, trivial⟩ rfl fun ρ0 ff => ?_
 refine ⟨_, rfl, ?_⟩
 rintro (_|_) h10
 rotate_left
 ·exact absurd (of_decide_eq_true h10) ((by omega))
 refine AW.cutM (1) s8 [(1, vI (k + (cntState u.s.x : Int))), (2, vL 2 0 (0)), (4, vI (0)), (10, vB false)] [(2, 0, cNV u.v)] ⟨rfl, rfl, rfl, rfl, trivial⟩ ⟨rfl, trivial⟩ rfl fun ρ0 ff => ?_
 refine cxs ?_
 refine ⟨_, rfl, ?_⟩
 refine ⟨_, op_ldo rfl rfl rfl rfl, ?_⟩
 refine ⟨_, rfl, (uc_heldTree u.t (k + (cntState u.s.x : Int)) s8 (OwnP.rdTV (OwnP.left (OwnP.right (hO.pres hP8)))) hb.t (by omega) (by omega)).mono ?_⟩
 rintro _ s14 ⟨rfl, hP14⟩
 refine AW.cutM (1) s14 [(1, vI (k + (cntState u.s.x : Int) + (cntTV u.t.x : Int))), (2, vL 2 0 (0)), (4, vI (0))] [(2, 0, cNV u.v)] ⟨rfl, rfl, rfl, trivial⟩ ⟨rfl, trivial⟩ rfl fun ρ0 ff => ?_
 have hQ14 : Pres st s14 := hP8.trans hP14
 refine ⟨_, rfl, ?_⟩
 rintro (_|_) h16
 rotate_left
 ·exact absurd (of_decide_eq_true h16) ((by omega))
 refine AW.cutM (1) s14 [(1, vI (k + (cntState u.s.x : Int) + (cntTV u.t.x : Int))), (2, vL 2 0 (0)), (4, vI (0)), (16, vB false)] [(2, 0, cNV u.v)] ⟨rfl, rfl, rfl, rfl, trivial⟩ ⟨rfl, trivial⟩ rfl fun ρ0 ff => ?_
 refine cxs ?_
 refine ⟨_, rfl, ?_⟩
 refine ⟨_, op_ldo rfl rfl rfl rfl, ?_⟩
 refine ⟨_, rfl, (uc_heldLog u.g (k + (cntState u.s.x : Int) + (cntTV u.t.x : Int)) s14 (OwnP.rdLog (OwnP.left (OwnP.right (OwnP.right (hO.pres hQ14))))) (LW.rows ((OwnP.left (OwnP.right (OwnP.right (hO.pres hQ14)))).1 _ (List.mem_cons_self ..))) hb.g (by omega) (by omega)).mono ?_⟩
 rintro _ s20 ⟨rfl, hP20⟩
 refine AW.cutM (1) s20 [(1, vI (k + (cntState u.s.x : Int) + (cntTV u.t.x : Int) + (cntLog u.g.v.x : Int))), (2, vL 2 0 (0)), (4, vI (0))] [(2, 0, cNV u.v)] ⟨rfl, rfl, rfl, trivial⟩ ⟨rfl, trivial⟩ rfl fun ρ0 ff => ?_
 have hQ20 : Pres st s20 := hQ14.trans hP20
 refine ⟨_, rfl, ?_⟩
 rintro (_|_) h22
 rotate_left
 ·exact absurd (of_decide_eq_true h22) ((by omega))
 refine AW.cutM (1) s20 [(1, vI (k + (cntState u.s.x : Int) + (cntTV u.t.x : Int) + (cntLog u.g.v.x : Int))), (2, vL 2 0 (0)), (4, vI (0)), (22, vB false)] [(2, 0, cNV u.v)] ⟨rfl, rfl, rfl, rfl, trivial⟩ ⟨rfl, trivial⟩ rfl fun ρ0 ff => ?_
 refine cxs ?_
 refine ⟨_, rfl, ?_⟩
 refine ⟨_, op_ldo rfl rfl rfl rfl, ?_⟩
 refine ⟨_, rfl, (uc_heldIntS u.got (k + (cntState u.s.x : Int) + (cntTV u.t.x : Int) + (cntLog u.g.v.x : Int)) s20 (OwnP.rdIs (OwnP.left (OwnP.right (OwnP.right (OwnP.right (hO.pres hQ20)))))) hb.got (by omega) (by omega)).mono ?_⟩
 rintro _ s26 ⟨rfl, hP26⟩
 refine AW.cutM (1) s26 [(1, vI (k + (cntState u.s.x : Int) + (cntTV u.t.x : Int) + (cntLog u.g.v.x : Int) + (cntIs u.got.l : Int))), (2, vL 2 0 (0)), (4, vI (0))] [(2, 0, cNV u.v)] ⟨rfl, rfl, rfl, trivial⟩ ⟨rfl, trivial⟩ rfl fun ρ0 ff => ?_
 have hQ26 : Pres st s26 := hQ20.trans hP26
 refine ⟨_, rfl, ?_⟩
 rintro (_|_) h28
 rotate_left
 ·exact absurd (of_decide_eq_true h28) ((by omega))
 refine AW.cutM (1) s26 [(1, vI (k + (cntState u.s.x : Int) + (cntTV u.t.x : Int) + (cntLog u.g.v.x : Int) + (cntIs u.got.l : Int))), (2, vL 2 0 (0)), (4, vI (0)), (28, vB false)] [(2, 0, cNV u.v)] ⟨rfl, rfl, rfl, rfl, trivial⟩ ⟨rfl, trivial⟩ rfl fun ρ0 ff => ?_
 refine cxs ?_
 refine ⟨_, rfl, ?_⟩
 refine ⟨_, op_ldo rfl rfl rfl rfl, ?_⟩
 refine ⟨_, rfl, (uc_heldIntS u.acked (k + (cntState u.s.x : Int) + (cntTV u.t.x : Int) + (cntLog u.g.v.x : Int) + (cntIs u.got.l : Int)) s26 (OwnP.rdIs (OwnP.left (OwnP.right (OwnP.right (OwnP.right (OwnP.right (hO.pres hQ26))))))) hb.acked (by omega) (by omega)).mono ?_⟩
 rintro _ s32 ⟨rfl, hP32⟩
 refine AW.cutM (1) s32 [(1, vI (k + (cntState u.s.x : Int) + (cntTV u.t.x : Int) + (cntLog u.g.v.x : Int) + (cntIs u.got.l : Int) + (cntIs u.acked.l : Int))), (2, vL 2 0 (0)), (4, vI (0))] [(2, 0, cNV u.v)] ⟨rfl, rfl, rfl, trivial⟩ ⟨rfl, trivial⟩ rfl fun ρ0 ff => ?_
 have hQ32 : Pres st s32 := hQ26.trans hP32
 refine ⟨_, rfl, ?_⟩
 rintro (_|_) h34
 rotate_left
 ·exact absurd (of_decide_eq_true h34) ((by omega))
 refine AW.cutM (1) s32 [(1, vI (k + (cntState u.s.x : Int) + (cntTV u.t.x : Int) + (cntLog u.g.v.x : Int) + (cntIs u.got.l : Int) + (cntIs u.acked.l : Int))), (2, vL 2 0 (0)), (4, vI (0)), (34, vB false)] [(2, 0, cNV u.v)] ⟨rfl, rfl, rfl, rfl, trivial⟩ ⟨rfl, trivial⟩ rfl fun ρ0 ff => ?_
 refine cxs ?_
 refine ⟨_, rfl, ?_⟩
 refine ⟨_, op_ldo rfl rfl rfl rfl, ?_⟩
 refine ⟨_, rfl, (uc_heldIntSS u.seen (k + (cntState u.s.x : Int) + (cntTV u.t.x : Int) + (cntLog u.g.v.x : Int) + (cntIs u.got.l : Int) + (cntIs u.acked.l : Int)) s32 (OwnP.rdT (OwnP.left (OwnP.right (OwnP.right (OwnP.right (OwnP.right (OwnP.right (hO.pres hQ32)))))))) hb.seen (by omega) (by omega)).mono ?_⟩
 rintro _ s38 ⟨rfl, hP38⟩
 refine AW.cutM (1) s38 [(1, vI (k + (cntState u.s.x : Int) + (cntTV u.t.x : Int) + (cntLog u.g.v.x : Int) + (cntIs u.got.l : Int) + (cntIs u.acked.l : Int) + (cntTab u.seen.x : Int))), (2, vL 2 0 (0)), (4, vI (0))] [(2, 0, cNV u.v)] ⟨rfl, rfl, rfl, trivial⟩ ⟨rfl, trivial⟩ rfl fun ρ0 ff => ?_
 have hQ38 : Pres st s38 := hQ32.trans hP38
 refine ⟨_, rfl, ?_⟩
 rintro (_|_) h40
 rotate_left
 ·exact absurd (of_decide_eq_true h40) ((by omega))
 refine AW.cutM (1) s38 [(1, vI (k + (cntState u.s.x : Int) + (cntTV u.t.x : Int) + (cntLog u.g.v.x : Int) + (cntIs u.got.l : Int) + (cntIs u.acked.l : Int) + (cntTab u.seen.x : Int))), (2, vL 2 0 (0)), (4, vI (0)), (40, vB false)] [(2, 0, cNV u.v)] ⟨rfl, rfl, rfl, rfl, trivial⟩ ⟨rfl, trivial⟩ rfl fun ρ0 ff => ?_
 refine cxs ?_
 refine ⟨_, rfl, ?_⟩
 refine ⟨_, op_ldo rfl rfl rfl rfl, ?_⟩
 refine ⟨_, rfl, (uc_heldSessS u.sess (k + (cntState u.s.x : Int) + (cntTV u.t.x : Int) + (cntLog u.g.v.x : Int) + (cntIs u.got.l : Int) + (cntIs u.acked.l : Int) + (cntTab u.seen.x : Int)) s38 (OwnP.rdSes (OwnP.left (OwnP.right (OwnP.right (OwnP.right (OwnP.right (OwnP.right (OwnP.right (hO.pres hQ38))))))))) hb.sess (by omega) (by omega)).mono ?_⟩
 rintro _ s44 ⟨rfl, hP44⟩
 refine AW.cutM (1) s44 [(1, vI (k + (cntState u.s.x : Int) + (cntTV u.t.x : Int) + (cntLog u.g.v.x : Int) + (cntIs u.got.l : Int) + (cntIs u.acked.l : Int) + (cntTab u.seen.x : Int) + ((4 * u.sess.l.length : Nat) : Int))), (2, vL 2 0 (0)), (4, vI (0))] [(2, 0, cNV u.v)] ⟨rfl, rfl, rfl, trivial⟩ ⟨rfl, trivial⟩ rfl fun ρ0 ff => ?_
 have hQ44 : Pres st s44 := hQ38.trans hP44
 refine ⟨_, rfl, ?_⟩
 rintro (_|_) h46
 rotate_left
 ·exact absurd (of_decide_eq_true h46) ((by omega))
 refine AW.cutM (1) s44 [(1, vI (k + (cntState u.s.x : Int) + (cntTV u.t.x : Int) + (cntLog u.g.v.x : Int) + (cntIs u.got.l : Int) + (cntIs u.acked.l : Int) + (cntTab u.seen.x : Int) + ((4 * u.sess.l.length : Nat) : Int))), (2, vL 2 0 (0)), (4, vI (0)), (46, vB false)] [(2, 0, cNV u.v)] ⟨rfl, rfl, rfl, rfl, trivial⟩ ⟨rfl, trivial⟩ rfl fun ρ0 ff => ?_
 refine cxs ?_
 refine ⟨_, rfl, ?_⟩
 refine ⟨_, op_ldo rfl rfl rfl rfl, ?_⟩
 refine ⟨_, rfl, (uc_heldRiseS u.rises (k + (cntState u.s.x : Int) + (cntTV u.t.x : Int) + (cntLog u.g.v.x : Int) + (cntIs u.got.l : Int) + (cntIs u.acked.l : Int) + (cntTab u.seen.x : Int) + ((4 * u.sess.l.length : Nat) : Int)) s44 (OwnP.rdRis (OwnP.right (OwnP.right (OwnP.right (OwnP.right (OwnP.right (OwnP.right (OwnP.right (hO.pres hQ44))))))))) hb.rises (by omega) (by omega)).mono ?_⟩
 rintro _ s50 ⟨rfl, hP50⟩
 refine AW.cutM (1) s50 [(1, vI (k + (cntState u.s.x : Int) + (cntTV u.t.x : Int) + (cntLog u.g.v.x : Int) + (cntIs u.got.l : Int) + (cntIs u.acked.l : Int) + (cntTab u.seen.x : Int) + ((4 * u.sess.l.length : Nat) : Int) + ((3 * u.rises.l.length : Nat) : Int))), (4, vI (0))] [] ⟨rfl, rfl, trivial⟩ trivial rfl fun ρ0 ff => ?_
 have hQ50 : Pres st s50 := hQ44.trans hP50
 refine ⟨_, rfl, ?_⟩
 rintro (_|_) h52
 rotate_left
 ·exact absurd (of_decide_eq_true h52) ((by omega))
 refine AW.cutM (1) s50 [(1, vI (k + (cntState u.s.x : Int) + (cntTV u.t.x : Int) + (cntLog u.g.v.x : Int) + (cntIs u.got.l : Int) + (cntIs u.acked.l : Int) + (cntTab u.seen.x : Int) + ((4 * u.sess.l.length : Nat) : Int) + ((3 * u.rises.l.length : Nat) : Int))), (4, vI (0)), (52, vB false)] [] ⟨rfl, rfl, rfl, trivial⟩ trivial rfl fun ρ0 ff => ?_
 refine cxs ?_
 refine cxs ?_
 exact ⟨.inl rfl, _, rfl, congrArg vI (by rw [hc]; omega), hQ50⟩
def mkMsg (u : MV) (k : Int) : MV := { u with tree := mkTV u.tree k, vec := mkIs u.vec (k + (cntTV u.tree.x : Int)), leaves := mkIs u.leaves (k + (cntTV u.tree.x : Int) + (cntIs u.vec.l : Int)), part := mkState u.part (k + (cntTV u.tree.x : Int) + (cntIs u.vec.l : Int) + (cntIs u.leaves.l : Int)), marks := mkFV u.marks (k + (cntTV u.tree.x : Int) + (cntIs u.vec.l : Int) + (cntIs u.leaves.l : Int) + (cntState u.part.x : Int)) }
theorem mkp_Msg (u : MV) (k : Int) : (pcMV (mkMsg u k)).map (·.p) = (pcMV u).map (·.p) :=
 map_app2 (mkp_TV _ _) (map_app2 (mkp_Is _ _) (map_app2 (mkp_Is _ _) (map_app2 (mkp_State _ _) (mkp_FV _ _))))
theorem uc_markMsg (u : MV) (k : Int) (st : St) (hO : OwnP st (pcMV u)) (hb : bigM u.x) (h0 : 0 ≤ k) (hk : k + (cntMsg u.x : Int) ≤ 137438953472) : C 32 [.agg #[vI u.kind, vI u.frm, vI u.to, vI u.num, vI u.hi, vS u.tree.p u.tree.l.length, vI u.tree.root, vS u.vec.p u.vec.l.length, vS u.leaves.p u.leaves.l.length, vS u.part.p u.part.x.items.length, vS u.part.q u.part.x.floors.length, vS u.marks.p u.marks.l.length], vI k] st (fun v s => v = vI (k + (cntMsg u.x : Int)) ∧ OwnP s (pcMV (mkMsg u k)) ∧ PrL ((pcMV u).map (·.p)) st s) := by
 have hc : cntMsg u.x = cntTV u.tree.x + cntIs u.vec.l + cntIs u.leaves.l + cntState u.part.x + cntFV u.marks.l := rfl
 refine AC.enterX (i := ⟨[2], [2, 5, 9, 13, 17, 21], [0, 1, 2, 4]⟩) [] Tryz.func32 rfl rfl (by kernel_rfl) (by kernel_rfl) Tryz.ntmps32 (Nat.le_of_ble_eq_true rfl) rfl ?_
 refine ⟨_, rfl, ?_⟩
 refine AW.cutM (1) st [(1, vI k), (2, vL 2 0 (0)), (4, vI (0))] [(2, 0, cMV u)] ⟨rfl, rfl, rfl, trivial⟩ ⟨rfl, trivial⟩ rfl fun ρ0 ff => ?_
 refine ⟨_, rfl, ?_⟩
 refine ⟨_, op_ldo rfl rfl rfl rfl, ?_⟩
 refine ⟨_, rfl, (uc_markTree u.tree k st (OwnP.left hO) hb.tree (by omega) (by omega)).mono ?_⟩
 rintro _ s8 ⟨rfl, hO8, hL8⟩
 refine AW.cutM (1) s8 [(1, vI (k + (cntTV u.tree.x : Int))), (2, vL 2 0 (0)), (4, vI (0))] [(2, 0, cMV u)] ⟨rfl, rfl, rfl, trivial⟩ ⟨rfl, trivial⟩ rfl fun ρ0 ff => ?_
 have hA8 : OwnP s8 (pcIs u.vec ++ (pcIs u.leaves ++ (pcS u.part ++ (pcFV u.marks ++ (pcTV (mkTV u.tree k)))))) := by
  have := (OwnP.markG hO hO8 (mkp_TV _ _) hL8).rot
  simpa only [List.append_assoc] using this
 refine ⟨_, rfl, ?_⟩
 refine ⟨_, op_ldo rfl rfl rfl rfl, ?_⟩
 refine ⟨_, rfl, (uc_markIntS u.vec (k + (cntTV u.tree.x : Int)) s8 (OwnP.left hA8) hb.vec (by omega) (by omega)).mono ?_⟩
 rintro _ s12 ⟨rfl, hO12, hL12⟩
 refine AW.cutM (1) s12 [(1, vI (k + (cntTV u.tree.x : Int) + (cntIs u.vec.l : Int))), (2, vL 2 0 (0)), (4, vI (0))] [(2, 0, cMV u)] ⟨rfl, rfl, rfl, trivial⟩ ⟨rfl, trivial⟩ rfl fun ρ0 ff => ?_
 have hA12 : OwnP s12 (pcIs u.leaves ++ (pcS u.part ++ (pcFV u.marks ++ (pcTV (mkTV u.tree k) ++ (pcIs (mkIs u.vec (k + (cntTV u.tree.x : Int)))))))) := by
  have := (OwnP.markG hA8 hO12 (mkp_Is _ _) hL12).rot
  simpa only [List.append_assoc] using this
 refine ⟨_, rfl, ?_⟩
 refine ⟨_, op_ldo rfl rfl rfl rfl, ?_⟩
 refine ⟨_, rfl, (uc_markIntS u.leaves (k + (cntTV u.tree.x : Int) + (cntIs u.vec.l : Int)) s12 (OwnP.left hA12) hb.leaves (by omega) (by omega)).mono ?_⟩
 rintro _ s16 ⟨rfl, hO16, hL16⟩
 refine AW.cutM (1) s16 [(1, vI (k + (cntTV u.tree.x : Int) + (cntIs u.vec.l : Int) + (cntIs u.leaves.l : Int))), (2, vL 2 0 (0)), (4, vI (0))] [(2, 0, cMV u)] ⟨rfl, rfl, rfl, trivial⟩ ⟨rfl, trivial⟩ rfl fun ρ0 ff => ?_
 have hA16 : OwnP s16 (pcS u.part ++ (pcFV u.marks ++ (pcTV (mkTV u.tree k) ++ (pcIs (mkIs u.vec (k + (cntTV u.tree.x : Int))) ++ (pcIs (mkIs u.leaves (k + (cntTV u.tree.x : Int) + (cntIs u.vec.l : Int)))))))) := by
  have := (OwnP.markG hA12 hO16 (mkp_Is _ _) hL16).rot
  simpa only [List.append_assoc] using this
 refine ⟨_, rfl, ?_⟩
 refine ⟨_, op_ldo rfl rfl rfl rfl, ?_⟩
 refine ⟨_, rfl, (uc_markState u.part (k + (cntTV u.tree.x : Int) + (cntIs u.vec.l : Int) + (cntIs u.leaves.l : Int)) s16 (OwnP.left hA16) hb.part (by omega) (by omega)).mono ?_⟩
 rintro _ s20 ⟨rfl, hO20, hL20⟩
 refine AW.cutM (1) s20 [(1, vI (k + (cntTV u.tree.x : Int) + (cntIs u.vec.l : Int) + (cntIs u.leaves.l : Int) + (cntState u.part.x : Int))), (2, vL 2 0 (0)), (4, vI (0))] [(2, 0, cMV u)] ⟨rfl, rfl, rfl, trivial⟩ ⟨rfl, trivial⟩ rfl fun ρ0 ff => ?_
 have hA20 : OwnP s20 (pcFV u.marks ++ (pcTV (mkTV u.tree k) ++ (pcIs (mkIs u.vec (k + (cntTV u.tree.x : Int))) ++ (pcIs (mkIs u.leaves (k + (cntTV u.tree.x : Int) + (cntIs u.vec.l : Int))) ++ (pcS (mkState u.part (k + (cntTV u.tree.x : Int) + (cntIs u.vec.l : Int) + (cntIs u.leaves.l : Int)))))))) := by
  have := (OwnP.markG hA16 hO20 (mkp_State _ _) hL20).rot
  simpa only [List.append_assoc] using this
 refine ⟨_, rfl, ?_⟩
 refine ⟨_, op_ldo rfl rfl rfl rfl, ?_⟩
 refine ⟨_, rfl, (uc_markMarkS u.marks (k + (cntTV u.tree.x : Int) + (cntIs u.vec.l : Int) + (cntIs u.leaves.l : Int) + (cntState u.part.x : Int)) s20 (OwnP.left hA20) hb.marks (by omega) (by omega)).mono ?_⟩
 rintro _ s24 ⟨rfl, hO24, hL24⟩
 refine cxs ?_
 have hA24 : OwnP s24 (pcTV (mkTV u.tree k) ++ (pcIs (mkIs u.vec (k + (cntTV u.tree.x : Int))) ++ (pcIs (mkIs u.leaves (k + (cntTV u.tree.x : Int) + (cntIs u.vec.l : Int))) ++ (pcS (mkState u.part (k + (cntTV u.tree.x : Int) + (cntIs u.vec.l : Int) + (cntIs u.leaves.l : Int))) ++ (pcFV (mkFV u.marks (k + (cntTV u.tree.x : Int) + (cntIs u.vec.l : Int) + (cntIs u.leaves.l : Int) + (cntState u.part.x : Int)))))))) := by
  have := (OwnP.markG hA20 hO24 (mkp_FV _ _) hL24).rot
  simpa only [List.append_assoc] using this
 refine cxs ?_
 exact ⟨.inl rfl, _, rfl, congrArg vI (by rw [hc]; omega), hA24, (((((PrL.inl hL8).trans (PrL.inr (PrL.inl hL12))).trans (PrL.inr (PrL.inr (PrL.inl hL16)))).trans (PrL.inr (PrL.inr (PrL.inr (PrL.inl hL20))))).trans (PrL.inr (PrL.inr (PrL.inr (PrL.inr (hL24))))))⟩
theorem uc_heldMsg (u : MV) (k : Int) (st : St) (hO : OwnP st (pcMV (mkMsg u k))) (hb : bigM u.x) (h0 : 0 ≤ k) (hk : k + (cntMsg u.x : Int) ≤ 137438953472) : C 33 [.agg #[vI u.kind, vI u.frm, vI u.to, vI u.num, vI u.hi, vS u.tree.p u.tree.l.length, vI u.tree.root, vS u.vec.p u.vec.l.length, vS u.leaves.p u.leaves.l.length, vS u.part.p u.part.x.items.length, vS u.part.q u.part.x.floors.length, vS u.marks.p u.marks.l.length], vI k] st (fun v s => v = vI (k + (cntMsg u.x : Int)) ∧ Pres st s) := by
 have hc : cntMsg u.x = cntTV u.tree.x + cntIs u.vec.l + cntIs u.leaves.l + cntState u.part.x + cntFV u.marks.l := rfl
 refine AC.enterX (i := ⟨[2], [2, 5, 11, 17, 23, 29], [0, 1, 2, 4, 10, 16, 22, 28, 34]⟩) [] Tryz.func33 rfl rfl (by kernel_rfl) (by kernel_rfl) Tryz.ntmps33 (Nat.le_of_ble_eq_true rfl) rfl ?_
 refine ⟨_, rfl, ?_⟩
 refine AW.cutM (1) st [(1, vI k), (2, vL 2 0 (0)), (4, vI (0))] [(2, 0, cMV u)] ⟨rfl, rfl, rfl, trivial⟩ ⟨rfl, trivial⟩ rfl fun ρ0 ff => ?_
 refine ⟨_, rfl, ?_⟩
 refine ⟨_, op_ldo rfl rfl rfl rfl, ?_⟩
 refine ⟨_, rfl, (uc_heldTree u.tree k st (OwnP.rdTV (OwnP.left hO)) hb.tree (by omega) (by omega)).mono ?_⟩
 rintro _ s8 ⟨rfl, hP8⟩
 refine AW.cutM (1) s8 [(1, vI (k + (cntTV u.tree.x : Int))), (2, vL 2 0 (0)), (4, vI (0))] [(2, 0, cMV u)] ⟨rfl, rfl, rfl, trivial⟩ ⟨rfl, trivial⟩ rfl fun ρ0 ff => ?_
 refine ⟨_, rfl, ?_⟩
 rintro (_|_) h10
 rotate_left
 ·exact absurd (of_decide_eq_true h10) ((by omega))
 refine AW.cutM (1) s8 [(1, vI (k + (cntTV u.tree.x : Int))), (2, vL 2 0 (0)), (4, vI (0)), (10, vB false)] [(2, 0, cMV u)] ⟨rfl, rfl, rfl, rfl, trivial⟩ ⟨rfl, trivial⟩ rfl fun ρ0 ff => ?_
 refine cxs ?_
 refine ⟨_, rfl, ?_⟩
 refine ⟨_, op_ldo rfl rfl rfl rfl, ?_⟩
 refine ⟨_, rfl, (uc_heldIntS u.vec (k + (cntTV u.tree.x : Int)) s8 (OwnP.rdIs (OwnP.left (OwnP.right (hO.pres hP8)))) hb.vec (by omega) (by omega)).mono ?_⟩
 rintro _ s14 ⟨rfl, hP14⟩
 refine AW.cutM (1) s14 [(1, vI (k + (cntTV u.tree.x : Int) + (cntIs u.vec.l : Int))), (2, vL 2 0 (0)), (4, vI (0))] [(2, 0, cMV u)] ⟨rfl, rfl, rfl, trivial⟩ ⟨rfl, trivial⟩ rfl fun ρ0 ff => ?_
 have hQ14 : Pres st s14 := hP8.trans hP14
 refine ⟨_, rfl, ?_⟩
 rintro (_|_) h16
 rotate_left
 ·exact absurd (of_decide_eq_true h16) ((by omega))
 refine AW.cutM (1) s14 [(1, vI (k + (cntTV u.tree.x : Int) + (cntIs u.vec.l : Int))), (2, vL 2 0 (0)), (4, vI (0)), (16, vB false)] [(2, 0, cMV u)] ⟨rfl, rfl, rfl, rfl, trivial⟩ ⟨rfl, trivial⟩ rfl fun ρ0 ff => ?_
 refine cxs ?_
 refine ⟨_, rfl, ?_⟩
 refine ⟨_, op_ldo rfl rfl rfl rfl, ?_⟩
 refine ⟨_, rfl, (uc_heldIntS u.leaves (k + (cntTV u.tree.x : Int) + (cntIs u.vec.l : Int)) s14 (OwnP.rdIs (OwnP.left (OwnP.right (OwnP.right (hO.pres hQ14))))) hb.leaves (by omega) (by omega)).mono ?_⟩
 rintro _ s20 ⟨rfl, hP20⟩
 refine AW.cutM (1) s20 [(1, vI (k + (cntTV u.tree.x : Int) + (cntIs u.vec.l : Int) + (cntIs u.leaves.l : Int))), (2, vL 2 0 (0)), (4, vI (0))] [(2, 0, cMV u)] ⟨rfl, rfl, rfl, trivial⟩ ⟨rfl, trivial⟩ rfl fun ρ0 ff => ?_
 have hQ20 : Pres st s20 := hQ14.trans hP20
 refine ⟨_, rfl, ?_⟩
 rintro (_|_) h22
 rotate_left
 ·exact absurd (of_decide_eq_true h22) ((by omega))
 refine AW.cutM (1) s20 [(1, vI (k + (cntTV u.tree.x : Int) + (cntIs u.vec.l : Int) + (cntIs u.leaves.l : Int))), (2, vL 2 0 (0)), (4, vI (0)), (22, vB false)] [(2, 0, cMV u)] ⟨rfl, rfl, rfl, rfl, trivial⟩ ⟨rfl, trivial⟩ rfl fun ρ0 ff => ?_
 refine cxs ?_
 refine ⟨_, rfl, ?_⟩
 refine ⟨_, op_ldo rfl rfl rfl rfl, ?_⟩
 refine ⟨_, rfl, (uc_heldState u.part (k + (cntTV u.tree.x : Int) + (cntIs u.vec.l : Int) + (cntIs u.leaves.l : Int)) s20 (OwnP.rdS (OwnP.left (OwnP.right (OwnP.right (OwnP.right (hO.pres hQ20)))))) hb.part (by omega) (by omega)).mono ?_⟩
 rintro _ s26 ⟨rfl, hP26⟩
 refine AW.cutM (1) s26 [(1, vI (k + (cntTV u.tree.x : Int) + (cntIs u.vec.l : Int) + (cntIs u.leaves.l : Int) + (cntState u.part.x : Int))), (2, vL 2 0 (0)), (4, vI (0))] [(2, 0, cMV u)] ⟨rfl, rfl, rfl, trivial⟩ ⟨rfl, trivial⟩ rfl fun ρ0 ff => ?_
 have hQ26 : Pres st s26 := hQ20.trans hP26
 refine ⟨_, rfl, ?_⟩
 rintro (_|_) h28
 rotate_left
 ·exact absurd (of_decide_eq_true h28) ((by omega))
 refine AW.cutM (1) s26 [(1, vI (k + (cntTV u.tree.x : Int) + (cntIs u.vec.l : Int) + (cntIs u.leaves.l : Int) + (cntState u.part.x : Int))), (2, vL 2 0 (0)), (4, vI (0)), (28, vB false)] [(2, 0, cMV u)] ⟨rfl, rfl, rfl, rfl, trivial⟩ ⟨rfl, trivial⟩ rfl fun ρ0 ff => ?_
 refine cxs ?_
 refine ⟨_, rfl, ?_⟩
 refine ⟨_, op_ldo rfl rfl rfl rfl, ?_⟩
 refine ⟨_, rfl, (uc_heldMarkS u.marks (k + (cntTV u.tree.x : Int) + (cntIs u.vec.l : Int) + (cntIs u.leaves.l : Int) + (cntState u.part.x : Int)) s26 (OwnP.rdFV (OwnP.right (OwnP.right (OwnP.right (OwnP.right (hO.pres hQ26)))))) hb.marks (by omega) (by omega)).mono ?_⟩
 rintro _ s32 ⟨rfl, hP32⟩
 refine AW.cutM (1) s32 [(1, vI (k + (cntTV u.tree.x : Int) + (cntIs u.vec.l : Int) + (cntIs u.leaves.l : Int) + (cntState u.part.x : Int) + (cntFV u.marks.l : Int))), (4, vI (0))] [] ⟨rfl, rfl, trivial⟩ trivial rfl fun ρ0 ff => ?_
 have hQ32 : Pres st s32 := hQ26.trans hP32
 refine ⟨_, rfl, ?_⟩
 rintro (_|_) h34
 rotate_left
 ·exact absurd (of_decide_eq_true h34) ((by omega))
 refine AW.cutM (1) s32 [(1, vI (k + (cntTV u.tree.x : Int) + (cntIs u.vec.l : Int) + (cntIs u.leaves.l : Int) + (cntState u.part.x : Int) + (cntFV u.marks.l : Int))), (4, vI (0)), (34, vB false)] [] ⟨rfl, rfl, rfl, trivial⟩ trivial rfl fun ρ0 ff => ?_
 refine cxs ?_
 refine cxs ?_
 exact ⟨.inl rfl, _, rfl, congrArg vI (by rw [hc]; omega), hQ32⟩
theorem bigNW {u : NW} (h : bigN u.x) : bigN u.v.x := h
theorem cntNW {u : NW} {n : Nat} (h : cntNode u.x ≤ n) : cntNode u.v.x ≤ n := h
theorem OwnP.joinF2 {st st' : St} {a b l : List Pc} (h : OwnP st l) (hp : Pres st st') (k : OwnP st' (a ++ b)) (hn : NewP st.next (a ++ b)) : OwnP st' (a ++ (b ++ l)) := by
 have := OwnP.joinF h hp k hn
 rwa [List.append_assoc] at this
theorem syn_big {x r : Nd} {m : Mg} {to : Int} {b : Bool} (h : (r, m, b) = synF x to) (hb : bigN x) : bigN r := by
 have h1 : r = (synF x to).1 := congrArg Prod.fst h
 rw [h1]
 unfold synF
 split
 ·rename_i hk
  refine ⟨hb.s, hb.t, hb.g, hb.got, hb.acked, hb.seen, ?_, hb.rises⟩
  have h2 : (x.sess.length : Int) < x.slots := hk.room
  have h3 : x.slots ≤ 4 := hk.ok.slots.2
  show (x.sess ++ [_]).length ≤ 1048576
  rw [List.length_append, List.length_singleton]; omega
 ·exact hb
theorem syn_bigm {x r : Nd} {m : Mg} {to : Int} {b : Bool} (h : (r, m, b) = synF x to) (hb : bigN x) : bigM m := by
 have h1 : m = (synF x to).2.1 := congrArg (fun y => y.2.1) h
 rw [h1]
 unfold synF
 split
 ·refine ⟨hb.t, hb.got, Nat.zero_le _, bigS_nil, ?_⟩
  have := marksF_len (goneAt (begun x to).s) 5
  show (marksF (goneAt (begun x to).s) 5).length ≤ 1048576
  omega
 ·exact ⟨Nat.zero_le _, Nat.zero_le _, Nat.zero_le _, bigS_nil, Nat.zero_le _⟩
theorem syn_cnt {x r : Nd} {m : Mg} {to : Int} {b : Bool} (h : (r, m, b) = synF x to) (hb : cntNode x ≤ 8388608) : cntNode r ≤ 16777216 := by
 have h1 : r = (synF x to).1 := congrArg Prod.fst h
 rw [h1]
 unfold synF
 split
 ·unfold cntNode at hb ⊢
  show cntS x.s + x.t.leaves.length + cntLog x.g + x.got.length + x.acked.length + cntTab x.seen + 4 * (x.sess ++ [_]).length + 3 * x.rises.length ≤ _
  rw [List.length_append, List.length_singleton]; omega
 ·exact Nat.le_trans hb (by decide)
theorem bigM_cnt {u : Mg} (h : bigM u) : cntMsg u ≤ 16777216 := by
 have h1 := cnt_State h.part
 have h2 : u.tree.leaves.length ≤ 1048576 := h.tree
 have h3 : u.vec.length ≤ 1048576 := h.vec
 have h4 : u.leaves.length ≤ 1048576 := h.leaves
 have h5 : u.marks.length ≤ 1048576 := h.marks
 unfold cntMsg
 unfold cntState at h1
 omega
theorem ac_laws_FnExactSyn (g : NV) (n : Int) (st : St) (hR_g : RdN st g ∧ maxN g) (hw_n : (Lit.int .i64 n).wf = true) : C 8 [.agg #[vI g.id, vI g.n, vS g.s.p g.s.x.items.length, vS g.s.q g.s.x.floors.length, vS g.t.p g.t.l.length, vI g.t.root, vI g.g.cap, vI g.g.frm, vS g.g.p g.g.l.length, vS g.got.p g.got.l.length, vS g.acked.p g.acked.l.length, vS g.seen.p g.seen.t.length, vI g.num, vI g.slots, vS g.sess.p g.sess.l.length, vI g.wait, vI g.limit, vI g.clock, vS g.rises.p g.rises.l.length], vI n] st (fun v s => v = vB true) := by
 refine AC.enterX (i := ⟨[2, 6, 7, 9, 10, 11, 16, 17], [2, 6, 7, 9, 10, 11, 16, 17], [0, 1, 2, 4, 5, 6, 7, 8, 9, 10, 11, 12, 13, 14, 15, 16, 17, 18, 23, 55, 60, 82, 93, 98, 101, 124, 129, 134, 137]⟩) [(10, [2], [0])] Tryz.func8 rfl rfl (by kernel_rfl) (by kernel_rfl) Tryz.ntmps8 (Nat.le_of_ble_eq_true rfl) rfl ?_
 refine ⟨_, rfl, ?_⟩
 refine cxs ?_
 refine AW.cutM (1) st [(1, vI n), (2, vL 2 0 (0)), (4, vB false), (5, vI (1048576))] [(2, 0, cNV g)] ⟨rfl, rfl, rfl, rfl, trivial⟩ ⟨rfl, trivial⟩ rfl fun ρ0 ff => ?_
 refine ⟨_, op_ldo (v := (vNV g)) rfl rfl rfl rfl, ?_⟩
 refine ⟨_, rfl, (ac_laws_szNode g 1048576 st hR_g.1 (by decide) (by decide) hR_g.2).mono ?_⟩
 rintro _ st ⟨z_g, rfl, hr_g, hz_g, rfl⟩
 refine AW.cutM (1) st [(1, vI n), (2, vL 2 0 (0)), (4, vB false), (5, vI z_g)] [(2, 0, cNV g)] ⟨rfl, rfl, rfl, rfl, trivial⟩ ⟨rfl, trivial⟩ rfl fun ρ0 ff => ?_
 refine ⟨_, rfl, ?_⟩
 rintro (_|_) hn_g
 ·replace hn_g : ¬ (z_g < 0) := of_decide_eq_false hn_g
  refine AW.cutM (1) st [(1, vI n), (2, vL 2 0 (0)), (4, vB false), (23, vB false)] [(2, 0, cNV g)] ⟨rfl, rfl, rfl, rfl, trivial⟩ ⟨rfl, trivial⟩ rfl fun ρ0 ff => ?_
  have hz_g' := hz_g (by omega)
  have hb_g := sz_bigN (v := g) (by omega)
  have hc_g : cntNode g.x ≤ 8388608 := (cnt_Node (v := g) (by omega))
  refine cxs ?_
  refine ⟨_, op_ldo (v := (vNV g)) rfl rfl rfl rfl, ?_⟩
  refine ⟨_, rfl, (ac_laws_toNode g st hR_g.1 hb_g).mono ?_⟩
  rintro _ s1 ⟨u1, rfl, hu1, hO1, hN1, hP1⟩
  refine ⟨_, rfl, (ac_spec_Syn u1.v n s1 (OwnP.rdN (OwnP.left (OwnP.joinF OwnP.nil hP1 hO1 hN1))) (bigNW (hu1 ▸ hb_g))).mono ?_⟩
  rintro _ s2 ⟨r2, q2, b2, rfl, hr2, hO2, hN2, hP2⟩
  iterate 5 refine ⟨_, rfl, ?_⟩
  refine ⟨_, op_stw (vs := cNV r2.v) rfl rfl rfl rfl rfl rfl rfl rfl, ?_⟩
  refine ⟨_, rfl, ?_⟩
  refine AW.cutM (3) s2 [(1, vI n), (2, vL 2 0 (0)), (4, vB false), (6, vL 6 0 (1)), (7, vL 7 0 (2)), (8, vB b2)] [(2, 0, cNV g), (6, 1, cNV r2.v), (7, 2, cMV q2)] ⟨rfl, rfl, rfl, rfl, rfl, rfl, trivial⟩ ⟨rfl, rfl, rfl, trivial⟩ rfl fun ρ0 ff => ?_
  have hA5 : OwnP s2 (pcNW r2 ++ (pcMV q2 ++ (pcNW u1 ++ []))) := (OwnP.joinF2 (OwnP.joinF OwnP.nil hP1 hO1 hN1) hP2 hO2 hN2)
  have hQ5 : Pres st s2 := (hP1.trans hP2)
  refine ⟨_, op_ldo (v := (vNV g)) rfl rfl rfl rfl, ?_⟩
  refine ⟨_, rfl, (ac_laws_toNode g s2 (hR_g.1.pres hQ5) hb_g).mono ?_⟩
  rintro _ s3 ⟨u3, rfl, hu3, hO3, hN3, hP3⟩
  refine ⟨_, rfl, ?_⟩
  refine ⟨_, op_stw (vs := cNV u3.v) rfl rfl rfl rfl rfl rfl rfl rfl, ?_⟩
  refine AW.cutM (4) s3 [(1, vI n), (2, vL 2 0 (0)), (4, vB false), (6, vL 6 0 (1)), (7, vL 7 0 (2)), (8, vB b2), (9, vL 9 0 (3))] [(2, 0, cNV g), (6, 1, cNV r2.v), (7, 2, cMV q2), (9, 3, cNV u3.v)] ⟨rfl, rfl, rfl, rfl, rfl, rfl, rfl, trivial⟩ ⟨rfl, rfl, rfl, rfl, trivial⟩ rfl fun ρ0 ff => ?_
  have hA6 : OwnP s3 (pcNW u3 ++ (pcNW r2 ++ (pcMV q2 ++ (pcNW u1 ++ [])))) := (OwnP.joinF hA5 hP3 hO3 hN3)
  have hQ6 : Pres st s3 := (hQ5.trans hP3)
  refine ⟨_, op_ldo (v := (vNV u3.v)) rfl rfl rfl rfl, ?_⟩
  refine ⟨_, rfl, (ac_impl_Syn u3.v n s3 (OwnP.rdN (OwnP.left hA6)) (bigNW (hu3 ▸ hb_g))).mono ?_⟩
  rintro _ s4 ⟨r4, q4, b4, rfl, hr4, hO4, hN4, hP4⟩
  iterate 5 refine ⟨_, rfl, ?_⟩
  refine ⟨_, op_stw (vs := cNV r4.v) rfl rfl rfl rfl rfl rfl rfl rfl, ?_⟩
  refine ⟨_, rfl, ?_⟩
  refine AW.cutM (6) s4 [(1, vI n), (2, vL 2 0 (0)), (4, vB false), (6, vL 6 0 (1)), (7, vL 7 0 (2)), (8, vB b2), (9, vL 9 0 (3)), (10, vL 10 0 (4)), (11, vL 11 0 (5)), (12, vB b4)] [(2, 0, cNV g), (6, 1, cNV r2.v), (7, 2, cMV q2), (9, 3, cNV u3.v), (10, 4, cNV r4.v), (11, 5, cMV q4)] ⟨rfl, rfl, rfl, rfl, rfl, rfl, rfl, rfl, rfl, rfl, trivial⟩ ⟨rfl, rfl, rfl, rfl, rfl, rfl, trivial⟩ rfl fun ρ0 ff => ?_
  have hA7 : OwnP s4 (pcNW r4 ++ (pcMV q4 ++ (pcNW u3 ++ (pcNW r2 ++ (pcMV q2 ++ (pcNW u1 ++ [])))))) := (OwnP.joinF2 hA6 hP4 hO4 hN4)
  have hQ7 : Pres st s4 := (hQ6.trans hP4)
  have hE1 : (r4.x, q4.x, b4) = (r2.x, q2.x, b2) := by rw [hr4, hr2, show u3.v.x = _ from hu3, show u1.v.x = _ from hu1]
  refine ⟨_, op_ldo (v := (vNV r4.v)) rfl rfl rfl rfl, ?_⟩
  refine ⟨_, op_ldo (v := (vNV r2.v)) rfl rfl rfl rfl, ?_⟩
  refine ⟨_, rfl, (AC.tru (uc_eqNode r4 r2 s4 (OwnP.rdN (OwnP.left hA7)) (OwnP.rdN (OwnP.left (OwnP.right (OwnP.right (OwnP.right hA7))))) (syn_big hr4 (bigNW (hu3 ▸ hb_g)))) ((Prod.mk.inj hE1).1)).mono ?_⟩
  rintro _ s4 ⟨rfl, rfl⟩
  iterate 3 refine ⟨_, rfl, ?_⟩
  refine ⟨_, rfl, (AC.tru (ac_laws_eqMsg q4 q2 s4 (OwnP.rdM (OwnP.left (OwnP.right hA7))) (OwnP.rdM (OwnP.left (OwnP.right (OwnP.right (OwnP.right (OwnP.right hA7)))))) (syn_bigm hr4 (bigNW (hu3 ▸ hb_g)))) ((Prod.mk.inj (Prod.mk.inj hE1).2).1)).mono ?_⟩
  rintro _ s4 ⟨rfl, rfl⟩
  iterate 3 refine ⟨_, rfl, ?_⟩
  rintro (_|_) he5
  rotate_left
  ·exact absurd (((Prod.mk.inj (Prod.mk.inj hE1).2).2)) (b_ne he5)
  refine ⟨_, rfl, ?_⟩
  refine AW.cutM (6) s4 [(1, vI n), (2, vL 2 0 (0)), (4, vB false), (6, vL 6 0 (1)), (7, vL 7 0 (2)), (8, vB b2), (9, vL 9 0 (3)), (10, vL 10 0 (4)), (11, vL 11 0 (5)), (12, vB b4), (55, vB false)] [(2, 0, cNV g), (6, 1, cNV r2.v), (7, 2, cMV q2), (9, 3, cNV u3.v), (10, 4, cNV r4.v), (11, 5, cMV q4)] ⟨rfl, rfl, rfl, rfl, rfl, rfl, rfl, rfl, rfl, rfl, rfl, trivial⟩ ⟨rfl, rfl, rfl, rfl, rfl, rfl, trivial⟩ rfl fun ρ0 ff => ?_
  refine cxs ?_
  refine ⟨_, op_ldo (v := (vNV u3.v)) rfl rfl rfl rfl, ?_⟩
  refine ⟨ld_own rfl rfl rfl, ?_⟩
  refine ⟨_, op_ldo (v := (vNV g)) rfl rfl rfl rfl, ?_⟩
  refine ⟨_, rfl, (ac_laws_toNode g s4 (hR_g.1.pres hQ7) hb_g).mono ?_⟩
  rintro _ s6 ⟨u6, rfl, hu6, hO6, hN6, hP6⟩
  refine ⟨hP6.2, ?_⟩
  refine ⟨_, rfl, (AC.tru (uc_eqNode u3 u6 s6 (OwnP.rdN (OwnP.left (OwnP.right (OwnP.right (OwnP.right (OwnP.joinF hA7 hP6 hO6 hN6)))))) (OwnP.rdN (OwnP.left (OwnP.joinF hA7 hP6 hO6 hN6))) (hu3 ▸ hb_g)) (hu3.trans hu6.symm)).mono ?_⟩
  rintro _ s6 ⟨rfl, rfl⟩
  refine ⟨_, rfl, ?_⟩
  refine AW.cutM (6) s6 [(1, vI n), (2, vL 2 0 (0)), (4, vB false), (6, vL 6 0 (1)), (7, vL 7 0 (2)), (8, vB b2), (9, vL 9 0 (3)), (10, vL 10 0 (4)), (11, vL 11 0 (5)), (12, vB b4), (60, vB false)] [(2, 0, cNV g), (6, 1, cNV r2.v), (7, 2, cMV q2), (9, 3, cNV u3.v), (10, 4, cNV r4.v), (11, 5, cMV q4)] ⟨rfl, rfl, rfl, rfl, rfl, rfl, rfl, rfl, rfl, rfl, rfl, trivial⟩ ⟨rfl, rfl, rfl, rfl, rfl, rfl, trivial⟩ rfl fun ρ0 ff => ?_
  have hA10 : OwnP s6 (pcNW u6 ++ (pcNW r4 ++ (pcMV q4 ++ (pcNW u3 ++ (pcNW r2 ++ (pcMV q2 ++ (pcNW u1 ++ []))))))) := (OwnP.joinF hA7 hP6 hO6 hN6)
  have hQ10 : Pres st s6 := (hQ7.trans hP6)
  refine cxs ?_
  refine AW.cutM (6) s6 [(1, vI n), (2, vL 2 0 (0)), (4, vB false), (6, vL 6 0 (1)), (7, vL 7 0 (2)), (8, vB b2), (9, vL 9 0 (3)), (10, vL 10 0 (4)), (11, vL 11 0 (5)), (12, vB b4), (13, vI (1))] [(2, 0, cNV g), (6, 1, cNV r2.v), (7, 2, cMV q2), (9, 3, cNV u3.v), (10, 4, cNV r4.v), (11, 5, cMV q4)] ⟨rfl, rfl, rfl, rfl, rfl, rfl, rfl, rfl, rfl, rfl, rfl, trivial⟩ ⟨rfl, rfl, rfl, rfl, rfl, rfl, trivial⟩ rfl fun ρ0 ff => ?_
  refine ⟨_, op_ldo (v := (vNV u3.v)) rfl rfl rfl rfl, ?_⟩
  have hM7 := (OwnP.front3 hA10)
  have hNw7 := newPs (hN3.le ((hP1.trans hP2)).1)
  have hcm7 : cntNode u3.x ≤ 8388608 := by rw [hu3]; exact hc_g
  refine ⟨_, rfl, (uc_markNode u3 1 s6 (OwnP.left hM7) (hu3 ▸ hb_g) (by omega) (by omega)).mono ?_⟩
  rintro _ s7 ⟨rfl, hO7, hL7⟩
  refine AW.cutM (6) s7 [(1, vI n), (2, vL 2 0 (0)), (4, vB false), (6, vL 6 0 (1)), (7, vL 7 0 (2)), (8, vB b2), (10, vL 10 0 (4)), (11, vL 11 0 (5)), (12, vB b4), (13, vI (1 + (cntNode u3.x : Int)))] [(2, 0, cNV g), (6, 1, cNV r2.v), (7, 2, cMV q2), (10, 4, cNV r4.v), (11, 5, cMV q4)] ⟨rfl, rfl, rfl, rfl, rfl, rfl, rfl, rfl, rfl, rfl, trivial⟩ ⟨rfl, rfl, rfl, rfl, rfl, trivial⟩ rfl fun ρ0 ff => ?_
  have hA13 : OwnP s7 (pcNW (mkNode u3 1) ++ _) := OwnP.markG hM7 hO7 (mkp_Node _ _) hL7
  have hQ13 : Pres st s7 := hL7.pres hQ10 hNw7
  refine ⟨_, rfl, ?_⟩
  rintro (_|_) hg8
  rotate_left
  ·exact absurd (of_decide_eq_true hg8) ((by omega))
  refine ⟨_, op_ldo (v := (vNV r4.v)) rfl rfl rfl rfl, ?_⟩
  refine ⟨_, op_ldo (v := (vNV r2.v)) rfl rfl rfl rfl, ?_⟩
  refine ⟨_, rfl, (AC.tru (uc_eqNode r4 r2 s7 (OwnP.rdN (OwnP.left (OwnP.right (OwnP.right hA13)))) (OwnP.rdN (OwnP.left (OwnP.right (OwnP.right (OwnP.right (OwnP.right hA13)))))) (syn_big hr4 (bigNW (hu3 ▸ hb_g)))) ((Prod.mk.inj hE1).1)).mono ?_⟩
  rintro _ s7 ⟨rfl, rfl⟩
  iterate 4 refine ⟨_, rfl, ?_⟩
  refine ⟨_, rfl, (AC.tru (ac_laws_eqMsg q4 q2 s7 (OwnP.rdM (OwnP.left (OwnP.right (OwnP.right (OwnP.right hA13))))) (OwnP.rdM (OwnP.left (OwnP.right (OwnP.right (OwnP.right (OwnP.right (OwnP.right hA13))))))) (syn_bigm hr4 (bigNW (hu3 ▸ hb_g)))) ((Prod.mk.inj (Prod.mk.inj hE1).2).1)).mono ?_⟩
  rintro _ s7 ⟨rfl, rfl⟩
  iterate 3 refine ⟨_, rfl, ?_⟩
  rintro (_|_) he9
  rotate_left
  ·exact absurd (((Prod.mk.inj (Prod.mk.inj hE1).2).2)) (b_ne he9)
  refine ⟨_, rfl, ?_⟩
  refine AW.cutM (6) s7 [(1, vI n), (2, vL 2 0 (0)), (4, vB false), (6, vL 6 0 (1)), (7, vL 7 0 (2)), (8, vB b2), (10, vL 10 0 (4)), (11, vL 11 0 (5)), (82, vB false)] [(2, 0, cNV g), (6, 1, cNV r2.v), (7, 2, cMV q2), (10, 4, cNV r4.v), (11, 5, cMV q4)] ⟨rfl, rfl, rfl, rfl, rfl, rfl, rfl, rfl, rfl, trivial⟩ ⟨rfl, rfl, rfl, rfl, rfl, trivial⟩ rfl fun ρ0 ff => ?_
  refine cxs ?_
  refine AW.cutM (6) s7 [(1, vI n), (2, vL 2 0 (0)), (4, vB false), (6, vL 6 0 (1)), (7, vL 7 0 (2)), (8, vB b2), (10, vL 10 0 (4)), (11, vL 11 0 (5)), (14, vI (1))] [(2, 0, cNV g), (6, 1, cNV r2.v), (7, 2, cMV q2), (10, 4, cNV r4.v), (11, 5, cMV q4)] ⟨rfl, rfl, rfl, rfl, rfl, rfl, rfl, rfl, rfl, trivial⟩ ⟨rfl, rfl, rfl, rfl, rfl, trivial⟩ rfl fun ρ0 ff => ?_
  refine ⟨_, op_ldo (v := (vNV r4.v)) rfl rfl rfl rfl, ?_⟩
  have hM10 := (OwnP.front2 hA13)
  have hNw10 := newPs ((NewP.left hN4).le (((hP1.trans hP2).trans hP3)).1)
  have hcm10 : cntNode r4.x ≤ 16777216 := syn_cnt hr4 (cntNW (hu3 ▸ hc_g))
  refine ⟨_, rfl, (uc_markNode r4 1 s7 (OwnP.left hM10) (syn_big hr4 (bigNW (hu3 ▸ hb_g))) (by omega) (by omega)).mono ?_⟩
  rintro _ s10 ⟨rfl, hO10, hL10⟩
  refine AW.cutM (6) s10 [(1, vI n), (2, vL 2 0 (0)), (4, vB false), (6, vL 6 0 (1)), (7, vL 7 0 (2)), (8, vB b2), (10, vL 10 0 (4)), (11, vL 11 0 (5)), (14, vI (1 + (cntNode r4.x : Int)))] [(2, 0, cNV g), (6, 1, cNV r2.v), (7, 2, cMV q2), (10, 4, cNV r4.v), (11, 5, cMV q4)] ⟨rfl, rfl, rfl, rfl, rfl, rfl, rfl, rfl, rfl, trivial⟩ ⟨rfl, rfl, rfl, rfl, rfl, trivial⟩ rfl fun ρ0 ff => ?_
  have hA17 : OwnP s10 (pcNW (mkNode r4 1) ++ _) := OwnP.markG hM10 hO10 (mkp_Node _ _) hL10
  have hQ17 : Pres st s10 := hL10.pres hQ13 hNw10
  refine ⟨_, rfl, ?_⟩
  have hM11 := (OwnP.front3 hA17)
  have hNw11 := newPs ((NewP.right hN4).le (((hP1.trans hP2).trans hP3)).1)
  have hcm11 : cntMsg q4.x ≤ 16777216 := bigM_cnt (syn_bigm hr4 (bigNW (hu3 ▸ hb_g)))
  refine ⟨_, rfl, (uc_markMsg q4 _ s10 (OwnP.left hM11) (syn_bigm hr4 (bigNW (hu3 ▸ hb_g))) (by omega) (by omega)).mono ?_⟩
  rintro _ s11 ⟨rfl, hO11, hL11⟩
  refine cxs ?_
  have hA18 : OwnP s11 (pcMV (mkMsg q4 (1 + (cntNode r4.x : Int))) ++ _) := OwnP.markG hM11 hO11 (mkp_Msg _ _) hL11
  have hQ18 : Pres st s11 := hL11.pres hQ17 hNw11
  refine AW.cutM (6) s11 [(1, vI n), (2, vL 2 0 (0)), (4, vB false), (6, vL 6 0 (1)), (7, vL 7 0 (2)), (8, vB b2), (10, vL 10 0 (4)), (11, vL 11 0 (5)), (14, vI (1 + (cntNode r4.x : Int) + (cntMsg q4.x : Int))), (15, vI (1))] [(2, 0, cNV g), (6, 1, cNV r2.v), (7, 2, cMV q2), (10, 4, cNV r4.v), (11, 5, cMV q4)] ⟨rfl, rfl, rfl, rfl, rfl, rfl, rfl, rfl, rfl, rfl, trivial⟩ ⟨rfl, rfl, rfl, rfl, rfl, trivial⟩ rfl fun ρ0 ff => ?_
  refine ⟨_, op_ldo (v := (vNV r4.v)) rfl rfl rfl rfl, ?_⟩
  refine ⟨_, rfl, (uc_heldNode r4 1 s11 (OwnP.left (OwnP.right hA18)) (syn_big hr4 (bigNW (hu3 ▸ hb_g))) (by decide) (by omega)).mono ?_⟩
  rintro _ s12 ⟨rfl, hP12⟩
  refine AW.cutM (6) s12 [(1, vI n), (2, vL 2 0 (0)), (4, vB false), (6, vL 6 0 (1)), (7, vL 7 0 (2)), (8, vB b2), (10, vL 10 0 (4)), (11, vL 11 0 (5)), (14, vI (1 + (cntNode r4.x : Int) + (cntMsg q4.x : Int))), (15, vI (1 + (cntNode r4.x : Int)))] [(2, 0, cNV g), (6, 1, cNV r2.v), (7, 2, cMV q2), (10, 4, cNV r4.v), (11, 5, cMV q4)] ⟨rfl, rfl, rfl, rfl, rfl, rfl, rfl, rfl, rfl, rfl, trivial⟩ ⟨rfl, rfl, rfl, rfl, rfl, trivial⟩ rfl fun ρ0 ff => ?_
  have hA20 : OwnP s12 (pcMV (mkMsg q4 (1 + (cntNode r4.x : Int))) ++ (pcNW (mkNode r4 1) ++ (pcNW (mkNode u3 1) ++ (pcNW u6 ++ (pcNW r2 ++ (pcMV q2 ++ (pcNW u1 ++ []))))))) := (OwnP.pres hA18 hP12)
  have hQ20 : Pres st s12 := (hQ18.trans hP12)
  refine ⟨_, rfl, ?_⟩
  rintro (_|_) hg13
  rotate_left
  ·exact absurd (of_decide_eq_true hg13) ((by omega))
  refine AW.cutM (6) s12 [(1, vI n), (2, vL 2 0 (0)), (4, vB false), (6, vL 6 0 (1)), (7, vL 7 0 (2)), (8, vB b2), (10, vL 10 0 (4)), (11, vL 11 0 (5)), (14, vI (1 + (cntNode r4.x : Int) + (cntMsg q4.x : Int))), (15, vI (1 + (cntNode r4.x : Int))), (93, vB false)] [(2, 0, cNV g), (6, 1, cNV r2.v), (7, 2, cMV q2), (10, 4, cNV r4.v), (11, 5, cMV q4)] ⟨rfl, rfl, rfl, rfl, rfl, rfl, rfl, rfl, rfl, rfl, rfl, trivial⟩ ⟨rfl, rfl, rfl, rfl, rfl, trivial⟩ rfl fun ρ0 ff => ?_
  refine cxs ?_
  refine ⟨_, rfl, ?_⟩
  refine ⟨_, rfl, (uc_heldMsg q4 (1 + (cntNode r4.x : Int)) s12 (OwnP.left hA20) (syn_bigm hr4 (bigNW (hu3 ▸ hb_g))) (by omega) (by omega)).mono ?_⟩
  rintro _ s14 ⟨rfl, hP14⟩
  refine AW.cutM (6) s14 [(1, vI n), (2, vL 2 0 (0)), (4, vB false), (6, vL 6 0 (1)), (7, vL 7 0 (2)), (8, vB b2), (10, vL 10 0 (4)), (11, vL 11 0 (5)), (14, vI (1 + (cntNode r4.x : Int) + (cntMsg q4.x : Int))), (15, vI (1 + (cntNode r4.x : Int) + (cntMsg q4.x : Int)))] [(2, 0, cNV g), (6, 1, cNV r2.v), (7, 2, cMV q2), (10, 4, cNV r4.v), (11, 5, cMV q4)] ⟨rfl, rfl, rfl, rfl, rfl, rfl, rfl, rfl, rfl, rfl, trivial⟩ ⟨rfl, rfl, rfl, rfl, rfl, trivial⟩ rfl fun ρ0 ff => ?_
  have hA23 : OwnP s14 (pcMV (mkMsg q4 (1 + (cntNode r4.x : Int))) ++ (pcNW (mkNode r4 1) ++ (pcNW (mkNode u3 1) ++ (pcNW u6 ++ (pcNW r2 ++ (pcMV q2 ++ (pcNW u1 ++ []))))))) := (OwnP.pres hA20 hP14)
  have hQ23 : Pres st s14 := (hQ20.trans hP14)
  refine ⟨_, rfl, ?_⟩
  rintro (_|_) hg15
  rotate_left
  ·exact absurd (of_decide_eq_true hg15) ((by omega))
  refine AW.cutM (6) s14 [(1, vI n), (2, vL 2 0 (0)), (4, vB false), (6, vL 6 0 (1)), (7, vL 7 0 (2)), (8, vB b2), (10, vL 10 0 (4)), (11, vL 11 0 (5)), (14, vI (1 + (cntNode r4.x : Int) + (cntMsg q4.x : Int))), (15, vI (1 + (cntNode r4.x : Int) + (cntMsg q4.x : Int))), (98, vB false)] [(2, 0, cNV g), (6, 1, cNV r2.v), (7, 2, cMV q2), (10, 4, cNV r4.v), (11, 5, cMV q4)] ⟨rfl, rfl, rfl, rfl, rfl, rfl, rfl, rfl, rfl, rfl, rfl, trivial⟩ ⟨rfl, rfl, rfl, rfl, rfl, trivial⟩ rfl fun ρ0 ff => ?_
  refine cxs ?_
  refine ⟨_, rfl, ?_⟩
  rintro (_|_) hg16
  rotate_left
  ·exact absurd (rfl) (bne_iff_ne.1 hg16)
  refine AW.cutM (6) s14 [(1, vI n), (2, vL 2 0 (0)), (4, vB false), (6, vL 6 0 (1)), (7, vL 7 0 (2)), (8, vB b2), (10, vL 10 0 (4)), (11, vL 11 0 (5)), (14, vI (1 + (cntNode r4.x : Int) + (cntMsg q4.x : Int))), (15, vI (1 + (cntNode r4.x : Int) + (cntMsg q4.x : Int))), (101, vB false)] [(2, 0, cNV g), (6, 1, cNV r2.v), (7, 2, cMV q2), (10, 4, cNV r4.v), (11, 5, cMV q4)] ⟨rfl, rfl, rfl, rfl, rfl, rfl, rfl, rfl, rfl, rfl, rfl, trivial⟩ ⟨rfl, rfl, rfl, rfl, rfl, trivial⟩ rfl fun ρ0 ff => ?_
  refine cxs ?_
  refine ⟨_, op_ldo (v := (vNV g)) rfl rfl rfl rfl, ?_⟩
  refine ⟨_, rfl, (ac_laws_toNode g s14 (hR_g.1.pres hQ23) hb_g).mono ?_⟩
  rintro _ s17 ⟨u17, rfl, hu17, hO17, hN17, hP17⟩
  refine ⟨_, rfl, (ac_impl_Syn u17.v n s17 (OwnP.rdN (OwnP.left (OwnP.joinF hA23 hP17 hO17 hN17))) (bigNW (hu17 ▸ hb_g))).mono ?_⟩
  rintro _ s18 ⟨r18, q18, b18, rfl, hr18, hO18, hN18, hP18⟩
  iterate 5 refine ⟨_, rfl, ?_⟩
  refine ⟨_, op_stw (vs := cNV r18.v) rfl rfl rfl rfl rfl rfl rfl rfl, ?_⟩
  refine ⟨_, rfl, ?_⟩
  refine AW.cutM (8) s18 [(4, vB false), (6, vL 6 0 (1)), (7, vL 7 0 (2)), (8, vB b2), (10, vL 10 0 (4)), (11, vL 11 0 (5)), (14, vI (1 + (cntNode r4.x : Int) + (cntMsg q4.x : Int))), (15, vI (1 + (cntNode r4.x : Int) + (cntMsg q4.x : Int))), (16, vL 16 0 (6)), (17, vL 17 0 (7)), (18, vB b18)] [(6, 1, cNV r2.v), (7, 2, cMV q2), (10, 4, cNV r4.v), (11, 5, cMV q4), (16, 6, cNV r18.v), (17, 7, cMV q18)] ⟨rfl, rfl, rfl, rfl, rfl, rfl, rfl, rfl, rfl, rfl, rfl, trivial⟩ ⟨rfl, rfl, rfl, rfl, rfl, rfl, trivial⟩ rfl fun ρ0 ff => ?_
  have hA28 : OwnP s18 (pcNW r18 ++ (pcMV q18 ++ (pcNW u17 ++ (pcMV (mkMsg q4 (1 + (cntNode r4.x : Int))) ++ (pcNW (mkNode r4 1) ++ (pcNW (mkNode u3 1) ++ (pcNW u6 ++ (pcNW r2 ++ (pcMV q2 ++ (pcNW u1 ++ [])))))))))) := (OwnP.joinF2 (OwnP.joinF hA23 hP17 hO17 hN17) hP18 hO18 hN18)
  have hQ28 : Pres st s18 := ((hQ23.trans hP17).trans hP18)
  have hE2 : (r18.x, q18.x, b18) = (r2.x, q2.x, b2) := by rw [hr18, hr2, show u17.v.x = _ from hu17, show u1.v.x = _ from hu1]
  refine ⟨_, op_ldo (v := (vNV r18.v)) rfl rfl rfl rfl, ?_⟩
  refine ⟨_, op_ldo (v := (vNV r2.v)) rfl rfl rfl rfl, ?_⟩
  refine ⟨_, rfl, (AC.tru (uc_eqNode r18 r2 s18 (OwnP.rdN (OwnP.left hA28)) (OwnP.rdN (OwnP.left (OwnP.right (OwnP.right (OwnP.right (OwnP.right (OwnP.right (OwnP.right (OwnP.right hA28))))))))) (syn_big hr18 (bigNW (hu17 ▸ hb_g)))) ((Prod.mk.inj hE2).1)).mono ?_⟩
  rintro _ s18 ⟨rfl, rfl⟩
  iterate 3 refine ⟨_, rfl, ?_⟩
  refine ⟨_, rfl, (AC.tru (ac_laws_eqMsg q18 q2 s18 (OwnP.rdM (OwnP.left (OwnP.right hA28))) (OwnP.rdM (OwnP.left (OwnP.right (OwnP.right (OwnP.right (OwnP.right (OwnP.right (OwnP.right (OwnP.right (OwnP.right hA28)))))))))) (syn_bigm hr18 (bigNW (hu17 ▸ hb_g)))) ((Prod.mk.inj (Prod.mk.inj hE2).2).1)).mono ?_⟩
  rintro _ s18 ⟨rfl, rfl⟩
  iterate 3 refine ⟨_, rfl, ?_⟩
  rintro (_|_) he19
  rotate_left
  ·exact absurd (((Prod.mk.inj (Prod.mk.inj hE2).2).2)) (b_ne he19)
  refine ⟨_, rfl, ?_⟩
  refine AW.cutM (8) s18 [(4, vB false), (10, vL 10 0 (4)), (11, vL 11 0 (5)), (14, vI (1 + (cntNode r4.x : Int) + (cntMsg q4.x : Int))), (15, vI (1 + (cntNode r4.x : Int) + (cntMsg q4.x : Int))), (124, vB false)] [(10, 4, cNV r4.v), (11, 5, cMV q4)] ⟨rfl, rfl, rfl, rfl, rfl, rfl, trivial⟩ ⟨rfl, rfl, trivial⟩ rfl fun ρ0 ff => ?_
  refine cxs ?_
  refine AW.cutM (8) s18 [(4, vB false), (10, vL 10 0 (4)), (11, vL 11 0 (5)), (14, vI (1 + (cntNode r4.x : Int) + (cntMsg q4.x : Int))), (15, vI (1))] [(10, 4, cNV r4.v), (11, 5, cMV q4)] ⟨rfl, rfl, rfl, rfl, rfl, trivial⟩ ⟨rfl, rfl, trivial⟩ rfl fun ρ0 ff => ?_
  refine ⟨_, op_ldo (v := (vNV r4.v)) rfl rfl rfl rfl, ?_⟩
  refine ⟨_, rfl, (uc_heldNode r4 1 s18 (OwnP.left (OwnP.right (OwnP.right (OwnP.right (OwnP.right hA28))))) (syn_big hr4 (bigNW (hu3 ▸ hb_g))) (by decide) (by omega)).mono ?_⟩
  rintro _ s20 ⟨rfl, hP20⟩
  refine AW.cutM (8) s20 [(4, vB false), (11, vL 11 0 (5)), (14, vI (1 + (cntNode r4.x : Int) + (cntMsg q4.x : Int))), (15, vI (1 + (cntNode r4.x : Int)))] [(11, 5, cMV q4)] ⟨rfl, rfl, rfl, rfl, trivial⟩ ⟨rfl, trivial⟩ rfl fun ρ0 ff => ?_
  have hA32 : OwnP s20 (pcNW r18 ++ (pcMV q18 ++ (pcNW u17 ++ (pcMV (mkMsg q4 (1 + (cntNode r4.x : Int))) ++ (pcNW (mkNode r4 1) ++ (pcNW (mkNode u3 1) ++ (pcNW u6 ++ (pcNW r2 ++ (pcMV q2 ++ (pcNW u1 ++ [])))))))))) := (OwnP.pres hA28 hP20)
  have hQ32 : Pres st s20 := (hQ28.trans hP20)
  refine ⟨_, rfl, ?_⟩
  rintro (_|_) hg21
  rotate_left
  ·exact absurd (of_decide_eq_true hg21) ((by omega))
  refine AW.cutM (8) s20 [(4, vB false), (11, vL 11 0 (5)), (14, vI (1 + (cntNode r4.x : Int) + (cntMsg q4.x : Int))), (15, vI (1 + (cntNode r4.x : Int))), (129, vB false)] [(11, 5, cMV q4)] ⟨rfl, rfl, rfl, rfl, rfl, trivial⟩ ⟨rfl, trivial⟩ rfl fun ρ0 ff => ?_
  refine cxs ?_
  refine ⟨_, rfl, ?_⟩
  refine ⟨_, rfl, (uc_heldMsg q4 (1 + (cntNode r4.x : Int)) s20 (OwnP.left (OwnP.right (OwnP.right (OwnP.right hA32)))) (syn_bigm hr4 (bigNW (hu3 ▸ hb_g))) (by omega) (by omega)).mono ?_⟩
  rintro _ s22 ⟨rfl, hP22⟩
  refine AW.cutM (8) s22 [(4, vB false), (14, vI (1 + (cntNode r4.x : Int) + (cntMsg q4.x : Int))), (15, vI (1 + (cntNode r4.x : Int) + (cntMsg q4.x : Int)))] [] ⟨rfl, rfl, rfl, trivial⟩ trivial rfl fun ρ0 ff => ?_
  have hA35 : OwnP s22 (pcNW r18 ++ (pcMV q18 ++ (pcNW u17 ++ (pcMV (mkMsg q4 (1 + (cntNode r4.x : Int))) ++ (pcNW (mkNode r4 1) ++ (pcNW (mkNode u3 1) ++ (pcNW u6 ++ (pcNW r2 ++ (pcMV q2 ++ (pcNW u1 ++ [])))))))))) := (OwnP.pres hA32 hP22)
  have hQ35 : Pres st s22 := (hQ32.trans hP22)
  refine ⟨_, rfl, ?_⟩
  rintro (_|_) hg23
  rotate_left
  ·exact absurd (of_decide_eq_true hg23) ((by omega))
  refine AW.cutM (8) s22 [(4, vB false), (14, vI (1 + (cntNode r4.x : Int) + (cntMsg q4.x : Int))), (15, vI (1 + (cntNode r4.x : Int) + (cntMsg q4.x : Int))), (134, vB false)] [] ⟨rfl, rfl, rfl, rfl, trivial⟩ trivial rfl fun ρ0 ff => ?_
  refine cxs ?_
  refine ⟨_, rfl, ?_⟩
  rintro (_|_) hg24
  rotate_left
  ·exact absurd (rfl) (bne_iff_ne.1 hg24)
  refine AW.cutM (8) s22 [(4, vB false), (137, vB false)] [] ⟨rfl, rfl, trivial⟩ trivial rfl fun ρ0 ff => ?_
  refine cxs ?_
  refine cxs ?_
  exact ⟨.inl rfl, _, rfl, rfl⟩
 ·replace hn_g : z_g < 0 := of_decide_eq_true hn_g
  refine AW.cutM (1) st [(1, vI n), (2, vL 2 0 (0)), (4, vB false), (23, vB true)] [(2, 0, cNV g)] ⟨rfl, rfl, rfl, rfl, trivial⟩ ⟨rfl, trivial⟩ rfl fun ρ0 ff => ?_
  refine cxs ?_
  exact ⟨.inl rfl, _, rfl, rfl⟩
end Go.Proofs.YtbogbnjnjjhnbaaGreat.AM
