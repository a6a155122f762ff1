/- Contracts of rows and tables of ints: marked, held, sized, copied, compared; new tables. -/
import Derived.Test.YtopakkndacbbpaaF6
import Derived.Test.YtopakkndacbbpaaP0
namespace Go.Proofs.Ytopakkndacbbpaa.AM
open Go Go.Proofs
set_option linter.unusedVariables false
set_option linter.unusedSimpArgs false
set_option maxRecDepth 100000
set_option maxHeartbeats 4000000
def mkInts (n : Nat) (k : Int) : List Int := (List.range n).map fun (j : Nat) => k + (j : Int)
theorem mkInts_len (n : Nat) (k : Int) : (mkInts n k).length = n := by simp [mkInts]
theorem mkInts_get {n : Nat} {k : Int} {j : Nat} {x : Int} (h : (mkInts n k)[j]? = some x) : x = k + (j : Int) := by
  have hj := (List.getElem?_eq_some_iff.1 h).1
  rw [mkInts_len] at hj
  simp [mkInts, List.getElem?_range hj] at h
  exact h.symm
theorem mark_set {l : List Int} {k : Int} {i : Nat} (hi : i < l.length) : (mkInts i k ++ l.drop i).set i (k + (i : Int)) = mkInts (i + 1) k ++ l.drop (i + 1) := by
  have h1 : mkInts (i + 1) k = mkInts i k ++ [k + (i : Int)] := by simp [mkInts, List.range_succ]
  rw [List.set_append_right _ _ (by rw [mkInts_len]; exact Nat.le_refl _), mkInts_len, Nat.sub_self, List.drop_eq_getElem_cons hi, List.set_cons_zero, h1]
  simp
theorem ac_laws_markIntS (p : Option Addr) (l : List Int) (k : Int) (st : St) (hO : OwnR st 1 fI p l) (hs : szOk l.length) (h0 : 0 ≤ k) (hk : k ≤ 1125899906842624) : C 22 [vS p l.length, vI k] st (fun v s => v = vI (k + (l.length : Int)) ∧ OwnR s 1 fI p (mkInts l.length k) ∧ Pr p st s) := by
  have hs : l.length ≤ 1048576 := hs
  refine AC.enterX (i := ⟨[], [], [0, 1, 4, 5, 9]⟩) [] Try.func22 rfl rfl (by kernel_rfl) (by kernel_rfl) Try.ntmps22 (Nat.le_of_ble_eq_true rfl) rfl ?_
  refine cx_sound _ _ _ _ _ ?_
  refine AW.cut lo0 st [(0, vS p l.length), (1, vI k), (4, vI (0)), (5, vI (0))] ⟨rfl, rfl, rfl, rfl, trivial⟩ fun ρ0 => ?_
  refine AW.loop0 (fun i : Nat => [(0, vS p l.length), (1, vI (k + (i : Int))), (5, vI (i : Int))]) (fun m (i : Nat) st' => m = l.length - i ∧ i ≤ l.length ∧ OwnR st' 1 fI p (mkInts i k ++ l.drop i) ∧ Pr p st st') 0 _ ⟨rfl, congrArg (Value.int .i64) (Int.add_zero k).symm, rfl, trivial⟩ rfl ⟨rfl, Nat.zero_le _, by simpa [mkInts] using hO, Pr.refl _ _⟩ ?_
  rintro m i ρ0 st' ⟨rfl, hi, hO', hP'⟩
  iterate 2 refine ⟨_, rfl, ?_⟩
  rintro (_|_) h1
  · replace h1 : ¬ ((i : Int) < (l.length : Int)) := of_decide_eq_false h1
    refine AW.cut lo0 st' [(0, vS p l.length), (1, vI (k + (i : Int))), (5, vI (i : Int)), (9, vB false)] ⟨rfl, rfl, rfl, rfl, trivial⟩ fun ρ0 => ?_
    refine cx_sound _ _ _ _ _ ?_
    refine cx_sound _ _ _ _ _ ?_
    have hil : i = l.length := by omega
    subst hil
    rw [List.drop_length, List.append_nil] at hO'
    exact ⟨.inl rfl, _, rfl, rfl, hO', hP'⟩
  · replace h1 : (i : Int) < (l.length : Int) := of_decide_eq_true h1
    refine AW.cut lo0 st' [(0, vS p l.length), (1, vI (k + (i : Int))), (5, vI (i : Int)), (9, vB true)] ⟨rfl, rfl, rfl, rfl, trivial⟩ fun ρ0 => ?_
    have h1' := Int.ofNat_lt.1 h1
    have hlen : i < (mkInts i k ++ l.drop i).length := by rw [List.length_append, mkInts_len, List.length_drop]; omega
    have ⟨a, ha⟩ := hO'.some (by omega)
    refine cx_sound _ _ _ _ _ ?_
    refine ⟨_, op_idx (j := (i : Int)) (n := l.length) (q := ⟨a, 0, none⟩) rfl (congrArg (fun u => vS u l.length) ha) rfl rfl rfl (Int.natCast_nonneg _) h1, ?_⟩
    refine op_put (st := st') (f := fI) (j := i) (l := mkInts i k ++ l.drop i) (y := k + (i : Int)) (p := p) (d := 0 + i * 1) rfl rfl ((Nat.zero_add _)) rfl rfl fI_len rfl rfl hlen hO' ha ?_
    intro s5 hO5 hP5 hn5
    rw [mark_set h1'] at hO5
    refine AW.cut lo0 s5 [(0, vS p l.length), (1, vI (k + (i : Int))), (5, vI (i : Int)), (9, vB true)] ⟨rfl, rfl, rfl, rfl, trivial⟩ fun ρ0 => ?_
    have e17 : IntKind.wrap .i64 (k + (i : Int) + 1) = k + ((i + 1 : Nat) : Int) := (wrap_i64 (by omega) (by omega)).trans (by omega)
    refine ⟨_, rfl, ?_⟩
    refine AW.cut lo0 s5 [(0, vS p l.length), (1, vI (k + ((i + 1 : Nat) : Int))), (5, vI (i : Int)), (9, vB true)] ⟨rfl, congrArg (Value.int .i64) e17, rfl, rfl, trivial⟩ fun ρ0 => ?_
    have e11 : IntKind.wrap .i64 ((i : Int) + 1) = ((i + 1 : Nat) : Int) := (wrap_i64 (by omega) (by omega)).trans (by omega)
    refine ⟨_, rfl, ?_⟩
    exact ⟨i + 1, l.length - (i + 1), by omega, ⟨rfl, rfl, congrArg (Value.int .i64) e11, trivial⟩, rfl, rfl, h1', hO5, hP'.trans hP5⟩
theorem ac_laws_heldIntS (p : Option Addr) (n : Nat) (k : Int) (st : St) (hR : Rows st 1 fI p (mkInts n k)) (hs : szOk n) (h0 : 0 ≤ k) (hk : k ≤ 1125899906842624) : C 23 [vS p n, vI k] st (fun v s => v = vI (k + (n : Int)) ∧ s = st) := by
  have hs : n ≤ 1048576 := hs
  refine AC.enterX (i := ⟨[], [], [0, 1, 4, 5, 9, 17]⟩) [] Try.func23 rfl rfl (by kernel_rfl) (by kernel_rfl) Try.ntmps23 (Nat.le_of_ble_eq_true rfl) rfl ?_
  refine cx_sound _ _ _ _ _ ?_
  refine AW.cut lo0 st [(0, vS p n), (1, vI k), (4, vI (0)), (5, vI (0))] ⟨rfl, rfl, rfl, rfl, trivial⟩ fun ρ0 => ?_
  refine AW.loop0 (fun i : Nat => [(0, vS p n), (1, vI (k + (i : Int))), (5, vI (i : Int))]) (fun m (i : Nat) st' => m = n - i ∧ i ≤ n ∧ st = st') 0 _ ⟨rfl, congrArg (Value.int .i64) (Int.add_zero k).symm, rfl, trivial⟩ rfl ⟨rfl, Nat.zero_le _, rfl⟩ ?_
  rintro m i ρ0 st' ⟨rfl, hi, rfl⟩
  iterate 2 refine ⟨_, rfl, ?_⟩
  rintro (_|_) h1
  · replace h1 : ¬ ((i : Int) < (n : Int)) := of_decide_eq_false h1
    refine AW.cut lo0 st [(0, vS p n), (1, vI (k + (i : Int))), (5, vI (i : Int)), (9, vB false)] ⟨rfl, rfl, rfl, rfl, trivial⟩ fun ρ0 => ?_
    refine cx_sound _ _ _ _ _ ?_
    refine cx_sound _ _ _ _ _ ?_
    have hil : i = n := by omega
    subst hil
    exact ⟨.inl rfl, _, rfl, rfl, rfl⟩
  · replace h1 : (i : Int) < (n : Int) := of_decide_eq_true h1
    refine AW.cut lo0 st [(0, vS p n), (1, vI (k + (i : Int))), (5, vI (i : Int)), (9, vB true)] ⟨rfl, rfl, rfl, rfl, trivial⟩ fun ρ0 => ?_
    have h1' := Int.ofNat_lt.1 h1
    have ⟨b1, o1, k1, x, hpe, hx, hm1, hc1⟩ := hR.at (j := i) (by rw [mkInts_len]; exact h1')
    have hx := mkInts_get hx
    have hc1 : (k1.cells.drop (o1 + i * 1)).take 1 = fI (k + (i : Int)) := by rw [hc1, hx]
    refine cx_sound _ _ _ _ _ ?_
    refine ⟨_, op_idx (j := (i : Int)) (n := n) (q := ⟨b1, o1, none⟩) rfl (congrArg (fun u => vS u n) hpe) rfl rfl rfl (Int.natCast_nonneg _) h1, ?_⟩
    refine ⟨_, op_ldc (i := 0) rfl rfl rfl rfl hm1 hc1 rfl rfl, ?_⟩
    refine ⟨_, rfl, ?_⟩
    rintro (_|_) h2
    rotate_left
    · exact absurd (rfl) (bne_iff_ne.1 h2)
    refine AW.cut lo0 st [(0, vS p n), (1, vI (k + (i : Int))), (5, vI (i : Int)), (9, vB true), (17, vB false)] ⟨rfl, rfl, rfl, rfl, rfl, trivial⟩ fun ρ0 => ?_
    refine cx_sound _ _ _ _ _ ?_
    have e19 : IntKind.wrap .i64 (k + (i : Int) + 1) = k + ((i + 1 : Nat) : Int) := (wrap_i64 (by omega) (by omega)).trans (by omega)
    refine ⟨_, rfl, ?_⟩
    refine AW.cut lo0 st [(0, vS p n), (1, vI (k + ((i + 1 : Nat) : Int))), (5, vI (i : Int)), (9, vB true), (17, vB false)] ⟨rfl, congrArg (Value.int .i64) e19, rfl, rfl, rfl, trivial⟩ fun ρ0 => ?_
    have e11 : IntKind.wrap .i64 ((i : Int) + 1) = ((i + 1 : Nat) : Int) := (wrap_i64 (by omega) (by omega)).trans (by omega)
    refine ⟨_, rfl, ?_⟩
    exact ⟨i + 1, n - (i + 1), by omega, ⟨rfl, rfl, congrArg (Value.int .i64) e11, trivial⟩, rfl, rfl, h1', rfl⟩
/-- A new table's rows. -/
def tnew (n : Int) : List (List Int) := if 1 ≤ n ∧ n ≤ 5 then List.replicate n.toNat [0, 0, 0, 0, 0] else []
abbrev zRow : List Int := List.replicate 5 0
theorem ac_spec_TableNew (n : Int) (st : St) : C 31 [vI n] st (fun v s => ∃ p t, v = vS p t.length ∧ OwnP s (pcT p t) ∧ NewP st.next (pcT p t) ∧ Pres st s ∧ t.map (·.l) = tnew n) := by
  refine AC.enterX (i := ⟨[], [], [0, 2, 3, 4, 8, 12]⟩) [] Try.func31 rfl rfl (by kernel_rfl) (by kernel_rfl) Try.ntmps31 (Nat.le_of_ble_eq_true rfl) rfl ?_
  refine AW.cut lo0 st [(0, vI n), (2, _)] ⟨rfl, rfl, trivial⟩ fun ρ0 => ?_
  refine op_nilK (z := 1) (f := cRV) rfl rfl rfl rfl Nat.one_pos rfl ?_
  intro q0 s0 hO0 hP0 hN0
  refine AW.cut lo0 s0 [(0, vI n), (2, _), (3, vS q0 0)] ⟨rfl, rfl, rfl, trivial⟩ fun ρ0 => ?_
  refine ⟨_, rfl, (ac_spec_l1In n 1 5 s0).mono ?_⟩
  rintro _ s0 ⟨x, rfl, hx, rfl⟩
  rcases x with _|_
  · replace hx := of_decide_eq_false hx.symm
    refine ⟨_, rfl, ?_⟩
    refine AW.cut lo0 s0 [(0, vI n), (2, _), (3, vS q0 0), (8, vB true)] ⟨rfl, rfl, rfl, rfl, trivial⟩ fun ρ0 => ?_
    refine cx_sound _ _ _ _ _ ?_
    exact ⟨.inl rfl, _, rfl, q0, [], rfl, OwnP.one (own_pc hO0), NewP.cons hN0 NewP.nil, hP0, by rw [tnew, if_neg hx]; rfl⟩
  · replace hx := of_decide_eq_true hx.symm
    refine ⟨_, rfl, ?_⟩
    refine AW.cut lo0 s0 [(0, vI n), (2, _), (3, vS q0 0), (8, vB false)] ⟨rfl, rfl, rfl, rfl, trivial⟩ fun ρ0 => ?_
    obtain ⟨N, rfl⟩ : ∃ N : Nat, n = N := ⟨n.toNat, by omega⟩
    refine cx_sound _ _ _ _ _ ?_
    refine AW.cut lo0 s0 [(0, vI (N : Int)), (2, _), (3, vS q0 0), (4, vI (0)), (8, vB false)] ⟨rfl, rfl, rfl, rfl, rfl, trivial⟩ fun ρ0 => ?_
    refine AW.loop0 (fun x : List RV × Option Addr => [(0, vI (N : Int)), (3, vS x.2 x.1.length), (4, vI (x.1.length : Int))]) (fun m (x : List RV × Option Addr) st' => m = N - x.1.length ∧ x.1.length ≤ N ∧ OwnP st' (pcT x.2 x.1) ∧ NewP st.next (pcT x.2 x.1) ∧ Pres st st' ∧ x.1.map (·.l) = List.replicate x.1.length zRow) ([], q0) _ ⟨rfl, rfl, rfl, trivial⟩ rfl ⟨rfl, Nat.zero_le _, OwnP.one (own_pc hO0), NewP.cons hN0 NewP.nil, hP0, rfl⟩ ?_
    rintro m x ρ0 st' ⟨rfl, hi, hO, hN, hP, hl⟩
    refine ⟨_, rfl, ?_⟩
    rintro (_|_) h1
    · replace h1 : ¬ ((x.1.length : Int) < (N : Int)) := of_decide_eq_false h1
      refine AW.cut lo0 st' [(0, vI (N : Int)), (3, vS x.2 x.1.length), (4, vI (x.1.length : Int)), (12, vB false)] ⟨rfl, rfl, rfl, rfl, trivial⟩ fun ρ0 => ?_
      refine cx_sound _ _ _ _ _ ?_
      refine cx_sound _ _ _ _ _ ?_
      have hil : x.1.length = N := by omega
      exact ⟨.inl rfl, _, rfl, x.2, x.1, rfl, hO, hN, hP, by rw [hl, hil, tnew, if_pos hx, Int.toNat_natCast]; rfl⟩
    · replace h1 : (x.1.length : Int) < (N : Int) := of_decide_eq_true h1
      refine AW.cut lo0 st' [(0, vI (N : Int)), (3, vS x.2 x.1.length), (4, vI (x.1.length : Int)), (12, vB true)] ⟨rfl, rfl, rfl, rfl, trivial⟩ fun ρ0 => ?_
      have h1' := Int.ofNat_lt.1 h1
      refine cx_sound _ _ _ _ _ ?_
      refine op_mkK (z := 1) (f := fI) (a := (0 : Int)) (b := 8) (i := 5) rfl rfl rfl rfl rfl rfl rfl rfl rfl Nat.one_pos rfl rfl (Nat.le_of_ble_eq_true rfl) (Nat.le_of_ble_eq_true rfl) ?_
      intro q1 s1 hO1 hP1 hN1
      refine op_one (z := 1) (a := (⟨q1, zRow⟩ : RV)) (f := cRV) rfl rfl rfl rfl rfl Nat.one_pos rfl (Nat.le_of_ble_eq_true rfl) rfl rfl rfl ?_
      refine op_add (z := 1) (st := s1) (f := cRV) (b := 24) (l := x.1) rfl rfl rfl rfl rfl rfl rfl Nat.one_pos cRV_len rfl rfl rfl (by omega) (by unfold maxLen; omega) (hP1.ownR hO.outer) ?_
      intro q4 s4 hO4 hP4 hN4
      refine AW.cut lo0 s4 [(0, vI (N : Int)), (3, vS q4 (x.1.length + 1)), (4, vI (x.1.length : Int)), (12, vB true)] ⟨rfl, rfl, rfl, rfl, trivial⟩ fun ρ0 => ?_
      have hA := OwnP.renew (l := []) (m := x.1.map pcRV ++ [pcRV ⟨q1, zRow⟩]) (c := pcR 1 cRV x.2 x.1) (OwnP.join (l := pcT x.2 x.1) (m := [pcRV ⟨q1, zRow⟩]) hO hP1 (OwnP.one (own_pc hO1)) (NewP.cons hN1 NewP.nil)) hP4 (own_pc hO4) hN4
      have hA : OwnP s4 (pcT q4 (x.1 ++ [⟨q1, zRow⟩])) := by simpa [pcT] using hA
      have e14 : IntKind.wrap .i64 ((x.1.length : Int) + 1) = ((x.1.length + 1 : Nat) : Int) := (wrap_i64 (by omega) (by omega)).trans (by omega)
      refine ⟨_, rfl, ?_⟩
      refine ⟨(x.1 ++ [⟨q1, zRow⟩], q4), N - (x.1.length + 1), by omega, ⟨rfl, ?_, ?_, trivial⟩, rfl, ?_, ?_, hA, ?_, ?_, ?_⟩
      · rw [List.length_append]; rfl
      · rw [List.length_append]; exact congrArg (Value.int .i64) e14
      · rw [List.length_append]; rfl
      · rw [List.length_append]; exact h1'
      · refine NewP.cons (hN4.le (Nat.le_trans hP.1 hP1.1)) ?_
        rw [List.map_append]
        exact NewP.app (fun c hc => hN c (List.mem_cons_of_mem _ hc)) (NewP.cons (hN1.le hP.1) NewP.nil)
      · exact hP4.pres (hP.trans hP1) (hN _ (List.mem_cons_self ..))
      · rw [List.map_append, hl, List.length_append, List.length_singleton, List.replicate_succ']; rfl
theorem ac_impl_TableNew (n : Int) (st : St) : C 32 [vI n] st (fun v s => ∃ p t, v = vS p t.length ∧ OwnP s (pcT p t) ∧ NewP st.next (pcT p t) ∧ Pres st s ∧ t.map (·.l) = tnew n) := by
  refine AC.enterX (i := ⟨[], [], [0, 2, 3, 7, 9, 10, 11]⟩) [] Try.func32 rfl rfl (by kernel_rfl) (by kernel_rfl) Try.ntmps32 (Nat.le_of_ble_eq_true rfl) rfl ?_
  refine AW.cut lo0 st [(0, vI n), (2, _)] ⟨rfl, rfl, trivial⟩ fun ρ0 => ?_
  refine op_nilK (z := 1) (f := cRV) rfl rfl rfl rfl Nat.one_pos rfl ?_
  intro q0 s0 hO0 hP0 hN0
  refine AW.cut lo0 s0 [(0, vI n), (2, _), (3, vS q0 0)] ⟨rfl, rfl, rfl, trivial⟩ fun ρ0 => ?_
  refine ⟨_, rfl, (ac_impl_within n 1 5 s0).mono ?_⟩
  rintro _ s0 ⟨x, rfl, hx, rfl⟩
  rcases x with _|_
  · replace hx := of_decide_eq_false hx.symm
    refine ⟨_, rfl, ?_⟩
    refine AW.cut lo0 s0 [(0, vI n), (2, _), (3, vS q0 0), (7, vB true)] ⟨rfl, rfl, rfl, rfl, trivial⟩ fun ρ0 => ?_
    refine cx_sound _ _ _ _ _ ?_
    exact ⟨.inl rfl, _, rfl, q0, [], rfl, OwnP.one (own_pc hO0), NewP.cons hN0 NewP.nil, hP0, by rw [tnew, if_neg hx]; rfl⟩
  · replace hx := of_decide_eq_true hx.symm
    refine ⟨_, rfl, ?_⟩
    refine AW.cut lo0 s0 [(0, vI n), (2, _), (3, vS q0 0), (7, vB false)] ⟨rfl, rfl, rfl, rfl, trivial⟩ fun ρ0 => ?_
    obtain ⟨N, rfl⟩ : ∃ N : Nat, n = N := ⟨n.toNat, by omega⟩
    refine cx_sound _ _ _ _ _ ?_
    refine AW.cut lo0 s0 [(0, vI (N : Int)), (2, _), (3, vS q0 0), (7, vB false), (9, vI (N : Int)), (10, vI (0))] ⟨rfl, rfl, rfl, rfl, rfl, rfl, trivial⟩ fun ρ0 => ?_
    refine AW.loop0 (fun x : List RV × Option Addr => [(0, vI (N : Int)), (3, vS x.2 x.1.length), (9, vI (N : Int)), (10, vI (x.1.length : Int))]) (fun m (x : List RV × Option Addr) st' => m = N - x.1.length ∧ x.1.length ≤ N ∧ OwnP st' (pcT x.2 x.1) ∧ NewP st.next (pcT x.2 x.1) ∧ Pres st st' ∧ x.1.map (·.l) = List.replicate x.1.length zRow) ([], q0) _ ⟨rfl, rfl, rfl, rfl, trivial⟩ rfl ⟨rfl, Nat.zero_le _, OwnP.one (own_pc hO0), NewP.cons hN0 NewP.nil, hP0, rfl⟩ ?_
    rintro m x ρ0 st' ⟨rfl, hi, hO, hN, hP, hl⟩
    refine ⟨_, rfl, ?_⟩
    rintro (_|_) h1
    · replace h1 : ¬ ((x.1.length : Int) < (N : Int)) := of_decide_eq_false h1
      refine AW.cut lo0 st' [(0, vI (N : Int)), (3, vS x.2 x.1.length), (9, vI (N : Int)), (10, vI (x.1.length : Int)), (11, vB false)] ⟨rfl, rfl, rfl, rfl, rfl, trivial⟩ fun ρ0 => ?_
      refine cx_sound _ _ _ _ _ ?_
      refine cx_sound _ _ _ _ _ ?_
      have hil : x.1.length = N := by omega
      exact ⟨.inl rfl, _, rfl, x.2, x.1, rfl, hO, hN, hP, by rw [hl, hil, tnew, if_pos hx, Int.toNat_natCast]; rfl⟩
    · replace h1 : (x.1.length : Int) < (N : Int) := of_decide_eq_true h1
      refine AW.cut lo0 st' [(0, vI (N : Int)), (3, vS x.2 x.1.length), (9, vI (N : Int)), (10, vI (x.1.length : Int)), (11, vB true)] ⟨rfl, rfl, rfl, rfl, rfl, trivial⟩ fun ρ0 => ?_
      have h1' := Int.ofNat_lt.1 h1
      refine cx_sound _ _ _ _ _ ?_
      refine op_mkK (z := 1) (f := fI) (a := (0 : Int)) (b := 8) (i := 5) rfl rfl rfl rfl rfl rfl rfl rfl rfl Nat.one_pos rfl rfl (Nat.le_of_ble_eq_true rfl) (Nat.le_of_ble_eq_true rfl) ?_
      intro q1 s1 hO1 hP1 hN1
      refine op_one (z := 1) (a := (⟨q1, zRow⟩ : RV)) (f := cRV) rfl rfl rfl rfl rfl Nat.one_pos rfl (Nat.le_of_ble_eq_true rfl) rfl rfl rfl ?_
      refine op_add (z := 1) (st := s1) (f := cRV) (b := 24) (l := x.1) rfl rfl rfl rfl rfl rfl rfl Nat.one_pos cRV_len rfl rfl rfl (by omega) (by unfold maxLen; omega) (hP1.ownR hO.outer) ?_
      intro q4 s4 hO4 hP4 hN4
      refine AW.cut lo0 s4 [(0, vI (N : Int)), (3, vS q4 (x.1.length + 1)), (9, vI (N : Int)), (10, vI (x.1.length : Int)), (11, vB true)] ⟨rfl, rfl, rfl, rfl, rfl, trivial⟩ fun ρ0 => ?_
      have hA := OwnP.renew (l := []) (m := x.1.map pcRV ++ [pcRV ⟨q1, zRow⟩]) (c := pcR 1 cRV x.2 x.1) (OwnP.join (l := pcT x.2 x.1) (m := [pcRV ⟨q1, zRow⟩]) hO hP1 (OwnP.one (own_pc hO1)) (NewP.cons hN1 NewP.nil)) hP4 (own_pc hO4) hN4
      have hA : OwnP s4 (pcT q4 (x.1 ++ [⟨q1, zRow⟩])) := by simpa [pcT] using hA
      have e16 : IntKind.wrap .i64 ((x.1.length : Int) + 1) = ((x.1.length + 1 : Nat) : Int) := (wrap_i64 (by omega) (by omega)).trans (by omega)
      refine ⟨_, rfl, ?_⟩
      refine ⟨(x.1 ++ [⟨q1, zRow⟩], q4), N - (x.1.length + 1), by omega, ⟨rfl, ?_, rfl, ?_, trivial⟩, rfl, ?_, ?_, hA, ?_, ?_, ?_⟩
      · rw [List.length_append]; rfl
      · rw [List.length_append]; exact congrArg (Value.int .i64) e16
      · rw [List.length_append]; rfl
      · rw [List.length_append]; exact h1'
      · refine NewP.cons (hN4.le (Nat.le_trans hP.1 hP1.1)) ?_
        rw [List.map_append]
        exact NewP.app (fun c hc => hN c (List.mem_cons_of_mem _ hc)) (NewP.cons (hN1.le hP.1) NewP.nil)
      · exact hP4.pres (hP.trans hP1) (hN _ (List.mem_cons_self ..))
      · rw [List.map_append, hl, List.length_append, List.length_singleton, List.replicate_succ']; rfl
end Go.Proofs.Ytopakkndacbbpaa.AM
