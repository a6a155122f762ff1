/- Contracts of roots, of trees copied, of slices of states and of their bytes. -/
import Derived.Test.YtopcpcoklgepnaaB2
import Derived.Test.YtopcpcoklgepnaaS3
namespace Go.Proofs.Ytopcpcoklgepnaa.AM
open Go Go.Proofs
set_option linter.unusedVariables false
set_option linter.unusedSimpArgs false
set_option maxRecDepth 100000
set_option maxHeartbeats 4000000
def numsB (l : List Int) : List Int := l.flatMap putN
theorem numsB_succ {l : List Int} {i : Nat} {x : Int} (h : l[i]? = some x) : numsB (l.take (i + 1)) = numsB (l.take i) ++ putN x := by
  unfold numsB
  rw [List.take_add_one, h, List.flatMap_append]
  simp
theorem numsB_len : ∀ l : List Int, (numsB l).length ≤ 5 * l.length
  | [] => Nat.le_refl _
  | x :: l => by
    have h1 := numsB_len l
    have h2 := putN_len x
    rw [show numsB (x :: l) = putN x ++ numsB l from List.flatMap_cons, List.length_append, List.length_cons]
    omega
theorem numsB_ok (l : List Int) : bytesOk (numsB l) := fun x hx => by
  obtain ⟨y, _, hy⟩ := List.mem_flatMap.1 hx
  exact putN_ok y x hy
def rootF (l : List Int) : Int := crc (numsB l) % 1024
theorem ac_spec_l6Root (p : Option Addr) (l : List Int) (st : St) (hR : Rows st 1 fI p l) (hs : szOk l.length) : C 133 [vS p l.length] st (fun v s => v = vI (rootF l) ∧ Pres st s) := by
  have hs : l.length ≤ 1048576 := hs
  refine AC.enterX (i := ⟨[], [], [0, 2, 3, 4, 9]⟩) [] Try.func133 rfl rfl (by kernel_rfl) (by kernel_rfl) Try.ntmps133 (Nat.le_of_ble_eq_true rfl) rfl ?_
  refine AW.cut lo0 st [(0, vS p l.length), (2, vI (0))] ⟨rfl, rfl, trivial⟩ fun ρ0 => ?_
  refine op_nilK (z := 1) (f := fB) rfl rfl rfl rfl (by decide) rfl ?_
  intro q5 s5 hO5 hP5 hN5
  refine cx_sound _ _ _ _ _ ?_
  refine AW.cut lo0 s5 [(0, vS p l.length), (2, vI (0)), (3, vS q5 0), (4, vI (0))] ⟨rfl, rfl, rfl, rfl, trivial⟩ fun ρ0 => ?_
  refine AW.loop0 (fun x : Nat × Option Addr × List Int => [(0, vS p l.length), (2, vI (0)), (3, vS x.2.1 x.2.2.length), (4, vI (x.1 : Int))]) (fun m (x : Nat × Option Addr × List Int) st' => m = l.length - x.1 ∧ x.1 ≤ l.length ∧ x.2.2 = numsB (l.take x.1) ∧ OwnR st' 1 fB x.2.1 x.2.2 ∧ New st.next x.2.1 ∧ Pres st st') (0, q5, []) _ ⟨rfl, rfl, rfl, rfl, trivial⟩ rfl ⟨rfl, Nat.zero_le _, rfl, hO5, hN5, hP5⟩ ?_
  rintro m ⟨i, q, b⟩ ρ0 st' ⟨rfl, hi, hv, hO, hN, hP⟩
  simp only at hi hv hO hN
  have hbl : b.length ≤ 5 * l.length := by rw [hv]; have := numsB_len (l.take i); rw [List.length_take] at this; omega
  iterate 2 refine ⟨_, rfl, ?_⟩
  rintro (_|_) h9
  · replace h9 : ¬ ((i : Int) < (l.length : Int)) := of_decide_eq_false h9
    refine AW.cut lo0 st' [(0, vS p l.length), (2, vI (0)), (3, vS q b.length), (4, vI (i : Int)), (9, vB false)] ⟨rfl, rfl, rfl, rfl, rfl, trivial⟩ fun ρ0 => ?_
    have hbe : b = numsB l := by rw [hv, show i = l.length by omega, List.take_length]
    refine cx_sound _ _ _ _ _ ?_
    refine ⟨_, rfl, (ac_spec_Crc q b st' (hO.rows fB_len) (hbe ▸ numsB_ok l) (by omega)).mono ?_⟩
    rintro _ st' ⟨rfl, rfl⟩
    have hc0 : 0 ≤ crc b := (crc_rng (hbe ▸ numsB_ok l)).1
    refine ⟨_, op_rm (r := crc b % 1024) rfl rfl rfl (by decide) (tm_emod 1024 hc0), ?_⟩
    refine cx_sound _ _ _ _ _ ?_
    exact ⟨.inl rfl, _, rfl, congrArg vI (by rw [rootF, hbe]), hP⟩
  · replace h9 : (i : Int) < (l.length : Int) := of_decide_eq_true h9
    refine AW.cut lo0 st' [(0, vS p l.length), (2, vI (0)), (3, vS q b.length), (4, vI (i : Int)), (9, vB true)] ⟨rfl, rfl, rfl, rfl, rfl, trivial⟩ fun ρ0 => ?_
    refine cx_sound _ _ _ _ _ ?_
    refine op_at i (hP.rows hR) (by omega) rfl rfl rfl rfl rfl rfl rfl ?_
    intro x15 b15 d15 k15 hy15 hb15 hm15 hc15 ho15
    have hRs := hP.rows hR
    refine ⟨_, op_ldc (i := 0) rfl rfl rfl rfl hm15 hc15 rfl rfl, ?_⟩
    have hpl := putN_len x15
    refine ⟨_, rfl, (ac_spec_PutNum x15 st').mono ?_⟩
    rintro _ s17 ⟨q17, rfl, hO17, hN17, hP17⟩
    refine op_cat' (z := 1) (st := s17) (f := fB) (b := 1) (l := b) (l2 := putN x15) rfl rfl rfl rfl rfl rfl rfl (by decide) fB_len rfl rfl rfl rfl (by first | omega | (simp only [List.length_nil]; omega)) (by unfold maxLen; first | omega | (simp only [List.length_nil]; omega)) (hP17.ownR hO) (hO17.rows fB_len) ?_
    intro q18 s18 hO18 hPr18 hN18
    refine AW.cut lo0 s18 [(0, vS p l.length), (2, vI (0)), (3, vS q18 (b ++ (putN x15)).length), (4, vI (i : Int)), (9, vB true)] ⟨rfl, rfl, rfl, rfl, rfl, trivial⟩ fun ρ0 => ?_
    have ew11 : IntKind.wrap .i64 ((i : Int) + (1)) = ((i + 1 : Nat) : Int) := (wrap_i64 (by omega) (by omega)).trans (by omega)
    refine ⟨_, rfl, ?_⟩
    exact ⟨(i + 1, q18, b ++ putN x15), l.length - (i + 1), by omega, ⟨rfl, rfl, rfl, congrArg (Value.int .i64) ew11, trivial⟩, rfl, rfl, by simp only; omega, by rw [numsB_succ hy15, ← hv], hO18, cat_new (hP.trans hP17) hN hN18, hPr18.pres (hP.trans hP17) hN⟩
theorem ac_impl_rootOf (p : Option Addr) (l : List Int) (st : St) (hR : Rows st 1 fI p l) (hs : szOk l.length) : C 137 [vS p l.length] st (fun v s => v = vI (rootF l) ∧ Pres st s) := by
  have hs : l.length ≤ 1048576 := hs
  refine AC.enterX (i := ⟨[], [], [0, 2, 3, 5, 7, 8, 9, 10]⟩) [] Try.func137 rfl rfl (by kernel_rfl) (by kernel_rfl) Try.ntmps137 (Nat.le_of_ble_eq_true rfl) rfl ?_
  refine AW.cut lo0 st [(0, vS p l.length), (2, vI (0))] ⟨rfl, rfl, trivial⟩ fun ρ0 => ?_
  refine op_nilK (z := 1) (f := fB) rfl rfl rfl rfl (by decide) rfl ?_
  intro q6 s6 hO6 hP6 hN6
  refine AW.cut lo0 s6 [(0, vS p l.length), (2, vI (0)), (3, vS q6 0)] ⟨rfl, rfl, rfl, trivial⟩ fun ρ0 => ?_
  refine ⟨_, rfl, ?_⟩
  refine AW.cut lo0 s6 [(2, vI (0)), (3, vS q6 0), (7, vS p l.length), (8, vI (l.length : Int)), (9, vI (0))] ⟨rfl, rfl, rfl, rfl, rfl, trivial⟩ fun ρ0 => ?_
  refine AW.loop0 (fun x : Nat × Option Addr × List Int => [(2, vI (0)), (3, vS x.2.1 x.2.2.length), (7, vS p l.length), (8, vI (l.length : Int)), (9, vI (x.1 : Int))]) (fun m (x : Nat × Option Addr × List Int) st' => m = l.length - x.1 ∧ x.1 ≤ l.length ∧ x.2.2 = numsB (l.take x.1) ∧ OwnR st' 1 fB x.2.1 x.2.2 ∧ New st.next x.2.1 ∧ Pres st st') (0, q6, []) _ ⟨rfl, rfl, rfl, rfl, rfl, trivial⟩ rfl ⟨rfl, Nat.zero_le _, rfl, hO6, hN6, hP6⟩ ?_
  rintro m ⟨i, q, b⟩ ρ0 st' ⟨rfl, hi, hv, hO, hN, hP⟩
  simp only at hi hv hO hN
  have hbl : b.length ≤ 5 * l.length := by rw [hv]; have := numsB_len (l.take i); rw [List.length_take] at this; omega
  refine ⟨_, rfl, ?_⟩
  rintro (_|_) h10
  · replace h10 : ¬ ((i : Int) < (l.length : Int)) := of_decide_eq_false h10
    refine AW.cut lo0 st' [(2, vI (0)), (3, vS q b.length), (7, vS p l.length), (8, vI (l.length : Int)), (9, vI (i : Int)), (10, vB false)] ⟨rfl, rfl, rfl, rfl, rfl, rfl, trivial⟩ fun ρ0 => ?_
    have hbe : b = numsB l := by rw [hv, show i = l.length by omega, List.take_length]
    refine cx_sound _ _ _ _ _ ?_
    refine ⟨_, rfl, (ac_impl_Crc q b st' (hO.rows fB_len) (hbe ▸ numsB_ok l) (by omega)).mono ?_⟩
    rintro _ st' ⟨rfl, rfl⟩
    have hc0 : 0 ≤ crc b := (crc_rng (hbe ▸ numsB_ok l)).1
    refine ⟨_, op_rm (r := crc b % 1024) rfl rfl rfl (by decide) (tm_emod 1024 hc0), ?_⟩
    refine cx_sound _ _ _ _ _ ?_
    exact ⟨.inl rfl, _, rfl, congrArg vI (by rw [rootF, hbe]), hP⟩
  · replace h10 : (i : Int) < (l.length : Int) := of_decide_eq_true h10
    refine AW.cut lo0 st' [(2, vI (0)), (3, vS q b.length), (7, vS p l.length), (8, vI (l.length : Int)), (9, vI (i : Int)), (10, vB true)] ⟨rfl, rfl, rfl, rfl, rfl, rfl, trivial⟩ fun ρ0 => ?_
    refine cx_sound _ _ _ _ _ ?_
    have hRs := hP.rows hR
    refine op_at i hRs (by omega) rfl rfl rfl rfl rfl rfl rfl ?_
    intro x11 b11 d11 k11 hy11 hb11 hm11 hc11 ho11
    refine ⟨_, op_ldc (i := 0) rfl rfl rfl rfl hm11 hc11 rfl rfl, ?_⟩
    refine AW.cut lo0 st' [(2, vI (0)), (3, vS q b.length), (5, vI x11), (7, vS p l.length), (8, vI (l.length : Int)), (9, vI (i : Int)), (10, vB true)] ⟨rfl, rfl, rfl, rfl, rfl, rfl, rfl, trivial⟩ fun ρ0 => ?_
    have hpl := putN_len x11
    have hfl : fl [⟨q, b⟩, ⟨none, putN x11⟩] = b ++ putN x11 := by simp [fl]
    refine ⟨_, rfl, (ac_impl_PutNum x11 st').mono ?_⟩
    rintro _ s15 ⟨q15, rfl, hO15, hN15, hP15⟩
    refine op_litR [⟨q, b⟩, ⟨q15, putN x11⟩] rfl rfl rfl (by decide) rfl rfl rfl (by decide) ?_
    intro q16 s16 hO16 hP16 hN16
    refine ⟨_, rfl, (ac_impl_joined q16 [⟨q, b⟩, ⟨q15, putN x11⟩] s16 (hO16.rows cRV_len) (fun r hr => by
    rcases List.mem_cons.1 hr with rfl | hr
    · exact (hP15.trans hP16).rows (hO.rows fB_len)
    · rw [List.mem_singleton.1 hr]; exact hP16.rows (hO15.rows fB_len)) (by show (2 : Nat) ≤ 1048576; omega) (by show (fl [⟨q, b⟩, ⟨none, putN x11⟩]).length ≤ _; rw [hfl, List.length_append]; omega)).mono ?_⟩
    rintro _ s17 ⟨q17, rfl, hO17, hN17, hP17⟩
    refine AW.cut lo0 s17 [(2, vI (0)), (3, vS q17 (fl [⟨q, b⟩, ⟨q15, putN x11⟩]).length), (5, vI x11), (7, vS p l.length), (8, vI (l.length : Int)), (9, vI (i : Int)), (10, vB true)] ⟨rfl, rfl, rfl, rfl, rfl, rfl, rfl, trivial⟩ fun ρ0 => ?_
    have ew18 : IntKind.wrap .i64 ((i : Int) + (1)) = ((i + 1 : Nat) : Int) := (wrap_i64 (by omega) (by omega)).trans (by omega)
    refine ⟨_, rfl, ?_⟩
    exact ⟨(i + 1, q17, fl [⟨q, b⟩, ⟨q15, putN x11⟩]), l.length - (i + 1), by omega, ⟨rfl, rfl, rfl, rfl, congrArg (Value.int .i64) ew18, trivial⟩, rfl, rfl, by simp only; omega, by rw [numsB_succ hy11, ← hv]; exact hfl, hO17, hN17.le (((hP.trans hP15).trans hP16)).1, ((hP.trans hP15).trans hP16).trans hP17⟩
/-! Trees copied -/
theorem ac_copyInts (p : Option Addr) (l : List Int) (st : St) (hR : Rows st 1 fI p l) (hs : szOk l.length) : C 166 [vS p l.length] st (fun v s => ∃ q, v = vS q l.length ∧ OwnR s 1 fI q l ∧ New st.next q ∧ Pres st s) := by
  refine (ac_impl_copyInts p l st hR.ints (Nat.lt_of_le_of_lt hs (by decide))).mono ?_
  rintro _ s ⟨q, rfl, hO, hP, hN⟩
  exact ⟨q, rfl, Own.r.1 hO, hN, hP⟩
theorem ac_impl_copyTree (t : TV) (st : St) (hR : Rows st 1 fI t.p t.l) (hs : szOk t.l.length) : C 134 [.agg #[vS t.p t.l.length, vI t.root]] st (fun v s' => ∃ u : TV, v = .agg #[vS u.p u.l.length, vI u.root] ∧ u.l = t.l ∧ u.root = t.root ∧ OwnR s' 1 fI u.p u.l ∧ New st.next u.p ∧ Pres st s') := by
  refine AC.enterX (i := ⟨[1, 2], [1, 2, 3, 6], [0, 1, 2]⟩) [(1, [2], [4])] Try.func134 rfl rfl (by kernel_rfl) (by kernel_rfl) Try.ntmps134 (Nat.le_of_ble_eq_true rfl) rfl ?_
  iterate 2 refine ⟨_, rfl, ?_⟩
  refine AW.cutM (2) st [(1, vL 1 0 (0)), (2, vL 2 0 (1))] [(1, 0, [vS t.p t.l.length, vI t.root]), (2, 1, [.slice none 0 0, vI 0])] ⟨rfl, rfl, trivial⟩ ⟨rfl, rfl, trivial⟩ rfl fun ρ0 ff => ?_
  refine ⟨_, rfl, ?_⟩
  refine ⟨_, op_ldo rfl rfl rfl rfl, ?_⟩
  refine ⟨_, rfl, (ac_copyInts t.p t.l st hR hs).mono ?_⟩
  rintro _ s5 ⟨q5, rfl, hO5, hN5, hP5⟩
  refine ⟨hP5.2, ?_⟩
  refine ⟨_, rfl, ?_⟩
  refine ⟨_, op_ldo rfl rfl rfl rfl, ?_⟩
  refine ⟨ld_own rfl rfl rfl, ?_⟩
  refine ⟨_, rfl, ?_⟩
  refine ⟨_, op_sto rfl rfl rfl rfl rfl rfl rfl, ?_⟩
  refine cx_sound _ _ _ _ _ ?_
  exact ⟨.inl rfl, _, rfl, ⟨⟨q5, t.l⟩, t.root⟩, rfl, rfl, rfl, hO5, hN5, hP5⟩
theorem ac_spec_l6Copy (t : TV) (st : St) (hR : Rows st 1 fI t.p t.l) (hs : szOk t.l.length) : C 130 [.agg #[vS t.p t.l.length, vI t.root]] st (fun v s' => ∃ u : TV, v = .agg #[vS u.p u.l.length, vI u.root] ∧ u.l = t.l ∧ u.root = t.root ∧ OwnR s' 1 fI u.p u.l ∧ New st.next u.p ∧ Pres st s') := by
  have hs : t.l.length ≤ 1048576 := hs
  refine AC.enterX (i := ⟨[1, 2], [1, 2, 4, 7], [0, 1, 2]⟩) [(1, [3], [5])] Try.func130 rfl rfl (by kernel_rfl) (by kernel_rfl) Try.ntmps130 (Nat.le_of_ble_eq_true rfl) rfl ?_
  iterate 2 refine ⟨_, rfl, ?_⟩
  refine AW.cutM (2) st [(1, vL 1 0 (0)), (2, vL 2 0 (1))] [(1, 0, [vS t.p t.l.length, vI t.root]), (2, 1, [.slice none 0 0, vI 0])] ⟨rfl, rfl, trivial⟩ ⟨rfl, rfl, trivial⟩ rfl fun ρ0 ff => ?_
  refine op_nilK (z := 1) (f := fI) rfl rfl rfl rfl (by decide) rfl ?_
  intro q3 s3 hO3 hP3 hN3
  refine ⟨_, rfl, ?_⟩
  refine ⟨_, op_ldo rfl rfl rfl rfl, ?_⟩
  refine op_cat' (z := 1) (st := s3) (f := fI) (b := 8) (l := []) (l2 := t.l) rfl rfl rfl rfl rfl rfl rfl (by decide) fI_len rfl rfl rfl rfl (by first | omega | (simp only [List.length_nil]; omega)) (by unfold maxLen; first | omega | (simp only [List.length_nil]; omega)) hO3 (hP3.rows hR) ?_
  intro q6 s6 hO6 hPr6 hN6
  refine ⟨hPr6.low hP3 hN3, ?_⟩
  refine ⟨_, rfl, ?_⟩
  refine ⟨_, op_ldo rfl rfl rfl rfl, ?_⟩
  refine ⟨ld_own rfl rfl rfl, ?_⟩
  refine ⟨_, rfl, ?_⟩
  refine ⟨_, op_sto rfl rfl rfl rfl rfl rfl rfl, ?_⟩
  refine cx_sound _ _ _ _ _ ?_
  exact ⟨.inl rfl, _, rfl, ⟨⟨q6, t.l⟩, t.root⟩, rfl, rfl, rfl, hO6, cat_new hP3 hN3 hN6, hPr6.pres hP3 hN3⟩
end Go.Proofs.Ytopcpcoklgepnaa.AM
