/- Contracts of tables: sized, copied; the common number; the check; their laws on the abstract machine. -/
import Derived.Test.YtopcpcoklgepnaaF8
namespace Go.Proofs.Ytopcpcoklgepnaa.AM
open Go Go.Proofs
set_option linter.unusedVariables false
set_option linter.unusedSimpArgs false
set_option maxRecDepth 100000
set_option maxHeartbeats 4000000
theorem ac_laws_szIntSS (p : Option Addr) (t : List RV) (n : Int) (st : St) (hR : RdT st p t) (h0 : 0 ≤ n) (hn : n ≤ 1048576) (hm : t.length ≤ maxLen) (hr : ∀ r ∈ t, r.l.length ≤ maxLen) : C 48 [vS p t.length, vI n] st (fun v s => ∃ r, v = vI r ∧ r ≤ n ∧ (0 ≤ r → r + (t.length : Int) + (cntT t : Int) = n) ∧ s = st) := by
  have hm : t.length ≤ 9223372036854775807 := hm
  refine AC.enterX (i := ⟨[], [], [0, 1, 4, 5, 11, 15, 25]⟩) [] Try.func48 rfl rfl (by kernel_rfl) (by kernel_rfl) Try.ntmps48 (Nat.le_of_ble_eq_true rfl) rfl ?_
  refine AW.cut lo0 st [(0, vS p t.length), (1, vI n), (4, vI (0))] ⟨rfl, rfl, rfl, trivial⟩ fun ρ0 => ?_
  refine ⟨_, rfl, ?_⟩
  have e9 : IntKind.wrap .i64 (n - (t.length : Int)) = n - (t.length : Int) := wrap_i64 (by omega) (by omega)
  refine ⟨_, rfl, ?_⟩
  refine AW.cut lo0 st [(0, vS p t.length), (1, vI (n - (t.length : Int))), (4, vI (0))] ⟨rfl, congrArg (Value.int .i64) e9, rfl, trivial⟩ fun ρ0 => ?_
  refine ⟨_, rfl, ?_⟩
  rintro (_|_) h1
  · replace h1 : ¬ (n - (t.length : Int) < 0) := of_decide_eq_false h1
    refine AW.cut lo0 st [(0, vS p t.length), (1, vI (n - (t.length : Int))), (4, vI (0)), (11, vB false)] ⟨rfl, rfl, rfl, rfl, trivial⟩ fun ρ0 => ?_
    refine cx_sound _ _ _ _ _ ?_
    refine AW.cut lo0 st [(0, vS p t.length), (1, vI (n - (t.length : Int))), (4, vI (0)), (5, vI (0))] ⟨rfl, rfl, rfl, rfl, trivial⟩ fun ρ0 => ?_
    refine AW.loop0 (fun x : Nat × Int => [(0, vS p t.length), (1, vI x.2), (5, vI (x.1 : Int))]) (fun m (x : Nat × Int) st' => m = t.length - x.1 ∧ x.1 ≤ t.length ∧ 0 ≤ x.2 ∧ x.2 + (t.length : Int) + (cntT (t.take x.1) : Int) = n ∧ st = st') (0, n - (t.length : Int)) _ ⟨rfl, rfl, rfl, trivial⟩ rfl ⟨rfl, Nat.zero_le _, by omega, by simp [cntT], rfl⟩ ?_
    rintro m x ρ0 st' ⟨rfl, hi, hx0, hx1, rfl⟩
    iterate 2 refine ⟨_, rfl, ?_⟩
    rintro (_|_) h2
    · replace h2 : ¬ ((x.1 : Int) < (t.length : Int)) := of_decide_eq_false h2
      refine AW.cut lo0 st [(0, vS p t.length), (1, vI x.2), (5, vI (x.1 : Int)), (15, vB false)] ⟨rfl, rfl, rfl, rfl, trivial⟩ fun ρ0 => ?_
      refine cx_sound _ _ _ _ _ ?_
      refine cx_sound _ _ _ _ _ ?_
      have hil : x.1 = t.length := by omega
      exact ⟨.inl rfl, _, rfl, x.2, rfl, by omega, fun _ => by rw [hil, List.take_length] at hx1; exact hx1, rfl⟩
    · replace h2 : (x.1 : Int) < (t.length : Int) := of_decide_eq_true h2
      refine AW.cut lo0 st [(0, vS p t.length), (1, vI x.2), (5, vI (x.1 : Int)), (15, vB true)] ⟨rfl, rfl, rfl, rfl, trivial⟩ fun ρ0 => ?_
      have h2' := Int.ofNat_lt.1 h2
      have ⟨b1, o1, k1, r, hpe, hr1, hm1, hc1⟩ := hR.1.at h2'
      have hmem := List.mem_of_getElem? hr1
      have hct := cntT_take hr1
      refine cx_sound _ _ _ _ _ ?_
      refine ⟨_, op_idx (j := (x.1 : Int)) (n := t.length) (q := ⟨b1, o1, none⟩) rfl (congrArg (fun u => vS u t.length) hpe) rfl rfl rfl (Int.natCast_nonneg _) h2, ?_⟩
      refine ⟨_, op_ldc (i := 0) (v := vS r.p r.l.length) rfl rfl rfl rfl hm1 hc1 rfl rfl, ?_⟩
      refine ⟨_, rfl, (ac_laws_szIntS r.p r.l x.2 st hx0 (by omega) (hr r hmem)).mono ?_⟩
      rintro _ st ⟨y, rfl, hy, hz, rfl⟩
      refine AW.cut lo0 st [(0, vS p t.length), (1, vI y), (5, vI (x.1 : Int)), (15, vB true)] ⟨rfl, rfl, rfl, rfl, trivial⟩ fun ρ0 => ?_
      refine ⟨_, rfl, ?_⟩
      rintro (_|_) h3
      · replace h3 : ¬ (y < 0) := of_decide_eq_false h3
        refine AW.cut lo0 st [(0, vS p t.length), (1, vI y), (5, vI (x.1 : Int)), (15, vB true), (25, vB false)] ⟨rfl, rfl, rfl, rfl, rfl, trivial⟩ fun ρ0 => ?_
        refine cx_sound _ _ _ _ _ ?_
        have e17 : IntKind.wrap .i64 ((x.1 : Int) + 1) = ((x.1 + 1 : Nat) : Int) := (wrap_i64 (by omega) (by omega)).trans (by omega)
        refine ⟨_, rfl, ?_⟩
        exact ⟨(x.1 + 1, y), t.length - (x.1 + 1), by omega, ⟨rfl, rfl, congrArg (Value.int .i64) e17, trivial⟩, rfl, rfl, h2', by omega, by have := hz (by omega); simp only; omega, rfl⟩
      · replace h3 : y < 0 := of_decide_eq_true h3
        refine AW.cut lo0 st [(0, vS p t.length), (1, vI y), (5, vI (x.1 : Int)), (15, vB true), (25, vB true)] ⟨rfl, rfl, rfl, rfl, rfl, trivial⟩ fun ρ0 => ?_
        refine cx_sound _ _ _ _ _ ?_
        exact ⟨.inl rfl, _, rfl, -1, rfl, by omega, fun h => absurd h (by omega), rfl⟩
  · replace h1 : n - (t.length : Int) < 0 := of_decide_eq_true h1
    refine AW.cut lo0 st [(0, vS p t.length), (1, vI (n - (t.length : Int))), (4, vI (0)), (11, vB true)] ⟨rfl, rfl, rfl, rfl, trivial⟩ fun ρ0 => ?_
    refine cx_sound _ _ _ _ _ ?_
    exact ⟨.inl rfl, _, rfl, -1, rfl, by omega, fun h => absurd h (by omega), rfl⟩
theorem sz_rows {t : List RV} {r : Int} (h : r + (t.length : Int) + (cntT t : Int) = 1048576) (h0 : 0 ≤ r) : szOk t.length ∧ (∀ x ∈ t, szOk x.l.length) ∧ cntT t ≤ 1048576 := by
  refine ⟨by unfold szOk; omega, fun x hx => ?_, by omega⟩
  obtain ⟨i, hi⟩ := List.getElem?_of_mem hx
  have := cntT_take hi
  unfold szOk
  omega
abbrev zRV : RV := ⟨none, []⟩
theorem ac_laws_toIntSS (p : Option Addr) (t : List RV) (st : St) (hR : RdT st p t) (hs : szOk t.length) (hr : ∀ r ∈ t, szOk r.l.length) : C 50 [vS p t.length] st (fun v s => ∃ q u, v = vS q t.length ∧ u.map (·.l) = t.map (·.l) ∧ OwnP s (pcT q u) ∧ NewP st.next (pcT q u) ∧ Pres st s) := by
  have hs : t.length ≤ 1048576 := hs
  refine AC.enterX (i := ⟨[], [], [0, 2, 3, 4, 11]⟩) [] Try.func50 rfl rfl (by kernel_rfl) (by kernel_rfl) Try.ntmps50 (Nat.le_of_ble_eq_true rfl) rfl ?_
  refine AW.cut lo0 st [(0, vS p t.length), (2, .slice none 0 0)] ⟨rfl, rfl, trivial⟩ fun ρ0 => ?_
  refine ⟨_, rfl, ?_⟩
  refine op_mkK (z := 1) (f := cRV) (a := zRV) (b := 24) (i := t.length) rfl rfl rfl rfl rfl rfl rfl rfl rfl Nat.one_pos rfl rfl (by omega) (by omega) ?_
  intro q s1 hO hP hN
  have hO : OwnP s1 [pcR 1 cRV q (List.replicate t.length zRV)] := OwnP.one (own_pc hO)
  refine cx_sound _ _ _ _ _ ?_
  refine AW.cut lo0 s1 [(0, vS p t.length), (2, .slice none 0 0), (3, vS q t.length), (4, vI (0))] ⟨rfl, rfl, rfl, rfl, trivial⟩ fun ρ0 => ?_
  refine AW.loop0 (fun x : Nat × List RV => [(0, vS p t.length), (3, vS q t.length), (4, vI (x.1 : Int))]) (fun m (x : Nat × List RV) st' => m = t.length - x.1 ∧ x.1 ≤ t.length ∧ x.2.map (·.l) = (t.take x.1).map (·.l) ∧ OwnP st' (pcR 1 cRV q (x.2 ++ List.replicate (t.length - x.1) zRV) :: x.2.map pcRV) ∧ NewP st.next (pcT q x.2) ∧ Pres st st') (0, []) _ ⟨rfl, rfl, rfl, trivial⟩ rfl ⟨rfl, Nat.zero_le _, rfl, hO, NewP.cons hN NewP.nil, hP⟩ ?_
  rintro m x ρ0 st' ⟨rfl, hi, hl, hO', hN', hP'⟩
  iterate 2 refine ⟨_, rfl, ?_⟩
  rintro (_|_) h1
  · replace h1 : ¬ ((x.1 : Int) < (t.length : Int)) := of_decide_eq_false h1
    refine AW.cut lo0 st' [(0, vS p t.length), (3, vS q t.length), (4, vI (x.1 : Int)), (11, vB false)] ⟨rfl, rfl, rfl, rfl, trivial⟩ fun ρ0 => ?_
    refine cx_sound _ _ _ _ _ ?_
    refine cx_sound _ _ _ _ _ ?_
    have hil : x.1 = t.length := by omega
    rw [hil, Nat.sub_self, List.replicate_zero, List.append_nil] at hO'
    exact ⟨.inl rfl, _, rfl, q, x.2, rfl, by rw [hl, hil, List.take_length], hO', hN', hP'⟩
  · replace h1 : (x.1 : Int) < (t.length : Int) := of_decide_eq_true h1
    refine AW.cut lo0 st' [(0, vS p t.length), (3, vS q t.length), (4, vI (x.1 : Int)), (11, vB true)] ⟨rfl, rfl, rfl, rfl, trivial⟩ fun ρ0 => ?_
    have h1' := Int.ofNat_lt.1 h1
    have ⟨b1, o1, k1, r, hpe, hr1, hm1, hc1⟩ := (hR.pres hP').1.at h1'
    have hmem := List.mem_of_getElem? hr1
    obtain ⟨d1, d2, d3⟩ := split_at hr1
    have hxl : x.2.length = x.1 := by have := congrArg List.length hl; simp at this; omega
    obtain ⟨n1, hn1⟩ : ∃ n1, t.length - x.1 = n1 + 1 := ⟨t.length - x.1 - 1, by omega⟩
    refine cx_sound _ _ _ _ _ ?_
    refine ⟨_, op_idx (j := (x.1 : Int)) (n := t.length) (q := ⟨b1, o1, none⟩) rfl (congrArg (fun u => vS u t.length) hpe) rfl rfl rfl (Int.natCast_nonneg _) h1, ?_⟩
    refine ⟨_, op_ldc (i := 0) (v := vS r.p r.l.length) rfl rfl rfl rfl hm1 hc1 rfl rfl, ?_⟩
    refine ⟨_, rfl, (ac_laws_toIntS r.p r.l st' ((hR.pres hP').2 r hmem) (hr r hmem)).mono ?_⟩
    rintro _ s2 ⟨q2, rfl, hO2, hP2, hN2⟩
    have hA := OwnP.join hO' hP2 (OwnP.one (own_pc hO2)) (NewP.cons hN2 NewP.nil)
    have hlen : x.1 < (x.2 ++ List.replicate (t.length - x.1) zRV).length := by rw [List.length_append, List.length_replicate]; omega
    have hout : OwnR s2 1 cRV q (x.2 ++ List.replicate (t.length - x.1) zRV) := pc_own Nat.one_pos cRV_len ((hO'.pres hP2).1 _ (List.mem_cons_self ..))
    have ⟨a, ha⟩ := hout.some (by omega)
    refine ⟨_, op_idx (j := (x.1 : Int)) (n := t.length) (q := ⟨a, 0, none⟩) rfl (congrArg (fun u => vS u t.length) ha) rfl rfl rfl (Int.natCast_nonneg _) h1, ?_⟩
    refine op_put (z := 1) (st := s2) (f := cRV) (j := x.1) (l := x.2 ++ List.replicate (t.length - x.1) zRV) (y := (⟨q2, r.l⟩ : RV)) (p := q) (d := 0 + x.1 * 1) rfl rfl (Nat.zero_add _) rfl rfl cRV_len rfl rfl hlen hout ha ?_
    intro s5 hO5 hP5 hn5
    refine AW.cut lo0 s5 [(0, vS p t.length), (3, vS q t.length), (4, vI (x.1 : Int)), (11, vB true)] ⟨rfl, rfl, rfl, rfl, trivial⟩ fun ρ0 => ?_
    have hset : (x.2 ++ List.replicate (t.length - x.1) zRV).set x.1 ⟨q2, r.l⟩ = (x.2 ++ [⟨q2, r.l⟩]) ++ List.replicate (t.length - (x.1 + 1)) zRV := by
      rw [hn1, show t.length - (x.1 + 1) = n1 by omega, List.replicate_succ, List.set_append_right _ _ (by omega), show x.1 - x.2.length = 0 by omega, List.set_cons_zero]
      simp
    rw [hset] at hO5
    have hB : OwnP s5 (pcR 1 cRV q ((x.2 ++ [⟨q2, r.l⟩]) ++ List.replicate (t.length - (x.1 + 1)) zRV) :: (x.2.map pcRV ++ [pcRV ⟨q2, r.l⟩])) :=
      OwnP.update (l := []) (m := x.2.map pcRV ++ [pcRV ⟨q2, r.l⟩]) (c := pcR 1 cRV q (x.2 ++ List.replicate (t.length - x.1) zRV)) (d := pcR 1 cRV q ((x.2 ++ [(⟨q2, r.l⟩ : RV)]) ++ List.replicate (t.length - (x.1 + 1)) zRV)) hA hP5 (own_pc hO5) rfl
    have hB : OwnP s5 (pcR 1 cRV q ((x.2 ++ [⟨q2, r.l⟩]) ++ List.replicate (t.length - (x.1 + 1)) zRV) :: (x.2 ++ [(⟨q2, r.l⟩ : RV)]).map pcRV) := by rw [List.map_append]; exact hB
    have e13 : IntKind.wrap .i64 ((x.1 : Int) + 1) = ((x.1 + 1 : Nat) : Int) := (wrap_i64 (by omega) (by omega)).trans (by omega)
    refine ⟨_, rfl, ?_⟩
    refine ⟨(x.1 + 1, x.2 ++ [⟨q2, r.l⟩]), t.length - (x.1 + 1), by omega, ⟨rfl, rfl, congrArg (Value.int .i64) e13, trivial⟩, rfl, rfl, h1', ?_, hB, ?_, ?_⟩
    · rw [List.map_append, hl, d2, List.map_append]; rfl
    · refine NewP.cons hN ?_
      rw [List.map_append]
      exact NewP.app (fun c hc => hN' c (List.mem_cons_of_mem _ hc)) (NewP.cons (hN2.le hP'.1) NewP.nil)
    · exact hP5.pres (hP'.trans hP2) hN
/-- The common number of a column. -/
def commonGo (id : Int) : List (List Int) → Bool → Int → Int
  | [], _, v => v
  | r :: t, b, v => if 0 ≤ id ∧ id ≤ (r.length : Int) - 1 then (if b = true ∨ r.getD id.toNat 0 < v then commonGo id t false (r.getD id.toNat 0) else commonGo id t false v) else 0
def common (t : List (List Int)) (id : Int) : Int := commonGo id t true 0
theorem getD_of {l : List Int} {i : Nat} {x : Int} (h : l[i]? = some x) : l.getD i 0 = x := by rw [List.getD_eq_getElem?_getD, h]; rfl
theorem ac_spec_Common (p : Option Addr) (t : List RV) (id : Int) (st : St) (hR : RdT st p t) (hs : szOk t.length) (hr : ∀ r ∈ t, szOk r.l.length) : C 123 [vS p t.length, vI id] st (fun v s => v = vI (common (t.map (·.l)) id) ∧ s = st) := by
  have hs : t.length ≤ 1048576 := hs
  refine AC.enterX (i := ⟨[], [], [0, 1, 4, 5, 6, 9, 13, 24, 37]⟩) [] Try.func123 rfl rfl (by kernel_rfl) (by kernel_rfl) Try.ntmps123 (Nat.le_of_ble_eq_true rfl) rfl ?_
  refine AW.cut lo0 st [(0, vS p t.length), (1, vI id), (4, vI (0))] ⟨rfl, rfl, rfl, trivial⟩ fun ρ0 => ?_
  iterate 2 refine ⟨_, rfl, ?_⟩
  rintro (_|_) h0
  · replace h0 : ¬ ((t.length : Int) = 0) := beq_eq_false_iff_ne.1 h0
    refine AW.cut lo0 st [(0, vS p t.length), (1, vI id), (4, vI (0)), (9, vB false)] ⟨rfl, rfl, rfl, rfl, trivial⟩ fun ρ0 => ?_
    refine cx_sound _ _ _ _ _ ?_
    refine cx_sound _ _ _ _ _ ?_
    refine AW.cut lo0 st [(0, vS p t.length), (1, vI id), (4, vI (0)), (5, vI (0)), (6, vI (0))] ⟨rfl, rfl, rfl, rfl, rfl, trivial⟩ fun ρ0 => ?_
    refine AW.loop0 (fun x : Nat × Int => [(0, vS p t.length), (1, vI id), (5, vI x.2), (6, vI (x.1 : Int))]) (fun m (x : Nat × Int) st' => m = t.length - x.1 ∧ x.1 ≤ t.length ∧ common (t.map (·.l)) id = commonGo id ((t.drop x.1).map (·.l)) (decide (x.1 = 0)) x.2 ∧ st = st') (0, 0) _ ⟨rfl, rfl, rfl, rfl, trivial⟩ rfl ⟨rfl, Nat.zero_le _, rfl, rfl⟩ ?_
    rintro m x ρ0 st' ⟨rfl, hi, hc, rfl⟩
    iterate 2 refine ⟨_, rfl, ?_⟩
    rintro (_|_) h1
    · replace h1 : ¬ ((x.1 : Int) < (t.length : Int)) := of_decide_eq_false h1
      refine AW.cut lo0 st [(0, vS p t.length), (1, vI id), (5, vI x.2), (6, vI (x.1 : Int)), (13, vB false)] ⟨rfl, rfl, rfl, rfl, rfl, trivial⟩ fun ρ0 => ?_
      refine cx_sound _ _ _ _ _ ?_
      refine cx_sound _ _ _ _ _ ?_
      have hil : x.1 = t.length := by omega
      rw [hil, List.drop_length] at hc
      exact ⟨.inl rfl, _, rfl, congrArg vI hc.symm, rfl⟩
    · replace h1 : (x.1 : Int) < (t.length : Int) := of_decide_eq_true h1
      refine AW.cut lo0 st [(0, vS p t.length), (1, vI id), (5, vI x.2), (6, vI (x.1 : Int)), (13, vB true)] ⟨rfl, rfl, rfl, rfl, rfl, trivial⟩ fun ρ0 => ?_
      have h1' := Int.ofNat_lt.1 h1
      have ⟨b1, o1, k1, r, hpe, hr1, hm1, hc1, hb1⟩ := hR.1.atB h1'
      have hmem := List.mem_of_getElem? hr1
      have hrs : r.l.length ≤ 1048576 := hr r hmem
      obtain ⟨d1, d2, d3⟩ := split_at hr1
      rw [d3, List.map_cons, commonGo] at hc
      have e22 : IntKind.wrap .i64 ((r.l.length : Int) - 1) = (r.l.length : Int) - 1 := wrap_i64 (by omega) (by omega)
      refine cx_sound _ _ _ _ _ ?_
      refine ⟨_, op_idx (j := (x.1 : Int)) (n := t.length) (q := ⟨b1, o1, none⟩) rfl (congrArg (fun u => vS u t.length) hpe) rfl rfl rfl (Int.natCast_nonneg _) h1, ?_⟩
      refine ⟨_, op_ldc (i := 0) (v := vS r.p r.l.length) rfl rfl rfl rfl hm1 hc1 rfl rfl, ?_⟩
      iterate 2 refine ⟨_, rfl, ?_⟩
      refine ⟨_, rfl, (ac_spec_l1In id 0 _ st).mono ?_⟩
      rintro _ st ⟨y, rfl, hy, rfl⟩
      rcases y with _|_
      · replace hy := of_decide_eq_false hy.symm
        refine ⟨_, rfl, ?_⟩
        refine AW.cut lo0 st [(0, vS p t.length), (1, vI id), (5, vI x.2), (6, vI (x.1 : Int)), (13, vB true), (24, vB true)] ⟨rfl, rfl, rfl, rfl, rfl, rfl, trivial⟩ fun ρ0 => ?_
        replace hy : ¬ (0 ≤ id ∧ id ≤ (r.l.length : Int) - 1) := fun h => hy (by rw [e22]; exact h)
        rw [if_neg hy] at hc
        refine cx_sound _ _ _ _ _ ?_
        exact ⟨.inl rfl, _, rfl, congrArg vI hc.symm, rfl⟩
      · replace hy := of_decide_eq_true hy.symm
        refine ⟨_, rfl, ?_⟩
        refine AW.cut lo0 st [(0, vS p t.length), (1, vI id), (5, vI x.2), (6, vI (x.1 : Int)), (13, vB true), (24, vB false)] ⟨rfl, rfl, rfl, rfl, rfl, rfl, trivial⟩ fun ρ0 => ?_
        replace hy : 0 ≤ id ∧ id ≤ IntKind.wrap .i64 ((r.l.length : Int) - 1) := hy
        rw [e22] at hy
        rw [if_pos hy] at hc
        have ⟨b2, o2, k2, z, hqe, hz, hm2, hc2, hb2⟩ := (hR.2 r hmem).atB (j := id.toNat) (by omega)
        rw [getD_of hz] at hc
        refine cx_sound _ _ _ _ _ ?_
        refine ⟨_, rfl, ?_⟩
        rintro (_|_) h2
        · replace h2 : ¬ ((x.1 : Int) = 0) := beq_eq_false_iff_ne.1 h2
          refine ⟨_, op_idx (j := (x.1 : Int)) (n := t.length) (q := ⟨b1, o1, none⟩) rfl (congrArg (fun u => vS u t.length) hpe) rfl rfl rfl (Int.natCast_nonneg _) h1, ?_⟩
          refine ⟨_, op_ldc (i := 0) (v := vS r.p r.l.length) rfl rfl rfl rfl hm1 hc1 rfl rfl, ?_⟩
          refine ⟨_, op_idx (j := id) (n := r.l.length) (q := ⟨b2, o2, none⟩) rfl (congrArg (fun u => vS u r.l.length) hqe) rfl rfl rfl hy.1 (by omega), ?_⟩
          refine ⟨_, op_ldc (i := 0) (v := vI z) rfl rfl rfl rfl hm2 hc2 rfl rfl, ?_⟩
          refine ⟨_, rfl, ?_⟩
          rintro (_|_) h3
          · replace h3 : ¬ (z < x.2) := of_decide_eq_false h3
            refine ⟨_, rfl, ?_⟩
            refine AW.cut lo0 st [(0, vS p t.length), (1, vI id), (5, vI x.2), (6, vI (x.1 : Int)), (13, vB true), (24, vB false), (37, vB false)] ⟨rfl, rfl, rfl, rfl, rfl, rfl, rfl, trivial⟩ fun ρ0 => ?_
            refine cx_sound _ _ _ _ _ ?_
            have e15 : IntKind.wrap .i64 ((x.1 : Int) + 1) = ((x.1 + 1 : Nat) : Int) := (wrap_i64 (by omega) (by omega)).trans (by omega)
            refine ⟨_, rfl, ?_⟩
            exact ⟨(x.1 + 1, x.2), t.length - (x.1 + 1), by omega, ⟨rfl, rfl, rfl, congrArg (Value.int .i64) e15, trivial⟩, rfl, rfl, h1', by rw [if_neg (fun h => by rcases h with h | h; exact absurd (of_decide_eq_true h) (by omega); exact h3 h)] at hc; exact hc, rfl⟩
          · replace h3 : z < x.2 := of_decide_eq_true h3
            refine ⟨_, rfl, ?_⟩
            refine AW.cut lo0 st [(0, vS p t.length), (1, vI id), (5, vI x.2), (6, vI (x.1 : Int)), (13, vB true), (24, vB false), (37, vB true)] ⟨rfl, rfl, rfl, rfl, rfl, rfl, rfl, trivial⟩ fun ρ0 => ?_
            refine ⟨_, op_idx (j := (x.1 : Int)) (n := t.length) (q := ⟨b1, o1, none⟩) rfl (congrArg (fun u => vS u t.length) hpe) rfl rfl rfl (Int.natCast_nonneg _) h1, ?_⟩
            refine ⟨_, op_ldc (i := 0) (v := vS r.p r.l.length) rfl rfl rfl rfl hm1 hc1 rfl rfl, ?_⟩
            refine ⟨_, op_idx (j := id) (n := r.l.length) (q := ⟨b2, o2, none⟩) rfl (congrArg (fun u => vS u r.l.length) hqe) rfl rfl rfl hy.1 (by omega), ?_⟩
            refine ⟨_, op_ldc (i := 0) (v := vI z) rfl rfl rfl rfl hm2 hc2 rfl rfl, ?_⟩
            refine AW.cut lo0 st [(0, vS p t.length), (1, vI id), (5, vI z), (6, vI (x.1 : Int)), (13, vB true), (24, vB false), (37, vB true)] ⟨rfl, rfl, rfl, rfl, rfl, rfl, rfl, trivial⟩ fun ρ0 => ?_
            have e15 : IntKind.wrap .i64 ((x.1 : Int) + 1) = ((x.1 + 1 : Nat) : Int) := (wrap_i64 (by omega) (by omega)).trans (by omega)
            refine ⟨_, rfl, ?_⟩
            exact ⟨(x.1 + 1, z), t.length - (x.1 + 1), by omega, ⟨rfl, rfl, rfl, congrArg (Value.int .i64) e15, trivial⟩, rfl, rfl, h1', by rw [if_pos (.inr h3)] at hc; exact hc, rfl⟩
        · replace h2 : (x.1 : Int) = 0 := beq_iff_eq.1 h2
          refine ⟨_, rfl, ?_⟩
          refine AW.cut lo0 st [(0, vS p t.length), (1, vI id), (5, vI x.2), (6, vI (x.1 : Int)), (13, vB true), (24, vB false), (37, vB true)] ⟨rfl, rfl, rfl, rfl, rfl, rfl, rfl, trivial⟩ fun ρ0 => ?_
          refine ⟨_, op_idx (j := (x.1 : Int)) (n := t.length) (q := ⟨b1, o1, none⟩) rfl (congrArg (fun u => vS u t.length) hpe) rfl rfl rfl (Int.natCast_nonneg _) h1, ?_⟩
          refine ⟨_, op_ldc (i := 0) (v := vS r.p r.l.length) rfl rfl rfl rfl hm1 hc1 rfl rfl, ?_⟩
          refine ⟨_, op_idx (j := id) (n := r.l.length) (q := ⟨b2, o2, none⟩) rfl (congrArg (fun u => vS u r.l.length) hqe) rfl rfl rfl hy.1 (by omega), ?_⟩
          refine ⟨_, op_ldc (i := 0) (v := vI z) rfl rfl rfl rfl hm2 hc2 rfl rfl, ?_⟩
          refine AW.cut lo0 st [(0, vS p t.length), (1, vI id), (5, vI z), (6, vI (x.1 : Int)), (13, vB true), (24, vB false), (37, vB true)] ⟨rfl, rfl, rfl, rfl, rfl, rfl, rfl, trivial⟩ fun ρ0 => ?_
          have e15 : IntKind.wrap .i64 ((x.1 : Int) + 1) = ((x.1 + 1 : Nat) : Int) := (wrap_i64 (by omega) (by omega)).trans (by omega)
          refine ⟨_, rfl, ?_⟩
          exact ⟨(x.1 + 1, z), t.length - (x.1 + 1), by omega, ⟨rfl, rfl, rfl, congrArg (Value.int .i64) e15, trivial⟩, rfl, rfl, h1', by rw [if_pos (.inl (decide_eq_true (by omega)))] at hc; exact hc, rfl⟩
  · replace h0 : (t.length : Int) = 0 := beq_iff_eq.1 h0
    refine AW.cut lo0 st [(0, vS p t.length), (1, vI id), (4, vI (0)), (9, vB true)] ⟨rfl, rfl, rfl, rfl, trivial⟩ fun ρ0 => ?_
    refine cx_sound _ _ _ _ _ ?_
    have : t = [] := List.length_eq_zero_iff.1 (by omega)
    exact ⟨.inl rfl, _, rfl, by rw [this]; rfl, rfl⟩
theorem ac_impl_Common (p : Option Addr) (t : List RV) (id : Int) (st : St) (hR : RdT st p t) (hs : szOk t.length) (hr : ∀ r ∈ t, szOk r.l.length) : C 125 [vS p t.length, vI id] st (fun v s => v = vI (common (t.map (·.l)) id) ∧ s = st) := by
  have hs : t.length ≤ 1048576 := hs
  refine AC.enterX (i := ⟨[], [], [0, 1, 4, 5, 6, 7, 8, 9, 10, 11, 20, 30]⟩) [] Try.func125 rfl rfl (by kernel_rfl) (by kernel_rfl) Try.ntmps125 (Nat.le_of_ble_eq_true rfl) rfl ?_
  refine cx_sound _ _ _ _ _ ?_
  refine AW.cut lo0 st [(0, vS p t.length), (1, vI id), (4, vI (0)), (5, vI (0))] ⟨rfl, rfl, rfl, rfl, trivial⟩ fun ρ0 => ?_
  refine ⟨_, rfl, ?_⟩
  refine AW.cut lo0 st [(0, vS p t.length), (1, vI id), (4, vI (0)), (5, vI (0)), (8, vS p t.length), (9, vI (t.length)), (10, vI (0))] ⟨rfl, rfl, rfl, rfl, rfl, rfl, rfl, trivial⟩ fun ρ0 => ?_
  refine AW.loop0 (fun x : Nat × Int => [(0, vS p t.length), (1, vI id), (5, vI x.2), (8, vS p t.length), (9, vI (t.length : Int)), (10, vI (x.1 : Int))]) (fun m (x : Nat × Int) st' => m = t.length - x.1 ∧ x.1 ≤ t.length ∧ common (t.map (·.l)) id = commonGo id ((t.drop x.1).map (·.l)) (decide (x.1 = 0)) x.2 ∧ st = st') (0, 0) _ ⟨rfl, rfl, rfl, rfl, rfl, rfl, trivial⟩ rfl ⟨rfl, Nat.zero_le _, rfl, rfl⟩ ?_
  rintro m x ρ0 st' ⟨rfl, hi, hc, rfl⟩
  refine ⟨_, rfl, ?_⟩
  rintro (_|_) h1
  · replace h1 : ¬ ((x.1 : Int) < (t.length : Int)) := of_decide_eq_false h1
    refine AW.cut lo0 st [(0, vS p t.length), (1, vI id), (5, vI x.2), (8, vS p t.length), (9, vI (t.length : Int)), (10, vI (x.1 : Int)), (11, vB false)] ⟨rfl, rfl, rfl, rfl, rfl, rfl, rfl, trivial⟩ fun ρ0 => ?_
    refine cx_sound _ _ _ _ _ ?_
    refine cx_sound _ _ _ _ _ ?_
    have hil : x.1 = t.length := by omega
    rw [hil, List.drop_length] at hc
    exact ⟨.inl rfl, _, rfl, congrArg vI hc.symm, rfl⟩
  · replace h1 : (x.1 : Int) < (t.length : Int) := of_decide_eq_true h1
    refine AW.cut lo0 st [(0, vS p t.length), (1, vI id), (5, vI x.2), (8, vS p t.length), (9, vI (t.length : Int)), (10, vI (x.1 : Int)), (11, vB true)] ⟨rfl, rfl, rfl, rfl, rfl, rfl, rfl, trivial⟩ fun ρ0 => ?_
    have h1' := Int.ofNat_lt.1 h1
    have ⟨b1, o1, k1, r, hpe, hr1, hm1, hc1, hb1⟩ := hR.1.atB h1'
    have hmem := List.mem_of_getElem? hr1
    have hrs : r.l.length ≤ 1048576 := hr r hmem
    obtain ⟨d1, d2, d3⟩ := split_at hr1
    rw [d3, List.map_cons, commonGo] at hc
    have e18 : IntKind.wrap .i64 ((r.l.length : Int) - 1) = (r.l.length : Int) - 1 := wrap_i64 (by omega) (by omega)
    refine cx_sound _ _ _ _ _ ?_
    refine ⟨_, op_idx (j := (x.1 : Int)) (n := t.length) (q := ⟨b1, o1, none⟩) rfl (congrArg (fun u => vS u t.length) hpe) rfl rfl rfl (Int.natCast_nonneg _) h1, ?_⟩
    refine ⟨_, op_ldc (i := 0) (v := vS r.p r.l.length) rfl rfl rfl rfl hm1 hc1 rfl rfl, ?_⟩
    refine AW.cut lo0 st [(0, vS p t.length), (1, vI id), (5, vI x.2), (6, vI (x.1 : Int)), (7, vS r.p r.l.length), (8, vS p t.length), (9, vI (t.length : Int)), (10, vI (x.1 : Int)), (11, vB true)] ⟨rfl, rfl, rfl, rfl, rfl, rfl, rfl, rfl, rfl, trivial⟩ fun ρ0 => ?_
    iterate 2 refine ⟨_, rfl, ?_⟩
    refine ⟨_, rfl, (ac_impl_within id 0 _ st).mono ?_⟩
    rintro _ st ⟨y, rfl, hy, rfl⟩
    rcases y with _|_
    · replace hy := of_decide_eq_false hy.symm
      refine ⟨_, rfl, ?_⟩
      refine AW.cut lo0 st [(0, vS p t.length), (1, vI id), (5, vI x.2), (6, vI (x.1 : Int)), (7, vS r.p r.l.length), (8, vS p t.length), (9, vI (t.length : Int)), (10, vI (x.1 : Int)), (11, vB true), (20, vB true)] ⟨rfl, rfl, rfl, rfl, rfl, rfl, rfl, rfl, rfl, rfl, trivial⟩ fun ρ0 => ?_
      replace hy : ¬ (0 ≤ id ∧ id ≤ (r.l.length : Int) - 1) := fun h => hy (by rw [e18]; exact h)
      rw [if_neg hy] at hc
      refine cx_sound _ _ _ _ _ ?_
      exact ⟨.inl rfl, _, rfl, congrArg vI hc.symm, rfl⟩
    · replace hy := of_decide_eq_true hy.symm
      refine ⟨_, rfl, ?_⟩
      refine AW.cut lo0 st [(0, vS p t.length), (1, vI id), (5, vI x.2), (6, vI (x.1 : Int)), (7, vS r.p r.l.length), (8, vS p t.length), (9, vI (t.length : Int)), (10, vI (x.1 : Int)), (11, vB true), (20, vB false)] ⟨rfl, rfl, rfl, rfl, rfl, rfl, rfl, rfl, rfl, rfl, trivial⟩ fun ρ0 => ?_
      replace hy : 0 ≤ id ∧ id ≤ IntKind.wrap .i64 ((r.l.length : Int) - 1) := hy
      rw [e18] at hy
      rw [if_pos hy] at hc
      have ⟨b2, o2, k2, z, hqe, hz, hm2, hc2, hb2⟩ := (hR.2 r hmem).atB (j := id.toNat) (by omega)
      rw [getD_of hz] at hc
      refine cx_sound _ _ _ _ _ ?_
      refine ⟨_, rfl, ?_⟩
      rintro (_|_) h2
      · replace h2 : ¬ ((x.1 : Int) = 0) := beq_eq_false_iff_ne.1 h2
        refine ⟨_, op_idx (j := id) (n := r.l.length) (q := ⟨b2, o2, none⟩) rfl (congrArg (fun u => vS u r.l.length) hqe) rfl rfl rfl hy.1 (by omega), ?_⟩
        refine ⟨_, op_ldc (i := 0) (v := vI z) rfl rfl rfl rfl hm2 hc2 rfl rfl, ?_⟩
        refine ⟨_, rfl, ?_⟩
        rintro (_|_) h3
        · replace h3 : ¬ (z < x.2) := of_decide_eq_false h3
          refine ⟨_, rfl, ?_⟩
          refine AW.cut lo0 st [(0, vS p t.length), (1, vI id), (5, vI x.2), (6, vI (x.1 : Int)), (7, vS r.p r.l.length), (8, vS p t.length), (9, vI (t.length : Int)), (10, vI (x.1 : Int)), (11, vB true), (20, vB false), (30, vB false)] ⟨rfl, rfl, rfl, rfl, rfl, rfl, rfl, rfl, rfl, rfl, rfl, trivial⟩ fun ρ0 => ?_
          refine cx_sound _ _ _ _ _ ?_
          have e35 : IntKind.wrap .i64 ((x.1 : Int) + 1) = ((x.1 + 1 : Nat) : Int) := (wrap_i64 (by omega) (by omega)).trans (by omega)
          refine ⟨_, rfl, ?_⟩
          exact ⟨(x.1 + 1, x.2), t.length - (x.1 + 1), by omega, ⟨rfl, rfl, rfl, rfl, rfl, congrArg (Value.int .i64) e35, trivial⟩, rfl, rfl, h1', by rw [if_neg (fun h => by rcases h with h | h; exact absurd (of_decide_eq_true h) (by omega); exact h3 h)] at hc; exact hc, rfl⟩
        · replace h3 : z < x.2 := of_decide_eq_true h3
          refine ⟨_, rfl, ?_⟩
          refine AW.cut lo0 st [(0, vS p t.length), (1, vI id), (5, vI x.2), (6, vI (x.1 : Int)), (7, vS r.p r.l.length), (8, vS p t.length), (9, vI (t.length : Int)), (10, vI (x.1 : Int)), (11, vB true), (20, vB false), (30, vB true)] ⟨rfl, rfl, rfl, rfl, rfl, rfl, rfl, rfl, rfl, rfl, rfl, trivial⟩ fun ρ0 => ?_
          refine ⟨_, op_idx (j := id) (n := r.l.length) (q := ⟨b2, o2, none⟩) rfl (congrArg (fun u => vS u r.l.length) hqe) rfl rfl rfl hy.1 (by omega), ?_⟩
          refine ⟨_, op_ldc (i := 0) (v := vI z) rfl rfl rfl rfl hm2 hc2 rfl rfl, ?_⟩
          refine AW.cut lo0 st [(0, vS p t.length), (1, vI id), (5, vI z), (6, vI (x.1 : Int)), (7, vS r.p r.l.length), (8, vS p t.length), (9, vI (t.length : Int)), (10, vI (x.1 : Int)), (11, vB true), (20, vB false), (30, vB true)] ⟨rfl, rfl, rfl, rfl, rfl, rfl, rfl, rfl, rfl, rfl, rfl, trivial⟩ fun ρ0 => ?_
          have e35 : IntKind.wrap .i64 ((x.1 : Int) + 1) = ((x.1 + 1 : Nat) : Int) := (wrap_i64 (by omega) (by omega)).trans (by omega)
          refine ⟨_, rfl, ?_⟩
          exact ⟨(x.1 + 1, z), t.length - (x.1 + 1), by omega, ⟨rfl, rfl, rfl, rfl, rfl, congrArg (Value.int .i64) e35, trivial⟩, rfl, rfl, h1', by rw [if_pos (.inr h3)] at hc; exact hc, rfl⟩
      · replace h2 : (x.1 : Int) = 0 := beq_iff_eq.1 h2
        refine ⟨_, rfl, ?_⟩
        refine AW.cut lo0 st [(0, vS p t.length), (1, vI id), (5, vI x.2), (6, vI (x.1 : Int)), (7, vS r.p r.l.length), (8, vS p t.length), (9, vI (t.length : Int)), (10, vI (x.1 : Int)), (11, vB true), (20, vB false), (30, vB true)] ⟨rfl, rfl, rfl, rfl, rfl, rfl, rfl, rfl, rfl, rfl, rfl, trivial⟩ fun ρ0 => ?_
        refine ⟨_, op_idx (j := id) (n := r.l.length) (q := ⟨b2, o2, none⟩) rfl (congrArg (fun u => vS u r.l.length) hqe) rfl rfl rfl hy.1 (by omega), ?_⟩
        refine ⟨_, op_ldc (i := 0) (v := vI z) rfl rfl rfl rfl hm2 hc2 rfl rfl, ?_⟩
        refine AW.cut lo0 st [(0, vS p t.length), (1, vI id), (5, vI z), (6, vI (x.1 : Int)), (7, vS r.p r.l.length), (8, vS p t.length), (9, vI (t.length : Int)), (10, vI (x.1 : Int)), (11, vB true), (20, vB false), (30, vB true)] ⟨rfl, rfl, rfl, rfl, rfl, rfl, rfl, rfl, rfl, rfl, rfl, trivial⟩ fun ρ0 => ?_
        have e35 : IntKind.wrap .i64 ((x.1 : Int) + 1) = ((x.1 + 1 : Nat) : Int) := (wrap_i64 (by omega) (by omega)).trans (by omega)
        refine ⟨_, rfl, ?_⟩
        exact ⟨(x.1 + 1, z), t.length - (x.1 + 1), by omega, ⟨rfl, rfl, rfl, rfl, rfl, congrArg (Value.int .i64) e35, trivial⟩, rfl, rfl, h1', by rw [if_pos (.inl (decide_eq_true (by omega)))] at hc; exact hc, rfl⟩
end Go.Proofs.Ytopcpcoklgepnaa.AM
