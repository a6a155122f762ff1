/- Contracts of tables of ints: compared, marked, held, sized, copied; the law of new tables. -/
import Derived.Test.YtopcpcoklgepnaaF7
namespace Go.Proofs.Ytopcpcoklgepnaa.AM
open Go Go.Proofs
set_option linter.unusedVariables false
set_option linter.unusedSimpArgs false
set_option maxRecDepth 100000
set_option maxHeartbeats 4000000
def cntT (t : List RV) : Nat := (t.map fun r => r.l.length).sum
def mkT : List RV → Int → List RV
  | [], _ => []
  | r :: t, k => ⟨r.p, mkInts r.l.length k⟩ :: mkT t (k + (r.l.length : Int))
theorem cntT_app (a b : List RV) : cntT (a ++ b) = cntT a + cntT b := by simp [cntT]
theorem cntT_one (r : RV) : cntT [r] = r.l.length := by simp [cntT]
theorem mkT_len : ∀ (t : List RV) (k : Int), (mkT t k).length = t.length
  | [], k => rfl
  | r :: t, k => by simp [mkT, mkT_len t]
theorem mkT_app : ∀ (a b : List RV) (k : Int), mkT (a ++ b) k = mkT a k ++ mkT b (k + (cntT a : Int))
  | [], b, k => by simp [mkT, cntT]
  | r :: a, b, k => by
    have h : (cntT (r :: a) : Int) = (r.l.length : Int) + (cntT a : Int) := by simp [cntT]
    rw [List.cons_append, mkT, mkT, mkT_app a b, h, ← Int.add_assoc]
    rfl
theorem mkT_flat : ∀ (t : List RV) (k : Int), (mkT t k).flatMap cRV = t.flatMap cRV
  | [], k => rfl
  | r :: t, k => by simp [mkT, mkT_flat t, mkInts_len]
theorem mkT_ps : ∀ (t : List RV) (k : Int), (mkT t k).map (·.p) = t.map (·.p)
  | [], k => rfl
  | r :: t, k => by simp [mkT, mkT_ps t]
theorem split_at {α : Type} {l : List α} {i : Nat} {x : α} (h : l[i]? = some x) : l = l.take i ++ x :: l.drop (i + 1) ∧ l.take (i + 1) = l.take i ++ [x] ∧ l.drop i = x :: l.drop (i + 1) := by
  obtain ⟨hi, hx⟩ := List.getElem?_eq_some_iff.1 h
  have h3 : l.drop i = x :: l.drop (i + 1) := by rw [List.drop_eq_getElem_cons hi, hx]
  refine ⟨?_, ?_, h3⟩
  · rw [← h3, List.take_append_drop]
  · rw [List.take_add_one, h]; rfl
theorem mkT_get {t : List RV} {k : Int} {i : Nat} {r : RV} (h : t[i]? = some r) : (mkT t k)[i]? = some ⟨r.p, mkInts r.l.length (k + (cntT (t.take i) : Int))⟩ := by
  have hi := (List.getElem?_eq_some_iff.1 h).1
  conv => lhs; rw [(split_at h).1]
  rw [mkT_app, List.getElem?_append_right (by rw [mkT_len, List.length_take]; omega), mkT_len, List.length_take, show i - min i t.length = 0 by omega]
  rfl
theorem cntT_take {t : List RV} {i : Nat} {r : RV} (h : t[i]? = some r) : cntT (t.take (i + 1)) = cntT (t.take i) + r.l.length ∧ cntT (t.take (i + 1)) ≤ cntT t := by
  obtain ⟨h1, h2, _⟩ := split_at h
  refine ⟨by rw [h2, cntT_app, cntT_one], ?_⟩
  conv => rhs; rw [h1]
  rw [h2, cntT_app, cntT_one, cntT_app, show r :: t.drop (i + 1) = [r] ++ t.drop (i + 1) from rfl, cntT_app, cntT_one]
  omega
theorem ac_laws_eqIntSS (p q : Option Addr) (a b : List RV) (st : St) (hA : RdT st p a) (hB : RdT st q b) (hs : szOk a.length) (hr : ∀ r ∈ a, szOk r.l.length) : C 52 [vS p a.length, vS q b.length] st (fun v s => ∃ x, v = .bool x ∧ (x = true ↔ a.map (·.l) = b.map (·.l)) ∧ s = st) := by
  have hs : a.length ≤ 1048576 := hs
  refine AC.enterX (i := ⟨[], [], [0, 1, 4, 5, 10, 14, 26]⟩) [(6, [], [])] Try.func52 rfl rfl (by kernel_rfl) (by kernel_rfl) Try.ntmps52 (Nat.le_of_ble_eq_true rfl) rfl ?_
  refine AW.cut lo0 st [(0, vS p a.length), (1, vS q b.length), (4, vB false)] ⟨rfl, rfl, rfl, trivial⟩ fun ρ0 => ?_
  iterate 3 refine ⟨_, rfl, ?_⟩
  rintro (_|_) h1
  · replace h1 : (a.length : Int) = (b.length : Int) := bne_eq_false_iff_eq.1 h1
    refine AW.cut lo0 st [(0, vS p a.length), (1, vS q b.length), (4, vB false), (10, vB false)] ⟨rfl, rfl, rfl, rfl, trivial⟩ fun ρ0 => ?_
    refine cx_sound _ _ _ _ _ ?_
    refine AW.cut lo0 st [(0, vS p a.length), (1, vS q b.length), (4, vB false), (5, vI (0))] ⟨rfl, rfl, rfl, rfl, trivial⟩ fun ρ0 => ?_
    refine AW.loop0 (fun i : Nat => [(0, vS p a.length), (1, vS q b.length), (4, vB false), (5, vI (i : Int))]) (fun m (i : Nat) st' => m = a.length - i ∧ i ≤ a.length ∧ (∀ (j : Nat) x y, j < i → a[j]? = some x → b[j]? = some y → x.l = y.l) ∧ st = st') 0 _ ⟨rfl, rfl, rfl, rfl, trivial⟩ rfl ⟨rfl, Nat.zero_le _, fun j x y h => absurd h (Nat.not_lt_zero _), rfl⟩ ?_
    rintro m i ρ0 st' ⟨rfl, hi, heq, rfl⟩
    iterate 2 refine ⟨_, rfl, ?_⟩
    rintro (_|_) h2
    · replace h2 : ¬ ((i : Int) < (a.length : Int)) := of_decide_eq_false h2
      refine AW.cut lo0 st [(0, vS p a.length), (1, vS q b.length), (4, vB false), (5, vI (i : Int)), (14, vB false)] ⟨rfl, rfl, rfl, rfl, rfl, trivial⟩ fun ρ0 => ?_
      refine cx_sound _ _ _ _ _ ?_
      refine cx_sound _ _ _ _ _ ?_
      refine ⟨.inl rfl, _, rfl, true, rfl, ⟨fun _ => ?_, fun _ => rfl⟩, rfl⟩
      refine iff_lists (by simp; omega) fun j x y hj hx hy => ?_
      rw [List.getElem?_map] at hx hy
      obtain ⟨u, hu, rfl⟩ := Option.map_eq_some_iff.1 hx
      obtain ⟨v, hv, rfl⟩ := Option.map_eq_some_iff.1 hy
      exact heq j u v (by simp at hj; omega) hu hv
    · replace h2 : (i : Int) < (a.length : Int) := of_decide_eq_true h2
      refine AW.cut lo0 st [(0, vS p a.length), (1, vS q b.length), (4, vB false), (5, vI (i : Int)), (14, vB true)] ⟨rfl, rfl, rfl, rfl, rfl, trivial⟩ fun ρ0 => ?_
      have h2' := Int.ofNat_lt.1 h2
      have ⟨b1, o1, k1, x, hpe, hx, hm1, hc1, hb1⟩ := hA.1.atB h2'
      have ⟨b2, o2, k2, y, hqe, hy, hm2, hc2, hb2⟩ := hB.1.atB (j := i) (by omega)
      have hxm := List.mem_of_getElem? hx
      have hym := List.mem_of_getElem? hy
      have hxs : x.l.length ≤ 1048576 := hr x hxm
      refine cx_sound _ _ _ _ _ ?_
      refine ⟨_, op_idx (j := (i : Int)) (n := a.length) (q := ⟨b1, o1, none⟩) rfl (congrArg (fun u => vS u a.length) hpe) rfl rfl rfl (Int.natCast_nonneg _) h2, ?_⟩
      refine ⟨_, op_ldc (i := 0) rfl rfl rfl rfl hm1 hc1 rfl rfl, ?_⟩
      refine ⟨_, op_idx (j := (i : Int)) (n := b.length) (q := ⟨b2, o2, none⟩) rfl (congrArg (fun u => vS u b.length) hqe) rfl rfl rfl (Int.natCast_nonneg _) (h1 ▸ h2), ?_⟩
      refine ⟨_, op_ldc (i := 0) rfl rfl rfl rfl hm2 hc2 rfl rfl, ?_⟩
      refine ⟨_, rfl, (ac_laws_eqIntS x.p y.p x.l y.l st (hA.2 x hxm).ints (hB.2 y hym).ints (by omega)).mono ?_⟩
      rintro _ st ⟨c, rfl, h3, rfl⟩
      rcases c with _|_
      · replace h3 := of_decide_eq_false h3.symm
        refine ⟨_, rfl, ?_⟩
        refine AW.cut lo0 st [(0, vS p a.length), (1, vS q b.length), (4, vB false), (5, vI (i : Int)), (14, vB true), (26, vB true)] ⟨rfl, rfl, rfl, rfl, rfl, rfl, trivial⟩ fun ρ0 => ?_
        refine cx_sound _ _ _ _ _ ?_
        refine ⟨.inl rfl, _, rfl, false, rfl, ⟨fun h => absurd h Bool.false_ne_true, fun h => absurd ?_ h3⟩, rfl⟩
        have h4 : (a.map (·.l))[i]? = some x.l := by rw [List.getElem?_map, hx]; rfl
        rw [h, List.getElem?_map, hy] at h4
        injection h4 with h4
        exact h4.symm
      · replace h3 := of_decide_eq_true h3.symm
        refine ⟨_, rfl, ?_⟩
        refine AW.cut lo0 st [(0, vS p a.length), (1, vS q b.length), (4, vB false), (5, vI (i : Int)), (14, vB true), (26, vB false)] ⟨rfl, rfl, rfl, rfl, rfl, rfl, trivial⟩ fun ρ0 => ?_
        refine cx_sound _ _ _ _ _ ?_
        have e16 : IntKind.wrap .i64 ((i : Int) + 1) = ((i + 1 : Nat) : Int) := (wrap_i64 (by omega) (by omega)).trans (by omega)
        refine ⟨_, rfl, ?_⟩
        refine ⟨i + 1, a.length - (i + 1), by omega, ⟨rfl, rfl, rfl, congrArg (Value.int .i64) e16, trivial⟩, rfl, rfl, h2', fun j u v hj hu hv => ?_, rfl⟩
        rcases Nat.lt_or_ge j i with h | h
        · exact heq j u v h hu hv
        · obtain rfl : j = i := by omega
          rw [hx] at hu; rw [hy] at hv
          injection hu with hu; injection hv with hv
          rw [← hu, ← hv]; exact h3
  · replace h1 : ¬ ((a.length : Int) = (b.length : Int)) := bne_iff_ne.1 h1
    refine AW.cut lo0 st [(0, vS p a.length), (1, vS q b.length), (4, vB false), (10, vB true)] ⟨rfl, rfl, rfl, rfl, trivial⟩ fun ρ0 => ?_
    refine cx_sound _ _ _ _ _ ?_
    exact ⟨.inl rfl, _, rfl, false, rfl, ⟨fun h => absurd h Bool.false_ne_true, fun h => absurd (by have := congrArg List.length h; simp at this; exact congrArg Nat.cast this) h1⟩, rfl⟩
theorem ac_laws_markIntSS (p : Option Addr) (t : List RV) (k : Int) (st : St) (hO : OwnP st (pcT p t)) (hs : szOk t.length) (hr : ∀ r ∈ t, szOk r.l.length) (h0 : 0 ≤ k) (hk : k + (cntT t : Int) ≤ 1125899906842624) : C 53 [vS p t.length, vI k] st (fun v s => v = vI (k + (cntT t : Int)) ∧ OwnP s (pcT p (mkT t k)) ∧ PrL (t.map (·.p)) st s) := by
  have hs : t.length ≤ 1048576 := hs
  refine AC.enterX (i := ⟨[], [], [0, 1, 4, 5, 9]⟩) [] Try.func53 rfl rfl (by kernel_rfl) (by kernel_rfl) Try.ntmps53 (Nat.le_of_ble_eq_true rfl) rfl ?_
  refine cx_sound _ _ _ _ _ ?_
  refine AW.cut lo0 st [(0, vS p t.length), (1, vI k), (4, vI (0)), (5, vI (0))] ⟨rfl, rfl, rfl, rfl, trivial⟩ fun ρ0 => ?_
  refine AW.loop0 (fun i : Nat => [(0, vS p t.length), (1, vI (k + (cntT (t.take i) : Int))), (5, vI (i : Int))]) (fun m (i : Nat) st' => m = t.length - i ∧ i ≤ t.length ∧ OwnP st' (pcT p (mkT (t.take i) k ++ t.drop i)) ∧ PrL (t.map (·.p)) st st') 0 _ ⟨rfl, congrArg (Value.int .i64) (Int.add_zero k).symm, rfl, trivial⟩ rfl ⟨rfl, Nat.zero_le _, hO, PrL.refl _ _⟩ ?_
  rintro m i ρ0 st' ⟨rfl, hi, hO', hP'⟩
  iterate 2 refine ⟨_, rfl, ?_⟩
  rintro (_|_) h1
  · replace h1 : ¬ ((i : Int) < (t.length : Int)) := of_decide_eq_false h1
    refine AW.cut lo0 st' [(0, vS p t.length), (1, vI (k + (cntT (t.take i) : Int))), (5, vI (i : Int)), (9, vB false)] ⟨rfl, rfl, rfl, rfl, trivial⟩ fun ρ0 => ?_
    refine cx_sound _ _ _ _ _ ?_
    refine cx_sound _ _ _ _ _ ?_
    have hil : i = t.length := by omega
    subst hil
    rw [List.take_length, List.drop_length, List.append_nil] at hO'
    exact ⟨.inl rfl, _, rfl, congrArg (Value.int .i64) (by rw [List.take_length]), hO', hP'⟩
  · replace h1 : (i : Int) < (t.length : Int) := of_decide_eq_true h1
    refine AW.cut lo0 st' [(0, vS p t.length), (1, vI (k + (cntT (t.take i) : Int))), (5, vI (i : Int)), (9, vB true)] ⟨rfl, rfl, rfl, rfl, trivial⟩ fun ρ0 => ?_
    have h1' := Int.ofNat_lt.1 h1
    obtain ⟨r, hr1⟩ : ∃ r, t[i]? = some r := ⟨t[i], List.getElem?_eq_getElem h1'⟩
    obtain ⟨d1, d2, d3⟩ := split_at hr1
    have hmem := List.mem_of_getElem? hr1
    have hrs : r.l.length ≤ 1048576 := hr r hmem
    have hl2 : (mkT (t.take i) k).length = i := by rw [mkT_len, List.length_take]; omega
    have hget : (mkT (t.take i) k ++ t.drop i)[i]? = some r := by rw [List.getElem?_append_right (by omega), hl2, Nat.sub_self, d3]; rfl
    have hlt : i < (mkT (t.take i) k ++ t.drop i).length := (List.getElem?_eq_some_iff.1 hget).1
    have ⟨b1, o1, k1, x, hpe, hx, hm1, hc1⟩ := (hO'.outer.rows cRV_len).at hlt
    have hxr : x = r := by rw [hget] at hx; injection hx with hx; exact hx.symm
    have hrow := hO'.row (List.mem_of_getElem? hget)
    have hct := cntT_take hr1
    have hP2 := hO'
    rw [d3, show pcT p (mkT (t.take i) k ++ r :: t.drop (i + 1)) = (pcR 1 cRV p (mkT (t.take i) k ++ r :: t.drop (i + 1)) :: (mkT (t.take i) k).map pcRV) ++ pcRV r :: (t.drop (i + 1)).map pcRV from by simp [pcT]] at hP2
    refine cx_sound _ _ _ _ _ ?_
    refine ⟨_, op_idx (j := (i : Int)) (n := t.length) (q := ⟨b1, o1, none⟩) rfl (congrArg (fun u => vS u t.length) hpe) rfl rfl rfl (Int.natCast_nonneg _) h1, ?_⟩
    refine ⟨_, op_ldc (i := 0) (v := vS r.p r.l.length) rfl rfl rfl rfl hm1 (hxr ▸ hc1) rfl rfl, ?_⟩
    refine ⟨_, rfl, (ac_laws_markIntS r.p r.l _ st' hrow hrs (by omega) (by omega)).mono ?_⟩
    rintro _ s2 ⟨rfl, hO2, hPr⟩
    refine AW.cut lo0 s2 [(0, vS p t.length), (1, vI (k + (cntT (t.take i) : Int) + (r.l.length : Int))), (5, vI (i : Int)), (9, vB true)] ⟨rfl, rfl, rfl, rfl, trivial⟩ fun ρ0 => ?_
    have hN := OwnP.update hP2 hPr (own_pc hO2) rfl
    have e1 : k + (cntT (t.take i) : Int) + (r.l.length : Int) = k + (cntT (t.take (i + 1)) : Int) := by rw [hct.1]; omega
    have hN2 : OwnP s2 (pcT p (mkT (t.take (i + 1)) k ++ t.drop (i + 1))) := by
      have h2 : mkT (t.take (i + 1)) k = mkT (t.take i) k ++ [⟨r.p, mkInts r.l.length (k + (cntT (t.take i) : Int))⟩] := by rw [d2, mkT_app]; rfl
      have h3 : (mkT (t.take i) k ++ r :: t.drop (i + 1)).flatMap cRV = (mkT (t.take (i + 1)) k ++ t.drop (i + 1)).flatMap cRV := by rw [h2]; simp [mkInts_len]
      have h4 : pcT p (mkT (t.take (i + 1)) k ++ t.drop (i + 1)) = (pcR 1 cRV p (mkT (t.take i) k ++ r :: t.drop (i + 1)) :: (mkT (t.take i) k).map pcRV) ++ pcR 1 fI r.p (mkInts r.l.length (k + (cntT (t.take i) : Int))) :: (t.drop (i + 1)).map pcRV := by
        simp only [pcT, pcR, h3]
        rw [h2]
        simp [pcRV]
      rw [h4]
      exact hN
    have e11 : IntKind.wrap .i64 ((i : Int) + 1) = ((i + 1 : Nat) : Int) := (wrap_i64 (by omega) (by omega)).trans (by omega)
    refine ⟨_, rfl, ?_⟩
    exact ⟨i + 1, t.length - (i + 1), by omega, ⟨rfl, congrArg (Value.int .i64) e1, congrArg (Value.int .i64) e11, trivial⟩, rfl, rfl, h1', hN2, hP'.trans (hPr.l (List.mem_map_of_mem hmem))⟩
theorem tnew_len (n : Int) : (tnew n).length ≤ 5 ∧ ∀ l ∈ tnew n, l.length = 5 := by
  unfold tnew
  split
  · refine ⟨by rw [List.length_replicate]; omega, fun l hl => ?_⟩
    rw [(List.mem_replicate.1 hl).2]; rfl
  · exact ⟨by simp, fun l hl => by cases hl⟩
theorem tnew_rows {t : List RV} {n : Int} (h : t.map (·.l) = tnew n) : t.length ≤ 5 ∧ (∀ r ∈ t, r.l.length = 5) ∧ cntT t ≤ 25 := by
  obtain ⟨h1, h2⟩ := tnew_len n
  have h3 : t.length ≤ 5 := by rw [← h, List.length_map] at h1; exact h1
  have h4 : ∀ r ∈ t, r.l.length = 5 := fun r hr => h2 r.l (by rw [← h]; exact List.mem_map_of_mem hr)
  refine ⟨h3, h4, ?_⟩
  have : ∀ t : List RV, (∀ r ∈ t, r.l.length = 5) → cntT t = 5 * t.length := by
    intro t
    induction t with
    | nil => intro _; rfl
    | cons r t ih =>
      intro h
      have h5 := ih fun r hr => h r (List.mem_cons_of_mem _ hr)
      have h6 := h r (List.mem_cons_self ..)
      simp [cntT] at h5 ⊢
      omega
  have := this t h4
  omega
end Go.Proofs.Ytopcpcoklgepnaa.AM
