/- Contracts of copied tables and of marks that are added; its law on the abstract machine. -/
import Derived.Test.YtopakkndacbbpaaF10
namespace Go.Proofs.Ytopakkndacbbpaa.AM
open Go Go.Proofs
set_option linter.unusedVariables false
set_option linter.unusedSimpArgs false
set_option maxRecDepth 100000
set_option maxHeartbeats 4000000
theorem ac_spec_l9Copy (p : Option Addr) (t : List RV) (st : St) (hR : RdT st p t) (hs : szOk t.length) (hr : ∀ r ∈ t, szOk r.l.length) : C 68 [vS p t.length] st (fun v s => ∃ q u, v = vS q t.length ∧ u.map (·.l) = t.map (·.l) ∧ OwnP s (pcT q u) ∧ NewP st.next (pcT q u) ∧ Pres st s) := by
  have hs : t.length ≤ 1048576 := hs
  refine AC.enterX (i := ⟨[], [], [0, 2, 3, 4, 9]⟩) [] Try.func68 rfl rfl (by kernel_rfl) (by kernel_rfl) Try.ntmps68 (Nat.le_of_ble_eq_true rfl) rfl ?_
  refine AW.cut lo0 st [(0, vS p t.length), (2, _)] ⟨rfl, rfl, trivial⟩ fun ρ0 => ?_
  refine op_nilK (z := 1) (f := cRV) rfl rfl rfl rfl Nat.one_pos rfl ?_
  intro q0 s0 hO0 hP0 hN0
  refine cx_sound _ _ _ _ _ ?_
  refine AW.cut lo0 s0 [(0, vS p t.length), (2, _), (3, vS q0 0), (4, vI (0))] ⟨rfl, rfl, rfl, rfl, trivial⟩ fun ρ0 => ?_
  refine AW.loop0 (fun x : List RV × Option Addr => [(0, vS p t.length), (3, vS x.2 x.1.length), (4, vI (x.1.length : Int))]) (fun m (x : List RV × Option Addr) st' => m = t.length - x.1.length ∧ x.1.length ≤ t.length ∧ x.1.map (·.l) = (t.take x.1.length).map (·.l) ∧ OwnP st' (pcT x.2 x.1) ∧ NewP st.next (pcT x.2 x.1) ∧ Pres st st') ([], q0) _ ⟨rfl, rfl, rfl, trivial⟩ rfl ⟨rfl, Nat.zero_le _, rfl, OwnP.one (own_pc hO0), NewP.cons hN0 NewP.nil, hP0⟩ ?_
  rintro m x ρ0 st' ⟨rfl, hi, hl, hO, hN, hP⟩
  iterate 2 refine ⟨_, rfl, ?_⟩
  rintro (_|_) h1
  · replace h1 : ¬ ((x.1.length : Int) < (t.length : Int)) := of_decide_eq_false h1
    refine AW.cut lo0 st' [(0, vS p t.length), (3, vS x.2 x.1.length), (4, vI (x.1.length : Int)), (9, vB false)] ⟨rfl, rfl, rfl, rfl, trivial⟩ fun ρ0 => ?_
    refine cx_sound _ _ _ _ _ ?_
    refine cx_sound _ _ _ _ _ ?_
    have hil : x.1.length = t.length := by omega
    exact ⟨.inl rfl, _, rfl, x.2, x.1, congrArg (vS x.2) hil, by rw [hl, hil, List.take_length], hO, hN, hP⟩
  · replace h1 : (x.1.length : Int) < (t.length : Int) := of_decide_eq_true h1
    refine AW.cut lo0 st' [(0, vS p t.length), (3, vS x.2 x.1.length), (4, vI (x.1.length : Int)), (9, vB true)] ⟨rfl, rfl, rfl, rfl, trivial⟩ fun ρ0 => ?_
    have h1' := Int.ofNat_lt.1 h1
    have hRd := hR.pres hP
    have ⟨b1, o1, k1, r, hpe, hr1, hm1, hc1, hb1⟩ := hRd.1.atB h1'
    have hmem := List.mem_of_getElem? hr1
    have hrs : r.l.length ≤ 1048576 := hr r hmem
    obtain ⟨d1, d2, d3⟩ := split_at hr1
    refine cx_sound _ _ _ _ _ ?_
    refine op_nilK (z := 1) (f := fI) rfl rfl rfl rfl Nat.one_pos rfl ?_
    intro q1 s1 hO1 hP1 hN1
    have hm1' := (hP1.2 b1 hb1).trans hm1
    refine ⟨_, op_idx (j := (x.1.length : Int)) (n := t.length) (q := ⟨b1, o1, none⟩) rfl (congrArg (fun u => vS u t.length) hpe) rfl rfl rfl (Int.natCast_nonneg _) h1, ?_⟩
    refine ⟨_, op_ldc (i := 0) (v := vS r.p r.l.length) rfl rfl rfl rfl hm1' hc1 rfl rfl, ?_⟩
    refine op_app (z := 1) (st := s1) (f := fI) (b := 8) (l := []) (l2 := r.l) rfl rfl rfl rfl rfl rfl rfl Nat.one_pos fI_len rfl rfl rfl rfl (by omega) (by unfold maxLen; omega) hO1 (hP1.rows (hRd.2 r hmem)) ?_
    intro q2 s2 hO2 hPr2 hN2
    refine op_one (z := 1) (a := (⟨q2, r.l⟩ : RV)) (f := cRV) rfl (congrArg (vS q2) (Nat.zero_add _)) rfl rfl rfl Nat.one_pos rfl (Nat.le_of_ble_eq_true rfl) rfl rfl rfl ?_
    have hP2 : Pres st' s2 := hPr2.pres hP1 hN1
    have hN2 : New st'.next q2 := by
      rcases hN2 with ⟨h, _, _⟩ | ⟨_, h⟩
      · rw [h]; exact hN1
      · exact h.le hP1.1
    refine op_add (z := 1) (st := s2) (f := cRV) (b := 24) (l := x.1) rfl rfl rfl rfl rfl rfl rfl Nat.one_pos cRV_len rfl rfl rfl (by omega) (by unfold maxLen; omega) (hP2.ownR hO.outer) ?_
    intro q4 s4 hO4 hP4 hN4
    refine AW.cut lo0 s4 [(0, vS p t.length), (3, vS q4 (x.1.length + 1)), (4, vI (x.1.length : Int)), (9, vB true)] ⟨rfl, rfl, rfl, rfl, trivial⟩ fun ρ0 => ?_
    have hA := OwnP.renew (l := []) (m := x.1.map pcRV ++ [pcRV ⟨q2, r.l⟩]) (c := pcR 1 cRV x.2 x.1) (OwnP.join (l := pcT x.2 x.1) (m := [pcRV ⟨q2, r.l⟩]) hO hP2 (OwnP.one (own_pc hO2)) (NewP.cons hN2 NewP.nil)) hP4 (own_pc hO4) hN4
    have hA : OwnP s4 (pcT q4 (x.1 ++ [⟨q2, r.l⟩])) := by simpa [pcT] using hA
    have e11 : IntKind.wrap .i64 ((x.1.length : Int) + 1) = ((x.1.length + 1 : Nat) : Int) := (wrap_i64 (by omega) (by omega)).trans (by omega)
    refine ⟨_, rfl, ?_⟩
    refine ⟨(x.1 ++ [⟨q2, r.l⟩], q4), t.length - (x.1.length + 1), by omega, ⟨rfl, ?_, ?_, trivial⟩, rfl, ?_, ?_, ?_, hA, ?_, ?_⟩
    · rw [List.length_append]; rfl
    · rw [List.length_append]; exact congrArg (Value.int .i64) e11
    · rw [List.length_append]; rfl
    · rw [List.length_append]; exact h1'
    · rw [List.map_append, hl, List.length_append, List.length_singleton, d2, List.map_append]; rfl
    · refine NewP.cons (hN4.le (Nat.le_trans hP.1 hP2.1)) ?_
      rw [List.map_append]
      exact NewP.app (fun c hc => hN c (List.mem_cons_of_mem _ hc)) (NewP.cons (hN2.le hP.1) NewP.nil)
    · exact hP4.pres (hP.trans hP2) (hN _ (List.mem_cons_self ..))
theorem ac_impl_copyTable (p : Option Addr) (t : List RV) (st : St) (hR : RdT st p t) (hs : szOk t.length) (hr : ∀ r ∈ t, szOk r.l.length) : C 69 [vS p t.length] st (fun v s => ∃ q u, v = vS q t.length ∧ u.map (·.l) = t.map (·.l) ∧ OwnP s (pcT q u) ∧ NewP st.next (pcT q u) ∧ Pres st s) := by
  have hs : t.length ≤ 1048576 := hs
  refine AC.enterX (i := ⟨[], [], [0, 2, 3, 5, 7, 8, 9, 10]⟩) [] Try.func69 rfl rfl (by kernel_rfl) (by kernel_rfl) Try.ntmps69 (Nat.le_of_ble_eq_true rfl) rfl ?_
  refine AW.cut lo0 st [(0, vS p t.length), (2, _)] ⟨rfl, rfl, trivial⟩ fun ρ0 => ?_
  refine op_nilK (z := 1) (f := cRV) rfl rfl rfl rfl Nat.one_pos rfl ?_
  intro q0 s0 hO0 hP0 hN0
  refine AW.cut lo0 s0 [(0, vS p t.length), (2, _), (3, vS q0 0)] ⟨rfl, rfl, rfl, trivial⟩ fun ρ0 => ?_
  refine ⟨_, rfl, ?_⟩
  refine AW.cut lo0 s0 [(0, vS p t.length), (2, _), (3, vS q0 0), (7, vS p t.length), (8, vI (t.length)), (9, vI (0))] ⟨rfl, rfl, rfl, rfl, rfl, rfl, trivial⟩ fun ρ0 => ?_
  refine AW.loop0 (fun x : List RV × Option Addr => [(0, vS p t.length), (3, vS x.2 x.1.length), (7, vS p t.length), (8, vI (t.length : Int)), (9, vI (x.1.length : Int))]) (fun m (x : List RV × Option Addr) st' => m = t.length - x.1.length ∧ x.1.length ≤ t.length ∧ x.1.map (·.l) = (t.take x.1.length).map (·.l) ∧ OwnP st' (pcT x.2 x.1) ∧ NewP st.next (pcT x.2 x.1) ∧ Pres st st') ([], q0) _ ⟨rfl, rfl, rfl, rfl, rfl, trivial⟩ rfl ⟨rfl, Nat.zero_le _, rfl, OwnP.one (own_pc hO0), NewP.cons hN0 NewP.nil, hP0⟩ ?_
  rintro m x ρ0 st' ⟨rfl, hi, hl, hO, hN, hP⟩
  refine ⟨_, rfl, ?_⟩
  rintro (_|_) h1
  · replace h1 : ¬ ((x.1.length : Int) < (t.length : Int)) := of_decide_eq_false h1
    refine AW.cut lo0 st' [(0, vS p t.length), (3, vS x.2 x.1.length), (7, vS p t.length), (8, vI (t.length : Int)), (9, vI (x.1.length : Int)), (10, vB false)] ⟨rfl, rfl, rfl, rfl, rfl, rfl, trivial⟩ fun ρ0 => ?_
    refine cx_sound _ _ _ _ _ ?_
    refine cx_sound _ _ _ _ _ ?_
    have hil : x.1.length = t.length := by omega
    exact ⟨.inl rfl, _, rfl, x.2, x.1, congrArg (vS x.2) hil, by rw [hl, hil, List.take_length], hO, hN, hP⟩
  · replace h1 : (x.1.length : Int) < (t.length : Int) := of_decide_eq_true h1
    refine AW.cut lo0 st' [(0, vS p t.length), (3, vS x.2 x.1.length), (7, vS p t.length), (8, vI (t.length : Int)), (9, vI (x.1.length : Int)), (10, vB true)] ⟨rfl, rfl, rfl, rfl, rfl, rfl, trivial⟩ fun ρ0 => ?_
    have h1' := Int.ofNat_lt.1 h1
    have hRd := hR.pres hP
    have ⟨b1, o1, k1, r, hpe, hr1, hm1, hc1, hb1⟩ := hRd.1.atB h1'
    have hmem := List.mem_of_getElem? hr1
    have hrs : r.l.length ≤ 1048576 := hr r hmem
    obtain ⟨d1, d2, d3⟩ := split_at hr1
    refine cx_sound _ _ _ _ _ ?_
    refine ⟨_, op_idx (j := (x.1.length : Int)) (n := t.length) (q := ⟨b1, o1, none⟩) rfl (congrArg (fun u => vS u t.length) hpe) rfl rfl rfl (Int.natCast_nonneg _) h1, ?_⟩
    refine ⟨_, op_ldc (i := 0) (v := vS r.p r.l.length) rfl rfl rfl rfl hm1 hc1 rfl rfl, ?_⟩
    refine AW.cut lo0 st' [(0, vS p t.length), (3, vS x.2 x.1.length), (5, vS r.p r.l.length), (7, vS p t.length), (8, vI (t.length : Int)), (9, vI (x.1.length : Int)), (10, vB true)] ⟨rfl, rfl, rfl, rfl, rfl, rfl, rfl, trivial⟩ fun ρ0 => ?_
    refine ⟨_, rfl, (ac_impl_copyInts r.p r.l st' (hRd.2 r hmem).ints (by omega)).mono ?_⟩
    rintro _ s2 ⟨q2, rfl, hO2, hP2, hN2⟩
    have hO2 : OwnR s2 1 fI q2 r.l := Own.r.1 hO2
    refine op_one (z := 1) (a := (⟨q2, r.l⟩ : RV)) (f := cRV) rfl rfl rfl rfl rfl Nat.one_pos rfl (Nat.le_of_ble_eq_true rfl) rfl rfl rfl ?_
    refine op_add (z := 1) (st := s2) (f := cRV) (b := 24) (l := x.1) rfl rfl rfl rfl rfl rfl rfl Nat.one_pos cRV_len rfl rfl rfl (by omega) (by unfold maxLen; omega) (hP2.ownR hO.outer) ?_
    intro q4 s4 hO4 hP4 hN4
    refine AW.cut lo0 s4 [(0, vS p t.length), (3, vS q4 (x.1.length + 1)), (5, vS r.p r.l.length), (7, vS p t.length), (8, vI (t.length : Int)), (9, vI (x.1.length : Int)), (10, vB true)] ⟨rfl, rfl, rfl, rfl, rfl, rfl, rfl, trivial⟩ fun ρ0 => ?_
    have hA := OwnP.renew (l := []) (m := x.1.map pcRV ++ [pcRV ⟨q2, r.l⟩]) (c := pcR 1 cRV x.2 x.1) (OwnP.join (l := pcT x.2 x.1) (m := [pcRV ⟨q2, r.l⟩]) hO hP2 (OwnP.one (own_pc hO2)) (NewP.cons hN2 NewP.nil)) hP4 (own_pc hO4) hN4
    have hA : OwnP s4 (pcT q4 (x.1 ++ [⟨q2, r.l⟩])) := by simpa [pcT] using hA
    have e18 : IntKind.wrap .i64 ((x.1.length : Int) + 1) = ((x.1.length + 1 : Nat) : Int) := (wrap_i64 (by omega) (by omega)).trans (by omega)
    refine ⟨_, rfl, ?_⟩
    refine ⟨(x.1 ++ [⟨q2, r.l⟩], q4), t.length - (x.1.length + 1), by omega, ⟨rfl, ?_, rfl, rfl, ?_, trivial⟩, rfl, ?_, ?_, ?_, hA, ?_, ?_⟩
    · rw [List.length_append]; rfl
    · rw [List.length_append]; exact congrArg (Value.int .i64) e18
    · rw [List.length_append]; rfl
    · rw [List.length_append]; exact h1'
    · rw [List.map_append, hl, List.length_append, List.length_singleton, d2, List.map_append]; rfl
    · refine NewP.cons (hN4.le (Nat.le_trans hP.1 hP2.1)) ?_
      rw [List.map_append]
      exact NewP.app (fun c hc => hN c (List.mem_cons_of_mem _ hc)) (NewP.cons (hN2.le hP.1) NewP.nil)
    · exact hP4.pres (hP.trans hP2) (hN _ (List.mem_cons_self ..))
/-- Marks, added to a row. -/
def addMarks (l : List Int) (ms : List Flr) : List Int := ms.foldl (fun r m => r.set m.id.toNat (max (r.getD m.id.toNat 0) m.inc)) l
theorem addMarks_len : ∀ (ms : List Flr) (l : List Int), (addMarks l ms).length = l.length
  | [], l => rfl
  | m :: ms, l => by
    have := addMarks_len ms (l.set m.id.toNat (max (l.getD m.id.toNat 0) m.inc))
    rw [List.length_set] at this
    exact this
theorem addMarks_snoc (l : List Int) (ms : List Flr) (m : Flr) : addMarks l (ms ++ [m]) = (addMarks l ms).set m.id.toNat (max ((addMarks l ms).getD m.id.toNat 0) m.inc) := by simp [addMarks]
/-- A table's row K is this one. -/
def putT {α : Type} (t : List α) (K : Nat) (x : α) : List α := t.take K ++ x :: t.drop (K + 1)
open Classical in
noncomputable def tableAdd (t : List (List Int)) (k : Int) (ms : List Flr) : List (List Int) :=
  if (0 ≤ k ∧ k ≤ (t.length : Int) - 1) ∧ marksOk ms ∧ 5 ≤ (t.getD k.toNat []).length then putT t k.toNat (addMarks (t.getD k.toNat []) ms) else t
theorem putT_map {u : List RV} {K : Nat} {x : RV} : (putT u K x).map (·.l) = putT (u.map (·.l)) K x.l := by simp [putT, List.map_take, List.map_drop]
theorem putT_self {α : Type} {u : List α} {K : Nat} {x : α} (h : u[K]? = some x) : putT u K x = u := (split_at h).1.symm
theorem putT_get {α : Type} {u : List α} {K : Nat} {x : α} (h : K < u.length) : (putT u K x)[K]? = some x := by
  unfold putT
  rw [List.getElem?_append_right (by rw [List.length_take]; omega), List.length_take, show K - min K u.length = 0 by omega]
  rfl
theorem putT_len {α : Type} {u : List α} {K : Nat} {x : α} (h : K < u.length) : (putT u K x).length = u.length := by
  unfold putT
  rw [List.length_append, List.length_take, List.length_cons, List.length_drop]; omega
/-- One row of a table of one's own is changed in place. -/
theorem OwnP.put {st st' : St} {q : Option Addr} {u : List RV} {K : Nat} {a : Option Addr} {l l' : List Int} (h : OwnP st (pcT q (putT u K ⟨a, l⟩))) (hp : Pr a st st') (ho : OwnR st' 1 fI a l') (hl : l'.length = l.length) : OwnP st' (pcT q (putT u K ⟨a, l'⟩)) := by
  have h1 : pcT q (putT u K ⟨a, l⟩) = (pcR 1 cRV q (putT u K ⟨a, l⟩) :: (u.take K).map pcRV) ++ pcRV ⟨a, l⟩ :: (u.drop (K + 1)).map pcRV := by simp [pcT, putT]
  have h2 : pcT q (putT u K ⟨a, l'⟩) = (pcR 1 cRV q (putT u K ⟨a, l⟩) :: (u.take K).map pcRV) ++ pcRV ⟨a, l'⟩ :: (u.drop (K + 1)).map pcRV := by simp [pcT, putT, pcR, hl]
  rw [h1] at h
  rw [h2]
  exact OwnP.update h hp (own_pc ho) rfl
end Go.Proofs.Ytopakkndacbbpaa.AM
