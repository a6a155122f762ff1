/- Contracts of marks that are added to a table; its law on the abstract machine. -/
import Derived.Test.YtopakkndacbbpaaF11
namespace Go.Proofs.Ytopakkndacbbpaa.AM
open Go Go.Proofs
set_option linter.unusedVariables false
set_option linter.unusedSimpArgs false
set_option maxRecDepth 100000
set_option maxHeartbeats 4000000
theorem tableAdd_pos {t : List RV} {k : Int} {ms : List Flr} {r : RV} (h : t[k.toNat]? = some r) (hk : 0 ≤ k ∧ k ≤ (t.length : Int) - 1) (hm : marksOk ms) (h5 : 5 ≤ r.l.length) : tableAdd (t.map (·.l)) k ms = putT (t.map (·.l)) k.toNat (addMarks r.l ms) := by
  have hg : (t.map (·.l)).getD k.toNat [] = r.l := by rw [List.getD_eq_getElem?_getD, List.getElem?_map, h]; rfl
  rw [tableAdd, hg, if_pos ⟨by rw [List.length_map]; exact hk, hm, h5⟩]
theorem tableAdd_neg {t : List RV} {k : Int} {ms : List Flr} (h : ¬ (0 ≤ k ∧ k ≤ (t.length : Int) - 1) ∨ ¬ marksOk ms ∨ ∃ r, t[k.toNat]? = some r ∧ r.l.length < 5) : tableAdd (t.map (·.l)) k ms = t.map (·.l) := by
  rw [tableAdd, if_neg]
  rintro ⟨h1, h2, h3⟩
  rw [List.length_map] at h1
  rcases h with h | h | ⟨r, hr, h⟩
  · exact h h1
  · exact h h2
  · rw [List.getD_eq_getElem?_getD, List.getElem?_map, hr] at h3
    exact absurd h3 (Nat.not_le.2 h)
theorem row_l {t u : List RV} {i : Nat} {r : RV} (h : u.map (·.l) = t.map (·.l)) (hr : t[i]? = some r) : ∃ a, u[i]? = some ⟨a, r.l⟩ := by
  have h1 : (u.map (·.l))[i]? = some r.l := by rw [h, List.getElem?_map, hr]; rfl
  rw [List.getElem?_map] at h1
  obtain ⟨y, hy, he⟩ := Option.map_eq_some_iff.1 h1
  exact ⟨y.p, by rw [hy, ← he]⟩
theorem ac_spec_TableAdd (p pm : Option Addr) (t : List RV) (k : Int) (ms : List Flr) (st : St) (hR : RdT st p t) (hM : Rows st 2 cFlr pm ms) (hs : szOk t.length) (hr : ∀ r ∈ t, szOk r.l.length) (hms : szOk ms.length) : C 45 [vS p t.length, vI k, vS pm ms.length] st (fun v s => ∃ q u, v = vS q t.length ∧ u.length = t.length ∧ u.map (·.l) = tableAdd (t.map (·.l)) k ms ∧ OwnP s (pcT q u) ∧ NewP st.next (pcT q u) ∧ Pres st s) := by
  have hs : t.length ≤ 1048576 := hs
  have hms' : ms.length ≤ 1048576 := hms
  refine AC.enterX (i := ⟨[], [], [0, 1, 2, 6, 7, 8, 29, 34]⟩) [(7, [25], [3, 8])] Try.func45 rfl rfl (by kernel_rfl) (by kernel_rfl) Try.ntmps45 (Nat.le_of_ble_eq_true rfl) rfl ?_
  refine AW.cut lo0 st [(0, vS p t.length), (1, vI k), (2, vS pm ms.length), (6, _)] ⟨rfl, rfl, rfl, rfl, trivial⟩ fun ρ0 => ?_
  refine ⟨_, rfl, (ac_spec_l9Copy p t st hR hs hr).mono ?_⟩
  rintro _ s1 ⟨q, u0, rfl, hu, hO, hN, hP⟩
  refine AW.cut lo0 s1 [(0, vS p t.length), (1, vI k), (2, vS pm ms.length), (6, _), (7, vS q t.length)] ⟨rfl, rfl, rfl, rfl, rfl, trivial⟩ fun ρ0 => ?_
  have e14 : IntKind.wrap .i64 ((t.length : Int) - 1) = (t.length : Int) - 1 := wrap_i64 (by omega) (by omega)
  have hul : u0.length = t.length := (map_len hu hr).1
  iterate 2 refine ⟨_, rfl, ?_⟩
  refine ⟨_, rfl, (ac_spec_l1In k 0 _ s1).mono ?_⟩
  rintro _ s1 ⟨y, rfl, hk, rfl⟩
  rcases y with _|_
  · replace hk := of_decide_eq_false hk.symm
    iterate 3 refine ⟨_, rfl, ?_⟩
    refine AW.cut lo0 s1 [(0, vS p t.length), (1, vI k), (2, vS pm ms.length), (6, _), (7, vS q t.length), (29, vB true)] ⟨rfl, rfl, rfl, rfl, rfl, rfl, trivial⟩ fun ρ0 => ?_
    refine cx_sound _ _ _ _ _ ?_
    exact ⟨.inl rfl, _, rfl, q, u0, rfl, hul, by rw [tableAdd_neg (.inl fun h => hk (by rw [e14]; exact h))]; exact hu, hO, hN, hP⟩
  · replace hk := of_decide_eq_true hk.symm
    refine ⟨_, rfl, ?_⟩
    replace hk : 0 ≤ k ∧ k ≤ IntKind.wrap .i64 ((t.length : Int) - 1) := hk
    rw [e14] at hk
    refine ⟨_, rfl, (ac_spec_MarksOk pm ms s1 (hP.rows hM) hms).mono ?_⟩
    rintro _ s1 ⟨y2, rfl, hmk, rfl⟩
    rcases y2 with _|_
    · replace hmk := fun k => Bool.false_ne_true (hmk.2 k)
      iterate 3 refine ⟨_, rfl, ?_⟩
      refine AW.cut lo0 s1 [(0, vS p t.length), (1, vI k), (2, vS pm ms.length), (6, _), (7, vS q t.length), (29, vB true)] ⟨rfl, rfl, rfl, rfl, rfl, rfl, trivial⟩ fun ρ0 => ?_
      refine cx_sound _ _ _ _ _ ?_
      exact ⟨.inl rfl, _, rfl, q, u0, rfl, hul, by rw [tableAdd_neg (.inr (.inl hmk))]; exact hu, hO, hN, hP⟩
    · replace hmk := hmk.1 rfl
      iterate 2 refine ⟨_, rfl, ?_⟩
      have ⟨b1, o1, k1, r, hpe, hr1, hm1, hc1, hb1⟩ := (hR.pres hP).1.atB (j := k.toNat) (by omega)
      refine ⟨_, op_idx (j := k) (n := t.length) (q := ⟨b1, o1, none⟩) rfl (congrArg (fun u => vS u t.length) hpe) rfl rfl rfl hk.1 (by omega), ?_⟩
      refine ⟨_, op_ldc (i := 0) (v := vS r.p r.l.length) rfl rfl rfl rfl hm1 hc1 rfl rfl, ?_⟩
      iterate 2 refine ⟨_, rfl, ?_⟩
      rintro (_|_) h5
      · replace h5 : ¬ ((r.l.length : Int) < 5) := of_decide_eq_false h5
        refine ⟨_, rfl, ?_⟩
        refine AW.cut lo0 s1 [(0, vS p t.length), (1, vI k), (2, vS pm ms.length), (6, _), (7, vS q t.length), (29, vB false)] ⟨rfl, rfl, rfl, rfl, rfl, rfl, trivial⟩ fun ρ0 => ?_
        have ⟨qK, hqK⟩ := row_l hu hr1
        have hKu : k.toNat < u0.length := (List.getElem?_eq_some_iff.1 hqK).1
        have hself := putT_self hqK
        have hrs : r.l.length ≤ 1048576 := hr r (List.mem_of_getElem? hr1)
        refine cx_sound _ _ _ _ _ ?_
        refine AW.cut lo0 s1 [(0, vS p t.length), (1, vI k), (2, vS pm ms.length), (6, _), (7, vS q t.length), (8, vI (0)), (29, vB false)] ⟨rfl, rfl, rfl, rfl, rfl, rfl, rfl, trivial⟩ fun ρ0 => ?_
        refine AW.loop0 (fun i : Nat => [(1, vI k), (2, vS pm ms.length), (7, vS q t.length), (8, vI (i : Int))]) (fun m (i : Nat) st' => m = ms.length - i ∧ i ≤ ms.length ∧ OwnP st' (pcT q (putT u0 k.toNat ⟨qK, addMarks r.l (ms.take i)⟩)) ∧ NewP st.next (pcT q (putT u0 k.toNat ⟨qK, addMarks r.l (ms.take i)⟩)) ∧ Pres st st') 0 _ ⟨rfl, rfl, rfl, rfl, trivial⟩ rfl ⟨rfl, Nat.zero_le _, (show OwnP s1 (pcT q (putT u0 k.toNat ⟨qK, r.l⟩)) by rw [hself]; exact hO), (show NewP st.next (pcT q (putT u0 k.toNat ⟨qK, r.l⟩)) by rw [hself]; exact hN), hP⟩ ?_
        rintro m i ρ0 st' ⟨rfl, hi, hO', hN', hP'⟩
        iterate 2 refine ⟨_, rfl, ?_⟩
        rintro (_|_) h6
        · replace h6 : ¬ ((i : Int) < (ms.length : Int)) := of_decide_eq_false h6
          refine AW.cut lo0 st' [(1, vI k), (2, vS pm ms.length), (7, vS q t.length), (8, vI (i : Int)), (34, vB false)] ⟨rfl, rfl, rfl, rfl, rfl, trivial⟩ fun ρ0 => ?_
          refine cx_sound _ _ _ _ _ ?_
          refine cx_sound _ _ _ _ _ ?_
          have hil : i = ms.length := by omega
          rw [hil, List.take_length] at hO' hN'
          exact ⟨.inl rfl, _, rfl, q, _, rfl, by rw [putT_len hKu]; exact hul, by rw [putT_map, hu, tableAdd_pos hr1 hk hmk (by omega)], hO', hN', hP'⟩
        · replace h6 : (i : Int) < (ms.length : Int) := of_decide_eq_true h6
          refine AW.cut lo0 st' [(1, vI k), (2, vS pm ms.length), (7, vS q t.length), (8, vI (i : Int)), (34, vB true)] ⟨rfl, rfl, rfl, rfl, rfl, trivial⟩ fun ρ0 => ?_
          have h6' := Int.ofNat_lt.1 h6
          have hcl := addMarks_len (ms.take i) r.l
          have hKt : k.toNat < (putT u0 k.toNat (⟨qK, addMarks r.l (ms.take i)⟩ : RV)).length := by rw [putT_len hKu]; exact hKu
          have hgt := putT_get (x := (⟨qK, addMarks r.l (ms.take i)⟩ : RV)) hKu
          have ⟨b2, o2, k2, x, hpe2, hx, hm2, hc2, hb2⟩ := (hO'.outer.rows cRV_len).atB hKt
          have hxe : x = ⟨qK, addMarks r.l (ms.take i)⟩ := by rw [hgt] at hx; injection hx with hx; exact hx.symm
          have hc2 : (k2.cells.drop (o2 + k.toNat * 1)).take 1 = cRV ⟨qK, addMarks r.l (ms.take i)⟩ := by rw [hc2, hxe]
          have hrow := hO'.row (List.mem_of_getElem? hgt)
          have ⟨b3, o3, k3, mk, hpe3, hmk3, hm3, hc3, hb3⟩ := (hP'.rows hM).atB h6'
          have hid := (hmk i mk hmk3).1
          have ⟨b4, o4, k4, z, hpe4, hz, hm4, hc4, hb4⟩ := (hrow.rows fI_len).atB (j := mk.id.toNat) (by simp only; omega)
          have ⟨a, ha⟩ := hrow.some (by simp only; omega)
          simp only at hpe4 ha
          refine cx_sound _ _ _ _ _ ?_
          refine ⟨_, op_idx (j := k) (n := t.length) (q := ⟨b2, o2, none⟩) rfl (congrArg (fun u => vS u t.length) hpe2) rfl rfl rfl hk.1 (by omega), ?_⟩
          refine ⟨_, op_ldc (i := 0) rfl rfl rfl rfl hm2 hc2 rfl rfl, ?_⟩
          refine ⟨ld_lt rfl rfl hb2, ?_⟩
          refine ⟨_, op_idx (j := (i : Int)) (n := ms.length) (q := ⟨b3, o3, none⟩) rfl (congrArg (fun u => vS u ms.length) hpe3) rfl rfl rfl (Int.natCast_nonneg _) h6, ?_⟩
          refine ⟨_, rfl, ?_⟩
          refine ⟨_, op_ldc (i := 0) rfl rfl rfl rfl hm3 hc3 rfl rfl, ?_⟩
          refine ⟨ld_lt rfl rfl hb3, ?_⟩
          refine ⟨_, op_idx (j := k) (n := t.length) (q := ⟨b2, o2, none⟩) rfl (congrArg (fun u => vS u t.length) hpe2) rfl rfl rfl hk.1 (by omega), ?_⟩
          refine ⟨_, op_ldc (i := 0) rfl rfl rfl rfl hm2 hc2 rfl rfl, ?_⟩
          refine ⟨_, op_idx (j := (i : Int)) (n := ms.length) (q := ⟨b3, o3, none⟩) rfl (congrArg (fun u => vS u ms.length) hpe3) rfl rfl rfl (Int.natCast_nonneg _) h6, ?_⟩
          refine ⟨_, rfl, ?_⟩
          refine ⟨_, op_ldc (i := 0) rfl rfl rfl rfl hm3 hc3 rfl rfl, ?_⟩
          refine ⟨_, op_idx (j := mk.id) (n := (addMarks r.l (ms.take i)).length) (q := ⟨b4, o4, none⟩) rfl (congrArg (fun u => vS u (addMarks r.l (ms.take i)).length) hpe4) rfl rfl rfl hid.1 (by omega), ?_⟩
          refine ⟨_, op_ldc (i := 0) rfl rfl rfl rfl hm4 hc4 rfl rfl, ?_⟩
          refine ⟨_, op_idx (j := (i : Int)) (n := ms.length) (q := ⟨b3, o3, none⟩) rfl (congrArg (fun u => vS u ms.length) hpe3) rfl rfl rfl (Int.natCast_nonneg _) h6, ?_⟩
          refine ⟨_, rfl, ?_⟩
          refine ⟨_, op_ldc (i := 1) rfl rfl rfl rfl hm3 hc3 rfl rfl, ?_⟩
          refine ⟨_, rfl, (ac_spec_l1Max z mk.inc st').mono ?_⟩
          rintro _ st' ⟨rfl, rfl⟩
          refine ⟨fun _ _ => rfl, ?_⟩
          refine ⟨_, op_idx (j := mk.id) (n := (addMarks r.l (ms.take i)).length) (q := ⟨a, 0, none⟩) rfl (congrArg (fun u => vS u (addMarks r.l (ms.take i)).length) ha) rfl rfl rfl hid.1 (by omega), ?_⟩
          refine op_put (z := 1) (st := st') (f := fI) (j := mk.id.toNat) (l := addMarks r.l (ms.take i)) (y := max z mk.inc) (p := qK) (d := 0 + mk.id.toNat * 1) rfl rfl (Nat.zero_add _) rfl rfl fI_len rfl rfl (by omega) hrow ha ?_
          intro s5 hO5 hP5 hn5
          refine AW.cut lo0 s5 [(1, vI k), (2, vS pm ms.length), (7, vS q t.length), (8, vI (i : Int)), (34, vB true)] ⟨rfl, rfl, rfl, rfl, rfl, trivial⟩ fun ρ0 => ?_
          have hstep : (addMarks r.l (ms.take i)).set mk.id.toNat (max z mk.inc) = addMarks r.l (ms.take (i + 1)) := by rw [(split_at hmk3).2.1, addMarks_snoc, getD_of hz]
          rw [hstep] at hO5
          have hN5 : New st.next qK := hN' (pcRV ⟨qK, addMarks r.l (ms.take i)⟩) (List.mem_cons_of_mem _ (List.mem_map_of_mem (List.mem_of_getElem? hgt)))
          have hOP := hO'.put hP5 hO5 (by rw [addMarks_len, addMarks_len])
          have e36 : IntKind.wrap .i64 ((i : Int) + 1) = ((i + 1 : Nat) : Int) := (wrap_i64 (by omega) (by omega)).trans (by omega)
          refine ⟨_, rfl, ?_⟩
          refine ⟨i + 1, ms.length - (i + 1), by omega, ⟨rfl, rfl, rfl, congrArg (Value.int .i64) e36, trivial⟩, rfl, rfl, h6', hOP, fun c hc => ?_, hP5.pres hP' hN5⟩
          rcases List.mem_cons.1 hc with rfl | hc
          · exact (hN' (pcR 1 cRV q (putT u0 k.toNat ⟨qK, addMarks r.l (ms.take i)⟩)) (List.mem_cons_self ..) : New st.next q)
          · obtain ⟨y, hy, rfl⟩ := List.mem_map.1 hc
            rcases List.mem_append.1 hy with hy | hy
            · exact hN' (pcRV y) (List.mem_cons_of_mem _ (List.mem_map_of_mem (List.mem_append_left _ hy)))
            · rcases List.mem_cons.1 hy with rfl | hy
              · exact hN5
              · exact hN' (pcRV y) (List.mem_cons_of_mem _ (List.mem_map_of_mem (List.mem_append_right _ (List.mem_cons_of_mem _ hy))))
      · replace h5 : (r.l.length : Int) < 5 := of_decide_eq_true h5
        refine ⟨_, rfl, ?_⟩
        refine AW.cut lo0 s1 [(0, vS p t.length), (1, vI k), (2, vS pm ms.length), (6, _), (7, vS q t.length), (29, vB true)] ⟨rfl, rfl, rfl, rfl, rfl, rfl, trivial⟩ fun ρ0 => ?_
        refine cx_sound _ _ _ _ _ ?_
        exact ⟨.inl rfl, _, rfl, q, u0, rfl, hul, by rw [tableAdd_neg (.inr (.inr ⟨r, hr1, by omega⟩))]; exact hu, hO, hN, hP⟩
theorem ac_impl_TableAdd (p pm : Option Addr) (t : List RV) (k : Int) (ms : List Flr) (st : St) (hR : RdT st p t) (hM : Rows st 2 cFlr pm ms) (hs : szOk t.length) (hr : ∀ r ∈ t, szOk r.l.length) (hms : szOk ms.length) : C 46 [vS p t.length, vI k, vS pm ms.length] st (fun v s => ∃ q u, v = vS q t.length ∧ u.length = t.length ∧ u.map (·.l) = tableAdd (t.map (·.l)) k ms ∧ OwnP s (pcT q u) ∧ NewP st.next (pcT q u) ∧ Pres st s) := by
  have hs : t.length ≤ 1048576 := hs
  have hms' : ms.length ≤ 1048576 := hms
  refine AC.enterX (i := ⟨[9], [9, 42, 48, 52], [0, 1, 2, 6, 7, 9, 30, 32, 33, 34, 35]⟩) [(7, [], [])] Try.func46 rfl rfl (by kernel_rfl) (by kernel_rfl) Try.ntmps46 (Nat.le_of_ble_eq_true rfl) rfl ?_
  refine AW.cutM (0) st [(0, vS p t.length), (1, vI k), (2, vS pm ms.length), (6, _)] [] ⟨rfl, rfl, rfl, rfl, trivial⟩ trivial rfl fun ρ0 f => ?_
  refine ⟨_, rfl, (ac_impl_copyTable p t st hR hs hr).mono ?_⟩
  rintro _ s1 ⟨q, u0, rfl, hu, hO, hN, hP⟩
  refine AW.cutM (0) s1 [(0, vS p t.length), (1, vI k), (2, vS pm ms.length), (6, _), (7, vS q t.length)] [] ⟨rfl, rfl, rfl, rfl, rfl, trivial⟩ trivial rfl fun ρ0 f => ?_
  have e15 : IntKind.wrap .i64 ((t.length : Int) - 1) = (t.length : Int) - 1 := wrap_i64 (by omega) (by omega)
  have hul : u0.length = t.length := (map_len hu hr).1
  iterate 2 refine ⟨_, rfl, ?_⟩
  refine ⟨_, rfl, (ac_impl_within k 0 _ s1).mono ?_⟩
  rintro _ s1 ⟨y, rfl, hk, rfl⟩
  rcases y with _|_
  · replace hk := of_decide_eq_false hk.symm
    iterate 3 refine ⟨_, rfl, ?_⟩
    refine AW.cutM (0) s1 [(0, vS p t.length), (1, vI k), (2, vS pm ms.length), (6, _), (7, vS q t.length), (30, vB true)] [] ⟨rfl, rfl, rfl, rfl, rfl, rfl, trivial⟩ trivial rfl fun ρ0 f => ?_
    refine cx_sound _ _ _ _ _ ?_
    exact ⟨.inl rfl, _, rfl, q, u0, rfl, hul, by rw [tableAdd_neg (.inl fun h => hk (by rw [e15]; exact h))]; exact hu, hO, hN, hP⟩
  · replace hk := of_decide_eq_true hk.symm
    refine ⟨_, rfl, ?_⟩
    replace hk : 0 ≤ k ∧ k ≤ IntKind.wrap .i64 ((t.length : Int) - 1) := hk
    rw [e15] at hk
    refine ⟨_, rfl, (ac_impl_MarksOk pm ms s1 (hP.rows hM) hms).mono ?_⟩
    rintro _ s1 ⟨y2, rfl, hmk, rfl⟩
    rcases y2 with _|_
    · replace hmk := fun k => Bool.false_ne_true (hmk.2 k)
      iterate 3 refine ⟨_, rfl, ?_⟩
      refine AW.cutM (0) s1 [(0, vS p t.length), (1, vI k), (2, vS pm ms.length), (6, _), (7, vS q t.length), (30, vB true)] [] ⟨rfl, rfl, rfl, rfl, rfl, rfl, trivial⟩ trivial rfl fun ρ0 f => ?_
      refine cx_sound _ _ _ _ _ ?_
      exact ⟨.inl rfl, _, rfl, q, u0, rfl, hul, by rw [tableAdd_neg (.inr (.inl hmk))]; exact hu, hO, hN, hP⟩
    · replace hmk := hmk.1 rfl
      iterate 2 refine ⟨_, rfl, ?_⟩
      have ⟨b1, o1, k1, r, hpe, hr1, hm1, hc1, hb1⟩ := (hR.pres hP).1.atB (j := k.toNat) (by omega)
      refine ⟨_, op_idx (j := k) (n := t.length) (q := ⟨b1, o1, none⟩) rfl (congrArg (fun u => vS u t.length) hpe) rfl rfl rfl hk.1 (by omega), ?_⟩
      refine ⟨_, op_ldc (i := 0) (v := vS r.p r.l.length) rfl rfl rfl rfl hm1 hc1 rfl rfl, ?_⟩
      iterate 2 refine ⟨_, rfl, ?_⟩
      rintro (_|_) h5
      · replace h5 : ¬ ((r.l.length : Int) < 5) := of_decide_eq_false h5
        refine ⟨_, rfl, ?_⟩
        refine AW.cutM (0) s1 [(0, vS p t.length), (1, vI k), (2, vS pm ms.length), (6, _), (7, vS q t.length), (30, vB false)] [] ⟨rfl, rfl, rfl, rfl, rfl, rfl, trivial⟩ trivial rfl fun ρ0 f => ?_
        have ⟨qK, hqK⟩ := row_l hu hr1
        have hKu : k.toNat < u0.length := (List.getElem?_eq_some_iff.1 hqK).1
        have hself := putT_self hqK
        have hrs : r.l.length ≤ 1048576 := hr r (List.mem_of_getElem? hr1)
        refine cx_sound _ _ _ _ _ ?_
        refine ⟨_, rfl, ?_⟩
        refine AW.cutM (0) s1 [(0, vS p t.length), (1, vI k), (2, vS pm ms.length), (6, _), (7, vS q t.length), (30, vB false), (32, vS pm ms.length), (33, vI (ms.length)), (34, vI (0))] [] ⟨rfl, rfl, rfl, rfl, rfl, rfl, rfl, rfl, rfl, trivial⟩ trivial rfl fun ρ0 f => ?_
        refine AW.loopM (fun i : Nat => [(1, vI k), (7, vS q t.length), (32, vS pm ms.length), (33, vI (ms.length : Int)), (34, vI (i : Int))]) (fun i : Nat => []) (fun m (i : Nat) st' => m = ms.length - i ∧ i ≤ ms.length ∧ OwnP st' (pcT q (putT u0 k.toNat ⟨qK, addMarks r.l (ms.take i)⟩)) ∧ NewP st.next (pcT q (putT u0 k.toNat ⟨qK, addMarks r.l (ms.take i)⟩)) ∧ Pres st st') 0 _ ⟨rfl, rfl, rfl, rfl, rfl, trivial⟩ trivial ⟨rfl, Nat.zero_le _, (show OwnP s1 (pcT q (putT u0 k.toNat ⟨qK, r.l⟩)) by rw [hself]; exact hO), (show NewP st.next (pcT q (putT u0 k.toNat ⟨qK, r.l⟩)) by rw [hself]; exact hN), hP⟩ ?_
        rintro m i ρ0 f g st' ⟨rfl, hi, hO', hN', hP'⟩
        refine ⟨_, rfl, ?_⟩
        rintro (_|_) h6
        · replace h6 : ¬ ((i : Int) < (ms.length : Int)) := of_decide_eq_false h6
          refine AW.cutM (g) st' [(1, vI k), (7, vS q t.length), (32, vS pm ms.length), (33, vI (ms.length : Int)), (34, vI (i : Int)), (35, vB false)] [] ⟨rfl, rfl, rfl, rfl, rfl, rfl, trivial⟩ trivial rfl fun ρ0 f => ?_
          refine cx_sound _ _ _ _ _ ?_
          refine cx_sound _ _ _ _ _ ?_
          have hil : i = ms.length := by omega
          rw [hil, List.take_length] at hO' hN'
          exact ⟨.inl rfl, _, rfl, q, _, rfl, by rw [putT_len hKu]; exact hul, by rw [putT_map, hu, tableAdd_pos hr1 hk hmk (by omega)], hO', hN', hP'⟩
        · replace h6 : (i : Int) < (ms.length : Int) := of_decide_eq_true h6
          refine AW.cutM (g) st' [(1, vI k), (7, vS q t.length), (32, vS pm ms.length), (33, vI (ms.length : Int)), (34, vI (i : Int)), (35, vB true)] [] ⟨rfl, rfl, rfl, rfl, rfl, rfl, trivial⟩ trivial rfl fun ρ0 f => ?_
          have h6' := Int.ofNat_lt.1 h6
          have hcl := addMarks_len (ms.take i) r.l
          have hKt : k.toNat < (putT u0 k.toNat (⟨qK, addMarks r.l (ms.take i)⟩ : RV)).length := by rw [putT_len hKu]; exact hKu
          have hgt := putT_get (x := (⟨qK, addMarks r.l (ms.take i)⟩ : RV)) hKu
          have ⟨b2, o2, k2, x, hpe2, hx, hm2, hc2, hb2⟩ := (hO'.outer.rows cRV_len).atB hKt
          have hxe : x = ⟨qK, addMarks r.l (ms.take i)⟩ := by rw [hgt] at hx; injection hx with hx; exact hx.symm
          have hc2 : (k2.cells.drop (o2 + k.toNat * 1)).take 1 = cRV ⟨qK, addMarks r.l (ms.take i)⟩ := by rw [hc2, hxe]
          have hrow := hO'.row (List.mem_of_getElem? hgt)
          have ⟨b3, o3, k3, mk, hpe3, hmk3, hm3, hc3, hb3⟩ := (hP'.rows hM).atB h6'
          have hid := (hmk i mk hmk3).1
          have ⟨b4, o4, k4, z, hpe4, hz, hm4, hc4, hb4⟩ := (hrow.rows fI_len).atB (j := mk.id.toNat) (by simp only; omega)
          have ⟨a, ha⟩ := hrow.some (by simp only; omega)
          simp only at hpe4 ha
          refine cx_sound _ _ _ _ _ ?_
          refine ⟨_, op_idx (j := (i : Int)) (n := ms.length) (q := ⟨b3, o3, none⟩) rfl (congrArg (fun u => vS u ms.length) hpe3) rfl rfl rfl (Int.natCast_nonneg _) h6, ?_⟩
          refine ⟨_, op_lda rfl rfl rfl rfl rfl hm3 hc3 rfl, ?_⟩
          refine ⟨_, rfl, ?_⟩
          refine ⟨_, op_sto rfl rfl rfl rfl rfl rfl rfl, ?_⟩
          refine AW.cutM (g + 1) st' [(1, vI k), (7, vS q t.length), (9, vL 9 0 (g)), (32, vS pm ms.length), (33, vI (ms.length : Int)), (34, vI (i : Int)), (35, vB true)] [(9, g, [vI mk.id, vI mk.inc])] ⟨rfl, rfl, rfl, rfl, rfl, rfl, rfl, trivial⟩ ⟨rfl, trivial⟩ rfl fun ρ0 f => ?_
          refine ⟨_, op_idx (j := k) (n := t.length) (q := ⟨b2, o2, none⟩) rfl (congrArg (fun u => vS u t.length) hpe2) rfl rfl rfl hk.1 (by omega), ?_⟩
          refine ⟨_, op_ldc (i := 0) rfl rfl rfl rfl hm2 hc2 rfl rfl, ?_⟩
          refine ⟨_, rfl, ?_⟩
          refine ⟨_, op_ldo rfl rfl rfl rfl, ?_⟩
          refine ⟨_, op_idx (j := k) (n := t.length) (q := ⟨b2, o2, none⟩) rfl (congrArg (fun u => vS u t.length) hpe2) rfl rfl rfl hk.1 (by omega), ?_⟩
          refine ⟨_, op_ldc (i := 0) rfl rfl rfl rfl hm2 hc2 rfl rfl, ?_⟩
          refine ⟨_, rfl, ?_⟩
          refine ⟨_, op_ldo rfl rfl rfl rfl, ?_⟩
          refine ⟨_, op_idx (j := mk.id) (n := (addMarks r.l (ms.take i)).length) (q := ⟨b4, o4, none⟩) rfl (congrArg (fun u => vS u (addMarks r.l (ms.take i)).length) hpe4) rfl rfl rfl hid.1 (by omega), ?_⟩
          refine ⟨_, op_ldc (i := 0) rfl rfl rfl rfl hm4 hc4 rfl rfl, ?_⟩
          refine ⟨_, rfl, ?_⟩
          refine ⟨_, op_ldo rfl rfl rfl rfl, ?_⟩
          refine ⟨.int .i64 (max z mk.inc), ammL_max _ _, ?_⟩
          refine ⟨_, op_idx (j := mk.id) (n := (addMarks r.l (ms.take i)).length) (q := ⟨a, 0, none⟩) rfl (congrArg (fun u => vS u (addMarks r.l (ms.take i)).length) ha) rfl rfl rfl hid.1 (by omega), ?_⟩
          refine op_put (z := 1) (st := st') (f := fI) (j := mk.id.toNat) (l := addMarks r.l (ms.take i)) (y := max z mk.inc) (p := qK) (d := 0 + mk.id.toNat * 1) rfl rfl (Nat.zero_add _) rfl rfl fI_len rfl rfl (by omega) hrow ha ?_
          intro s5 hO5 hP5 hn5
          refine AW.cutM (g + 1) s5 [(1, vI k), (7, vS q t.length), (9, vL 9 0 (g)), (32, vS pm ms.length), (33, vI (ms.length : Int)), (34, vI (i : Int)), (35, vB true)] [(9, g, [vI mk.id, vI mk.inc])] ⟨rfl, rfl, rfl, rfl, rfl, rfl, rfl, trivial⟩ ⟨rfl, trivial⟩ rfl fun ρ0 f => ?_
          have hstep : (addMarks r.l (ms.take i)).set mk.id.toNat (max z mk.inc) = addMarks r.l (ms.take (i + 1)) := by rw [(split_at hmk3).2.1, addMarks_snoc, getD_of hz]
          rw [hstep] at hO5
          have hN5 : New st.next qK := hN' (pcRV ⟨qK, addMarks r.l (ms.take i)⟩) (List.mem_cons_of_mem _ (List.mem_map_of_mem (List.mem_of_getElem? hgt)))
          have hOP := hO'.put hP5 hO5 (by rw [addMarks_len, addMarks_len])
          have e56 : IntKind.wrap .i64 ((i : Int) + 1) = ((i + 1 : Nat) : Int) := (wrap_i64 (by omega) (by omega)).trans (by omega)
          refine ⟨_, rfl, ?_⟩
          refine ⟨i + 1, ms.length - (i + 1), by omega, ⟨rfl, rfl, rfl, rfl, congrArg (Value.int .i64) e56, trivial⟩, trivial, rfl, h6', hOP, fun c hc => ?_, hP5.pres hP' hN5⟩
          rcases List.mem_cons.1 hc with rfl | hc
          · exact (hN' (pcR 1 cRV q (putT u0 k.toNat ⟨qK, addMarks r.l (ms.take i)⟩)) (List.mem_cons_self ..) : New st.next q)
          · obtain ⟨y, hy, rfl⟩ := List.mem_map.1 hc
            rcases List.mem_append.1 hy with hy | hy
            · exact hN' (pcRV y) (List.mem_cons_of_mem _ (List.mem_map_of_mem (List.mem_append_left _ hy)))
            · rcases List.mem_cons.1 hy with rfl | hy
              · exact hN5
              · exact hN' (pcRV y) (List.mem_cons_of_mem _ (List.mem_map_of_mem (List.mem_append_right _ (List.mem_cons_of_mem _ hy))))
      · replace h5 : (r.l.length : Int) < 5 := of_decide_eq_true h5
        refine ⟨_, rfl, ?_⟩
        refine AW.cutM (0) s1 [(0, vS p t.length), (1, vI k), (2, vS pm ms.length), (6, _), (7, vS q t.length), (30, vB true)] [] ⟨rfl, rfl, rfl, rfl, rfl, rfl, trivial⟩ trivial rfl fun ρ0 f => ?_
        refine cx_sound _ _ _ _ _ ?_
        exact ⟨.inl rfl, _, rfl, q, u0, rfl, hul, by rw [tableAdd_neg (.inr (.inr ⟨r, hr1, by omega⟩))]; exact hu, hO, hN, hP⟩
/-- A row of marks that is marked: what is in it now does not matter. -/
theorem ac_laws_markMarkS (p : Option Addr) (l : List Flr) (k : Int) (st : St) (hO : OwnR st 2 cFlr p l) (hs : szOk l.length) (h0 : 0 ≤ k) (hk : k ≤ 1125899906842624) : C 47 [vS p l.length, vI k] st (fun v s => ∃ l', v = vI (k + 2 * (l.length : Int)) ∧ l'.length = l.length ∧ OwnR s 2 cFlr p l' ∧ Pr p st s) := by
  have hs : l.length ≤ 1048576 := hs
  refine AC.enterX (i := ⟨[], [], [0, 1, 4, 5, 9]⟩) [] Try.func47 rfl rfl (by kernel_rfl) (by kernel_rfl) Try.ntmps47 (Nat.le_of_ble_eq_true rfl) rfl ?_
  refine cx_sound _ _ _ _ _ ?_
  refine AW.cut lo0 st [(0, vS p l.length), (1, vI k), (4, vI (0)), (5, vI (0))] ⟨rfl, rfl, rfl, rfl, trivial⟩ fun ρ0 => ?_
  refine AW.loop0 (fun x : Nat × List Flr => [(0, vS p l.length), (1, vI (k + 2 * (x.1 : Int))), (5, vI (x.1 : Int))]) (fun m (x : Nat × List Flr) st' => m = l.length - x.1 ∧ x.1 ≤ l.length ∧ x.2.length = l.length ∧ OwnR st' 2 cFlr p x.2 ∧ Pr p st st') (0, l) _ ⟨rfl, congrArg (Value.int .i64) (show k = k + 2 * ((0 : Nat) : Int) by omega), rfl, trivial⟩ rfl ⟨rfl, Nat.zero_le _, rfl, hO, Pr.refl _ _⟩ ?_
  rintro m x ρ0 st' ⟨rfl, hi, hl, hO', hP'⟩
  iterate 2 refine ⟨_, rfl, ?_⟩
  rintro (_|_) h1
  · replace h1 : ¬ ((x.1 : Int) < (l.length : Int)) := of_decide_eq_false h1
    refine AW.cut lo0 st' [(0, vS p l.length), (1, vI (k + 2 * (x.1 : Int))), (5, vI (x.1 : Int)), (9, vB false)] ⟨rfl, rfl, rfl, rfl, trivial⟩ fun ρ0 => ?_
    refine cx_sound _ _ _ _ _ ?_
    refine cx_sound _ _ _ _ _ ?_
    have hil : x.1 = l.length := by omega
    exact ⟨.inl rfl, _, rfl, x.2, congrArg (Value.int .i64) (by rw [hil]), hl, hO', hP'⟩
  · replace h1 : (x.1 : Int) < (l.length : Int) := of_decide_eq_true h1
    refine AW.cut lo0 st' [(0, vS p l.length), (1, vI (k + 2 * (x.1 : Int))), (5, vI (x.1 : Int)), (9, vB true)] ⟨rfl, rfl, rfl, rfl, trivial⟩ fun ρ0 => ?_
    have h1' := Int.ofNat_lt.1 h1
    have ⟨a, ha⟩ := hO'.some (by omega)
    obtain ⟨w, hw⟩ : ∃ w, x.2[x.1]? = some w := ⟨x.2[x.1]'(by omega), List.getElem?_eq_getElem (by omega)⟩
    refine cx_sound _ _ _ _ _ ?_
    refine ⟨_, op_idx (j := (x.1 : Int)) (n := l.length) (q := ⟨a, 0, none⟩) rfl (congrArg (fun u => vS u l.length) ha) rfl rfl rfl (Int.natCast_nonneg _) h1, ?_⟩
    refine ⟨_, rfl, ?_⟩
    refine op_putc (z := 2) (i := 0) (st := st') (f := cFlr) (j := x.1) (l := x.2) (w := w) (y := (⟨k + 2 * (x.1 : Int), w.inc⟩ : Flr)) (p := p) (d := 0 + x.1 * 2 + 0) rfl rfl (by omega) rfl rfl len_cFlr rfl rfl hw (by decide) rfl hO' ha ?_
    intro s5 hO5 hP5 hn5
    refine AW.cut lo0 s5 [(0, vS p l.length), (1, vI (k + 2 * (x.1 : Int))), (5, vI (x.1 : Int)), (9, vB true)] ⟨rfl, rfl, rfl, rfl, trivial⟩ fun ρ0 => ?_
    have hw2 : (x.2.set x.1 ⟨k + 2 * (x.1 : Int), w.inc⟩)[x.1]? = some ⟨k + 2 * (x.1 : Int), w.inc⟩ := List.getElem?_set_self (by omega)
    have e18 : IntKind.wrap .i64 (k + 2 * (x.1 : Int) + 1) = k + 2 * (x.1 : Int) + 1 := wrap_i64 (by omega) (by omega)
    refine ⟨_, rfl, ?_⟩
    refine AW.cut lo0 s5 [(0, vS p l.length), (1, vI (k + 2 * (x.1 : Int) + 1)), (5, vI (x.1 : Int)), (9, vB true)] ⟨rfl, congrArg (Value.int .i64) e18, rfl, rfl, trivial⟩ fun ρ0 => ?_
    refine ⟨_, op_idx (j := (x.1 : Int)) (n := l.length) (q := ⟨a, 0, none⟩) rfl (congrArg (fun u => vS u l.length) ha) rfl rfl rfl (Int.natCast_nonneg _) h1, ?_⟩
    refine ⟨_, rfl, ?_⟩
    refine op_putc (z := 2) (i := 1) (st := s5) (f := cFlr) (j := x.1) (l := x.2.set x.1 ⟨k + 2 * (x.1 : Int), w.inc⟩) (w := (⟨k + 2 * (x.1 : Int), w.inc⟩ : Flr)) (y := (⟨k + 2 * (x.1 : Int), k + 2 * (x.1 : Int) + 1⟩ : Flr)) (p := p) (d := 0 + x.1 * 2 + 1) rfl rfl (by omega) rfl rfl len_cFlr rfl rfl hw2 (by decide) rfl hO5 ha ?_
    intro s6 hO6 hP6 hn6
    refine AW.cut lo0 s6 [(0, vS p l.length), (1, vI (k + 2 * (x.1 : Int) + 1)), (5, vI (x.1 : Int)), (9, vB true)] ⟨rfl, rfl, rfl, rfl, trivial⟩ fun ρ0 => ?_
    have e25 : IntKind.wrap .i64 (k + 2 * (x.1 : Int) + 1 + 1) = k + 2 * ((x.1 + 1 : Nat) : Int) := (wrap_i64 (by omega) (by omega)).trans (by omega)
    refine ⟨_, rfl, ?_⟩
    refine AW.cut lo0 s6 [(0, vS p l.length), (1, vI (k + 2 * ((x.1 + 1 : Nat) : Int))), (5, vI (x.1 : Int)), (9, vB true)] ⟨rfl, congrArg (Value.int .i64) e25, rfl, rfl, trivial⟩ fun ρ0 => ?_
    have e11 : IntKind.wrap .i64 ((x.1 : Int) + 1) = ((x.1 + 1 : Nat) : Int) := (wrap_i64 (by omega) (by omega)).trans (by omega)
    refine ⟨_, rfl, ?_⟩
    exact ⟨(x.1 + 1, _), l.length - (x.1 + 1), by omega, ⟨rfl, rfl, congrArg (Value.int .i64) e11, trivial⟩, rfl, rfl, h1', by simp only [List.length_set]; exact hl, hO6, (hP'.trans hP5).trans hP6⟩
end Go.Proofs.Ytopakkndacbbpaa.AM
