/- The law of marks that are added to a table, on the abstract machine. -/
import Derived.Test.YtopakkndacbbpaaF12
namespace Go.Proofs.Ytopakkndacbbpaa.AM
open Go Go.Proofs
set_option linter.unusedVariables false
set_option linter.unusedSimpArgs false
set_option maxRecDepth 100000
set_option maxHeartbeats 4000000
theorem mem_ps {q : Option Addr} {t : List RV} {p : Option Addr} (h : p ∈ t.map (·.p)) : ∃ c ∈ pcT q t, c.p = p := by
  obtain ⟨r, hr, rfl⟩ := List.mem_map.1 h
  exact ⟨pcRV r, List.mem_cons_of_mem _ (List.mem_map_of_mem hr), rfl⟩
/-- A later table's rows are changed: what was there before stands. -/
theorem OwnP.after {st0 s s' : St} {l : List Pc} {q : Option Addr} {t : List RV} {n : Nat} (h : OwnP s l) (h0 : OwnP st0 l) (hn : st0.next ≤ n) (hN : NewP n (pcT q t)) (hL : PrL (t.map (·.p)) s s') : OwnP s' l :=
  h.prl hL fun c hc p hp => by
    obtain ⟨d, hd, rfl⟩ := mem_ps (q := q) hp
    exact (Dis.of (((h0.1 c hc).old).le hn) (hN d hd)).symm
/-- An earlier table's rows are changed: what came later stands. -/
theorem OwnP.before {st0 s s' : St} {l : List Pc} {q : Option Addr} {t : List RV} {n : Nat} (h : OwnP s l) (hN : NewP n l) (h0 : OwnP st0 (pcT q t)) (hn : st0.next ≤ n) (hL : PrL (t.map (·.p)) s s') : OwnP s' l :=
  h.prl hL fun c hc p hp => by
    obtain ⟨d, hd, rfl⟩ := mem_ps (q := q) hp
    exact Dis.of (((h0.1 d hd).old).le hn) (hN c hc)
theorem PrL.newT {q : Option Addr} {t : List RV} {n : Nat} (hN : NewP n (pcT q t)) : ∀ p ∈ t.map (·.p), New n p := fun p hp => by
  obtain ⟨d, hd, rfl⟩ := mem_ps (q := q) hp
  exact hN d hd
theorem tableAdd_lens (T : List (List Int)) (k : Int) (ms : List Flr) : (tableAdd T k ms).map List.length = T.map List.length := by
  unfold tableAdd
  split
  · rename_i h
    have hK : k.toNat < T.length := by omega
    have hg : T.getD k.toNat [] = T[k.toNat] := by rw [List.getD_eq_getElem?_getD, List.getElem?_eq_getElem hK]; rfl
    conv => rhs; rw [(split_at (List.getElem?_eq_getElem hK)).1]
    rw [putT, hg, List.map_append, List.map_append, List.map_cons, List.map_cons, addMarks_len]
  · rfl
theorem cntT_lens {t u : List RV} (h : (u.map (·.l)).map List.length = (t.map (·.l)).map List.length) : cntT u = cntT t ∧ u.length = t.length := by
  have h1 : ∀ t : List RV, cntT t = ((t.map (·.l)).map List.length).sum := fun t => by simp [cntT, Function.comp_def]
  refine ⟨by rw [h1, h1, h], ?_⟩
  have := congrArg List.length h
  simpa using this
theorem rows_lens {t u : List RV} (h : (u.map (·.l)).map List.length = (t.map (·.l)).map List.length) (hr : ∀ r ∈ t, szOk r.l.length) : ∀ r ∈ u, szOk r.l.length := fun r hm => by
  have h2 : r.l.length ∈ (u.map (·.l)).map List.length := List.mem_map_of_mem (List.mem_map_of_mem hm)
  rw [h] at h2
  obtain ⟨l, hl, he⟩ := List.mem_map.1 h2
  obtain ⟨x, hx, rfl⟩ := List.mem_map.1 hl
  rw [← he]; exact hr x hx
theorem ac_laws_FnExactTableAdd (p : Option Addr) (t : List RV) (k : Int) (pm : Option Addr) (ms : List Flr) (st : St) (hR : RdT st p t) (hm : t.length ≤ maxLen ∧ ∀ r ∈ t, r.l.length ≤ maxLen) (hw : (Lit.int .i64 k).wf = true) (hM : Rows st 2 cFlr pm ms) (hmm : ms.length ≤ maxLen) : C 12 [vS p t.length, vI k, vS pm ms.length] st (fun v s => v = vB true) := by
  refine AC.enterX (i := ⟨[], [], [0, 1, 2, 6, 7, 8, 9, 10, 11, 12, 13, 14, 15, 20, 25, 43, 48, 53, 67, 75, 78, 88, 93, 96]⟩) [] Try.func12 rfl rfl (by kernel_rfl) (by kernel_rfl) Try.ntmps12 (Nat.le_of_ble_eq_true rfl) rfl ?_
  refine cx_sound _ _ _ _ _ ?_
  refine AW.cut lo0 st [(0, vS p t.length), (1, vI k), (2, vS pm ms.length), (6, vB false), (7, vI (1048576))] ⟨rfl, rfl, rfl, rfl, rfl, trivial⟩ fun ρ0 => ?_
  refine ⟨_, rfl, (ac_laws_szIntSS p t 1048576 st hR (by decide) (by decide) hm.1 hm.2).mono ?_⟩
  rintro _ st ⟨r, rfl, hr, hz, rfl⟩
  refine AW.cut lo0 st [(0, vS p t.length), (1, vI k), (2, vS pm ms.length), (6, vB false), (7, vI r)] ⟨rfl, rfl, rfl, rfl, rfl, trivial⟩ fun ρ0 => ?_
  refine ⟨_, rfl, ?_⟩
  rintro (_|_) h1
  · replace h1 : ¬ (r < 0) := of_decide_eq_false h1
    refine AW.cut lo0 st [(0, vS p t.length), (1, vI k), (2, vS pm ms.length), (6, vB false), (7, vI r), (20, vB false)] ⟨rfl, rfl, rfl, rfl, rfl, rfl, trivial⟩ fun ρ0 => ?_
    have ⟨hs, hrs, hcn⟩ := sz_rows (hz (Int.not_lt.1 h1)) (Int.not_lt.1 h1)
    refine cx_sound _ _ _ _ _ ?_
    refine ⟨_, rfl, (ac_laws_szMarkS pm ms r st (by omega) (by omega) hmm).mono ?_⟩
    rintro _ st ⟨r2, rfl, hr2, hz2, rfl⟩
    refine AW.cut lo0 st [(0, vS p t.length), (1, vI k), (2, vS pm ms.length), (6, vB false), (7, vI r2), (20, vB false)] ⟨rfl, rfl, rfl, rfl, rfl, rfl, trivial⟩ fun ρ0 => ?_
    refine ⟨_, rfl, ?_⟩
    rintro (_|_) h2
    · replace h2 : ¬ (r2 < 0) := of_decide_eq_false h2
      refine AW.cut lo0 st [(0, vS p t.length), (1, vI k), (2, vS pm ms.length), (6, vB false), (7, vI r2), (20, vB false), (25, vB false)] ⟨rfl, rfl, rfl, rfl, rfl, rfl, rfl, trivial⟩ fun ρ0 => ?_
      have hms : szOk ms.length := by have := hz2 (Int.not_lt.1 h2); unfold szOk; omega
      refine cx_sound _ _ _ _ _ ?_
      refine ⟨_, rfl, (ac_laws_toIntSS p t st hR hs hrs).mono ?_⟩
      rintro _ s1 ⟨qa, ua, rfl, ea, hOa, hNa, hPa⟩
      refine ⟨_, rfl, (ac_laws_toMarkS pm ms s1 (hPa.rows hM) hms).mono ?_⟩
      rintro _ s2 ⟨qb, rfl, hOb, hPb, hNb⟩
      have ⟨la, hra⟩ := map_len ea hrs
      have hc := ac_spec_TableAdd qa qb ua k ms s2 (hOa.rdT.pres hPb) (hOb.rows len_cFlr) (la ▸ hs) hra hms
      rw [la, ea] at hc
      refine ⟨_, rfl, hc.mono ?_⟩
      rintro _ s3 ⟨qw, uw, rfl, lw, ew, hOw, hNw, hPw⟩
      refine AW.cut lo0 s3 [(0, vS p t.length), (1, vI k), (2, vS pm ms.length), (6, vB false), (7, vI r2), (8, vS qw t.length), (20, vB false), (25, vB false)] ⟨rfl, rfl, rfl, rfl, rfl, rfl, rfl, rfl, trivial⟩ fun ρ0 => ?_
      have hP3 := (hPa.trans hPb).trans hPw
      refine ⟨_, rfl, (ac_laws_toIntSS p t s3 (hR.pres hP3) hs hrs).mono ?_⟩
      rintro _ s4 ⟨qx, ux, rfl, ex, hOx, hNx, hPx⟩
      refine AW.cut lo0 s4 [(0, vS p t.length), (1, vI k), (2, vS pm ms.length), (6, vB false), (7, vI r2), (8, vS qw t.length), (9, vS qx t.length), (20, vB false), (25, vB false)] ⟨rfl, rfl, rfl, rfl, rfl, rfl, rfl, rfl, rfl, trivial⟩ fun ρ0 => ?_
      refine ⟨_, rfl, (ac_laws_toMarkS pm ms s4 ((hP3.trans hPx).rows hM) hms).mono ?_⟩
      rintro _ s5 ⟨qm, rfl, hOm, hPm, hNm⟩
      refine AW.cut lo0 s5 [(0, vS p t.length), (1, vI k), (2, vS pm ms.length), (6, vB false), (7, vI r2), (8, vS qw t.length), (9, vS qx t.length), (10, vS qm ms.length), (20, vB false), (25, vB false)] ⟨rfl, rfl, rfl, rfl, rfl, rfl, rfl, rfl, rfl, rfl, trivial⟩ fun ρ0 => ?_
      have ⟨lx, hrx⟩ := map_len ex hrs
      have hc := ac_impl_TableAdd qx qm ux k ms s5 (hOx.rdT.pres hPm) (hOm.rows len_cFlr) (lx ▸ hs) hrx hms
      rw [lx, ex] at hc
      refine ⟨_, rfl, (hc).mono ?_⟩
      rintro _ s6 ⟨qg, ug, rfl, lg, eg, hOg, hNg, hPg⟩
      refine AW.cut lo0 s6 [(0, vS p t.length), (1, vI k), (2, vS pm ms.length), (6, vB false), (7, vI r2), (8, vS qw t.length), (9, vS qx t.length), (10, vS qm ms.length), (11, vS qg t.length), (20, vB false), (25, vB false)] ⟨rfl, rfl, rfl, rfl, rfl, rfl, rfl, rfl, rfl, rfl, rfl, trivial⟩ fun ρ0 => ?_
      have hgl := (congrArg (List.map List.length) eg).trans (tableAdd_lens (t.map (·.l)) k ms)
      have hwl := (congrArg (List.map List.length) ew).trans (tableAdd_lens (t.map (·.l)) k ms)
      have hrg := rows_lens hgl hrs
      have hrw := rows_lens hwl hrs
      have cg := (cntT_lens hgl).1
      have cx : cntT ux = cntT t := (cntT_lens (congrArg (List.map List.length) ex)).1
      have hP36 := (hPx.trans hPm).trans hPg
      have hq1 := AC.tru (ac_laws_eqIntSS qg qw ug uw s6 hOg.rdT (hOw.rdT.pres hP36) (lg ▸ hs) hrg) (eg.trans ew.symm)
      rw [lg, lw] at hq1
      refine ⟨_, rfl, (hq1).mono ?_⟩
      rintro _ s6 ⟨rfl, rfl⟩
      refine ⟨_, rfl, ?_⟩
      refine AW.cut lo0 s6 [(0, vS p t.length), (1, vI k), (2, vS pm ms.length), (6, vB false), (7, vI r2), (8, vS qw t.length), (9, vS qx t.length), (10, vS qm ms.length), (11, vS qg t.length), (20, vB false), (25, vB false), (43, vB false)] ⟨rfl, rfl, rfl, rfl, rfl, rfl, rfl, rfl, rfl, rfl, rfl, rfl, trivial⟩ fun ρ0 => ?_
      refine cx_sound _ _ _ _ _ ?_
      refine ⟨_, rfl, (ac_laws_toIntSS p t s6 (hR.pres (hP3.trans hP36)) hs hrs).mono ?_⟩
      rintro _ s7 ⟨qy, uy, rfl, ey, hOy, hNy, hPy⟩
      have ⟨ly, hry⟩ := map_len ey hrs
      have hq := AC.tru (ac_laws_eqIntSS qx qy ux uy s7 (((hOx.rdT.pres hPm).pres hPg).pres hPy) hOy.rdT (lx ▸ hs) hrx) (ex.trans ey.symm)
      rw [lx, ly] at hq
      refine ⟨_, rfl, hq.mono ?_⟩
      rintro _ s7 ⟨rfl, rfl⟩
      refine ⟨_, rfl, ?_⟩
      refine AW.cut lo0 s7 [(0, vS p t.length), (1, vI k), (2, vS pm ms.length), (6, vB false), (7, vI r2), (8, vS qw t.length), (9, vS qx t.length), (10, vS qm ms.length), (11, vS qg t.length), (20, vB false), (25, vB false), (43, vB false), (48, vB false)] ⟨rfl, rfl, rfl, rfl, rfl, rfl, rfl, rfl, rfl, rfl, rfl, rfl, rfl, trivial⟩ fun ρ0 => ?_
      refine cx_sound _ _ _ _ _ ?_
      refine ⟨_, rfl, (ac_laws_toMarkS pm ms s7 (((hP3.trans hP36).trans hPy).rows hM) hms).mono ?_⟩
      rintro _ s8 ⟨qz, rfl, hOz, hPz, hNz⟩
      refine ⟨_, rfl, (AC.tru (ac_laws_eqMarkS qm qz ms ms s8 ((((hPg.trans hPy).trans hPz).ownR hOm).rows len_cFlr) (hOz.rows len_cFlr) hms) rfl).mono ?_⟩
      rintro _ s8 ⟨rfl, rfl⟩
      refine ⟨_, rfl, ?_⟩
      refine AW.cut lo0 s8 [(0, vS p t.length), (1, vI k), (2, vS pm ms.length), (6, vB false), (7, vI r2), (8, vS qw t.length), (9, vS qx t.length), (10, vS qm ms.length), (11, vS qg t.length), (20, vB false), (25, vB false), (43, vB false), (48, vB false), (53, vB false)] ⟨rfl, rfl, rfl, rfl, rfl, rfl, rfl, rfl, rfl, rfl, rfl, rfl, rfl, rfl, trivial⟩ fun ρ0 => ?_
      have hPst8 := ((hP3.trans hP36).trans hPy).trans hPz
      have hOx8 := (((hOx.pres hPm).pres hPg).pres hPy).pres hPz
      have hOm8 := ((hPg.trans hPy).trans hPz).ownR hOm
      have hOw8 := ((hOw.pres hP36).pres hPy).pres hPz
      have hOg8 := (hOg.pres hPy).pres hPz
      have hmk := ac_laws_markIntSS qx ux 1 s8 hOx8 (lx ▸ hs) hrx (by decide) (by omega)
      rw [lx] at hmk
      refine cx_sound _ _ _ _ _ ?_
      refine AW.cut lo0 s8 [(0, vS p t.length), (1, vI k), (2, vS pm ms.length), (6, vB false), (7, vI r2), (8, vS qw t.length), (9, vS qx t.length), (10, vS qm ms.length), (11, vS qg t.length), (12, vI (1)), (20, vB false), (25, vB false), (43, vB false), (48, vB false), (53, vB false)] ⟨rfl, rfl, rfl, rfl, rfl, rfl, rfl, rfl, rfl, rfl, rfl, rfl, rfl, rfl, rfl, trivial⟩ fun ρ0 => ?_
      refine ⟨_, rfl, (hmk).mono ?_⟩
      rintro _ s9 ⟨rfl, hOx9, hL9⟩
      refine AW.cut lo0 s9 [(0, vS p t.length), (1, vI k), (2, vS pm ms.length), (6, vB false), (7, vI r2), (8, vS qw t.length), (9, vS qx t.length), (10, vS qm ms.length), (11, vS qg t.length), (12, vI (1 + (cntT ux : Int))), (20, vB false), (25, vB false), (43, vB false), (48, vB false), (53, vB false)] ⟨rfl, rfl, rfl, rfl, rfl, rfl, rfl, rfl, rfl, rfl, rfl, rfl, rfl, rfl, rfl, trivial⟩ fun ρ0 => ?_
      have hOw9 := hOw8.after hOw (Nat.le_refl _) hNx hL9
      have hOg9 := hOg8.before hNg hOx hPm.1 hL9
      have hOm9 : OwnP s9 [pcR 2 cFlr qm ms] := (OwnP.one (own_pc hOm8)).before (n := s4.next) (NewP.cons hNm NewP.nil) hOx (Nat.le_refl _) hL9
      have hPst9 := hL9.pres hPst8 (PrL.newT (hNx.le hP3.1))
      have hOm9 := pc_own (by decide) len_cFlr (hOm9.1 _ (List.mem_cons_self ..))
      refine ⟨_, rfl, (ac_laws_markMarkS qm ms (1 + (cntT ux : Int)) s9 hOm9 hms (by omega) (by omega)).mono ?_⟩
      rintro _ s10 ⟨l', rfl, hl', hO10, hPr10⟩
      refine AW.cut lo0 s10 [(0, vS p t.length), (1, vI k), (2, vS pm ms.length), (6, vB false), (7, vI r2), (8, vS qw t.length), (9, vS qx t.length), (10, vS qm ms.length), (11, vS qg t.length), (12, vI (1 + (cntT ux : Int) + 2 * (ms.length : Int))), (20, vB false), (25, vB false), (43, vB false), (48, vB false), (53, vB false)] ⟨rfl, rfl, rfl, rfl, rfl, rfl, rfl, rfl, rfl, rfl, rfl, rfl, rfl, rfl, rfl, trivial⟩ fun ρ0 => ?_
      have hms' : ms.length ≤ 1048576 := hms
      have hOw10 : OwnP s10 (pcT qw uw) := hOw9.prl (ps := [qm]) (hPr10.l (List.mem_singleton_self _)) fun c hc p hp => by
        rw [List.mem_singleton.1 hp]
        exact (Dis.of (((hOw.1 c hc).old).le hPx.1) hNm).symm
      have hOg10 : OwnP s10 (pcT qg ug) := hOg9.prl (ps := [qm]) (hPr10.l (List.mem_singleton_self _)) fun c hc p hp => by
        rw [List.mem_singleton.1 hp]
        exact Dis.of hOm.old (hNg c hc)
      have hPst10 := hPr10.pres hPst9 (hNm.le (hP3.trans hPx).1)
      have hq2 := AC.tru (ac_laws_eqIntSS qg qw ug uw s10 hOg10.rdT hOw10.rdT (lg ▸ hs) hrg) (eg.trans ew.symm)
      rw [lg, lw] at hq2
      refine ⟨_, rfl, ?_⟩
      rintro (_|_) h3
      rotate_left
      · exact absurd (of_decide_eq_true h3) ((by omega))
      refine ⟨_, rfl, (hq2).mono ?_⟩
      rintro _ s10 ⟨rfl, rfl⟩
      iterate 2 refine ⟨_, rfl, ?_⟩
      refine AW.cut lo0 s10 [(0, vS p t.length), (1, vI k), (2, vS pm ms.length), (6, vB false), (7, vI r2), (8, vS qw t.length), (9, vS qx t.length), (10, vS qm ms.length), (11, vS qg t.length), (12, vI (1 + (cntT ux : Int) + 2 * (ms.length : Int))), (20, vB false), (25, vB false), (43, vB false), (48, vB false), (53, vB false), (67, vB false)] ⟨rfl, rfl, rfl, rfl, rfl, rfl, rfl, rfl, rfl, rfl, rfl, rfl, rfl, rfl, rfl, rfl, trivial⟩ fun ρ0 => ?_
      refine cx_sound _ _ _ _ _ ?_
      refine AW.cut lo0 s10 [(0, vS p t.length), (1, vI k), (2, vS pm ms.length), (6, vB false), (7, vI r2), (8, vS qw t.length), (9, vS qx t.length), (10, vS qm ms.length), (11, vS qg t.length), (12, vI (1 + (cntT ux : Int) + 2 * (ms.length : Int))), (13, vI (1)), (20, vB false), (25, vB false), (43, vB false), (48, vB false), (53, vB false), (67, vB false)] ⟨rfl, rfl, rfl, rfl, rfl, rfl, rfl, rfl, rfl, rfl, rfl, rfl, rfl, rfl, rfl, rfl, rfl, trivial⟩ fun ρ0 => ?_
      have hmg := ac_laws_markIntSS qg ug 1 s10 hOg10 (lg ▸ hs) hrg (by decide) (by omega)
      rw [lg] at hmg
      refine ⟨_, rfl, (hmg).mono ?_⟩
      rintro _ s11 ⟨rfl, hOg11, hL11⟩
      refine cx_sound _ _ _ _ _ ?_
      have hOw11 := hOw10.after hOw (hPx.trans hPm).1 hNg hL11
      have hPst11 := hL11.pres hPst10 (PrL.newT (hNg.le ((hP3.trans hPx).trans hPm).1))
      have hh1 := ac_laws_heldIntSS qg ug 1 s11 hOg11.rdT (lg ▸ hs) hrg (by decide) (by omega)
      rw [lg] at hh1
      refine AW.cut lo0 s11 [(0, vS p t.length), (1, vI k), (2, vS pm ms.length), (6, vB false), (7, vI r2), (8, vS qw t.length), (9, vS qx t.length), (10, vS qm ms.length), (11, vS qg t.length), (12, vI (1 + (cntT ux : Int) + 2 * (ms.length : Int))), (13, vI (1 + (cntT ug : Int))), (14, vI (1)), (20, vB false), (25, vB false), (43, vB false), (48, vB false), (53, vB false), (67, vB false)] ⟨rfl, rfl, rfl, rfl, rfl, rfl, rfl, rfl, rfl, rfl, rfl, rfl, rfl, rfl, rfl, rfl, rfl, rfl, trivial⟩ fun ρ0 => ?_
      refine ⟨_, rfl, (hh1).mono ?_⟩
      rintro _ s11 ⟨rfl, rfl⟩
      refine AW.cut lo0 s11 [(0, vS p t.length), (1, vI k), (2, vS pm ms.length), (6, vB false), (7, vI r2), (8, vS qw t.length), (9, vS qx t.length), (10, vS qm ms.length), (11, vS qg t.length), (12, vI (1 + (cntT ux : Int) + 2 * (ms.length : Int))), (13, vI (1 + (cntT ug : Int))), (14, vI (1 + (cntT ug : Int))), (20, vB false), (25, vB false), (43, vB false), (48, vB false), (53, vB false), (67, vB false)] ⟨rfl, rfl, rfl, rfl, rfl, rfl, rfl, rfl, rfl, rfl, rfl, rfl, rfl, rfl, rfl, rfl, rfl, rfl, trivial⟩ fun ρ0 => ?_
      refine ⟨_, rfl, ?_⟩
      rintro (_|_) h4
      rotate_left
      · exact absurd (of_decide_eq_true h4) ((by omega))
      refine AW.cut lo0 s11 [(0, vS p t.length), (1, vI k), (2, vS pm ms.length), (6, vB false), (7, vI r2), (8, vS qw t.length), (9, vS qx t.length), (10, vS qm ms.length), (11, vS qg t.length), (12, vI (1 + (cntT ux : Int) + 2 * (ms.length : Int))), (13, vI (1 + (cntT ug : Int))), (14, vI (1 + (cntT ug : Int))), (20, vB false), (25, vB false), (43, vB false), (48, vB false), (53, vB false), (67, vB false), (75, vB false)] ⟨rfl, rfl, rfl, rfl, rfl, rfl, rfl, rfl, rfl, rfl, rfl, rfl, rfl, rfl, rfl, rfl, rfl, rfl, rfl, trivial⟩ fun ρ0 => ?_
      refine cx_sound _ _ _ _ _ ?_
      refine ⟨_, rfl, ?_⟩
      rintro (_|_) h5
      rotate_left
      · exact absurd (rfl) (bne_iff_ne.1 h5)
      refine AW.cut lo0 s11 [(0, vS p t.length), (1, vI k), (2, vS pm ms.length), (6, vB false), (7, vI r2), (8, vS qw t.length), (9, vS qx t.length), (10, vS qm ms.length), (11, vS qg t.length), (12, vI (1 + (cntT ux : Int) + 2 * (ms.length : Int))), (13, vI (1 + (cntT ug : Int))), (14, vI (1 + (cntT ug : Int))), (20, vB false), (25, vB false), (43, vB false), (48, vB false), (53, vB false), (67, vB false), (75, vB false), (78, vB false)] ⟨rfl, rfl, rfl, rfl, rfl, rfl, rfl, rfl, rfl, rfl, rfl, rfl, rfl, rfl, rfl, rfl, rfl, rfl, rfl, rfl, trivial⟩ fun ρ0 => ?_
      refine cx_sound _ _ _ _ _ ?_
      refine ⟨_, rfl, (ac_laws_toIntSS p t s11 (hR.pres hPst11) hs hrs).mono ?_⟩
      rintro _ s12 ⟨qc, uc, rfl, ec, hOc, hNc, hPc⟩
      refine ⟨_, rfl, (ac_laws_toMarkS pm ms s12 ((hPst11.trans hPc).rows hM) hms).mono ?_⟩
      rintro _ s13 ⟨qd, rfl, hOd, hPd, hNd⟩
      have ⟨lc, hrc⟩ := map_len ec hrs
      have hc := ac_impl_TableAdd qc qd uc k ms s13 (hOc.rdT.pres hPd) (hOd.rows len_cFlr) (lc ▸ hs) hrc hms
      rw [lc, ec] at hc
      refine ⟨_, rfl, hc.mono ?_⟩
      rintro _ s14 ⟨qh, uh, rfl, lh, eh, hOh, hNh, hPh⟩
      refine AW.cut lo0 s14 [(0, vS p t.length), (1, vI k), (2, vS pm ms.length), (6, vB false), (7, vI r2), (8, vS qw t.length), (9, vS qx t.length), (10, vS qm ms.length), (11, vS qg t.length), (12, vI (1 + (cntT ux : Int) + 2 * (ms.length : Int))), (13, vI (1 + (cntT ug : Int))), (14, vI (1 + (cntT ug : Int))), (15, vS qh t.length), (20, vB false), (25, vB false), (43, vB false), (48, vB false), (53, vB false), (67, vB false), (75, vB false), (78, vB false)] ⟨rfl, rfl, rfl, rfl, rfl, rfl, rfl, rfl, rfl, rfl, rfl, rfl, rfl, rfl, rfl, rfl, rfl, rfl, rfl, rfl, rfl, trivial⟩ fun ρ0 => ?_
      have hhl := (congrArg (List.map List.length) eh).trans (tableAdd_lens (t.map (·.l)) k ms)
      have hrh := rows_lens hhl hrs
      have hP14 := (hPc.trans hPd).trans hPh
      have hq3 := AC.tru (ac_laws_eqIntSS qh qw uh uw s14 hOh.rdT ((hOw11.pres hP14).rdT) (lh ▸ hs) hrh) (eh.trans ew.symm)
      rw [lh, lw] at hq3
      have hh2 := ac_laws_heldIntSS qg ug 1 s14 (hOg11.pres hP14).rdT (lg ▸ hs) hrg (by decide) (by omega)
      rw [lg] at hh2
      refine ⟨_, rfl, (hq3).mono ?_⟩
      rintro _ s14 ⟨rfl, rfl⟩
      refine ⟨_, rfl, ?_⟩
      refine AW.cut lo0 s14 [(0, vS p t.length), (1, vI k), (2, vS pm ms.length), (6, vB false), (7, vI r2), (8, vS qw t.length), (9, vS qx t.length), (10, vS qm ms.length), (11, vS qg t.length), (12, vI (1 + (cntT ux : Int) + 2 * (ms.length : Int))), (13, vI (1 + (cntT ug : Int))), (14, vI (1 + (cntT ug : Int))), (15, vS qh t.length), (20, vB false), (25, vB false), (43, vB false), (48, vB false), (53, vB false), (67, vB false), (75, vB false), (78, vB false), (88, vB false)] ⟨rfl, rfl, rfl, rfl, rfl, rfl, rfl, rfl, rfl, rfl, rfl, rfl, rfl, rfl, rfl, rfl, rfl, rfl, rfl, rfl, rfl, rfl, trivial⟩ fun ρ0 => ?_
      refine cx_sound _ _ _ _ _ ?_
      refine AW.cut lo0 s14 [(0, vS p t.length), (1, vI k), (2, vS pm ms.length), (6, vB false), (7, vI r2), (8, vS qw t.length), (9, vS qx t.length), (10, vS qm ms.length), (11, vS qg t.length), (12, vI (1 + (cntT ux : Int) + 2 * (ms.length : Int))), (13, vI (1 + (cntT ug : Int))), (14, vI (1)), (15, vS qh t.length), (20, vB false), (25, vB false), (43, vB false), (48, vB false), (53, vB false), (67, vB false), (75, vB false), (78, vB false), (88, vB false)] ⟨rfl, rfl, rfl, rfl, rfl, rfl, rfl, rfl, rfl, rfl, rfl, rfl, rfl, rfl, rfl, rfl, rfl, rfl, rfl, rfl, rfl, rfl, trivial⟩ fun ρ0 => ?_
      refine ⟨_, rfl, (hh2).mono ?_⟩
      rintro _ s14 ⟨rfl, rfl⟩
      refine AW.cut lo0 s14 [(0, vS p t.length), (1, vI k), (2, vS pm ms.length), (6, vB false), (7, vI r2), (8, vS qw t.length), (9, vS qx t.length), (10, vS qm ms.length), (11, vS qg t.length), (12, vI (1 + (cntT ux : Int) + 2 * (ms.length : Int))), (13, vI (1 + (cntT ug : Int))), (14, vI (1 + (cntT ug : Int))), (15, vS qh t.length), (20, vB false), (25, vB false), (43, vB false), (48, vB false), (53, vB false), (67, vB false), (75, vB false), (78, vB false), (88, vB false)] ⟨rfl, rfl, rfl, rfl, rfl, rfl, rfl, rfl, rfl, rfl, rfl, rfl, rfl, rfl, rfl, rfl, rfl, rfl, rfl, rfl, rfl, rfl, trivial⟩ fun ρ0 => ?_
      refine ⟨_, rfl, ?_⟩
      rintro (_|_) h6
      rotate_left
      · exact absurd (of_decide_eq_true h6) ((by omega))
      refine AW.cut lo0 s14 [(0, vS p t.length), (1, vI k), (2, vS pm ms.length), (6, vB false), (7, vI r2), (8, vS qw t.length), (9, vS qx t.length), (10, vS qm ms.length), (11, vS qg t.length), (12, vI (1 + (cntT ux : Int) + 2 * (ms.length : Int))), (13, vI (1 + (cntT ug : Int))), (14, vI (1 + (cntT ug : Int))), (15, vS qh t.length), (20, vB false), (25, vB false), (43, vB false), (48, vB false), (53, vB false), (67, vB false), (75, vB false), (78, vB false), (88, vB false), (93, vB false)] ⟨rfl, rfl, rfl, rfl, rfl, rfl, rfl, rfl, rfl, rfl, rfl, rfl, rfl, rfl, rfl, rfl, rfl, rfl, rfl, rfl, rfl, rfl, rfl, trivial⟩ fun ρ0 => ?_
      refine cx_sound _ _ _ _ _ ?_
      refine ⟨_, rfl, ?_⟩
      rintro (_|_) h7
      rotate_left
      · exact absurd (rfl) (bne_iff_ne.1 h7)
      refine AW.cut lo0 s14 [(0, vS p t.length), (1, vI k), (2, vS pm ms.length), (6, vB false), (7, vI r2), (8, vS qw t.length), (9, vS qx t.length), (10, vS qm ms.length), (11, vS qg t.length), (12, vI (1 + (cntT ux : Int) + 2 * (ms.length : Int))), (13, vI (1 + (cntT ug : Int))), (14, vI (1 + (cntT ug : Int))), (15, vS qh t.length), (20, vB false), (25, vB false), (43, vB false), (48, vB false), (53, vB false), (67, vB false), (75, vB false), (78, vB false), (88, vB false), (93, vB false), (96, vB false)] ⟨rfl, rfl, rfl, rfl, rfl, rfl, rfl, rfl, rfl, rfl, rfl, rfl, rfl, rfl, rfl, rfl, rfl, rfl, rfl, rfl, rfl, rfl, rfl, rfl, trivial⟩ fun ρ0 => ?_
      refine cx_sound _ _ _ _ _ ?_
      refine cx_sound _ _ _ _ _ ?_
      exact ⟨.inl rfl, _, rfl, rfl⟩
    · replace h2 : r2 < 0 := of_decide_eq_true h2
      refine AW.cut lo0 st [(0, vS p t.length), (1, vI k), (2, vS pm ms.length), (6, vB false), (7, vI r2), (20, vB false), (25, vB true)] ⟨rfl, rfl, rfl, rfl, rfl, rfl, rfl, trivial⟩ fun ρ0 => ?_
      refine cx_sound _ _ _ _ _ ?_
      exact ⟨.inl rfl, _, rfl, rfl⟩
  · replace h1 : r < 0 := of_decide_eq_true h1
    refine AW.cut lo0 st [(0, vS p t.length), (1, vI k), (2, vS pm ms.length), (6, vB false), (7, vI r), (20, vB true)] ⟨rfl, rfl, rfl, rfl, rfl, rfl, trivial⟩ fun ρ0 => ?_
    refine cx_sound _ _ _ _ _ ?_
    exact ⟨.inl rfl, _, rfl, rfl⟩
end Go.Proofs.Ytopakkndacbbpaa.AM
