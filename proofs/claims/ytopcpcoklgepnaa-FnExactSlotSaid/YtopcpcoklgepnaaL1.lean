/- The law of the logs' number on the abstract machine. -/
import Derived.Test.YtopcpcoklgepnaaD3
namespace Go.Proofs.Ytopcpcoklgepnaa.AM
open Go Go.Proofs
set_option linter.unusedVariables false
set_option linter.unusedSimpArgs false
set_option maxRecDepth 100000
set_option maxHeartbeats 4000000
open Classical in
noncomputable def logSeq (g : Lg) : Int := if logOk g then g.frm + (g.list.length : Int) else 0
theorem ac_spec_LogSeq (g : LV) (st : St) (hR : RdL st g.p g.l) (hb : bigL g.l) : C 15 [.agg #[vI g.cap, vI g.frm, vS g.p g.l.length]] st (fun v s => v = vI (logSeq g.x) ∧ s = st) := by
  refine AC.enterX (i := ⟨[1], [1, 6, 8], [0, 1, 2, 5]⟩) [] Try.func15 rfl rfl (by kernel_rfl) (by kernel_rfl) Try.ntmps15 (Nat.le_of_ble_eq_true rfl) rfl ?_
  refine ⟨_, rfl, ?_⟩
  refine AW.cutM (1) st [(1, vL 1 0 (0)), (2, vI (0))] [(1, 0, [vI g.cap, vI g.frm, vS g.p g.l.length])] ⟨rfl, rfl, trivial⟩ ⟨rfl, trivial⟩ rfl fun ρ0 ff => ?_
  refine ⟨_, rfl, ?_⟩
  refine ⟨_, rfl, (ac_spec_LogOk g st hR hb).mono ?_⟩
  rintro _ st ⟨a, rfl, hk, rfl⟩
  rcases a with _|_
  · replace hk := fun k => Bool.false_ne_true (hk.2 k)
    refine ⟨_, rfl, ?_⟩
    refine AW.cutM (1) st [(1, vL 1 0 (0)), (2, vI (0)), (5, vB true)] [(1, 0, [vI g.cap, vI g.frm, vS g.p g.l.length])] ⟨rfl, rfl, rfl, trivial⟩ ⟨rfl, trivial⟩ rfl fun ρ0 ff => ?_
    refine cx_sound _ _ _ _ _ ?_
    exact ⟨.inl rfl, _, rfl, congrArg vI (by rw [logSeq, if_neg hk]), rfl⟩
  · replace hk := hk.1 rfl
    refine ⟨_, rfl, ?_⟩
    refine AW.cutM (1) st [(1, vL 1 0 (0)), (2, vI (0)), (5, vB false)] [(1, 0, [vI g.cap, vI g.frm, vS g.p g.l.length])] ⟨rfl, rfl, rfl, trivial⟩ ⟨rfl, trivial⟩ rfl fun ρ0 ff => ?_
    refine cx_sound _ _ _ _ _ ?_
    iterate 5 refine ⟨_, rfl, ?_⟩
    have hgl : g.x.list.length = g.l.length := List.length_map _
    have hk2 : (g.l.length : Int) ≤ g.cap := by have h := hk.2.1; rw [hgl] at h; exact h
    have hk3 : 0 ≤ g.frm ∧ g.frm ≤ 100000 := hk.2.2.1
    have hk4 : 1 ≤ g.cap ∧ g.cap ≤ 8 := hk.1
    have e11 : IntKind.wrap .i64 (g.frm + (g.l.length : Int)) = g.frm + (g.l.length : Int) := wrap_i64 (by omega) (by omega)
    refine ⟨_, rfl, ?_⟩
    refine cx_sound _ _ _ _ _ ?_
    exact ⟨.inl rfl, _, rfl, (show vI (IntKind.wrap .i64 (g.frm + (g.l.length : Int))) = _ by rw [e11, logSeq, if_pos hk, hgl]), rfl⟩
theorem ac_impl_LogSeq (g : LV) (st : St) (hR : RdL st g.p g.l) (hb : bigL g.l) : C 17 [.agg #[vI g.cap, vI g.frm, vS g.p g.l.length]] st (fun v s => v = vI (logSeq g.x) ∧ s = st) := by
  refine AC.enterX (i := ⟨[1], [1, 6, 8], [0, 1, 2, 5]⟩) [] Try.func17 rfl rfl (by kernel_rfl) (by kernel_rfl) Try.ntmps17 (Nat.le_of_ble_eq_true rfl) rfl ?_
  refine ⟨_, rfl, ?_⟩
  refine AW.cutM (1) st [(1, vL 1 0 (0)), (2, vI (0))] [(1, 0, [vI g.cap, vI g.frm, vS g.p g.l.length])] ⟨rfl, rfl, trivial⟩ ⟨rfl, trivial⟩ rfl fun ρ0 ff => ?_
  refine ⟨_, rfl, ?_⟩
  refine ⟨_, rfl, (ac_impl_LogOk g st hR hb).mono ?_⟩
  rintro _ st ⟨a, rfl, hk, rfl⟩
  rcases a with _|_
  · replace hk := fun k => Bool.false_ne_true (hk.2 k)
    refine ⟨_, rfl, ?_⟩
    refine AW.cutM (1) st [(1, vL 1 0 (0)), (2, vI (0)), (5, vB true)] [(1, 0, [vI g.cap, vI g.frm, vS g.p g.l.length])] ⟨rfl, rfl, rfl, trivial⟩ ⟨rfl, trivial⟩ rfl fun ρ0 ff => ?_
    refine cx_sound _ _ _ _ _ ?_
    exact ⟨.inl rfl, _, rfl, congrArg vI (by rw [logSeq, if_neg hk]), rfl⟩
  · replace hk := hk.1 rfl
    refine ⟨_, rfl, ?_⟩
    refine AW.cutM (1) st [(1, vL 1 0 (0)), (2, vI (0)), (5, vB false)] [(1, 0, [vI g.cap, vI g.frm, vS g.p g.l.length])] ⟨rfl, rfl, rfl, trivial⟩ ⟨rfl, trivial⟩ rfl fun ρ0 ff => ?_
    refine cx_sound _ _ _ _ _ ?_
    iterate 5 refine ⟨_, rfl, ?_⟩
    have hgl : g.x.list.length = g.l.length := List.length_map _
    have hk2 : (g.l.length : Int) ≤ g.cap := by have h := hk.2.1; rw [hgl] at h; exact h
    have hk3 : 0 ≤ g.frm ∧ g.frm ≤ 100000 := hk.2.2.1
    have hk4 : 1 ≤ g.cap ∧ g.cap ≤ 8 := hk.1
    have e11 : IntKind.wrap .i64 (g.frm + (g.l.length : Int)) = g.frm + (g.l.length : Int) := wrap_i64 (by omega) (by omega)
    refine ⟨_, rfl, ?_⟩
    refine cx_sound _ _ _ _ _ ?_
    exact ⟨.inl rfl, _, rfl, (show vI (IntKind.wrap .i64 (g.frm + (g.l.length : Int))) = _ by rw [e11, logSeq, if_pos hk, hgl]), rfl⟩
theorem ac_laws_FnExactLogSeq (g : LV) (st : St) (hR : RdL st g.p g.l ∧ maxL g.l) : C 3 [.agg #[vI g.cap, vI g.frm, vS g.p g.l.length]] st (fun v s => v = vB true) := by
  refine AC.enterX (i := ⟨[1, 5], [1, 5], [0, 1, 2, 3, 4, 5, 6, 11, 21, 26]⟩) [(10, [2], [0])] Try.func3 rfl rfl (by kernel_rfl) (by kernel_rfl) Try.ntmps3 (Nat.le_of_ble_eq_true rfl) rfl ?_
  refine ⟨_, rfl, ?_⟩
  refine cx_sound _ _ _ _ _ ?_
  refine AW.cutM (1) st [(1, vL 1 0 (0)), (2, vB false), (3, vI (1048576))] [(1, 0, [vI g.cap, vI g.frm, vS g.p g.l.length])] ⟨rfl, rfl, rfl, trivial⟩ ⟨rfl, trivial⟩ rfl fun ρ0 ff => ?_
  refine ⟨_, rfl, ?_⟩
  refine ⟨_, rfl, (ac_laws_szLog g 1048576 st hR.1 (by decide) (by decide) hR.2).mono ?_⟩
  rintro _ st ⟨r, rfl, hr, hz, rfl⟩
  refine AW.cutM (1) st [(1, vL 1 0 (0)), (2, vB false), (3, vI r)] [(1, 0, [vI g.cap, vI g.frm, vS g.p g.l.length])] ⟨rfl, rfl, rfl, trivial⟩ ⟨rfl, trivial⟩ rfl fun ρ0 ff => ?_
  refine ⟨_, rfl, ?_⟩
  rintro (_|_) h1
  · replace h1 : ¬ (r < 0) := of_decide_eq_false h1
    refine AW.cutM (1) st [(1, vL 1 0 (0)), (2, vB false), (11, vB false)] [(1, 0, [vI g.cap, vI g.frm, vS g.p g.l.length])] ⟨rfl, rfl, rfl, trivial⟩ ⟨rfl, trivial⟩ rfl fun ρ0 ff => ?_
    have hb := sz_bigL (l := g.l) (by have := hz (Int.not_lt.1 h1); omega)
    refine cx_sound _ _ _ _ _ ?_
    refine ⟨_, rfl, ?_⟩
    refine ⟨_, rfl, (ac_laws_toLog g st hR.1 hb).mono ?_⟩
    rintro _ s1 ⟨u1, rfl, hu1, hO1, hN1, hP1⟩
    refine ⟨_, rfl, (ac_spec_LogSeq u1 s1 hO1.rdL (bigL_of (congrArg Lg.list hu1) hb)).mono ?_⟩
    rintro _ s1 ⟨rfl, rfl⟩
    refine AW.cutM (1) s1 [(1, vL 1 0 (0)), (2, vB false), (4, vI (logSeq u1.x))] [(1, 0, [vI g.cap, vI g.frm, vS g.p g.l.length])] ⟨rfl, rfl, rfl, trivial⟩ ⟨rfl, trivial⟩ rfl fun ρ0 ff => ?_
    refine ⟨_, rfl, ?_⟩
    refine ⟨_, rfl, (ac_laws_toLog g s1 (hR.1.pres hP1) hb).mono ?_⟩
    rintro _ s2 ⟨u2, rfl, hu2, hO2, hN2, hP2⟩
    iterate 2 refine ⟨_, rfl, ?_⟩
    refine AW.cutM (2) s2 [(1, vL 1 0 (0)), (2, vB false), (4, vI (logSeq u1.x)), (5, vL 5 0 (1))] [(1, 0, [vI g.cap, vI g.frm, vS g.p g.l.length]), (5, 1, [vI u2.cap, vI u2.frm, vS u2.p u2.l.length])] ⟨rfl, rfl, rfl, rfl, trivial⟩ ⟨rfl, rfl, trivial⟩ rfl fun ρ0 ff => ?_
    refine ⟨_, rfl, ?_⟩
    refine ⟨_, rfl, (ac_impl_LogSeq u2 s2 hO2.rdL (bigL_of (congrArg Lg.list hu2) hb)).mono ?_⟩
    rintro _ s2 ⟨rfl, rfl⟩
    refine AW.cutM (2) s2 [(1, vL 1 0 (0)), (2, vB false), (4, vI (logSeq u1.x)), (5, vL 5 0 (1)), (6, vI (logSeq u2.x))] [(1, 0, [vI g.cap, vI g.frm, vS g.p g.l.length]), (5, 1, [vI u2.cap, vI u2.frm, vS u2.p u2.l.length])] ⟨rfl, rfl, rfl, rfl, rfl, trivial⟩ ⟨rfl, rfl, trivial⟩ rfl fun ρ0 ff => ?_
    refine ⟨_, rfl, ?_⟩
    rintro (_|_) h4
    rotate_left
    · exact absurd ((by rw [hu2, hu1])) (bne_iff_ne.1 h4)
    refine AW.cutM (2) s2 [(1, vL 1 0 (0)), (2, vB false), (5, vL 5 0 (1)), (21, vB false)] [(1, 0, [vI g.cap, vI g.frm, vS g.p g.l.length]), (5, 1, [vI u2.cap, vI u2.frm, vS u2.p u2.l.length])] ⟨rfl, rfl, rfl, rfl, trivial⟩ ⟨rfl, rfl, trivial⟩ rfl fun ρ0 ff => ?_
    refine cx_sound _ _ _ _ _ ?_
    refine ⟨_, rfl, ?_⟩
    refine ⟨ld_own rfl rfl rfl, ?_⟩
    refine ⟨_, rfl, ?_⟩
    refine ⟨_, rfl, (ac_laws_toLog g s2 (hR.1.pres (hP1.trans hP2)) hb).mono ?_⟩
    rintro _ s3 ⟨u3, rfl, hu3, hO3, hN3, hP3⟩
    refine ⟨hP3.2, ?_⟩
    refine ⟨_, rfl, (AC.tru (ac_laws_eqLog u2 u3 s3 (hO2.rdL.pres hP3) hO3.rdL (bigL_of (congrArg Lg.list hu2) hb)) (hu2.trans hu3.symm)).mono ?_⟩
    rintro _ s3 ⟨rfl, rfl⟩
    refine ⟨_, rfl, ?_⟩
    refine AW.cutM (2) s3 [(2, vB false), (26, vB false)] [] ⟨rfl, rfl, trivial⟩ trivial rfl fun ρ0 ff => ?_
    refine cx_sound _ _ _ _ _ ?_
    refine cx_sound _ _ _ _ _ ?_
    exact ⟨.inl rfl, _, rfl, rfl⟩
  · replace h1 : r < 0 := of_decide_eq_true h1
    refine AW.cutM (1) st [(1, vL 1 0 (0)), (2, vB false), (11, vB true)] [(1, 0, [vI g.cap, vI g.frm, vS g.p g.l.length])] ⟨rfl, rfl, rfl, trivial⟩ ⟨rfl, trivial⟩ rfl fun ρ0 ff => ?_
    refine cx_sound _ _ _ _ _ ?_
    exact ⟨.inl rfl, _, rfl, rfl⟩
end Go.Proofs.Ytopcpcoklgepnaa.AM
