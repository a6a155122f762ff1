/- The law of what was logged since a number, on the abstract machine. -/
import Derived.Test.YtopcpcoklgepnaaN1
import Derived.Test.YtopcpcoklgepnaaU1
import Derived.Test.YtopcpcoklgepnaaD3
namespace Go.Proofs.Ytopcpcoklgepnaa.AM
open Go Go.Proofs
set_option linter.unusedVariables false
set_option linter.unusedSimpArgs false
set_option maxRecDepth 100000
set_option maxHeartbeats 4000000
theorem big_since {g : Lg} {n : Int} {x : Sta} {b : Bool} (h : (x, b) = sinceF g n) (hb : bigLog g) : bigS x := by
  have h1 : x = (sinceF g n).1 := congrArg Prod.fst h
  rw [h1, sinceF]
  split
  · exact bigS_joinL fun s hs => hb.2 s (List.mem_of_mem_drop hs)
  · exact bigS_nil
theorem ac_laws_FnExactLogSince (g : LV) (n : Int) (st : St) (hR_g : RdL st g.p g.l ∧ maxL g.l) (hw_n : (Lit.int .i64 n).wf = true) : C 12 [.agg #[vI g.cap, vI g.frm, vS g.p g.l.length], vI n] st (fun v s => v = vB true) := by
  refine AC.enterX (i := ⟨[2, 6, 8, 9, 14], [2, 6, 8, 9, 14], [0, 1, 2, 4, 5, 6, 7, 8, 9, 10, 11, 12, 13, 14, 15, 20, 44, 49, 65, 73, 76, 92, 97, 100]⟩) [(10, [2], [0])] Try.func12 rfl rfl (by kernel_rfl) (by kernel_rfl) Try.ntmps12 (Nat.le_of_ble_eq_true rfl) rfl ?_
  refine ⟨_, rfl, ?_⟩
  refine cx_sound _ _ _ _ _ ?_
  refine AW.cutM (1) st [(1, vI n), (2, vL 2 0 (0)), (4, vB false), (5, vI (1048576))] [(2, 0, [vI g.cap, vI g.frm, vS g.p g.l.length])] ⟨rfl, rfl, rfl, rfl, trivial⟩ ⟨rfl, trivial⟩ rfl fun ρ0 ff => ?_
  refine ⟨_, rfl, ?_⟩
  refine ⟨_, rfl, (ac_laws_szLog g 1048576 st hR_g.1 (by decide) (by decide) hR_g.2).mono ?_⟩
  rintro _ st ⟨z_g, rfl, hr_g, hz_g, rfl⟩
  refine AW.cutM (1) st [(1, vI n), (2, vL 2 0 (0)), (4, vB false), (5, vI z_g)] [(2, 0, [vI g.cap, vI g.frm, vS g.p g.l.length])] ⟨rfl, rfl, rfl, rfl, trivial⟩ ⟨rfl, trivial⟩ rfl fun ρ0 ff => ?_
  refine ⟨_, rfl, ?_⟩
  rintro (_|_) hn_g
  · replace hn_g : ¬ (z_g < 0) := of_decide_eq_false hn_g
    refine AW.cutM (1) st [(1, vI n), (2, vL 2 0 (0)), (4, vB false), (20, vB false)] [(2, 0, [vI g.cap, vI g.frm, vS g.p g.l.length])] ⟨rfl, rfl, rfl, rfl, trivial⟩ ⟨rfl, trivial⟩ rfl fun ρ0 ff => ?_
    have hz_g' := hz_g (by omega)
    have hb_g := bigLog_iff.2 (sz_bigL (l := g.l) (by omega))
    have hc_g : cntLog g.x ≤ 8388608 := (show cntLog g.x ≤ 8388608 by have h1 := cntLog_l g; have h2 := cntL_le g.l; omega)
    refine cx_sound _ _ _ _ _ ?_
    refine ⟨_, rfl, ?_⟩
    refine ⟨_, rfl, (uc_toLog g st hR_g.1 hb_g).mono ?_⟩
    rintro _ s1 ⟨u1, rfl, hu1, hO1, hN1, hP1⟩
    refine ⟨_, rfl, (ac_spec_LogSince u1.v n s1 (OwnP.rdLog (OwnP.left (OwnP.joinF OwnP.nil hP1 hO1 hN1))) (bigLog_iff.1 (hu1 ▸ hb_g))).mono ?_⟩
    rintro _ s2 ⟨r2, b2, rfl, hr2, hO2, hN2, hP2⟩
    iterate 4 refine ⟨_, rfl, ?_⟩
    refine AW.cutM (2) s2 [(1, vI n), (2, vL 2 0 (0)), (4, vB false), (6, vL 6 0 (1)), (7, vB b2)] [(2, 0, [vI g.cap, vI g.frm, vS g.p g.l.length]), (6, 1, [vS r2.p r2.x.items.length, vS r2.q r2.x.floors.length])] ⟨rfl, rfl, rfl, rfl, rfl, trivial⟩ ⟨rfl, rfl, trivial⟩ rfl fun ρ0 ff => ?_
    have hA5 : OwnP s2 (pcS r2 ++ (pcLog u1 ++ [])) := (OwnP.joinF (OwnP.joinF OwnP.nil hP1 hO1 hN1) hP2 hO2 hN2)
    have hQ5 : Pres st s2 := (hP1.trans hP2)
    refine ⟨_, rfl, ?_⟩
    refine ⟨_, rfl, (uc_toLog g s2 (hR_g.1.pres hQ5) hb_g).mono ?_⟩
    rintro _ s3 ⟨u3, rfl, hu3, hO3, hN3, hP3⟩
    iterate 2 refine ⟨_, rfl, ?_⟩
    refine AW.cutM (3) s3 [(1, vI n), (2, vL 2 0 (0)), (4, vB false), (6, vL 6 0 (1)), (7, vB b2), (8, vL 8 0 (2))] [(2, 0, [vI g.cap, vI g.frm, vS g.p g.l.length]), (6, 1, [vS r2.p r2.x.items.length, vS r2.q r2.x.floors.length]), (8, 2, [vI u3.cap, vI u3.frm, vS u3.p u3.l.length])] ⟨rfl, rfl, rfl, rfl, rfl, rfl, trivial⟩ ⟨rfl, rfl, rfl, trivial⟩ rfl fun ρ0 ff => ?_
    have hA6 : OwnP s3 (pcLog u3 ++ (pcS r2 ++ (pcLog u1 ++ []))) := (OwnP.joinF hA5 hP3 hO3 hN3)
    have hQ6 : Pres st s3 := (hQ5.trans hP3)
    refine ⟨_, rfl, ?_⟩
    refine ⟨_, rfl, (ac_impl_LogSince u3.v n s3 (OwnP.rdLog (OwnP.left hA6)) (bigLog_iff.1 (hu3 ▸ hb_g))).mono ?_⟩
    rintro _ s4 ⟨r4, b4, rfl, hr4, hO4, hN4, hP4⟩
    iterate 4 refine ⟨_, rfl, ?_⟩
    refine AW.cutM (4) s4 [(1, vI n), (2, vL 2 0 (0)), (4, vB false), (6, vL 6 0 (1)), (7, vB b2), (8, vL 8 0 (2)), (9, vL 9 0 (3)), (10, vB b4)] [(2, 0, [vI g.cap, vI g.frm, vS g.p g.l.length]), (6, 1, [vS r2.p r2.x.items.length, vS r2.q r2.x.floors.length]), (8, 2, [vI u3.cap, vI u3.frm, vS u3.p u3.l.length]), (9, 3, [vS r4.p r4.x.items.length, vS r4.q r4.x.floors.length])] ⟨rfl, rfl, rfl, rfl, rfl, rfl, rfl, rfl, trivial⟩ ⟨rfl, rfl, rfl, rfl, trivial⟩ rfl fun ρ0 ff => ?_
    have hA7 : OwnP s4 (pcS r4 ++ (pcLog u3 ++ (pcS r2 ++ (pcLog u1 ++ [])))) := (OwnP.joinF hA6 hP4 hO4 hN4)
    have hQ7 : Pres st s4 := (hQ6.trans hP4)
    have hE1 : (r4.x, b4) = (r2.x, b2) := by rw [hr4, hr2, hu3, hu1]
    iterate 2 refine ⟨_, rfl, ?_⟩
    refine ⟨_, rfl, (AC.tru (ac_laws_eqState r4 r2 s4 (OwnP.rdS (OwnP.left hA7)) (OwnP.rdS (OwnP.left (OwnP.right (OwnP.right hA7)))) (big_since hr4 (hu3 ▸ hb_g))) (Prod.mk.inj hE1).1).mono ?_⟩
    rintro _ s4 ⟨rfl, rfl⟩
    iterate 2 refine ⟨_, rfl, ?_⟩
    rintro (_|_) he5
    rotate_left
    · exact absurd ((Prod.mk.inj hE1).2) (b_ne he5)
    refine ⟨_, rfl, ?_⟩
    refine AW.cutM (4) s4 [(1, vI n), (2, vL 2 0 (0)), (4, vB false), (6, vL 6 0 (1)), (7, vB b2), (8, vL 8 0 (2)), (9, vL 9 0 (3)), (10, vB b4), (44, vB false)] [(2, 0, [vI g.cap, vI g.frm, vS g.p g.l.length]), (6, 1, [vS r2.p r2.x.items.length, vS r2.q r2.x.floors.length]), (8, 2, [vI u3.cap, vI u3.frm, vS u3.p u3.l.length]), (9, 3, [vS r4.p r4.x.items.length, vS r4.q r4.x.floors.length])] ⟨rfl, rfl, rfl, rfl, rfl, rfl, rfl, rfl, rfl, trivial⟩ ⟨rfl, rfl, rfl, rfl, trivial⟩ rfl fun ρ0 ff => ?_
    refine cx_sound _ _ _ _ _ ?_
    refine ⟨_, rfl, ?_⟩
    refine ⟨ld_own rfl rfl rfl, ?_⟩
    refine ⟨_, rfl, ?_⟩
    refine ⟨_, rfl, (uc_toLog g s4 (hR_g.1.pres hQ7) hb_g).mono ?_⟩
    rintro _ s6 ⟨u6, rfl, hu6, hO6, hN6, hP6⟩
    refine ⟨hP6.2, ?_⟩
    refine ⟨_, rfl, (AC.tru (uc_eqLog u3 u6 s6 (OwnP.rdLog (OwnP.left (OwnP.right (OwnP.right (OwnP.joinF hA7 hP6 hO6 hN6))))) (OwnP.rdLog (OwnP.left (OwnP.joinF hA7 hP6 hO6 hN6))) (hu3 ▸ hb_g)) (hu3.trans hu6.symm)).mono ?_⟩
    rintro _ s6 ⟨rfl, rfl⟩
    refine ⟨_, rfl, ?_⟩
    refine AW.cutM (4) s6 [(1, vI n), (2, vL 2 0 (0)), (4, vB false), (6, vL 6 0 (1)), (7, vB b2), (8, vL 8 0 (2)), (9, vL 9 0 (3)), (10, vB b4), (49, vB false)] [(2, 0, [vI g.cap, vI g.frm, vS g.p g.l.length]), (6, 1, [vS r2.p r2.x.items.length, vS r2.q r2.x.floors.length]), (8, 2, [vI u3.cap, vI u3.frm, vS u3.p u3.l.length]), (9, 3, [vS r4.p r4.x.items.length, vS r4.q r4.x.floors.length])] ⟨rfl, rfl, rfl, rfl, rfl, rfl, rfl, rfl, rfl, trivial⟩ ⟨rfl, rfl, rfl, rfl, trivial⟩ rfl fun ρ0 ff => ?_
    have hA10 : OwnP s6 (pcLog u6 ++ (pcS r4 ++ (pcLog u3 ++ (pcS r2 ++ (pcLog u1 ++ []))))) := (OwnP.joinF hA7 hP6 hO6 hN6)
    have hQ10 : Pres st s6 := (hQ7.trans hP6)
    refine cx_sound _ _ _ _ _ ?_
    refine AW.cutM (4) s6 [(1, vI n), (2, vL 2 0 (0)), (4, vB false), (6, vL 6 0 (1)), (7, vB b2), (8, vL 8 0 (2)), (9, vL 9 0 (3)), (10, vB b4), (11, vI (1))] [(2, 0, [vI g.cap, vI g.frm, vS g.p g.l.length]), (6, 1, [vS r2.p r2.x.items.length, vS r2.q r2.x.floors.length]), (8, 2, [vI u3.cap, vI u3.frm, vS u3.p u3.l.length]), (9, 3, [vS r4.p r4.x.items.length, vS r4.q r4.x.floors.length])] ⟨rfl, rfl, rfl, rfl, rfl, rfl, rfl, rfl, rfl, trivial⟩ ⟨rfl, rfl, rfl, rfl, trivial⟩ rfl fun ρ0 ff => ?_
    refine ⟨_, rfl, ?_⟩
    have hM7 := (OwnP.front2 hA10)
    have hNw7 := newPs (hN3.le ((hP1.trans hP2)).1)
    have hcm7 : cntLog u3.v.x ≤ 8388608 := by rw [hu3]; exact hc_g
    refine ⟨_, rfl, (uc_markLog u3 1 s6 (OwnP.left hM7) (hu3 ▸ hb_g) (by omega) (by omega)).mono ?_⟩
    rintro _ s7 ⟨rfl, hO7, hL7⟩
    refine AW.cutM (4) s7 [(1, vI n), (2, vL 2 0 (0)), (4, vB false), (6, vL 6 0 (1)), (7, vB b2), (9, vL 9 0 (3)), (10, vB b4), (11, vI (1 + (cntLog u3.v.x : Int)))] [(2, 0, [vI g.cap, vI g.frm, vS g.p g.l.length]), (6, 1, [vS r2.p r2.x.items.length, vS r2.q r2.x.floors.length]), (9, 3, [vS r4.p r4.x.items.length, vS r4.q r4.x.floors.length])] ⟨rfl, rfl, rfl, rfl, rfl, rfl, rfl, rfl, trivial⟩ ⟨rfl, rfl, rfl, trivial⟩ rfl fun ρ0 ff => ?_
    have hA13 : OwnP s7 (pcLog (mkLog u3 1) ++ _) := OwnP.markG hM7 hO7 (mkp_Log _ _) hL7
    have hQ13 : Pres st s7 := hL7.pres hQ10 hNw7
    refine ⟨_, rfl, ?_⟩
    rintro (_|_) hg8
    rotate_left
    · exact absurd (of_decide_eq_true hg8) ((by omega))
    iterate 2 refine ⟨_, rfl, ?_⟩
    refine ⟨_, rfl, (AC.tru (ac_laws_eqState r4 r2 s7 (OwnP.rdS (OwnP.left (OwnP.right (OwnP.right hA13)))) (OwnP.rdS (OwnP.left (OwnP.right (OwnP.right (OwnP.right hA13))))) (big_since hr4 (hu3 ▸ hb_g))) (Prod.mk.inj hE1).1).mono ?_⟩
    rintro _ s7 ⟨rfl, rfl⟩
    iterate 3 refine ⟨_, rfl, ?_⟩
    rintro (_|_) he9
    rotate_left
    · exact absurd ((Prod.mk.inj hE1).2) (b_ne he9)
    refine ⟨_, rfl, ?_⟩
    refine AW.cutM (4) s7 [(1, vI n), (2, vL 2 0 (0)), (4, vB false), (6, vL 6 0 (1)), (7, vB b2), (9, vL 9 0 (3)), (65, vB false)] [(2, 0, [vI g.cap, vI g.frm, vS g.p g.l.length]), (6, 1, [vS r2.p r2.x.items.length, vS r2.q r2.x.floors.length]), (9, 3, [vS r4.p r4.x.items.length, vS r4.q r4.x.floors.length])] ⟨rfl, rfl, rfl, rfl, rfl, rfl, rfl, trivial⟩ ⟨rfl, rfl, rfl, trivial⟩ rfl fun ρ0 ff => ?_
    refine cx_sound _ _ _ _ _ ?_
    refine AW.cutM (4) s7 [(1, vI n), (2, vL 2 0 (0)), (4, vB false), (6, vL 6 0 (1)), (7, vB b2), (9, vL 9 0 (3)), (12, vI (1))] [(2, 0, [vI g.cap, vI g.frm, vS g.p g.l.length]), (6, 1, [vS r2.p r2.x.items.length, vS r2.q r2.x.floors.length]), (9, 3, [vS r4.p r4.x.items.length, vS r4.q r4.x.floors.length])] ⟨rfl, rfl, rfl, rfl, rfl, rfl, rfl, trivial⟩ ⟨rfl, rfl, rfl, trivial⟩ rfl fun ρ0 ff => ?_
    refine ⟨_, rfl, ?_⟩
    have hM10 := (OwnP.front2 hA13)
    have hNw10 := newPs (hN4.le (((hP1.trans hP2).trans hP3)).1)
    have hcm10 : cntState r4.x ≤ 8388608 := cnt_State (big_since hr4 (hu3 ▸ hb_g))
    refine ⟨_, rfl, (uc_markState r4 1 s7 (OwnP.left hM10) (big_since hr4 (hu3 ▸ hb_g)) (by omega) (by omega)).mono ?_⟩
    rintro _ s10 ⟨rfl, hO10, hL10⟩
    refine cx_sound _ _ _ _ _ ?_
    have hA17 : OwnP s10 (pcS (mkState r4 1) ++ _) := OwnP.markG hM10 hO10 (mkp_State _ _) hL10
    have hQ17 : Pres st s10 := hL10.pres hQ13 hNw10
    refine AW.cutM (4) s10 [(1, vI n), (2, vL 2 0 (0)), (4, vB false), (6, vL 6 0 (1)), (7, vB b2), (9, vL 9 0 (3)), (12, vI (1 + (cntState r4.x : Int))), (13, vI (1))] [(2, 0, [vI g.cap, vI g.frm, vS g.p g.l.length]), (6, 1, [vS r2.p r2.x.items.length, vS r2.q r2.x.floors.length]), (9, 3, [vS r4.p r4.x.items.length, vS r4.q r4.x.floors.length])] ⟨rfl, rfl, rfl, rfl, rfl, rfl, rfl, rfl, trivial⟩ ⟨rfl, rfl, rfl, trivial⟩ rfl fun ρ0 ff => ?_
    refine ⟨_, rfl, ?_⟩
    refine ⟨_, rfl, (uc_heldState r4 1 s10 (OwnP.rdS (OwnP.left hA17)) (big_since hr4 (hu3 ▸ hb_g)) (by decide) (by omega)).mono ?_⟩
    rintro _ s11 ⟨rfl, hP11⟩
    refine AW.cutM (4) s11 [(1, vI n), (2, vL 2 0 (0)), (4, vB false), (6, vL 6 0 (1)), (7, vB b2), (9, vL 9 0 (3)), (12, vI (1 + (cntState r4.x : Int))), (13, vI (1 + (cntState r4.x : Int)))] [(2, 0, [vI g.cap, vI g.frm, vS g.p g.l.length]), (6, 1, [vS r2.p r2.x.items.length, vS r2.q r2.x.floors.length]), (9, 3, [vS r4.p r4.x.items.length, vS r4.q r4.x.floors.length])] ⟨rfl, rfl, rfl, rfl, rfl, rfl, rfl, rfl, trivial⟩ ⟨rfl, rfl, rfl, trivial⟩ rfl fun ρ0 ff => ?_
    have hA19 : OwnP s11 (pcS (mkState r4 1) ++ (pcLog (mkLog u3 1) ++ (pcLog u6 ++ (pcS r2 ++ (pcLog u1 ++ []))))) := (OwnP.pres hA17 hP11)
    have hQ19 : Pres st s11 := (hQ17.trans hP11)
    refine ⟨_, rfl, ?_⟩
    rintro (_|_) hg12
    rotate_left
    · exact absurd (of_decide_eq_true hg12) ((by omega))
    refine AW.cutM (4) s11 [(1, vI n), (2, vL 2 0 (0)), (4, vB false), (6, vL 6 0 (1)), (7, vB b2), (9, vL 9 0 (3)), (12, vI (1 + (cntState r4.x : Int))), (13, vI (1 + (cntState r4.x : Int))), (73, vB false)] [(2, 0, [vI g.cap, vI g.frm, vS g.p g.l.length]), (6, 1, [vS r2.p r2.x.items.length, vS r2.q r2.x.floors.length]), (9, 3, [vS r4.p r4.x.items.length, vS r4.q r4.x.floors.length])] ⟨rfl, rfl, rfl, rfl, rfl, rfl, rfl, rfl, rfl, trivial⟩ ⟨rfl, rfl, rfl, trivial⟩ rfl fun ρ0 ff => ?_
    refine cx_sound _ _ _ _ _ ?_
    refine ⟨_, rfl, ?_⟩
    rintro (_|_) hg13
    rotate_left
    · exact absurd (rfl) (bne_iff_ne.1 hg13)
    refine AW.cutM (4) s11 [(1, vI n), (2, vL 2 0 (0)), (4, vB false), (6, vL 6 0 (1)), (7, vB b2), (9, vL 9 0 (3)), (12, vI (1 + (cntState r4.x : Int))), (13, vI (1 + (cntState r4.x : Int))), (76, vB false)] [(2, 0, [vI g.cap, vI g.frm, vS g.p g.l.length]), (6, 1, [vS r2.p r2.x.items.length, vS r2.q r2.x.floors.length]), (9, 3, [vS r4.p r4.x.items.length, vS r4.q r4.x.floors.length])] ⟨rfl, rfl, rfl, rfl, rfl, rfl, rfl, rfl, rfl, trivial⟩ ⟨rfl, rfl, rfl, trivial⟩ rfl fun ρ0 ff => ?_
    refine cx_sound _ _ _ _ _ ?_
    refine ⟨_, rfl, ?_⟩
    refine ⟨_, rfl, (uc_toLog g s11 (hR_g.1.pres hQ19) hb_g).mono ?_⟩
    rintro _ s14 ⟨u14, rfl, hu14, hO14, hN14, hP14⟩
    refine ⟨_, rfl, (ac_impl_LogSince u14.v n s14 (OwnP.rdLog (OwnP.left (OwnP.joinF hA19 hP14 hO14 hN14))) (bigLog_iff.1 (hu14 ▸ hb_g))).mono ?_⟩
    rintro _ s15 ⟨r15, b15, rfl, hr15, hO15, hN15, hP15⟩
    iterate 4 refine ⟨_, rfl, ?_⟩
    refine AW.cutM (5) s15 [(4, vB false), (6, vL 6 0 (1)), (7, vB b2), (9, vL 9 0 (3)), (12, vI (1 + (cntState r4.x : Int))), (13, vI (1 + (cntState r4.x : Int))), (14, vL 14 0 (4)), (15, vB b15)] [(6, 1, [vS r2.p r2.x.items.length, vS r2.q r2.x.floors.length]), (9, 3, [vS r4.p r4.x.items.length, vS r4.q r4.x.floors.length]), (14, 4, [vS r15.p r15.x.items.length, vS r15.q r15.x.floors.length])] ⟨rfl, rfl, rfl, rfl, rfl, rfl, rfl, rfl, trivial⟩ ⟨rfl, rfl, rfl, trivial⟩ rfl fun ρ0 ff => ?_
    have hA24 : OwnP s15 (pcS r15 ++ (pcLog u14 ++ (pcS (mkState r4 1) ++ (pcLog (mkLog u3 1) ++ (pcLog u6 ++ (pcS r2 ++ (pcLog u1 ++ []))))))) := (OwnP.joinF (OwnP.joinF hA19 hP14 hO14 hN14) hP15 hO15 hN15)
    have hQ24 : Pres st s15 := ((hQ19.trans hP14).trans hP15)
    have hE2 : (r15.x, b15) = (r2.x, b2) := by rw [hr15, hr2, hu14, hu1]
    iterate 2 refine ⟨_, rfl, ?_⟩
    refine ⟨_, rfl, (AC.tru (ac_laws_eqState r15 r2 s15 (OwnP.rdS (OwnP.left hA24)) (OwnP.rdS (OwnP.left (OwnP.right (OwnP.right (OwnP.right (OwnP.right (OwnP.right hA24))))))) (big_since hr15 (hu14 ▸ hb_g))) (Prod.mk.inj hE2).1).mono ?_⟩
    rintro _ s15 ⟨rfl, rfl⟩
    iterate 2 refine ⟨_, rfl, ?_⟩
    rintro (_|_) he16
    rotate_left
    · exact absurd ((Prod.mk.inj hE2).2) (b_ne he16)
    refine ⟨_, rfl, ?_⟩
    refine AW.cutM (5) s15 [(4, vB false), (9, vL 9 0 (3)), (12, vI (1 + (cntState r4.x : Int))), (13, vI (1 + (cntState r4.x : Int))), (92, vB false)] [(9, 3, [vS r4.p r4.x.items.length, vS r4.q r4.x.floors.length])] ⟨rfl, rfl, rfl, rfl, rfl, trivial⟩ ⟨rfl, trivial⟩ rfl fun ρ0 ff => ?_
    refine cx_sound _ _ _ _ _ ?_
    refine AW.cutM (5) s15 [(4, vB false), (9, vL 9 0 (3)), (12, vI (1 + (cntState r4.x : Int))), (13, vI (1))] [(9, 3, [vS r4.p r4.x.items.length, vS r4.q r4.x.floors.length])] ⟨rfl, rfl, rfl, rfl, trivial⟩ ⟨rfl, trivial⟩ rfl fun ρ0 ff => ?_
    refine ⟨_, rfl, ?_⟩
    refine ⟨_, rfl, (uc_heldState r4 1 s15 (OwnP.rdS (OwnP.left (OwnP.right (OwnP.right hA24)))) (big_since hr4 (hu3 ▸ hb_g)) (by decide) (by omega)).mono ?_⟩
    rintro _ s17 ⟨rfl, hP17⟩
    refine AW.cutM (5) s17 [(4, vB false), (12, vI (1 + (cntState r4.x : Int))), (13, vI (1 + (cntState r4.x : Int)))] [] ⟨rfl, rfl, rfl, trivial⟩ trivial rfl fun ρ0 ff => ?_
    have hA28 : OwnP s17 (pcS r15 ++ (pcLog u14 ++ (pcS (mkState r4 1) ++ (pcLog (mkLog u3 1) ++ (pcLog u6 ++ (pcS r2 ++ (pcLog u1 ++ []))))))) := (OwnP.pres hA24 hP17)
    have hQ28 : Pres st s17 := (hQ24.trans hP17)
    refine ⟨_, rfl, ?_⟩
    rintro (_|_) hg18
    rotate_left
    · exact absurd (of_decide_eq_true hg18) ((by omega))
    refine AW.cutM (5) s17 [(4, vB false), (12, vI (1 + (cntState r4.x : Int))), (13, vI (1 + (cntState r4.x : Int))), (97, vB false)] [] ⟨rfl, rfl, rfl, rfl, trivial⟩ trivial rfl fun ρ0 ff => ?_
    refine cx_sound _ _ _ _ _ ?_
    refine ⟨_, rfl, ?_⟩
    rintro (_|_) hg19
    rotate_left
    · exact absurd (rfl) (bne_iff_ne.1 hg19)
    refine AW.cutM (5) s17 [(4, vB false), (100, vB false)] [] ⟨rfl, rfl, trivial⟩ trivial rfl fun ρ0 ff => ?_
    refine cx_sound _ _ _ _ _ ?_
    refine cx_sound _ _ _ _ _ ?_
    exact ⟨.inl rfl, _, rfl, rfl⟩
  · replace hn_g : z_g < 0 := of_decide_eq_true hn_g
    refine AW.cutM (1) st [(1, vI n), (2, vL 2 0 (0)), (4, vB false), (20, vB true)] [(2, 0, [vI g.cap, vI g.frm, vS g.p g.l.length])] ⟨rfl, rfl, rfl, rfl, trivial⟩ ⟨rfl, trivial⟩ rfl fun ρ0 ff => ?_
    refine cx_sound _ _ _ _ _ ?_
    exact ⟨.inl rfl, _, rfl, rfl⟩

end Go.Proofs.Ytopcpcoklgepnaa.AM
