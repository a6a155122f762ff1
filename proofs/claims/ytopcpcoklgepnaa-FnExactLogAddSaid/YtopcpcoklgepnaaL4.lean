/- The law of logs that are added to, on the abstract machine. -/
import Derived.Test.YtopcpcoklgepnaaL3
import Derived.Test.YtopcpcoklgepnaaN3
import Derived.Test.YtopcpcoklgepnaaN1
import Derived.Test.YtopcpcoklgepnaaU2
import Derived.Test.YtopcpcoklgepnaaD3
namespace Go.Proofs.Ytopcpcoklgepnaa.AM
open Go Go.Proofs
set_option linter.unusedVariables false
set_option linter.unusedSimpArgs false
set_option maxRecDepth 100000
set_option maxHeartbeats 4000000
theorem ac_laws_FnExactLogAdd (g : LV) (d : SV) (st : St) (hR_g : RdL st g.p g.l ∧ maxL g.l) (hR_d : RdS st d ∧ maxS d.x) : C 8 [.agg #[vI g.cap, vI g.frm, vS g.p g.l.length], .agg #[vS d.p d.x.items.length, vS d.q d.x.floors.length]] st (fun v s => v = vB true) := by
  refine AC.enterX (i := ⟨[2, 3, 6, 8, 9, 10, 15], [2, 3, 6, 8, 9, 10, 15], [0, 1, 2, 3, 4, 5, 6, 7, 8, 9, 10, 11, 12, 13, 14, 15, 16, 21, 26, 53, 58, 63, 82, 90, 93, 110, 115, 118]⟩) [(8, [1], [0, 2]), (14, [2], [0]), (16, [2], [0]), (31, [1], [0, 2])] Try.func8 rfl rfl (by kernel_rfl) (by kernel_rfl) Try.ntmps8 (Nat.le_of_ble_eq_true rfl) rfl ?_
  iterate 2 refine ⟨_, rfl, ?_⟩
  refine cx_sound _ _ _ _ _ ?_
  refine AW.cutM (2) st [(2, vL 2 0 (0)), (3, vL 3 0 (1)), (4, vB false), (5, vI (1048576))] [(2, 0, [vI g.cap, vI g.frm, vS g.p g.l.length]), (3, 1, [vS d.p d.x.items.length, vS d.q d.x.floors.length])] ⟨rfl, rfl, rfl, rfl, trivial⟩ ⟨rfl, rfl, trivial⟩ rfl fun ρ0 ff => ?_
  refine ⟨_, rfl, ?_⟩
  refine ⟨_, rfl, (ac_laws_szLog g 1048576 st hR_g.1 (by decide) (by decide) hR_g.2).mono ?_⟩
  rintro _ st ⟨z_g, rfl, hr_g, hz_g, rfl⟩
  refine AW.cutM (2) st [(2, vL 2 0 (0)), (3, vL 3 0 (1)), (4, vB false), (5, vI z_g)] [(2, 0, [vI g.cap, vI g.frm, vS g.p g.l.length]), (3, 1, [vS d.p d.x.items.length, vS d.q d.x.floors.length])] ⟨rfl, rfl, rfl, rfl, trivial⟩ ⟨rfl, rfl, trivial⟩ rfl fun ρ0 ff => ?_
  refine ⟨_, rfl, ?_⟩
  rintro (_|_) hn_g
  · replace hn_g : ¬ (z_g < 0) := of_decide_eq_false hn_g
    refine AW.cutM (2) st [(2, vL 2 0 (0)), (3, vL 3 0 (1)), (4, vB false), (5, vI z_g), (21, vB false)] [(2, 0, [vI g.cap, vI g.frm, vS g.p g.l.length]), (3, 1, [vS d.p d.x.items.length, vS d.q d.x.floors.length])] ⟨rfl, rfl, rfl, rfl, rfl, trivial⟩ ⟨rfl, rfl, trivial⟩ rfl fun ρ0 ff => ?_
    refine cx_sound _ _ _ _ _ ?_
    refine ⟨_, rfl, ?_⟩
    refine ⟨_, rfl, (ac_laws_szState d z_g st hR_d.1 (by omega) (by omega) hR_d.2).mono ?_⟩
    rintro _ st ⟨z_d, rfl, hr_d, hz_d, rfl⟩
    refine AW.cutM (2) st [(2, vL 2 0 (0)), (3, vL 3 0 (1)), (4, vB false), (5, vI z_d)] [(2, 0, [vI g.cap, vI g.frm, vS g.p g.l.length]), (3, 1, [vS d.p d.x.items.length, vS d.q d.x.floors.length])] ⟨rfl, rfl, rfl, rfl, trivial⟩ ⟨rfl, rfl, trivial⟩ rfl fun ρ0 ff => ?_
    refine ⟨_, rfl, ?_⟩
    rintro (_|_) hn_d
    · replace hn_d : ¬ (z_d < 0) := of_decide_eq_false hn_d
      refine AW.cutM (2) st [(2, vL 2 0 (0)), (3, vL 3 0 (1)), (4, vB false), (26, vB false)] [(2, 0, [vI g.cap, vI g.frm, vS g.p g.l.length]), (3, 1, [vS d.p d.x.items.length, vS d.q d.x.floors.length])] ⟨rfl, rfl, rfl, rfl, trivial⟩ ⟨rfl, rfl, trivial⟩ rfl fun ρ0 ff => ?_
      have hz_g' := hz_g (by omega)
      have hz_d' := hz_d (by omega)
      have hb_g := bigLog_iff.2 (sz_bigL (l := g.l) (by omega))
      have hc_g : cntLog g.x ≤ 8388608 := (show cntLog g.x ≤ 8388608 by have h1 := cntLog_l g; have h2 := cntL_le g.l; omega)
      have hb_d := sz_bigS (s := d.x) (by omega)
      have hc_d : cntState d.x ≤ 8388608 := cnt_State (hb_d)
      refine cx_sound _ _ _ _ _ ?_
      refine ⟨_, rfl, ?_⟩
      refine ⟨ld_own rfl rfl rfl, ?_⟩
      refine ⟨_, rfl, (uc_toLog g st hR_g.1 hb_g).mono ?_⟩
      rintro _ s1 ⟨u1, rfl, hu1, hO1, hN1, hP1⟩
      refine ⟨hP1.2, ?_⟩
      refine ⟨_, rfl, ?_⟩
      refine ⟨ld_own rfl rfl rfl, ?_⟩
      refine ⟨_, rfl, (ac_laws_toState d s1 (hR_d.1.pres hP1) hb_d).mono ?_⟩
      rintro _ s2 ⟨u2, rfl, hu2, hO2, hN2, hP2⟩
      refine ⟨_, rfl, (ac_spec_LogAdd u1.v u2 s2 (OwnP.rdLog (OwnP.left (OwnP.right (OwnP.joinF (OwnP.joinF OwnP.nil hP1 hO1 hN1) hP2 hO2 hN2)))) (OwnP.rdS (OwnP.left (OwnP.joinF (OwnP.joinF OwnP.nil hP1 hO1 hN1) hP2 hO2 hN2))) (bigLog_iff.1 (hu1 ▸ hb_g)) (hu2 ▸ hb_d)).mono ?_⟩
      rintro _ s3 ⟨r3, b3, rfl, hr3, hO3, hN3, hP3⟩
      iterate 4 refine ⟨_, rfl, ?_⟩
      refine AW.cutM (3) s3 [(2, vL 2 0 (0)), (3, vL 3 0 (1)), (4, vB false), (6, vL 6 0 (2)), (7, vB b3)] [(2, 0, [vI g.cap, vI g.frm, vS g.p g.l.length]), (3, 1, [vS d.p d.x.items.length, vS d.q d.x.floors.length]), (6, 2, [vI r3.cap, vI r3.frm, vS r3.p r3.l.length])] ⟨rfl, rfl, rfl, rfl, rfl, trivial⟩ ⟨rfl, rfl, rfl, trivial⟩ rfl fun ρ0 ff => ?_
      have hA8 : OwnP s3 (pcLog r3 ++ (pcS u2 ++ (pcLog u1 ++ []))) := (OwnP.joinF (OwnP.joinF (OwnP.joinF OwnP.nil hP1 hO1 hN1) hP2 hO2 hN2) hP3 hO3 hN3)
      have hQ8 : Pres st s3 := ((hP1.trans hP2).trans hP3)
      refine ⟨_, rfl, ?_⟩
      refine ⟨_, rfl, (uc_toLog g s3 (hR_g.1.pres hQ8) hb_g).mono ?_⟩
      rintro _ s4 ⟨u4, rfl, hu4, hO4, hN4, hP4⟩
      iterate 2 refine ⟨_, rfl, ?_⟩
      refine AW.cutM (4) s4 [(2, vL 2 0 (0)), (3, vL 3 0 (1)), (4, vB false), (6, vL 6 0 (2)), (7, vB b3), (8, vL 8 0 (3))] [(2, 0, [vI g.cap, vI g.frm, vS g.p g.l.length]), (3, 1, [vS d.p d.x.items.length, vS d.q d.x.floors.length]), (6, 2, [vI r3.cap, vI r3.frm, vS r3.p r3.l.length]), (8, 3, [vI u4.cap, vI u4.frm, vS u4.p u4.l.length])] ⟨rfl, rfl, rfl, rfl, rfl, rfl, trivial⟩ ⟨rfl, rfl, rfl, rfl, trivial⟩ rfl fun ρ0 ff => ?_
      have hA9 : OwnP s4 (pcLog u4 ++ (pcLog r3 ++ (pcS u2 ++ (pcLog u1 ++ [])))) := (OwnP.joinF hA8 hP4 hO4 hN4)
      have hQ9 : Pres st s4 := (hQ8.trans hP4)
      refine ⟨_, rfl, ?_⟩
      refine ⟨_, rfl, (ac_laws_toState d s4 (hR_d.1.pres hQ9) hb_d).mono ?_⟩
      rintro _ s5 ⟨u5, rfl, hu5, hO5, hN5, hP5⟩
      iterate 2 refine ⟨_, rfl, ?_⟩
      refine AW.cutM (5) s5 [(2, vL 2 0 (0)), (3, vL 3 0 (1)), (4, vB false), (6, vL 6 0 (2)), (7, vB b3), (8, vL 8 0 (3)), (9, vL 9 0 (4))] [(2, 0, [vI g.cap, vI g.frm, vS g.p g.l.length]), (3, 1, [vS d.p d.x.items.length, vS d.q d.x.floors.length]), (6, 2, [vI r3.cap, vI r3.frm, vS r3.p r3.l.length]), (8, 3, [vI u4.cap, vI u4.frm, vS u4.p u4.l.length]), (9, 4, [vS u5.p u5.x.items.length, vS u5.q u5.x.floors.length])] ⟨rfl, rfl, rfl, rfl, rfl, rfl, rfl, trivial⟩ ⟨rfl, rfl, rfl, rfl, rfl, trivial⟩ rfl fun ρ0 ff => ?_
      have hA10 : OwnP s5 (pcS u5 ++ (pcLog u4 ++ (pcLog r3 ++ (pcS u2 ++ (pcLog u1 ++ []))))) := (OwnP.joinF hA9 hP5 hO5 hN5)
      have hQ10 : Pres st s5 := (hQ9.trans hP5)
      iterate 2 refine ⟨_, rfl, ?_⟩
      refine ⟨_, rfl, (ac_impl_LogAdd u4.v u5 s5 (OwnP.rdLog (OwnP.left (OwnP.right hA10))) (OwnP.rdS (OwnP.left hA10)) (bigLog_iff.1 (hu4 ▸ hb_g)) (hu5 ▸ hb_d)).mono ?_⟩
      rintro _ s6 ⟨r6, b6, rfl, hr6, hO6, hN6, hP6⟩
      iterate 4 refine ⟨_, rfl, ?_⟩
      refine AW.cutM (6) s6 [(2, vL 2 0 (0)), (3, vL 3 0 (1)), (4, vB false), (6, vL 6 0 (2)), (7, vB b3), (8, vL 8 0 (3)), (9, vL 9 0 (4)), (10, vL 10 0 (5)), (11, vB b6)] [(2, 0, [vI g.cap, vI g.frm, vS g.p g.l.length]), (3, 1, [vS d.p d.x.items.length, vS d.q d.x.floors.length]), (6, 2, [vI r3.cap, vI r3.frm, vS r3.p r3.l.length]), (8, 3, [vI u4.cap, vI u4.frm, vS u4.p u4.l.length]), (9, 4, [vS u5.p u5.x.items.length, vS u5.q u5.x.floors.length]), (10, 5, [vI r6.cap, vI r6.frm, vS r6.p r6.l.length])] ⟨rfl, rfl, rfl, rfl, rfl, rfl, rfl, rfl, rfl, trivial⟩ ⟨rfl, rfl, rfl, rfl, rfl, rfl, trivial⟩ rfl fun ρ0 ff => ?_
      have hA11 : OwnP s6 (pcLog r6 ++ (pcS u5 ++ (pcLog u4 ++ (pcLog r3 ++ (pcS u2 ++ (pcLog u1 ++ [])))))) := (OwnP.joinF hA10 hP6 hO6 hN6)
      have hQ11 : Pres st s6 := (hQ10.trans hP6)
      have hE1 : (r6.v.x, b6) = (r3.v.x, b3) := by rw [hr6, hr3, hu4, hu5, hu1, hu2]
      iterate 2 refine ⟨_, rfl, ?_⟩
      refine ⟨_, rfl, (AC.tru (uc_eqLog r6 r3 s6 (OwnP.rdLog (OwnP.left hA11)) (OwnP.rdLog (OwnP.left (OwnP.right (OwnP.right (OwnP.right hA11))))) (big_add hr6 (hu4 ▸ hb_g) (hu5 ▸ hb_d))) (Prod.mk.inj hE1).1).mono ?_⟩
      rintro _ s6 ⟨rfl, rfl⟩
      iterate 2 refine ⟨_, rfl, ?_⟩
      rintro (_|_) he7
      rotate_left
      · exact absurd ((Prod.mk.inj hE1).2) (b_ne he7)
      refine ⟨_, rfl, ?_⟩
      refine AW.cutM (6) s6 [(2, vL 2 0 (0)), (3, vL 3 0 (1)), (4, vB false), (6, vL 6 0 (2)), (7, vB b3), (8, vL 8 0 (3)), (9, vL 9 0 (4)), (10, vL 10 0 (5)), (11, vB b6), (53, vB false)] [(2, 0, [vI g.cap, vI g.frm, vS g.p g.l.length]), (3, 1, [vS d.p d.x.items.length, vS d.q d.x.floors.length]), (6, 2, [vI r3.cap, vI r3.frm, vS r3.p r3.l.length]), (8, 3, [vI u4.cap, vI u4.frm, vS u4.p u4.l.length]), (9, 4, [vS u5.p u5.x.items.length, vS u5.q u5.x.floors.length]), (10, 5, [vI r6.cap, vI r6.frm, vS r6.p r6.l.length])] ⟨rfl, rfl, rfl, rfl, rfl, rfl, rfl, rfl, rfl, rfl, trivial⟩ ⟨rfl, rfl, rfl, rfl, rfl, rfl, trivial⟩ rfl fun ρ0 ff => ?_
      refine cx_sound _ _ _ _ _ ?_
      refine ⟨_, rfl, ?_⟩
      refine ⟨ld_own rfl rfl rfl, ?_⟩
      refine ⟨_, rfl, ?_⟩
      refine ⟨_, rfl, (uc_toLog g s6 (hR_g.1.pres hQ11) hb_g).mono ?_⟩
      rintro _ s8 ⟨u8, rfl, hu8, hO8, hN8, hP8⟩
      refine ⟨hP8.2, ?_⟩
      refine ⟨_, rfl, (AC.tru (uc_eqLog u4 u8 s8 (OwnP.rdLog (OwnP.left (OwnP.right (OwnP.right (OwnP.right (OwnP.joinF hA11 hP8 hO8 hN8)))))) (OwnP.rdLog (OwnP.left (OwnP.joinF hA11 hP8 hO8 hN8))) (hu4 ▸ hb_g)) (hu4.trans hu8.symm)).mono ?_⟩
      rintro _ s8 ⟨rfl, rfl⟩
      refine ⟨_, rfl, ?_⟩
      refine AW.cutM (6) s8 [(2, vL 2 0 (0)), (3, vL 3 0 (1)), (4, vB false), (6, vL 6 0 (2)), (7, vB b3), (8, vL 8 0 (3)), (9, vL 9 0 (4)), (10, vL 10 0 (5)), (11, vB b6), (58, vB false)] [(2, 0, [vI g.cap, vI g.frm, vS g.p g.l.length]), (3, 1, [vS d.p d.x.items.length, vS d.q d.x.floors.length]), (6, 2, [vI r3.cap, vI r3.frm, vS r3.p r3.l.length]), (8, 3, [vI u4.cap, vI u4.frm, vS u4.p u4.l.length]), (9, 4, [vS u5.p u5.x.items.length, vS u5.q u5.x.floors.length]), (10, 5, [vI r6.cap, vI r6.frm, vS r6.p r6.l.length])] ⟨rfl, rfl, rfl, rfl, rfl, rfl, rfl, rfl, rfl, rfl, trivial⟩ ⟨rfl, rfl, rfl, rfl, rfl, rfl, trivial⟩ rfl fun ρ0 ff => ?_
      have hA14 : OwnP s8 (pcLog u8 ++ (pcLog r6 ++ (pcS u5 ++ (pcLog u4 ++ (pcLog r3 ++ (pcS u2 ++ (pcLog u1 ++ []))))))) := (OwnP.joinF hA11 hP8 hO8 hN8)
      have hQ14 : Pres st s8 := (hQ11.trans hP8)
      refine cx_sound _ _ _ _ _ ?_
      refine ⟨_, rfl, ?_⟩
      refine ⟨ld_own rfl rfl rfl, ?_⟩
      refine ⟨_, rfl, ?_⟩
      refine ⟨_, rfl, (ac_laws_toState d s8 (hR_d.1.pres hQ14) hb_d).mono ?_⟩
      rintro _ s9 ⟨u9, rfl, hu9, hO9, hN9, hP9⟩
      refine ⟨hP9.2, ?_⟩
      refine ⟨_, rfl, (AC.tru (ac_laws_eqState u5 u9 s9 (OwnP.rdS (OwnP.left (OwnP.right (OwnP.right (OwnP.right (OwnP.joinF hA14 hP9 hO9 hN9)))))) (OwnP.rdS (OwnP.left (OwnP.joinF hA14 hP9 hO9 hN9))) (hu5 ▸ hb_d)) (hu5.trans hu9.symm)).mono ?_⟩
      rintro _ s9 ⟨rfl, rfl⟩
      refine ⟨_, rfl, ?_⟩
      refine AW.cutM (6) s9 [(2, vL 2 0 (0)), (3, vL 3 0 (1)), (4, vB false), (6, vL 6 0 (2)), (7, vB b3), (8, vL 8 0 (3)), (9, vL 9 0 (4)), (10, vL 10 0 (5)), (11, vB b6), (63, vB false)] [(2, 0, [vI g.cap, vI g.frm, vS g.p g.l.length]), (3, 1, [vS d.p d.x.items.length, vS d.q d.x.floors.length]), (6, 2, [vI r3.cap, vI r3.frm, vS r3.p r3.l.length]), (8, 3, [vI u4.cap, vI u4.frm, vS u4.p u4.l.length]), (9, 4, [vS u5.p u5.x.items.length, vS u5.q u5.x.floors.length]), (10, 5, [vI r6.cap, vI r6.frm, vS r6.p r6.l.length])] ⟨rfl, rfl, rfl, rfl, rfl, rfl, rfl, rfl, rfl, rfl, trivial⟩ ⟨rfl, rfl, rfl, rfl, rfl, rfl, trivial⟩ rfl fun ρ0 ff => ?_
      have hA16 : OwnP s9 (pcS u9 ++ (pcLog u8 ++ (pcLog r6 ++ (pcS u5 ++ (pcLog u4 ++ (pcLog r3 ++ (pcS u2 ++ (pcLog u1 ++ [])))))))) := (OwnP.joinF hA14 hP9 hO9 hN9)
      have hQ16 : Pres st s9 := (hQ14.trans hP9)
      refine cx_sound _ _ _ _ _ ?_
      refine AW.cutM (6) s9 [(2, vL 2 0 (0)), (3, vL 3 0 (1)), (4, vB false), (6, vL 6 0 (2)), (7, vB b3), (8, vL 8 0 (3)), (9, vL 9 0 (4)), (10, vL 10 0 (5)), (11, vB b6), (12, vI (1))] [(2, 0, [vI g.cap, vI g.frm, vS g.p g.l.length]), (3, 1, [vS d.p d.x.items.length, vS d.q d.x.floors.length]), (6, 2, [vI r3.cap, vI r3.frm, vS r3.p r3.l.length]), (8, 3, [vI u4.cap, vI u4.frm, vS u4.p u4.l.length]), (9, 4, [vS u5.p u5.x.items.length, vS u5.q u5.x.floors.length]), (10, 5, [vI r6.cap, vI r6.frm, vS r6.p r6.l.length])] ⟨rfl, rfl, rfl, rfl, rfl, rfl, rfl, rfl, rfl, rfl, trivial⟩ ⟨rfl, rfl, rfl, rfl, rfl, rfl, trivial⟩ rfl fun ρ0 ff => ?_
      refine ⟨_, rfl, ?_⟩
      have hM10 := (OwnP.front4 hA16)
      have hNw10 := newPs (hN4.le (((hP1.trans hP2).trans hP3)).1)
      have hcm10 : cntLog u4.v.x ≤ 8388608 := by rw [hu4]; exact hc_g
      refine ⟨_, rfl, (uc_markLog u4 1 s9 (OwnP.left hM10) (hu4 ▸ hb_g) (by omega) (by omega)).mono ?_⟩
      rintro _ s10 ⟨rfl, hO10, hL10⟩
      refine AW.cutM (6) s10 [(2, vL 2 0 (0)), (3, vL 3 0 (1)), (4, vB false), (6, vL 6 0 (2)), (7, vB b3), (9, vL 9 0 (4)), (10, vL 10 0 (5)), (11, vB b6), (12, vI (1 + (cntLog u4.v.x : Int)))] [(2, 0, [vI g.cap, vI g.frm, vS g.p g.l.length]), (3, 1, [vS d.p d.x.items.length, vS d.q d.x.floors.length]), (6, 2, [vI r3.cap, vI r3.frm, vS r3.p r3.l.length]), (9, 4, [vS u5.p u5.x.items.length, vS u5.q u5.x.floors.length]), (10, 5, [vI r6.cap, vI r6.frm, vS r6.p r6.l.length])] ⟨rfl, rfl, rfl, rfl, rfl, rfl, rfl, rfl, rfl, trivial⟩ ⟨rfl, rfl, rfl, rfl, rfl, trivial⟩ rfl fun ρ0 ff => ?_
      have hA19 : OwnP s10 (pcLog (mkLog u4 1) ++ _) := OwnP.markG hM10 hO10 (mkp_Log _ _) hL10
      have hQ19 : Pres st s10 := hL10.pres hQ16 hNw10
      refine ⟨_, rfl, ?_⟩
      have hM11 := (OwnP.front4 hA19)
      have hNw11 := newPs (hN5.le ((((hP1.trans hP2).trans hP3).trans hP4)).1)
      have hcm11 : cntState u5.x ≤ 8388608 := by rw [hu5]; exact hc_d
      refine ⟨_, rfl, (uc_markState u5 _ s10 (OwnP.left hM11) (hu5 ▸ hb_d) (by omega) (by omega)).mono ?_⟩
      rintro _ s11 ⟨rfl, hO11, hL11⟩
      refine AW.cutM (6) s11 [(2, vL 2 0 (0)), (3, vL 3 0 (1)), (4, vB false), (6, vL 6 0 (2)), (7, vB b3), (10, vL 10 0 (5)), (11, vB b6), (12, vI (1 + (cntLog u4.v.x : Int) + (cntState u5.x : Int)))] [(2, 0, [vI g.cap, vI g.frm, vS g.p g.l.length]), (3, 1, [vS d.p d.x.items.length, vS d.q d.x.floors.length]), (6, 2, [vI r3.cap, vI r3.frm, vS r3.p r3.l.length]), (10, 5, [vI r6.cap, vI r6.frm, vS r6.p r6.l.length])] ⟨rfl, rfl, rfl, rfl, rfl, rfl, rfl, rfl, trivial⟩ ⟨rfl, rfl, rfl, rfl, trivial⟩ rfl fun ρ0 ff => ?_
      have hA20 : OwnP s11 (pcS (mkState u5 (1 + (cntLog u4.v.x : Int))) ++ _) := OwnP.markG hM11 hO11 (mkp_State _ _) hL11
      have hQ20 : Pres st s11 := hL11.pres hQ19 hNw11
      refine ⟨_, rfl, ?_⟩
      rintro (_|_) hg12
      rotate_left
      · exact absurd (of_decide_eq_true hg12) ((by omega))
      iterate 2 refine ⟨_, rfl, ?_⟩
      refine ⟨_, rfl, (AC.tru (uc_eqLog r6 r3 s11 (OwnP.rdLog (OwnP.left (OwnP.right (OwnP.right (OwnP.right (OwnP.right hA20)))))) (OwnP.rdLog (OwnP.left (OwnP.right (OwnP.right (OwnP.right (OwnP.right (OwnP.right hA20))))))) (big_add hr6 (hu4 ▸ hb_g) (hu5 ▸ hb_d))) (Prod.mk.inj hE1).1).mono ?_⟩
      rintro _ s11 ⟨rfl, rfl⟩
      iterate 3 refine ⟨_, rfl, ?_⟩
      rintro (_|_) he13
      rotate_left
      · exact absurd ((Prod.mk.inj hE1).2) (b_ne he13)
      refine ⟨_, rfl, ?_⟩
      refine AW.cutM (6) s11 [(2, vL 2 0 (0)), (3, vL 3 0 (1)), (4, vB false), (6, vL 6 0 (2)), (7, vB b3), (10, vL 10 0 (5)), (82, vB false)] [(2, 0, [vI g.cap, vI g.frm, vS g.p g.l.length]), (3, 1, [vS d.p d.x.items.length, vS d.q d.x.floors.length]), (6, 2, [vI r3.cap, vI r3.frm, vS r3.p r3.l.length]), (10, 5, [vI r6.cap, vI r6.frm, vS r6.p r6.l.length])] ⟨rfl, rfl, rfl, rfl, rfl, rfl, rfl, trivial⟩ ⟨rfl, rfl, rfl, rfl, trivial⟩ rfl fun ρ0 ff => ?_
      refine cx_sound _ _ _ _ _ ?_
      refine AW.cutM (6) s11 [(2, vL 2 0 (0)), (3, vL 3 0 (1)), (4, vB false), (6, vL 6 0 (2)), (7, vB b3), (10, vL 10 0 (5)), (13, vI (1))] [(2, 0, [vI g.cap, vI g.frm, vS g.p g.l.length]), (3, 1, [vS d.p d.x.items.length, vS d.q d.x.floors.length]), (6, 2, [vI r3.cap, vI r3.frm, vS r3.p r3.l.length]), (10, 5, [vI r6.cap, vI r6.frm, vS r6.p r6.l.length])] ⟨rfl, rfl, rfl, rfl, rfl, rfl, rfl, trivial⟩ ⟨rfl, rfl, rfl, rfl, trivial⟩ rfl fun ρ0 ff => ?_
      refine ⟨_, rfl, ?_⟩
      have hM14 := (OwnP.front4 hA20)
      have hNw14 := newPs (hN6.le (((((hP1.trans hP2).trans hP3).trans hP4).trans hP5)).1)
      have hcm14 : cntLog r6.v.x ≤ 16777216 := cnt_add hr6 (hu4 ▸ hc_g) (hu5 ▸ hc_d)
      refine ⟨_, rfl, (uc_markLog r6 1 s11 (OwnP.left hM14) (big_add hr6 (hu4 ▸ hb_g) (hu5 ▸ hb_d)) (by omega) (by omega)).mono ?_⟩
      rintro _ s14 ⟨rfl, hO14, hL14⟩
      refine cx_sound _ _ _ _ _ ?_
      have hA24 : OwnP s14 (pcLog (mkLog r6 1) ++ _) := OwnP.markG hM14 hO14 (mkp_Log _ _) hL14
      have hQ24 : Pres st s14 := hL14.pres hQ20 hNw14
      refine AW.cutM (6) s14 [(2, vL 2 0 (0)), (3, vL 3 0 (1)), (4, vB false), (6, vL 6 0 (2)), (7, vB b3), (10, vL 10 0 (5)), (13, vI (1 + (cntLog r6.v.x : Int))), (14, vI (1))] [(2, 0, [vI g.cap, vI g.frm, vS g.p g.l.length]), (3, 1, [vS d.p d.x.items.length, vS d.q d.x.floors.length]), (6, 2, [vI r3.cap, vI r3.frm, vS r3.p r3.l.length]), (10, 5, [vI r6.cap, vI r6.frm, vS r6.p r6.l.length])] ⟨rfl, rfl, rfl, rfl, rfl, rfl, rfl, rfl, trivial⟩ ⟨rfl, rfl, rfl, rfl, trivial⟩ rfl fun ρ0 ff => ?_
      refine ⟨_, rfl, ?_⟩
      refine ⟨_, rfl, (uc_heldLog r6 1 s14 (OwnP.rdLog (OwnP.left hA24)) (LW.rows (((OwnP.left hA24)).1 _ (List.mem_cons_self ..))) (big_add hr6 (hu4 ▸ hb_g) (hu5 ▸ hb_d)) (by decide) (by omega)).mono ?_⟩
      rintro _ s15 ⟨rfl, hP15⟩
      refine AW.cutM (6) s15 [(2, vL 2 0 (0)), (3, vL 3 0 (1)), (4, vB false), (6, vL 6 0 (2)), (7, vB b3), (10, vL 10 0 (5)), (13, vI (1 + (cntLog r6.v.x : Int))), (14, vI (1 + (cntLog r6.v.x : Int)))] [(2, 0, [vI g.cap, vI g.frm, vS g.p g.l.length]), (3, 1, [vS d.p d.x.items.length, vS d.q d.x.floors.length]), (6, 2, [vI r3.cap, vI r3.frm, vS r3.p r3.l.length]), (10, 5, [vI r6.cap, vI r6.frm, vS r6.p r6.l.length])] ⟨rfl, rfl, rfl, rfl, rfl, rfl, rfl, rfl, trivial⟩ ⟨rfl, rfl, rfl, rfl, trivial⟩ rfl fun ρ0 ff => ?_
      have hA26 : OwnP s15 (pcLog (mkLog r6 1) ++ (pcS (mkState u5 (1 + (cntLog u4.v.x : Int))) ++ (pcLog (mkLog u4 1) ++ (pcS u9 ++ (pcLog u8 ++ (pcLog r3 ++ (pcS u2 ++ (pcLog u1 ++ [])))))))) := (OwnP.pres hA24 hP15)
      have hQ26 : Pres st s15 := (hQ24.trans hP15)
      refine ⟨_, rfl, ?_⟩
      rintro (_|_) hg16
      rotate_left
      · exact absurd (of_decide_eq_true hg16) ((by omega))
      refine AW.cutM (6) s15 [(2, vL 2 0 (0)), (3, vL 3 0 (1)), (4, vB false), (6, vL 6 0 (2)), (7, vB b3), (10, vL 10 0 (5)), (13, vI (1 + (cntLog r6.v.x : Int))), (14, vI (1 + (cntLog r6.v.x : Int))), (90, vB false)] [(2, 0, [vI g.cap, vI g.frm, vS g.p g.l.length]), (3, 1, [vS d.p d.x.items.length, vS d.q d.x.floors.length]), (6, 2, [vI r3.cap, vI r3.frm, vS r3.p r3.l.length]), (10, 5, [vI r6.cap, vI r6.frm, vS r6.p r6.l.length])] ⟨rfl, rfl, rfl, rfl, rfl, rfl, rfl, rfl, rfl, trivial⟩ ⟨rfl, rfl, rfl, rfl, trivial⟩ rfl fun ρ0 ff => ?_
      refine cx_sound _ _ _ _ _ ?_
      refine ⟨_, rfl, ?_⟩
      rintro (_|_) hg17
      rotate_left
      · exact absurd (rfl) (bne_iff_ne.1 hg17)
      refine AW.cutM (6) s15 [(2, vL 2 0 (0)), (3, vL 3 0 (1)), (4, vB false), (6, vL 6 0 (2)), (7, vB b3), (10, vL 10 0 (5)), (13, vI (1 + (cntLog r6.v.x : Int))), (14, vI (1 + (cntLog r6.v.x : Int))), (93, vB false)] [(2, 0, [vI g.cap, vI g.frm, vS g.p g.l.length]), (3, 1, [vS d.p d.x.items.length, vS d.q d.x.floors.length]), (6, 2, [vI r3.cap, vI r3.frm, vS r3.p r3.l.length]), (10, 5, [vI r6.cap, vI r6.frm, vS r6.p r6.l.length])] ⟨rfl, rfl, rfl, rfl, rfl, rfl, rfl, rfl, rfl, trivial⟩ ⟨rfl, rfl, rfl, rfl, trivial⟩ rfl fun ρ0 ff => ?_
      refine cx_sound _ _ _ _ _ ?_
      refine ⟨_, rfl, ?_⟩
      refine ⟨ld_own rfl rfl rfl, ?_⟩
      refine ⟨_, rfl, (uc_toLog g s15 (hR_g.1.pres hQ26) hb_g).mono ?_⟩
      rintro _ s18 ⟨u18, rfl, hu18, hO18, hN18, hP18⟩
      refine ⟨hP18.2, ?_⟩
      refine ⟨_, rfl, ?_⟩
      refine ⟨ld_own rfl rfl rfl, ?_⟩
      refine ⟨_, rfl, (ac_laws_toState d s18 (hR_d.1.pres (hQ26.trans hP18)) hb_d).mono ?_⟩
      rintro _ s19 ⟨u19, rfl, hu19, hO19, hN19, hP19⟩
      refine ⟨_, rfl, (ac_impl_LogAdd u18.v u19 s19 (OwnP.rdLog (OwnP.left (OwnP.right (OwnP.joinF (OwnP.joinF hA26 hP18 hO18 hN18) hP19 hO19 hN19)))) (OwnP.rdS (OwnP.left (OwnP.joinF (OwnP.joinF hA26 hP18 hO18 hN18) hP19 hO19 hN19))) (bigLog_iff.1 (hu18 ▸ hb_g)) (hu19 ▸ hb_d)).mono ?_⟩
      rintro _ s20 ⟨r20, b20, rfl, hr20, hO20, hN20, hP20⟩
      iterate 4 refine ⟨_, rfl, ?_⟩
      refine AW.cutM (7) s20 [(4, vB false), (6, vL 6 0 (2)), (7, vB b3), (10, vL 10 0 (5)), (13, vI (1 + (cntLog r6.v.x : Int))), (14, vI (1 + (cntLog r6.v.x : Int))), (15, vL 15 0 (6)), (16, vB b20)] [(6, 2, [vI r3.cap, vI r3.frm, vS r3.p r3.l.length]), (10, 5, [vI r6.cap, vI r6.frm, vS r6.p r6.l.length]), (15, 6, [vI r20.cap, vI r20.frm, vS r20.p r20.l.length])] ⟨rfl, rfl, rfl, rfl, rfl, rfl, rfl, rfl, trivial⟩ ⟨rfl, rfl, rfl, trivial⟩ rfl fun ρ0 ff => ?_
      have hA31 : OwnP s20 (pcLog r20 ++ (pcS u19 ++ (pcLog u18 ++ (pcLog (mkLog r6 1) ++ (pcS (mkState u5 (1 + (cntLog u4.v.x : Int))) ++ (pcLog (mkLog u4 1) ++ (pcS u9 ++ (pcLog u8 ++ (pcLog r3 ++ (pcS u2 ++ (pcLog u1 ++ []))))))))))) := (OwnP.joinF (OwnP.joinF (OwnP.joinF hA26 hP18 hO18 hN18) hP19 hO19 hN19) hP20 hO20 hN20)
      have hQ31 : Pres st s20 := (((hQ26.trans hP18).trans hP19).trans hP20)
      have hE2 : (r20.v.x, b20) = (r3.v.x, b3) := by rw [hr20, hr3, hu18, hu19, hu1, hu2]
      iterate 2 refine ⟨_, rfl, ?_⟩
      refine ⟨_, rfl, (AC.tru (uc_eqLog r20 r3 s20 (OwnP.rdLog (OwnP.left hA31)) (OwnP.rdLog (OwnP.left (OwnP.right (OwnP.right (OwnP.right (OwnP.right (OwnP.right (OwnP.right (OwnP.right (OwnP.right hA31)))))))))) (big_add hr20 (hu18 ▸ hb_g) (hu19 ▸ hb_d))) (Prod.mk.inj hE2).1).mono ?_⟩
      rintro _ s20 ⟨rfl, rfl⟩
      iterate 2 refine ⟨_, rfl, ?_⟩
      rintro (_|_) he21
      rotate_left
      · exact absurd ((Prod.mk.inj hE2).2) (b_ne he21)
      refine ⟨_, rfl, ?_⟩
      refine AW.cutM (7) s20 [(4, vB false), (10, vL 10 0 (5)), (13, vI (1 + (cntLog r6.v.x : Int))), (14, vI (1 + (cntLog r6.v.x : Int))), (110, vB false)] [(10, 5, [vI r6.cap, vI r6.frm, vS r6.p r6.l.length])] ⟨rfl, rfl, rfl, rfl, rfl, trivial⟩ ⟨rfl, trivial⟩ rfl fun ρ0 ff => ?_
      refine cx_sound _ _ _ _ _ ?_
      refine AW.cutM (7) s20 [(4, vB false), (10, vL 10 0 (5)), (13, vI (1 + (cntLog r6.v.x : Int))), (14, vI (1))] [(10, 5, [vI r6.cap, vI r6.frm, vS r6.p r6.l.length])] ⟨rfl, rfl, rfl, rfl, trivial⟩ ⟨rfl, trivial⟩ rfl fun ρ0 ff => ?_
      refine ⟨_, rfl, ?_⟩
      refine ⟨_, rfl, (uc_heldLog r6 1 s20 (OwnP.rdLog (OwnP.left (OwnP.right (OwnP.right (OwnP.right hA31))))) (LW.rows (((OwnP.left (OwnP.right (OwnP.right (OwnP.right hA31))))).1 _ (List.mem_cons_self ..))) (big_add hr6 (hu4 ▸ hb_g) (hu5 ▸ hb_d)) (by decide) (by omega)).mono ?_⟩
      rintro _ s22 ⟨rfl, hP22⟩
      refine AW.cutM (7) s22 [(4, vB false), (13, vI (1 + (cntLog r6.v.x : Int))), (14, vI (1 + (cntLog r6.v.x : Int)))] [] ⟨rfl, rfl, rfl, trivial⟩ trivial rfl fun ρ0 ff => ?_
      have hA35 : OwnP s22 (pcLog r20 ++ (pcS u19 ++ (pcLog u18 ++ (pcLog (mkLog r6 1) ++ (pcS (mkState u5 (1 + (cntLog u4.v.x : Int))) ++ (pcLog (mkLog u4 1) ++ (pcS u9 ++ (pcLog u8 ++ (pcLog r3 ++ (pcS u2 ++ (pcLog u1 ++ []))))))))))) := (OwnP.pres hA31 hP22)
      have hQ35 : Pres st s22 := (hQ31.trans hP22)
      refine ⟨_, rfl, ?_⟩
      rintro (_|_) hg23
      rotate_left
      · exact absurd (of_decide_eq_true hg23) ((by omega))
      refine AW.cutM (7) s22 [(4, vB false), (13, vI (1 + (cntLog r6.v.x : Int))), (14, vI (1 + (cntLog r6.v.x : Int))), (115, vB false)] [] ⟨rfl, rfl, rfl, rfl, trivial⟩ trivial rfl fun ρ0 ff => ?_
      refine cx_sound _ _ _ _ _ ?_
      refine ⟨_, rfl, ?_⟩
      rintro (_|_) hg24
      rotate_left
      · exact absurd (rfl) (bne_iff_ne.1 hg24)
      refine AW.cutM (7) s22 [(4, vB false), (118, vB false)] [] ⟨rfl, rfl, trivial⟩ trivial rfl fun ρ0 ff => ?_
      refine cx_sound _ _ _ _ _ ?_
      refine cx_sound _ _ _ _ _ ?_
      exact ⟨.inl rfl, _, rfl, rfl⟩
    · replace hn_d : z_d < 0 := of_decide_eq_true hn_d
      refine AW.cutM (2) st [(2, vL 2 0 (0)), (3, vL 3 0 (1)), (4, vB false), (26, vB true)] [(2, 0, [vI g.cap, vI g.frm, vS g.p g.l.length]), (3, 1, [vS d.p d.x.items.length, vS d.q d.x.floors.length])] ⟨rfl, rfl, rfl, rfl, trivial⟩ ⟨rfl, rfl, trivial⟩ rfl fun ρ0 ff => ?_
      refine cx_sound _ _ _ _ _ ?_
      exact ⟨.inl rfl, _, rfl, rfl⟩
  · replace hn_g : z_g < 0 := of_decide_eq_true hn_g
    refine AW.cutM (2) st [(2, vL 2 0 (0)), (3, vL 3 0 (1)), (4, vB false), (5, vI z_g), (21, vB true)] [(2, 0, [vI g.cap, vI g.frm, vS g.p g.l.length]), (3, 1, [vS d.p d.x.items.length, vS d.q d.x.floors.length])] ⟨rfl, rfl, rfl, rfl, rfl, trivial⟩ ⟨rfl, rfl, trivial⟩ rfl fun ρ0 ff => ?_
    refine cx_sound _ _ _ _ _ ?_
    exact ⟨.inl rfl, _, rfl, rfl⟩

end Go.Proofs.Ytopcpcoklgepnaa.AM
