/- The law of trees touched, on the abstract machine. -/
import Derived.Test.YtopcpcoklgepnaaU3
import Derived.Test.YtopcpcoklgepnaaV7
import Derived.Test.YtopcpcoklgepnaaU1
import Derived.Test.YtopcpcoklgepnaaD3
namespace Go.Proofs.Ytopcpcoklgepnaa.AM
open Go Go.Proofs
set_option linter.unusedVariables false
set_option linter.unusedSimpArgs false
set_option maxRecDepth 100000
set_option maxHeartbeats 4000000
theorem ac_laws_FnExactTreeTouch (g : TV) (d : SV) (i : Int) (st : St) (hR_g : RdTr st g ∧ g.l.length ≤ maxLen) (hR_d : RdS st d ∧ maxS d.x) (hw_i : (Lit.int .i64 i).wf = true) : C 13 [.agg #[vS g.p g.l.length, vI g.root], .agg #[vS d.p d.x.items.length, vS d.q d.x.floors.length], vI i] st (fun v s => v = vB true) := by
  refine AC.enterX (i := ⟨[3, 4, 8, 9, 10, 11, 15], [3, 4, 8, 9, 10, 11, 15], [0, 1, 2, 3, 4, 6, 7, 8, 9, 10, 11, 12, 13, 14, 15, 20, 25, 43, 48, 53, 67, 75, 78, 88, 93, 96]⟩) [(8, [1], [0, 2]), (14, [2], [0]), (16, [2], [0]), (31, [1], [0, 2])] Try.func13 rfl rfl (by kernel_rfl) (by kernel_rfl) Try.ntmps13 (Nat.le_of_ble_eq_true rfl) rfl ?_
  iterate 2 refine ⟨_, rfl, ?_⟩
  refine cx_sound _ _ _ _ _ ?_
  refine AW.cutM (2) st [(2, vI i), (3, vL 3 0 (0)), (4, vL 4 0 (1)), (6, vB false), (7, vI (1048576))] [(3, 0, [vS g.p g.l.length, vI g.root]), (4, 1, [vS d.p d.x.items.length, vS d.q d.x.floors.length])] ⟨rfl, rfl, rfl, rfl, rfl, trivial⟩ ⟨rfl, rfl, trivial⟩ rfl fun ρ0 ff => ?_
  refine ⟨_, rfl, ?_⟩
  refine ⟨_, rfl, (ac_laws_szTree g 1048576 st (by decide) (by decide) hR_g.2).mono ?_⟩
  rintro _ st ⟨z_g, rfl, hr_g, hz_g, rfl⟩
  refine AW.cutM (2) st [(2, vI i), (3, vL 3 0 (0)), (4, vL 4 0 (1)), (6, vB false), (7, vI z_g)] [(3, 0, [vS g.p g.l.length, vI g.root]), (4, 1, [vS d.p d.x.items.length, vS d.q d.x.floors.length])] ⟨rfl, rfl, rfl, rfl, rfl, trivial⟩ ⟨rfl, rfl, trivial⟩ rfl fun ρ0 ff => ?_
  refine ⟨_, rfl, ?_⟩
  rintro (_|_) hn_g
  · replace hn_g : ¬ (z_g < 0) := of_decide_eq_false hn_g
    refine AW.cutM (2) st [(2, vI i), (3, vL 3 0 (0)), (4, vL 4 0 (1)), (6, vB false), (7, vI z_g), (20, vB false)] [(3, 0, [vS g.p g.l.length, vI g.root]), (4, 1, [vS d.p d.x.items.length, vS d.q d.x.floors.length])] ⟨rfl, rfl, rfl, rfl, rfl, rfl, trivial⟩ ⟨rfl, rfl, trivial⟩ rfl fun ρ0 ff => ?_
    refine cx_sound _ _ _ _ _ ?_
    refine ⟨_, rfl, ?_⟩
    refine ⟨_, rfl, (ac_laws_szState d z_g st hR_d.1 (by omega) (by omega) hR_d.2).mono ?_⟩
    rintro _ st ⟨z_d, rfl, hr_d, hz_d, rfl⟩
    refine AW.cutM (2) st [(2, vI i), (3, vL 3 0 (0)), (4, vL 4 0 (1)), (6, vB false), (7, vI z_d)] [(3, 0, [vS g.p g.l.length, vI g.root]), (4, 1, [vS d.p d.x.items.length, vS d.q d.x.floors.length])] ⟨rfl, rfl, rfl, rfl, rfl, trivial⟩ ⟨rfl, rfl, trivial⟩ rfl fun ρ0 ff => ?_
    refine ⟨_, rfl, ?_⟩
    rintro (_|_) hn_d
    · replace hn_d : ¬ (z_d < 0) := of_decide_eq_false hn_d
      refine AW.cutM (2) st [(2, vI i), (3, vL 3 0 (0)), (4, vL 4 0 (1)), (6, vB false), (25, vB false)] [(3, 0, [vS g.p g.l.length, vI g.root]), (4, 1, [vS d.p d.x.items.length, vS d.q d.x.floors.length])] ⟨rfl, rfl, rfl, rfl, rfl, trivial⟩ ⟨rfl, rfl, trivial⟩ rfl fun ρ0 ff => ?_
      have hz_g' := hz_g (by omega)
      have hz_d' := hz_d (by omega)
      have hb_g := (show bigTr g.x by show g.l.length ≤ 1048576; omega)
      have hc_g : cntTV g.x ≤ 8388608 := (show cntTV g.x ≤ 8388608 by show g.l.length ≤ 8388608; omega)
      have hb_d := sz_bigS (s := d.x) (by omega)
      have hc_d : cntState d.x ≤ 8388608 := cnt_State (hb_d)
      refine cx_sound _ _ _ _ _ ?_
      refine ⟨_, rfl, ?_⟩
      refine ⟨ld_own rfl rfl rfl, ?_⟩
      refine ⟨_, rfl, (uc_toTree g st hR_g.1 hb_g).mono ?_⟩
      rintro _ s1 ⟨u1, rfl, hu1, hO1, hN1, hP1⟩
      refine ⟨hP1.2, ?_⟩
      refine ⟨_, rfl, ?_⟩
      refine ⟨ld_own rfl rfl rfl, ?_⟩
      refine ⟨_, rfl, (ac_laws_toState d s1 (hR_d.1.pres hP1) hb_d).mono ?_⟩
      rintro _ s2 ⟨u2, rfl, hu2, hO2, hN2, hP2⟩
      refine ⟨_, rfl, (tc_spec_TreeTouch u1 u2 i s2 (OwnP.rdTV (OwnP.left (OwnP.right (OwnP.joinF (OwnP.joinF OwnP.nil hP1 hO1 hN1) hP2 hO2 hN2)))) (hu1 ▸ hb_g) (OwnP.rdS (OwnP.left (OwnP.joinF (OwnP.joinF OwnP.nil hP1 hO1 hN1) hP2 hO2 hN2))) (hu2 ▸ hb_d)).mono ?_⟩
      rintro _ s3 ⟨r3, rfl, hr3, hO3, hN3, hP3⟩
      iterate 2 refine ⟨_, rfl, ?_⟩
      refine AW.cutM (3) s3 [(2, vI i), (3, vL 3 0 (0)), (4, vL 4 0 (1)), (6, vB false), (8, vL 8 0 (2))] [(3, 0, [vS g.p g.l.length, vI g.root]), (4, 1, [vS d.p d.x.items.length, vS d.q d.x.floors.length]), (8, 2, [vS r3.p r3.l.length, vI r3.root])] ⟨rfl, rfl, rfl, rfl, rfl, trivial⟩ ⟨rfl, rfl, rfl, trivial⟩ rfl fun ρ0 ff => ?_
      have hA8 : OwnP s3 (pcTV r3 ++ (pcS u2 ++ (pcTV u1 ++ []))) := (OwnP.joinF (OwnP.joinF (OwnP.joinF OwnP.nil hP1 hO1 hN1) hP2 hO2 hN2) hP3 hO3 hN3)
      have hQ8 : Pres st s3 := ((hP1.trans hP2).trans hP3)
      refine ⟨_, rfl, ?_⟩
      refine ⟨_, rfl, (uc_toTree g s3 (hR_g.1.pres hQ8) hb_g).mono ?_⟩
      rintro _ s4 ⟨u4, rfl, hu4, hO4, hN4, hP4⟩
      iterate 2 refine ⟨_, rfl, ?_⟩
      refine AW.cutM (4) s4 [(2, vI i), (3, vL 3 0 (0)), (4, vL 4 0 (1)), (6, vB false), (8, vL 8 0 (2)), (9, vL 9 0 (3))] [(3, 0, [vS g.p g.l.length, vI g.root]), (4, 1, [vS d.p d.x.items.length, vS d.q d.x.floors.length]), (8, 2, [vS r3.p r3.l.length, vI r3.root]), (9, 3, [vS u4.p u4.l.length, vI u4.root])] ⟨rfl, rfl, rfl, rfl, rfl, rfl, trivial⟩ ⟨rfl, rfl, rfl, rfl, trivial⟩ rfl fun ρ0 ff => ?_
      have hA9 : OwnP s4 (pcTV u4 ++ (pcTV r3 ++ (pcS u2 ++ (pcTV u1 ++ [])))) := (OwnP.joinF hA8 hP4 hO4 hN4)
      have hQ9 : Pres st s4 := (hQ8.trans hP4)
      refine ⟨_, rfl, ?_⟩
      refine ⟨_, rfl, (ac_laws_toState d s4 (hR_d.1.pres hQ9) hb_d).mono ?_⟩
      rintro _ s5 ⟨u5, rfl, hu5, hO5, hN5, hP5⟩
      iterate 2 refine ⟨_, rfl, ?_⟩
      refine AW.cutM (5) s5 [(2, vI i), (3, vL 3 0 (0)), (4, vL 4 0 (1)), (6, vB false), (8, vL 8 0 (2)), (9, vL 9 0 (3)), (10, vL 10 0 (4))] [(3, 0, [vS g.p g.l.length, vI g.root]), (4, 1, [vS d.p d.x.items.length, vS d.q d.x.floors.length]), (8, 2, [vS r3.p r3.l.length, vI r3.root]), (9, 3, [vS u4.p u4.l.length, vI u4.root]), (10, 4, [vS u5.p u5.x.items.length, vS u5.q u5.x.floors.length])] ⟨rfl, rfl, rfl, rfl, rfl, rfl, rfl, trivial⟩ ⟨rfl, rfl, rfl, rfl, rfl, trivial⟩ rfl fun ρ0 ff => ?_
      have hA10 : OwnP s5 (pcS u5 ++ (pcTV u4 ++ (pcTV r3 ++ (pcS u2 ++ (pcTV u1 ++ []))))) := (OwnP.joinF hA9 hP5 hO5 hN5)
      have hQ10 : Pres st s5 := (hQ9.trans hP5)
      iterate 2 refine ⟨_, rfl, ?_⟩
      refine ⟨_, rfl, (tc_impl_TreeTouch u4 u5 i s5 (OwnP.rdTV (OwnP.left (OwnP.right hA10))) (hu4 ▸ hb_g) (OwnP.rdS (OwnP.left hA10)) (hu5 ▸ hb_d)).mono ?_⟩
      rintro _ s6 ⟨r6, rfl, hr6, hO6, hN6, hP6⟩
      iterate 2 refine ⟨_, rfl, ?_⟩
      refine AW.cutM (6) s6 [(2, vI i), (3, vL 3 0 (0)), (4, vL 4 0 (1)), (6, vB false), (8, vL 8 0 (2)), (9, vL 9 0 (3)), (10, vL 10 0 (4)), (11, vL 11 0 (5))] [(3, 0, [vS g.p g.l.length, vI g.root]), (4, 1, [vS d.p d.x.items.length, vS d.q d.x.floors.length]), (8, 2, [vS r3.p r3.l.length, vI r3.root]), (9, 3, [vS u4.p u4.l.length, vI u4.root]), (10, 4, [vS u5.p u5.x.items.length, vS u5.q u5.x.floors.length]), (11, 5, [vS r6.p r6.l.length, vI r6.root])] ⟨rfl, rfl, rfl, rfl, rfl, rfl, rfl, rfl, trivial⟩ ⟨rfl, rfl, rfl, rfl, rfl, rfl, trivial⟩ rfl fun ρ0 ff => ?_
      have hA11 : OwnP s6 (pcTV r6 ++ (pcS u5 ++ (pcTV u4 ++ (pcTV r3 ++ (pcS u2 ++ (pcTV u1 ++ [])))))) := (OwnP.joinF hA10 hP6 hO6 hN6)
      have hQ11 : Pres st s6 := (hQ10.trans hP6)
      have hE1 : r6.x = r3.x := by rw [hr6, hr3, hu4, hu5, hu1, hu2]
      iterate 2 refine ⟨_, rfl, ?_⟩
      refine ⟨_, rfl, (AC.tru (uc_eqTree r6 r3 s6 (OwnP.rdTV (OwnP.left hA11)) (OwnP.rdTV (OwnP.left (OwnP.right (OwnP.right (OwnP.right hA11))))) (touch_big hr6 (hu4 ▸ hb_g))) hE1).mono ?_⟩
      rintro _ s6 ⟨rfl, rfl⟩
      refine ⟨_, rfl, ?_⟩
      refine AW.cutM (6) s6 [(2, vI i), (3, vL 3 0 (0)), (4, vL 4 0 (1)), (6, vB false), (8, vL 8 0 (2)), (9, vL 9 0 (3)), (10, vL 10 0 (4)), (11, vL 11 0 (5)), (43, vB false)] [(3, 0, [vS g.p g.l.length, vI g.root]), (4, 1, [vS d.p d.x.items.length, vS d.q d.x.floors.length]), (8, 2, [vS r3.p r3.l.length, vI r3.root]), (9, 3, [vS u4.p u4.l.length, vI u4.root]), (10, 4, [vS u5.p u5.x.items.length, vS u5.q u5.x.floors.length]), (11, 5, [vS r6.p r6.l.length, vI r6.root])] ⟨rfl, rfl, rfl, rfl, rfl, rfl, rfl, rfl, rfl, trivial⟩ ⟨rfl, rfl, rfl, rfl, rfl, rfl, trivial⟩ rfl fun ρ0 ff => ?_
      refine cx_sound _ _ _ _ _ ?_
      refine ⟨_, rfl, ?_⟩
      refine ⟨ld_own rfl rfl rfl, ?_⟩
      refine ⟨_, rfl, ?_⟩
      refine ⟨_, rfl, (uc_toTree g s6 (hR_g.1.pres hQ11) hb_g).mono ?_⟩
      rintro _ s7 ⟨u7, rfl, hu7, hO7, hN7, hP7⟩
      refine ⟨hP7.2, ?_⟩
      refine ⟨_, rfl, (AC.tru (uc_eqTree u4 u7 s7 (OwnP.rdTV (OwnP.left (OwnP.right (OwnP.right (OwnP.right (OwnP.joinF hA11 hP7 hO7 hN7)))))) (OwnP.rdTV (OwnP.left (OwnP.joinF hA11 hP7 hO7 hN7))) (hu4 ▸ hb_g)) (hu4.trans hu7.symm)).mono ?_⟩
      rintro _ s7 ⟨rfl, rfl⟩
      refine ⟨_, rfl, ?_⟩
      refine AW.cutM (6) s7 [(2, vI i), (3, vL 3 0 (0)), (4, vL 4 0 (1)), (6, vB false), (8, vL 8 0 (2)), (9, vL 9 0 (3)), (10, vL 10 0 (4)), (11, vL 11 0 (5)), (48, vB false)] [(3, 0, [vS g.p g.l.length, vI g.root]), (4, 1, [vS d.p d.x.items.length, vS d.q d.x.floors.length]), (8, 2, [vS r3.p r3.l.length, vI r3.root]), (9, 3, [vS u4.p u4.l.length, vI u4.root]), (10, 4, [vS u5.p u5.x.items.length, vS u5.q u5.x.floors.length]), (11, 5, [vS r6.p r6.l.length, vI r6.root])] ⟨rfl, rfl, rfl, rfl, rfl, rfl, rfl, rfl, rfl, trivial⟩ ⟨rfl, rfl, rfl, rfl, rfl, rfl, trivial⟩ rfl fun ρ0 ff => ?_
      have hA14 : OwnP s7 (pcTV u7 ++ (pcTV r6 ++ (pcS u5 ++ (pcTV u4 ++ (pcTV r3 ++ (pcS u2 ++ (pcTV u1 ++ []))))))) := (OwnP.joinF hA11 hP7 hO7 hN7)
      have hQ14 : Pres st s7 := (hQ11.trans hP7)
      refine cx_sound _ _ _ _ _ ?_
      refine ⟨_, rfl, ?_⟩
      refine ⟨ld_own rfl rfl rfl, ?_⟩
      refine ⟨_, rfl, ?_⟩
      refine ⟨_, rfl, (ac_laws_toState d s7 (hR_d.1.pres hQ14) hb_d).mono ?_⟩
      rintro _ s8 ⟨u8, rfl, hu8, hO8, hN8, hP8⟩
      refine ⟨hP8.2, ?_⟩
      refine ⟨_, rfl, (AC.tru (ac_laws_eqState u5 u8 s8 (OwnP.rdS (OwnP.left (OwnP.right (OwnP.right (OwnP.right (OwnP.joinF hA14 hP8 hO8 hN8)))))) (OwnP.rdS (OwnP.left (OwnP.joinF hA14 hP8 hO8 hN8))) (hu5 ▸ hb_d)) (hu5.trans hu8.symm)).mono ?_⟩
      rintro _ s8 ⟨rfl, rfl⟩
      refine ⟨_, rfl, ?_⟩
      refine AW.cutM (6) s8 [(2, vI i), (3, vL 3 0 (0)), (4, vL 4 0 (1)), (6, vB false), (8, vL 8 0 (2)), (9, vL 9 0 (3)), (10, vL 10 0 (4)), (11, vL 11 0 (5)), (53, vB false)] [(3, 0, [vS g.p g.l.length, vI g.root]), (4, 1, [vS d.p d.x.items.length, vS d.q d.x.floors.length]), (8, 2, [vS r3.p r3.l.length, vI r3.root]), (9, 3, [vS u4.p u4.l.length, vI u4.root]), (10, 4, [vS u5.p u5.x.items.length, vS u5.q u5.x.floors.length]), (11, 5, [vS r6.p r6.l.length, vI r6.root])] ⟨rfl, rfl, rfl, rfl, rfl, rfl, rfl, rfl, rfl, trivial⟩ ⟨rfl, rfl, rfl, rfl, rfl, rfl, trivial⟩ rfl fun ρ0 ff => ?_
      have hA16 : OwnP s8 (pcS u8 ++ (pcTV u7 ++ (pcTV r6 ++ (pcS u5 ++ (pcTV u4 ++ (pcTV r3 ++ (pcS u2 ++ (pcTV u1 ++ [])))))))) := (OwnP.joinF hA14 hP8 hO8 hN8)
      have hQ16 : Pres st s8 := (hQ14.trans hP8)
      refine cx_sound _ _ _ _ _ ?_
      refine AW.cutM (6) s8 [(2, vI i), (3, vL 3 0 (0)), (4, vL 4 0 (1)), (6, vB false), (8, vL 8 0 (2)), (9, vL 9 0 (3)), (10, vL 10 0 (4)), (11, vL 11 0 (5)), (12, vI (1))] [(3, 0, [vS g.p g.l.length, vI g.root]), (4, 1, [vS d.p d.x.items.length, vS d.q d.x.floors.length]), (8, 2, [vS r3.p r3.l.length, vI r3.root]), (9, 3, [vS u4.p u4.l.length, vI u4.root]), (10, 4, [vS u5.p u5.x.items.length, vS u5.q u5.x.floors.length]), (11, 5, [vS r6.p r6.l.length, vI r6.root])] ⟨rfl, rfl, rfl, rfl, rfl, rfl, rfl, rfl, rfl, trivial⟩ ⟨rfl, rfl, rfl, rfl, rfl, rfl, trivial⟩ rfl fun ρ0 ff => ?_
      refine ⟨_, rfl, ?_⟩
      have hM9 := (OwnP.front4 hA16)
      have hNw9 := newPs (hN4.le (((hP1.trans hP2).trans hP3)).1)
      have hcm9 : cntTV u4.x ≤ 8388608 := by rw [hu4]; exact hc_g
      refine ⟨_, rfl, (uc_markTree u4 1 s8 (OwnP.left hM9) (hu4 ▸ hb_g) (by omega) (by omega)).mono ?_⟩
      rintro _ s9 ⟨rfl, hO9, hL9⟩
      refine AW.cutM (6) s9 [(2, vI i), (3, vL 3 0 (0)), (4, vL 4 0 (1)), (6, vB false), (8, vL 8 0 (2)), (10, vL 10 0 (4)), (11, vL 11 0 (5)), (12, vI (1 + (cntTV u4.x : Int)))] [(3, 0, [vS g.p g.l.length, vI g.root]), (4, 1, [vS d.p d.x.items.length, vS d.q d.x.floors.length]), (8, 2, [vS r3.p r3.l.length, vI r3.root]), (10, 4, [vS u5.p u5.x.items.length, vS u5.q u5.x.floors.length]), (11, 5, [vS r6.p r6.l.length, vI r6.root])] ⟨rfl, rfl, rfl, rfl, rfl, rfl, rfl, rfl, trivial⟩ ⟨rfl, rfl, rfl, rfl, rfl, trivial⟩ rfl fun ρ0 ff => ?_
      have hA19 : OwnP s9 (pcTV (mkTV u4 1) ++ _) := OwnP.markG hM9 hO9 (mkp_TV _ _) hL9
      have hQ19 : Pres st s9 := hL9.pres hQ16 hNw9
      refine ⟨_, rfl, ?_⟩
      have hM10 := (OwnP.front4 hA19)
      have hNw10 := newPs (hN5.le ((((hP1.trans hP2).trans hP3).trans hP4)).1)
      have hcm10 : cntState u5.x ≤ 8388608 := by rw [hu5]; exact hc_d
      refine ⟨_, rfl, (uc_markState u5 _ s9 (OwnP.left hM10) (hu5 ▸ hb_d) (by omega) (by omega)).mono ?_⟩
      rintro _ s10 ⟨rfl, hO10, hL10⟩
      refine AW.cutM (6) s10 [(2, vI i), (3, vL 3 0 (0)), (4, vL 4 0 (1)), (6, vB false), (8, vL 8 0 (2)), (11, vL 11 0 (5)), (12, vI (1 + (cntTV u4.x : Int) + (cntState u5.x : Int)))] [(3, 0, [vS g.p g.l.length, vI g.root]), (4, 1, [vS d.p d.x.items.length, vS d.q d.x.floors.length]), (8, 2, [vS r3.p r3.l.length, vI r3.root]), (11, 5, [vS r6.p r6.l.length, vI r6.root])] ⟨rfl, rfl, rfl, rfl, rfl, rfl, rfl, trivial⟩ ⟨rfl, rfl, rfl, rfl, trivial⟩ rfl fun ρ0 ff => ?_
      have hA20 : OwnP s10 (pcS (mkState u5 (1 + (cntTV u4.x : Int))) ++ _) := OwnP.markG hM10 hO10 (mkp_State _ _) hL10
      have hQ20 : Pres st s10 := hL10.pres hQ19 hNw10
      refine ⟨_, rfl, ?_⟩
      rintro (_|_) hg11
      rotate_left
      · exact absurd (of_decide_eq_true hg11) ((by omega))
      iterate 2 refine ⟨_, rfl, ?_⟩
      refine ⟨_, rfl, (AC.tru (uc_eqTree r6 r3 s10 (OwnP.rdTV (OwnP.left (OwnP.right (OwnP.right (OwnP.right (OwnP.right hA20)))))) (OwnP.rdTV (OwnP.left (OwnP.right (OwnP.right (OwnP.right (OwnP.right (OwnP.right hA20))))))) (touch_big hr6 (hu4 ▸ hb_g))) hE1).mono ?_⟩
      rintro _ s10 ⟨rfl, rfl⟩
      iterate 2 refine ⟨_, rfl, ?_⟩
      refine AW.cutM (6) s10 [(2, vI i), (3, vL 3 0 (0)), (4, vL 4 0 (1)), (6, vB false), (8, vL 8 0 (2)), (11, vL 11 0 (5)), (67, vB false)] [(3, 0, [vS g.p g.l.length, vI g.root]), (4, 1, [vS d.p d.x.items.length, vS d.q d.x.floors.length]), (8, 2, [vS r3.p r3.l.length, vI r3.root]), (11, 5, [vS r6.p r6.l.length, vI r6.root])] ⟨rfl, rfl, rfl, rfl, rfl, rfl, rfl, trivial⟩ ⟨rfl, rfl, rfl, rfl, trivial⟩ rfl fun ρ0 ff => ?_
      refine cx_sound _ _ _ _ _ ?_
      refine AW.cutM (6) s10 [(2, vI i), (3, vL 3 0 (0)), (4, vL 4 0 (1)), (6, vB false), (8, vL 8 0 (2)), (11, vL 11 0 (5)), (13, vI (1))] [(3, 0, [vS g.p g.l.length, vI g.root]), (4, 1, [vS d.p d.x.items.length, vS d.q d.x.floors.length]), (8, 2, [vS r3.p r3.l.length, vI r3.root]), (11, 5, [vS r6.p r6.l.length, vI r6.root])] ⟨rfl, rfl, rfl, rfl, rfl, rfl, rfl, trivial⟩ ⟨rfl, rfl, rfl, rfl, trivial⟩ rfl fun ρ0 ff => ?_
      refine ⟨_, rfl, ?_⟩
      have hM12 := (OwnP.front4 hA20)
      have hNw12 := newPs (hN6.le (((((hP1.trans hP2).trans hP3).trans hP4).trans hP5)).1)
      have hcm12 : cntTV r6.x ≤ 8388608 := touch_cnt hr6 (hu4 ▸ hc_g)
      refine ⟨_, rfl, (uc_markTree r6 1 s10 (OwnP.left hM12) (touch_big hr6 (hu4 ▸ hb_g)) (by omega) (by omega)).mono ?_⟩
      rintro _ s12 ⟨rfl, hO12, hL12⟩
      refine cx_sound _ _ _ _ _ ?_
      have hA24 : OwnP s12 (pcTV (mkTV r6 1) ++ _) := OwnP.markG hM12 hO12 (mkp_TV _ _) hL12
      have hQ24 : Pres st s12 := hL12.pres hQ20 hNw12
      refine AW.cutM (6) s12 [(2, vI i), (3, vL 3 0 (0)), (4, vL 4 0 (1)), (6, vB false), (8, vL 8 0 (2)), (11, vL 11 0 (5)), (13, vI (1 + (cntTV r6.x : Int))), (14, vI (1))] [(3, 0, [vS g.p g.l.length, vI g.root]), (4, 1, [vS d.p d.x.items.length, vS d.q d.x.floors.length]), (8, 2, [vS r3.p r3.l.length, vI r3.root]), (11, 5, [vS r6.p r6.l.length, vI r6.root])] ⟨rfl, rfl, rfl, rfl, rfl, rfl, rfl, rfl, trivial⟩ ⟨rfl, rfl, rfl, rfl, trivial⟩ rfl fun ρ0 ff => ?_
      refine ⟨_, rfl, ?_⟩
      refine ⟨_, rfl, (uc_heldTree r6 1 s12 (OwnP.rdTV (OwnP.left hA24)) (touch_big hr6 (hu4 ▸ hb_g)) (by decide) (by omega)).mono ?_⟩
      rintro _ s13 ⟨rfl, hP13⟩
      refine AW.cutM (6) s13 [(2, vI i), (3, vL 3 0 (0)), (4, vL 4 0 (1)), (6, vB false), (8, vL 8 0 (2)), (11, vL 11 0 (5)), (13, vI (1 + (cntTV r6.x : Int))), (14, vI (1 + (cntTV r6.x : Int)))] [(3, 0, [vS g.p g.l.length, vI g.root]), (4, 1, [vS d.p d.x.items.length, vS d.q d.x.floors.length]), (8, 2, [vS r3.p r3.l.length, vI r3.root]), (11, 5, [vS r6.p r6.l.length, vI r6.root])] ⟨rfl, rfl, rfl, rfl, rfl, rfl, rfl, rfl, trivial⟩ ⟨rfl, rfl, rfl, rfl, trivial⟩ rfl fun ρ0 ff => ?_
      have hA26 : OwnP s13 (pcTV (mkTV r6 1) ++ (pcS (mkState u5 (1 + (cntTV u4.x : Int))) ++ (pcTV (mkTV u4 1) ++ (pcS u8 ++ (pcTV u7 ++ (pcTV r3 ++ (pcS u2 ++ (pcTV u1 ++ [])))))))) := (OwnP.pres hA24 hP13)
      have hQ26 : Pres st s13 := (hQ24.trans hP13)
      refine ⟨_, rfl, ?_⟩
      rintro (_|_) hg14
      rotate_left
      · exact absurd (of_decide_eq_true hg14) ((by omega))
      refine AW.cutM (6) s13 [(2, vI i), (3, vL 3 0 (0)), (4, vL 4 0 (1)), (6, vB false), (8, vL 8 0 (2)), (11, vL 11 0 (5)), (13, vI (1 + (cntTV r6.x : Int))), (14, vI (1 + (cntTV r6.x : Int))), (75, vB false)] [(3, 0, [vS g.p g.l.length, vI g.root]), (4, 1, [vS d.p d.x.items.length, vS d.q d.x.floors.length]), (8, 2, [vS r3.p r3.l.length, vI r3.root]), (11, 5, [vS r6.p r6.l.length, vI r6.root])] ⟨rfl, rfl, rfl, rfl, rfl, rfl, rfl, rfl, rfl, trivial⟩ ⟨rfl, rfl, rfl, rfl, trivial⟩ rfl fun ρ0 ff => ?_
      refine cx_sound _ _ _ _ _ ?_
      refine ⟨_, rfl, ?_⟩
      rintro (_|_) hg15
      rotate_left
      · exact absurd (rfl) (bne_iff_ne.1 hg15)
      refine AW.cutM (6) s13 [(2, vI i), (3, vL 3 0 (0)), (4, vL 4 0 (1)), (6, vB false), (8, vL 8 0 (2)), (11, vL 11 0 (5)), (13, vI (1 + (cntTV r6.x : Int))), (14, vI (1 + (cntTV r6.x : Int))), (78, vB false)] [(3, 0, [vS g.p g.l.length, vI g.root]), (4, 1, [vS d.p d.x.items.length, vS d.q d.x.floors.length]), (8, 2, [vS r3.p r3.l.length, vI r3.root]), (11, 5, [vS r6.p r6.l.length, vI r6.root])] ⟨rfl, rfl, rfl, rfl, rfl, rfl, rfl, rfl, rfl, trivial⟩ ⟨rfl, rfl, rfl, rfl, trivial⟩ rfl fun ρ0 ff => ?_
      refine cx_sound _ _ _ _ _ ?_
      refine ⟨_, rfl, ?_⟩
      refine ⟨ld_own rfl rfl rfl, ?_⟩
      refine ⟨_, rfl, (uc_toTree g s13 (hR_g.1.pres hQ26) hb_g).mono ?_⟩
      rintro _ s16 ⟨u16, rfl, hu16, hO16, hN16, hP16⟩
      refine ⟨hP16.2, ?_⟩
      refine ⟨_, rfl, ?_⟩
      refine ⟨ld_own rfl rfl rfl, ?_⟩
      refine ⟨_, rfl, (ac_laws_toState d s16 (hR_d.1.pres (hQ26.trans hP16)) hb_d).mono ?_⟩
      rintro _ s17 ⟨u17, rfl, hu17, hO17, hN17, hP17⟩
      refine ⟨_, rfl, (tc_impl_TreeTouch u16 u17 i s17 (OwnP.rdTV (OwnP.left (OwnP.right (OwnP.joinF (OwnP.joinF hA26 hP16 hO16 hN16) hP17 hO17 hN17)))) (hu16 ▸ hb_g) (OwnP.rdS (OwnP.left (OwnP.joinF (OwnP.joinF hA26 hP16 hO16 hN16) hP17 hO17 hN17))) (hu17 ▸ hb_d)).mono ?_⟩
      rintro _ s18 ⟨r18, rfl, hr18, hO18, hN18, hP18⟩
      iterate 2 refine ⟨_, rfl, ?_⟩
      refine AW.cutM (7) s18 [(6, vB false), (8, vL 8 0 (2)), (11, vL 11 0 (5)), (13, vI (1 + (cntTV r6.x : Int))), (14, vI (1 + (cntTV r6.x : Int))), (15, vL 15 0 (6))] [(8, 2, [vS r3.p r3.l.length, vI r3.root]), (11, 5, [vS r6.p r6.l.length, vI r6.root]), (15, 6, [vS r18.p r18.l.length, vI r18.root])] ⟨rfl, rfl, rfl, rfl, rfl, rfl, trivial⟩ ⟨rfl, rfl, rfl, trivial⟩ rfl fun ρ0 ff => ?_
      have hA31 : OwnP s18 (pcTV r18 ++ (pcS u17 ++ (pcTV u16 ++ (pcTV (mkTV r6 1) ++ (pcS (mkState u5 (1 + (cntTV u4.x : Int))) ++ (pcTV (mkTV u4 1) ++ (pcS u8 ++ (pcTV u7 ++ (pcTV r3 ++ (pcS u2 ++ (pcTV u1 ++ []))))))))))) := (OwnP.joinF (OwnP.joinF (OwnP.joinF hA26 hP16 hO16 hN16) hP17 hO17 hN17) hP18 hO18 hN18)
      have hQ31 : Pres st s18 := (((hQ26.trans hP16).trans hP17).trans hP18)
      have hE2 : r18.x = r3.x := by rw [hr18, hr3, hu16, hu17, hu1, hu2]
      iterate 2 refine ⟨_, rfl, ?_⟩
      refine ⟨_, rfl, (AC.tru (uc_eqTree r18 r3 s18 (OwnP.rdTV (OwnP.left hA31)) (OwnP.rdTV (OwnP.left (OwnP.right (OwnP.right (OwnP.right (OwnP.right (OwnP.right (OwnP.right (OwnP.right (OwnP.right hA31)))))))))) (touch_big hr18 (hu16 ▸ hb_g))) hE2).mono ?_⟩
      rintro _ s18 ⟨rfl, rfl⟩
      refine ⟨_, rfl, ?_⟩
      refine AW.cutM (7) s18 [(6, vB false), (11, vL 11 0 (5)), (13, vI (1 + (cntTV r6.x : Int))), (14, vI (1 + (cntTV r6.x : Int))), (88, vB false)] [(11, 5, [vS r6.p r6.l.length, vI r6.root])] ⟨rfl, rfl, rfl, rfl, rfl, trivial⟩ ⟨rfl, trivial⟩ rfl fun ρ0 ff => ?_
      refine cx_sound _ _ _ _ _ ?_
      refine AW.cutM (7) s18 [(6, vB false), (11, vL 11 0 (5)), (13, vI (1 + (cntTV r6.x : Int))), (14, vI (1))] [(11, 5, [vS r6.p r6.l.length, vI r6.root])] ⟨rfl, rfl, rfl, rfl, trivial⟩ ⟨rfl, trivial⟩ rfl fun ρ0 ff => ?_
      refine ⟨_, rfl, ?_⟩
      refine ⟨_, rfl, (uc_heldTree r6 1 s18 (OwnP.rdTV (OwnP.left (OwnP.right (OwnP.right (OwnP.right hA31))))) (touch_big hr6 (hu4 ▸ hb_g)) (by decide) (by omega)).mono ?_⟩
      rintro _ s19 ⟨rfl, hP19⟩
      refine AW.cutM (7) s19 [(6, vB false), (13, vI (1 + (cntTV r6.x : Int))), (14, vI (1 + (cntTV r6.x : Int)))] [] ⟨rfl, rfl, rfl, trivial⟩ trivial rfl fun ρ0 ff => ?_
      have hA35 : OwnP s19 (pcTV r18 ++ (pcS u17 ++ (pcTV u16 ++ (pcTV (mkTV r6 1) ++ (pcS (mkState u5 (1 + (cntTV u4.x : Int))) ++ (pcTV (mkTV u4 1) ++ (pcS u8 ++ (pcTV u7 ++ (pcTV r3 ++ (pcS u2 ++ (pcTV u1 ++ []))))))))))) := (OwnP.pres hA31 hP19)
      have hQ35 : Pres st s19 := (hQ31.trans hP19)
      refine ⟨_, rfl, ?_⟩
      rintro (_|_) hg20
      rotate_left
      · exact absurd (of_decide_eq_true hg20) ((by omega))
      refine AW.cutM (7) s19 [(6, vB false), (13, vI (1 + (cntTV r6.x : Int))), (14, vI (1 + (cntTV r6.x : Int))), (93, vB false)] [] ⟨rfl, rfl, rfl, rfl, trivial⟩ trivial rfl fun ρ0 ff => ?_
      refine cx_sound _ _ _ _ _ ?_
      refine ⟨_, rfl, ?_⟩
      rintro (_|_) hg21
      rotate_left
      · exact absurd (rfl) (bne_iff_ne.1 hg21)
      refine AW.cutM (7) s19 [(6, vB false), (96, vB false)] [] ⟨rfl, rfl, trivial⟩ trivial rfl fun ρ0 ff => ?_
      refine cx_sound _ _ _ _ _ ?_
      refine cx_sound _ _ _ _ _ ?_
      exact ⟨.inl rfl, _, rfl, rfl⟩
    · replace hn_d : z_d < 0 := of_decide_eq_true hn_d
      refine AW.cutM (2) st [(2, vI i), (3, vL 3 0 (0)), (4, vL 4 0 (1)), (6, vB false), (25, vB true)] [(3, 0, [vS g.p g.l.length, vI g.root]), (4, 1, [vS d.p d.x.items.length, vS d.q d.x.floors.length])] ⟨rfl, rfl, rfl, rfl, rfl, trivial⟩ ⟨rfl, rfl, trivial⟩ rfl fun ρ0 ff => ?_
      refine cx_sound _ _ _ _ _ ?_
      exact ⟨.inl rfl, _, rfl, rfl⟩
  · replace hn_g : z_g < 0 := of_decide_eq_true hn_g
    refine AW.cutM (2) st [(2, vI i), (3, vL 3 0 (0)), (4, vL 4 0 (1)), (6, vB false), (7, vI z_g), (20, vB true)] [(3, 0, [vS g.p g.l.length, vI g.root]), (4, 1, [vS d.p d.x.items.length, vS d.q d.x.floors.length])] ⟨rfl, rfl, rfl, rfl, rfl, rfl, trivial⟩ ⟨rfl, rfl, trivial⟩ rfl fun ρ0 ff => ?_
    refine cx_sound _ _ _ _ _ ?_
    exact ⟨.inl rfl, _, rfl, rfl⟩

end Go.Proofs.Ytopcpcoklgepnaa.AM
