/- The laws of messages and nodes compared, of messages checked, of slots looked for, on the abstract machine. -/
import Derived.Test.YtopcpcoklgepnaaV5
import Derived.Test.YtopcpcoklgepnaaV7
namespace Go.Proofs.Ytopcpcoklgepnaa.AM
open Go Go.Proofs
set_option linter.unusedVariables false
set_option linter.unusedSimpArgs false
set_option maxRecDepth 100000
set_option maxHeartbeats 4000000
theorem ac_laws_FnExactMsgSame (g : MV) (h : MV) (st : St) (hR_g : RdM st g ∧ maxM g.x) (hR_h : RdM st h ∧ maxM h.x) : C 5 [.agg #[vI g.kind, vI g.frm, vI g.to, vI g.num, vI g.hi, vS g.tree.p g.tree.l.length, vI g.tree.root, vS g.vec.p g.vec.l.length, vS g.leaves.p g.leaves.l.length, vS g.part.p g.part.x.items.length, vS g.part.q g.part.x.floors.length, vS g.marks.p g.marks.l.length], .agg #[vI h.kind, vI h.frm, vI h.to, vI h.num, vI h.hi, vS h.tree.p h.tree.l.length, vI h.tree.root, vS h.vec.p h.vec.l.length, vS h.leaves.p h.leaves.l.length, vS h.part.p h.part.x.items.length, vS h.part.q h.part.x.floors.length, vS h.marks.p h.marks.l.length]] st (fun v s => v = vB true) := by
  refine AC.enterX (i := ⟨[2, 3, 7, 8], [2, 3, 7, 8], [0, 1, 2, 3, 4, 5, 6, 7, 8, 9, 14, 19, 34, 39, 44]⟩) [(8, [1], [2]), (14, [2], [0]), (16, [2], [0])] Try.func5 rfl rfl (by kernel_rfl) (by kernel_rfl) Try.ntmps5 (Nat.le_of_ble_eq_true rfl) rfl ?_
  iterate 2 refine ⟨_, rfl, ?_⟩
  refine cx_sound _ _ _ _ _ ?_
  refine AW.cutM (2) st [(2, vL 2 0 (0)), (3, vL 3 0 (1)), (4, vB false), (5, vI (1048576))] [(2, 0, [vI g.kind, vI g.frm, vI g.to, vI g.num, vI g.hi, vS g.tree.p g.tree.l.length, vI g.tree.root, vS g.vec.p g.vec.l.length, vS g.leaves.p g.leaves.l.length, vS g.part.p g.part.x.items.length, vS g.part.q g.part.x.floors.length, vS g.marks.p g.marks.l.length]), (3, 1, [vI h.kind, vI h.frm, vI h.to, vI h.num, vI h.hi, vS h.tree.p h.tree.l.length, vI h.tree.root, vS h.vec.p h.vec.l.length, vS h.leaves.p h.leaves.l.length, vS h.part.p h.part.x.items.length, vS h.part.q h.part.x.floors.length, vS h.marks.p h.marks.l.length])] ⟨rfl, rfl, rfl, rfl, trivial⟩ ⟨rfl, rfl, trivial⟩ rfl fun ρ0 ff => ?_
  refine ⟨_, rfl, ?_⟩
  refine ⟨_, rfl, (ac_laws_szMsg g 1048576 st hR_g.1 (by decide) (by decide) hR_g.2).mono ?_⟩
  rintro _ st ⟨z_g, rfl, hr_g, hz_g, rfl⟩
  refine AW.cutM (2) st [(2, vL 2 0 (0)), (3, vL 3 0 (1)), (4, vB false), (5, vI z_g)] [(2, 0, [vI g.kind, vI g.frm, vI g.to, vI g.num, vI g.hi, vS g.tree.p g.tree.l.length, vI g.tree.root, vS g.vec.p g.vec.l.length, vS g.leaves.p g.leaves.l.length, vS g.part.p g.part.x.items.length, vS g.part.q g.part.x.floors.length, vS g.marks.p g.marks.l.length]), (3, 1, [vI h.kind, vI h.frm, vI h.to, vI h.num, vI h.hi, vS h.tree.p h.tree.l.length, vI h.tree.root, vS h.vec.p h.vec.l.length, vS h.leaves.p h.leaves.l.length, vS h.part.p h.part.x.items.length, vS h.part.q h.part.x.floors.length, vS h.marks.p h.marks.l.length])] ⟨rfl, rfl, rfl, rfl, trivial⟩ ⟨rfl, rfl, trivial⟩ rfl fun ρ0 ff => ?_
  refine ⟨_, rfl, ?_⟩
  rintro (_|_) hn_g
  · replace hn_g : ¬ (z_g < 0) := of_decide_eq_false hn_g
    refine AW.cutM (2) st [(2, vL 2 0 (0)), (3, vL 3 0 (1)), (4, vB false), (5, vI z_g), (14, vB false)] [(2, 0, [vI g.kind, vI g.frm, vI g.to, vI g.num, vI g.hi, vS g.tree.p g.tree.l.length, vI g.tree.root, vS g.vec.p g.vec.l.length, vS g.leaves.p g.leaves.l.length, vS g.part.p g.part.x.items.length, vS g.part.q g.part.x.floors.length, vS g.marks.p g.marks.l.length]), (3, 1, [vI h.kind, vI h.frm, vI h.to, vI h.num, vI h.hi, vS h.tree.p h.tree.l.length, vI h.tree.root, vS h.vec.p h.vec.l.length, vS h.leaves.p h.leaves.l.length, vS h.part.p h.part.x.items.length, vS h.part.q h.part.x.floors.length, vS h.marks.p h.marks.l.length])] ⟨rfl, rfl, rfl, rfl, rfl, trivial⟩ ⟨rfl, rfl, trivial⟩ rfl fun ρ0 ff => ?_
    refine cx_sound _ _ _ _ _ ?_
    refine ⟨_, rfl, ?_⟩
    refine ⟨_, rfl, (ac_laws_szMsg h z_g st hR_h.1 (by omega) (by omega) hR_h.2).mono ?_⟩
    rintro _ st ⟨z_h, rfl, hr_h, hz_h, rfl⟩
    refine AW.cutM (2) st [(2, vL 2 0 (0)), (3, vL 3 0 (1)), (4, vB false), (5, vI z_h)] [(2, 0, [vI g.kind, vI g.frm, vI g.to, vI g.num, vI g.hi, vS g.tree.p g.tree.l.length, vI g.tree.root, vS g.vec.p g.vec.l.length, vS g.leaves.p g.leaves.l.length, vS g.part.p g.part.x.items.length, vS g.part.q g.part.x.floors.length, vS g.marks.p g.marks.l.length]), (3, 1, [vI h.kind, vI h.frm, vI h.to, vI h.num, vI h.hi, vS h.tree.p h.tree.l.length, vI h.tree.root, vS h.vec.p h.vec.l.length, vS h.leaves.p h.leaves.l.length, vS h.part.p h.part.x.items.length, vS h.part.q h.part.x.floors.length, vS h.marks.p h.marks.l.length])] ⟨rfl, rfl, rfl, rfl, trivial⟩ ⟨rfl, rfl, trivial⟩ rfl fun ρ0 ff => ?_
    refine ⟨_, rfl, ?_⟩
    rintro (_|_) hn_h
    · replace hn_h : ¬ (z_h < 0) := of_decide_eq_false hn_h
      refine AW.cutM (2) st [(2, vL 2 0 (0)), (3, vL 3 0 (1)), (4, vB false), (19, vB false)] [(2, 0, [vI g.kind, vI g.frm, vI g.to, vI g.num, vI g.hi, vS g.tree.p g.tree.l.length, vI g.tree.root, vS g.vec.p g.vec.l.length, vS g.leaves.p g.leaves.l.length, vS g.part.p g.part.x.items.length, vS g.part.q g.part.x.floors.length, vS g.marks.p g.marks.l.length]), (3, 1, [vI h.kind, vI h.frm, vI h.to, vI h.num, vI h.hi, vS h.tree.p h.tree.l.length, vI h.tree.root, vS h.vec.p h.vec.l.length, vS h.leaves.p h.leaves.l.length, vS h.part.p h.part.x.items.length, vS h.part.q h.part.x.floors.length, vS h.marks.p h.marks.l.length])] ⟨rfl, rfl, rfl, rfl, trivial⟩ ⟨rfl, rfl, trivial⟩ rfl fun ρ0 ff => ?_
      have hz_g' := hz_g (by omega)
      have hz_h' := hz_h (by omega)
      have hb_g := sz_bigM (x := g.x) (by omega)
      have hc_g : cntMsg g.x ≤ 8388608 := (cnt_Msg (by omega))
      have hb_h := sz_bigM (x := h.x) (by omega)
      have hc_h : cntMsg h.x ≤ 8388608 := (cnt_Msg (by omega))
      refine cx_sound _ _ _ _ _ ?_
      refine ⟨_, rfl, ?_⟩
      refine ⟨_, rfl, (ac_laws_toMsg g st hR_g.1 hb_g).mono ?_⟩
      rintro _ s1 ⟨u1, rfl, hu1, hO1, hN1, hP1⟩
      refine ⟨hP1.2, ?_⟩
      refine ⟨_, rfl, ?_⟩
      refine ⟨ld_own rfl rfl rfl, ?_⟩
      refine ⟨_, rfl, (ac_laws_toMsg h s1 (hR_h.1.pres hP1) hb_h).mono ?_⟩
      rintro _ s2 ⟨u2, rfl, hu2, hO2, hN2, hP2⟩
      refine ⟨_, rfl, (ac_spec_MsgSame u1 u2 s2 (OwnP.rdM (OwnP.left (OwnP.right (OwnP.joinF (OwnP.joinF OwnP.nil hP1 hO1 hN1) hP2 hO2 hN2)))) (OwnP.rdM (OwnP.left (OwnP.joinF (OwnP.joinF OwnP.nil hP1 hO1 hN1) hP2 hO2 hN2))) (hu1 ▸ hb_g)).mono ?_⟩
      rintro _ s2 ⟨b3, rfl, hr3, rfl⟩
      refine AW.cutM (2) s2 [(2, vL 2 0 (0)), (3, vL 3 0 (1)), (4, vB false), (6, vB b3)] [(2, 0, [vI g.kind, vI g.frm, vI g.to, vI g.num, vI g.hi, vS g.tree.p g.tree.l.length, vI g.tree.root, vS g.vec.p g.vec.l.length, vS g.leaves.p g.leaves.l.length, vS g.part.p g.part.x.items.length, vS g.part.q g.part.x.floors.length, vS g.marks.p g.marks.l.length]), (3, 1, [vI h.kind, vI h.frm, vI h.to, vI h.num, vI h.hi, vS h.tree.p h.tree.l.length, vI h.tree.root, vS h.vec.p h.vec.l.length, vS h.leaves.p h.leaves.l.length, vS h.part.p h.part.x.items.length, vS h.part.q h.part.x.floors.length, vS h.marks.p h.marks.l.length])] ⟨rfl, rfl, rfl, rfl, trivial⟩ ⟨rfl, rfl, trivial⟩ rfl fun ρ0 ff => ?_
      have hA8 : OwnP s2 (pcMV u2 ++ (pcMV u1 ++ [])) := (OwnP.joinF (OwnP.joinF OwnP.nil hP1 hO1 hN1) hP2 hO2 hN2)
      have hQ8 : Pres st s2 := (hP1.trans hP2)
      refine ⟨_, rfl, ?_⟩
      refine ⟨_, rfl, (ac_laws_toMsg g s2 (hR_g.1.pres hQ8) hb_g).mono ?_⟩
      rintro _ s4 ⟨u4, rfl, hu4, hO4, hN4, hP4⟩
      iterate 2 refine ⟨_, rfl, ?_⟩
      refine AW.cutM (3) s4 [(2, vL 2 0 (0)), (3, vL 3 0 (1)), (4, vB false), (6, vB b3), (7, vL 7 0 (2))] [(2, 0, [vI g.kind, vI g.frm, vI g.to, vI g.num, vI g.hi, vS g.tree.p g.tree.l.length, vI g.tree.root, vS g.vec.p g.vec.l.length, vS g.leaves.p g.leaves.l.length, vS g.part.p g.part.x.items.length, vS g.part.q g.part.x.floors.length, vS g.marks.p g.marks.l.length]), (3, 1, [vI h.kind, vI h.frm, vI h.to, vI h.num, vI h.hi, vS h.tree.p h.tree.l.length, vI h.tree.root, vS h.vec.p h.vec.l.length, vS h.leaves.p h.leaves.l.length, vS h.part.p h.part.x.items.length, vS h.part.q h.part.x.floors.length, vS h.marks.p h.marks.l.length]), (7, 2, [vI u4.kind, vI u4.frm, vI u4.to, vI u4.num, vI u4.hi, vS u4.tree.p u4.tree.l.length, vI u4.tree.root, vS u4.vec.p u4.vec.l.length, vS u4.leaves.p u4.leaves.l.length, vS u4.part.p u4.part.x.items.length, vS u4.part.q u4.part.x.floors.length, vS u4.marks.p u4.marks.l.length])] ⟨rfl, rfl, rfl, rfl, rfl, trivial⟩ ⟨rfl, rfl, rfl, trivial⟩ rfl fun ρ0 ff => ?_
      have hA9 : OwnP s4 (pcMV u4 ++ (pcMV u2 ++ (pcMV u1 ++ []))) := (OwnP.joinF hA8 hP4 hO4 hN4)
      have hQ9 : Pres st s4 := (hQ8.trans hP4)
      refine ⟨_, rfl, ?_⟩
      refine ⟨_, rfl, (ac_laws_toMsg h s4 (hR_h.1.pres hQ9) hb_h).mono ?_⟩
      rintro _ s5 ⟨u5, rfl, hu5, hO5, hN5, hP5⟩
      iterate 2 refine ⟨_, rfl, ?_⟩
      refine AW.cutM (4) s5 [(2, vL 2 0 (0)), (3, vL 3 0 (1)), (4, vB false), (6, vB b3), (7, vL 7 0 (2)), (8, vL 8 0 (3))] [(2, 0, [vI g.kind, vI g.frm, vI g.to, vI g.num, vI g.hi, vS g.tree.p g.tree.l.length, vI g.tree.root, vS g.vec.p g.vec.l.length, vS g.leaves.p g.leaves.l.length, vS g.part.p g.part.x.items.length, vS g.part.q g.part.x.floors.length, vS g.marks.p g.marks.l.length]), (3, 1, [vI h.kind, vI h.frm, vI h.to, vI h.num, vI h.hi, vS h.tree.p h.tree.l.length, vI h.tree.root, vS h.vec.p h.vec.l.length, vS h.leaves.p h.leaves.l.length, vS h.part.p h.part.x.items.length, vS h.part.q h.part.x.floors.length, vS h.marks.p h.marks.l.length]), (7, 2, [vI u4.kind, vI u4.frm, vI u4.to, vI u4.num, vI u4.hi, vS u4.tree.p u4.tree.l.length, vI u4.tree.root, vS u4.vec.p u4.vec.l.length, vS u4.leaves.p u4.leaves.l.length, vS u4.part.p u4.part.x.items.length, vS u4.part.q u4.part.x.floors.length, vS u4.marks.p u4.marks.l.length]), (8, 3, [vI u5.kind, vI u5.frm, vI u5.to, vI u5.num, vI u5.hi, vS u5.tree.p u5.tree.l.length, vI u5.tree.root, vS u5.vec.p u5.vec.l.length, vS u5.leaves.p u5.leaves.l.length, vS u5.part.p u5.part.x.items.length, vS u5.part.q u5.part.x.floors.length, vS u5.marks.p u5.marks.l.length])] ⟨rfl, rfl, rfl, rfl, rfl, rfl, trivial⟩ ⟨rfl, rfl, rfl, rfl, trivial⟩ rfl fun ρ0 ff => ?_
      have hA10 : OwnP s5 (pcMV u5 ++ (pcMV u4 ++ (pcMV u2 ++ (pcMV u1 ++ [])))) := (OwnP.joinF hA9 hP5 hO5 hN5)
      have hQ10 : Pres st s5 := (hQ9.trans hP5)
      iterate 2 refine ⟨_, rfl, ?_⟩
      refine ⟨_, rfl, (ac_impl_MsgSame u4 u5 s5 (OwnP.rdM (OwnP.left (OwnP.right hA10))) (OwnP.rdM (OwnP.left hA10)) (hu4 ▸ hb_g)).mono ?_⟩
      rintro _ s5 ⟨b6, rfl, hr6, rfl⟩
      refine AW.cutM (4) s5 [(2, vL 2 0 (0)), (3, vL 3 0 (1)), (4, vB false), (6, vB b3), (7, vL 7 0 (2)), (8, vL 8 0 (3)), (9, vB b6)] [(2, 0, [vI g.kind, vI g.frm, vI g.to, vI g.num, vI g.hi, vS g.tree.p g.tree.l.length, vI g.tree.root, vS g.vec.p g.vec.l.length, vS g.leaves.p g.leaves.l.length, vS g.part.p g.part.x.items.length, vS g.part.q g.part.x.floors.length, vS g.marks.p g.marks.l.length]), (3, 1, [vI h.kind, vI h.frm, vI h.to, vI h.num, vI h.hi, vS h.tree.p h.tree.l.length, vI h.tree.root, vS h.vec.p h.vec.l.length, vS h.leaves.p h.leaves.l.length, vS h.part.p h.part.x.items.length, vS h.part.q h.part.x.floors.length, vS h.marks.p h.marks.l.length]), (7, 2, [vI u4.kind, vI u4.frm, vI u4.to, vI u4.num, vI u4.hi, vS u4.tree.p u4.tree.l.length, vI u4.tree.root, vS u4.vec.p u4.vec.l.length, vS u4.leaves.p u4.leaves.l.length, vS u4.part.p u4.part.x.items.length, vS u4.part.q u4.part.x.floors.length, vS u4.marks.p u4.marks.l.length]), (8, 3, [vI u5.kind, vI u5.frm, vI u5.to, vI u5.num, vI u5.hi, vS u5.tree.p u5.tree.l.length, vI u5.tree.root, vS u5.vec.p u5.vec.l.length, vS u5.leaves.p u5.leaves.l.length, vS u5.part.p u5.part.x.items.length, vS u5.part.q u5.part.x.floors.length, vS u5.marks.p u5.marks.l.length])] ⟨rfl, rfl, rfl, rfl, rfl, rfl, rfl, trivial⟩ ⟨rfl, rfl, rfl, rfl, trivial⟩ rfl fun ρ0 ff => ?_
      have hE1 : b6 = b3 := by exact bool_iff hr6 (by rw [hu4, hu5, ← hu1, ← hu2]; exact hr3)
      refine ⟨_, rfl, ?_⟩
      rintro (_|_) he7
      rotate_left
      · exact absurd (hE1) (b_ne he7)
      refine AW.cutM (4) s5 [(2, vL 2 0 (0)), (3, vL 3 0 (1)), (4, vB false), (7, vL 7 0 (2)), (8, vL 8 0 (3)), (34, vB false)] [(2, 0, [vI g.kind, vI g.frm, vI g.to, vI g.num, vI g.hi, vS g.tree.p g.tree.l.length, vI g.tree.root, vS g.vec.p g.vec.l.length, vS g.leaves.p g.leaves.l.length, vS g.part.p g.part.x.items.length, vS g.part.q g.part.x.floors.length, vS g.marks.p g.marks.l.length]), (3, 1, [vI h.kind, vI h.frm, vI h.to, vI h.num, vI h.hi, vS h.tree.p h.tree.l.length, vI h.tree.root, vS h.vec.p h.vec.l.length, vS h.leaves.p h.leaves.l.length, vS h.part.p h.part.x.items.length, vS h.part.q h.part.x.floors.length, vS h.marks.p h.marks.l.length]), (7, 2, [vI u4.kind, vI u4.frm, vI u4.to, vI u4.num, vI u4.hi, vS u4.tree.p u4.tree.l.length, vI u4.tree.root, vS u4.vec.p u4.vec.l.length, vS u4.leaves.p u4.leaves.l.length, vS u4.part.p u4.part.x.items.length, vS u4.part.q u4.part.x.floors.length, vS u4.marks.p u4.marks.l.length]), (8, 3, [vI u5.kind, vI u5.frm, vI u5.to, vI u5.num, vI u5.hi, vS u5.tree.p u5.tree.l.length, vI u5.tree.root, vS u5.vec.p u5.vec.l.length, vS u5.leaves.p u5.leaves.l.length, vS u5.part.p u5.part.x.items.length, vS u5.part.q u5.part.x.floors.length, vS u5.marks.p u5.marks.l.length])] ⟨rfl, rfl, rfl, rfl, rfl, rfl, trivial⟩ ⟨rfl, rfl, rfl, rfl, trivial⟩ rfl fun ρ0 ff => ?_
      refine cx_sound _ _ _ _ _ ?_
      refine ⟨_, rfl, ?_⟩
      refine ⟨ld_own rfl rfl rfl, ?_⟩
      refine ⟨_, rfl, ?_⟩
      refine ⟨_, rfl, (ac_laws_toMsg g s5 (hR_g.1.pres hQ10) hb_g).mono ?_⟩
      rintro _ s8 ⟨u8, rfl, hu8, hO8, hN8, hP8⟩
      refine ⟨hP8.2, ?_⟩
      refine ⟨_, rfl, (AC.tru (ac_laws_eqMsg u4 u8 s8 (OwnP.rdM (OwnP.left (OwnP.right (OwnP.right (OwnP.joinF hA10 hP8 hO8 hN8))))) (OwnP.rdM (OwnP.left (OwnP.joinF hA10 hP8 hO8 hN8))) (hu4 ▸ hb_g)) (hu4.trans hu8.symm)).mono ?_⟩
      rintro _ s8 ⟨rfl, rfl⟩
      refine ⟨_, rfl, ?_⟩
      refine AW.cutM (4) s8 [(3, vL 3 0 (1)), (4, vB false), (8, vL 8 0 (3)), (39, vB false)] [(3, 1, [vI h.kind, vI h.frm, vI h.to, vI h.num, vI h.hi, vS h.tree.p h.tree.l.length, vI h.tree.root, vS h.vec.p h.vec.l.length, vS h.leaves.p h.leaves.l.length, vS h.part.p h.part.x.items.length, vS h.part.q h.part.x.floors.length, vS h.marks.p h.marks.l.length]), (8, 3, [vI u5.kind, vI u5.frm, vI u5.to, vI u5.num, vI u5.hi, vS u5.tree.p u5.tree.l.length, vI u5.tree.root, vS u5.vec.p u5.vec.l.length, vS u5.leaves.p u5.leaves.l.length, vS u5.part.p u5.part.x.items.length, vS u5.part.q u5.part.x.floors.length, vS u5.marks.p u5.marks.l.length])] ⟨rfl, rfl, rfl, rfl, trivial⟩ ⟨rfl, rfl, trivial⟩ rfl fun ρ0 ff => ?_
      have hA14 : OwnP s8 (pcMV u8 ++ (pcMV u5 ++ (pcMV u4 ++ (pcMV u2 ++ (pcMV u1 ++ []))))) := (OwnP.joinF hA10 hP8 hO8 hN8)
      have hQ14 : Pres st s8 := (hQ10.trans hP8)
      refine cx_sound _ _ _ _ _ ?_
      refine ⟨_, rfl, ?_⟩
      refine ⟨ld_own rfl rfl rfl, ?_⟩
      refine ⟨_, rfl, ?_⟩
      refine ⟨_, rfl, (ac_laws_toMsg h s8 (hR_h.1.pres hQ14) hb_h).mono ?_⟩
      rintro _ s9 ⟨u9, rfl, hu9, hO9, hN9, hP9⟩
      refine ⟨hP9.2, ?_⟩
      refine ⟨_, rfl, (AC.tru (ac_laws_eqMsg u5 u9 s9 (OwnP.rdM (OwnP.left (OwnP.right (OwnP.right (OwnP.joinF hA14 hP9 hO9 hN9))))) (OwnP.rdM (OwnP.left (OwnP.joinF hA14 hP9 hO9 hN9))) (hu5 ▸ hb_h)) (hu5.trans hu9.symm)).mono ?_⟩
      rintro _ s9 ⟨rfl, rfl⟩
      refine ⟨_, rfl, ?_⟩
      refine AW.cutM (4) s9 [(4, vB false), (44, vB false)] [] ⟨rfl, rfl, trivial⟩ trivial rfl fun ρ0 ff => ?_
      have hA16 : OwnP s9 (pcMV u9 ++ (pcMV u8 ++ (pcMV u5 ++ (pcMV u4 ++ (pcMV u2 ++ (pcMV u1 ++ [])))))) := (OwnP.joinF hA14 hP9 hO9 hN9)
      have hQ16 : Pres st s9 := (hQ14.trans hP9)
      refine cx_sound _ _ _ _ _ ?_
      refine cx_sound _ _ _ _ _ ?_
      exact ⟨.inl rfl, _, rfl, rfl⟩
    · replace hn_h : z_h < 0 := of_decide_eq_true hn_h
      refine AW.cutM (2) st [(2, vL 2 0 (0)), (3, vL 3 0 (1)), (4, vB false), (19, vB true)] [(2, 0, [vI g.kind, vI g.frm, vI g.to, vI g.num, vI g.hi, vS g.tree.p g.tree.l.length, vI g.tree.root, vS g.vec.p g.vec.l.length, vS g.leaves.p g.leaves.l.length, vS g.part.p g.part.x.items.length, vS g.part.q g.part.x.floors.length, vS g.marks.p g.marks.l.length]), (3, 1, [vI h.kind, vI h.frm, vI h.to, vI h.num, vI h.hi, vS h.tree.p h.tree.l.length, vI h.tree.root, vS h.vec.p h.vec.l.length, vS h.leaves.p h.leaves.l.length, vS h.part.p h.part.x.items.length, vS h.part.q h.part.x.floors.length, vS h.marks.p h.marks.l.length])] ⟨rfl, rfl, rfl, rfl, trivial⟩ ⟨rfl, rfl, trivial⟩ rfl fun ρ0 ff => ?_
      refine cx_sound _ _ _ _ _ ?_
      exact ⟨.inl rfl, _, rfl, rfl⟩
  · replace hn_g : z_g < 0 := of_decide_eq_true hn_g
    refine AW.cutM (2) st [(2, vL 2 0 (0)), (3, vL 3 0 (1)), (4, vB false), (5, vI z_g), (14, vB true)] [(2, 0, [vI g.kind, vI g.frm, vI g.to, vI g.num, vI g.hi, vS g.tree.p g.tree.l.length, vI g.tree.root, vS g.vec.p g.vec.l.length, vS g.leaves.p g.leaves.l.length, vS g.part.p g.part.x.items.length, vS g.part.q g.part.x.floors.length, vS g.marks.p g.marks.l.length]), (3, 1, [vI h.kind, vI h.frm, vI h.to, vI h.num, vI h.hi, vS h.tree.p h.tree.l.length, vI h.tree.root, vS h.vec.p h.vec.l.length, vS h.leaves.p h.leaves.l.length, vS h.part.p h.part.x.items.length, vS h.part.q h.part.x.floors.length, vS h.marks.p h.marks.l.length])] ⟨rfl, rfl, rfl, rfl, rfl, trivial⟩ ⟨rfl, rfl, trivial⟩ rfl fun ρ0 ff => ?_
    refine cx_sound _ _ _ _ _ ?_
    exact ⟨.inl rfl, _, rfl, rfl⟩

end Go.Proofs.Ytopcpcoklgepnaa.AM
