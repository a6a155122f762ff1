/- The laws of messages and nodes compared, of messages checked, of slots looked for, on the abstract machine. -/
import Derived.Test.YtopcpcoklgepnaaV5
import Derived.Test.YtopcpcoklgepnaaV7
namespace Go.Proofs.Ytopcpcoklgepnaa.AM
open Go Go.Proofs
set_option linter.unusedVariables false
set_option linter.unusedSimpArgs false
set_option maxRecDepth 100000
set_option maxHeartbeats 4000000
theorem ac_laws_FnExactMsgOk (g : MV) (st : St) (hR_g : RdM st g ∧ maxM g.x) : C 7 [.agg #[vI g.kind, vI g.frm, vI g.to, vI g.num, vI g.hi, vS g.tree.p g.tree.l.length, vI g.tree.root, vS g.vec.p g.vec.l.length, vS g.leaves.p g.leaves.l.length, vS g.part.p g.part.x.items.length, vS g.part.q g.part.x.floors.length, vS g.marks.p g.marks.l.length]] st (fun v s => v = vB true) := by
  refine AC.enterX (i := ⟨[1, 5], [1, 5], [0, 1, 2, 3, 4, 5, 6, 11, 21, 26]⟩) [(10, [2], [0])] Try.func7 rfl rfl (by kernel_rfl) (by kernel_rfl) Try.ntmps7 (Nat.le_of_ble_eq_true rfl) rfl ?_
  refine ⟨_, rfl, ?_⟩
  refine cx_sound _ _ _ _ _ ?_
  refine AW.cutM (1) st [(1, vL 1 0 (0)), (2, vB false), (3, vI (1048576))] [(1, 0, [vI g.kind, vI g.frm, vI g.to, vI g.num, vI g.hi, vS g.tree.p g.tree.l.length, vI g.tree.root, vS g.vec.p g.vec.l.length, vS g.leaves.p g.leaves.l.length, vS g.part.p g.part.x.items.length, vS g.part.q g.part.x.floors.length, vS g.marks.p g.marks.l.length])] ⟨rfl, rfl, rfl, trivial⟩ ⟨rfl, trivial⟩ rfl fun ρ0 ff => ?_
  refine ⟨_, rfl, ?_⟩
  refine ⟨_, rfl, (ac_laws_szMsg g 1048576 st hR_g.1 (by decide) (by decide) hR_g.2).mono ?_⟩
  rintro _ st ⟨z_g, rfl, hr_g, hz_g, rfl⟩
  refine AW.cutM (1) st [(1, vL 1 0 (0)), (2, vB false), (3, vI z_g)] [(1, 0, [vI g.kind, vI g.frm, vI g.to, vI g.num, vI g.hi, vS g.tree.p g.tree.l.length, vI g.tree.root, vS g.vec.p g.vec.l.length, vS g.leaves.p g.leaves.l.length, vS g.part.p g.part.x.items.length, vS g.part.q g.part.x.floors.length, vS g.marks.p g.marks.l.length])] ⟨rfl, rfl, rfl, trivial⟩ ⟨rfl, trivial⟩ rfl fun ρ0 ff => ?_
  refine ⟨_, rfl, ?_⟩
  rintro (_|_) hn_g
  · replace hn_g : ¬ (z_g < 0) := of_decide_eq_false hn_g
    refine AW.cutM (1) st [(1, vL 1 0 (0)), (2, vB false), (11, vB false)] [(1, 0, [vI g.kind, vI g.frm, vI g.to, vI g.num, vI g.hi, vS g.tree.p g.tree.l.length, vI g.tree.root, vS g.vec.p g.vec.l.length, vS g.leaves.p g.leaves.l.length, vS g.part.p g.part.x.items.length, vS g.part.q g.part.x.floors.length, vS g.marks.p g.marks.l.length])] ⟨rfl, rfl, rfl, trivial⟩ ⟨rfl, trivial⟩ rfl fun ρ0 ff => ?_
    have hz_g' := hz_g (by omega)
    have hb_g := sz_bigM (x := g.x) (by omega)
    have hc_g : cntMsg g.x ≤ 8388608 := (cnt_Msg (by omega))
    refine cx_sound _ _ _ _ _ ?_
    refine ⟨_, rfl, ?_⟩
    refine ⟨_, rfl, (ac_laws_toMsg g st hR_g.1 hb_g).mono ?_⟩
    rintro _ s1 ⟨u1, rfl, hu1, hO1, hN1, hP1⟩
    refine ⟨_, rfl, (ac_spec_MsgOk u1 s1 (OwnP.rdM (OwnP.left (OwnP.joinF OwnP.nil hP1 hO1 hN1))) (hu1 ▸ hb_g)).mono ?_⟩
    rintro _ s1 ⟨b2, rfl, hr2, rfl⟩
    refine AW.cutM (1) s1 [(1, vL 1 0 (0)), (2, vB false), (4, vB b2)] [(1, 0, [vI g.kind, vI g.frm, vI g.to, vI g.num, vI g.hi, vS g.tree.p g.tree.l.length, vI g.tree.root, vS g.vec.p g.vec.l.length, vS g.leaves.p g.leaves.l.length, vS g.part.p g.part.x.items.length, vS g.part.q g.part.x.floors.length, vS g.marks.p g.marks.l.length])] ⟨rfl, rfl, rfl, trivial⟩ ⟨rfl, trivial⟩ rfl fun ρ0 ff => ?_
    have hA5 : OwnP s1 (pcMV u1 ++ []) := (OwnP.joinF OwnP.nil hP1 hO1 hN1)
    refine ⟨_, rfl, ?_⟩
    refine ⟨_, rfl, (ac_laws_toMsg g s1 (hR_g.1.pres hP1) hb_g).mono ?_⟩
    rintro _ s3 ⟨u3, rfl, hu3, hO3, hN3, hP3⟩
    iterate 2 refine ⟨_, rfl, ?_⟩
    refine AW.cutM (2) s3 [(1, vL 1 0 (0)), (2, vB false), (4, vB b2), (5, vL 5 0 (1))] [(1, 0, [vI g.kind, vI g.frm, vI g.to, vI g.num, vI g.hi, vS g.tree.p g.tree.l.length, vI g.tree.root, vS g.vec.p g.vec.l.length, vS g.leaves.p g.leaves.l.length, vS g.part.p g.part.x.items.length, vS g.part.q g.part.x.floors.length, vS g.marks.p g.marks.l.length]), (5, 1, [vI u3.kind, vI u3.frm, vI u3.to, vI u3.num, vI u3.hi, vS u3.tree.p u3.tree.l.length, vI u3.tree.root, vS u3.vec.p u3.vec.l.length, vS u3.leaves.p u3.leaves.l.length, vS u3.part.p u3.part.x.items.length, vS u3.part.q u3.part.x.floors.length, vS u3.marks.p u3.marks.l.length])] ⟨rfl, rfl, rfl, rfl, trivial⟩ ⟨rfl, rfl, trivial⟩ rfl fun ρ0 ff => ?_
    have hA6 : OwnP s3 (pcMV u3 ++ (pcMV u1 ++ [])) := (OwnP.joinF hA5 hP3 hO3 hN3)
    have hQ6 : Pres st s3 := (hP1.trans hP3)
    refine ⟨_, rfl, ?_⟩
    refine ⟨_, rfl, (ac_impl_MsgOk u3 s3 (OwnP.rdM (OwnP.left hA6)) (hu3 ▸ hb_g)).mono ?_⟩
    rintro _ s3 ⟨b4, rfl, hr4, rfl⟩
    refine AW.cutM (2) s3 [(1, vL 1 0 (0)), (2, vB false), (4, vB b2), (5, vL 5 0 (1)), (6, vB b4)] [(1, 0, [vI g.kind, vI g.frm, vI g.to, vI g.num, vI g.hi, vS g.tree.p g.tree.l.length, vI g.tree.root, vS g.vec.p g.vec.l.length, vS g.leaves.p g.leaves.l.length, vS g.part.p g.part.x.items.length, vS g.part.q g.part.x.floors.length, vS g.marks.p g.marks.l.length]), (5, 1, [vI u3.kind, vI u3.frm, vI u3.to, vI u3.num, vI u3.hi, vS u3.tree.p u3.tree.l.length, vI u3.tree.root, vS u3.vec.p u3.vec.l.length, vS u3.leaves.p u3.leaves.l.length, vS u3.part.p u3.part.x.items.length, vS u3.part.q u3.part.x.floors.length, vS u3.marks.p u3.marks.l.length])] ⟨rfl, rfl, rfl, rfl, rfl, trivial⟩ ⟨rfl, rfl, trivial⟩ rfl fun ρ0 ff => ?_
    have hE1 : b4 = b2 := by exact bool_iff hr4 (by rw [hu3, ← hu1]; exact hr2)
    refine ⟨_, rfl, ?_⟩
    rintro (_|_) he5
    rotate_left
    · exact absurd (hE1) (b_ne he5)
    refine AW.cutM (2) s3 [(1, vL 1 0 (0)), (2, vB false), (5, vL 5 0 (1)), (21, vB false)] [(1, 0, [vI g.kind, vI g.frm, vI g.to, vI g.num, vI g.hi, vS g.tree.p g.tree.l.length, vI g.tree.root, vS g.vec.p g.vec.l.length, vS g.leaves.p g.leaves.l.length, vS g.part.p g.part.x.items.length, vS g.part.q g.part.x.floors.length, vS g.marks.p g.marks.l.length]), (5, 1, [vI u3.kind, vI u3.frm, vI u3.to, vI u3.num, vI u3.hi, vS u3.tree.p u3.tree.l.length, vI u3.tree.root, vS u3.vec.p u3.vec.l.length, vS u3.leaves.p u3.leaves.l.length, vS u3.part.p u3.part.x.items.length, vS u3.part.q u3.part.x.floors.length, vS u3.marks.p u3.marks.l.length])] ⟨rfl, rfl, rfl, rfl, trivial⟩ ⟨rfl, rfl, trivial⟩ rfl fun ρ0 ff => ?_
    refine cx_sound _ _ _ _ _ ?_
    refine ⟨_, rfl, ?_⟩
    refine ⟨ld_own rfl rfl rfl, ?_⟩
    refine ⟨_, rfl, ?_⟩
    refine ⟨_, rfl, (ac_laws_toMsg g s3 (hR_g.1.pres hQ6) hb_g).mono ?_⟩
    rintro _ s6 ⟨u6, rfl, hu6, hO6, hN6, hP6⟩
    refine ⟨hP6.2, ?_⟩
    refine ⟨_, rfl, (AC.tru (ac_laws_eqMsg u3 u6 s6 (OwnP.rdM (OwnP.left (OwnP.right (OwnP.joinF hA6 hP6 hO6 hN6)))) (OwnP.rdM (OwnP.left (OwnP.joinF hA6 hP6 hO6 hN6))) (hu3 ▸ hb_g)) (hu3.trans hu6.symm)).mono ?_⟩
    rintro _ s6 ⟨rfl, rfl⟩
    refine ⟨_, rfl, ?_⟩
    refine AW.cutM (2) s6 [(2, vB false), (26, vB false)] [] ⟨rfl, rfl, trivial⟩ trivial rfl fun ρ0 ff => ?_
    have hA10 : OwnP s6 (pcMV u6 ++ (pcMV u3 ++ (pcMV u1 ++ []))) := (OwnP.joinF hA6 hP6 hO6 hN6)
    have hQ10 : Pres st s6 := (hQ6.trans hP6)
    refine cx_sound _ _ _ _ _ ?_
    refine cx_sound _ _ _ _ _ ?_
    exact ⟨.inl rfl, _, rfl, rfl⟩
  · replace hn_g : z_g < 0 := of_decide_eq_true hn_g
    refine AW.cutM (1) st [(1, vL 1 0 (0)), (2, vB false), (11, vB true)] [(1, 0, [vI g.kind, vI g.frm, vI g.to, vI g.num, vI g.hi, vS g.tree.p g.tree.l.length, vI g.tree.root, vS g.vec.p g.vec.l.length, vS g.leaves.p g.leaves.l.length, vS g.part.p g.part.x.items.length, vS g.part.q g.part.x.floors.length, vS g.marks.p g.marks.l.length])] ⟨rfl, rfl, rfl, trivial⟩ ⟨rfl, trivial⟩ rfl fun ρ0 ff => ?_
    refine cx_sound _ _ _ _ _ ?_
    exact ⟨.inl rfl, _, rfl, rfl⟩

end Go.Proofs.Ytopcpcoklgepnaa.AM
