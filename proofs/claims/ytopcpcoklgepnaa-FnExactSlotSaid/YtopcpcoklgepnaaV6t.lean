/- The laws of messages and nodes compared, of messages checked, of slots looked for, on the abstract machine. -/
import Derived.Test.YtopcpcoklgepnaaV5
import Derived.Test.YtopcpcoklgepnaaV7
namespace Go.Proofs.Ytopcpcoklgepnaa.AM
open Go Go.Proofs
set_option linter.unusedVariables false
set_option linter.unusedSimpArgs false
set_option maxRecDepth 100000
set_option maxHeartbeats 4000000
theorem bigNW {u : NW} (h : bigN u.x) : bigN u.v.x := h
theorem ac_laws_FnExactSlot (g : NV) (p : Int) (b : Bool) (st : St) (hR_g : RdN st g ∧ maxN g) (hw_p : (Lit.int .i64 p).wf = true)  : C 9 [.agg #[vI g.id, vI g.n, vS g.s.p g.s.x.items.length, vS g.s.q g.s.x.floors.length, vS g.t.p g.t.l.length, vI g.t.root, vI g.g.cap, vI g.g.frm, vS g.g.p g.g.l.length, vS g.got.p g.got.l.length, vS g.acked.p g.acked.l.length, vS g.seen.p g.seen.t.length, vI g.num, vI g.slots, vS g.sess.p g.sess.l.length, vI g.wait, vI g.limit, vI g.clock, vS g.rises.p g.rises.l.length], vI p, vB b] st (fun v s => v = vB true) := by
  refine AC.enterX (i := ⟨[3, 9], [3, 9], [0, 1, 2, 3, 6, 7, 8, 9, 10, 15, 29, 34]⟩) [(10, [2], [0])] Try.func9 rfl rfl (by kernel_rfl) (by kernel_rfl) Try.ntmps9 (Nat.le_of_ble_eq_true rfl) rfl ?_
  refine ⟨_, rfl, ?_⟩
  refine cx_sound _ _ _ _ _ ?_
  refine AW.cutM (1) st [(1, vI p), (2, vB b), (3, vL 3 0 (0)), (6, vB false), (7, vI (1048576))] [(3, 0, [vI g.id, vI g.n, vS g.s.p g.s.x.items.length, vS g.s.q g.s.x.floors.length, vS g.t.p g.t.l.length, vI g.t.root, vI g.g.cap, vI g.g.frm, vS g.g.p g.g.l.length, vS g.got.p g.got.l.length, vS g.acked.p g.acked.l.length, vS g.seen.p g.seen.t.length, vI g.num, vI g.slots, vS g.sess.p g.sess.l.length, vI g.wait, vI g.limit, vI g.clock, vS g.rises.p g.rises.l.length])] ⟨rfl, rfl, rfl, rfl, rfl, trivial⟩ ⟨rfl, trivial⟩ rfl fun ρ0 ff => ?_
  refine ⟨_, op_ldo (v := .agg #[vI g.id, vI g.n, vS g.s.p g.s.x.items.length, vS g.s.q g.s.x.floors.length, vS g.t.p g.t.l.length, vI g.t.root, vI g.g.cap, vI g.g.frm, vS g.g.p g.g.l.length, vS g.got.p g.got.l.length, vS g.acked.p g.acked.l.length, vS g.seen.p g.seen.t.length, vI g.num, vI g.slots, vS g.sess.p g.sess.l.length, vI g.wait, vI g.limit, vI g.clock, vS g.rises.p g.rises.l.length]) rfl rfl rfl rfl, ?_⟩
  refine ⟨_, rfl, (ac_laws_szNode g 1048576 st hR_g.1 (by decide) (by decide) hR_g.2).mono ?_⟩
  rintro _ st ⟨z_g, rfl, hr_g, hz_g, rfl⟩
  refine AW.cutM (1) st [(1, vI p), (2, vB b), (3, vL 3 0 (0)), (6, vB false), (7, vI z_g)] [(3, 0, [vI g.id, vI g.n, vS g.s.p g.s.x.items.length, vS g.s.q g.s.x.floors.length, vS g.t.p g.t.l.length, vI g.t.root, vI g.g.cap, vI g.g.frm, vS g.g.p g.g.l.length, vS g.got.p g.got.l.length, vS g.acked.p g.acked.l.length, vS g.seen.p g.seen.t.length, vI g.num, vI g.slots, vS g.sess.p g.sess.l.length, vI g.wait, vI g.limit, vI g.clock, vS g.rises.p g.rises.l.length])] ⟨rfl, rfl, rfl, rfl, rfl, trivial⟩ ⟨rfl, trivial⟩ rfl fun ρ0 ff => ?_
  refine ⟨_, rfl, ?_⟩
  rintro (_|_) hn_g
  · replace hn_g : ¬ (z_g < 0) := of_decide_eq_false hn_g
    refine AW.cutM (1) st [(1, vI p), (2, vB b), (3, vL 3 0 (0)), (6, vB false), (15, vB false)] [(3, 0, [vI g.id, vI g.n, vS g.s.p g.s.x.items.length, vS g.s.q g.s.x.floors.length, vS g.t.p g.t.l.length, vI g.t.root, vI g.g.cap, vI g.g.frm, vS g.g.p g.g.l.length, vS g.got.p g.got.l.length, vS g.acked.p g.acked.l.length, vS g.seen.p g.seen.t.length, vI g.num, vI g.slots, vS g.sess.p g.sess.l.length, vI g.wait, vI g.limit, vI g.clock, vS g.rises.p g.rises.l.length])] ⟨rfl, rfl, rfl, rfl, rfl, trivial⟩ ⟨rfl, trivial⟩ rfl fun ρ0 ff => ?_
    have hz_g' := hz_g (by omega)
    have hb_g := sz_bigN (v := g) (by omega)
    have hc_g : cntNode g.x ≤ 8388608 := (cnt_Node (v := g) (by omega))
    refine cx_sound _ _ _ _ _ ?_
    refine ⟨_, op_ldo (v := .agg #[vI g.id, vI g.n, vS g.s.p g.s.x.items.length, vS g.s.q g.s.x.floors.length, vS g.t.p g.t.l.length, vI g.t.root, vI g.g.cap, vI g.g.frm, vS g.g.p g.g.l.length, vS g.got.p g.got.l.length, vS g.acked.p g.acked.l.length, vS g.seen.p g.seen.t.length, vI g.num, vI g.slots, vS g.sess.p g.sess.l.length, vI g.wait, vI g.limit, vI g.clock, vS g.rises.p g.rises.l.length]) rfl rfl rfl rfl, ?_⟩
    refine ⟨_, rfl, (ac_laws_toNode g st hR_g.1 hb_g).mono ?_⟩
    rintro _ s1 ⟨u1, rfl, hu1, hO1, hN1, hP1⟩
    refine ⟨_, rfl, (ac_spec_Slot u1.v p b s1 (OwnP.rdN (OwnP.left (OwnP.joinF OwnP.nil hP1 hO1 hN1))) (bigNW (hu1 ▸ hb_g))).mono ?_⟩
    rintro _ s1 ⟨rfl, rfl⟩
    refine AW.cutM (1) s1 [(1, vI p), (2, vB b), (3, vL 3 0 (0)), (6, vB false), (8, vI (slotF u1.sess.l p b 0))] [(3, 0, [vI g.id, vI g.n, vS g.s.p g.s.x.items.length, vS g.s.q g.s.x.floors.length, vS g.t.p g.t.l.length, vI g.t.root, vI g.g.cap, vI g.g.frm, vS g.g.p g.g.l.length, vS g.got.p g.got.l.length, vS g.acked.p g.acked.l.length, vS g.seen.p g.seen.t.length, vI g.num, vI g.slots, vS g.sess.p g.sess.l.length, vI g.wait, vI g.limit, vI g.clock, vS g.rises.p g.rises.l.length])] ⟨rfl, rfl, rfl, rfl, rfl, trivial⟩ ⟨rfl, trivial⟩ rfl fun ρ0 ff => ?_
    have hA5 : OwnP s1 (pcNW u1 ++ []) := (OwnP.joinF OwnP.nil hP1 hO1 hN1)
    refine ⟨_, op_ldo (v := .agg #[vI g.id, vI g.n, vS g.s.p g.s.x.items.length, vS g.s.q g.s.x.floors.length, vS g.t.p g.t.l.length, vI g.t.root, vI g.g.cap, vI g.g.frm, vS g.g.p g.g.l.length, vS g.got.p g.got.l.length, vS g.acked.p g.acked.l.length, vS g.seen.p g.seen.t.length, vI g.num, vI g.slots, vS g.sess.p g.sess.l.length, vI g.wait, vI g.limit, vI g.clock, vS g.rises.p g.rises.l.length]) rfl rfl rfl rfl, ?_⟩
    refine ⟨_, rfl, (ac_laws_toNode g s1 (hR_g.1.pres hP1) hb_g).mono ?_⟩
    rintro _ s3 ⟨u3, rfl, hu3, hO3, hN3, hP3⟩
    refine ⟨_, rfl, ?_⟩
    refine ⟨_, op_stw (vs := [vI u3.id, vI u3.n, vS u3.s.p u3.s.x.items.length, vS u3.s.q u3.s.x.floors.length, vS u3.t.p u3.t.l.length, vI u3.t.root, vI u3.g.cap, vI u3.g.frm, vS u3.g.p u3.g.l.length, vS u3.got.p u3.got.l.length, vS u3.acked.p u3.acked.l.length, vS u3.seen.p u3.seen.t.length, vI u3.num, vI u3.slots, vS u3.sess.p u3.sess.l.length, vI u3.wait, vI u3.limit, vI u3.clock, vS u3.rises.p u3.rises.l.length]) rfl rfl rfl rfl rfl rfl rfl rfl, ?_⟩
    refine AW.cutM (2) s3 [(1, vI p), (2, vB b), (3, vL 3 0 (0)), (6, vB false), (8, vI (slotF u1.sess.l p b 0)), (9, vL 9 0 (1))] [(3, 0, [vI g.id, vI g.n, vS g.s.p g.s.x.items.length, vS g.s.q g.s.x.floors.length, vS g.t.p g.t.l.length, vI g.t.root, vI g.g.cap, vI g.g.frm, vS g.g.p g.g.l.length, vS g.got.p g.got.l.length, vS g.acked.p g.acked.l.length, vS g.seen.p g.seen.t.length, vI g.num, vI g.slots, vS g.sess.p g.sess.l.length, vI g.wait, vI g.limit, vI g.clock, vS g.rises.p g.rises.l.length]), (9, 1, [vI u3.id, vI u3.n, vS u3.s.p u3.s.x.items.length, vS u3.s.q u3.s.x.floors.length, vS u3.t.p u3.t.l.length, vI u3.t.root, vI u3.g.cap, vI u3.g.frm, vS u3.g.p u3.g.l.length, vS u3.got.p u3.got.l.length, vS u3.acked.p u3.acked.l.length, vS u3.seen.p u3.seen.t.length, vI u3.num, vI u3.slots, vS u3.sess.p u3.sess.l.length, vI u3.wait, vI u3.limit, vI u3.clock, vS u3.rises.p u3.rises.l.length])] ⟨rfl, rfl, rfl, rfl, rfl, rfl, trivial⟩ ⟨rfl, rfl, trivial⟩ rfl fun ρ0 ff => ?_
    have hA6 : OwnP s3 (pcNW u3 ++ (pcNW u1 ++ [])) := (OwnP.joinF hA5 hP3 hO3 hN3)
    have hQ6 : Pres st s3 := (hP1.trans hP3)
    refine ⟨_, op_ldo (v := .agg #[vI u3.id, vI u3.n, vS u3.s.p u3.s.x.items.length, vS u3.s.q u3.s.x.floors.length, vS u3.t.p u3.t.l.length, vI u3.t.root, vI u3.g.cap, vI u3.g.frm, vS u3.g.p u3.g.l.length, vS u3.got.p u3.got.l.length, vS u3.acked.p u3.acked.l.length, vS u3.seen.p u3.seen.t.length, vI u3.num, vI u3.slots, vS u3.sess.p u3.sess.l.length, vI u3.wait, vI u3.limit, vI u3.clock, vS u3.rises.p u3.rises.l.length]) rfl rfl rfl rfl, ?_⟩
    refine ⟨_, rfl, (ac_impl_Slot u3.v p b s3 (OwnP.rdN (OwnP.left hA6)) (bigNW (hu3 ▸ hb_g))).mono ?_⟩
    rintro _ s3 ⟨rfl, rfl⟩
    refine AW.cutM (2) s3 [(3, vL 3 0 (0)), (6, vB false), (8, vI (slotF u1.sess.l p b 0)), (9, vL 9 0 (1)), (10, vI (slotF u3.sess.l p b 0))] [(3, 0, [vI g.id, vI g.n, vS g.s.p g.s.x.items.length, vS g.s.q g.s.x.floors.length, vS g.t.p g.t.l.length, vI g.t.root, vI g.g.cap, vI g.g.frm, vS g.g.p g.g.l.length, vS g.got.p g.got.l.length, vS g.acked.p g.acked.l.length, vS g.seen.p g.seen.t.length, vI g.num, vI g.slots, vS g.sess.p g.sess.l.length, vI g.wait, vI g.limit, vI g.clock, vS g.rises.p g.rises.l.length]), (9, 1, [vI u3.id, vI u3.n, vS u3.s.p u3.s.x.items.length, vS u3.s.q u3.s.x.floors.length, vS u3.t.p u3.t.l.length, vI u3.t.root, vI u3.g.cap, vI u3.g.frm, vS u3.g.p u3.g.l.length, vS u3.got.p u3.got.l.length, vS u3.acked.p u3.acked.l.length, vS u3.seen.p u3.seen.t.length, vI u3.num, vI u3.slots, vS u3.sess.p u3.sess.l.length, vI u3.wait, vI u3.limit, vI u3.clock, vS u3.rises.p u3.rises.l.length])] ⟨rfl, rfl, rfl, rfl, rfl, trivial⟩ ⟨rfl, rfl, trivial⟩ rfl fun ρ0 ff => ?_
    have hE1 : slotF u3.sess.l p b 0 = slotF u1.sess.l p b 0 := by rw [show u3.sess.l = g.sess.l from congrArg Nd.sess hu3, show u1.sess.l = g.sess.l from congrArg Nd.sess hu1]
    refine ⟨_, rfl, ?_⟩
    rintro (_|_) he5
    rotate_left
    · exact absurd (hE1) (bne_iff_ne.1 he5)
    refine AW.cutM (2) s3 [(3, vL 3 0 (0)), (6, vB false), (9, vL 9 0 (1)), (29, vB false)] [(3, 0, [vI g.id, vI g.n, vS g.s.p g.s.x.items.length, vS g.s.q g.s.x.floors.length, vS g.t.p g.t.l.length, vI g.t.root, vI g.g.cap, vI g.g.frm, vS g.g.p g.g.l.length, vS g.got.p g.got.l.length, vS g.acked.p g.acked.l.length, vS g.seen.p g.seen.t.length, vI g.num, vI g.slots, vS g.sess.p g.sess.l.length, vI g.wait, vI g.limit, vI g.clock, vS g.rises.p g.rises.l.length]), (9, 1, [vI u3.id, vI u3.n, vS u3.s.p u3.s.x.items.length, vS u3.s.q u3.s.x.floors.length, vS u3.t.p u3.t.l.length, vI u3.t.root, vI u3.g.cap, vI u3.g.frm, vS u3.g.p u3.g.l.length, vS u3.got.p u3.got.l.length, vS u3.acked.p u3.acked.l.length, vS u3.seen.p u3.seen.t.length, vI u3.num, vI u3.slots, vS u3.sess.p u3.sess.l.length, vI u3.wait, vI u3.limit, vI u3.clock, vS u3.rises.p u3.rises.l.length])] ⟨rfl, rfl, rfl, rfl, trivial⟩ ⟨rfl, rfl, trivial⟩ rfl fun ρ0 ff => ?_
    refine cx_sound _ _ _ _ _ ?_
    refine ⟨_, op_ldo (v := .agg #[vI u3.id, vI u3.n, vS u3.s.p u3.s.x.items.length, vS u3.s.q u3.s.x.floors.length, vS u3.t.p u3.t.l.length, vI u3.t.root, vI u3.g.cap, vI u3.g.frm, vS u3.g.p u3.g.l.length, vS u3.got.p u3.got.l.length, vS u3.acked.p u3.acked.l.length, vS u3.seen.p u3.seen.t.length, vI u3.num, vI u3.slots, vS u3.sess.p u3.sess.l.length, vI u3.wait, vI u3.limit, vI u3.clock, vS u3.rises.p u3.rises.l.length]) rfl rfl rfl rfl, ?_⟩
    refine ⟨ld_own rfl rfl rfl, ?_⟩
    refine ⟨_, op_ldo (v := .agg #[vI g.id, vI g.n, vS g.s.p g.s.x.items.length, vS g.s.q g.s.x.floors.length, vS g.t.p g.t.l.length, vI g.t.root, vI g.g.cap, vI g.g.frm, vS g.g.p g.g.l.length, vS g.got.p g.got.l.length, vS g.acked.p g.acked.l.length, vS g.seen.p g.seen.t.length, vI g.num, vI g.slots, vS g.sess.p g.sess.l.length, vI g.wait, vI g.limit, vI g.clock, vS g.rises.p g.rises.l.length]) rfl rfl rfl rfl, ?_⟩
    refine ⟨_, rfl, (ac_laws_toNode g s3 (hR_g.1.pres hQ6) hb_g).mono ?_⟩
    rintro _ s6 ⟨u6, rfl, hu6, hO6, hN6, hP6⟩
    refine ⟨hP6.2, ?_⟩
    refine ⟨_, rfl, (AC.tru (uc_eqNode u3 u6 s6 (OwnP.rdN (OwnP.left (OwnP.right (OwnP.joinF hA6 hP6 hO6 hN6)))) (OwnP.rdN (OwnP.left (OwnP.joinF hA6 hP6 hO6 hN6))) (hu3 ▸ hb_g)) (hu3.trans hu6.symm)).mono ?_⟩
    rintro _ s6 ⟨rfl, rfl⟩
    refine ⟨_, rfl, ?_⟩
    refine AW.cutM (2) s6 [(6, vB false), (34, vB false)] [] ⟨rfl, rfl, trivial⟩ trivial rfl fun ρ0 ff => ?_
    have hA10 : OwnP s6 (pcNW u6 ++ (pcNW u3 ++ (pcNW u1 ++ []))) := (OwnP.joinF hA6 hP6 hO6 hN6)
    have hQ10 : Pres st s6 := (hQ6.trans hP6)
    refine cx_sound _ _ _ _ _ ?_
    refine cx_sound _ _ _ _ _ ?_
    exact ⟨.inl rfl, _, rfl, rfl⟩
  · replace hn_g : z_g < 0 := of_decide_eq_true hn_g
    refine AW.cutM (1) st [(1, vI p), (2, vB b), (3, vL 3 0 (0)), (6, vB false), (15, vB true)] [(3, 0, [vI g.id, vI g.n, vS g.s.p g.s.x.items.length, vS g.s.q g.s.x.floors.length, vS g.t.p g.t.l.length, vI g.t.root, vI g.g.cap, vI g.g.frm, vS g.g.p g.g.l.length, vS g.got.p g.got.l.length, vS g.acked.p g.acked.l.length, vS g.seen.p g.seen.t.length, vI g.num, vI g.slots, vS g.sess.p g.sess.l.length, vI g.wait, vI g.limit, vI g.clock, vS g.rises.p g.rises.l.length])] ⟨rfl, rfl, rfl, rfl, rfl, trivial⟩ ⟨rfl, trivial⟩ rfl fun ρ0 ff => ?_
    refine cx_sound _ _ _ _ _ ?_
    exact ⟨.inl rfl, _, rfl, rfl⟩

end Go.Proofs.Ytopcpcoklgepnaa.AM
