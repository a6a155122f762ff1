/- Messages and nodes compared; messages checked; slots looked for. -/
import Derived.Test.YtopcpcoklgepnaaV3
namespace Go.Proofs.Ytopcpcoklgepnaa.AM
open Go Go.Proofs
set_option linter.unusedVariables false
set_option linter.unusedSimpArgs false
set_option maxRecDepth 100000
set_option maxHeartbeats 4000000
theorem uc_eqNode (a b : NW) (st : St) (hA : RdN st a.v) (hB : RdN st b.v) (hb : bigN a.x) : C 45 [.agg #[vI a.id, vI a.n, vS a.s.p a.s.x.items.length, vS a.s.q a.s.x.floors.length, vS a.t.p a.t.l.length, vI a.t.root, vI a.g.cap, vI a.g.frm, vS a.g.p a.g.l.length, vS a.got.p a.got.l.length, vS a.acked.p a.acked.l.length, vS a.seen.p a.seen.t.length, vI a.num, vI a.slots, vS a.sess.p a.sess.l.length, vI a.wait, vI a.limit, vI a.clock, vS a.rises.p a.rises.l.length], .agg #[vI b.id, vI b.n, vS b.s.p b.s.x.items.length, vS b.s.q b.s.x.floors.length, vS b.t.p b.t.l.length, vI b.t.root, vI b.g.cap, vI b.g.frm, vS b.g.p b.g.l.length, vS b.got.p b.got.l.length, vS b.acked.p b.acked.l.length, vS b.seen.p b.seen.t.length, vI b.num, vI b.slots, vS b.sess.p b.sess.l.length, vI b.wait, vI b.limit, vI b.clock, vS b.rises.p b.rises.l.length]] st (fun v s => ∃ x, v = .bool x ∧ (x = true ↔ a.x = b.x) ∧ s = st) := ac_laws_eqNode a.v b.v st hA hB hb
theorem mg_ext {a b : Mg} (h1 : a.kind = b.kind) (h2 : a.frm = b.frm) (h3 : a.to = b.to) (h4 : a.num = b.num) (h5 : a.hi = b.hi) (h6 : a.tree = b.tree) (h7 : a.vec = b.vec) (h8 : a.leaves = b.leaves) (h9 : a.part = b.part) (h10 : a.marks = b.marks) : a = b := by
  cases a; cases b; simp only at h1 h2 h3 h4 h5 h6 h7 h8 h9 h10; rw [h1, h2, h3, h4, h5, h6, h7, h8, h9, h10]
theorem ac_impl_MsgSame (a b : MV) (st : St) (hA : RdM st a) (hB : RdM st b) (hb : bigM a.x) : C 31 [.agg #[vI a.kind, vI a.frm, vI a.to, vI a.num, vI a.hi, vS a.tree.p a.tree.l.length, vI a.tree.root, vS a.vec.p a.vec.l.length, vS a.leaves.p a.leaves.l.length, vS a.part.p a.part.x.items.length, vS a.part.q a.part.x.floors.length, vS a.marks.p a.marks.l.length], .agg #[vI b.kind, vI b.frm, vI b.to, vI b.num, vI b.hi, vS b.tree.p b.tree.l.length, vI b.tree.root, vS b.vec.p b.vec.l.length, vS b.leaves.p b.leaves.l.length, vS b.part.p b.part.x.items.length, vS b.part.q b.part.x.floors.length, vS b.marks.p b.marks.l.length]] st (fun v s => ∃ x, v = .bool x ∧ (x = true ↔ a.x = b.x) ∧ s = st) := by
  refine AC.enterX (i := ⟨[2, 3], [2, 3, 5, 7, 11, 13, 18, 20, 25, 27, 32, 34, 39, 41, 46, 48, 53, 55, 60, 62, 67, 69], [0, 1, 2, 3, 4]⟩) [] Try.func31 rfl rfl (by kernel_rfl) (by kernel_rfl) Try.ntmps31 (Nat.le_of_ble_eq_true rfl) rfl ?_
  iterate 2 refine ⟨_, rfl, ?_⟩
  refine AW.cutM (2) st [(2, vL 2 0 (0)), (3, vL 3 0 (1)), (4, vB false)] [(2, 0, [vI a.kind, vI a.frm, vI a.to, vI a.num, vI a.hi, vS a.tree.p a.tree.l.length, vI a.tree.root, vS a.vec.p a.vec.l.length, vS a.leaves.p a.leaves.l.length, vS a.part.p a.part.x.items.length, vS a.part.q a.part.x.floors.length, vS a.marks.p a.marks.l.length]), (3, 1, [vI b.kind, vI b.frm, vI b.to, vI b.num, vI b.hi, vS b.tree.p b.tree.l.length, vI b.tree.root, vS b.vec.p b.vec.l.length, vS b.leaves.p b.leaves.l.length, vS b.part.p b.part.x.items.length, vS b.part.q b.part.x.floors.length, vS b.marks.p b.marks.l.length])] ⟨rfl, rfl, rfl, trivial⟩ ⟨rfl, rfl, trivial⟩ rfl fun ρ0 ff => ?_
  refine ⟨_, rfl, ?_⟩
  refine ⟨_, op_ldo rfl rfl rfl rfl, ?_⟩
  refine ⟨_, rfl, ?_⟩
  refine ⟨_, op_ldo rfl rfl rfl rfl, ?_⟩
  refine ⟨_, rfl, ?_⟩
  rintro (_|_) h9
  · replace h9 : ¬ (a.kind = b.kind) := beq_eq_false_iff_ne.1 h9
    iterate 2 refine ⟨_, rfl, ?_⟩
    refine ow_cut [(2, vL 2 0 (0)), (3, vL 3 0 (1)), (4, vB false), (23, vB false)] ⟨rfl, rfl, rfl, rfl, trivial⟩ fun ρ0 => ?_
    iterate 3 refine ⟨_, rfl, ?_⟩
    refine ow_cut [(2, vL 2 0 (0)), (3, vL 3 0 (1)), (4, vB false), (44, vB false)] ⟨rfl, rfl, rfl, rfl, trivial⟩ fun ρ0 => ?_
    iterate 3 refine ⟨_, rfl, ?_⟩
    refine ow_cut [(2, vL 2 0 (0)), (3, vL 3 0 (1)), (4, vB false), (65, vB false)] ⟨rfl, rfl, rfl, rfl, trivial⟩ fun ρ0 => ?_
    refine ⟨_, rfl, ?_⟩
    refine cx_sound _ _ _ _ _ ?_
    exact ⟨.inl rfl, _, rfl, false, rfl, ⟨fun h => absurd h Bool.false_ne_true, fun h => (show False from (absurd (congrArg Mg.kind h) h9)).elim⟩, rfl⟩
  · replace h9 : a.kind = b.kind := beq_iff_eq.1 h9
    refine ⟨_, rfl, ?_⟩
    refine ⟨_, op_ldo rfl rfl rfl rfl, ?_⟩
    refine ⟨_, rfl, ?_⟩
    refine ⟨_, op_ldo rfl rfl rfl rfl, ?_⟩
    refine ⟨_, rfl, ?_⟩
    rintro (_|_) h15
    · replace h15 : ¬ (a.frm = b.frm) := beq_eq_false_iff_ne.1 h15
      iterate 2 refine ⟨_, rfl, ?_⟩
      refine ow_cut [(2, vL 2 0 (0)), (3, vL 3 0 (1)), (4, vB false), (23, vB false)] ⟨rfl, rfl, rfl, rfl, trivial⟩ fun ρ0 => ?_
      iterate 3 refine ⟨_, rfl, ?_⟩
      refine ow_cut [(2, vL 2 0 (0)), (3, vL 3 0 (1)), (4, vB false), (44, vB false)] ⟨rfl, rfl, rfl, rfl, trivial⟩ fun ρ0 => ?_
      iterate 3 refine ⟨_, rfl, ?_⟩
      refine ow_cut [(2, vL 2 0 (0)), (3, vL 3 0 (1)), (4, vB false), (65, vB false)] ⟨rfl, rfl, rfl, rfl, trivial⟩ fun ρ0 => ?_
      refine ⟨_, rfl, ?_⟩
      refine cx_sound _ _ _ _ _ ?_
      exact ⟨.inl rfl, _, rfl, false, rfl, ⟨fun h => absurd h Bool.false_ne_true, fun h => (show False from (absurd (congrArg Mg.frm h) h15)).elim⟩, rfl⟩
    · replace h15 : a.frm = b.frm := beq_iff_eq.1 h15
      iterate 2 refine ⟨_, rfl, ?_⟩
      refine ⟨_, op_ldo rfl rfl rfl rfl, ?_⟩
      refine ⟨_, rfl, ?_⟩
      refine ⟨_, op_ldo rfl rfl rfl rfl, ?_⟩
      refine ⟨_, rfl, ?_⟩
      rintro (_|_) h22
      · replace h22 : ¬ (a.to = b.to) := beq_eq_false_iff_ne.1 h22
        refine ow_cut [(2, vL 2 0 (0)), (3, vL 3 0 (1)), (4, vB false), (17, vB true), (22, vB false)] ⟨rfl, rfl, rfl, rfl, rfl, trivial⟩ fun ρ0 => ?_
        iterate 4 refine ⟨_, rfl, ?_⟩
        refine ow_cut [(2, vL 2 0 (0)), (3, vL 3 0 (1)), (4, vB false), (44, vB false)] ⟨rfl, rfl, rfl, rfl, trivial⟩ fun ρ0 => ?_
        iterate 3 refine ⟨_, rfl, ?_⟩
        refine ow_cut [(2, vL 2 0 (0)), (3, vL 3 0 (1)), (4, vB false), (65, vB false)] ⟨rfl, rfl, rfl, rfl, trivial⟩ fun ρ0 => ?_
        refine ⟨_, rfl, ?_⟩
        refine cx_sound _ _ _ _ _ ?_
        exact ⟨.inl rfl, _, rfl, false, rfl, ⟨fun h => absurd h Bool.false_ne_true, fun h => (show False from (absurd (congrArg Mg.to h) h22)).elim⟩, rfl⟩
      · replace h22 : a.to = b.to := beq_iff_eq.1 h22
        refine ow_cut [(2, vL 2 0 (0)), (3, vL 3 0 (1)), (4, vB false), (17, vB true), (22, vB true)] ⟨rfl, rfl, rfl, rfl, rfl, trivial⟩ fun ρ0 => ?_
        iterate 2 refine ⟨_, rfl, ?_⟩
        refine ⟨_, op_ldo rfl rfl rfl rfl, ?_⟩
        refine ⟨_, rfl, ?_⟩
        refine ⟨_, op_ldo rfl rfl rfl rfl, ?_⟩
        refine ⟨_, rfl, ?_⟩
        rintro (_|_) h29
        · replace h29 : ¬ (a.num = b.num) := beq_eq_false_iff_ne.1 h29
          iterate 3 refine ⟨_, rfl, ?_⟩
          refine ow_cut [(2, vL 2 0 (0)), (3, vL 3 0 (1)), (4, vB false), (44, vB false)] ⟨rfl, rfl, rfl, rfl, trivial⟩ fun ρ0 => ?_
          iterate 3 refine ⟨_, rfl, ?_⟩
          refine ow_cut [(2, vL 2 0 (0)), (3, vL 3 0 (1)), (4, vB false), (65, vB false)] ⟨rfl, rfl, rfl, rfl, trivial⟩ fun ρ0 => ?_
          refine ⟨_, rfl, ?_⟩
          refine cx_sound _ _ _ _ _ ?_
          exact ⟨.inl rfl, _, rfl, false, rfl, ⟨fun h => absurd h Bool.false_ne_true, fun h => (show False from (absurd (congrArg Mg.num h) h29)).elim⟩, rfl⟩
        · replace h29 : a.num = b.num := beq_iff_eq.1 h29
          iterate 2 refine ⟨_, rfl, ?_⟩
          refine ⟨_, op_ldo rfl rfl rfl rfl, ?_⟩
          refine ⟨_, rfl, ?_⟩
          refine ⟨_, op_ldo rfl rfl rfl rfl, ?_⟩
          refine ⟨_, rfl, ?_⟩
          rintro (_|_) h36
          · replace h36 : ¬ (a.hi = b.hi) := beq_eq_false_iff_ne.1 h36
            iterate 2 refine ⟨_, rfl, ?_⟩
            refine ow_cut [(2, vL 2 0 (0)), (3, vL 3 0 (1)), (4, vB false), (44, vB false)] ⟨rfl, rfl, rfl, rfl, trivial⟩ fun ρ0 => ?_
            iterate 3 refine ⟨_, rfl, ?_⟩
            refine ow_cut [(2, vL 2 0 (0)), (3, vL 3 0 (1)), (4, vB false), (65, vB false)] ⟨rfl, rfl, rfl, rfl, trivial⟩ fun ρ0 => ?_
            refine ⟨_, rfl, ?_⟩
            refine cx_sound _ _ _ _ _ ?_
            exact ⟨.inl rfl, _, rfl, false, rfl, ⟨fun h => absurd h Bool.false_ne_true, fun h => (show False from (absurd (congrArg Mg.hi h) h36)).elim⟩, rfl⟩
          · replace h36 : a.hi = b.hi := beq_iff_eq.1 h36
            iterate 2 refine ⟨_, rfl, ?_⟩
            refine ⟨_, op_ldo rfl rfl rfl rfl, ?_⟩
            refine ow_cut [(2, vL 2 0 (0)), (3, vL 3 0 (1)), (4, vB false), (38, vB true), (40, .agg #[vS a.tree.p a.tree.l.length, vI a.tree.root])] ⟨rfl, rfl, rfl, rfl, rfl, trivial⟩ fun ρ0 => ?_
            refine ⟨_, rfl, ?_⟩
            refine ⟨_, op_ldo rfl rfl rfl rfl, ?_⟩
            refine ⟨_, rfl, (ac_impl_treeSame a.tree b.tree st hA.tree hB.tree (hb.tree)).mono ?_⟩
            rintro _ st ⟨x43, rfl, h43, rfl⟩
            rcases x43 with _|_
            · replace h43 := fun k => Bool.false_ne_true (h43.2 k)
              iterate 3 refine ⟨_, rfl, ?_⟩
              refine ow_cut [(2, vL 2 0 (0)), (3, vL 3 0 (1)), (4, vB false), (58, vB false)] ⟨rfl, rfl, rfl, rfl, trivial⟩ fun ρ0 => ?_
              iterate 2 refine ⟨_, rfl, ?_⟩
              refine cx_sound _ _ _ _ _ ?_
              exact ⟨.inl rfl, _, rfl, false, rfl, ⟨fun h => absurd h Bool.false_ne_true, fun h => (show False from (absurd (congrArg Mg.tree h) h43)).elim⟩, rfl⟩
            · replace h43 := h43.1 rfl
              iterate 2 refine ⟨_, rfl, ?_⟩
              refine ⟨_, op_ldo rfl rfl rfl rfl, ?_⟩
              refine ⟨_, rfl, ?_⟩
              refine ⟨_, op_ldo rfl rfl rfl rfl, ?_⟩
              refine ⟨_, rfl, (ac_slices_Equal_Int a.vec.p b.vec.p a.vec.l b.vec.l st hA.vec hB.vec (hb.vec)).mono ?_⟩
              rintro _ st ⟨x50, rfl, h50, rfl⟩
              rcases x50 with _|_
              · replace h50 := fun k => Bool.false_ne_true (h50.2 k)
                iterate 2 refine ⟨_, rfl, ?_⟩
                refine ow_cut [(2, vL 2 0 (0)), (3, vL 3 0 (1)), (4, vB false), (58, vB false)] ⟨rfl, rfl, rfl, rfl, trivial⟩ fun ρ0 => ?_
                iterate 2 refine ⟨_, rfl, ?_⟩
                refine cx_sound _ _ _ _ _ ?_
                exact ⟨.inl rfl, _, rfl, false, rfl, ⟨fun h => absurd h Bool.false_ne_true, fun h => (show False from (absurd (congrArg Mg.vec h) h50)).elim⟩, rfl⟩
              · replace h50 := h50.1 rfl
                iterate 2 refine ⟨_, rfl, ?_⟩
                refine ⟨_, op_ldo rfl rfl rfl rfl, ?_⟩
                refine ⟨_, rfl, ?_⟩
                refine ⟨_, op_ldo rfl rfl rfl rfl, ?_⟩
                refine ⟨_, rfl, (ac_slices_Equal_Int a.leaves.p b.leaves.p a.leaves.l b.leaves.l st hA.leaves hB.leaves (hb.leaves)).mono ?_⟩
                rintro _ st ⟨x57, rfl, h57, rfl⟩
                rcases x57 with _|_
                · replace h57 := fun k => Bool.false_ne_true (h57.2 k)
                  refine ⟨_, rfl, ?_⟩
                  refine ow_cut [(2, vL 2 0 (0)), (3, vL 3 0 (1)), (4, vB false), (58, vB false)] ⟨rfl, rfl, rfl, rfl, trivial⟩ fun ρ0 => ?_
                  iterate 2 refine ⟨_, rfl, ?_⟩
                  refine cx_sound _ _ _ _ _ ?_
                  exact ⟨.inl rfl, _, rfl, false, rfl, ⟨fun h => absurd h Bool.false_ne_true, fun h => (show False from (absurd (congrArg Mg.leaves h) h57)).elim⟩, rfl⟩
                · replace h57 := h57.1 rfl
                  refine ⟨_, rfl, ?_⟩
                  refine ow_cut [(2, vL 2 0 (0)), (3, vL 3 0 (1)), (4, vB false), (58, vB true)] ⟨rfl, rfl, rfl, rfl, trivial⟩ fun ρ0 => ?_
                  refine ⟨_, rfl, ?_⟩
                  refine ⟨_, op_ldo rfl rfl rfl rfl, ?_⟩
                  refine ⟨_, rfl, ?_⟩
                  refine ⟨_, op_ldo rfl rfl rfl rfl, ?_⟩
                  refine ⟨_, rfl, (ac_impl_StateSame a.part b.part st hA.part hB.part (hb.part)).mono ?_⟩
                  rintro _ st ⟨x64, rfl, h64, rfl⟩
                  rcases x64 with _|_
                  · replace h64 := fun k => Bool.false_ne_true (h64.2 k)
                    iterate 2 refine ⟨_, rfl, ?_⟩
                    refine cx_sound _ _ _ _ _ ?_
                    exact ⟨.inl rfl, _, rfl, false, rfl, ⟨fun h => absurd h Bool.false_ne_true, fun h => (show False from (absurd (congrArg Mg.part h) h64)).elim⟩, rfl⟩
                  · replace h64 := h64.1 rfl
                    iterate 2 refine ⟨_, rfl, ?_⟩
                    refine ⟨_, op_ldo rfl rfl rfl rfl, ?_⟩
                    refine ⟨_, rfl, ?_⟩
                    refine ⟨_, op_ldo rfl rfl rfl rfl, ?_⟩
                    refine ⟨_, rfl, (ac_slices_Equal_Mark a.marks.p b.marks.p a.marks.l b.marks.l st hA.marks hB.marks (hb.marks)).mono ?_⟩
                    rintro _ st ⟨x71, rfl, h71, rfl⟩
                    rcases x71 with _|_
                    · replace h71 := fun k => Bool.false_ne_true (h71.2 k)
                      refine ⟨_, rfl, ?_⟩
                      refine cx_sound _ _ _ _ _ ?_
                      exact ⟨.inl rfl, _, rfl, false, rfl, ⟨fun h => absurd h Bool.false_ne_true, fun h => (show False from (absurd (congrArg Mg.marks h) h71)).elim⟩, rfl⟩
                    · replace h71 := h71.1 rfl
                      refine ⟨_, rfl, ?_⟩
                      refine cx_sound _ _ _ _ _ ?_
                      exact ⟨.inl rfl, _, rfl, true, rfl, ⟨fun _ => mg_ext h9 h15 h22 h29 h36 h43 h50 h57 h64 h71, fun _ => rfl⟩, rfl⟩
theorem ac_spec_MsgSame (a b : MV) (st : St) (hA : RdM st a) (hB : RdM st b) (hb : bigM a.x) : C 29 [.agg #[vI a.kind, vI a.frm, vI a.to, vI a.num, vI a.hi, vS a.tree.p a.tree.l.length, vI a.tree.root, vS a.vec.p a.vec.l.length, vS a.leaves.p a.leaves.l.length, vS a.part.p a.part.x.items.length, vS a.part.q a.part.x.floors.length, vS a.marks.p a.marks.l.length], .agg #[vI b.kind, vI b.frm, vI b.to, vI b.num, vI b.hi, vS b.tree.p b.tree.l.length, vI b.tree.root, vS b.vec.p b.vec.l.length, vS b.leaves.p b.leaves.l.length, vS b.part.p b.part.x.items.length, vS b.part.q b.part.x.floors.length, vS b.marks.p b.marks.l.length]] st (fun v s => ∃ x, v = .bool x ∧ (x = true ↔ a.x = b.x) ∧ s = st) := by
  refine AC.enterX (i := ⟨[2, 3], [2, 3, 5, 7, 11, 13, 18, 20, 25, 27, 32, 34, 39, 40, 42, 43, 48, 49, 51, 52, 57, 59, 64, 66, 71, 73, 78, 80], [0, 1, 2, 3, 4]⟩) [] Try.func29 rfl rfl (by kernel_rfl) (by kernel_rfl) Try.ntmps29 (Nat.le_of_ble_eq_true rfl) rfl ?_
  iterate 2 refine ⟨_, rfl, ?_⟩
  refine AW.cutM (2) st [(2, vL 2 0 (0)), (3, vL 3 0 (1)), (4, vB false)] [(2, 0, [vI a.kind, vI a.frm, vI a.to, vI a.num, vI a.hi, vS a.tree.p a.tree.l.length, vI a.tree.root, vS a.vec.p a.vec.l.length, vS a.leaves.p a.leaves.l.length, vS a.part.p a.part.x.items.length, vS a.part.q a.part.x.floors.length, vS a.marks.p a.marks.l.length]), (3, 1, [vI b.kind, vI b.frm, vI b.to, vI b.num, vI b.hi, vS b.tree.p b.tree.l.length, vI b.tree.root, vS b.vec.p b.vec.l.length, vS b.leaves.p b.leaves.l.length, vS b.part.p b.part.x.items.length, vS b.part.q b.part.x.floors.length, vS b.marks.p b.marks.l.length])] ⟨rfl, rfl, rfl, trivial⟩ ⟨rfl, rfl, trivial⟩ rfl fun ρ0 ff => ?_
  refine ⟨_, rfl, ?_⟩
  refine ⟨_, op_ldo rfl rfl rfl rfl, ?_⟩
  refine ⟨_, rfl, ?_⟩
  refine ⟨_, op_ldo rfl rfl rfl rfl, ?_⟩
  refine ⟨_, rfl, ?_⟩
  rintro (_|_) h9
  · replace h9 : ¬ (a.kind = b.kind) := beq_eq_false_iff_ne.1 h9
    iterate 2 refine ⟨_, rfl, ?_⟩
    refine ow_cut [(2, vL 2 0 (0)), (3, vL 3 0 (1)), (4, vB false), (23, vB false)] ⟨rfl, rfl, rfl, rfl, trivial⟩ fun ρ0 => ?_
    iterate 3 refine ⟨_, rfl, ?_⟩
    refine ow_cut [(2, vL 2 0 (0)), (3, vL 3 0 (1)), (4, vB false), (46, vB false)] ⟨rfl, rfl, rfl, rfl, trivial⟩ fun ρ0 => ?_
    iterate 3 refine ⟨_, rfl, ?_⟩
    refine ow_cut [(2, vL 2 0 (0)), (3, vL 3 0 (1)), (4, vB false), (69, vB false)] ⟨rfl, rfl, rfl, rfl, trivial⟩ fun ρ0 => ?_
    iterate 2 refine ⟨_, rfl, ?_⟩
    refine cx_sound _ _ _ _ _ ?_
    exact ⟨.inl rfl, _, rfl, false, rfl, ⟨fun h => absurd h Bool.false_ne_true, fun h => (show False from (absurd (congrArg Mg.kind h) h9)).elim⟩, rfl⟩
  · replace h9 : a.kind = b.kind := beq_iff_eq.1 h9
    refine ⟨_, rfl, ?_⟩
    refine ⟨_, op_ldo rfl rfl rfl rfl, ?_⟩
    refine ⟨_, rfl, ?_⟩
    refine ⟨_, op_ldo rfl rfl rfl rfl, ?_⟩
    refine ⟨_, rfl, ?_⟩
    rintro (_|_) h15
    · replace h15 : ¬ (a.frm = b.frm) := beq_eq_false_iff_ne.1 h15
      iterate 2 refine ⟨_, rfl, ?_⟩
      refine ow_cut [(2, vL 2 0 (0)), (3, vL 3 0 (1)), (4, vB false), (23, vB false)] ⟨rfl, rfl, rfl, rfl, trivial⟩ fun ρ0 => ?_
      iterate 3 refine ⟨_, rfl, ?_⟩
      refine ow_cut [(2, vL 2 0 (0)), (3, vL 3 0 (1)), (4, vB false), (46, vB false)] ⟨rfl, rfl, rfl, rfl, trivial⟩ fun ρ0 => ?_
      iterate 3 refine ⟨_, rfl, ?_⟩
      refine ow_cut [(2, vL 2 0 (0)), (3, vL 3 0 (1)), (4, vB false), (69, vB false)] ⟨rfl, rfl, rfl, rfl, trivial⟩ fun ρ0 => ?_
      iterate 2 refine ⟨_, rfl, ?_⟩
      refine cx_sound _ _ _ _ _ ?_
      exact ⟨.inl rfl, _, rfl, false, rfl, ⟨fun h => absurd h Bool.false_ne_true, fun h => (show False from (absurd (congrArg Mg.frm h) h15)).elim⟩, rfl⟩
    · replace h15 : a.frm = b.frm := beq_iff_eq.1 h15
      iterate 2 refine ⟨_, rfl, ?_⟩
      refine ⟨_, op_ldo rfl rfl rfl rfl, ?_⟩
      refine ⟨_, rfl, ?_⟩
      refine ⟨_, op_ldo rfl rfl rfl rfl, ?_⟩
      refine ⟨_, rfl, ?_⟩
      rintro (_|_) h22
      · replace h22 : ¬ (a.to = b.to) := beq_eq_false_iff_ne.1 h22
        refine ow_cut [(2, vL 2 0 (0)), (3, vL 3 0 (1)), (4, vB false), (17, vB true), (22, vB false)] ⟨rfl, rfl, rfl, rfl, rfl, trivial⟩ fun ρ0 => ?_
        iterate 4 refine ⟨_, rfl, ?_⟩
        refine ow_cut [(2, vL 2 0 (0)), (3, vL 3 0 (1)), (4, vB false), (46, vB false)] ⟨rfl, rfl, rfl, rfl, trivial⟩ fun ρ0 => ?_
        iterate 3 refine ⟨_, rfl, ?_⟩
        refine ow_cut [(2, vL 2 0 (0)), (3, vL 3 0 (1)), (4, vB false), (69, vB false)] ⟨rfl, rfl, rfl, rfl, trivial⟩ fun ρ0 => ?_
        iterate 2 refine ⟨_, rfl, ?_⟩
        refine cx_sound _ _ _ _ _ ?_
        exact ⟨.inl rfl, _, rfl, false, rfl, ⟨fun h => absurd h Bool.false_ne_true, fun h => (show False from (absurd (congrArg Mg.to h) h22)).elim⟩, rfl⟩
      · replace h22 : a.to = b.to := beq_iff_eq.1 h22
        refine ow_cut [(2, vL 2 0 (0)), (3, vL 3 0 (1)), (4, vB false), (17, vB true), (22, vB true)] ⟨rfl, rfl, rfl, rfl, rfl, trivial⟩ fun ρ0 => ?_
        iterate 2 refine ⟨_, rfl, ?_⟩
        refine ⟨_, op_ldo rfl rfl rfl rfl, ?_⟩
        refine ⟨_, rfl, ?_⟩
        refine ⟨_, op_ldo rfl rfl rfl rfl, ?_⟩
        refine ⟨_, rfl, ?_⟩
        rintro (_|_) h29
        · replace h29 : ¬ (a.num = b.num) := beq_eq_false_iff_ne.1 h29
          iterate 3 refine ⟨_, rfl, ?_⟩
          refine ow_cut [(2, vL 2 0 (0)), (3, vL 3 0 (1)), (4, vB false), (46, vB false)] ⟨rfl, rfl, rfl, rfl, trivial⟩ fun ρ0 => ?_
          iterate 3 refine ⟨_, rfl, ?_⟩
          refine ow_cut [(2, vL 2 0 (0)), (3, vL 3 0 (1)), (4, vB false), (69, vB false)] ⟨rfl, rfl, rfl, rfl, trivial⟩ fun ρ0 => ?_
          iterate 2 refine ⟨_, rfl, ?_⟩
          refine cx_sound _ _ _ _ _ ?_
          exact ⟨.inl rfl, _, rfl, false, rfl, ⟨fun h => absurd h Bool.false_ne_true, fun h => (show False from (absurd (congrArg Mg.num h) h29)).elim⟩, rfl⟩
        · replace h29 : a.num = b.num := beq_iff_eq.1 h29
          iterate 2 refine ⟨_, rfl, ?_⟩
          refine ⟨_, op_ldo rfl rfl rfl rfl, ?_⟩
          refine ⟨_, rfl, ?_⟩
          refine ⟨_, op_ldo rfl rfl rfl rfl, ?_⟩
          refine ⟨_, rfl, ?_⟩
          rintro (_|_) h36
          · replace h36 : ¬ (a.hi = b.hi) := beq_eq_false_iff_ne.1 h36
            iterate 2 refine ⟨_, rfl, ?_⟩
            refine ow_cut [(2, vL 2 0 (0)), (3, vL 3 0 (1)), (4, vB false), (46, vB false)] ⟨rfl, rfl, rfl, rfl, trivial⟩ fun ρ0 => ?_
            iterate 3 refine ⟨_, rfl, ?_⟩
            refine ow_cut [(2, vL 2 0 (0)), (3, vL 3 0 (1)), (4, vB false), (69, vB false)] ⟨rfl, rfl, rfl, rfl, trivial⟩ fun ρ0 => ?_
            iterate 2 refine ⟨_, rfl, ?_⟩
            refine cx_sound _ _ _ _ _ ?_
            exact ⟨.inl rfl, _, rfl, false, rfl, ⟨fun h => absurd h Bool.false_ne_true, fun h => (show False from (absurd (congrArg Mg.hi h) h36)).elim⟩, rfl⟩
          · replace h36 : a.hi = b.hi := beq_iff_eq.1 h36
            iterate 3 refine ⟨_, rfl, ?_⟩
            refine ow_cut [(2, vL 2 0 (0)), (3, vL 3 0 (1)), (4, vB false), (38, vB true), (40, vL 2 5 (0))] ⟨rfl, rfl, rfl, rfl, rfl, trivial⟩ fun ρ0 => ?_
            refine ⟨_, op_ldo rfl rfl rfl rfl, ?_⟩
            iterate 2 refine ⟨_, rfl, ?_⟩
            refine ⟨_, op_ldo rfl rfl rfl rfl, ?_⟩
            refine ⟨_, rfl, (ac_spec_l1Same a.tree.p b.tree.p a.tree.l b.tree.l st hA.tree hB.tree (hb.tree)).mono ?_⟩
            rintro _ st ⟨x45, rfl, h45, rfl⟩
            rcases x45 with _|_
            · replace h45 := fun k => Bool.false_ne_true (h45.2 k)
              iterate 3 refine ⟨_, rfl, ?_⟩
              refine ow_cut [(2, vL 2 0 (0)), (3, vL 3 0 (1)), (4, vB false), (62, vB false)] ⟨rfl, rfl, rfl, rfl, trivial⟩ fun ρ0 => ?_
              iterate 3 refine ⟨_, rfl, ?_⟩
              refine cx_sound _ _ _ _ _ ?_
              exact ⟨.inl rfl, _, rfl, false, rfl, ⟨fun h => absurd h Bool.false_ne_true, fun h => (show False from (absurd (congrArg (fun m : Mg => m.tree.leaves) h) h45)).elim⟩, rfl⟩
            · replace h45 := h45.1 rfl
              iterate 3 refine ⟨_, rfl, ?_⟩
              refine ⟨_, op_ldo rfl rfl rfl rfl, ?_⟩
              iterate 2 refine ⟨_, rfl, ?_⟩
              refine ⟨_, op_ldo rfl rfl rfl rfl, ?_⟩
              refine ⟨_, rfl, ?_⟩
              rintro (_|_) h54
              · replace h54 : ¬ (a.tree.root = b.tree.root) := beq_eq_false_iff_ne.1 h54
                iterate 2 refine ⟨_, rfl, ?_⟩
                refine ow_cut [(2, vL 2 0 (0)), (3, vL 3 0 (1)), (4, vB false), (62, vB false)] ⟨rfl, rfl, rfl, rfl, trivial⟩ fun ρ0 => ?_
                iterate 3 refine ⟨_, rfl, ?_⟩
                refine cx_sound _ _ _ _ _ ?_
                exact ⟨.inl rfl, _, rfl, false, rfl, ⟨fun h => absurd h Bool.false_ne_true, fun h => (show False from (absurd (congrArg (fun m : Mg => m.tree.root) h) h54)).elim⟩, rfl⟩
              · replace h54 : a.tree.root = b.tree.root := beq_iff_eq.1 h54
                iterate 2 refine ⟨_, rfl, ?_⟩
                refine ⟨_, op_ldo rfl rfl rfl rfl, ?_⟩
                refine ow_cut [(2, vL 2 0 (0)), (3, vL 3 0 (1)), (4, vB false), (56, vB true), (58, vS a.vec.p a.vec.l.length)] ⟨rfl, rfl, rfl, rfl, rfl, trivial⟩ fun ρ0 => ?_
                refine ⟨_, rfl, ?_⟩
                refine ⟨_, op_ldo rfl rfl rfl rfl, ?_⟩
                refine ⟨_, rfl, (ac_spec_l1Same a.vec.p b.vec.p a.vec.l b.vec.l st hA.vec hB.vec (hb.vec)).mono ?_⟩
                rintro _ st ⟨x61, rfl, h61, rfl⟩
                rcases x61 with _|_
                · replace h61 := fun k => Bool.false_ne_true (h61.2 k)
                  iterate 3 refine ⟨_, rfl, ?_⟩
                  refine ow_cut [(2, vL 2 0 (0)), (3, vL 3 0 (1)), (4, vB false), (76, vB false)] ⟨rfl, rfl, rfl, rfl, trivial⟩ fun ρ0 => ?_
                  refine ⟨_, rfl, ?_⟩
                  refine cx_sound _ _ _ _ _ ?_
                  exact ⟨.inl rfl, _, rfl, false, rfl, ⟨fun h => absurd h Bool.false_ne_true, fun h => (show False from (absurd (congrArg Mg.vec h) h61)).elim⟩, rfl⟩
                · replace h61 := h61.1 rfl
                  iterate 2 refine ⟨_, rfl, ?_⟩
                  refine ⟨_, op_ldo rfl rfl rfl rfl, ?_⟩
                  refine ⟨_, rfl, ?_⟩
                  refine ⟨_, op_ldo rfl rfl rfl rfl, ?_⟩
                  refine ⟨_, rfl, (ac_spec_l1Same a.leaves.p b.leaves.p a.leaves.l b.leaves.l st hA.leaves hB.leaves (hb.leaves)).mono ?_⟩
                  rintro _ st ⟨x68, rfl, h68, rfl⟩
                  rcases x68 with _|_
                  · replace h68 := fun k => Bool.false_ne_true (h68.2 k)
                    iterate 2 refine ⟨_, rfl, ?_⟩
                    refine ow_cut [(2, vL 2 0 (0)), (3, vL 3 0 (1)), (4, vB false), (76, vB false)] ⟨rfl, rfl, rfl, rfl, trivial⟩ fun ρ0 => ?_
                    refine ⟨_, rfl, ?_⟩
                    refine cx_sound _ _ _ _ _ ?_
                    exact ⟨.inl rfl, _, rfl, false, rfl, ⟨fun h => absurd h Bool.false_ne_true, fun h => (show False from (absurd (congrArg Mg.leaves h) h68)).elim⟩, rfl⟩
                  · replace h68 := h68.1 rfl
                    iterate 2 refine ⟨_, rfl, ?_⟩
                    refine ⟨_, op_ldo rfl rfl rfl rfl, ?_⟩
                    refine ⟨_, rfl, ?_⟩
                    refine ⟨_, op_ldo rfl rfl rfl rfl, ?_⟩
                    refine ⟨_, rfl, (ac_spec_StateSame a.part b.part st hA.part hB.part (hb.part)).mono ?_⟩
                    rintro _ st ⟨x75, rfl, h75, rfl⟩
                    rcases x75 with _|_
                    · replace h75 := fun k => Bool.false_ne_true (h75.2 k)
                      refine ⟨_, rfl, ?_⟩
                      refine ow_cut [(2, vL 2 0 (0)), (3, vL 3 0 (1)), (4, vB false), (76, vB false)] ⟨rfl, rfl, rfl, rfl, trivial⟩ fun ρ0 => ?_
                      refine ⟨_, rfl, ?_⟩
                      refine cx_sound _ _ _ _ _ ?_
                      exact ⟨.inl rfl, _, rfl, false, rfl, ⟨fun h => absurd h Bool.false_ne_true, fun h => (show False from (absurd (congrArg Mg.part h) h75)).elim⟩, rfl⟩
                    · replace h75 := h75.1 rfl
                      refine ⟨_, rfl, ?_⟩
                      refine ow_cut [(2, vL 2 0 (0)), (3, vL 3 0 (1)), (4, vB false), (76, vB true)] ⟨rfl, rfl, rfl, rfl, trivial⟩ fun ρ0 => ?_
                      refine ⟨_, rfl, ?_⟩
                      refine ⟨_, op_ldo rfl rfl rfl rfl, ?_⟩
                      refine ⟨_, rfl, ?_⟩
                      refine ⟨_, op_ldo rfl rfl rfl rfl, ?_⟩
                      refine ⟨_, rfl, (ac_spec_l10Marks a.marks.p b.marks.p a.marks.l b.marks.l st hA.marks hB.marks (hb.marks)).mono ?_⟩
                      rintro _ st ⟨x82, rfl, h82, rfl⟩
                      rcases x82 with _|_
                      · replace h82 := fun k => Bool.false_ne_true (h82.2 k)
                        refine ⟨_, rfl, ?_⟩
                        refine cx_sound _ _ _ _ _ ?_
                        exact ⟨.inl rfl, _, rfl, false, rfl, ⟨fun h => absurd h Bool.false_ne_true, fun h => (show False from (absurd (congrArg Mg.marks h) h82)).elim⟩, rfl⟩
                      · replace h82 := h82.1 rfl
                        refine ⟨_, rfl, ?_⟩
                        refine cx_sound _ _ _ _ _ ?_
                        exact ⟨.inl rfl, _, rfl, true, rfl, ⟨fun _ => mg_ext h9 h15 h22 h29 h36 (by simp only [TV.x, h45, h54]) h61 h68 h75 h82, fun _ => rfl⟩, rfl⟩
theorem nd_ext {a b : Nd} (h1 : a.id = b.id) (h2 : a.n = b.n) (h3 : a.s = b.s) (h4 : a.t = b.t) (h5 : a.g = b.g) (h6 : a.got = b.got) (h7 : a.acked = b.acked) (h8 : a.seen = b.seen) (h9 : a.num = b.num) (h10 : a.slots = b.slots) (h11 : a.sess = b.sess) (h12 : a.wait = b.wait) (h13 : a.limit = b.limit) (h14 : a.clock = b.clock) (h15 : a.rises = b.rises) : a = b := by
  cases a; cases b; simp only at h1 h2 h3 h4 h5 h6 h7 h8 h9 h10 h11 h12 h13 h14 h15; rw [h1, h2, h3, h4, h5, h6, h7, h8, h9, h10, h11, h12, h13, h14, h15]
theorem ac_impl_NodeSame (a b : NV) (st : St) (hA : RdN st a) (hB : RdN st b) (hb : bigN a.x) : C 47 [.agg #[vI a.id, vI a.n, vS a.s.p a.s.x.items.length, vS a.s.q a.s.x.floors.length, vS a.t.p a.t.l.length, vI a.t.root, vI a.g.cap, vI a.g.frm, vS a.g.p a.g.l.length, vS a.got.p a.got.l.length, vS a.acked.p a.acked.l.length, vS a.seen.p a.seen.t.length, vI a.num, vI a.slots, vS a.sess.p a.sess.l.length, vI a.wait, vI a.limit, vI a.clock, vS a.rises.p a.rises.l.length], .agg #[vI b.id, vI b.n, vS b.s.p b.s.x.items.length, vS b.s.q b.s.x.floors.length, vS b.t.p b.t.l.length, vI b.t.root, vI b.g.cap, vI b.g.frm, vS b.g.p b.g.l.length, vS b.got.p b.got.l.length, vS b.acked.p b.acked.l.length, vS b.seen.p b.seen.t.length, vI b.num, vI b.slots, vS b.sess.p b.sess.l.length, vI b.wait, vI b.limit, vI b.clock, vS b.rises.p b.rises.l.length]] st (fun v s => ∃ x, v = .bool x ∧ (x = true ↔ a.x = b.x) ∧ s = st) := by
  refine AC.enterX (i := ⟨[2, 3], [2, 3, 6, 8, 12, 14, 19, 21, 26, 28, 33, 35, 40, 42, 47, 49, 53, 55, 60, 62, 67, 69, 74, 76, 81, 83, 88, 90, 95, 97, 102, 104], [0, 1, 2, 3, 4, 5, 52]⟩) [] Try.func47 rfl rfl (by kernel_rfl) (by kernel_rfl) Try.ntmps47 (Nat.le_of_ble_eq_true rfl) rfl ?_
  iterate 2 refine ⟨_, rfl, ?_⟩
  refine AW.cutM (2) st [(2, vL 2 0 (0)), (3, vL 3 0 (1)), (4, vB false)] [(2, 0, [vI a.id, vI a.n, vS a.s.p a.s.x.items.length, vS a.s.q a.s.x.floors.length, vS a.t.p a.t.l.length, vI a.t.root, vI a.g.cap, vI a.g.frm, vS a.g.p a.g.l.length, vS a.got.p a.got.l.length, vS a.acked.p a.acked.l.length, vS a.seen.p a.seen.t.length, vI a.num, vI a.slots, vS a.sess.p a.sess.l.length, vI a.wait, vI a.limit, vI a.clock, vS a.rises.p a.rises.l.length]), (3, 1, [vI b.id, vI b.n, vS b.s.p b.s.x.items.length, vS b.s.q b.s.x.floors.length, vS b.t.p b.t.l.length, vI b.t.root, vI b.g.cap, vI b.g.frm, vS b.g.p b.g.l.length, vS b.got.p b.got.l.length, vS b.acked.p b.acked.l.length, vS b.seen.p b.seen.t.length, vI b.num, vI b.slots, vS b.sess.p b.sess.l.length, vI b.wait, vI b.limit, vI b.clock, vS b.rises.p b.rises.l.length])] ⟨rfl, rfl, rfl, trivial⟩ ⟨rfl, rfl, trivial⟩ rfl fun ρ0 ff => ?_
  refine ⟨_, rfl, ?_⟩
  refine ⟨_, op_ldo rfl rfl rfl rfl, ?_⟩
  refine ⟨_, rfl, ?_⟩
  refine ⟨_, op_ldo rfl rfl rfl rfl, ?_⟩
  refine ⟨_, rfl, ?_⟩
  rintro (_|_) h10
  · replace h10 : a.id = b.id := bne_eq_false_iff_eq.1 h10
    refine ⟨_, rfl, ?_⟩
    refine ⟨_, op_ldo rfl rfl rfl rfl, ?_⟩
    refine ⟨_, rfl, ?_⟩
    refine ⟨_, op_ldo rfl rfl rfl rfl, ?_⟩
    refine ⟨_, rfl, ?_⟩
    rintro (_|_) h16
    · replace h16 : a.n = b.n := bne_eq_false_iff_eq.1 h16
      iterate 2 refine ⟨_, rfl, ?_⟩
      refine ⟨_, op_ldo rfl rfl rfl rfl, ?_⟩
      refine ⟨_, rfl, ?_⟩
      refine ⟨_, op_ldo rfl rfl rfl rfl, ?_⟩
      refine ⟨_, rfl, ?_⟩
      rintro (_|_) h23
      · replace h23 : a.num = b.num := bne_eq_false_iff_eq.1 h23
        refine ow_cut [(2, vL 2 0 (0)), (3, vL 3 0 (1)), (4, vB false), (18, vB false), (23, vB false)] ⟨rfl, rfl, rfl, rfl, rfl, trivial⟩ fun ρ0 => ?_
        iterate 2 refine ⟨_, rfl, ?_⟩
        refine ⟨_, op_ldo rfl rfl rfl rfl, ?_⟩
        refine ⟨_, rfl, ?_⟩
        refine ⟨_, op_ldo rfl rfl rfl rfl, ?_⟩
        refine ⟨_, rfl, ?_⟩
        rintro (_|_) h30
        · replace h30 : a.slots = b.slots := bne_eq_false_iff_eq.1 h30
          iterate 2 refine ⟨_, rfl, ?_⟩
          refine ⟨_, op_ldo rfl rfl rfl rfl, ?_⟩
          refine ⟨_, rfl, ?_⟩
          refine ⟨_, op_ldo rfl rfl rfl rfl, ?_⟩
          refine ⟨_, rfl, ?_⟩
          rintro (_|_) h37
          · replace h37 : a.wait = b.wait := bne_eq_false_iff_eq.1 h37
            iterate 2 refine ⟨_, rfl, ?_⟩
            refine ⟨_, op_ldo rfl rfl rfl rfl, ?_⟩
            refine ow_cut [(2, vL 2 0 (0)), (3, vL 3 0 (1)), (4, vB false), (39, vB false), (41, vI a.limit)] ⟨rfl, rfl, rfl, rfl, rfl, trivial⟩ fun ρ0 => ?_
            refine ⟨_, rfl, ?_⟩
            refine ⟨_, op_ldo rfl rfl rfl rfl, ?_⟩
            refine ⟨_, rfl, ?_⟩
            rintro (_|_) h44
            · replace h44 : a.limit = b.limit := bne_eq_false_iff_eq.1 h44
              iterate 2 refine ⟨_, rfl, ?_⟩
              refine ⟨_, op_ldo rfl rfl rfl rfl, ?_⟩
              refine ⟨_, rfl, ?_⟩
              refine ⟨_, op_ldo rfl rfl rfl rfl, ?_⟩
              refine ⟨_, rfl, ?_⟩
              rintro (_|_) h51
              · replace h51 : a.clock = b.clock := bne_eq_false_iff_eq.1 h51
                refine ⟨_, rfl, ?_⟩
                refine AW.cutM (2) st [(2, vL 2 0 (0)), (3, vL 3 0 (1)), (4, vB false), (52, vB false)] [(2, 0, [vI a.id, vI a.n, vS a.s.p a.s.x.items.length, vS a.s.q a.s.x.floors.length, vS a.t.p a.t.l.length, vI a.t.root, vI a.g.cap, vI a.g.frm, vS a.g.p a.g.l.length, vS a.got.p a.got.l.length, vS a.acked.p a.acked.l.length, vS a.seen.p a.seen.t.length, vI a.num, vI a.slots, vS a.sess.p a.sess.l.length, vI a.wait, vI a.limit, vI a.clock, vS a.rises.p a.rises.l.length]), (3, 1, [vI b.id, vI b.n, vS b.s.p b.s.x.items.length, vS b.s.q b.s.x.floors.length, vS b.t.p b.t.l.length, vI b.t.root, vI b.g.cap, vI b.g.frm, vS b.g.p b.g.l.length, vS b.got.p b.got.l.length, vS b.acked.p b.acked.l.length, vS b.seen.p b.seen.t.length, vI b.num, vI b.slots, vS b.sess.p b.sess.l.length, vI b.wait, vI b.limit, vI b.clock, vS b.rises.p b.rises.l.length])] ⟨rfl, rfl, rfl, rfl, trivial⟩ ⟨rfl, rfl, trivial⟩ rfl fun ρ0 ff => ?_
                refine cx_sound _ _ _ _ _ ?_
                refine ⟨_, rfl, ?_⟩
                refine ⟨_, op_ldo rfl rfl rfl rfl, ?_⟩
                refine ⟨_, rfl, ?_⟩
                refine ⟨_, op_ldo rfl rfl rfl rfl, ?_⟩
                refine ⟨_, rfl, (ac_slices_EqualFunc_Rows a.seen.p b.seen.p a.seen.t b.seen.t st hA.seen hB.seen ((bigT_iff.1 hb.seen).1) ((bigT_iff.1 hb.seen).2)).mono ?_⟩
                rintro _ st ⟨x57, rfl, h57, rfl⟩
                rcases x57 with _|_
                · replace h57 := fun k => Bool.false_ne_true (h57.2 k)
                  refine AW.cutM (2) st [(2, vL 2 0 (0)), (3, vL 3 0 (1)), (4, vB false), (5, vB false)] [(2, 0, [vI a.id, vI a.n, vS a.s.p a.s.x.items.length, vS a.s.q a.s.x.floors.length, vS a.t.p a.t.l.length, vI a.t.root, vI a.g.cap, vI a.g.frm, vS a.g.p a.g.l.length, vS a.got.p a.got.l.length, vS a.acked.p a.acked.l.length, vS a.seen.p a.seen.t.length, vI a.num, vI a.slots, vS a.sess.p a.sess.l.length, vI a.wait, vI a.limit, vI a.clock, vS a.rises.p a.rises.l.length]), (3, 1, [vI b.id, vI b.n, vS b.s.p b.s.x.items.length, vS b.s.q b.s.x.floors.length, vS b.t.p b.t.l.length, vI b.t.root, vI b.g.cap, vI b.g.frm, vS b.g.p b.g.l.length, vS b.got.p b.got.l.length, vS b.acked.p b.acked.l.length, vS b.seen.p b.seen.t.length, vI b.num, vI b.slots, vS b.sess.p b.sess.l.length, vI b.wait, vI b.limit, vI b.clock, vS b.rises.p b.rises.l.length])] ⟨rfl, rfl, rfl, rfl, trivial⟩ ⟨rfl, rfl, trivial⟩ rfl fun ρ0 ff => ?_
                  iterate 3 refine ⟨_, rfl, ?_⟩
                  refine ow_cut [(2, vL 2 0 (0)), (3, vL 3 0 (1)), (4, vB false), (79, vB false)] ⟨rfl, rfl, rfl, rfl, trivial⟩ fun ρ0 => ?_
                  iterate 3 refine ⟨_, rfl, ?_⟩
                  refine ow_cut [(2, vL 2 0 (0)), (3, vL 3 0 (1)), (4, vB false), (100, vB false)] ⟨rfl, rfl, rfl, rfl, trivial⟩ fun ρ0 => ?_
                  refine ⟨_, rfl, ?_⟩
                  refine cx_sound _ _ _ _ _ ?_
                  exact ⟨.inl rfl, _, rfl, false, rfl, ⟨fun h => absurd h Bool.false_ne_true, fun h => (show False from (absurd (congrArg Nd.seen h) h57)).elim⟩, rfl⟩
                · replace h57 := h57.1 rfl
                  refine AW.cutM (2) st [(2, vL 2 0 (0)), (3, vL 3 0 (1)), (4, vB false), (5, vB true)] [(2, 0, [vI a.id, vI a.n, vS a.s.p a.s.x.items.length, vS a.s.q a.s.x.floors.length, vS a.t.p a.t.l.length, vI a.t.root, vI a.g.cap, vI a.g.frm, vS a.g.p a.g.l.length, vS a.got.p a.got.l.length, vS a.acked.p a.acked.l.length, vS a.seen.p a.seen.t.length, vI a.num, vI a.slots, vS a.sess.p a.sess.l.length, vI a.wait, vI a.limit, vI a.clock, vS a.rises.p a.rises.l.length]), (3, 1, [vI b.id, vI b.n, vS b.s.p b.s.x.items.length, vS b.s.q b.s.x.floors.length, vS b.t.p b.t.l.length, vI b.t.root, vI b.g.cap, vI b.g.frm, vS b.g.p b.g.l.length, vS b.got.p b.got.l.length, vS b.acked.p b.acked.l.length, vS b.seen.p b.seen.t.length, vI b.num, vI b.slots, vS b.sess.p b.sess.l.length, vI b.wait, vI b.limit, vI b.clock, vS b.rises.p b.rises.l.length])] ⟨rfl, rfl, rfl, rfl, trivial⟩ ⟨rfl, rfl, trivial⟩ rfl fun ρ0 ff => ?_
                  refine ⟨_, rfl, ?_⟩
                  refine ⟨_, op_ldo rfl rfl rfl rfl, ?_⟩
                  refine ⟨_, rfl, ?_⟩
                  refine ⟨_, op_ldo rfl rfl rfl rfl, ?_⟩
                  refine ⟨_, rfl, (ac_impl_StateSame a.s b.s st hA.s hB.s (hb.s)).mono ?_⟩
                  rintro _ st ⟨x64, rfl, h64, rfl⟩
                  rcases x64 with _|_
                  · replace h64 := fun k => Bool.false_ne_true (h64.2 k)
                    iterate 3 refine ⟨_, rfl, ?_⟩
                    refine ow_cut [(2, vL 2 0 (0)), (3, vL 3 0 (1)), (4, vB false), (79, vB false)] ⟨rfl, rfl, rfl, rfl, trivial⟩ fun ρ0 => ?_
                    iterate 3 refine ⟨_, rfl, ?_⟩
                    refine ow_cut [(2, vL 2 0 (0)), (3, vL 3 0 (1)), (4, vB false), (100, vB false)] ⟨rfl, rfl, rfl, rfl, trivial⟩ fun ρ0 => ?_
                    refine ⟨_, rfl, ?_⟩
                    refine cx_sound _ _ _ _ _ ?_
                    exact ⟨.inl rfl, _, rfl, false, rfl, ⟨fun h => absurd h Bool.false_ne_true, fun h => (show False from (absurd (congrArg Nd.s h) h64)).elim⟩, rfl⟩
                  · replace h64 := h64.1 rfl
                    iterate 2 refine ⟨_, rfl, ?_⟩
                    refine ⟨_, op_ldo rfl rfl rfl rfl, ?_⟩
                    refine ⟨_, rfl, ?_⟩
                    refine ⟨_, op_ldo rfl rfl rfl rfl, ?_⟩
                    refine ⟨_, rfl, (ac_impl_treeSame a.t b.t st hA.t hB.t (hb.t)).mono ?_⟩
                    rintro _ st ⟨x71, rfl, h71, rfl⟩
                    rcases x71 with _|_
                    · replace h71 := fun k => Bool.false_ne_true (h71.2 k)
                      iterate 2 refine ⟨_, rfl, ?_⟩
                      refine ow_cut [(2, vL 2 0 (0)), (3, vL 3 0 (1)), (4, vB false), (79, vB false)] ⟨rfl, rfl, rfl, rfl, trivial⟩ fun ρ0 => ?_
                      iterate 3 refine ⟨_, rfl, ?_⟩
                      refine ow_cut [(2, vL 2 0 (0)), (3, vL 3 0 (1)), (4, vB false), (100, vB false)] ⟨rfl, rfl, rfl, rfl, trivial⟩ fun ρ0 => ?_
                      refine ⟨_, rfl, ?_⟩
                      refine cx_sound _ _ _ _ _ ?_
                      exact ⟨.inl rfl, _, rfl, false, rfl, ⟨fun h => absurd h Bool.false_ne_true, fun h => (show False from (absurd (congrArg Nd.t h) h71)).elim⟩, rfl⟩
                    · replace h71 := h71.1 rfl
                      iterate 2 refine ⟨_, rfl, ?_⟩
                      refine ⟨_, op_ldo rfl rfl rfl rfl, ?_⟩
                      refine ow_cut [(2, vL 2 0 (0)), (3, vL 3 0 (1)), (4, vB false), (73, vB true), (75, .agg #[vI a.g.cap, vI a.g.frm, vS a.g.p a.g.l.length])] ⟨rfl, rfl, rfl, rfl, rfl, trivial⟩ fun ρ0 => ?_
                      refine ⟨_, rfl, ?_⟩
                      refine ⟨_, op_ldo rfl rfl rfl rfl, ?_⟩
                      refine ⟨_, rfl, (ac_impl_logSame a.g b.g st hA.g hB.g (bigLog_iff.1 hb.g)).mono ?_⟩
                      rintro _ st ⟨x78, rfl, h78, rfl⟩
                      rcases x78 with _|_
                      · replace h78 := fun k => Bool.false_ne_true (h78.2 k)
                        iterate 3 refine ⟨_, rfl, ?_⟩
                        refine ow_cut [(2, vL 2 0 (0)), (3, vL 3 0 (1)), (4, vB false), (93, vB false)] ⟨rfl, rfl, rfl, rfl, trivial⟩ fun ρ0 => ?_
                        iterate 2 refine ⟨_, rfl, ?_⟩
                        refine cx_sound _ _ _ _ _ ?_
                        exact ⟨.inl rfl, _, rfl, false, rfl, ⟨fun h => absurd h Bool.false_ne_true, fun h => (show False from (absurd (congrArg Nd.g h) h78)).elim⟩, rfl⟩
                      · replace h78 := h78.1 rfl
                        iterate 2 refine ⟨_, rfl, ?_⟩
                        refine ⟨_, op_ldo rfl rfl rfl rfl, ?_⟩
                        refine ⟨_, rfl, ?_⟩
                        refine ⟨_, op_ldo rfl rfl rfl rfl, ?_⟩
                        refine ⟨_, rfl, (ac_slices_Equal_Int a.got.p b.got.p a.got.l b.got.l st hA.got hB.got (hb.got)).mono ?_⟩
                        rintro _ st ⟨x85, rfl, h85, rfl⟩
                        rcases x85 with _|_
                        · replace h85 := fun k => Bool.false_ne_true (h85.2 k)
                          iterate 2 refine ⟨_, rfl, ?_⟩
                          refine ow_cut [(2, vL 2 0 (0)), (3, vL 3 0 (1)), (4, vB false), (93, vB false)] ⟨rfl, rfl, rfl, rfl, trivial⟩ fun ρ0 => ?_
                          iterate 2 refine ⟨_, rfl, ?_⟩
                          refine cx_sound _ _ _ _ _ ?_
                          exact ⟨.inl rfl, _, rfl, false, rfl, ⟨fun h => absurd h Bool.false_ne_true, fun h => (show False from (absurd (congrArg Nd.got h) h85)).elim⟩, rfl⟩
                        · replace h85 := h85.1 rfl
                          iterate 2 refine ⟨_, rfl, ?_⟩
                          refine ⟨_, op_ldo rfl rfl rfl rfl, ?_⟩
                          refine ⟨_, rfl, ?_⟩
                          refine ⟨_, op_ldo rfl rfl rfl rfl, ?_⟩
                          refine ⟨_, rfl, (ac_slices_Equal_Int a.acked.p b.acked.p a.acked.l b.acked.l st hA.acked hB.acked (hb.acked)).mono ?_⟩
                          rintro _ st ⟨x92, rfl, h92, rfl⟩
                          rcases x92 with _|_
                          · replace h92 := fun k => Bool.false_ne_true (h92.2 k)
                            refine ⟨_, rfl, ?_⟩
                            refine ow_cut [(2, vL 2 0 (0)), (3, vL 3 0 (1)), (4, vB false), (93, vB false)] ⟨rfl, rfl, rfl, rfl, trivial⟩ fun ρ0 => ?_
                            iterate 2 refine ⟨_, rfl, ?_⟩
                            refine cx_sound _ _ _ _ _ ?_
                            exact ⟨.inl rfl, _, rfl, false, rfl, ⟨fun h => absurd h Bool.false_ne_true, fun h => (show False from (absurd (congrArg Nd.acked h) h92)).elim⟩, rfl⟩
                          · replace h92 := h92.1 rfl
                            refine ⟨_, rfl, ?_⟩
                            refine ow_cut [(2, vL 2 0 (0)), (3, vL 3 0 (1)), (4, vB false), (93, vB true)] ⟨rfl, rfl, rfl, rfl, trivial⟩ fun ρ0 => ?_
                            refine ⟨_, rfl, ?_⟩
                            refine ⟨_, op_ldo rfl rfl rfl rfl, ?_⟩
                            refine ⟨_, rfl, ?_⟩
                            refine ⟨_, op_ldo rfl rfl rfl rfl, ?_⟩
                            refine ⟨_, rfl, (ac_slices_Equal_Sess a.sess.p b.sess.p a.sess.l b.sess.l st hA.sess hB.sess (hb.sess)).mono ?_⟩
                            rintro _ st ⟨x99, rfl, h99, rfl⟩
                            rcases x99 with _|_
                            · replace h99 := fun k => Bool.false_ne_true (h99.2 k)
                              iterate 2 refine ⟨_, rfl, ?_⟩
                              refine cx_sound _ _ _ _ _ ?_
                              exact ⟨.inl rfl, _, rfl, false, rfl, ⟨fun h => absurd h Bool.false_ne_true, fun h => (show False from (absurd (congrArg Nd.sess h) h99)).elim⟩, rfl⟩
                            · replace h99 := h99.1 rfl
                              iterate 2 refine ⟨_, rfl, ?_⟩
                              refine ⟨_, op_ldo rfl rfl rfl rfl, ?_⟩
                              refine ⟨_, rfl, ?_⟩
                              refine ⟨_, op_ldo rfl rfl rfl rfl, ?_⟩
                              refine ⟨_, rfl, (ac_slices_Equal_Rise a.rises.p b.rises.p a.rises.l b.rises.l st hA.rises hB.rises (hb.rises)).mono ?_⟩
                              rintro _ st ⟨x106, rfl, h106, rfl⟩
                              rcases x106 with _|_
                              · replace h106 := fun k => Bool.false_ne_true (h106.2 k)
                                refine ⟨_, rfl, ?_⟩
                                refine cx_sound _ _ _ _ _ ?_
                                exact ⟨.inl rfl, _, rfl, false, rfl, ⟨fun h => absurd h Bool.false_ne_true, fun h => (show False from (absurd (congrArg Nd.rises h) h106)).elim⟩, rfl⟩
                              · replace h106 := h106.1 rfl
                                refine ⟨_, rfl, ?_⟩
                                refine cx_sound _ _ _ _ _ ?_
                                exact ⟨.inl rfl, _, rfl, true, rfl, ⟨fun _ => nd_ext h10 h16 h64 h71 h78 h85 h92 h57 h23 h30 h99 h37 h44 h51 h106, fun _ => rfl⟩, rfl⟩
              · replace h51 : ¬ (a.clock = b.clock) := bne_iff_ne.1 h51
                refine ⟨_, rfl, ?_⟩
                refine AW.cutM (2) st [(2, vL 2 0 (0)), (3, vL 3 0 (1)), (4, vB false), (52, vB true)] [(2, 0, [vI a.id, vI a.n, vS a.s.p a.s.x.items.length, vS a.s.q a.s.x.floors.length, vS a.t.p a.t.l.length, vI a.t.root, vI a.g.cap, vI a.g.frm, vS a.g.p a.g.l.length, vS a.got.p a.got.l.length, vS a.acked.p a.acked.l.length, vS a.seen.p a.seen.t.length, vI a.num, vI a.slots, vS a.sess.p a.sess.l.length, vI a.wait, vI a.limit, vI a.clock, vS a.rises.p a.rises.l.length]), (3, 1, [vI b.id, vI b.n, vS b.s.p b.s.x.items.length, vS b.s.q b.s.x.floors.length, vS b.t.p b.t.l.length, vI b.t.root, vI b.g.cap, vI b.g.frm, vS b.g.p b.g.l.length, vS b.got.p b.got.l.length, vS b.acked.p b.acked.l.length, vS b.seen.p b.seen.t.length, vI b.num, vI b.slots, vS b.sess.p b.sess.l.length, vI b.wait, vI b.limit, vI b.clock, vS b.rises.p b.rises.l.length])] ⟨rfl, rfl, rfl, rfl, trivial⟩ ⟨rfl, rfl, trivial⟩ rfl fun ρ0 ff => ?_
                refine cx_sound _ _ _ _ _ ?_
                exact ⟨.inl rfl, _, rfl, false, rfl, ⟨fun h => absurd h Bool.false_ne_true, fun h => (show False from (absurd (congrArg Nd.clock h) h51)).elim⟩, rfl⟩
            · replace h44 : ¬ (a.limit = b.limit) := bne_iff_ne.1 h44
              iterate 2 refine ⟨_, rfl, ?_⟩
              refine AW.cutM (2) st [(2, vL 2 0 (0)), (3, vL 3 0 (1)), (4, vB false), (52, vB true)] [(2, 0, [vI a.id, vI a.n, vS a.s.p a.s.x.items.length, vS a.s.q a.s.x.floors.length, vS a.t.p a.t.l.length, vI a.t.root, vI a.g.cap, vI a.g.frm, vS a.g.p a.g.l.length, vS a.got.p a.got.l.length, vS a.acked.p a.acked.l.length, vS a.seen.p a.seen.t.length, vI a.num, vI a.slots, vS a.sess.p a.sess.l.length, vI a.wait, vI a.limit, vI a.clock, vS a.rises.p a.rises.l.length]), (3, 1, [vI b.id, vI b.n, vS b.s.p b.s.x.items.length, vS b.s.q b.s.x.floors.length, vS b.t.p b.t.l.length, vI b.t.root, vI b.g.cap, vI b.g.frm, vS b.g.p b.g.l.length, vS b.got.p b.got.l.length, vS b.acked.p b.acked.l.length, vS b.seen.p b.seen.t.length, vI b.num, vI b.slots, vS b.sess.p b.sess.l.length, vI b.wait, vI b.limit, vI b.clock, vS b.rises.p b.rises.l.length])] ⟨rfl, rfl, rfl, rfl, trivial⟩ ⟨rfl, rfl, trivial⟩ rfl fun ρ0 ff => ?_
              refine cx_sound _ _ _ _ _ ?_
              exact ⟨.inl rfl, _, rfl, false, rfl, ⟨fun h => absurd h Bool.false_ne_true, fun h => (show False from (absurd (congrArg Nd.limit h) h44)).elim⟩, rfl⟩
          · replace h37 : ¬ (a.wait = b.wait) := bne_iff_ne.1 h37
            iterate 3 refine ⟨_, rfl, ?_⟩
            refine AW.cutM (2) st [(2, vL 2 0 (0)), (3, vL 3 0 (1)), (4, vB false), (52, vB true)] [(2, 0, [vI a.id, vI a.n, vS a.s.p a.s.x.items.length, vS a.s.q a.s.x.floors.length, vS a.t.p a.t.l.length, vI a.t.root, vI a.g.cap, vI a.g.frm, vS a.g.p a.g.l.length, vS a.got.p a.got.l.length, vS a.acked.p a.acked.l.length, vS a.seen.p a.seen.t.length, vI a.num, vI a.slots, vS a.sess.p a.sess.l.length, vI a.wait, vI a.limit, vI a.clock, vS a.rises.p a.rises.l.length]), (3, 1, [vI b.id, vI b.n, vS b.s.p b.s.x.items.length, vS b.s.q b.s.x.floors.length, vS b.t.p b.t.l.length, vI b.t.root, vI b.g.cap, vI b.g.frm, vS b.g.p b.g.l.length, vS b.got.p b.got.l.length, vS b.acked.p b.acked.l.length, vS b.seen.p b.seen.t.length, vI b.num, vI b.slots, vS b.sess.p b.sess.l.length, vI b.wait, vI b.limit, vI b.clock, vS b.rises.p b.rises.l.length])] ⟨rfl, rfl, rfl, rfl, trivial⟩ ⟨rfl, rfl, trivial⟩ rfl fun ρ0 ff => ?_
            refine cx_sound _ _ _ _ _ ?_
            exact ⟨.inl rfl, _, rfl, false, rfl, ⟨fun h => absurd h Bool.false_ne_true, fun h => (show False from (absurd (congrArg Nd.wait h) h37)).elim⟩, rfl⟩
        · replace h30 : ¬ (a.slots = b.slots) := bne_iff_ne.1 h30
          iterate 4 refine ⟨_, rfl, ?_⟩
          refine AW.cutM (2) st [(2, vL 2 0 (0)), (3, vL 3 0 (1)), (4, vB false), (52, vB true)] [(2, 0, [vI a.id, vI a.n, vS a.s.p a.s.x.items.length, vS a.s.q a.s.x.floors.length, vS a.t.p a.t.l.length, vI a.t.root, vI a.g.cap, vI a.g.frm, vS a.g.p a.g.l.length, vS a.got.p a.got.l.length, vS a.acked.p a.acked.l.length, vS a.seen.p a.seen.t.length, vI a.num, vI a.slots, vS a.sess.p a.sess.l.length, vI a.wait, vI a.limit, vI a.clock, vS a.rises.p a.rises.l.length]), (3, 1, [vI b.id, vI b.n, vS b.s.p b.s.x.items.length, vS b.s.q b.s.x.floors.length, vS b.t.p b.t.l.length, vI b.t.root, vI b.g.cap, vI b.g.frm, vS b.g.p b.g.l.length, vS b.got.p b.got.l.length, vS b.acked.p b.acked.l.length, vS b.seen.p b.seen.t.length, vI b.num, vI b.slots, vS b.sess.p b.sess.l.length, vI b.wait, vI b.limit, vI b.clock, vS b.rises.p b.rises.l.length])] ⟨rfl, rfl, rfl, rfl, trivial⟩ ⟨rfl, rfl, trivial⟩ rfl fun ρ0 ff => ?_
          refine cx_sound _ _ _ _ _ ?_
          exact ⟨.inl rfl, _, rfl, false, rfl, ⟨fun h => absurd h Bool.false_ne_true, fun h => (show False from (absurd (congrArg Nd.slots h) h30)).elim⟩, rfl⟩
      · replace h23 : ¬ (a.num = b.num) := bne_iff_ne.1 h23
        refine ow_cut [(2, vL 2 0 (0)), (3, vL 3 0 (1)), (4, vB false), (18, vB false), (23, vB true)] ⟨rfl, rfl, rfl, rfl, rfl, trivial⟩ fun ρ0 => ?_
        iterate 5 refine ⟨_, rfl, ?_⟩
        refine AW.cutM (2) st [(2, vL 2 0 (0)), (3, vL 3 0 (1)), (4, vB false), (52, vB true)] [(2, 0, [vI a.id, vI a.n, vS a.s.p a.s.x.items.length, vS a.s.q a.s.x.floors.length, vS a.t.p a.t.l.length, vI a.t.root, vI a.g.cap, vI a.g.frm, vS a.g.p a.g.l.length, vS a.got.p a.got.l.length, vS a.acked.p a.acked.l.length, vS a.seen.p a.seen.t.length, vI a.num, vI a.slots, vS a.sess.p a.sess.l.length, vI a.wait, vI a.limit, vI a.clock, vS a.rises.p a.rises.l.length]), (3, 1, [vI b.id, vI b.n, vS b.s.p b.s.x.items.length, vS b.s.q b.s.x.floors.length, vS b.t.p b.t.l.length, vI b.t.root, vI b.g.cap, vI b.g.frm, vS b.g.p b.g.l.length, vS b.got.p b.got.l.length, vS b.acked.p b.acked.l.length, vS b.seen.p b.seen.t.length, vI b.num, vI b.slots, vS b.sess.p b.sess.l.length, vI b.wait, vI b.limit, vI b.clock, vS b.rises.p b.rises.l.length])] ⟨rfl, rfl, rfl, rfl, trivial⟩ ⟨rfl, rfl, trivial⟩ rfl fun ρ0 ff => ?_
        refine cx_sound _ _ _ _ _ ?_
        exact ⟨.inl rfl, _, rfl, false, rfl, ⟨fun h => absurd h Bool.false_ne_true, fun h => (show False from (absurd (congrArg Nd.num h) h23)).elim⟩, rfl⟩
    · replace h16 : ¬ (a.n = b.n) := bne_iff_ne.1 h16
      iterate 2 refine ⟨_, rfl, ?_⟩
      refine ow_cut [(2, vL 2 0 (0)), (3, vL 3 0 (1)), (4, vB false), (24, vB true)] ⟨rfl, rfl, rfl, rfl, trivial⟩ fun ρ0 => ?_
      iterate 4 refine ⟨_, rfl, ?_⟩
      refine AW.cutM (2) st [(2, vL 2 0 (0)), (3, vL 3 0 (1)), (4, vB false), (52, vB true)] [(2, 0, [vI a.id, vI a.n, vS a.s.p a.s.x.items.length, vS a.s.q a.s.x.floors.length, vS a.t.p a.t.l.length, vI a.t.root, vI a.g.cap, vI a.g.frm, vS a.g.p a.g.l.length, vS a.got.p a.got.l.length, vS a.acked.p a.acked.l.length, vS a.seen.p a.seen.t.length, vI a.num, vI a.slots, vS a.sess.p a.sess.l.length, vI a.wait, vI a.limit, vI a.clock, vS a.rises.p a.rises.l.length]), (3, 1, [vI b.id, vI b.n, vS b.s.p b.s.x.items.length, vS b.s.q b.s.x.floors.length, vS b.t.p b.t.l.length, vI b.t.root, vI b.g.cap, vI b.g.frm, vS b.g.p b.g.l.length, vS b.got.p b.got.l.length, vS b.acked.p b.acked.l.length, vS b.seen.p b.seen.t.length, vI b.num, vI b.slots, vS b.sess.p b.sess.l.length, vI b.wait, vI b.limit, vI b.clock, vS b.rises.p b.rises.l.length])] ⟨rfl, rfl, rfl, rfl, trivial⟩ ⟨rfl, rfl, trivial⟩ rfl fun ρ0 ff => ?_
      refine cx_sound _ _ _ _ _ ?_
      exact ⟨.inl rfl, _, rfl, false, rfl, ⟨fun h => absurd h Bool.false_ne_true, fun h => (show False from (absurd (congrArg Nd.n h) h16)).elim⟩, rfl⟩
  · replace h10 : ¬ (a.id = b.id) := bne_iff_ne.1 h10
    iterate 2 refine ⟨_, rfl, ?_⟩
    refine ow_cut [(2, vL 2 0 (0)), (3, vL 3 0 (1)), (4, vB false), (24, vB true)] ⟨rfl, rfl, rfl, rfl, trivial⟩ fun ρ0 => ?_
    iterate 4 refine ⟨_, rfl, ?_⟩
    refine AW.cutM (2) st [(2, vL 2 0 (0)), (3, vL 3 0 (1)), (4, vB false), (52, vB true)] [(2, 0, [vI a.id, vI a.n, vS a.s.p a.s.x.items.length, vS a.s.q a.s.x.floors.length, vS a.t.p a.t.l.length, vI a.t.root, vI a.g.cap, vI a.g.frm, vS a.g.p a.g.l.length, vS a.got.p a.got.l.length, vS a.acked.p a.acked.l.length, vS a.seen.p a.seen.t.length, vI a.num, vI a.slots, vS a.sess.p a.sess.l.length, vI a.wait, vI a.limit, vI a.clock, vS a.rises.p a.rises.l.length]), (3, 1, [vI b.id, vI b.n, vS b.s.p b.s.x.items.length, vS b.s.q b.s.x.floors.length, vS b.t.p b.t.l.length, vI b.t.root, vI b.g.cap, vI b.g.frm, vS b.g.p b.g.l.length, vS b.got.p b.got.l.length, vS b.acked.p b.acked.l.length, vS b.seen.p b.seen.t.length, vI b.num, vI b.slots, vS b.sess.p b.sess.l.length, vI b.wait, vI b.limit, vI b.clock, vS b.rises.p b.rises.l.length])] ⟨rfl, rfl, rfl, rfl, trivial⟩ ⟨rfl, rfl, trivial⟩ rfl fun ρ0 ff => ?_
    refine cx_sound _ _ _ _ _ ?_
    exact ⟨.inl rfl, _, rfl, false, rfl, ⟨fun h => absurd h Bool.false_ne_true, fun h => (show False from (absurd (congrArg Nd.id h) h10)).elim⟩, rfl⟩
theorem ac_spec_NodeSame (a b : NV) (st : St) (hA : RdN st a) (hB : RdN st b) (hb : bigN a.x) : C 46 [.agg #[vI a.id, vI a.n, vS a.s.p a.s.x.items.length, vS a.s.q a.s.x.floors.length, vS a.t.p a.t.l.length, vI a.t.root, vI a.g.cap, vI a.g.frm, vS a.g.p a.g.l.length, vS a.got.p a.got.l.length, vS a.acked.p a.acked.l.length, vS a.seen.p a.seen.t.length, vI a.num, vI a.slots, vS a.sess.p a.sess.l.length, vI a.wait, vI a.limit, vI a.clock, vS a.rises.p a.rises.l.length], .agg #[vI b.id, vI b.n, vS b.s.p b.s.x.items.length, vS b.s.q b.s.x.floors.length, vS b.t.p b.t.l.length, vI b.t.root, vI b.g.cap, vI b.g.frm, vS b.g.p b.g.l.length, vS b.got.p b.got.l.length, vS b.acked.p b.acked.l.length, vS b.seen.p b.seen.t.length, vI b.num, vI b.slots, vS b.sess.p b.sess.l.length, vI b.wait, vI b.limit, vI b.clock, vS b.rises.p b.rises.l.length]] st (fun v s => ∃ x, v = .bool x ∧ (x = true ↔ a.x = b.x) ∧ s = st) := by
  have hs1 : a.seen.t.length ≤ 1048576 := (bigT_iff.1 hb.seen).1
  have hs2 : a.sess.l.length ≤ 1048576 := hb.sess
  have hs3 : a.rises.l.length ≤ 1048576 := hb.rises
  have hs4 := (bigT_iff.1 hb.seen).2
  refine AC.enterX (i := ⟨[2, 3], [2, 3, 8, 10, 14, 16, 21, 23, 29, 31, 37, 39, 45, 47, 53, 55, 61, 64, 69, 71, 75, 77, 82, 84, 89, 91, 96, 98, 103, 106, 112, 115, 121, 127, 132, 140, 146, 151, 158, 164, 169], [0, 1, 2, 3, 4, 5, 6, 7, 68, 119, 124, 138, 143, 156, 161, 174]⟩) [(8, [], []), (13, [], []), (18, [], [])] Try.func46 rfl rfl (by kernel_rfl) (by kernel_rfl) Try.ntmps46 (Nat.le_of_ble_eq_true rfl) rfl ?_
  iterate 2 refine ⟨_, rfl, ?_⟩
  refine AW.cutM (2) st [(2, vL 2 0 (0)), (3, vL 3 0 (1)), (4, vB false)] [(2, 0, [vI a.id, vI a.n, vS a.s.p a.s.x.items.length, vS a.s.q a.s.x.floors.length, vS a.t.p a.t.l.length, vI a.t.root, vI a.g.cap, vI a.g.frm, vS a.g.p a.g.l.length, vS a.got.p a.got.l.length, vS a.acked.p a.acked.l.length, vS a.seen.p a.seen.t.length, vI a.num, vI a.slots, vS a.sess.p a.sess.l.length, vI a.wait, vI a.limit, vI a.clock, vS a.rises.p a.rises.l.length]), (3, 1, [vI b.id, vI b.n, vS b.s.p b.s.x.items.length, vS b.s.q b.s.x.floors.length, vS b.t.p b.t.l.length, vI b.t.root, vI b.g.cap, vI b.g.frm, vS b.g.p b.g.l.length, vS b.got.p b.got.l.length, vS b.acked.p b.acked.l.length, vS b.seen.p b.seen.t.length, vI b.num, vI b.slots, vS b.sess.p b.sess.l.length, vI b.wait, vI b.limit, vI b.clock, vS b.rises.p b.rises.l.length])] ⟨rfl, rfl, rfl, trivial⟩ ⟨rfl, rfl, trivial⟩ rfl fun ρ0 ff => ?_
  refine ⟨_, rfl, ?_⟩
  refine ⟨_, op_ldo rfl rfl rfl rfl, ?_⟩
  refine ⟨_, rfl, ?_⟩
  refine ⟨_, op_ldo rfl rfl rfl rfl, ?_⟩
  refine ⟨_, rfl, ?_⟩
  rintro (_|_) h12
  · replace h12 : a.id = b.id := bne_eq_false_iff_eq.1 h12
    refine ⟨_, rfl, ?_⟩
    refine ⟨_, op_ldo rfl rfl rfl rfl, ?_⟩
    refine ⟨_, rfl, ?_⟩
    refine ⟨_, op_ldo rfl rfl rfl rfl, ?_⟩
    refine ⟨_, rfl, ?_⟩
    rintro (_|_) h18
    · replace h18 : a.n = b.n := bne_eq_false_iff_eq.1 h18
      iterate 2 refine ⟨_, rfl, ?_⟩
      refine ⟨_, op_ldo rfl rfl rfl rfl, ?_⟩
      refine ⟨_, rfl, ?_⟩
      refine ⟨_, op_ldo rfl rfl rfl rfl, ?_⟩
      refine ⟨_, rfl, (ac_spec_StateSame a.s b.s st hA.s hB.s (hb.s)).mono ?_⟩
      rintro _ st ⟨x25, rfl, h25, rfl⟩
      rcases x25 with _|_
      · replace h25 := fun k => Bool.false_ne_true (h25.2 k)
        refine ow_cut [(2, vL 2 0 (0)), (3, vL 3 0 (1)), (4, vB false), (20, vB false), (25, vB false)] ⟨rfl, rfl, rfl, rfl, rfl, trivial⟩ fun ρ0 => ?_
        iterate 4 refine ⟨_, rfl, ?_⟩
        refine ow_cut [(2, vL 2 0 (0)), (3, vL 3 0 (1)), (4, vB false), (43, vB true)] ⟨rfl, rfl, rfl, rfl, trivial⟩ fun ρ0 => ?_
        iterate 3 refine ⟨_, rfl, ?_⟩
        refine AW.cutM (2) st [(2, vL 2 0 (0)), (3, vL 3 0 (1)), (4, vB false), (68, vB true)] [(2, 0, [vI a.id, vI a.n, vS a.s.p a.s.x.items.length, vS a.s.q a.s.x.floors.length, vS a.t.p a.t.l.length, vI a.t.root, vI a.g.cap, vI a.g.frm, vS a.g.p a.g.l.length, vS a.got.p a.got.l.length, vS a.acked.p a.acked.l.length, vS a.seen.p a.seen.t.length, vI a.num, vI a.slots, vS a.sess.p a.sess.l.length, vI a.wait, vI a.limit, vI a.clock, vS a.rises.p a.rises.l.length]), (3, 1, [vI b.id, vI b.n, vS b.s.p b.s.x.items.length, vS b.s.q b.s.x.floors.length, vS b.t.p b.t.l.length, vI b.t.root, vI b.g.cap, vI b.g.frm, vS b.g.p b.g.l.length, vS b.got.p b.got.l.length, vS b.acked.p b.acked.l.length, vS b.seen.p b.seen.t.length, vI b.num, vI b.slots, vS b.sess.p b.sess.l.length, vI b.wait, vI b.limit, vI b.clock, vS b.rises.p b.rises.l.length])] ⟨rfl, rfl, rfl, rfl, trivial⟩ ⟨rfl, rfl, trivial⟩ rfl fun ρ0 ff => ?_
        refine cx_sound _ _ _ _ _ ?_
        exact ⟨.inl rfl, _, rfl, false, rfl, ⟨fun h => absurd h Bool.false_ne_true, fun h => (show False from (absurd (congrArg Nd.s h) h25)).elim⟩, rfl⟩
      · replace h25 := h25.1 rfl
        refine ow_cut [(2, vL 2 0 (0)), (3, vL 3 0 (1)), (4, vB false), (20, vB false), (25, vB true)] ⟨rfl, rfl, rfl, rfl, rfl, trivial⟩ fun ρ0 => ?_
        iterate 3 refine ⟨_, rfl, ?_⟩
        refine ⟨_, op_ldo rfl rfl rfl rfl, ?_⟩
        refine ⟨_, rfl, ?_⟩
        refine ⟨_, op_ldo rfl rfl rfl rfl, ?_⟩
        refine ⟨_, rfl, (ac_spec_l11Tree a.t b.t st hA.t hB.t (hb.t)).mono ?_⟩
        rintro _ st ⟨x33, rfl, h33, rfl⟩
        rcases x33 with _|_
        · replace h33 := fun k => Bool.false_ne_true (h33.2 k)
          iterate 3 refine ⟨_, rfl, ?_⟩
          refine ow_cut [(2, vL 2 0 (0)), (3, vL 3 0 (1)), (4, vB false), (43, vB true)] ⟨rfl, rfl, rfl, rfl, trivial⟩ fun ρ0 => ?_
          iterate 3 refine ⟨_, rfl, ?_⟩
          refine AW.cutM (2) st [(2, vL 2 0 (0)), (3, vL 3 0 (1)), (4, vB false), (68, vB true)] [(2, 0, [vI a.id, vI a.n, vS a.s.p a.s.x.items.length, vS a.s.q a.s.x.floors.length, vS a.t.p a.t.l.length, vI a.t.root, vI a.g.cap, vI a.g.frm, vS a.g.p a.g.l.length, vS a.got.p a.got.l.length, vS a.acked.p a.acked.l.length, vS a.seen.p a.seen.t.length, vI a.num, vI a.slots, vS a.sess.p a.sess.l.length, vI a.wait, vI a.limit, vI a.clock, vS a.rises.p a.rises.l.length]), (3, 1, [vI b.id, vI b.n, vS b.s.p b.s.x.items.length, vS b.s.q b.s.x.floors.length, vS b.t.p b.t.l.length, vI b.t.root, vI b.g.cap, vI b.g.frm, vS b.g.p b.g.l.length, vS b.got.p b.got.l.length, vS b.acked.p b.acked.l.length, vS b.seen.p b.seen.t.length, vI b.num, vI b.slots, vS b.sess.p b.sess.l.length, vI b.wait, vI b.limit, vI b.clock, vS b.rises.p b.rises.l.length])] ⟨rfl, rfl, rfl, rfl, trivial⟩ ⟨rfl, rfl, trivial⟩ rfl fun ρ0 ff => ?_
          refine cx_sound _ _ _ _ _ ?_
          exact ⟨.inl rfl, _, rfl, false, rfl, ⟨fun h => absurd h Bool.false_ne_true, fun h => (show False from (absurd (congrArg Nd.t h) h33)).elim⟩, rfl⟩
        · replace h33 := h33.1 rfl
          iterate 3 refine ⟨_, rfl, ?_⟩
          refine ⟨_, op_ldo rfl rfl rfl rfl, ?_⟩
          refine ⟨_, rfl, ?_⟩
          refine ⟨_, op_ldo rfl rfl rfl rfl, ?_⟩
          refine ⟨_, rfl, (ac_spec_l11Logs a.g b.g st hA.g hB.g (bigLog_iff.1 hb.g)).mono ?_⟩
          rintro _ st ⟨x41, rfl, h41, rfl⟩
          rcases x41 with _|_
          · replace h41 := fun k => Bool.false_ne_true (h41.2 k)
            iterate 2 refine ⟨_, rfl, ?_⟩
            refine ow_cut [(2, vL 2 0 (0)), (3, vL 3 0 (1)), (4, vB false), (43, vB true)] ⟨rfl, rfl, rfl, rfl, trivial⟩ fun ρ0 => ?_
            iterate 3 refine ⟨_, rfl, ?_⟩
            refine AW.cutM (2) st [(2, vL 2 0 (0)), (3, vL 3 0 (1)), (4, vB false), (68, vB true)] [(2, 0, [vI a.id, vI a.n, vS a.s.p a.s.x.items.length, vS a.s.q a.s.x.floors.length, vS a.t.p a.t.l.length, vI a.t.root, vI a.g.cap, vI a.g.frm, vS a.g.p a.g.l.length, vS a.got.p a.got.l.length, vS a.acked.p a.acked.l.length, vS a.seen.p a.seen.t.length, vI a.num, vI a.slots, vS a.sess.p a.sess.l.length, vI a.wait, vI a.limit, vI a.clock, vS a.rises.p a.rises.l.length]), (3, 1, [vI b.id, vI b.n, vS b.s.p b.s.x.items.length, vS b.s.q b.s.x.floors.length, vS b.t.p b.t.l.length, vI b.t.root, vI b.g.cap, vI b.g.frm, vS b.g.p b.g.l.length, vS b.got.p b.got.l.length, vS b.acked.p b.acked.l.length, vS b.seen.p b.seen.t.length, vI b.num, vI b.slots, vS b.sess.p b.sess.l.length, vI b.wait, vI b.limit, vI b.clock, vS b.rises.p b.rises.l.length])] ⟨rfl, rfl, rfl, rfl, trivial⟩ ⟨rfl, rfl, trivial⟩ rfl fun ρ0 ff => ?_
            refine cx_sound _ _ _ _ _ ?_
            exact ⟨.inl rfl, _, rfl, false, rfl, ⟨fun h => absurd h Bool.false_ne_true, fun h => (show False from (absurd (congrArg Nd.g h) h41)).elim⟩, rfl⟩
          · replace h41 := h41.1 rfl
            iterate 2 refine ⟨_, rfl, ?_⟩
            refine ow_cut [(2, vL 2 0 (0)), (3, vL 3 0 (1)), (4, vB false), (43, vB false)] ⟨rfl, rfl, rfl, rfl, trivial⟩ fun ρ0 => ?_
            refine ⟨_, rfl, ?_⟩
            refine ⟨_, op_ldo rfl rfl rfl rfl, ?_⟩
            refine ⟨_, rfl, ?_⟩
            refine ⟨_, op_ldo rfl rfl rfl rfl, ?_⟩
            refine ⟨_, rfl, (ac_spec_l1Same a.got.p b.got.p a.got.l b.got.l st hA.got hB.got (hb.got)).mono ?_⟩
            rintro _ st ⟨x49, rfl, h49, rfl⟩
            rcases x49 with _|_
            · replace h49 := fun k => Bool.false_ne_true (h49.2 k)
              iterate 4 refine ⟨_, rfl, ?_⟩
              refine AW.cutM (2) st [(2, vL 2 0 (0)), (3, vL 3 0 (1)), (4, vB false), (68, vB true)] [(2, 0, [vI a.id, vI a.n, vS a.s.p a.s.x.items.length, vS a.s.q a.s.x.floors.length, vS a.t.p a.t.l.length, vI a.t.root, vI a.g.cap, vI a.g.frm, vS a.g.p a.g.l.length, vS a.got.p a.got.l.length, vS a.acked.p a.acked.l.length, vS a.seen.p a.seen.t.length, vI a.num, vI a.slots, vS a.sess.p a.sess.l.length, vI a.wait, vI a.limit, vI a.clock, vS a.rises.p a.rises.l.length]), (3, 1, [vI b.id, vI b.n, vS b.s.p b.s.x.items.length, vS b.s.q b.s.x.floors.length, vS b.t.p b.t.l.length, vI b.t.root, vI b.g.cap, vI b.g.frm, vS b.g.p b.g.l.length, vS b.got.p b.got.l.length, vS b.acked.p b.acked.l.length, vS b.seen.p b.seen.t.length, vI b.num, vI b.slots, vS b.sess.p b.sess.l.length, vI b.wait, vI b.limit, vI b.clock, vS b.rises.p b.rises.l.length])] ⟨rfl, rfl, rfl, rfl, trivial⟩ ⟨rfl, rfl, trivial⟩ rfl fun ρ0 ff => ?_
              refine cx_sound _ _ _ _ _ ?_
              exact ⟨.inl rfl, _, rfl, false, rfl, ⟨fun h => absurd h Bool.false_ne_true, fun h => (show False from (absurd (congrArg Nd.got h) h49)).elim⟩, rfl⟩
            · replace h49 := h49.1 rfl
              iterate 3 refine ⟨_, rfl, ?_⟩
              refine ⟨_, op_ldo rfl rfl rfl rfl, ?_⟩
              refine ⟨_, rfl, ?_⟩
              refine ⟨_, op_ldo rfl rfl rfl rfl, ?_⟩
              refine ⟨_, rfl, (ac_spec_l1Same a.acked.p b.acked.p a.acked.l b.acked.l st hA.acked hB.acked (hb.acked)).mono ?_⟩
              rintro _ st ⟨x57, rfl, h57, rfl⟩
              rcases x57 with _|_
              · replace h57 := fun k => Bool.false_ne_true (h57.2 k)
                iterate 3 refine ⟨_, rfl, ?_⟩
                refine AW.cutM (2) st [(2, vL 2 0 (0)), (3, vL 3 0 (1)), (4, vB false), (68, vB true)] [(2, 0, [vI a.id, vI a.n, vS a.s.p a.s.x.items.length, vS a.s.q a.s.x.floors.length, vS a.t.p a.t.l.length, vI a.t.root, vI a.g.cap, vI a.g.frm, vS a.g.p a.g.l.length, vS a.got.p a.got.l.length, vS a.acked.p a.acked.l.length, vS a.seen.p a.seen.t.length, vI a.num, vI a.slots, vS a.sess.p a.sess.l.length, vI a.wait, vI a.limit, vI a.clock, vS a.rises.p a.rises.l.length]), (3, 1, [vI b.id, vI b.n, vS b.s.p b.s.x.items.length, vS b.s.q b.s.x.floors.length, vS b.t.p b.t.l.length, vI b.t.root, vI b.g.cap, vI b.g.frm, vS b.g.p b.g.l.length, vS b.got.p b.got.l.length, vS b.acked.p b.acked.l.length, vS b.seen.p b.seen.t.length, vI b.num, vI b.slots, vS b.sess.p b.sess.l.length, vI b.wait, vI b.limit, vI b.clock, vS b.rises.p b.rises.l.length])] ⟨rfl, rfl, rfl, rfl, trivial⟩ ⟨rfl, rfl, trivial⟩ rfl fun ρ0 ff => ?_
                refine cx_sound _ _ _ _ _ ?_
                exact ⟨.inl rfl, _, rfl, false, rfl, ⟨fun h => absurd h Bool.false_ne_true, fun h => (show False from (absurd (congrArg Nd.acked h) h57)).elim⟩, rfl⟩
              · replace h57 := h57.1 rfl
                iterate 3 refine ⟨_, rfl, ?_⟩
                refine ⟨_, op_ldo rfl rfl rfl rfl, ?_⟩
                iterate 2 refine ⟨_, rfl, ?_⟩
                refine ⟨_, op_ldo rfl rfl rfl rfl, ?_⟩
                iterate 2 refine ⟨_, rfl, ?_⟩
                rintro (_|_) h67
                · replace h67 : (a.seen.t.length : Int) = (b.seen.t.length : Int) := bne_eq_false_iff_eq.1 h67
                  refine ⟨_, rfl, ?_⟩
                  refine AW.cutM (2) st [(2, vL 2 0 (0)), (3, vL 3 0 (1)), (4, vB false), (68, vB false)] [(2, 0, [vI a.id, vI a.n, vS a.s.p a.s.x.items.length, vS a.s.q a.s.x.floors.length, vS a.t.p a.t.l.length, vI a.t.root, vI a.g.cap, vI a.g.frm, vS a.g.p a.g.l.length, vS a.got.p a.got.l.length, vS a.acked.p a.acked.l.length, vS a.seen.p a.seen.t.length, vI a.num, vI a.slots, vS a.sess.p a.sess.l.length, vI a.wait, vI a.limit, vI a.clock, vS a.rises.p a.rises.l.length]), (3, 1, [vI b.id, vI b.n, vS b.s.p b.s.x.items.length, vS b.s.q b.s.x.floors.length, vS b.t.p b.t.l.length, vI b.t.root, vI b.g.cap, vI b.g.frm, vS b.g.p b.g.l.length, vS b.got.p b.got.l.length, vS b.acked.p b.acked.l.length, vS b.seen.p b.seen.t.length, vI b.num, vI b.slots, vS b.sess.p b.sess.l.length, vI b.wait, vI b.limit, vI b.clock, vS b.rises.p b.rises.l.length])] ⟨rfl, rfl, rfl, rfl, trivial⟩ ⟨rfl, rfl, trivial⟩ rfl fun ρ0 ff => ?_
                  refine cx_sound _ _ _ _ _ ?_
                  refine ⟨_, rfl, ?_⟩
                  refine ⟨_, op_ldo rfl rfl rfl rfl, ?_⟩
                  refine ⟨_, rfl, ?_⟩
                  refine ⟨_, op_ldo rfl rfl rfl rfl, ?_⟩
                  refine ⟨_, rfl, ?_⟩
                  rintro (_|_) h73
                  · replace h73 : a.num = b.num := bne_eq_false_iff_eq.1 h73
                    refine ⟨_, rfl, ?_⟩
                    refine ⟨_, op_ldo rfl rfl rfl rfl, ?_⟩
                    refine ⟨_, rfl, ?_⟩
                    refine ⟨_, op_ldo rfl rfl rfl rfl, ?_⟩
                    refine ⟨_, rfl, ?_⟩
                    rintro (_|_) h79
                    · replace h79 : a.slots = b.slots := bne_eq_false_iff_eq.1 h79
                      iterate 2 refine ⟨_, rfl, ?_⟩
                      refine ⟨_, op_ldo rfl rfl rfl rfl, ?_⟩
                      refine ⟨_, rfl, ?_⟩
                      refine ⟨_, op_ldo rfl rfl rfl rfl, ?_⟩
                      refine ⟨_, rfl, ?_⟩
                      rintro (_|_) h86
                      · replace h86 : a.wait = b.wait := bne_eq_false_iff_eq.1 h86
                        refine ow_cut [(2, vL 2 0 (0)), (3, vL 3 0 (1)), (4, vB false), (81, vB false), (86, vB false)] ⟨rfl, rfl, rfl, rfl, rfl, trivial⟩ fun ρ0 => ?_
                        iterate 2 refine ⟨_, rfl, ?_⟩
                        refine ⟨_, op_ldo rfl rfl rfl rfl, ?_⟩
                        refine ⟨_, rfl, ?_⟩
                        refine ⟨_, op_ldo rfl rfl rfl rfl, ?_⟩
                        refine ⟨_, rfl, ?_⟩
                        rintro (_|_) h93
                        · replace h93 : a.limit = b.limit := bne_eq_false_iff_eq.1 h93
                          iterate 2 refine ⟨_, rfl, ?_⟩
                          refine ⟨_, op_ldo rfl rfl rfl rfl, ?_⟩
                          refine ⟨_, rfl, ?_⟩
                          refine ⟨_, op_ldo rfl rfl rfl rfl, ?_⟩
                          refine ⟨_, rfl, ?_⟩
                          rintro (_|_) h100
                          · replace h100 : a.clock = b.clock := bne_eq_false_iff_eq.1 h100
                            iterate 2 refine ⟨_, rfl, ?_⟩
                            refine ⟨_, op_ldo rfl rfl rfl rfl, ?_⟩
                            refine ow_cut [(2, vL 2 0 (0)), (3, vL 3 0 (1)), (4, vB false), (102, vB false), (104, vS a.sess.p a.sess.l.length)] ⟨rfl, rfl, rfl, rfl, rfl, trivial⟩ fun ρ0 => ?_
                            iterate 2 refine ⟨_, rfl, ?_⟩
                            refine ⟨_, op_ldo rfl rfl rfl rfl, ?_⟩
                            iterate 2 refine ⟨_, rfl, ?_⟩
                            rintro (_|_) h109
                            · replace h109 : (a.sess.l.length : Int) = (b.sess.l.length : Int) := bne_eq_false_iff_eq.1 h109
                              iterate 2 refine ⟨_, rfl, ?_⟩
                              refine ⟨_, op_ldo rfl rfl rfl rfl, ?_⟩
                              iterate 2 refine ⟨_, rfl, ?_⟩
                              refine ⟨_, op_ldo rfl rfl rfl rfl, ?_⟩
                              iterate 2 refine ⟨_, rfl, ?_⟩
                              rintro (_|_) h118
                              · replace h118 : (a.rises.l.length : Int) = (b.rises.l.length : Int) := bne_eq_false_iff_eq.1 h118
                                refine ⟨_, rfl, ?_⟩
                                refine AW.cutM (2) st [(2, vL 2 0 (0)), (3, vL 3 0 (1)), (4, vB false), (119, vB false)] [(2, 0, [vI a.id, vI a.n, vS a.s.p a.s.x.items.length, vS a.s.q a.s.x.floors.length, vS a.t.p a.t.l.length, vI a.t.root, vI a.g.cap, vI a.g.frm, vS a.g.p a.g.l.length, vS a.got.p a.got.l.length, vS a.acked.p a.acked.l.length, vS a.seen.p a.seen.t.length, vI a.num, vI a.slots, vS a.sess.p a.sess.l.length, vI a.wait, vI a.limit, vI a.clock, vS a.rises.p a.rises.l.length]), (3, 1, [vI b.id, vI b.n, vS b.s.p b.s.x.items.length, vS b.s.q b.s.x.floors.length, vS b.t.p b.t.l.length, vI b.t.root, vI b.g.cap, vI b.g.frm, vS b.g.p b.g.l.length, vS b.got.p b.got.l.length, vS b.acked.p b.acked.l.length, vS b.seen.p b.seen.t.length, vI b.num, vI b.slots, vS b.sess.p b.sess.l.length, vI b.wait, vI b.limit, vI b.clock, vS b.rises.p b.rises.l.length])] ⟨rfl, rfl, rfl, rfl, trivial⟩ ⟨rfl, rfl, trivial⟩ rfl fun ρ0 ff => ?_
                                refine cx_sound _ _ _ _ _ ?_
                                refine AW.cutM (2) st [(2, vL 2 0 (0)), (3, vL 3 0 (1)), (4, vB false), (5, vI (0))] [(2, 0, [vI a.id, vI a.n, vS a.s.p a.s.x.items.length, vS a.s.q a.s.x.floors.length, vS a.t.p a.t.l.length, vI a.t.root, vI a.g.cap, vI a.g.frm, vS a.g.p a.g.l.length, vS a.got.p a.got.l.length, vS a.acked.p a.acked.l.length, vS a.seen.p a.seen.t.length, vI a.num, vI a.slots, vS a.sess.p a.sess.l.length, vI a.wait, vI a.limit, vI a.clock, vS a.rises.p a.rises.l.length]), (3, 1, [vI b.id, vI b.n, vS b.s.p b.s.x.items.length, vS b.s.q b.s.x.floors.length, vS b.t.p b.t.l.length, vI b.t.root, vI b.g.cap, vI b.g.frm, vS b.g.p b.g.l.length, vS b.got.p b.got.l.length, vS b.acked.p b.acked.l.length, vS b.seen.p b.seen.t.length, vI b.num, vI b.slots, vS b.sess.p b.sess.l.length, vI b.wait, vI b.limit, vI b.clock, vS b.rises.p b.rises.l.length])] ⟨rfl, rfl, rfl, rfl, trivial⟩ ⟨rfl, rfl, trivial⟩ rfl fun ρ0 ff => ?_
                                refine AW.loopM (fun i : Nat => [(2, vL 2 0 (0)), (3, vL 3 0 (1)), (5, vI (i : Int))]) (fun i : Nat => [(2, 0, [vI a.id, vI a.n, vS a.s.p a.s.x.items.length, vS a.s.q a.s.x.floors.length, vS a.t.p a.t.l.length, vI a.t.root, vI a.g.cap, vI a.g.frm, vS a.g.p a.g.l.length, vS a.got.p a.got.l.length, vS a.acked.p a.acked.l.length, vS a.seen.p a.seen.t.length, vI a.num, vI a.slots, vS a.sess.p a.sess.l.length, vI a.wait, vI a.limit, vI a.clock, vS a.rises.p a.rises.l.length]), (3, 1, [vI b.id, vI b.n, vS b.s.p b.s.x.items.length, vS b.s.q b.s.x.floors.length, vS b.t.p b.t.l.length, vI b.t.root, vI b.g.cap, vI b.g.frm, vS b.g.p b.g.l.length, vS b.got.p b.got.l.length, vS b.acked.p b.acked.l.length, vS b.seen.p b.seen.t.length, vI b.num, vI b.slots, vS b.sess.p b.sess.l.length, vI b.wait, vI b.limit, vI b.clock, vS b.rises.p b.rises.l.length])]) (fun m (i : Nat) st' => m = a.seen.t.length - i ∧ i ≤ a.seen.t.length ∧ (∀ (j : Nat) x y, j < i → a.seen.t[j]? = some x → b.seen.t[j]? = some y → x.l = y.l) ∧ st = st') 0 _ ⟨rfl, rfl, rfl, trivial⟩ ⟨rfl, rfl, trivial⟩ ⟨rfl, Nat.zero_le _, fun j x y h => absurd h (Nat.not_lt_zero _), rfl⟩ ?_
                                rintro m i ρ0 ff gg st' ⟨rfl, hi, heq, rfl⟩
                                refine ⟨_, rfl, ?_⟩
                                refine ⟨_, op_ldo rfl rfl rfl rfl, ?_⟩
                                iterate 2 refine ⟨_, rfl, ?_⟩
                                rintro (_|_) h124
                                · replace h124 : ¬ ((i : Int) < (a.seen.t.length : Int)) := of_decide_eq_false h124
                                  refine AW.cutM (gg) st [(2, vL 2 0 (0)), (3, vL 3 0 (1)), (5, vI (i : Int)), (124, vB false)] [(2, 0, [vI a.id, vI a.n, vS a.s.p a.s.x.items.length, vS a.s.q a.s.x.floors.length, vS a.t.p a.t.l.length, vI a.t.root, vI a.g.cap, vI a.g.frm, vS a.g.p a.g.l.length, vS a.got.p a.got.l.length, vS a.acked.p a.acked.l.length, vS a.seen.p a.seen.t.length, vI a.num, vI a.slots, vS a.sess.p a.sess.l.length, vI a.wait, vI a.limit, vI a.clock, vS a.rises.p a.rises.l.length]), (3, 1, [vI b.id, vI b.n, vS b.s.p b.s.x.items.length, vS b.s.q b.s.x.floors.length, vS b.t.p b.t.l.length, vI b.t.root, vI b.g.cap, vI b.g.frm, vS b.g.p b.g.l.length, vS b.got.p b.got.l.length, vS b.acked.p b.acked.l.length, vS b.seen.p b.seen.t.length, vI b.num, vI b.slots, vS b.sess.p b.sess.l.length, vI b.wait, vI b.limit, vI b.clock, vS b.rises.p b.rises.l.length])] ⟨rfl, rfl, rfl, rfl, trivial⟩ ⟨rfl, rfl, trivial⟩ rfl fun ρ0 ff => ?_
                                  have hI : rls a.seen.t = rls b.seen.t := map_same (by omega) fun j x y hj hx hy => heq j x y (by omega) hx hy
                                  clear heq
                                  refine cx_sound _ _ _ _ _ ?_
                                  refine AW.cutM (gg) st [(2, vL 2 0 (0)), (3, vL 3 0 (1)), (6, vI (0))] [(2, 0, [vI a.id, vI a.n, vS a.s.p a.s.x.items.length, vS a.s.q a.s.x.floors.length, vS a.t.p a.t.l.length, vI a.t.root, vI a.g.cap, vI a.g.frm, vS a.g.p a.g.l.length, vS a.got.p a.got.l.length, vS a.acked.p a.acked.l.length, vS a.seen.p a.seen.t.length, vI a.num, vI a.slots, vS a.sess.p a.sess.l.length, vI a.wait, vI a.limit, vI a.clock, vS a.rises.p a.rises.l.length]), (3, 1, [vI b.id, vI b.n, vS b.s.p b.s.x.items.length, vS b.s.q b.s.x.floors.length, vS b.t.p b.t.l.length, vI b.t.root, vI b.g.cap, vI b.g.frm, vS b.g.p b.g.l.length, vS b.got.p b.got.l.length, vS b.acked.p b.acked.l.length, vS b.seen.p b.seen.t.length, vI b.num, vI b.slots, vS b.sess.p b.sess.l.length, vI b.wait, vI b.limit, vI b.clock, vS b.rises.p b.rises.l.length])] ⟨rfl, rfl, rfl, trivial⟩ ⟨rfl, rfl, trivial⟩ rfl fun ρ0 ff => ?_
                                  refine AW.loopM (fun i : Nat => [(2, vL 2 0 (0)), (3, vL 3 0 (1)), (6, vI (i : Int))]) (fun i : Nat => [(2, 0, [vI a.id, vI a.n, vS a.s.p a.s.x.items.length, vS a.s.q a.s.x.floors.length, vS a.t.p a.t.l.length, vI a.t.root, vI a.g.cap, vI a.g.frm, vS a.g.p a.g.l.length, vS a.got.p a.got.l.length, vS a.acked.p a.acked.l.length, vS a.seen.p a.seen.t.length, vI a.num, vI a.slots, vS a.sess.p a.sess.l.length, vI a.wait, vI a.limit, vI a.clock, vS a.rises.p a.rises.l.length]), (3, 1, [vI b.id, vI b.n, vS b.s.p b.s.x.items.length, vS b.s.q b.s.x.floors.length, vS b.t.p b.t.l.length, vI b.t.root, vI b.g.cap, vI b.g.frm, vS b.g.p b.g.l.length, vS b.got.p b.got.l.length, vS b.acked.p b.acked.l.length, vS b.seen.p b.seen.t.length, vI b.num, vI b.slots, vS b.sess.p b.sess.l.length, vI b.wait, vI b.limit, vI b.clock, vS b.rises.p b.rises.l.length])]) (fun m (i : Nat) st' => m = a.sess.l.length - i ∧ i ≤ a.sess.l.length ∧ (∀ (j : Nat) x y, j < i → a.sess.l[j]? = some x → b.sess.l[j]? = some y → x = y) ∧ st = st') 0 _ ⟨rfl, rfl, rfl, trivial⟩ ⟨rfl, rfl, trivial⟩ ⟨rfl, Nat.zero_le _, fun j x y h => absurd h (Nat.not_lt_zero _), rfl⟩ ?_
                                  rintro m i ρ0 ff gg st' ⟨rfl, hi, heq, rfl⟩
                                  refine ⟨_, rfl, ?_⟩
                                  refine ⟨_, op_ldo rfl rfl rfl rfl, ?_⟩
                                  iterate 2 refine ⟨_, rfl, ?_⟩
                                  rintro (_|_) h143
                                  · replace h143 : ¬ ((i : Int) < (a.sess.l.length : Int)) := of_decide_eq_false h143
                                    refine AW.cutM (gg) st [(2, vL 2 0 (0)), (3, vL 3 0 (1)), (6, vI (i : Int)), (143, vB false)] [(2, 0, [vI a.id, vI a.n, vS a.s.p a.s.x.items.length, vS a.s.q a.s.x.floors.length, vS a.t.p a.t.l.length, vI a.t.root, vI a.g.cap, vI a.g.frm, vS a.g.p a.g.l.length, vS a.got.p a.got.l.length, vS a.acked.p a.acked.l.length, vS a.seen.p a.seen.t.length, vI a.num, vI a.slots, vS a.sess.p a.sess.l.length, vI a.wait, vI a.limit, vI a.clock, vS a.rises.p a.rises.l.length]), (3, 1, [vI b.id, vI b.n, vS b.s.p b.s.x.items.length, vS b.s.q b.s.x.floors.length, vS b.t.p b.t.l.length, vI b.t.root, vI b.g.cap, vI b.g.frm, vS b.g.p b.g.l.length, vS b.got.p b.got.l.length, vS b.acked.p b.acked.l.length, vS b.seen.p b.seen.t.length, vI b.num, vI b.slots, vS b.sess.p b.sess.l.length, vI b.wait, vI b.limit, vI b.clock, vS b.rises.p b.rises.l.length])] ⟨rfl, rfl, rfl, rfl, trivial⟩ ⟨rfl, rfl, trivial⟩ rfl fun ρ0 ff => ?_
                                    have hI2 : a.sess.l = b.sess.l := iff_lists (by omega) fun j x y hj hx hy => heq j x y (by omega) hx hy
                                    clear heq
                                    refine cx_sound _ _ _ _ _ ?_
                                    refine AW.cutM (gg) st [(2, vL 2 0 (0)), (3, vL 3 0 (1)), (7, vI (0))] [(2, 0, [vI a.id, vI a.n, vS a.s.p a.s.x.items.length, vS a.s.q a.s.x.floors.length, vS a.t.p a.t.l.length, vI a.t.root, vI a.g.cap, vI a.g.frm, vS a.g.p a.g.l.length, vS a.got.p a.got.l.length, vS a.acked.p a.acked.l.length, vS a.seen.p a.seen.t.length, vI a.num, vI a.slots, vS a.sess.p a.sess.l.length, vI a.wait, vI a.limit, vI a.clock, vS a.rises.p a.rises.l.length]), (3, 1, [vI b.id, vI b.n, vS b.s.p b.s.x.items.length, vS b.s.q b.s.x.floors.length, vS b.t.p b.t.l.length, vI b.t.root, vI b.g.cap, vI b.g.frm, vS b.g.p b.g.l.length, vS b.got.p b.got.l.length, vS b.acked.p b.acked.l.length, vS b.seen.p b.seen.t.length, vI b.num, vI b.slots, vS b.sess.p b.sess.l.length, vI b.wait, vI b.limit, vI b.clock, vS b.rises.p b.rises.l.length])] ⟨rfl, rfl, rfl, trivial⟩ ⟨rfl, rfl, trivial⟩ rfl fun ρ0 ff => ?_
                                    refine AW.loopM (fun i : Nat => [(2, vL 2 0 (0)), (3, vL 3 0 (1)), (7, vI (i : Int))]) (fun i : Nat => [(2, 0, [vI a.id, vI a.n, vS a.s.p a.s.x.items.length, vS a.s.q a.s.x.floors.length, vS a.t.p a.t.l.length, vI a.t.root, vI a.g.cap, vI a.g.frm, vS a.g.p a.g.l.length, vS a.got.p a.got.l.length, vS a.acked.p a.acked.l.length, vS a.seen.p a.seen.t.length, vI a.num, vI a.slots, vS a.sess.p a.sess.l.length, vI a.wait, vI a.limit, vI a.clock, vS a.rises.p a.rises.l.length]), (3, 1, [vI b.id, vI b.n, vS b.s.p b.s.x.items.length, vS b.s.q b.s.x.floors.length, vS b.t.p b.t.l.length, vI b.t.root, vI b.g.cap, vI b.g.frm, vS b.g.p b.g.l.length, vS b.got.p b.got.l.length, vS b.acked.p b.acked.l.length, vS b.seen.p b.seen.t.length, vI b.num, vI b.slots, vS b.sess.p b.sess.l.length, vI b.wait, vI b.limit, vI b.clock, vS b.rises.p b.rises.l.length])]) (fun m (i : Nat) st' => m = a.rises.l.length - i ∧ i ≤ a.rises.l.length ∧ (∀ (j : Nat) x y, j < i → a.rises.l[j]? = some x → b.rises.l[j]? = some y → x = y) ∧ st = st') 0 _ ⟨rfl, rfl, rfl, trivial⟩ ⟨rfl, rfl, trivial⟩ ⟨rfl, Nat.zero_le _, fun j x y h => absurd h (Nat.not_lt_zero _), rfl⟩ ?_
                                    rintro m i ρ0 ff gg st' ⟨rfl, hi, heq, rfl⟩
                                    refine ⟨_, rfl, ?_⟩
                                    refine ⟨_, op_ldo rfl rfl rfl rfl, ?_⟩
                                    iterate 2 refine ⟨_, rfl, ?_⟩
                                    rintro (_|_) h161
                                    · replace h161 : ¬ ((i : Int) < (a.rises.l.length : Int)) := of_decide_eq_false h161
                                      refine AW.cutM (gg) st [(2, vL 2 0 (0)), (3, vL 3 0 (1)), (7, vI (i : Int)), (161, vB false)] [(2, 0, [vI a.id, vI a.n, vS a.s.p a.s.x.items.length, vS a.s.q a.s.x.floors.length, vS a.t.p a.t.l.length, vI a.t.root, vI a.g.cap, vI a.g.frm, vS a.g.p a.g.l.length, vS a.got.p a.got.l.length, vS a.acked.p a.acked.l.length, vS a.seen.p a.seen.t.length, vI a.num, vI a.slots, vS a.sess.p a.sess.l.length, vI a.wait, vI a.limit, vI a.clock, vS a.rises.p a.rises.l.length]), (3, 1, [vI b.id, vI b.n, vS b.s.p b.s.x.items.length, vS b.s.q b.s.x.floors.length, vS b.t.p b.t.l.length, vI b.t.root, vI b.g.cap, vI b.g.frm, vS b.g.p b.g.l.length, vS b.got.p b.got.l.length, vS b.acked.p b.acked.l.length, vS b.seen.p b.seen.t.length, vI b.num, vI b.slots, vS b.sess.p b.sess.l.length, vI b.wait, vI b.limit, vI b.clock, vS b.rises.p b.rises.l.length])] ⟨rfl, rfl, rfl, rfl, trivial⟩ ⟨rfl, rfl, trivial⟩ rfl fun ρ0 ff => ?_
                                      have hI3 : a.rises.l = b.rises.l := iff_lists (by omega) fun j x y hj hx hy => heq j x y (by omega) hx hy
                                      refine cx_sound _ _ _ _ _ ?_
                                      refine cx_sound _ _ _ _ _ ?_
                                      exact ⟨.inl rfl, _, rfl, true, rfl, ⟨fun _ => nd_ext h12 h18 h25 h33 h41 h49 h57 hI h73 h79 hI2 h86 h93 h100 hI3, fun _ => rfl⟩, rfl⟩
                                    · replace h161 : (i : Int) < (a.rises.l.length : Int) := of_decide_eq_true h161
                                      refine AW.cutM (gg) st [(2, vL 2 0 (0)), (3, vL 3 0 (1)), (7, vI (i : Int)), (161, vB true)] [(2, 0, [vI a.id, vI a.n, vS a.s.p a.s.x.items.length, vS a.s.q a.s.x.floors.length, vS a.t.p a.t.l.length, vI a.t.root, vI a.g.cap, vI a.g.frm, vS a.g.p a.g.l.length, vS a.got.p a.got.l.length, vS a.acked.p a.acked.l.length, vS a.seen.p a.seen.t.length, vI a.num, vI a.slots, vS a.sess.p a.sess.l.length, vI a.wait, vI a.limit, vI a.clock, vS a.rises.p a.rises.l.length]), (3, 1, [vI b.id, vI b.n, vS b.s.p b.s.x.items.length, vS b.s.q b.s.x.floors.length, vS b.t.p b.t.l.length, vI b.t.root, vI b.g.cap, vI b.g.frm, vS b.g.p b.g.l.length, vS b.got.p b.got.l.length, vS b.acked.p b.acked.l.length, vS b.seen.p b.seen.t.length, vI b.num, vI b.slots, vS b.sess.p b.sess.l.length, vI b.wait, vI b.limit, vI b.clock, vS b.rises.p b.rises.l.length])] ⟨rfl, rfl, rfl, rfl, trivial⟩ ⟨rfl, rfl, trivial⟩ rfl fun ρ0 ff => ?_
                                      refine cx_sound _ _ _ _ _ ?_
                                      refine ⟨_, rfl, ?_⟩
                                      refine ⟨_, op_ldo rfl rfl rfl rfl, ?_⟩
                                      refine op_at i hA.rises (by omega) rfl rfl rfl rfl rfl rfl rfl ?_
                                      intro x167 b167 d167 k167 hy167 hb167 hm167 hc167 ho167
                                      refine ⟨_, op_lda rfl rfl rfl rfl rfl hm167 hc167 rfl, ?_⟩
                                      refine ⟨_, rfl, ?_⟩
                                      refine ⟨_, op_ldo rfl rfl rfl rfl, ?_⟩
                                      refine op_at i hB.rises (by omega) rfl rfl rfl rfl rfl rfl rfl ?_
                                      intro x172 b172 d172 k172 hy172 hb172 hm172 hc172 ho172
                                      refine ⟨_, op_lda rfl rfl rfl rfl rfl hm172 hc172 rfl, ?_⟩
                                      refine cmpS (neq_Rise x167 x172) ?_
                                      rintro (_|_) h174
                                      · replace h174 : x167 = x172 := Classical.byContradiction fun k => Bool.false_ne_true (h174.2 k)
                                        refine AW.cutM (gg) st [(2, vL 2 0 (0)), (3, vL 3 0 (1)), (7, vI (i : Int)), (161, vB true), (174, vB false)] [(2, 0, [vI a.id, vI a.n, vS a.s.p a.s.x.items.length, vS a.s.q a.s.x.floors.length, vS a.t.p a.t.l.length, vI a.t.root, vI a.g.cap, vI a.g.frm, vS a.g.p a.g.l.length, vS a.got.p a.got.l.length, vS a.acked.p a.acked.l.length, vS a.seen.p a.seen.t.length, vI a.num, vI a.slots, vS a.sess.p a.sess.l.length, vI a.wait, vI a.limit, vI a.clock, vS a.rises.p a.rises.l.length]), (3, 1, [vI b.id, vI b.n, vS b.s.p b.s.x.items.length, vS b.s.q b.s.x.floors.length, vS b.t.p b.t.l.length, vI b.t.root, vI b.g.cap, vI b.g.frm, vS b.g.p b.g.l.length, vS b.got.p b.got.l.length, vS b.acked.p b.acked.l.length, vS b.seen.p b.seen.t.length, vI b.num, vI b.slots, vS b.sess.p b.sess.l.length, vI b.wait, vI b.limit, vI b.clock, vS b.rises.p b.rises.l.length])] ⟨rfl, rfl, rfl, rfl, rfl, trivial⟩ ⟨rfl, rfl, trivial⟩ rfl fun ρ0 ff => ?_
                                        refine cx_sound _ _ _ _ _ ?_
                                        have ew163 : IntKind.wrap .i64 ((i : Int) + (1)) = ((i + 1 : Nat) : Int) := (wrap_i64 (by omega) (by omega)).trans (by omega)
                                        refine ⟨_, rfl, ?_⟩
                                        exact ⟨i + 1, a.rises.l.length - (i + 1), by omega, ⟨rfl, rfl, congrArg (Value.int .i64) ew163, trivial⟩, ⟨rfl, rfl, trivial⟩, rfl, by omega, same_next (f := fun x => x) hy167 hy172 h174 heq, rfl⟩
                                      · replace h174 : ¬ x167 = x172 := h174.1 rfl
                                        refine AW.cutM (gg) st [(2, vL 2 0 (0)), (3, vL 3 0 (1)), (7, vI (i : Int)), (161, vB true), (174, vB true)] [(2, 0, [vI a.id, vI a.n, vS a.s.p a.s.x.items.length, vS a.s.q a.s.x.floors.length, vS a.t.p a.t.l.length, vI a.t.root, vI a.g.cap, vI a.g.frm, vS a.g.p a.g.l.length, vS a.got.p a.got.l.length, vS a.acked.p a.acked.l.length, vS a.seen.p a.seen.t.length, vI a.num, vI a.slots, vS a.sess.p a.sess.l.length, vI a.wait, vI a.limit, vI a.clock, vS a.rises.p a.rises.l.length]), (3, 1, [vI b.id, vI b.n, vS b.s.p b.s.x.items.length, vS b.s.q b.s.x.floors.length, vS b.t.p b.t.l.length, vI b.t.root, vI b.g.cap, vI b.g.frm, vS b.g.p b.g.l.length, vS b.got.p b.got.l.length, vS b.acked.p b.acked.l.length, vS b.seen.p b.seen.t.length, vI b.num, vI b.slots, vS b.sess.p b.sess.l.length, vI b.wait, vI b.limit, vI b.clock, vS b.rises.p b.rises.l.length])] ⟨rfl, rfl, rfl, rfl, rfl, trivial⟩ ⟨rfl, rfl, trivial⟩ rfl fun ρ0 ff => ?_
                                        refine cx_sound _ _ _ _ _ ?_
                                        exact ⟨.inl rfl, _, rfl, false, rfl, ⟨fun h => absurd h Bool.false_ne_true, fun h => (show False from (absurd (same_at hy167 hy172 (congrArg Nd.rises h)) h174)).elim⟩, rfl⟩
                                  · replace h143 : (i : Int) < (a.sess.l.length : Int) := of_decide_eq_true h143
                                    refine AW.cutM (gg) st [(2, vL 2 0 (0)), (3, vL 3 0 (1)), (6, vI (i : Int)), (143, vB true)] [(2, 0, [vI a.id, vI a.n, vS a.s.p a.s.x.items.length, vS a.s.q a.s.x.floors.length, vS a.t.p a.t.l.length, vI a.t.root, vI a.g.cap, vI a.g.frm, vS a.g.p a.g.l.length, vS a.got.p a.got.l.length, vS a.acked.p a.acked.l.length, vS a.seen.p a.seen.t.length, vI a.num, vI a.slots, vS a.sess.p a.sess.l.length, vI a.wait, vI a.limit, vI a.clock, vS a.rises.p a.rises.l.length]), (3, 1, [vI b.id, vI b.n, vS b.s.p b.s.x.items.length, vS b.s.q b.s.x.floors.length, vS b.t.p b.t.l.length, vI b.t.root, vI b.g.cap, vI b.g.frm, vS b.g.p b.g.l.length, vS b.got.p b.got.l.length, vS b.acked.p b.acked.l.length, vS b.seen.p b.seen.t.length, vI b.num, vI b.slots, vS b.sess.p b.sess.l.length, vI b.wait, vI b.limit, vI b.clock, vS b.rises.p b.rises.l.length])] ⟨rfl, rfl, rfl, rfl, trivial⟩ ⟨rfl, rfl, trivial⟩ rfl fun ρ0 ff => ?_
                                    refine cx_sound _ _ _ _ _ ?_
                                    refine ⟨_, rfl, ?_⟩
                                    refine ⟨_, op_ldo rfl rfl rfl rfl, ?_⟩
                                    refine op_at i hA.sess (by omega) rfl rfl rfl rfl rfl rfl rfl ?_
                                    intro x149 b149 d149 k149 hy149 hb149 hm149 hc149 ho149
                                    refine ⟨_, op_lda rfl rfl rfl rfl rfl hm149 hc149 rfl, ?_⟩
                                    refine ⟨_, rfl, ?_⟩
                                    refine ⟨_, op_ldo rfl rfl rfl rfl, ?_⟩
                                    refine op_at i hB.sess (by omega) rfl rfl rfl rfl rfl rfl rfl ?_
                                    intro x154 b154 d154 k154 hy154 hb154 hm154 hc154 ho154
                                    refine ⟨_, op_lda rfl rfl rfl rfl rfl hm154 hc154 rfl, ?_⟩
                                    refine cmpS (neq_Sess x149 x154) ?_
                                    rintro (_|_) h156
                                    · replace h156 : x149 = x154 := Classical.byContradiction fun k => Bool.false_ne_true (h156.2 k)
                                      refine AW.cutM (gg) st [(2, vL 2 0 (0)), (3, vL 3 0 (1)), (6, vI (i : Int)), (143, vB true), (156, vB false)] [(2, 0, [vI a.id, vI a.n, vS a.s.p a.s.x.items.length, vS a.s.q a.s.x.floors.length, vS a.t.p a.t.l.length, vI a.t.root, vI a.g.cap, vI a.g.frm, vS a.g.p a.g.l.length, vS a.got.p a.got.l.length, vS a.acked.p a.acked.l.length, vS a.seen.p a.seen.t.length, vI a.num, vI a.slots, vS a.sess.p a.sess.l.length, vI a.wait, vI a.limit, vI a.clock, vS a.rises.p a.rises.l.length]), (3, 1, [vI b.id, vI b.n, vS b.s.p b.s.x.items.length, vS b.s.q b.s.x.floors.length, vS b.t.p b.t.l.length, vI b.t.root, vI b.g.cap, vI b.g.frm, vS b.g.p b.g.l.length, vS b.got.p b.got.l.length, vS b.acked.p b.acked.l.length, vS b.seen.p b.seen.t.length, vI b.num, vI b.slots, vS b.sess.p b.sess.l.length, vI b.wait, vI b.limit, vI b.clock, vS b.rises.p b.rises.l.length])] ⟨rfl, rfl, rfl, rfl, rfl, trivial⟩ ⟨rfl, rfl, trivial⟩ rfl fun ρ0 ff => ?_
                                      refine cx_sound _ _ _ _ _ ?_
                                      have ew145 : IntKind.wrap .i64 ((i : Int) + (1)) = ((i + 1 : Nat) : Int) := (wrap_i64 (by omega) (by omega)).trans (by omega)
                                      refine ⟨_, rfl, ?_⟩
                                      exact ⟨i + 1, a.sess.l.length - (i + 1), by omega, ⟨rfl, rfl, congrArg (Value.int .i64) ew145, trivial⟩, ⟨rfl, rfl, trivial⟩, rfl, by omega, same_next (f := fun x => x) hy149 hy154 h156 heq, rfl⟩
                                    · replace h156 : ¬ x149 = x154 := h156.1 rfl
                                      refine AW.cutM (gg) st [(2, vL 2 0 (0)), (3, vL 3 0 (1)), (6, vI (i : Int)), (143, vB true), (156, vB true)] [(2, 0, [vI a.id, vI a.n, vS a.s.p a.s.x.items.length, vS a.s.q a.s.x.floors.length, vS a.t.p a.t.l.length, vI a.t.root, vI a.g.cap, vI a.g.frm, vS a.g.p a.g.l.length, vS a.got.p a.got.l.length, vS a.acked.p a.acked.l.length, vS a.seen.p a.seen.t.length, vI a.num, vI a.slots, vS a.sess.p a.sess.l.length, vI a.wait, vI a.limit, vI a.clock, vS a.rises.p a.rises.l.length]), (3, 1, [vI b.id, vI b.n, vS b.s.p b.s.x.items.length, vS b.s.q b.s.x.floors.length, vS b.t.p b.t.l.length, vI b.t.root, vI b.g.cap, vI b.g.frm, vS b.g.p b.g.l.length, vS b.got.p b.got.l.length, vS b.acked.p b.acked.l.length, vS b.seen.p b.seen.t.length, vI b.num, vI b.slots, vS b.sess.p b.sess.l.length, vI b.wait, vI b.limit, vI b.clock, vS b.rises.p b.rises.l.length])] ⟨rfl, rfl, rfl, rfl, rfl, trivial⟩ ⟨rfl, rfl, trivial⟩ rfl fun ρ0 ff => ?_
                                      refine cx_sound _ _ _ _ _ ?_
                                      exact ⟨.inl rfl, _, rfl, false, rfl, ⟨fun h => absurd h Bool.false_ne_true, fun h => (show False from (absurd (same_at hy149 hy154 (congrArg Nd.sess h)) h156)).elim⟩, rfl⟩
                                · replace h124 : (i : Int) < (a.seen.t.length : Int) := of_decide_eq_true h124
                                  refine AW.cutM (gg) st [(2, vL 2 0 (0)), (3, vL 3 0 (1)), (5, vI (i : Int)), (124, vB true)] [(2, 0, [vI a.id, vI a.n, vS a.s.p a.s.x.items.length, vS a.s.q a.s.x.floors.length, vS a.t.p a.t.l.length, vI a.t.root, vI a.g.cap, vI a.g.frm, vS a.g.p a.g.l.length, vS a.got.p a.got.l.length, vS a.acked.p a.acked.l.length, vS a.seen.p a.seen.t.length, vI a.num, vI a.slots, vS a.sess.p a.sess.l.length, vI a.wait, vI a.limit, vI a.clock, vS a.rises.p a.rises.l.length]), (3, 1, [vI b.id, vI b.n, vS b.s.p b.s.x.items.length, vS b.s.q b.s.x.floors.length, vS b.t.p b.t.l.length, vI b.t.root, vI b.g.cap, vI b.g.frm, vS b.g.p b.g.l.length, vS b.got.p b.got.l.length, vS b.acked.p b.acked.l.length, vS b.seen.p b.seen.t.length, vI b.num, vI b.slots, vS b.sess.p b.sess.l.length, vI b.wait, vI b.limit, vI b.clock, vS b.rises.p b.rises.l.length])] ⟨rfl, rfl, rfl, rfl, trivial⟩ ⟨rfl, rfl, trivial⟩ rfl fun ρ0 ff => ?_
                                  refine cx_sound _ _ _ _ _ ?_
                                  refine ⟨_, rfl, ?_⟩
                                  refine ⟨_, op_ldo rfl rfl rfl rfl, ?_⟩
                                  refine op_at i hA.seen.1 (by omega) rfl rfl rfl rfl rfl rfl rfl ?_
                                  intro x130 b130 d130 k130 hy130 hb130 hm130 hc130 ho130
                                  refine ⟨_, op_ldc (i := 0) rfl rfl rfl rfl hm130 hc130 rfl rfl, ?_⟩
                                  refine ⟨_, rfl, ?_⟩
                                  refine ⟨_, op_ldo rfl rfl rfl rfl, ?_⟩
                                  refine op_at i hB.seen.1 (by omega) rfl rfl rfl rfl rfl rfl rfl ?_
                                  intro x135 b135 d135 k135 hy135 hb135 hm135 hc135 ho135
                                  refine ⟨_, op_ldc (i := 0) rfl rfl rfl rfl hm135 hc135 rfl rfl, ?_⟩
                                  refine ⟨_, rfl, (ac_spec_l1Same x130.p x135.p x130.l x135.l st (hA.seen.2 x130 (List.mem_of_getElem? hy130)) (hB.seen.2 x135 (List.mem_of_getElem? hy135)) (hs4 x130 (List.mem_of_getElem? hy130))).mono ?_⟩
                                  rintro _ st ⟨x137, rfl, h137, rfl⟩
                                  rcases x137 with _|_
                                  · replace h137 := fun k => Bool.false_ne_true (h137.2 k)
                                    refine ⟨_, rfl, ?_⟩
                                    refine AW.cutM (gg) st [(2, vL 2 0 (0)), (3, vL 3 0 (1)), (5, vI (i : Int)), (124, vB true), (138, vB true)] [(2, 0, [vI a.id, vI a.n, vS a.s.p a.s.x.items.length, vS a.s.q a.s.x.floors.length, vS a.t.p a.t.l.length, vI a.t.root, vI a.g.cap, vI a.g.frm, vS a.g.p a.g.l.length, vS a.got.p a.got.l.length, vS a.acked.p a.acked.l.length, vS a.seen.p a.seen.t.length, vI a.num, vI a.slots, vS a.sess.p a.sess.l.length, vI a.wait, vI a.limit, vI a.clock, vS a.rises.p a.rises.l.length]), (3, 1, [vI b.id, vI b.n, vS b.s.p b.s.x.items.length, vS b.s.q b.s.x.floors.length, vS b.t.p b.t.l.length, vI b.t.root, vI b.g.cap, vI b.g.frm, vS b.g.p b.g.l.length, vS b.got.p b.got.l.length, vS b.acked.p b.acked.l.length, vS b.seen.p b.seen.t.length, vI b.num, vI b.slots, vS b.sess.p b.sess.l.length, vI b.wait, vI b.limit, vI b.clock, vS b.rises.p b.rises.l.length])] ⟨rfl, rfl, rfl, rfl, rfl, trivial⟩ ⟨rfl, rfl, trivial⟩ rfl fun ρ0 ff => ?_
                                    refine cx_sound _ _ _ _ _ ?_
                                    exact ⟨.inl rfl, _, rfl, false, rfl, ⟨fun h => absurd h Bool.false_ne_true, fun h => (show False from (absurd (map_at (f := fun r : RV => r.l) hy130 hy135 (congrArg Nd.seen h)) h137)).elim⟩, rfl⟩
                                  · replace h137 := h137.1 rfl
                                    refine ⟨_, rfl, ?_⟩
                                    refine AW.cutM (gg) st [(2, vL 2 0 (0)), (3, vL 3 0 (1)), (5, vI (i : Int)), (124, vB true), (138, vB false)] [(2, 0, [vI a.id, vI a.n, vS a.s.p a.s.x.items.length, vS a.s.q a.s.x.floors.length, vS a.t.p a.t.l.length, vI a.t.root, vI a.g.cap, vI a.g.frm, vS a.g.p a.g.l.length, vS a.got.p a.got.l.length, vS a.acked.p a.acked.l.length, vS a.seen.p a.seen.t.length, vI a.num, vI a.slots, vS a.sess.p a.sess.l.length, vI a.wait, vI a.limit, vI a.clock, vS a.rises.p a.rises.l.length]), (3, 1, [vI b.id, vI b.n, vS b.s.p b.s.x.items.length, vS b.s.q b.s.x.floors.length, vS b.t.p b.t.l.length, vI b.t.root, vI b.g.cap, vI b.g.frm, vS b.g.p b.g.l.length, vS b.got.p b.got.l.length, vS b.acked.p b.acked.l.length, vS b.seen.p b.seen.t.length, vI b.num, vI b.slots, vS b.sess.p b.sess.l.length, vI b.wait, vI b.limit, vI b.clock, vS b.rises.p b.rises.l.length])] ⟨rfl, rfl, rfl, rfl, rfl, trivial⟩ ⟨rfl, rfl, trivial⟩ rfl fun ρ0 ff => ?_
                                    refine cx_sound _ _ _ _ _ ?_
                                    have ew126 : IntKind.wrap .i64 ((i : Int) + (1)) = ((i + 1 : Nat) : Int) := (wrap_i64 (by omega) (by omega)).trans (by omega)
                                    refine ⟨_, rfl, ?_⟩
                                    exact ⟨i + 1, a.seen.t.length - (i + 1), by omega, ⟨rfl, rfl, congrArg (Value.int .i64) ew126, trivial⟩, ⟨rfl, rfl, trivial⟩, rfl, by omega, same_next (f := fun r : RV => r.l) hy130 hy135 h137 heq, rfl⟩
                              · replace h118 : ¬ ((a.rises.l.length : Int) = (b.rises.l.length : Int)) := bne_iff_ne.1 h118
                                refine ⟨_, rfl, ?_⟩
                                refine AW.cutM (2) st [(2, vL 2 0 (0)), (3, vL 3 0 (1)), (4, vB false), (119, vB true)] [(2, 0, [vI a.id, vI a.n, vS a.s.p a.s.x.items.length, vS a.s.q a.s.x.floors.length, vS a.t.p a.t.l.length, vI a.t.root, vI a.g.cap, vI a.g.frm, vS a.g.p a.g.l.length, vS a.got.p a.got.l.length, vS a.acked.p a.acked.l.length, vS a.seen.p a.seen.t.length, vI a.num, vI a.slots, vS a.sess.p a.sess.l.length, vI a.wait, vI a.limit, vI a.clock, vS a.rises.p a.rises.l.length]), (3, 1, [vI b.id, vI b.n, vS b.s.p b.s.x.items.length, vS b.s.q b.s.x.floors.length, vS b.t.p b.t.l.length, vI b.t.root, vI b.g.cap, vI b.g.frm, vS b.g.p b.g.l.length, vS b.got.p b.got.l.length, vS b.acked.p b.acked.l.length, vS b.seen.p b.seen.t.length, vI b.num, vI b.slots, vS b.sess.p b.sess.l.length, vI b.wait, vI b.limit, vI b.clock, vS b.rises.p b.rises.l.length])] ⟨rfl, rfl, rfl, rfl, trivial⟩ ⟨rfl, rfl, trivial⟩ rfl fun ρ0 ff => ?_
                                refine cx_sound _ _ _ _ _ ?_
                                exact ⟨.inl rfl, _, rfl, false, rfl, ⟨fun h => absurd h Bool.false_ne_true, fun h => (show False from (absurd (congrArg (fun n : Nd => (n.rises.length : Int)) h) h118)).elim⟩, rfl⟩
                            · replace h109 : ¬ ((a.sess.l.length : Int) = (b.sess.l.length : Int)) := bne_iff_ne.1 h109
                              iterate 2 refine ⟨_, rfl, ?_⟩
                              refine AW.cutM (2) st [(2, vL 2 0 (0)), (3, vL 3 0 (1)), (4, vB false), (119, vB true)] [(2, 0, [vI a.id, vI a.n, vS a.s.p a.s.x.items.length, vS a.s.q a.s.x.floors.length, vS a.t.p a.t.l.length, vI a.t.root, vI a.g.cap, vI a.g.frm, vS a.g.p a.g.l.length, vS a.got.p a.got.l.length, vS a.acked.p a.acked.l.length, vS a.seen.p a.seen.t.length, vI a.num, vI a.slots, vS a.sess.p a.sess.l.length, vI a.wait, vI a.limit, vI a.clock, vS a.rises.p a.rises.l.length]), (3, 1, [vI b.id, vI b.n, vS b.s.p b.s.x.items.length, vS b.s.q b.s.x.floors.length, vS b.t.p b.t.l.length, vI b.t.root, vI b.g.cap, vI b.g.frm, vS b.g.p b.g.l.length, vS b.got.p b.got.l.length, vS b.acked.p b.acked.l.length, vS b.seen.p b.seen.t.length, vI b.num, vI b.slots, vS b.sess.p b.sess.l.length, vI b.wait, vI b.limit, vI b.clock, vS b.rises.p b.rises.l.length])] ⟨rfl, rfl, rfl, rfl, trivial⟩ ⟨rfl, rfl, trivial⟩ rfl fun ρ0 ff => ?_
                              refine cx_sound _ _ _ _ _ ?_
                              exact ⟨.inl rfl, _, rfl, false, rfl, ⟨fun h => absurd h Bool.false_ne_true, fun h => (show False from (absurd (congrArg (fun n : Nd => (n.sess.length : Int)) h) h109)).elim⟩, rfl⟩
                          · replace h100 : ¬ (a.clock = b.clock) := bne_iff_ne.1 h100
                            iterate 2 refine ⟨_, rfl, ?_⟩
                            refine ow_cut [(2, vL 2 0 (0)), (3, vL 3 0 (1)), (4, vB false), (110, vB true)] ⟨rfl, rfl, rfl, rfl, trivial⟩ fun ρ0 => ?_
                            refine ⟨_, rfl, ?_⟩
                            refine AW.cutM (2) st [(2, vL 2 0 (0)), (3, vL 3 0 (1)), (4, vB false), (119, vB true)] [(2, 0, [vI a.id, vI a.n, vS a.s.p a.s.x.items.length, vS a.s.q a.s.x.floors.length, vS a.t.p a.t.l.length, vI a.t.root, vI a.g.cap, vI a.g.frm, vS a.g.p a.g.l.length, vS a.got.p a.got.l.length, vS a.acked.p a.acked.l.length, vS a.seen.p a.seen.t.length, vI a.num, vI a.slots, vS a.sess.p a.sess.l.length, vI a.wait, vI a.limit, vI a.clock, vS a.rises.p a.rises.l.length]), (3, 1, [vI b.id, vI b.n, vS b.s.p b.s.x.items.length, vS b.s.q b.s.x.floors.length, vS b.t.p b.t.l.length, vI b.t.root, vI b.g.cap, vI b.g.frm, vS b.g.p b.g.l.length, vS b.got.p b.got.l.length, vS b.acked.p b.acked.l.length, vS b.seen.p b.seen.t.length, vI b.num, vI b.slots, vS b.sess.p b.sess.l.length, vI b.wait, vI b.limit, vI b.clock, vS b.rises.p b.rises.l.length])] ⟨rfl, rfl, rfl, rfl, trivial⟩ ⟨rfl, rfl, trivial⟩ rfl fun ρ0 ff => ?_
                            refine cx_sound _ _ _ _ _ ?_
                            exact ⟨.inl rfl, _, rfl, false, rfl, ⟨fun h => absurd h Bool.false_ne_true, fun h => (show False from (absurd (congrArg Nd.clock h) h100)).elim⟩, rfl⟩
                        · replace h93 : ¬ (a.limit = b.limit) := bne_iff_ne.1 h93
                          iterate 3 refine ⟨_, rfl, ?_⟩
                          refine ow_cut [(2, vL 2 0 (0)), (3, vL 3 0 (1)), (4, vB false), (110, vB true)] ⟨rfl, rfl, rfl, rfl, trivial⟩ fun ρ0 => ?_
                          refine ⟨_, rfl, ?_⟩
                          refine AW.cutM (2) st [(2, vL 2 0 (0)), (3, vL 3 0 (1)), (4, vB false), (119, vB true)] [(2, 0, [vI a.id, vI a.n, vS a.s.p a.s.x.items.length, vS a.s.q a.s.x.floors.length, vS a.t.p a.t.l.length, vI a.t.root, vI a.g.cap, vI a.g.frm, vS a.g.p a.g.l.length, vS a.got.p a.got.l.length, vS a.acked.p a.acked.l.length, vS a.seen.p a.seen.t.length, vI a.num, vI a.slots, vS a.sess.p a.sess.l.length, vI a.wait, vI a.limit, vI a.clock, vS a.rises.p a.rises.l.length]), (3, 1, [vI b.id, vI b.n, vS b.s.p b.s.x.items.length, vS b.s.q b.s.x.floors.length, vS b.t.p b.t.l.length, vI b.t.root, vI b.g.cap, vI b.g.frm, vS b.g.p b.g.l.length, vS b.got.p b.got.l.length, vS b.acked.p b.acked.l.length, vS b.seen.p b.seen.t.length, vI b.num, vI b.slots, vS b.sess.p b.sess.l.length, vI b.wait, vI b.limit, vI b.clock, vS b.rises.p b.rises.l.length])] ⟨rfl, rfl, rfl, rfl, trivial⟩ ⟨rfl, rfl, trivial⟩ rfl fun ρ0 ff => ?_
                          refine cx_sound _ _ _ _ _ ?_
                          exact ⟨.inl rfl, _, rfl, false, rfl, ⟨fun h => absurd h Bool.false_ne_true, fun h => (show False from (absurd (congrArg Nd.limit h) h93)).elim⟩, rfl⟩
                      · replace h86 : ¬ (a.wait = b.wait) := bne_iff_ne.1 h86
                        refine ow_cut [(2, vL 2 0 (0)), (3, vL 3 0 (1)), (4, vB false), (81, vB false), (86, vB true)] ⟨rfl, rfl, rfl, rfl, rfl, trivial⟩ fun ρ0 => ?_
                        iterate 4 refine ⟨_, rfl, ?_⟩
                        refine ow_cut [(2, vL 2 0 (0)), (3, vL 3 0 (1)), (4, vB false), (110, vB true)] ⟨rfl, rfl, rfl, rfl, trivial⟩ fun ρ0 => ?_
                        refine ⟨_, rfl, ?_⟩
                        refine AW.cutM (2) st [(2, vL 2 0 (0)), (3, vL 3 0 (1)), (4, vB false), (119, vB true)] [(2, 0, [vI a.id, vI a.n, vS a.s.p a.s.x.items.length, vS a.s.q a.s.x.floors.length, vS a.t.p a.t.l.length, vI a.t.root, vI a.g.cap, vI a.g.frm, vS a.g.p a.g.l.length, vS a.got.p a.got.l.length, vS a.acked.p a.acked.l.length, vS a.seen.p a.seen.t.length, vI a.num, vI a.slots, vS a.sess.p a.sess.l.length, vI a.wait, vI a.limit, vI a.clock, vS a.rises.p a.rises.l.length]), (3, 1, [vI b.id, vI b.n, vS b.s.p b.s.x.items.length, vS b.s.q b.s.x.floors.length, vS b.t.p b.t.l.length, vI b.t.root, vI b.g.cap, vI b.g.frm, vS b.g.p b.g.l.length, vS b.got.p b.got.l.length, vS b.acked.p b.acked.l.length, vS b.seen.p b.seen.t.length, vI b.num, vI b.slots, vS b.sess.p b.sess.l.length, vI b.wait, vI b.limit, vI b.clock, vS b.rises.p b.rises.l.length])] ⟨rfl, rfl, rfl, rfl, trivial⟩ ⟨rfl, rfl, trivial⟩ rfl fun ρ0 ff => ?_
                        refine cx_sound _ _ _ _ _ ?_
                        exact ⟨.inl rfl, _, rfl, false, rfl, ⟨fun h => absurd h Bool.false_ne_true, fun h => (show False from (absurd (congrArg Nd.wait h) h86)).elim⟩, rfl⟩
                    · replace h79 : ¬ (a.slots = b.slots) := bne_iff_ne.1 h79
                      iterate 2 refine ⟨_, rfl, ?_⟩
                      refine ow_cut [(2, vL 2 0 (0)), (3, vL 3 0 (1)), (4, vB false), (87, vB true)] ⟨rfl, rfl, rfl, rfl, trivial⟩ fun ρ0 => ?_
                      iterate 3 refine ⟨_, rfl, ?_⟩
                      refine ow_cut [(2, vL 2 0 (0)), (3, vL 3 0 (1)), (4, vB false), (110, vB true)] ⟨rfl, rfl, rfl, rfl, trivial⟩ fun ρ0 => ?_
                      refine ⟨_, rfl, ?_⟩
                      refine AW.cutM (2) st [(2, vL 2 0 (0)), (3, vL 3 0 (1)), (4, vB false), (119, vB true)] [(2, 0, [vI a.id, vI a.n, vS a.s.p a.s.x.items.length, vS a.s.q a.s.x.floors.length, vS a.t.p a.t.l.length, vI a.t.root, vI a.g.cap, vI a.g.frm, vS a.g.p a.g.l.length, vS a.got.p a.got.l.length, vS a.acked.p a.acked.l.length, vS a.seen.p a.seen.t.length, vI a.num, vI a.slots, vS a.sess.p a.sess.l.length, vI a.wait, vI a.limit, vI a.clock, vS a.rises.p a.rises.l.length]), (3, 1, [vI b.id, vI b.n, vS b.s.p b.s.x.items.length, vS b.s.q b.s.x.floors.length, vS b.t.p b.t.l.length, vI b.t.root, vI b.g.cap, vI b.g.frm, vS b.g.p b.g.l.length, vS b.got.p b.got.l.length, vS b.acked.p b.acked.l.length, vS b.seen.p b.seen.t.length, vI b.num, vI b.slots, vS b.sess.p b.sess.l.length, vI b.wait, vI b.limit, vI b.clock, vS b.rises.p b.rises.l.length])] ⟨rfl, rfl, rfl, rfl, trivial⟩ ⟨rfl, rfl, trivial⟩ rfl fun ρ0 ff => ?_
                      refine cx_sound _ _ _ _ _ ?_
                      exact ⟨.inl rfl, _, rfl, false, rfl, ⟨fun h => absurd h Bool.false_ne_true, fun h => (show False from (absurd (congrArg Nd.slots h) h79)).elim⟩, rfl⟩
                  · replace h73 : ¬ (a.num = b.num) := bne_iff_ne.1 h73
                    iterate 2 refine ⟨_, rfl, ?_⟩
                    refine ow_cut [(2, vL 2 0 (0)), (3, vL 3 0 (1)), (4, vB false), (87, vB true)] ⟨rfl, rfl, rfl, rfl, trivial⟩ fun ρ0 => ?_
                    iterate 3 refine ⟨_, rfl, ?_⟩
                    refine ow_cut [(2, vL 2 0 (0)), (3, vL 3 0 (1)), (4, vB false), (110, vB true)] ⟨rfl, rfl, rfl, rfl, trivial⟩ fun ρ0 => ?_
                    refine ⟨_, rfl, ?_⟩
                    refine AW.cutM (2) st [(2, vL 2 0 (0)), (3, vL 3 0 (1)), (4, vB false), (119, vB true)] [(2, 0, [vI a.id, vI a.n, vS a.s.p a.s.x.items.length, vS a.s.q a.s.x.floors.length, vS a.t.p a.t.l.length, vI a.t.root, vI a.g.cap, vI a.g.frm, vS a.g.p a.g.l.length, vS a.got.p a.got.l.length, vS a.acked.p a.acked.l.length, vS a.seen.p a.seen.t.length, vI a.num, vI a.slots, vS a.sess.p a.sess.l.length, vI a.wait, vI a.limit, vI a.clock, vS a.rises.p a.rises.l.length]), (3, 1, [vI b.id, vI b.n, vS b.s.p b.s.x.items.length, vS b.s.q b.s.x.floors.length, vS b.t.p b.t.l.length, vI b.t.root, vI b.g.cap, vI b.g.frm, vS b.g.p b.g.l.length, vS b.got.p b.got.l.length, vS b.acked.p b.acked.l.length, vS b.seen.p b.seen.t.length, vI b.num, vI b.slots, vS b.sess.p b.sess.l.length, vI b.wait, vI b.limit, vI b.clock, vS b.rises.p b.rises.l.length])] ⟨rfl, rfl, rfl, rfl, trivial⟩ ⟨rfl, rfl, trivial⟩ rfl fun ρ0 ff => ?_
                    refine cx_sound _ _ _ _ _ ?_
                    exact ⟨.inl rfl, _, rfl, false, rfl, ⟨fun h => absurd h Bool.false_ne_true, fun h => (show False from (absurd (congrArg Nd.num h) h73)).elim⟩, rfl⟩
                · replace h67 : ¬ ((a.seen.t.length : Int) = (b.seen.t.length : Int)) := bne_iff_ne.1 h67
                  refine ⟨_, rfl, ?_⟩
                  refine AW.cutM (2) st [(2, vL 2 0 (0)), (3, vL 3 0 (1)), (4, vB false), (68, vB true)] [(2, 0, [vI a.id, vI a.n, vS a.s.p a.s.x.items.length, vS a.s.q a.s.x.floors.length, vS a.t.p a.t.l.length, vI a.t.root, vI a.g.cap, vI a.g.frm, vS a.g.p a.g.l.length, vS a.got.p a.got.l.length, vS a.acked.p a.acked.l.length, vS a.seen.p a.seen.t.length, vI a.num, vI a.slots, vS a.sess.p a.sess.l.length, vI a.wait, vI a.limit, vI a.clock, vS a.rises.p a.rises.l.length]), (3, 1, [vI b.id, vI b.n, vS b.s.p b.s.x.items.length, vS b.s.q b.s.x.floors.length, vS b.t.p b.t.l.length, vI b.t.root, vI b.g.cap, vI b.g.frm, vS b.g.p b.g.l.length, vS b.got.p b.got.l.length, vS b.acked.p b.acked.l.length, vS b.seen.p b.seen.t.length, vI b.num, vI b.slots, vS b.sess.p b.sess.l.length, vI b.wait, vI b.limit, vI b.clock, vS b.rises.p b.rises.l.length])] ⟨rfl, rfl, rfl, rfl, trivial⟩ ⟨rfl, rfl, trivial⟩ rfl fun ρ0 ff => ?_
                  refine cx_sound _ _ _ _ _ ?_
                  exact ⟨.inl rfl, _, rfl, false, rfl, ⟨fun h => absurd h Bool.false_ne_true, fun h => (show False from (absurd (congrArg (fun n : Nd => (n.seen.length : Int)) h) (by simpa using h67))).elim⟩, rfl⟩
    · replace h18 : ¬ (a.n = b.n) := bne_iff_ne.1 h18
      iterate 2 refine ⟨_, rfl, ?_⟩
      refine ow_cut [(2, vL 2 0 (0)), (3, vL 3 0 (1)), (4, vB false), (27, vB true)] ⟨rfl, rfl, rfl, rfl, trivial⟩ fun ρ0 => ?_
      iterate 3 refine ⟨_, rfl, ?_⟩
      refine ow_cut [(2, vL 2 0 (0)), (3, vL 3 0 (1)), (4, vB false), (51, vB true)] ⟨rfl, rfl, rfl, rfl, trivial⟩ fun ρ0 => ?_
      iterate 2 refine ⟨_, rfl, ?_⟩
      refine AW.cutM (2) st [(2, vL 2 0 (0)), (3, vL 3 0 (1)), (4, vB false), (68, vB true)] [(2, 0, [vI a.id, vI a.n, vS a.s.p a.s.x.items.length, vS a.s.q a.s.x.floors.length, vS a.t.p a.t.l.length, vI a.t.root, vI a.g.cap, vI a.g.frm, vS a.g.p a.g.l.length, vS a.got.p a.got.l.length, vS a.acked.p a.acked.l.length, vS a.seen.p a.seen.t.length, vI a.num, vI a.slots, vS a.sess.p a.sess.l.length, vI a.wait, vI a.limit, vI a.clock, vS a.rises.p a.rises.l.length]), (3, 1, [vI b.id, vI b.n, vS b.s.p b.s.x.items.length, vS b.s.q b.s.x.floors.length, vS b.t.p b.t.l.length, vI b.t.root, vI b.g.cap, vI b.g.frm, vS b.g.p b.g.l.length, vS b.got.p b.got.l.length, vS b.acked.p b.acked.l.length, vS b.seen.p b.seen.t.length, vI b.num, vI b.slots, vS b.sess.p b.sess.l.length, vI b.wait, vI b.limit, vI b.clock, vS b.rises.p b.rises.l.length])] ⟨rfl, rfl, rfl, rfl, trivial⟩ ⟨rfl, rfl, trivial⟩ rfl fun ρ0 ff => ?_
      refine cx_sound _ _ _ _ _ ?_
      exact ⟨.inl rfl, _, rfl, false, rfl, ⟨fun h => absurd h Bool.false_ne_true, fun h => (show False from (absurd (congrArg Nd.n h) h18)).elim⟩, rfl⟩
  · replace h12 : ¬ (a.id = b.id) := bne_iff_ne.1 h12
    iterate 2 refine ⟨_, rfl, ?_⟩
    refine ow_cut [(2, vL 2 0 (0)), (3, vL 3 0 (1)), (4, vB false), (27, vB true)] ⟨rfl, rfl, rfl, rfl, trivial⟩ fun ρ0 => ?_
    iterate 3 refine ⟨_, rfl, ?_⟩
    refine ow_cut [(2, vL 2 0 (0)), (3, vL 3 0 (1)), (4, vB false), (51, vB true)] ⟨rfl, rfl, rfl, rfl, trivial⟩ fun ρ0 => ?_
    iterate 2 refine ⟨_, rfl, ?_⟩
    refine AW.cutM (2) st [(2, vL 2 0 (0)), (3, vL 3 0 (1)), (4, vB false), (68, vB true)] [(2, 0, [vI a.id, vI a.n, vS a.s.p a.s.x.items.length, vS a.s.q a.s.x.floors.length, vS a.t.p a.t.l.length, vI a.t.root, vI a.g.cap, vI a.g.frm, vS a.g.p a.g.l.length, vS a.got.p a.got.l.length, vS a.acked.p a.acked.l.length, vS a.seen.p a.seen.t.length, vI a.num, vI a.slots, vS a.sess.p a.sess.l.length, vI a.wait, vI a.limit, vI a.clock, vS a.rises.p a.rises.l.length]), (3, 1, [vI b.id, vI b.n, vS b.s.p b.s.x.items.length, vS b.s.q b.s.x.floors.length, vS b.t.p b.t.l.length, vI b.t.root, vI b.g.cap, vI b.g.frm, vS b.g.p b.g.l.length, vS b.got.p b.got.l.length, vS b.acked.p b.acked.l.length, vS b.seen.p b.seen.t.length, vI b.num, vI b.slots, vS b.sess.p b.sess.l.length, vI b.wait, vI b.limit, vI b.clock, vS b.rises.p b.rises.l.length])] ⟨rfl, rfl, rfl, rfl, trivial⟩ ⟨rfl, rfl, trivial⟩ rfl fun ρ0 ff => ?_
    refine cx_sound _ _ _ _ _ ?_
    exact ⟨.inl rfl, _, rfl, false, rfl, ⟨fun h => absurd h Bool.false_ne_true, fun h => (show False from (absurd (congrArg Nd.id h) h12)).elim⟩, rfl⟩
/-! Slots -/
def slotF : List Ses → Int → Bool → Nat → Int
  | [], _, _, _ => -1
  | x :: l, p, b, k => if x.peer = p ∧ x.inn = b then (k : Int) else slotF l p b (k + 1)
theorem ac_impl_Slot (g : NV) (p : Int) (b : Bool) (st : St) (hR : RdN st g) (hb : bigN g.x) : C 44 [.agg #[vI g.id, vI g.n, vS g.s.p g.s.x.items.length, vS g.s.q g.s.x.floors.length, vS g.t.p g.t.l.length, vI g.t.root, vI g.g.cap, vI g.g.frm, vS g.g.p g.g.l.length, vS g.got.p g.got.l.length, vS g.acked.p g.acked.l.length, vS g.seen.p g.seen.t.length, vI g.num, vI g.slots, vS g.sess.p g.sess.l.length, vI g.wait, vI g.limit, vI g.clock, vS g.rises.p g.rises.l.length], vI p, vB b] st (fun v s => v = vI (slotF g.sess.l p b 0) ∧ s = st) := by
  have hs : g.sess.l.length ≤ 1048576 := hb.sess
  refine AC.enterX (i := ⟨[3, 8], [3, 8, 9, 17, 22], [0, 1, 2, 3, 6, 7, 8, 10, 11, 12, 13, 26]⟩) [] Try.func44 rfl rfl (by kernel_rfl) (by kernel_rfl) Try.ntmps44 (Nat.le_of_ble_eq_true rfl) rfl ?_
  refine ⟨_, rfl, ?_⟩
  refine AW.cutM (1) st [(1, vI p), (2, vB b), (3, vL 3 0 (0)), (6, vI (0))] [(3, 0, [vI g.id, vI g.n, vS g.s.p g.s.x.items.length, vS g.s.q g.s.x.floors.length, vS g.t.p g.t.l.length, vI g.t.root, vI g.g.cap, vI g.g.frm, vS g.g.p g.g.l.length, vS g.got.p g.got.l.length, vS g.acked.p g.acked.l.length, vS g.seen.p g.seen.t.length, vI g.num, vI g.slots, vS g.sess.p g.sess.l.length, vI g.wait, vI g.limit, vI g.clock, vS g.rises.p g.rises.l.length])] ⟨rfl, rfl, rfl, rfl, trivial⟩ ⟨rfl, trivial⟩ rfl fun ρ0 ff => ?_
  refine ⟨_, rfl, ?_⟩
  refine ⟨_, op_ldo rfl rfl rfl rfl, ?_⟩
  refine ⟨_, rfl, ?_⟩
  refine AW.cutM (1) st [(1, vI p), (2, vB b), (6, vI (0)), (10, vS g.sess.p g.sess.l.length), (11, vI (g.sess.l.length : Int)), (12, vI (0))] [] ⟨rfl, rfl, rfl, rfl, rfl, rfl, trivial⟩ trivial rfl fun ρ0 ff => ?_
  refine AW.loopM (fun i : Nat => [(1, vI p), (2, vB b), (10, vS g.sess.p g.sess.l.length), (11, vI (g.sess.l.length : Int)), (12, vI (i : Int))]) (fun i : Nat => []) (fun m (i : Nat) st' => m = g.sess.l.length - i ∧ i ≤ g.sess.l.length ∧ slotF g.sess.l p b 0 = slotF (g.sess.l.drop i) p b i ∧ st = st') 0 _ ⟨rfl, rfl, rfl, rfl, rfl, trivial⟩ trivial ⟨rfl, Nat.zero_le _, rfl, rfl⟩ ?_
  rintro m i ρ0 ff gg st' ⟨rfl, hi, hf, rfl⟩
  refine ⟨_, rfl, ?_⟩
  rintro (_|_) h13
  · replace h13 : ¬ ((i : Int) < (g.sess.l.length : Int)) := of_decide_eq_false h13
    refine AW.cutM (gg) st [(1, vI p), (2, vB b), (10, vS g.sess.p g.sess.l.length), (11, vI (g.sess.l.length : Int)), (12, vI (i : Int)), (13, vB false)] [] ⟨rfl, rfl, rfl, rfl, rfl, rfl, trivial⟩ trivial rfl fun ρ0 ff => ?_
    refine cx_sound _ _ _ _ _ ?_
    refine cx_sound _ _ _ _ _ ?_
    have hil : i = g.sess.l.length := by omega
    exact ⟨.inl rfl, _, rfl, congrArg vI (by rw [hf, hil, List.drop_length]; rfl), rfl⟩
  · replace h13 : (i : Int) < (g.sess.l.length : Int) := of_decide_eq_true h13
    refine AW.cutM (gg) st [(1, vI p), (2, vB b), (10, vS g.sess.p g.sess.l.length), (11, vI (g.sess.l.length : Int)), (12, vI (i : Int)), (13, vB true)] [] ⟨rfl, rfl, rfl, rfl, rfl, rfl, trivial⟩ trivial rfl fun ρ0 ff => ?_
    refine cx_sound _ _ _ _ _ ?_
    refine op_at i hR.sess (by omega) rfl rfl rfl rfl rfl rfl rfl ?_
    intro x15 b15 d15 k15 hy15 hb15 hm15 hc15 ho15
    refine ⟨_, op_lda rfl rfl rfl rfl rfl hm15 hc15 rfl, ?_⟩
    refine ⟨_, rfl, ?_⟩
    refine ⟨_, op_sto rfl rfl rfl rfl rfl rfl rfl, ?_⟩
    refine AW.cutM (gg + 1) st [(1, vI p), (2, vB b), (7, vI (i : Int)), (8, vL 8 0 (gg)), (10, vS g.sess.p g.sess.l.length), (11, vI (g.sess.l.length : Int)), (12, vI (i : Int)), (13, vB true)] [(8, gg, [vI x15.peer, vI x15.num, vB x15.inn, vI x15.age])] ⟨rfl, rfl, rfl, rfl, rfl, rfl, rfl, rfl, trivial⟩ ⟨rfl, trivial⟩ rfl fun ρ0 ff => ?_
    rw [(split_at' hy15).2.2, slotF] at hf
    refine ⟨_, rfl, ?_⟩
    refine ⟨_, op_ldo rfl rfl rfl rfl, ?_⟩
    refine ⟨_, rfl, ?_⟩
    rintro (_|_) h20
    · replace h20 : ¬ (x15.peer = p) := beq_eq_false_iff_ne.1 h20
      refine ⟨_, rfl, ?_⟩
      refine AW.cutM (gg + 1) st [(1, vI p), (2, vB b), (7, vI (i : Int)), (8, vL 8 0 (gg)), (10, vS g.sess.p g.sess.l.length), (11, vI (g.sess.l.length : Int)), (12, vI (i : Int)), (13, vB true), (26, vB false)] [(8, gg, [vI x15.peer, vI x15.num, vB x15.inn, vI x15.age])] ⟨rfl, rfl, rfl, rfl, rfl, rfl, rfl, rfl, rfl, trivial⟩ ⟨rfl, trivial⟩ rfl fun ρ0 ff => ?_
      have hno : ¬ (x15.peer = p ∧ x15.inn = b) := fun h => h20 h.1
      refine cx_sound _ _ _ _ _ ?_
      have ew28 : IntKind.wrap .i64 ((i : Int) + (1)) = ((i + 1 : Nat) : Int) := (wrap_i64 (by omega) (by omega)).trans (by omega)
      refine ⟨_, rfl, ?_⟩
      exact ⟨i + 1, g.sess.l.length - (i + 1), by omega, ⟨rfl, rfl, rfl, rfl, congrArg (Value.int .i64) ew28, trivial⟩, trivial, rfl, by omega, by rw [hf, if_neg hno], rfl⟩
    · replace h20 : x15.peer = p := beq_iff_eq.1 h20
      refine ⟨_, rfl, ?_⟩
      refine ⟨_, op_ldo rfl rfl rfl rfl, ?_⟩
      refine ⟨_, rfl, ?_⟩
      rintro (_|_) h25
      · replace h25 : ¬ (x15.inn = b) := beq_eq_false_iff_ne.1 h25
        refine ⟨_, rfl, ?_⟩
        refine AW.cutM (gg + 1) st [(1, vI p), (2, vB b), (7, vI (i : Int)), (8, vL 8 0 (gg)), (10, vS g.sess.p g.sess.l.length), (11, vI (g.sess.l.length : Int)), (12, vI (i : Int)), (13, vB true), (26, vB false)] [(8, gg, [vI x15.peer, vI x15.num, vB x15.inn, vI x15.age])] ⟨rfl, rfl, rfl, rfl, rfl, rfl, rfl, rfl, rfl, trivial⟩ ⟨rfl, trivial⟩ rfl fun ρ0 ff => ?_
        have hno : ¬ (x15.peer = p ∧ x15.inn = b) := fun h => h25 h.2
        refine cx_sound _ _ _ _ _ ?_
        have ew28 : IntKind.wrap .i64 ((i : Int) + (1)) = ((i + 1 : Nat) : Int) := (wrap_i64 (by omega) (by omega)).trans (by omega)
        refine ⟨_, rfl, ?_⟩
        exact ⟨i + 1, g.sess.l.length - (i + 1), by omega, ⟨rfl, rfl, rfl, rfl, congrArg (Value.int .i64) ew28, trivial⟩, trivial, rfl, by omega, by rw [hf, if_neg hno], rfl⟩
      · replace h25 : x15.inn = b := beq_iff_eq.1 h25
        refine ⟨_, rfl, ?_⟩
        refine AW.cutM (gg + 1) st [(1, vI p), (2, vB b), (7, vI (i : Int)), (8, vL 8 0 (gg)), (10, vS g.sess.p g.sess.l.length), (11, vI (g.sess.l.length : Int)), (12, vI (i : Int)), (13, vB true), (26, vB true)] [(8, gg, [vI x15.peer, vI x15.num, vB x15.inn, vI x15.age])] ⟨rfl, rfl, rfl, rfl, rfl, rfl, rfl, rfl, rfl, trivial⟩ ⟨rfl, trivial⟩ rfl fun ρ0 ff => ?_
        refine cx_sound _ _ _ _ _ ?_
        exact ⟨.inl rfl, _, rfl, congrArg vI (by rw [hf, if_pos ⟨h20, h25⟩]), rfl⟩
theorem ac_spec_Slot (g : NV) (p : Int) (b : Bool) (st : St) (hR : RdN st g) (hb : bigN g.x) : C 42 [.agg #[vI g.id, vI g.n, vS g.s.p g.s.x.items.length, vS g.s.q g.s.x.floors.length, vS g.t.p g.t.l.length, vI g.t.root, vI g.g.cap, vI g.g.frm, vS g.g.p g.g.l.length, vS g.got.p g.got.l.length, vS g.acked.p g.acked.l.length, vS g.seen.p g.seen.t.length, vI g.num, vI g.slots, vS g.sess.p g.sess.l.length, vI g.wait, vI g.limit, vI g.clock, vS g.rises.p g.rises.l.length], vI p, vB b] st (fun v s => v = vI (slotF g.sess.l p b 0) ∧ s = st) := by
  have hs : g.sess.l.length ≤ 1048576 := hb.sess
  refine AC.enterX (i := ⟨[3], [3, 9, 15, 24], [0, 1, 2, 3, 6, 7, 12, 32]⟩) [] Try.func42 rfl rfl (by kernel_rfl) (by kernel_rfl) Try.ntmps42 (Nat.le_of_ble_eq_true rfl) rfl ?_
  refine ⟨_, rfl, ?_⟩
  refine cx_sound _ _ _ _ _ ?_
  refine AW.cutM (1) st [(1, vI p), (2, vB b), (3, vL 3 0 (0)), (6, vI (0)), (7, vI (0))] [(3, 0, [vI g.id, vI g.n, vS g.s.p g.s.x.items.length, vS g.s.q g.s.x.floors.length, vS g.t.p g.t.l.length, vI g.t.root, vI g.g.cap, vI g.g.frm, vS g.g.p g.g.l.length, vS g.got.p g.got.l.length, vS g.acked.p g.acked.l.length, vS g.seen.p g.seen.t.length, vI g.num, vI g.slots, vS g.sess.p g.sess.l.length, vI g.wait, vI g.limit, vI g.clock, vS g.rises.p g.rises.l.length])] ⟨rfl, rfl, rfl, rfl, rfl, trivial⟩ ⟨rfl, trivial⟩ rfl fun ρ0 ff => ?_
  refine AW.loopM (fun i : Nat => [(1, vI p), (2, vB b), (3, vL 3 0 (0)), (7, vI (i : Int))]) (fun i : Nat => [(3, 0, [vI g.id, vI g.n, vS g.s.p g.s.x.items.length, vS g.s.q g.s.x.floors.length, vS g.t.p g.t.l.length, vI g.t.root, vI g.g.cap, vI g.g.frm, vS g.g.p g.g.l.length, vS g.got.p g.got.l.length, vS g.acked.p g.acked.l.length, vS g.seen.p g.seen.t.length, vI g.num, vI g.slots, vS g.sess.p g.sess.l.length, vI g.wait, vI g.limit, vI g.clock, vS g.rises.p g.rises.l.length])]) (fun m (i : Nat) st' => m = g.sess.l.length - i ∧ i ≤ g.sess.l.length ∧ slotF g.sess.l p b 0 = slotF (g.sess.l.drop i) p b i ∧ st = st') 0 _ ⟨rfl, rfl, rfl, rfl, trivial⟩ ⟨rfl, trivial⟩ ⟨rfl, Nat.zero_le _, rfl, rfl⟩ ?_
  rintro m i ρ0 ff gg st' ⟨rfl, hi, hf, rfl⟩
  refine ⟨_, rfl, ?_⟩
  refine ⟨_, op_ldo rfl rfl rfl rfl, ?_⟩
  iterate 2 refine ⟨_, rfl, ?_⟩
  rintro (_|_) h12
  · replace h12 : ¬ ((i : Int) < (g.sess.l.length : Int)) := of_decide_eq_false h12
    refine AW.cutM (gg) st [(1, vI p), (2, vB b), (3, vL 3 0 (0)), (7, vI (i : Int)), (12, vB false)] [(3, 0, [vI g.id, vI g.n, vS g.s.p g.s.x.items.length, vS g.s.q g.s.x.floors.length, vS g.t.p g.t.l.length, vI g.t.root, vI g.g.cap, vI g.g.frm, vS g.g.p g.g.l.length, vS g.got.p g.got.l.length, vS g.acked.p g.acked.l.length, vS g.seen.p g.seen.t.length, vI g.num, vI g.slots, vS g.sess.p g.sess.l.length, vI g.wait, vI g.limit, vI g.clock, vS g.rises.p g.rises.l.length])] ⟨rfl, rfl, rfl, rfl, rfl, trivial⟩ ⟨rfl, trivial⟩ rfl fun ρ0 ff => ?_
    refine cx_sound _ _ _ _ _ ?_
    refine cx_sound _ _ _ _ _ ?_
    have hil : i = g.sess.l.length := by omega
    exact ⟨.inl rfl, _, rfl, congrArg vI (by rw [hf, hil, List.drop_length]; rfl), rfl⟩
  · replace h12 : (i : Int) < (g.sess.l.length : Int) := of_decide_eq_true h12
    refine AW.cutM (gg) st [(1, vI p), (2, vB b), (3, vL 3 0 (0)), (7, vI (i : Int)), (12, vB true)] [(3, 0, [vI g.id, vI g.n, vS g.s.p g.s.x.items.length, vS g.s.q g.s.x.floors.length, vS g.t.p g.t.l.length, vI g.t.root, vI g.g.cap, vI g.g.frm, vS g.g.p g.g.l.length, vS g.got.p g.got.l.length, vS g.acked.p g.acked.l.length, vS g.seen.p g.seen.t.length, vI g.num, vI g.slots, vS g.sess.p g.sess.l.length, vI g.wait, vI g.limit, vI g.clock, vS g.rises.p g.rises.l.length])] ⟨rfl, rfl, rfl, rfl, rfl, trivial⟩ ⟨rfl, trivial⟩ rfl fun ρ0 ff => ?_
    refine cx_sound _ _ _ _ _ ?_
    refine ⟨_, rfl, ?_⟩
    refine ⟨_, op_ldo rfl rfl rfl rfl, ?_⟩
    refine op_at i hR.sess (by omega) rfl rfl rfl rfl rfl rfl rfl ?_
    intro x18 b18 d18 k18 hy18 hb18 hm18 hc18 ho18
    refine ⟨_, rfl, ?_⟩
    refine ⟨_, op_ldc (i := 0) rfl rfl rfl rfl hm18 hc18 rfl rfl, ?_⟩
    refine ⟨_, rfl, ?_⟩
    rintro (_|_) h22
    · replace h22 : ¬ (x18.peer = p) := beq_eq_false_iff_ne.1 h22
      refine ⟨_, rfl, ?_⟩
      refine AW.cutM (gg) st [(1, vI p), (2, vB b), (3, vL 3 0 (0)), (7, vI (i : Int)), (12, vB true), (32, vB false)] [(3, 0, [vI g.id, vI g.n, vS g.s.p g.s.x.items.length, vS g.s.q g.s.x.floors.length, vS g.t.p g.t.l.length, vI g.t.root, vI g.g.cap, vI g.g.frm, vS g.g.p g.g.l.length, vS g.got.p g.got.l.length, vS g.acked.p g.acked.l.length, vS g.seen.p g.seen.t.length, vI g.num, vI g.slots, vS g.sess.p g.sess.l.length, vI g.wait, vI g.limit, vI g.clock, vS g.rises.p g.rises.l.length])] ⟨rfl, rfl, rfl, rfl, rfl, rfl, trivial⟩ ⟨rfl, trivial⟩ rfl fun ρ0 ff => ?_
      rw [(split_at' hy18).2.2, slotF] at hf
      have hno : ¬ (x18.peer = p ∧ x18.inn = b) := fun h => h22 h.1
      refine cx_sound _ _ _ _ _ ?_
      have ew14 : IntKind.wrap .i64 ((i : Int) + (1)) = ((i + 1 : Nat) : Int) := (wrap_i64 (by omega) (by omega)).trans (by omega)
      refine ⟨_, rfl, ?_⟩
      exact ⟨i + 1, g.sess.l.length - (i + 1), by omega, ⟨rfl, rfl, rfl, congrArg (Value.int .i64) ew14, trivial⟩, ⟨rfl, trivial⟩, rfl, by omega, by rw [hf, if_neg hno], rfl⟩
    · replace h22 : x18.peer = p := beq_iff_eq.1 h22
      refine ⟨_, rfl, ?_⟩
      refine ⟨_, op_ldo rfl rfl rfl rfl, ?_⟩
      refine op_el i hR.sess hy18 rfl rfl rfl rfl rfl rfl rfl ?_
      intro b27 d27 k27 hb27 hm27 hc27 ho27
      refine ⟨_, rfl, ?_⟩
      refine ⟨_, op_ldc (i := 2) rfl rfl rfl rfl hm27 hc27 rfl rfl, ?_⟩
      refine ⟨_, rfl, ?_⟩
      rintro (_|_) h31
      · replace h31 : ¬ (x18.inn = b) := beq_eq_false_iff_ne.1 h31
        refine ⟨_, rfl, ?_⟩
        refine AW.cutM (gg) st [(1, vI p), (2, vB b), (3, vL 3 0 (0)), (7, vI (i : Int)), (12, vB true), (32, vB false)] [(3, 0, [vI g.id, vI g.n, vS g.s.p g.s.x.items.length, vS g.s.q g.s.x.floors.length, vS g.t.p g.t.l.length, vI g.t.root, vI g.g.cap, vI g.g.frm, vS g.g.p g.g.l.length, vS g.got.p g.got.l.length, vS g.acked.p g.acked.l.length, vS g.seen.p g.seen.t.length, vI g.num, vI g.slots, vS g.sess.p g.sess.l.length, vI g.wait, vI g.limit, vI g.clock, vS g.rises.p g.rises.l.length])] ⟨rfl, rfl, rfl, rfl, rfl, rfl, trivial⟩ ⟨rfl, trivial⟩ rfl fun ρ0 ff => ?_
        rw [(split_at' hy18).2.2, slotF] at hf
        have hno : ¬ (x18.peer = p ∧ x18.inn = b) := fun h => h31 h.2
        refine cx_sound _ _ _ _ _ ?_
        have ew14 : IntKind.wrap .i64 ((i : Int) + (1)) = ((i + 1 : Nat) : Int) := (wrap_i64 (by omega) (by omega)).trans (by omega)
        refine ⟨_, rfl, ?_⟩
        exact ⟨i + 1, g.sess.l.length - (i + 1), by omega, ⟨rfl, rfl, rfl, congrArg (Value.int .i64) ew14, trivial⟩, ⟨rfl, trivial⟩, rfl, by omega, by rw [hf, if_neg hno], rfl⟩
      · replace h31 : x18.inn = b := beq_iff_eq.1 h31
        refine ⟨_, rfl, ?_⟩
        refine AW.cutM (gg) st [(1, vI p), (2, vB b), (3, vL 3 0 (0)), (7, vI (i : Int)), (12, vB true), (32, vB true)] [(3, 0, [vI g.id, vI g.n, vS g.s.p g.s.x.items.length, vS g.s.q g.s.x.floors.length, vS g.t.p g.t.l.length, vI g.t.root, vI g.g.cap, vI g.g.frm, vS g.g.p g.g.l.length, vS g.got.p g.got.l.length, vS g.acked.p g.acked.l.length, vS g.seen.p g.seen.t.length, vI g.num, vI g.slots, vS g.sess.p g.sess.l.length, vI g.wait, vI g.limit, vI g.clock, vS g.rises.p g.rises.l.length])] ⟨rfl, rfl, rfl, rfl, rfl, rfl, trivial⟩ ⟨rfl, trivial⟩ rfl fun ρ0 ff => ?_
        rw [(split_at' hy18).2.2, slotF] at hf
        refine cx_sound _ _ _ _ _ ?_
        exact ⟨.inl rfl, _, rfl, congrArg vI (by rw [hf, if_pos ⟨h22, h31⟩]), rfl⟩
end Go.Proofs.Ytopcpcoklgepnaa.AM
