/- Contracts of the laws' own functions over plain structs and rows of them (written by gen.py). -/
import Derived.Test.YtopcpcoklgepnaaD0
namespace Go.Proofs.Ytopcpcoklgepnaa.AM
open Go Go.Proofs
set_option linter.unusedVariables false
set_option linter.unusedSimpArgs false
set_option maxRecDepth 100000
set_option maxHeartbeats 4000000
theorem ac_laws_toMark (x : Flr) (st : St) : C 149 [.agg #[vI x.id, vI x.inc]] st (fun v s => v = .agg #[vI x.id, vI x.inc] ∧ s = st) := by
  refine AC.enterX (i := ⟨[1, 2, 3], [1, 2, 3, 4, 6, 7, 9], [0, 1, 2, 3]⟩) [] Try.func149 rfl rfl (by kernel_rfl) (by kernel_rfl) Try.ntmps149 (Nat.le_of_ble_eq_true rfl) rfl ?_
  iterate 2 refine ⟨_, rfl, ?_⟩
  refine AW.cutM (2) st [(1, vL 1 0 (0)), (2, vL 2 0 (1))] [(1, 0, [vI x.id, vI x.inc]), (2, 1, [vI 0, vI 0])] ⟨rfl, rfl, trivial⟩ ⟨rfl, rfl, trivial⟩ rfl fun ρ0 ff => ?_
  refine ⟨_, rfl, ?_⟩
  refine AW.cutM (3) st [(1, vL 1 0 (0)), (2, vL 2 0 (1)), (3, vL 3 0 (2))] [(1, 0, [vI x.id, vI x.inc]), (2, 1, [vI 0, vI 0]), (3, 2, [vI 0, vI 0])] ⟨rfl, rfl, rfl, trivial⟩ ⟨rfl, rfl, rfl, trivial⟩ rfl fun ρ0 ff => ?_
  iterate 4 refine ⟨_, rfl, ?_⟩
  refine AW.cutM (3) st [(1, vL 1 0 (0)), (2, vL 2 0 (1)), (3, vL 3 0 (2))] [(1, 0, [vI x.id, vI x.inc]), (2, 1, [vI 0, vI 0]), (3, 2, [vI x.id, vI 0])] ⟨rfl, rfl, rfl, trivial⟩ ⟨rfl, rfl, rfl, trivial⟩ rfl fun ρ0 ff => ?_
  iterate 4 refine ⟨_, rfl, ?_⟩
  refine AW.cutM (3) st [(2, vL 2 0 (1)), (3, vL 3 0 (2))] [(2, 1, [vI 0, vI 0]), (3, 2, [vI x.id, vI x.inc])] ⟨rfl, rfl, trivial⟩ ⟨rfl, rfl, trivial⟩ rfl fun ρ0 ff => ?_
  iterate 2 refine ⟨_, rfl, ?_⟩
  refine cx_sound _ _ _ _ _ ?_
  exact ⟨.inl rfl, _, rfl, rfl, rfl⟩
theorem ac_laws_toFloor (x : Flr) (st : St) : C 143 [.agg #[vI x.id, vI x.inc]] st (fun v s => v = .agg #[vI x.id, vI x.inc] ∧ s = st) := by
  refine AC.enterX (i := ⟨[1, 2, 3], [1, 2, 3, 4, 6, 7, 9], [0, 1, 2, 3]⟩) [] Try.func143 rfl rfl (by kernel_rfl) (by kernel_rfl) Try.ntmps143 (Nat.le_of_ble_eq_true rfl) rfl ?_
  iterate 2 refine ⟨_, rfl, ?_⟩
  refine AW.cutM (2) st [(1, vL 1 0 (0)), (2, vL 2 0 (1))] [(1, 0, [vI x.id, vI x.inc]), (2, 1, [vI 0, vI 0])] ⟨rfl, rfl, trivial⟩ ⟨rfl, rfl, trivial⟩ rfl fun ρ0 ff => ?_
  refine ⟨_, rfl, ?_⟩
  refine AW.cutM (3) st [(1, vL 1 0 (0)), (2, vL 2 0 (1)), (3, vL 3 0 (2))] [(1, 0, [vI x.id, vI x.inc]), (2, 1, [vI 0, vI 0]), (3, 2, [vI 0, vI 0])] ⟨rfl, rfl, rfl, trivial⟩ ⟨rfl, rfl, rfl, trivial⟩ rfl fun ρ0 ff => ?_
  iterate 4 refine ⟨_, rfl, ?_⟩
  refine AW.cutM (3) st [(1, vL 1 0 (0)), (2, vL 2 0 (1)), (3, vL 3 0 (2))] [(1, 0, [vI x.id, vI x.inc]), (2, 1, [vI 0, vI 0]), (3, 2, [vI x.id, vI 0])] ⟨rfl, rfl, rfl, trivial⟩ ⟨rfl, rfl, rfl, trivial⟩ rfl fun ρ0 ff => ?_
  iterate 4 refine ⟨_, rfl, ?_⟩
  refine AW.cutM (3) st [(2, vL 2 0 (1)), (3, vL 3 0 (2))] [(2, 1, [vI 0, vI 0]), (3, 2, [vI x.id, vI x.inc])] ⟨rfl, rfl, trivial⟩ ⟨rfl, rfl, trivial⟩ rfl fun ρ0 ff => ?_
  iterate 2 refine ⟨_, rfl, ?_⟩
  refine cx_sound _ _ _ _ _ ?_
  exact ⟨.inl rfl, _, rfl, rfl, rfl⟩
theorem ac_laws_toEntry (x : Ent) (st : St) : C 173 [.agg #[vI x.inc, vI x.rank, vI x.beat, vI x.ver, .string x.data]] st (fun v s => v = .agg #[vI x.inc, vI x.rank, vI x.beat, vI x.ver, .string x.data] ∧ s = st) := by
  refine AC.enterX (i := ⟨[1, 2, 3], [1, 2, 3, 4, 6, 7, 9, 10, 12, 13, 15, 16, 18], [0, 1, 2, 3]⟩) [] Try.func173 rfl rfl (by kernel_rfl) (by kernel_rfl) Try.ntmps173 (Nat.le_of_ble_eq_true rfl) rfl ?_
  iterate 2 refine ⟨_, rfl, ?_⟩
  refine AW.cutM (2) st [(1, vL 1 0 (0)), (2, vL 2 0 (1))] [(1, 0, [vI x.inc, vI x.rank, vI x.beat, vI x.ver, .string x.data]), (2, 1, [vI 0, vI 0, vI 0, vI 0, .string ⟨#[]⟩])] ⟨rfl, rfl, trivial⟩ ⟨rfl, rfl, trivial⟩ rfl fun ρ0 ff => ?_
  refine ⟨_, rfl, ?_⟩
  refine AW.cutM (3) st [(1, vL 1 0 (0)), (2, vL 2 0 (1)), (3, vL 3 0 (2))] [(1, 0, [vI x.inc, vI x.rank, vI x.beat, vI x.ver, .string x.data]), (2, 1, [vI 0, vI 0, vI 0, vI 0, .string ⟨#[]⟩]), (3, 2, [vI 0, vI 0, vI 0, vI 0, .string ⟨#[]⟩])] ⟨rfl, rfl, rfl, trivial⟩ ⟨rfl, rfl, rfl, trivial⟩ rfl fun ρ0 ff => ?_
  iterate 4 refine ⟨_, rfl, ?_⟩
  refine AW.cutM (3) st [(1, vL 1 0 (0)), (2, vL 2 0 (1)), (3, vL 3 0 (2))] [(1, 0, [vI x.inc, vI x.rank, vI x.beat, vI x.ver, .string x.data]), (2, 1, [vI 0, vI 0, vI 0, vI 0, .string ⟨#[]⟩]), (3, 2, [vI x.inc, vI 0, vI 0, vI 0, .string ⟨#[]⟩])] ⟨rfl, rfl, rfl, trivial⟩ ⟨rfl, rfl, rfl, trivial⟩ rfl fun ρ0 ff => ?_
  iterate 4 refine ⟨_, rfl, ?_⟩
  refine AW.cutM (3) st [(1, vL 1 0 (0)), (2, vL 2 0 (1)), (3, vL 3 0 (2))] [(1, 0, [vI x.inc, vI x.rank, vI x.beat, vI x.ver, .string x.data]), (2, 1, [vI 0, vI 0, vI 0, vI 0, .string ⟨#[]⟩]), (3, 2, [vI x.inc, vI x.rank, vI 0, vI 0, .string ⟨#[]⟩])] ⟨rfl, rfl, rfl, trivial⟩ ⟨rfl, rfl, rfl, trivial⟩ rfl fun ρ0 ff => ?_
  iterate 4 refine ⟨_, rfl, ?_⟩
  refine AW.cutM (3) st [(1, vL 1 0 (0)), (2, vL 2 0 (1)), (3, vL 3 0 (2))] [(1, 0, [vI x.inc, vI x.rank, vI x.beat, vI x.ver, .string x.data]), (2, 1, [vI 0, vI 0, vI 0, vI 0, .string ⟨#[]⟩]), (3, 2, [vI x.inc, vI x.rank, vI x.beat, vI 0, .string ⟨#[]⟩])] ⟨rfl, rfl, rfl, trivial⟩ ⟨rfl, rfl, rfl, trivial⟩ rfl fun ρ0 ff => ?_
  iterate 4 refine ⟨_, rfl, ?_⟩
  refine AW.cutM (3) st [(1, vL 1 0 (0)), (2, vL 2 0 (1)), (3, vL 3 0 (2))] [(1, 0, [vI x.inc, vI x.rank, vI x.beat, vI x.ver, .string x.data]), (2, 1, [vI 0, vI 0, vI 0, vI 0, .string ⟨#[]⟩]), (3, 2, [vI x.inc, vI x.rank, vI x.beat, vI x.ver, .string ⟨#[]⟩])] ⟨rfl, rfl, rfl, trivial⟩ ⟨rfl, rfl, rfl, trivial⟩ rfl fun ρ0 ff => ?_
  iterate 4 refine ⟨_, rfl, ?_⟩
  refine AW.cutM (3) st [(2, vL 2 0 (1)), (3, vL 3 0 (2))] [(2, 1, [vI 0, vI 0, vI 0, vI 0, .string ⟨#[]⟩]), (3, 2, [vI x.inc, vI x.rank, vI x.beat, vI x.ver, .string x.data])] ⟨rfl, rfl, trivial⟩ ⟨rfl, rfl, trivial⟩ rfl fun ρ0 ff => ?_
  iterate 2 refine ⟨_, rfl, ?_⟩
  refine cx_sound _ _ _ _ _ ?_
  exact ⟨.inl rfl, _, rfl, rfl, rfl⟩
theorem ac_laws_toItem (x : Itm) (st : St) : C 142 [.agg #[vI x.id, vI x.e.inc, vI x.e.rank, vI x.e.beat, vI x.e.ver, .string x.e.data]] st (fun v s => v = .agg #[vI x.id, vI x.e.inc, vI x.e.rank, vI x.e.beat, vI x.e.ver, .string x.e.data] ∧ s = st) := by
  refine AC.enterX (i := ⟨[1, 2, 3], [1, 2, 3, 4, 6, 7, 10], [0, 1, 2, 3]⟩) [] Try.func142 rfl rfl (by kernel_rfl) (by kernel_rfl) Try.ntmps142 (Nat.le_of_ble_eq_true rfl) rfl ?_
  iterate 2 refine ⟨_, rfl, ?_⟩
  refine AW.cutM (2) st [(1, vL 1 0 (0)), (2, vL 2 0 (1))] [(1, 0, [vI x.id, vI x.e.inc, vI x.e.rank, vI x.e.beat, vI x.e.ver, .string x.e.data]), (2, 1, [vI 0, vI 0, vI 0, vI 0, vI 0, .string ⟨#[]⟩])] ⟨rfl, rfl, trivial⟩ ⟨rfl, rfl, trivial⟩ rfl fun ρ0 ff => ?_
  refine ⟨_, rfl, ?_⟩
  refine AW.cutM (3) st [(1, vL 1 0 (0)), (2, vL 2 0 (1)), (3, vL 3 0 (2))] [(1, 0, [vI x.id, vI x.e.inc, vI x.e.rank, vI x.e.beat, vI x.e.ver, .string x.e.data]), (2, 1, [vI 0, vI 0, vI 0, vI 0, vI 0, .string ⟨#[]⟩]), (3, 2, [vI 0, vI 0, vI 0, vI 0, vI 0, .string ⟨#[]⟩])] ⟨rfl, rfl, rfl, trivial⟩ ⟨rfl, rfl, rfl, trivial⟩ rfl fun ρ0 ff => ?_
  iterate 4 refine ⟨_, rfl, ?_⟩
  refine AW.cutM (3) st [(1, vL 1 0 (0)), (2, vL 2 0 (1)), (3, vL 3 0 (2))] [(1, 0, [vI x.id, vI x.e.inc, vI x.e.rank, vI x.e.beat, vI x.e.ver, .string x.e.data]), (2, 1, [vI 0, vI 0, vI 0, vI 0, vI 0, .string ⟨#[]⟩]), (3, 2, [vI x.id, vI 0, vI 0, vI 0, vI 0, .string ⟨#[]⟩])] ⟨rfl, rfl, rfl, trivial⟩ ⟨rfl, rfl, rfl, trivial⟩ rfl fun ρ0 ff => ?_
  iterate 2 refine ⟨_, rfl, ?_⟩
  refine ⟨_, rfl, (ac_laws_toEntry x.e st).mono ?_⟩
  rintro _ st ⟨rfl, rfl⟩
  iterate 2 refine ⟨_, rfl, ?_⟩
  refine AW.cutM (3) st [(2, vL 2 0 (1)), (3, vL 3 0 (2))] [(2, 1, [vI 0, vI 0, vI 0, vI 0, vI 0, .string ⟨#[]⟩]), (3, 2, [vI x.id, vI x.e.inc, vI x.e.rank, vI x.e.beat, vI x.e.ver, .string x.e.data])] ⟨rfl, rfl, trivial⟩ ⟨rfl, rfl, trivial⟩ rfl fun ρ0 ff => ?_
  iterate 2 refine ⟨_, rfl, ?_⟩
  refine cx_sound _ _ _ _ _ ?_
  exact ⟨.inl rfl, _, rfl, rfl, rfl⟩
theorem ac_laws_eqMark (x y : Flr) (st : St) : C 75 [.agg #[vI x.id, vI x.inc], .agg #[vI y.id, vI y.inc]] st (fun v s => ∃ b, v = .bool b ∧ (b = true ↔ x = y) ∧ s = st) := by
  refine AC.enterX (i := ⟨[2, 3], [2, 3, 5, 7, 10, 12], [0, 1, 2, 3, 4, 9, 14]⟩) [] Try.func75 rfl rfl (by kernel_rfl) (by kernel_rfl) Try.ntmps75 (Nat.le_of_ble_eq_true rfl) rfl ?_
  iterate 2 refine ⟨_, rfl, ?_⟩
  refine AW.cutM (2) st [(2, vL 2 0 (0)), (3, vL 3 0 (1)), (4, vB false)] [(2, 0, [vI x.id, vI x.inc]), (3, 1, [vI y.id, vI y.inc])] ⟨rfl, rfl, rfl, trivial⟩ ⟨rfl, rfl, trivial⟩ rfl fun ρ0 ff => ?_
  iterate 5 refine ⟨_, rfl, ?_⟩
  rintro (_|_) h1
  · replace h1 : x.id = y.id := bne_eq_false_iff_eq.1 h1
    refine AW.cutM (2) st [(2, vL 2 0 (0)), (3, vL 3 0 (1)), (4, vB false), (9, vB false)] [(2, 0, [vI x.id, vI x.inc]), (3, 1, [vI y.id, vI y.inc])] ⟨rfl, rfl, rfl, rfl, trivial⟩ ⟨rfl, rfl, trivial⟩ rfl fun ρ0 ff => ?_
    refine cx_sound _ _ _ _ _ ?_
    iterate 5 refine ⟨_, rfl, ?_⟩
    rintro (_|_) h2
    · replace h2 : x.inc = y.inc := bne_eq_false_iff_eq.1 h2
      refine AW.cutM (2) st [(4, vB false), (14, vB false)] [] ⟨rfl, rfl, trivial⟩ trivial rfl fun ρ0 ff => ?_
      refine cx_sound _ _ _ _ _ ?_
      refine cx_sound _ _ _ _ _ ?_
      exact ⟨.inl rfl, _, rfl, true, rfl, ⟨fun _ => by cases x; cases y; simp only at h1 h2; rw [h1, h2], fun _ => rfl⟩, rfl⟩
    · replace h2 : ¬ (x.inc = y.inc) := bne_iff_ne.1 h2
      refine AW.cutM (2) st [(4, vB false), (14, vB true)] [] ⟨rfl, rfl, trivial⟩ trivial rfl fun ρ0 ff => ?_
      refine cx_sound _ _ _ _ _ ?_
      exact ⟨.inl rfl, _, rfl, false, rfl, ⟨fun h => Bool.noConfusion h, fun h => absurd (by rw [h]) h2⟩, rfl⟩
  · replace h1 : ¬ (x.id = y.id) := bne_iff_ne.1 h1
    refine AW.cutM (2) st [(2, vL 2 0 (0)), (3, vL 3 0 (1)), (4, vB false), (9, vB true)] [(2, 0, [vI x.id, vI x.inc]), (3, 1, [vI y.id, vI y.inc])] ⟨rfl, rfl, rfl, rfl, trivial⟩ ⟨rfl, rfl, trivial⟩ rfl fun ρ0 ff => ?_
    refine cx_sound _ _ _ _ _ ?_
    exact ⟨.inl rfl, _, rfl, false, rfl, ⟨fun h => Bool.noConfusion h, fun h => absurd (by rw [h]) h1⟩, rfl⟩
theorem ac_laws_eqFloor (x y : Flr) (st : St) : C 147 [.agg #[vI x.id, vI x.inc], .agg #[vI y.id, vI y.inc]] st (fun v s => ∃ b, v = .bool b ∧ (b = true ↔ x = y) ∧ s = st) := by
  refine AC.enterX (i := ⟨[2, 3], [2, 3, 5, 7, 10, 12], [0, 1, 2, 3, 4, 9, 14]⟩) [] Try.func147 rfl rfl (by kernel_rfl) (by kernel_rfl) Try.ntmps147 (Nat.le_of_ble_eq_true rfl) rfl ?_
  iterate 2 refine ⟨_, rfl, ?_⟩
  refine AW.cutM (2) st [(2, vL 2 0 (0)), (3, vL 3 0 (1)), (4, vB false)] [(2, 0, [vI x.id, vI x.inc]), (3, 1, [vI y.id, vI y.inc])] ⟨rfl, rfl, rfl, trivial⟩ ⟨rfl, rfl, trivial⟩ rfl fun ρ0 ff => ?_
  iterate 5 refine ⟨_, rfl, ?_⟩
  rintro (_|_) h1
  · replace h1 : x.id = y.id := bne_eq_false_iff_eq.1 h1
    refine AW.cutM (2) st [(2, vL 2 0 (0)), (3, vL 3 0 (1)), (4, vB false), (9, vB false)] [(2, 0, [vI x.id, vI x.inc]), (3, 1, [vI y.id, vI y.inc])] ⟨rfl, rfl, rfl, rfl, trivial⟩ ⟨rfl, rfl, trivial⟩ rfl fun ρ0 ff => ?_
    refine cx_sound _ _ _ _ _ ?_
    iterate 5 refine ⟨_, rfl, ?_⟩
    rintro (_|_) h2
    · replace h2 : x.inc = y.inc := bne_eq_false_iff_eq.1 h2
      refine AW.cutM (2) st [(4, vB false), (14, vB false)] [] ⟨rfl, rfl, trivial⟩ trivial rfl fun ρ0 ff => ?_
      refine cx_sound _ _ _ _ _ ?_
      refine cx_sound _ _ _ _ _ ?_
      exact ⟨.inl rfl, _, rfl, true, rfl, ⟨fun _ => by cases x; cases y; simp only at h1 h2; rw [h1, h2], fun _ => rfl⟩, rfl⟩
    · replace h2 : ¬ (x.inc = y.inc) := bne_iff_ne.1 h2
      refine AW.cutM (2) st [(4, vB false), (14, vB true)] [] ⟨rfl, rfl, trivial⟩ trivial rfl fun ρ0 ff => ?_
      refine cx_sound _ _ _ _ _ ?_
      exact ⟨.inl rfl, _, rfl, false, rfl, ⟨fun h => Bool.noConfusion h, fun h => absurd (by rw [h]) h2⟩, rfl⟩
  · replace h1 : ¬ (x.id = y.id) := bne_iff_ne.1 h1
    refine AW.cutM (2) st [(2, vL 2 0 (0)), (3, vL 3 0 (1)), (4, vB false), (9, vB true)] [(2, 0, [vI x.id, vI x.inc]), (3, 1, [vI y.id, vI y.inc])] ⟨rfl, rfl, rfl, rfl, trivial⟩ ⟨rfl, rfl, trivial⟩ rfl fun ρ0 ff => ?_
    refine cx_sound _ _ _ _ _ ?_
    exact ⟨.inl rfl, _, rfl, false, rfl, ⟨fun h => Bool.noConfusion h, fun h => absurd (by rw [h]) h1⟩, rfl⟩
theorem ac_laws_eqEntry (x y : Ent) (st : St) : C 174 [.agg #[vI x.inc, vI x.rank, vI x.beat, vI x.ver, .string x.data], .agg #[vI y.inc, vI y.rank, vI y.beat, vI y.ver, .string y.data]] st (fun v s => ∃ b, v = .bool b ∧ (b = true ↔ x = y) ∧ s = st) := by
  refine AC.enterX (i := ⟨[2, 3], [2, 3, 5, 7, 10, 12, 15, 17, 20, 22, 25, 27], [0, 1, 2, 3, 4, 9, 14, 19, 24, 29]⟩) [] Try.func174 rfl rfl (by kernel_rfl) (by kernel_rfl) Try.ntmps174 (Nat.le_of_ble_eq_true rfl) rfl ?_
  iterate 2 refine ⟨_, rfl, ?_⟩
  refine AW.cutM (2) st [(2, vL 2 0 (0)), (3, vL 3 0 (1)), (4, vB false)] [(2, 0, [vI x.inc, vI x.rank, vI x.beat, vI x.ver, .string x.data]), (3, 1, [vI y.inc, vI y.rank, vI y.beat, vI y.ver, .string y.data])] ⟨rfl, rfl, rfl, trivial⟩ ⟨rfl, rfl, trivial⟩ rfl fun ρ0 ff => ?_
  iterate 5 refine ⟨_, rfl, ?_⟩
  rintro (_|_) h9
  · replace h9 : x.inc = y.inc := bne_eq_false_iff_eq.1 h9
    refine AW.cutM (2) st [(2, vL 2 0 (0)), (3, vL 3 0 (1)), (4, vB false), (9, vB false)] [(2, 0, [vI x.inc, vI x.rank, vI x.beat, vI x.ver, .string x.data]), (3, 1, [vI y.inc, vI y.rank, vI y.beat, vI y.ver, .string y.data])] ⟨rfl, rfl, rfl, rfl, trivial⟩ ⟨rfl, rfl, trivial⟩ rfl fun ρ0 ff => ?_
    refine cx_sound _ _ _ _ _ ?_
    iterate 5 refine ⟨_, rfl, ?_⟩
    rintro (_|_) h14
    · replace h14 : x.rank = y.rank := bne_eq_false_iff_eq.1 h14
      refine AW.cutM (2) st [(2, vL 2 0 (0)), (3, vL 3 0 (1)), (4, vB false), (14, vB false)] [(2, 0, [vI x.inc, vI x.rank, vI x.beat, vI x.ver, .string x.data]), (3, 1, [vI y.inc, vI y.rank, vI y.beat, vI y.ver, .string y.data])] ⟨rfl, rfl, rfl, rfl, trivial⟩ ⟨rfl, rfl, trivial⟩ rfl fun ρ0 ff => ?_
      refine cx_sound _ _ _ _ _ ?_
      iterate 5 refine ⟨_, rfl, ?_⟩
      rintro (_|_) h19
      · replace h19 : x.beat = y.beat := bne_eq_false_iff_eq.1 h19
        refine AW.cutM (2) st [(2, vL 2 0 (0)), (3, vL 3 0 (1)), (4, vB false), (19, vB false)] [(2, 0, [vI x.inc, vI x.rank, vI x.beat, vI x.ver, .string x.data]), (3, 1, [vI y.inc, vI y.rank, vI y.beat, vI y.ver, .string y.data])] ⟨rfl, rfl, rfl, rfl, trivial⟩ ⟨rfl, rfl, trivial⟩ rfl fun ρ0 ff => ?_
        refine cx_sound _ _ _ _ _ ?_
        iterate 5 refine ⟨_, rfl, ?_⟩
        rintro (_|_) h24
        · replace h24 : x.ver = y.ver := bne_eq_false_iff_eq.1 h24
          refine AW.cutM (2) st [(2, vL 2 0 (0)), (3, vL 3 0 (1)), (4, vB false), (24, vB false)] [(2, 0, [vI x.inc, vI x.rank, vI x.beat, vI x.ver, .string x.data]), (3, 1, [vI y.inc, vI y.rank, vI y.beat, vI y.ver, .string y.data])] ⟨rfl, rfl, rfl, rfl, trivial⟩ ⟨rfl, rfl, trivial⟩ rfl fun ρ0 ff => ?_
          refine cx_sound _ _ _ _ _ ?_
          iterate 5 refine ⟨_, rfl, ?_⟩
          rintro (_|_) h29
          · replace h29 : x.data = y.data := str_eq h29
            refine AW.cutM (2) st [(4, vB false), (29, vB false)] [] ⟨rfl, rfl, trivial⟩ trivial rfl fun ρ0 ff => ?_
            refine cx_sound _ _ _ _ _ ?_
            refine cx_sound _ _ _ _ _ ?_
            exact ⟨.inl rfl, _, rfl, true, rfl, ⟨fun _ => by cases x; cases y; simp only at h9 h14 h19 h24 h29; rw [h9, h14, h19, h24, h29], fun _ => rfl⟩, rfl⟩
          · replace h29 : ¬ (x.data = y.data) := str_ne h29
            refine AW.cutM (2) st [(4, vB false), (29, vB true)] [] ⟨rfl, rfl, trivial⟩ trivial rfl fun ρ0 ff => ?_
            refine cx_sound _ _ _ _ _ ?_
            exact ⟨.inl rfl, _, rfl, false, rfl, ⟨fun h => Bool.noConfusion h, fun h => absurd (by rw [h]) h29⟩, rfl⟩
        · replace h24 : ¬ (x.ver = y.ver) := bne_iff_ne.1 h24
          refine AW.cutM (2) st [(2, vL 2 0 (0)), (3, vL 3 0 (1)), (4, vB false), (24, vB true)] [(2, 0, [vI x.inc, vI x.rank, vI x.beat, vI x.ver, .string x.data]), (3, 1, [vI y.inc, vI y.rank, vI y.beat, vI y.ver, .string y.data])] ⟨rfl, rfl, rfl, rfl, trivial⟩ ⟨rfl, rfl, trivial⟩ rfl fun ρ0 ff => ?_
          refine cx_sound _ _ _ _ _ ?_
          exact ⟨.inl rfl, _, rfl, false, rfl, ⟨fun h => Bool.noConfusion h, fun h => absurd (by rw [h]) h24⟩, rfl⟩
      · replace h19 : ¬ (x.beat = y.beat) := bne_iff_ne.1 h19
        refine AW.cutM (2) st [(2, vL 2 0 (0)), (3, vL 3 0 (1)), (4, vB false), (19, vB true)] [(2, 0, [vI x.inc, vI x.rank, vI x.beat, vI x.ver, .string x.data]), (3, 1, [vI y.inc, vI y.rank, vI y.beat, vI y.ver, .string y.data])] ⟨rfl, rfl, rfl, rfl, trivial⟩ ⟨rfl, rfl, trivial⟩ rfl fun ρ0 ff => ?_
        refine cx_sound _ _ _ _ _ ?_
        exact ⟨.inl rfl, _, rfl, false, rfl, ⟨fun h => Bool.noConfusion h, fun h => absurd (by rw [h]) h19⟩, rfl⟩
    · replace h14 : ¬ (x.rank = y.rank) := bne_iff_ne.1 h14
      refine AW.cutM (2) st [(2, vL 2 0 (0)), (3, vL 3 0 (1)), (4, vB false), (14, vB true)] [(2, 0, [vI x.inc, vI x.rank, vI x.beat, vI x.ver, .string x.data]), (3, 1, [vI y.inc, vI y.rank, vI y.beat, vI y.ver, .string y.data])] ⟨rfl, rfl, rfl, rfl, trivial⟩ ⟨rfl, rfl, trivial⟩ rfl fun ρ0 ff => ?_
      refine cx_sound _ _ _ _ _ ?_
      exact ⟨.inl rfl, _, rfl, false, rfl, ⟨fun h => Bool.noConfusion h, fun h => absurd (by rw [h]) h14⟩, rfl⟩
  · replace h9 : ¬ (x.inc = y.inc) := bne_iff_ne.1 h9
    refine AW.cutM (2) st [(2, vL 2 0 (0)), (3, vL 3 0 (1)), (4, vB false), (9, vB true)] [(2, 0, [vI x.inc, vI x.rank, vI x.beat, vI x.ver, .string x.data]), (3, 1, [vI y.inc, vI y.rank, vI y.beat, vI y.ver, .string y.data])] ⟨rfl, rfl, rfl, rfl, trivial⟩ ⟨rfl, rfl, trivial⟩ rfl fun ρ0 ff => ?_
    refine cx_sound _ _ _ _ _ ?_
    exact ⟨.inl rfl, _, rfl, false, rfl, ⟨fun h => Bool.noConfusion h, fun h => absurd (by rw [h]) h9⟩, rfl⟩
theorem ac_laws_eqItem (x y : Itm) (st : St) : C 146 [.agg #[vI x.id, vI x.e.inc, vI x.e.rank, vI x.e.beat, vI x.e.ver, .string x.e.data], .agg #[vI y.id, vI y.e.inc, vI y.e.rank, vI y.e.beat, vI y.e.ver, .string y.e.data]] st (fun v s => ∃ b, v = .bool b ∧ (b = true ↔ x = y) ∧ s = st) := by
  refine AC.enterX (i := ⟨[2, 3], [2, 3, 5, 7, 10, 12], [0, 1, 2, 3, 4, 9, 15]⟩) [] Try.func146 rfl rfl (by kernel_rfl) (by kernel_rfl) Try.ntmps146 (Nat.le_of_ble_eq_true rfl) rfl ?_
  iterate 2 refine ⟨_, rfl, ?_⟩
  refine AW.cutM (2) st [(2, vL 2 0 (0)), (3, vL 3 0 (1)), (4, vB false)] [(2, 0, [vI x.id, vI x.e.inc, vI x.e.rank, vI x.e.beat, vI x.e.ver, .string x.e.data]), (3, 1, [vI y.id, vI y.e.inc, vI y.e.rank, vI y.e.beat, vI y.e.ver, .string y.e.data])] ⟨rfl, rfl, rfl, trivial⟩ ⟨rfl, rfl, trivial⟩ rfl fun ρ0 ff => ?_
  iterate 5 refine ⟨_, rfl, ?_⟩
  rintro (_|_) h1
  · replace h1 : x.id = y.id := bne_eq_false_iff_eq.1 h1
    refine AW.cutM (2) st [(2, vL 2 0 (0)), (3, vL 3 0 (1)), (4, vB false), (9, vB false)] [(2, 0, [vI x.id, vI x.e.inc, vI x.e.rank, vI x.e.beat, vI x.e.ver, .string x.e.data]), (3, 1, [vI y.id, vI y.e.inc, vI y.e.rank, vI y.e.beat, vI y.e.ver, .string y.e.data])] ⟨rfl, rfl, rfl, rfl, trivial⟩ ⟨rfl, rfl, trivial⟩ rfl fun ρ0 ff => ?_
    refine cx_sound _ _ _ _ _ ?_
    iterate 4 refine ⟨_, rfl, ?_⟩
    refine ⟨_, rfl, (ac_laws_eqEntry x.e y.e st).mono ?_⟩
    rintro _ st ⟨b, rfl, h2, rfl⟩
    rcases b with _|_
    · replace h2 := fun k => Bool.false_ne_true (h2.2 k)
      refine ⟨_, rfl, ?_⟩
      refine AW.cutM (2) st [(4, vB false), (15, vB true)] [] ⟨rfl, rfl, trivial⟩ trivial rfl fun ρ0 ff => ?_
      refine cx_sound _ _ _ _ _ ?_
      exact ⟨.inl rfl, _, rfl, false, rfl, ⟨fun h => Bool.noConfusion h, fun h => absurd (by rw [h]) h2⟩, rfl⟩
    · replace h2 := h2.1 rfl
      refine ⟨_, rfl, ?_⟩
      refine AW.cutM (2) st [(4, vB false), (15, vB false)] [] ⟨rfl, rfl, trivial⟩ trivial rfl fun ρ0 ff => ?_
      refine cx_sound _ _ _ _ _ ?_
      refine cx_sound _ _ _ _ _ ?_
      exact ⟨.inl rfl, _, rfl, true, rfl, ⟨fun _ => by cases x; cases y; simp only at h1 h2; rw [h1, h2], fun _ => rfl⟩, rfl⟩
  · replace h1 : ¬ (x.id = y.id) := bne_iff_ne.1 h1
    refine AW.cutM (2) st [(2, vL 2 0 (0)), (3, vL 3 0 (1)), (4, vB false), (9, vB true)] [(2, 0, [vI x.id, vI x.e.inc, vI x.e.rank, vI x.e.beat, vI x.e.ver, .string x.e.data]), (3, 1, [vI y.id, vI y.e.inc, vI y.e.rank, vI y.e.beat, vI y.e.ver, .string y.e.data])] ⟨rfl, rfl, rfl, rfl, trivial⟩ ⟨rfl, rfl, trivial⟩ rfl fun ρ0 ff => ?_
    refine cx_sound _ _ _ _ _ ?_
    exact ⟨.inl rfl, _, rfl, false, rfl, ⟨fun h => Bool.noConfusion h, fun h => absurd (by rw [h]) h1⟩, rfl⟩
theorem ac_laws_szIntS (p : Option Addr) (l : List Int) (n : Int) (st : St) (h0 : 0 ≤ n) (hn : n ≤ 1048576) (hm : l.length ≤ maxLen) : C 80 [vS p l.length, vI n] st (fun v s => ∃ r, v = vI r ∧ r ≤ n ∧ (0 ≤ r → r + (l.length : Int) = n) ∧ s = st) := by
  have hm : l.length ≤ 9223372036854775807 := hm
  refine AC.enterX (i := ⟨[], [], [0, 1, 4, 10]⟩) [] Try.func80 rfl rfl (by kernel_rfl) (by kernel_rfl) Try.ntmps80 (Nat.le_of_ble_eq_true rfl) rfl ?_
  refine AW.cut lo0 st [(0, vS p l.length), (1, vI n), (4, vI (0))] ⟨rfl, rfl, rfl, trivial⟩ fun ρ0 => ?_
  refine ⟨_, rfl, ?_⟩
  have e8 : IntKind.wrap .i64 (n - (l.length : Int)) = n - (l.length : Int) := wrap_i64 (by omega) (by omega)
  refine ⟨_, rfl, ?_⟩
  refine AW.cut lo0 st [(1, vI (n - (l.length : Int))), (4, vI (0))] ⟨congrArg (Value.int .i64) e8, rfl, trivial⟩ fun ρ0 => ?_
  refine ⟨_, rfl, ?_⟩
  rintro (_|_) h1
  · replace h1 : ¬ (n - (l.length : Int) < 0) := of_decide_eq_false h1
    refine AW.cut lo0 st [(1, vI (n - (l.length : Int))), (4, vI (0)), (10, vB false)] ⟨rfl, rfl, rfl, trivial⟩ fun ρ0 => ?_
    refine cx_sound _ _ _ _ _ ?_
    refine cx_sound _ _ _ _ _ ?_
    exact ⟨.inl rfl, _, rfl, _, rfl, by omega, fun _ => by omega, rfl⟩
  · replace h1 : n - (l.length : Int) < 0 := of_decide_eq_true h1
    refine AW.cut lo0 st [(1, vI (n - (l.length : Int))), (4, vI (0)), (10, vB true)] ⟨rfl, rfl, rfl, trivial⟩ fun ρ0 => ?_
    refine cx_sound _ _ _ _ _ ?_
    exact ⟨.inl rfl, _, rfl, -1, rfl, by omega, fun h => absurd h (by omega), rfl⟩
theorem ac_laws_szMarkS (p : Option Addr) (l : List Flr) (n : Int) (st : St) (h0 : 0 ≤ n) (hn : n ≤ 1048576) (hm : l.length ≤ maxLen) : C 81 [vS p l.length, vI n] st (fun v s => ∃ r, v = vI r ∧ r ≤ n ∧ (0 ≤ r → r + (l.length : Int) = n) ∧ s = st) := by
  have hm : l.length ≤ 9223372036854775807 := hm
  refine AC.enterX (i := ⟨[], [], [0, 1, 4, 10]⟩) [] Try.func81 rfl rfl (by kernel_rfl) (by kernel_rfl) Try.ntmps81 (Nat.le_of_ble_eq_true rfl) rfl ?_
  refine AW.cut lo0 st [(0, vS p l.length), (1, vI n), (4, vI (0))] ⟨rfl, rfl, rfl, trivial⟩ fun ρ0 => ?_
  refine ⟨_, rfl, ?_⟩
  have e8 : IntKind.wrap .i64 (n - (l.length : Int)) = n - (l.length : Int) := wrap_i64 (by omega) (by omega)
  refine ⟨_, rfl, ?_⟩
  refine AW.cut lo0 st [(1, vI (n - (l.length : Int))), (4, vI (0))] ⟨congrArg (Value.int .i64) e8, rfl, trivial⟩ fun ρ0 => ?_
  refine ⟨_, rfl, ?_⟩
  rintro (_|_) h1
  · replace h1 : ¬ (n - (l.length : Int) < 0) := of_decide_eq_false h1
    refine AW.cut lo0 st [(1, vI (n - (l.length : Int))), (4, vI (0)), (10, vB false)] ⟨rfl, rfl, rfl, trivial⟩ fun ρ0 => ?_
    refine cx_sound _ _ _ _ _ ?_
    refine cx_sound _ _ _ _ _ ?_
    exact ⟨.inl rfl, _, rfl, _, rfl, by omega, fun _ => by omega, rfl⟩
  · replace h1 : n - (l.length : Int) < 0 := of_decide_eq_true h1
    refine AW.cut lo0 st [(1, vI (n - (l.length : Int))), (4, vI (0)), (10, vB true)] ⟨rfl, rfl, rfl, trivial⟩ fun ρ0 => ?_
    refine cx_sound _ _ _ _ _ ?_
    exact ⟨.inl rfl, _, rfl, -1, rfl, by omega, fun h => absurd h (by omega), rfl⟩
theorem ac_laws_szFloorS (p : Option Addr) (l : List Flr) (n : Int) (st : St) (h0 : 0 ≤ n) (hn : n ≤ 1048576) (hm : l.length ≤ maxLen) : C 70 [vS p l.length, vI n] st (fun v s => ∃ r, v = vI r ∧ r ≤ n ∧ (0 ≤ r → r + (l.length : Int) = n) ∧ s = st) := by
  have hm : l.length ≤ 9223372036854775807 := hm
  refine AC.enterX (i := ⟨[], [], [0, 1, 4, 10]⟩) [] Try.func70 rfl rfl (by kernel_rfl) (by kernel_rfl) Try.ntmps70 (Nat.le_of_ble_eq_true rfl) rfl ?_
  refine AW.cut lo0 st [(0, vS p l.length), (1, vI n), (4, vI (0))] ⟨rfl, rfl, rfl, trivial⟩ fun ρ0 => ?_
  refine ⟨_, rfl, ?_⟩
  have e8 : IntKind.wrap .i64 (n - (l.length : Int)) = n - (l.length : Int) := wrap_i64 (by omega) (by omega)
  refine ⟨_, rfl, ?_⟩
  refine AW.cut lo0 st [(1, vI (n - (l.length : Int))), (4, vI (0))] ⟨congrArg (Value.int .i64) e8, rfl, trivial⟩ fun ρ0 => ?_
  refine ⟨_, rfl, ?_⟩
  rintro (_|_) h1
  · replace h1 : ¬ (n - (l.length : Int) < 0) := of_decide_eq_false h1
    refine AW.cut lo0 st [(1, vI (n - (l.length : Int))), (4, vI (0)), (10, vB false)] ⟨rfl, rfl, rfl, trivial⟩ fun ρ0 => ?_
    refine cx_sound _ _ _ _ _ ?_
    refine cx_sound _ _ _ _ _ ?_
    exact ⟨.inl rfl, _, rfl, _, rfl, by omega, fun _ => by omega, rfl⟩
  · replace h1 : n - (l.length : Int) < 0 := of_decide_eq_true h1
    refine AW.cut lo0 st [(1, vI (n - (l.length : Int))), (4, vI (0)), (10, vB true)] ⟨rfl, rfl, rfl, trivial⟩ fun ρ0 => ?_
    refine cx_sound _ _ _ _ _ ?_
    exact ⟨.inl rfl, _, rfl, -1, rfl, by omega, fun h => absurd h (by omega), rfl⟩
theorem ac_laws_toIntS (p : Option Addr) (l : List Int) (st : St) (hR : Rows st 1 fI p l) (hs : szOk l.length) : C 85 [vS p l.length] st (fun v s => ∃ q, v = vS q l.length ∧ OwnR s 1 fI q l ∧ Pres st s ∧ New st.next q) := by
  have hs : l.length ≤ 1048576 := hs
  refine AC.enterX (i := ⟨[], [], [0, 2, 3, 4, 11]⟩) [] Try.func85 rfl rfl (by kernel_rfl) (by kernel_rfl) Try.ntmps85 (Nat.le_of_ble_eq_true rfl) rfl ?_
  refine AW.cut lo0 st [(0, vS p l.length), (2, .slice none 0 0)] ⟨rfl, rfl, trivial⟩ fun ρ0 => ?_
  refine ⟨_, rfl, ?_⟩
  refine op_mkK (z := 1) (f := fI) (a := (0 : Int)) (b := 8) (i := l.length) rfl rfl rfl rfl rfl rfl rfl rfl rfl (Nat.le_of_ble_eq_true rfl) rfl rfl (by omega) (by omega) ?_
  intro q s1 hO hP hN
  refine cx_sound _ _ _ _ _ ?_
  refine AW.cut lo0 s1 [(0, vS p l.length), (2, .slice none 0 0), (3, vS q l.length), (4, vI (0))] ⟨rfl, rfl, rfl, rfl, trivial⟩ fun ρ0 => ?_
  refine AW.loop0 (fun i : Nat => [(0, vS p l.length), (3, vS q l.length), (4, vI (i : Int))]) (fun m (i : Nat) st' => m = l.length - i ∧ i ≤ l.length ∧ OwnR st' 1 fI q (l.take i ++ List.replicate (l.length - i) (0 : Int)) ∧ Pr q s1 st') 0 _ ⟨rfl, rfl, rfl, trivial⟩ rfl ⟨rfl, Nat.zero_le _, hO, Pr.refl _ _⟩ ?_
  rintro m i ρ0 st' ⟨rfl, hi, hO', hP'⟩
  have hP2 := hP'.pres hP hN
  iterate 2 refine ⟨_, rfl, ?_⟩
  rintro (_|_) h1
  · replace h1 : ¬ ((i : Int) < (l.length : Int)) := of_decide_eq_false h1
    refine AW.cut lo0 st' [(0, vS p l.length), (3, vS q l.length), (4, vI (i : Int)), (11, vB false)] ⟨rfl, rfl, rfl, rfl, trivial⟩ fun ρ0 => ?_
    refine cx_sound _ _ _ _ _ ?_
    refine cx_sound _ _ _ _ _ ?_
    have hil : i = l.length := by omega
    subst hil
    rw [List.take_length, Nat.sub_self, List.replicate_zero, List.append_nil] at hO'
    exact ⟨.inl rfl, _, rfl, q, rfl, hO', hP2, hN⟩
  · replace h1 : (i : Int) < (l.length : Int) := of_decide_eq_true h1
    refine AW.cut lo0 st' [(0, vS p l.length), (3, vS q l.length), (4, vI (i : Int)), (11, vB true)] ⟨rfl, rfl, rfl, rfl, trivial⟩ fun ρ0 => ?_
    have ⟨b1, o1, k1, x, hpe, hx, hm1, hc1⟩ := (hP2.rows hR).at (Int.ofNat_lt.1 h1)
    have hlen : i < (l.take i ++ List.replicate (l.length - i) (0 : Int)).length := by have := Int.ofNat_lt.1 h1; simp; omega
    have ⟨a, ha⟩ := hO'.some (by omega)
    refine cx_sound _ _ _ _ _ ?_
    refine ⟨_, op_idx (j := (i : Int)) (n := l.length) (q := ⟨b1, o1, none⟩) rfl (congrArg (fun u => vS u l.length) hpe) rfl rfl rfl (Int.natCast_nonneg _) h1, ?_⟩
    refine ⟨_, op_ldc (i := 0) rfl rfl rfl rfl hm1 hc1 rfl rfl, ?_⟩
    refine ⟨_, op_idx (j := (i : Int)) (n := l.length) (q := ⟨a, 0, none⟩) rfl (congrArg (fun u => vS u l.length) ha) rfl rfl rfl (Int.natCast_nonneg _) h1, ?_⟩
    refine op_put (st := st') (f := fI) (j := i) (l := l.take i ++ List.replicate (l.length - i) (0 : Int)) (y := x) (p := q) (d := 0 + i * 1) rfl rfl (Nat.zero_add _) rfl rfl fI_len rfl rfl hlen hO' ha ?_
    intro s5 hO5 hP5 hn5
    rw [fill_set hx] at hO5
    refine AW.cut lo0 s5 [(0, vS p l.length), (3, vS q l.length), (4, vI (i : Int)), (11, vB true)] ⟨rfl, rfl, rfl, rfl, trivial⟩ fun ρ0 => ?_
    have e1 : IntKind.wrap .i64 ((i : Int) + 1) = ((i + 1 : Nat) : Int) := wrap_i64 (by omega) (by omega)
    refine ⟨_, rfl, ?_⟩
    exact ⟨i + 1, l.length - (i + 1), by have := Int.ofNat_lt.1 h1; omega, ⟨rfl, rfl, congrArg (Value.int .i64) e1, trivial⟩, rfl, rfl, Int.ofNat_lt.1 h1, hO5, hP'.trans hP5⟩
theorem len_cFlr (x : Flr) : (cFlr x).length = 2 := rfl
theorem ac_laws_toMarkS (p : Option Addr) (l : List Flr) (st : St) (hR : Rows st 2 cFlr p l) (hs : szOk l.length) : C 86 [vS p l.length] st (fun v s => ∃ q, v = vS q l.length ∧ OwnR s 2 cFlr q l ∧ Pres st s ∧ New st.next q) := by
  have hs : l.length ≤ 1048576 := hs
  refine AC.enterX (i := ⟨[], [], [0, 2, 3, 4, 11]⟩) [] Try.func86 rfl rfl (by kernel_rfl) (by kernel_rfl) Try.ntmps86 (Nat.le_of_ble_eq_true rfl) rfl ?_
  refine AW.cut lo0 st [(0, vS p l.length), (2, .slice none 0 0)] ⟨rfl, rfl, trivial⟩ fun ρ0 => ?_
  refine ⟨_, rfl, ?_⟩
  refine op_mkK (z := 2) (f := cFlr) (a := zFlr) (b := 16) (i := l.length) rfl rfl rfl rfl rfl rfl rfl rfl rfl (Nat.le_of_ble_eq_true rfl) rfl rfl (by omega) (by omega) ?_
  intro q s1 hO hP hN
  refine cx_sound _ _ _ _ _ ?_
  refine AW.cut lo0 s1 [(0, vS p l.length), (2, .slice none 0 0), (3, vS q l.length), (4, vI (0))] ⟨rfl, rfl, rfl, rfl, trivial⟩ fun ρ0 => ?_
  refine AW.loop0 (fun i : Nat => [(0, vS p l.length), (3, vS q l.length), (4, vI (i : Int))]) (fun m (i : Nat) st' => m = l.length - i ∧ i ≤ l.length ∧ OwnR st' 2 cFlr q (l.take i ++ List.replicate (l.length - i) zFlr) ∧ Pr q s1 st') 0 _ ⟨rfl, rfl, rfl, trivial⟩ rfl ⟨rfl, Nat.zero_le _, hO, Pr.refl _ _⟩ ?_
  rintro m i ρ0 st' ⟨rfl, hi, hO', hP'⟩
  have hP2 := hP'.pres hP hN
  iterate 2 refine ⟨_, rfl, ?_⟩
  rintro (_|_) h1
  · replace h1 : ¬ ((i : Int) < (l.length : Int)) := of_decide_eq_false h1
    refine AW.cut lo0 st' [(0, vS p l.length), (3, vS q l.length), (4, vI (i : Int)), (11, vB false)] ⟨rfl, rfl, rfl, rfl, trivial⟩ fun ρ0 => ?_
    refine cx_sound _ _ _ _ _ ?_
    refine cx_sound _ _ _ _ _ ?_
    have hil : i = l.length := by omega
    subst hil
    rw [List.take_length, Nat.sub_self, List.replicate_zero, List.append_nil] at hO'
    exact ⟨.inl rfl, _, rfl, q, rfl, hO', hP2, hN⟩
  · replace h1 : (i : Int) < (l.length : Int) := of_decide_eq_true h1
    refine AW.cut lo0 st' [(0, vS p l.length), (3, vS q l.length), (4, vI (i : Int)), (11, vB true)] ⟨rfl, rfl, rfl, rfl, trivial⟩ fun ρ0 => ?_
    have ⟨b1, o1, k1, x, hpe, hx, hm1, hc1⟩ := (hP2.rows hR).at (Int.ofNat_lt.1 h1)
    have hlen : i < (l.take i ++ List.replicate (l.length - i) zFlr).length := by have := Int.ofNat_lt.1 h1; simp; omega
    have ⟨a, ha⟩ := hO'.some (by omega)
    refine cx_sound _ _ _ _ _ ?_
    refine ⟨_, op_idx (j := (i : Int)) (n := l.length) (q := ⟨b1, o1, none⟩) rfl (congrArg (fun u => vS u l.length) hpe) rfl rfl rfl (Int.natCast_nonneg _) h1, ?_⟩
    refine ⟨_, op_lda rfl rfl rfl rfl rfl hm1 hc1 rfl, ?_⟩
    refine ⟨_, rfl, (ac_laws_toMark x st').mono ?_⟩
    rintro _ st' ⟨rfl, rfl⟩
    refine ⟨_, op_idx (j := (i : Int)) (n := l.length) (q := ⟨a, 0, none⟩) rfl (congrArg (fun u => vS u l.length) ha) rfl rfl rfl (Int.natCast_nonneg _) h1, ?_⟩
    refine op_put (st := st') (f := cFlr) (j := i) (l := l.take i ++ List.replicate (l.length - i) zFlr) (y := x) (p := q) (d := 0 + i * 2) rfl rfl (Nat.zero_add _) rfl rfl len_cFlr rfl rfl hlen hO' ha ?_
    intro s5 hO5 hP5 hn5
    rw [fill_set hx] at hO5
    refine AW.cut lo0 s5 [(0, vS p l.length), (3, vS q l.length), (4, vI (i : Int)), (11, vB true)] ⟨rfl, rfl, rfl, rfl, trivial⟩ fun ρ0 => ?_
    have e1 : IntKind.wrap .i64 ((i : Int) + 1) = ((i + 1 : Nat) : Int) := wrap_i64 (by omega) (by omega)
    refine ⟨_, rfl, ?_⟩
    exact ⟨i + 1, l.length - (i + 1), by have := Int.ofNat_lt.1 h1; omega, ⟨rfl, rfl, congrArg (Value.int .i64) e1, trivial⟩, rfl, rfl, Int.ofNat_lt.1 h1, hO5, hP'.trans hP5⟩
theorem ac_laws_eqMarkS (p q : Option Addr) (a b : List Flr) (st : St) (hA : Rows st 2 cFlr p a) (hB : Rows st 2 cFlr q b) (hs : szOk a.length) : C 23 [vS p a.length, vS q b.length] st (fun v s => ∃ x, v = .bool x ∧ (x = true ↔ a = b) ∧ s = st) := by
  have hs : a.length ≤ 1048576 := hs
  refine AC.enterX (i := ⟨[], [], [0, 1, 4, 5, 10, 14, 26]⟩) [(6, [], [])] Try.func23 rfl rfl (by kernel_rfl) (by kernel_rfl) Try.ntmps23 (Nat.le_of_ble_eq_true rfl) rfl ?_
  refine AW.cut lo0 st [(0, vS p a.length), (1, vS q b.length), (4, vB false)] ⟨rfl, rfl, rfl, trivial⟩ fun ρ0 => ?_
  iterate 3 refine ⟨_, rfl, ?_⟩
  rintro (_|_) h1
  · replace h1 : (a.length : Int) = (b.length : Int) := bne_eq_false_iff_eq.1 h1
    refine AW.cut lo0 st [(0, vS p a.length), (1, vS q b.length), (4, vB false), (10, vB false)] ⟨rfl, rfl, rfl, rfl, trivial⟩ fun ρ0 => ?_
    refine cx_sound _ _ _ _ _ ?_
    refine AW.cut lo0 st [(0, vS p a.length), (1, vS q b.length), (4, vB false), (5, vI (0))] ⟨rfl, rfl, rfl, rfl, trivial⟩ fun ρ0 => ?_
    refine AW.loop0 (fun i : Nat => [(0, vS p a.length), (1, vS q b.length), (4, vB false), (5, vI (i : Int))]) (fun m (i : Nat) st' => m = a.length - i ∧ i ≤ a.length ∧ (∀ (j : Nat) x y, j < i → a[j]? = some x → b[j]? = some y → x = y) ∧ st = st') 0 _ ⟨rfl, rfl, rfl, rfl, trivial⟩ rfl ⟨rfl, Nat.zero_le _, fun j x y h => absurd h (Nat.not_lt_zero _), rfl⟩ ?_
    rintro m i ρ0 st' ⟨rfl, hi, heq, rfl⟩
    iterate 2 refine ⟨_, rfl, ?_⟩
    rintro (_|_) h2
    · replace h2 : ¬ ((i : Int) < (a.length : Int)) := of_decide_eq_false h2
      refine AW.cut lo0 st [(0, vS p a.length), (1, vS q b.length), (4, vB false), (5, vI (i : Int)), (14, vB false)] ⟨rfl, rfl, rfl, rfl, rfl, trivial⟩ fun ρ0 => ?_
      refine cx_sound _ _ _ _ _ ?_
      refine cx_sound _ _ _ _ _ ?_
      exact ⟨.inl rfl, _, rfl, true, rfl, ⟨fun _ => iff_lists (by omega) fun j x y hj hx hy => heq j x y (by omega) hx hy, fun _ => rfl⟩, rfl⟩
    · replace h2 : (i : Int) < (a.length : Int) := of_decide_eq_true h2
      refine AW.cut lo0 st [(0, vS p a.length), (1, vS q b.length), (4, vB false), (5, vI (i : Int)), (14, vB true)] ⟨rfl, rfl, rfl, rfl, rfl, trivial⟩ fun ρ0 => ?_
      have ⟨b1, o1, k1, x, hpe, hx, hm1, hc1⟩ := hA.at (Int.ofNat_lt.1 h2)
      have ⟨b2, o2, k2, y, hqe, hy, hm2, hc2⟩ := hB.at (j := i) (by have := Int.ofNat_lt.1 h2; omega)
      refine cx_sound _ _ _ _ _ ?_
      refine ⟨_, op_idx (j := (i : Int)) (n := a.length) (q := ⟨b1, o1, none⟩) rfl (congrArg (fun u => vS u a.length) hpe) rfl rfl rfl (Int.natCast_nonneg _) h2, ?_⟩
      refine ⟨_, op_lda rfl rfl rfl rfl rfl hm1 hc1 rfl, ?_⟩
      refine ⟨_, op_idx (j := (i : Int)) (n := b.length) (q := ⟨b2, o2, none⟩) rfl (congrArg (fun u => vS u b.length) hqe) rfl rfl rfl (Int.natCast_nonneg _) (h1 ▸ h2), ?_⟩
      refine ⟨_, op_lda rfl rfl rfl rfl rfl hm2 hc2 rfl, ?_⟩
      refine ⟨_, rfl, (ac_laws_eqMark x y st).mono ?_⟩
      rintro _ st ⟨c, rfl, h3, rfl⟩
      rcases c with _|_
      · replace h3 := fun k => Bool.false_ne_true (h3.2 k)
        refine ⟨_, rfl, ?_⟩
        refine AW.cut lo0 st [(0, vS p a.length), (1, vS q b.length), (4, vB false), (5, vI (i : Int)), (14, vB true), (26, vB true)] ⟨rfl, rfl, rfl, rfl, rfl, rfl, trivial⟩ fun ρ0 => ?_
        have e1 : IntKind.wrap .i64 ((i : Int) + 1) = ((i + 1 : Nat) : Int) := wrap_i64 (by omega) (by omega)
        refine cx_sound _ _ _ _ _ ?_
        exact ⟨.inl rfl, _, rfl, false, rfl, ⟨fun h => Bool.noConfusion h, fun h => absurd (by rw [h, hy] at hx; injection hx with hx; exact hx.symm) h3⟩, rfl⟩
      · replace h3 := h3.1 rfl
        refine ⟨_, rfl, ?_⟩
        refine AW.cut lo0 st [(0, vS p a.length), (1, vS q b.length), (4, vB false), (5, vI (i : Int)), (14, vB true), (26, vB false)] ⟨rfl, rfl, rfl, rfl, rfl, rfl, trivial⟩ fun ρ0 => ?_
        have e1 : IntKind.wrap .i64 ((i : Int) + 1) = ((i + 1 : Nat) : Int) := wrap_i64 (by omega) (by omega)
        refine cx_sound _ _ _ _ _ ?_
        refine ⟨_, rfl, ?_⟩
        refine ⟨i + 1, a.length - (i + 1), by have := Int.ofNat_lt.1 h2; omega, ⟨rfl, rfl, rfl, congrArg (Value.int .i64) e1, trivial⟩, rfl, rfl, Int.ofNat_lt.1 h2, fun j u v hj hu hv => ?_, rfl⟩
        rcases Nat.lt_or_ge j i with h | h
        · exact heq j u v h hu hv
        · obtain rfl : j = i := by omega
          rw [hx] at hu; rw [hy] at hv
          injection hu with hu; injection hv with hv
          rw [← hu, ← hv]; exact h3
  · replace h1 : ¬ ((a.length : Int) = (b.length : Int)) := bne_iff_ne.1 h1
    refine AW.cut lo0 st [(0, vS p a.length), (1, vS q b.length), (4, vB false), (10, vB true)] ⟨rfl, rfl, rfl, rfl, trivial⟩ fun ρ0 => ?_
    refine cx_sound _ _ _ _ _ ?_
    exact ⟨.inl rfl, _, rfl, false, rfl, ⟨fun h => Bool.noConfusion h, fun h => absurd (congrArg (fun l => (List.length l : Int)) h) h1⟩, rfl⟩
theorem ac_laws_toFloorS (p : Option Addr) (l : List Flr) (st : St) (hR : Rows st 2 cFlr p l) (hs : szOk l.length) : C 73 [vS p l.length] st (fun v s => ∃ q, v = vS q l.length ∧ OwnR s 2 cFlr q l ∧ Pres st s ∧ New st.next q) := by
  have hs : l.length ≤ 1048576 := hs
  refine AC.enterX (i := ⟨[], [], [0, 2, 3, 4, 11]⟩) [] Try.func73 rfl rfl (by kernel_rfl) (by kernel_rfl) Try.ntmps73 (Nat.le_of_ble_eq_true rfl) rfl ?_
  refine AW.cut lo0 st [(0, vS p l.length), (2, .slice none 0 0)] ⟨rfl, rfl, trivial⟩ fun ρ0 => ?_
  refine ⟨_, rfl, ?_⟩
  refine op_mkK (z := 2) (f := cFlr) (a := zFlr) (b := 16) (i := l.length) rfl rfl rfl rfl rfl rfl rfl rfl rfl (Nat.le_of_ble_eq_true rfl) rfl rfl (by omega) (by omega) ?_
  intro q s1 hO hP hN
  refine cx_sound _ _ _ _ _ ?_
  refine AW.cut lo0 s1 [(0, vS p l.length), (2, .slice none 0 0), (3, vS q l.length), (4, vI (0))] ⟨rfl, rfl, rfl, rfl, trivial⟩ fun ρ0 => ?_
  refine AW.loop0 (fun i : Nat => [(0, vS p l.length), (3, vS q l.length), (4, vI (i : Int))]) (fun m (i : Nat) st' => m = l.length - i ∧ i ≤ l.length ∧ OwnR st' 2 cFlr q (l.take i ++ List.replicate (l.length - i) zFlr) ∧ Pr q s1 st') 0 _ ⟨rfl, rfl, rfl, trivial⟩ rfl ⟨rfl, Nat.zero_le _, hO, Pr.refl _ _⟩ ?_
  rintro m i ρ0 st' ⟨rfl, hi, hO', hP'⟩
  have hP2 := hP'.pres hP hN
  iterate 2 refine ⟨_, rfl, ?_⟩
  rintro (_|_) h1
  · replace h1 : ¬ ((i : Int) < (l.length : Int)) := of_decide_eq_false h1
    refine AW.cut lo0 st' [(0, vS p l.length), (3, vS q l.length), (4, vI (i : Int)), (11, vB false)] ⟨rfl, rfl, rfl, rfl, trivial⟩ fun ρ0 => ?_
    refine cx_sound _ _ _ _ _ ?_
    refine cx_sound _ _ _ _ _ ?_
    have hil : i = l.length := by omega
    subst hil
    rw [List.take_length, Nat.sub_self, List.replicate_zero, List.append_nil] at hO'
    exact ⟨.inl rfl, _, rfl, q, rfl, hO', hP2, hN⟩
  · replace h1 : (i : Int) < (l.length : Int) := of_decide_eq_true h1
    refine AW.cut lo0 st' [(0, vS p l.length), (3, vS q l.length), (4, vI (i : Int)), (11, vB true)] ⟨rfl, rfl, rfl, rfl, trivial⟩ fun ρ0 => ?_
    have ⟨b1, o1, k1, x, hpe, hx, hm1, hc1⟩ := (hP2.rows hR).at (Int.ofNat_lt.1 h1)
    have hlen : i < (l.take i ++ List.replicate (l.length - i) zFlr).length := by have := Int.ofNat_lt.1 h1; simp; omega
    have ⟨a, ha⟩ := hO'.some (by omega)
    refine cx_sound _ _ _ _ _ ?_
    refine ⟨_, op_idx (j := (i : Int)) (n := l.length) (q := ⟨b1, o1, none⟩) rfl (congrArg (fun u => vS u l.length) hpe) rfl rfl rfl (Int.natCast_nonneg _) h1, ?_⟩
    refine ⟨_, op_lda rfl rfl rfl rfl rfl hm1 hc1 rfl, ?_⟩
    refine ⟨_, rfl, (ac_laws_toFloor x st').mono ?_⟩
    rintro _ st' ⟨rfl, rfl⟩
    refine ⟨_, op_idx (j := (i : Int)) (n := l.length) (q := ⟨a, 0, none⟩) rfl (congrArg (fun u => vS u l.length) ha) rfl rfl rfl (Int.natCast_nonneg _) h1, ?_⟩
    refine op_put (st := st') (f := cFlr) (j := i) (l := l.take i ++ List.replicate (l.length - i) zFlr) (y := x) (p := q) (d := 0 + i * 2) rfl rfl (Nat.zero_add _) rfl rfl len_cFlr rfl rfl hlen hO' ha ?_
    intro s5 hO5 hP5 hn5
    rw [fill_set hx] at hO5
    refine AW.cut lo0 s5 [(0, vS p l.length), (3, vS q l.length), (4, vI (i : Int)), (11, vB true)] ⟨rfl, rfl, rfl, rfl, trivial⟩ fun ρ0 => ?_
    have e1 : IntKind.wrap .i64 ((i : Int) + 1) = ((i + 1 : Nat) : Int) := wrap_i64 (by omega) (by omega)
    refine ⟨_, rfl, ?_⟩
    exact ⟨i + 1, l.length - (i + 1), by have := Int.ofNat_lt.1 h1; omega, ⟨rfl, rfl, congrArg (Value.int .i64) e1, trivial⟩, rfl, rfl, Int.ofNat_lt.1 h1, hO5, hP'.trans hP5⟩
theorem ac_laws_eqFloorS (p q : Option Addr) (a b : List Flr) (st : St) (hA : Rows st 2 cFlr p a) (hB : Rows st 2 cFlr q b) (hs : szOk a.length) : C 77 [vS p a.length, vS q b.length] st (fun v s => ∃ x, v = .bool x ∧ (x = true ↔ a = b) ∧ s = st) := by
  have hs : a.length ≤ 1048576 := hs
  refine AC.enterX (i := ⟨[], [], [0, 1, 4, 5, 10, 14, 26]⟩) [(6, [], [])] Try.func77 rfl rfl (by kernel_rfl) (by kernel_rfl) Try.ntmps77 (Nat.le_of_ble_eq_true rfl) rfl ?_
  refine AW.cut lo0 st [(0, vS p a.length), (1, vS q b.length), (4, vB false)] ⟨rfl, rfl, rfl, trivial⟩ fun ρ0 => ?_
  iterate 3 refine ⟨_, rfl, ?_⟩
  rintro (_|_) h1
  · replace h1 : (a.length : Int) = (b.length : Int) := bne_eq_false_iff_eq.1 h1
    refine AW.cut lo0 st [(0, vS p a.length), (1, vS q b.length), (4, vB false), (10, vB false)] ⟨rfl, rfl, rfl, rfl, trivial⟩ fun ρ0 => ?_
    refine cx_sound _ _ _ _ _ ?_
    refine AW.cut lo0 st [(0, vS p a.length), (1, vS q b.length), (4, vB false), (5, vI (0))] ⟨rfl, rfl, rfl, rfl, trivial⟩ fun ρ0 => ?_
    refine AW.loop0 (fun i : Nat => [(0, vS p a.length), (1, vS q b.length), (4, vB false), (5, vI (i : Int))]) (fun m (i : Nat) st' => m = a.length - i ∧ i ≤ a.length ∧ (∀ (j : Nat) x y, j < i → a[j]? = some x → b[j]? = some y → x = y) ∧ st = st') 0 _ ⟨rfl, rfl, rfl, rfl, trivial⟩ rfl ⟨rfl, Nat.zero_le _, fun j x y h => absurd h (Nat.not_lt_zero _), rfl⟩ ?_
    rintro m i ρ0 st' ⟨rfl, hi, heq, rfl⟩
    iterate 2 refine ⟨_, rfl, ?_⟩
    rintro (_|_) h2
    · replace h2 : ¬ ((i : Int) < (a.length : Int)) := of_decide_eq_false h2
      refine AW.cut lo0 st [(0, vS p a.length), (1, vS q b.length), (4, vB false), (5, vI (i : Int)), (14, vB false)] ⟨rfl, rfl, rfl, rfl, rfl, trivial⟩ fun ρ0 => ?_
      refine cx_sound _ _ _ _ _ ?_
      refine cx_sound _ _ _ _ _ ?_
      exact ⟨.inl rfl, _, rfl, true, rfl, ⟨fun _ => iff_lists (by omega) fun j x y hj hx hy => heq j x y (by omega) hx hy, fun _ => rfl⟩, rfl⟩
    · replace h2 : (i : Int) < (a.length : Int) := of_decide_eq_true h2
      refine AW.cut lo0 st [(0, vS p a.length), (1, vS q b.length), (4, vB false), (5, vI (i : Int)), (14, vB true)] ⟨rfl, rfl, rfl, rfl, rfl, trivial⟩ fun ρ0 => ?_
      have ⟨b1, o1, k1, x, hpe, hx, hm1, hc1⟩ := hA.at (Int.ofNat_lt.1 h2)
      have ⟨b2, o2, k2, y, hqe, hy, hm2, hc2⟩ := hB.at (j := i) (by have := Int.ofNat_lt.1 h2; omega)
      refine cx_sound _ _ _ _ _ ?_
      refine ⟨_, op_idx (j := (i : Int)) (n := a.length) (q := ⟨b1, o1, none⟩) rfl (congrArg (fun u => vS u a.length) hpe) rfl rfl rfl (Int.natCast_nonneg _) h2, ?_⟩
      refine ⟨_, op_lda rfl rfl rfl rfl rfl hm1 hc1 rfl, ?_⟩
      refine ⟨_, op_idx (j := (i : Int)) (n := b.length) (q := ⟨b2, o2, none⟩) rfl (congrArg (fun u => vS u b.length) hqe) rfl rfl rfl (Int.natCast_nonneg _) (h1 ▸ h2), ?_⟩
      refine ⟨_, op_lda rfl rfl rfl rfl rfl hm2 hc2 rfl, ?_⟩
      refine ⟨_, rfl, (ac_laws_eqFloor x y st).mono ?_⟩
      rintro _ st ⟨c, rfl, h3, rfl⟩
      rcases c with _|_
      · replace h3 := fun k => Bool.false_ne_true (h3.2 k)
        refine ⟨_, rfl, ?_⟩
        refine AW.cut lo0 st [(0, vS p a.length), (1, vS q b.length), (4, vB false), (5, vI (i : Int)), (14, vB true), (26, vB true)] ⟨rfl, rfl, rfl, rfl, rfl, rfl, trivial⟩ fun ρ0 => ?_
        have e1 : IntKind.wrap .i64 ((i : Int) + 1) = ((i + 1 : Nat) : Int) := wrap_i64 (by omega) (by omega)
        refine cx_sound _ _ _ _ _ ?_
        exact ⟨.inl rfl, _, rfl, false, rfl, ⟨fun h => Bool.noConfusion h, fun h => absurd (by rw [h, hy] at hx; injection hx with hx; exact hx.symm) h3⟩, rfl⟩
      · replace h3 := h3.1 rfl
        refine ⟨_, rfl, ?_⟩
        refine AW.cut lo0 st [(0, vS p a.length), (1, vS q b.length), (4, vB false), (5, vI (i : Int)), (14, vB true), (26, vB false)] ⟨rfl, rfl, rfl, rfl, rfl, rfl, trivial⟩ fun ρ0 => ?_
        have e1 : IntKind.wrap .i64 ((i : Int) + 1) = ((i + 1 : Nat) : Int) := wrap_i64 (by omega) (by omega)
        refine cx_sound _ _ _ _ _ ?_
        refine ⟨_, rfl, ?_⟩
        refine ⟨i + 1, a.length - (i + 1), by have := Int.ofNat_lt.1 h2; omega, ⟨rfl, rfl, rfl, congrArg (Value.int .i64) e1, trivial⟩, rfl, rfl, Int.ofNat_lt.1 h2, fun j u v hj hu hv => ?_, rfl⟩
        rcases Nat.lt_or_ge j i with h | h
        · exact heq j u v h hu hv
        · obtain rfl : j = i := by omega
          rw [hx] at hu; rw [hy] at hv
          injection hu with hu; injection hv with hv
          rw [← hu, ← hv]; exact h3
  · replace h1 : ¬ ((a.length : Int) = (b.length : Int)) := bne_iff_ne.1 h1
    refine AW.cut lo0 st [(0, vS p a.length), (1, vS q b.length), (4, vB false), (10, vB true)] ⟨rfl, rfl, rfl, rfl, trivial⟩ fun ρ0 => ?_
    refine cx_sound _ _ _ _ _ ?_
    exact ⟨.inl rfl, _, rfl, false, rfl, ⟨fun h => Bool.noConfusion h, fun h => absurd (congrArg (fun l => (List.length l : Int)) h) h1⟩, rfl⟩
theorem len_cItm (x : Itm) : (cItm x).length = 6 := rfl
theorem ac_laws_toItemS (p : Option Addr) (l : List Itm) (st : St) (hR : Rows st 6 cItm p l) (hs : szOk l.length) : C 72 [vS p l.length] st (fun v s => ∃ q, v = vS q l.length ∧ OwnR s 6 cItm q l ∧ Pres st s ∧ New st.next q) := by
  have hs : l.length ≤ 1048576 := hs
  refine AC.enterX (i := ⟨[], [], [0, 2, 3, 4, 11]⟩) [] Try.func72 rfl rfl (by kernel_rfl) (by kernel_rfl) Try.ntmps72 (Nat.le_of_ble_eq_true rfl) rfl ?_
  refine AW.cut lo0 st [(0, vS p l.length), (2, .slice none 0 0)] ⟨rfl, rfl, trivial⟩ fun ρ0 => ?_
  refine ⟨_, rfl, ?_⟩
  refine op_mkK (z := 6) (f := cItm) (a := zItm) (b := 56) (i := l.length) rfl rfl rfl rfl rfl rfl rfl rfl rfl (Nat.le_of_ble_eq_true rfl) rfl rfl (by omega) (by omega) ?_
  intro q s1 hO hP hN
  refine cx_sound _ _ _ _ _ ?_
  refine AW.cut lo0 s1 [(0, vS p l.length), (2, .slice none 0 0), (3, vS q l.length), (4, vI (0))] ⟨rfl, rfl, rfl, rfl, trivial⟩ fun ρ0 => ?_
  refine AW.loop0 (fun i : Nat => [(0, vS p l.length), (3, vS q l.length), (4, vI (i : Int))]) (fun m (i : Nat) st' => m = l.length - i ∧ i ≤ l.length ∧ OwnR st' 6 cItm q (l.take i ++ List.replicate (l.length - i) zItm) ∧ Pr q s1 st') 0 _ ⟨rfl, rfl, rfl, trivial⟩ rfl ⟨rfl, Nat.zero_le _, hO, Pr.refl _ _⟩ ?_
  rintro m i ρ0 st' ⟨rfl, hi, hO', hP'⟩
  have hP2 := hP'.pres hP hN
  iterate 2 refine ⟨_, rfl, ?_⟩
  rintro (_|_) h1
  · replace h1 : ¬ ((i : Int) < (l.length : Int)) := of_decide_eq_false h1
    refine AW.cut lo0 st' [(0, vS p l.length), (3, vS q l.length), (4, vI (i : Int)), (11, vB false)] ⟨rfl, rfl, rfl, rfl, trivial⟩ fun ρ0 => ?_
    refine cx_sound _ _ _ _ _ ?_
    refine cx_sound _ _ _ _ _ ?_
    have hil : i = l.length := by omega
    subst hil
    rw [List.take_length, Nat.sub_self, List.replicate_zero, List.append_nil] at hO'
    exact ⟨.inl rfl, _, rfl, q, rfl, hO', hP2, hN⟩
  · replace h1 : (i : Int) < (l.length : Int) := of_decide_eq_true h1
    refine AW.cut lo0 st' [(0, vS p l.length), (3, vS q l.length), (4, vI (i : Int)), (11, vB true)] ⟨rfl, rfl, rfl, rfl, trivial⟩ fun ρ0 => ?_
    have ⟨b1, o1, k1, x, hpe, hx, hm1, hc1⟩ := (hP2.rows hR).at (Int.ofNat_lt.1 h1)
    have hlen : i < (l.take i ++ List.replicate (l.length - i) zItm).length := by have := Int.ofNat_lt.1 h1; simp; omega
    have ⟨a, ha⟩ := hO'.some (by omega)
    refine cx_sound _ _ _ _ _ ?_
    refine ⟨_, op_idx (j := (i : Int)) (n := l.length) (q := ⟨b1, o1, none⟩) rfl (congrArg (fun u => vS u l.length) hpe) rfl rfl rfl (Int.natCast_nonneg _) h1, ?_⟩
    refine ⟨_, op_lda rfl rfl rfl rfl rfl hm1 hc1 rfl, ?_⟩
    refine ⟨_, rfl, (ac_laws_toItem x st').mono ?_⟩
    rintro _ st' ⟨rfl, rfl⟩
    refine ⟨_, op_idx (j := (i : Int)) (n := l.length) (q := ⟨a, 0, none⟩) rfl (congrArg (fun u => vS u l.length) ha) rfl rfl rfl (Int.natCast_nonneg _) h1, ?_⟩
    refine op_put (st := st') (f := cItm) (j := i) (l := l.take i ++ List.replicate (l.length - i) zItm) (y := x) (p := q) (d := 0 + i * 6) rfl rfl (Nat.zero_add _) rfl rfl len_cItm rfl rfl hlen hO' ha ?_
    intro s5 hO5 hP5 hn5
    rw [fill_set hx] at hO5
    refine AW.cut lo0 s5 [(0, vS p l.length), (3, vS q l.length), (4, vI (i : Int)), (11, vB true)] ⟨rfl, rfl, rfl, rfl, trivial⟩ fun ρ0 => ?_
    have e1 : IntKind.wrap .i64 ((i : Int) + 1) = ((i + 1 : Nat) : Int) := wrap_i64 (by omega) (by omega)
    refine ⟨_, rfl, ?_⟩
    exact ⟨i + 1, l.length - (i + 1), by have := Int.ofNat_lt.1 h1; omega, ⟨rfl, rfl, congrArg (Value.int .i64) e1, trivial⟩, rfl, rfl, Int.ofNat_lt.1 h1, hO5, hP'.trans hP5⟩
theorem ac_laws_eqItemS (p q : Option Addr) (a b : List Itm) (st : St) (hA : Rows st 6 cItm p a) (hB : Rows st 6 cItm q b) (hs : szOk a.length) : C 76 [vS p a.length, vS q b.length] st (fun v s => ∃ x, v = .bool x ∧ (x = true ↔ a = b) ∧ s = st) := by
  have hs : a.length ≤ 1048576 := hs
  refine AC.enterX (i := ⟨[], [], [0, 1, 4, 5, 10, 14, 26]⟩) [(6, [], [])] Try.func76 rfl rfl (by kernel_rfl) (by kernel_rfl) Try.ntmps76 (Nat.le_of_ble_eq_true rfl) rfl ?_
  refine AW.cut lo0 st [(0, vS p a.length), (1, vS q b.length), (4, vB false)] ⟨rfl, rfl, rfl, trivial⟩ fun ρ0 => ?_
  iterate 3 refine ⟨_, rfl, ?_⟩
  rintro (_|_) h1
  · replace h1 : (a.length : Int) = (b.length : Int) := bne_eq_false_iff_eq.1 h1
    refine AW.cut lo0 st [(0, vS p a.length), (1, vS q b.length), (4, vB false), (10, vB false)] ⟨rfl, rfl, rfl, rfl, trivial⟩ fun ρ0 => ?_
    refine cx_sound _ _ _ _ _ ?_
    refine AW.cut lo0 st [(0, vS p a.length), (1, vS q b.length), (4, vB false), (5, vI (0))] ⟨rfl, rfl, rfl, rfl, trivial⟩ fun ρ0 => ?_
    refine AW.loop0 (fun i : Nat => [(0, vS p a.length), (1, vS q b.length), (4, vB false), (5, vI (i : Int))]) (fun m (i : Nat) st' => m = a.length - i ∧ i ≤ a.length ∧ (∀ (j : Nat) x y, j < i → a[j]? = some x → b[j]? = some y → x = y) ∧ st = st') 0 _ ⟨rfl, rfl, rfl, rfl, trivial⟩ rfl ⟨rfl, Nat.zero_le _, fun j x y h => absurd h (Nat.not_lt_zero _), rfl⟩ ?_
    rintro m i ρ0 st' ⟨rfl, hi, heq, rfl⟩
    iterate 2 refine ⟨_, rfl, ?_⟩
    rintro (_|_) h2
    · replace h2 : ¬ ((i : Int) < (a.length : Int)) := of_decide_eq_false h2
      refine AW.cut lo0 st [(0, vS p a.length), (1, vS q b.length), (4, vB false), (5, vI (i : Int)), (14, vB false)] ⟨rfl, rfl, rfl, rfl, rfl, trivial⟩ fun ρ0 => ?_
      refine cx_sound _ _ _ _ _ ?_
      refine cx_sound _ _ _ _ _ ?_
      exact ⟨.inl rfl, _, rfl, true, rfl, ⟨fun _ => iff_lists (by omega) fun j x y hj hx hy => heq j x y (by omega) hx hy, fun _ => rfl⟩, rfl⟩
    · replace h2 : (i : Int) < (a.length : Int) := of_decide_eq_true h2
      refine AW.cut lo0 st [(0, vS p a.length), (1, vS q b.length), (4, vB false), (5, vI (i : Int)), (14, vB true)] ⟨rfl, rfl, rfl, rfl, rfl, trivial⟩ fun ρ0 => ?_
      have ⟨b1, o1, k1, x, hpe, hx, hm1, hc1⟩ := hA.at (Int.ofNat_lt.1 h2)
      have ⟨b2, o2, k2, y, hqe, hy, hm2, hc2⟩ := hB.at (j := i) (by have := Int.ofNat_lt.1 h2; omega)
      refine cx_sound _ _ _ _ _ ?_
      refine ⟨_, op_idx (j := (i : Int)) (n := a.length) (q := ⟨b1, o1, none⟩) rfl (congrArg (fun u => vS u a.length) hpe) rfl rfl rfl (Int.natCast_nonneg _) h2, ?_⟩
      refine ⟨_, op_lda rfl rfl rfl rfl rfl hm1 hc1 rfl, ?_⟩
      refine ⟨_, op_idx (j := (i : Int)) (n := b.length) (q := ⟨b2, o2, none⟩) rfl (congrArg (fun u => vS u b.length) hqe) rfl rfl rfl (Int.natCast_nonneg _) (h1 ▸ h2), ?_⟩
      refine ⟨_, op_lda rfl rfl rfl rfl rfl hm2 hc2 rfl, ?_⟩
      refine ⟨_, rfl, (ac_laws_eqItem x y st).mono ?_⟩
      rintro _ st ⟨c, rfl, h3, rfl⟩
      rcases c with _|_
      · replace h3 := fun k => Bool.false_ne_true (h3.2 k)
        refine ⟨_, rfl, ?_⟩
        refine AW.cut lo0 st [(0, vS p a.length), (1, vS q b.length), (4, vB false), (5, vI (i : Int)), (14, vB true), (26, vB true)] ⟨rfl, rfl, rfl, rfl, rfl, rfl, trivial⟩ fun ρ0 => ?_
        have e1 : IntKind.wrap .i64 ((i : Int) + 1) = ((i + 1 : Nat) : Int) := wrap_i64 (by omega) (by omega)
        refine cx_sound _ _ _ _ _ ?_
        exact ⟨.inl rfl, _, rfl, false, rfl, ⟨fun h => Bool.noConfusion h, fun h => absurd (by rw [h, hy] at hx; injection hx with hx; exact hx.symm) h3⟩, rfl⟩
      · replace h3 := h3.1 rfl
        refine ⟨_, rfl, ?_⟩
        refine AW.cut lo0 st [(0, vS p a.length), (1, vS q b.length), (4, vB false), (5, vI (i : Int)), (14, vB true), (26, vB false)] ⟨rfl, rfl, rfl, rfl, rfl, rfl, trivial⟩ fun ρ0 => ?_
        have e1 : IntKind.wrap .i64 ((i : Int) + 1) = ((i + 1 : Nat) : Int) := wrap_i64 (by omega) (by omega)
        refine cx_sound _ _ _ _ _ ?_
        refine ⟨_, rfl, ?_⟩
        refine ⟨i + 1, a.length - (i + 1), by have := Int.ofNat_lt.1 h2; omega, ⟨rfl, rfl, rfl, congrArg (Value.int .i64) e1, trivial⟩, rfl, rfl, Int.ofNat_lt.1 h2, fun j u v hj hu hv => ?_, rfl⟩
        rcases Nat.lt_or_ge j i with h | h
        · exact heq j u v h hu hv
        · obtain rfl : j = i := by omega
          rw [hx] at hu; rw [hy] at hv
          injection hu with hu; injection hv with hv
          rw [← hu, ← hv]; exact h3
  · replace h1 : ¬ ((a.length : Int) = (b.length : Int)) := bne_iff_ne.1 h1
    refine AW.cut lo0 st [(0, vS p a.length), (1, vS q b.length), (4, vB false), (10, vB true)] ⟨rfl, rfl, rfl, rfl, trivial⟩ fun ρ0 => ?_
    refine cx_sound _ _ _ _ _ ?_
    exact ⟨.inl rfl, _, rfl, false, rfl, ⟨fun h => Bool.noConfusion h, fun h => absurd (congrArg (fun l => (List.length l : Int)) h) h1⟩, rfl⟩
end Go.Proofs.Ytopcpcoklgepnaa.AM
