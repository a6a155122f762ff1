/- The given statement FnExactTableAddSaid is proved: at each table, int and list of marks the law's function returns true. No condition beyond the row's own. The frame began as the print's row text, turned by hand. -/
import Derived.Test.YtopakkndacbbpaaRows
import Derived.Test.YtopakkndacbbpaaF13
import Derived.WalkKit
import Derived.ProofKit
import Derived.OpenShut
import Derived.ShutString
import Derived.ChangeOld
import Derived.Below
import Derived.SizedLaws
namespace Go.Proofs.Ytopakkndacbbpaa.fnExactTableAdd
open Go Go.Proofs Go.ChangeShapes Go.WideShapes Go.ChangeAt Go.RowKit
open Go.ChangeMaps (open_string shut_string)
set_option linter.unusedVariables false
theorem own : ownKnob Try.prog.godebug = none := by kernel_rfl
theorem laidOut : laidOutB Try.prog = true := by kernel_rfl
set_option maxRecDepth 100000 in
theorem lifted (os : Os) (started : os.Started) (H : Type) (enc : TypeId × Value → H) :
    ReturnsInHanded {} Try.checked os 12 .any (Rows.fnExactTableAddSpec.pre6 enc Try.prog Try.f12 Rows.fnExactTableAddRow.domain false) (Rows.fnExactTableAddSpec.post enc Try.prog Try.f12 false true false false) := by
  refine returnsInHanded_of_change_sized (C := Try.checked) own started (by kernel_rfl) Try.func12
    (ChangeSpec.witness6 (enc := enc) (C := Try.checked) false ⟨#[], #[.slice none 0 0, .int .i64 0, .slice none 0 0], []⟩ 8 (by kernel_rfl) (by kernel_rfl) (by kernel_rfl) (by kernel_rfl)) ?_
  intro W base args ds gs before hval0 hW hcnd hsz0 _
  have hval : ∀ (j : Nat) t v, Try.f12.params[j]? = some t → args[j]? = some v → Value.okWide Try.prog W .any base t v := hval0
  have hW' := hW
  obtain ⟨p, q, hA0, hV, rfl, hfz, hnd⟩ := hW
  have hA : DataW.TrodAll enc Try.prog W 0 (fun _ => true) true Try.f12.params.toList args.toList ds p := hA0
  rw [Try.params12] at hA hval
  obtain ⟨v0, vs0, d0, ds0, q0, z0, hargs, rfl, rfl, h0, r0⟩ := trodAll_cons hA
  obtain ⟨v1, vs1, d1, ds1, q1, z1, rfl, rfl, rfl, h1, r1⟩ := trodAll_cons r0
  obtain ⟨v2, vs2, d2, ds2, q2, z2, rfl, rfl, rfl, h2, r2⟩ := trodAll_cons r1
  obtain ⟨rfl, rfl, rfl⟩ := trodAll_nil r2
  obtain rfl : args = #[v0, v1, v2] := by cases args; simp_all
  obtain ⟨rfl, rfl⟩ := trodVars_none hV
  obtain ⟨a0, len0, cap0, rfl⟩ := okWide_slice Try.underlying37 (hval 0 37 v0 rfl rfl)
  have k0 := h0
  obtain ⟨fuel0, hf0⟩ := h0
  have lt0 : ∀ x ∈ q0, x.block < W.heap.size := DataW.trod_lt fuel0 _ _ _ hf0
  obtain ⟨L0, us0, G0, S0, T0⟩ := AM.opens (G := Try.prog.globals.size) 12 37 fuel0 _ _ (by kernel_rfl) hf0 _ AM.Good.nil
  have k1 := h1
  obtain ⟨a1, rfl, rfl, rfl, w1⟩ := open_int Try.underlying3 (hval 1 3 v1 rfl rfl) h1
  have lt1 : ∀ x ∈ ([] : List MemPlace), x.block < W.heap.size := fun x hx => by cases hx
  obtain ⟨a2, len2, cap2, rfl⟩ := okWide_slice Try.underlying29 (hval 2 29 v2 rfl rfl)
  have k2 := h2
  obtain ⟨fuel2, hf2⟩ := h2
  have lt2 : ∀ x ∈ q2, x.block < W.heap.size := DataW.trod_lt fuel2 _ _ _ hf2
  obtain ⟨L2, us2, G2, S2, T2⟩ := AM.opens (G := Try.prog.globals.size) 12 29 fuel2 _ _ (by kernel_rfl) hf2 _ G0
  have S0 := S0.mono (M := L2)
  have T0 := T0.mono (M := L2)
  obtain ⟨u0, rfl, R0⟩ := AM.sim_one S0
  obtain ⟨p0, l0, e0, I0, M0⟩ := AM.wt_table T0
  obtain rfl : u0 = _ := by injection e0
  obtain ⟨u2, rfl, R2⟩ := AM.sim_one S2
  obtain ⟨p2, l2, e2, I2, M2⟩ := AM.wt_marks T2
  obtain rfl : u2 = _ := by injection e2
  refine (AM.law_run (cs := [.slice a0 len0 cap0, .int .i64 a1, .slice a2 len2 cap2]) G2 (AM.ac_laws_FnExactTableAdd p0 l0 a1 p2 l2 _ I0 M0 w1 I2 M2) ⟨AM.VR_of0' R0, ⟨rfl, ⟨AM.VR_of0' R2, trivial⟩⟩⟩ Try.func12 rfl).mono fun e W' ⟨he, bel⟩ => ?_
  subst he
  exact ⟨_, rfl, _, _, _, [], _, [], hW', trodAll_mk1 (shut_bool Try.underlying4 _), (trodAll_cons_mk (Below.trod laidOut (by kernel_rfl) (of_decide_eq_true (by kernel_rfl)) k0 bel lt0) (trodAll_cons_mk (Below.trod laidOut (by kernel_rfl) (of_decide_eq_true (by kernel_rfl)) k1 bel lt1) (trodAll_cons_mk (Below.trod laidOut (by kernel_rfl) (of_decide_eq_true (by kernel_rfl)) k2 bel lt2) trodAll_mk0))), rfl, bel.frame _, fun h => by cases h⟩
theorem over : Rows.fnExactTableAddRow.holds Try.pinned (OpenSpec.ofChange Rows.fnExactTableAddSpec) :=
  OpenClaim.holds_of_wide 12 Try.f12 rfl rfl rfl rfl rfl rfl rfl ⟨rfl, rfl, rfl, rfl, rfl⟩ rfl rfl rfl rfl rfl (by kernel_rfl) Try.func12 (by kernel_rfl)
    (of_decide_eq_true (by kernel_rfl)) (by unfold Func.isWrapper; first | (rw [if_pos (by decide +kernel)]; kernel_rfl) | (rw [if_neg (by decide +kernel)]; exact ⟨rfl, rfl⟩))
    (fun os started H enc _ => lifted os started H enc)
theorem proved : Rows.FnExactTableAddSaid := over
#print axioms proved
end Go.Proofs.Ytopakkndacbbpaa.fnExactTableAdd
namespace Go.Proofs.Ytopakkndacbbpaa
/-- The row, under a short name, for the claim. -/
theorem fnExactTableAdd_holds : Rows.FnExactTableAddSaid := fnExactTableAdd.proved
end Go.Proofs.Ytopakkndacbbpaa
