/- FnMessages: messages round-trip, and parsed bytes are the encoding, for every input. -/
import Derived.Test.YteabadoaeadcgaaXef
import Derived.Test.YteabadoaeadcgaaRows
import Derived.WalkKit
import Derived.ProofKit
import Derived.OpenShut
import Derived.ShutString
import Derived.ChangeOld
import Derived.Below
import Derived.SizedLaws
namespace Go.Proofs.Yteabadoaeadcgaa.fnMessages
open Go Go.Proofs Go.ChangeShapes Go.WideShapes Go.ChangeAt Go.RowKit
open Go.ChangeMaps (open_string shut_string)
set_option linter.unusedVariables false
theorem own : ownKnob Try.prog.godebug = none := by kernel_rfl
theorem laidOut : laidOutB Try.prog = true := by kernel_rfl
set_option maxRecDepth 100000 in
theorem lifted (os : Os) (started : os.Started) (H : Type) (enc : TypeId × Value → H) :
    ReturnsInHanded {} Try.checked os 12 .any (Rows.fnMessagesSpec.pre6 enc Try.prog Try.f12 Rows.fnMessagesRow.domain false) (Rows.fnMessagesSpec.post enc Try.prog Try.f12 false true false false) := by
  refine returnsInHanded_of_change_sized (C := Try.checked) own started (by kernel_rfl) Try.func12
    (ChangeSpec.witness6 (enc := enc) (C := Try.checked) false ⟨#[], #[.slice none 0 0], []⟩ 8 (by kernel_rfl) (by kernel_rfl) (by kernel_rfl) (by kernel_rfl)) ?_
  intro W base args ds gs before hval0 hW hcnd hsz0 _
  have hval : ∀ (j : Nat) t v, Try.f12.params[j]? = some t → args[j]? = some v → Value.okWide Try.prog W .any base t v := hval0
  have hW' := hW
  obtain ⟨p, q, hA0, hV, rfl, hfz, hnd⟩ := hW
  have hA : DataW.TrodAll enc Try.prog W 0 (fun _ => true) true Try.f12.params.toList args.toList ds p := hA0
  rw [Try.params12] at hA hval
  obtain ⟨v0, vs0, d0, ds0, q0, z0, hargs, rfl, rfl, h0, r0⟩ := trodAll_cons hA
  obtain ⟨rfl, rfl, rfl⟩ := trodAll_nil r0
  obtain rfl : args = #[v0] := by cases args; simp_all
  obtain ⟨rfl, rfl⟩ := trodVars_none hV
  obtain ⟨a0, len0, cap0, rfl⟩ := okWide_slice Try.underlying22 (hval 0 22 v0 rfl rfl)
  have k0 := h0
  obtain ⟨fuel0, hf0⟩ := h0
  have lt0 : ∀ x ∈ q0, x.block < W.heap.size := DataW.trod_lt fuel0 _ _ _ hf0
  obtain ⟨L0, us0, G0, S0, T0⟩ := AM.opens (G := Try.prog.globals.size) 12 22 fuel0 _ _ (by kernel_rfl) hf0 _ AM.Good.nil
  obtain ⟨u0, rfl, R0⟩ := AM.sim_one S0
  obtain ⟨p0, l0, e0, I0, M0⟩ := AM.wt_bytes T0
  obtain rfl : u0 = _ := by injection e0
  refine (AM.law_run AM.ext0_ok (cs := [.slice a0 len0 cap0]) G0 (AM.ac_laws_FnMessages p0 l0 _ I0) ⟨AM.VR_of0' R0, trivial⟩ Try.func12 rfl).mono fun e W' ⟨he, bel⟩ => ?_
  subst he
  exact ⟨_, rfl, _, _, _, [], _, [], hW', trodAll_mk1 (shut_bool Try.underlying4 _), (trodAll_cons_mk (Below.trod laidOut (by kernel_rfl) (of_decide_eq_true (by kernel_rfl)) k0 bel lt0) trodAll_mk0), rfl, bel.frame _, fun h => by cases h⟩
theorem over : Rows.fnMessagesRow.holds Try.pinned (OpenSpec.ofChange Rows.fnMessagesSpec) :=
  OpenClaim.holds_of_wide 12 Try.f12 rfl rfl rfl rfl rfl rfl rfl ⟨rfl, rfl, rfl, rfl, rfl⟩ rfl rfl rfl rfl rfl (by kernel_rfl) Try.func12 (by kernel_rfl)
    (of_decide_eq_true (by kernel_rfl)) (by unfold Func.isWrapper; first | (rw [if_pos (by decide +kernel)]; kernel_rfl) | (rw [if_neg (by decide +kernel)]; exact ⟨rfl, rfl⟩))
    (fun os started H enc _ => lifted os started H enc)
theorem proved : Rows.FnMessagesSaid := over
#print axioms proved
end Go.Proofs.Yteabadoaeadcgaa.fnMessages
namespace Go.Proofs.Yteabadoaeadcgaa
/-- The row, under a short name, for the claim. -/
theorem fnMessages_holds : Rows.FnMessagesSaid := fnMessages.proved
end Go.Proofs.Yteabadoaeadcgaa
