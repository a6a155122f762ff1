/-
  No cell of these rows narrows 'for every input' (looked for: loops, veiled, ifaces, maps, wideKeys, modest, calm, conditions, laid).
  DERIVED. THE GIVEN ROWS OF THIS SEAT. 11 by the template 'for every input the law returns true; each argument reads behind the call as it read before'; 0 by the template 'total and deterministic' (their statements: YtopakkndacbbpaaTotals.lean).
  GIVEN WITH THE SEED: the statements are not yours to turn. If you find one false, say at which input.
  Laid BY PROGRAM, IN A SANDBOX (cutbox-rows.mjs): the forced cells as the released guide's own fill.sh prints them over the translation f7869c014312d933… (all of the seat's roots in one cut). By AI agents, Wed Nov 11 2026. No macro, syntax, notation, axiom, sorry.
-/
import Derived.Test.YtopakkndacbbpaaChecked
import GoSem.Claim
import GoSem.ClaimJoined
import GoSem.ClaimMapViews
import Derived.JoinedTies
import Derived.KernelRfl
namespace Go.Proofs.Ytopakkndacbbpaa
/- THE CELL 'sum', in the pinned program and in every row, IS THE sha256 OF THE DUMP (.gsa) THAT YtopakkndacbbpaaProg.lean LOADS. Nothing in Lean hashes anything: it is a label: what it is worth is what the hold of that sum in a sandbox is worth. -/
noncomputable def Try.pinned : Pinned := { name := "ytopakkndacbbpaa", sum := "f7869c014312d9339d4bc3f78a596280d98466060b5926b73d7bd23f40cc1b02", checked := Try.checked }
namespace Rows
def none {H : Type} : Left H := { results := [], args := [] }

/-- 'laws.FnExactVecOk': WHATEVER THE INPUT: true; the input reads as it did. -/
def fnExactVecOkSpec : ChangeSpec := { name := "fnExactVecOk", fn := fun _ => fun
  | [d1, d2] => { results := [.lit (.bool true)], args := [d1, d2] }
  | _ => none }
def fnExactVecOkRow : OpenClaim := { program := "ytopakkndacbbpaa", sum := "f7869c014312d9339d4bc3f78a596280d98466060b5926b73d7bd23f40cc1b02", func := "loop.example/g00487/laws.FnExactVecOk", spec := "fnExactVecOk", apart := false }
def FnExactVecOkSaid : Prop := fnExactVecOkRow.holds Try.pinned (OpenSpec.ofChange fnExactVecOkSpec)

/-- ITS FALSE NEIGHBOUR: 'it returns false'. Refute it at one input. -/
def fnExactVecOkWrong : ChangeSpec := { name := "fnExactVecOk", fn := fun _ => fun
  | [d1, d2] => { results := [.lit (.bool false)], args := [d1, d2] }
  | _ => none }
def FnExactVecOkWrongFalsely : Prop := fnExactVecOkRow.holds Try.pinned (OpenSpec.ofChange fnExactVecOkWrong)

/-- 'laws.FnExactVecLeq': WHATEVER THE INPUT: true; the input reads as it did. -/
def fnExactVecLeqSpec : ChangeSpec := { name := "fnExactVecLeq", fn := fun _ => fun
  | [d1, d2] => { results := [.lit (.bool true)], args := [d1, d2] }
  | _ => none }
def fnExactVecLeqRow : OpenClaim := { program := "ytopakkndacbbpaa", sum := "f7869c014312d9339d4bc3f78a596280d98466060b5926b73d7bd23f40cc1b02", func := "loop.example/g00487/laws.FnExactVecLeq", spec := "fnExactVecLeq", apart := false }
def FnExactVecLeqSaid : Prop := fnExactVecLeqRow.holds Try.pinned (OpenSpec.ofChange fnExactVecLeqSpec)

/-- ITS FALSE NEIGHBOUR: 'it returns false'. Refute it at one input. -/
def fnExactVecLeqWrong : ChangeSpec := { name := "fnExactVecLeq", fn := fun _ => fun
  | [d1, d2] => { results := [.lit (.bool false)], args := [d1, d2] }
  | _ => none }
def FnExactVecLeqWrongFalsely : Prop := fnExactVecLeqRow.holds Try.pinned (OpenSpec.ofChange fnExactVecLeqWrong)

/-- 'laws.FnExactVecRaise': WHATEVER THE INPUT: true; the input reads as it did. -/
def fnExactVecRaiseSpec : ChangeSpec := { name := "fnExactVecRaise", fn := fun _ => fun
  | [d1, d2, d3] => { results := [.lit (.bool true)], args := [d1, d2, d3] }
  | _ => none }
def fnExactVecRaiseRow : OpenClaim := { program := "ytopakkndacbbpaa", sum := "f7869c014312d9339d4bc3f78a596280d98466060b5926b73d7bd23f40cc1b02", func := "loop.example/g00487/laws.FnExactVecRaise", spec := "fnExactVecRaise", apart := false }
def FnExactVecRaiseSaid : Prop := fnExactVecRaiseRow.holds Try.pinned (OpenSpec.ofChange fnExactVecRaiseSpec)

/-- ITS FALSE NEIGHBOUR: 'it returns false'. Refute it at one input. -/
def fnExactVecRaiseWrong : ChangeSpec := { name := "fnExactVecRaise", fn := fun _ => fun
  | [d1, d2, d3] => { results := [.lit (.bool false)], args := [d1, d2, d3] }
  | _ => none }
def FnExactVecRaiseWrongFalsely : Prop := fnExactVecRaiseRow.holds Try.pinned (OpenSpec.ofChange fnExactVecRaiseWrong)

/-- 'laws.FnExactMarksOk': WHATEVER THE INPUT: true; the input reads as it did. -/
def fnExactMarksOkSpec : ChangeSpec := { name := "fnExactMarksOk", fn := fun _ => fun
  | [d] => { results := [.lit (.bool true)], args := [d] }
  | _ => none }
def fnExactMarksOkRow : OpenClaim := { program := "ytopakkndacbbpaa", sum := "f7869c014312d9339d4bc3f78a596280d98466060b5926b73d7bd23f40cc1b02", func := "loop.example/g00487/laws.FnExactMarksOk", spec := "fnExactMarksOk", apart := false }
def FnExactMarksOkSaid : Prop := fnExactMarksOkRow.holds Try.pinned (OpenSpec.ofChange fnExactMarksOkSpec)

/-- ITS FALSE NEIGHBOUR: 'it returns false'. Refute it at one input. -/
def fnExactMarksOkWrong : ChangeSpec := { name := "fnExactMarksOk", fn := fun _ => fun
  | [d] => { results := [.lit (.bool false)], args := [d] }
  | _ => none }
def FnExactMarksOkWrongFalsely : Prop := fnExactMarksOkRow.holds Try.pinned (OpenSpec.ofChange fnExactMarksOkWrong)

/-- 'laws.FnExactVecMax': WHATEVER THE INPUT: true; the input reads as it did. -/
def fnExactVecMaxSpec : ChangeSpec := { name := "fnExactVecMax", fn := fun _ => fun
  | [d1, d2] => { results := [.lit (.bool true)], args := [d1, d2] }
  | _ => none }
def fnExactVecMaxRow : OpenClaim := { program := "ytopakkndacbbpaa", sum := "f7869c014312d9339d4bc3f78a596280d98466060b5926b73d7bd23f40cc1b02", func := "loop.example/g00487/laws.FnExactVecMax", spec := "fnExactVecMax", apart := false }
def FnExactVecMaxSaid : Prop := fnExactVecMaxRow.holds Try.pinned (OpenSpec.ofChange fnExactVecMaxSpec)

/-- ITS FALSE NEIGHBOUR: 'it returns false'. Refute it at one input. -/
def fnExactVecMaxWrong : ChangeSpec := { name := "fnExactVecMax", fn := fun _ => fun
  | [d1, d2] => { results := [.lit (.bool false)], args := [d1, d2] }
  | _ => none }
def FnExactVecMaxWrongFalsely : Prop := fnExactVecMaxRow.holds Try.pinned (OpenSpec.ofChange fnExactVecMaxWrong)

/-- 'laws.FnExactTableNew': WHATEVER THE INPUT: true; the input reads as it did. -/
def fnExactTableNewSpec : ChangeSpec := { name := "fnExactTableNew", fn := fun _ => fun
  | [d] => { results := [.lit (.bool true)], args := [d] }
  | _ => none }
def fnExactTableNewRow : OpenClaim := { program := "ytopakkndacbbpaa", sum := "f7869c014312d9339d4bc3f78a596280d98466060b5926b73d7bd23f40cc1b02", func := "loop.example/g00487/laws.FnExactTableNew", spec := "fnExactTableNew", apart := false }
def FnExactTableNewSaid : Prop := fnExactTableNewRow.holds Try.pinned (OpenSpec.ofChange fnExactTableNewSpec)

/-- ITS FALSE NEIGHBOUR: 'it returns false'. Refute it at one input. -/
def fnExactTableNewWrong : ChangeSpec := { name := "fnExactTableNew", fn := fun _ => fun
  | [d] => { results := [.lit (.bool false)], args := [d] }
  | _ => none }
def FnExactTableNewWrongFalsely : Prop := fnExactTableNewRow.holds Try.pinned (OpenSpec.ofChange fnExactTableNewWrong)

/-- 'laws.FnExactCommon': WHATEVER THE INPUT: true; the input reads as it did. -/
def fnExactCommonSpec : ChangeSpec := { name := "fnExactCommon", fn := fun _ => fun
  | [d1, d2] => { results := [.lit (.bool true)], args := [d1, d2] }
  | _ => none }
def fnExactCommonRow : OpenClaim := { program := "ytopakkndacbbpaa", sum := "f7869c014312d9339d4bc3f78a596280d98466060b5926b73d7bd23f40cc1b02", func := "loop.example/g00487/laws.FnExactCommon", spec := "fnExactCommon", apart := false }
def FnExactCommonSaid : Prop := fnExactCommonRow.holds Try.pinned (OpenSpec.ofChange fnExactCommonSpec)

/-- ITS FALSE NEIGHBOUR: 'it returns false'. Refute it at one input. -/
def fnExactCommonWrong : ChangeSpec := { name := "fnExactCommon", fn := fun _ => fun
  | [d1, d2] => { results := [.lit (.bool false)], args := [d1, d2] }
  | _ => none }
def FnExactCommonWrongFalsely : Prop := fnExactCommonRow.holds Try.pinned (OpenSpec.ofChange fnExactCommonWrong)

/-- 'laws.FnExactTableOk': WHATEVER THE INPUT: true; the input reads as it did. -/
def fnExactTableOkSpec : ChangeSpec := { name := "fnExactTableOk", fn := fun _ => fun
  | [d1, d2] => { results := [.lit (.bool true)], args := [d1, d2] }
  | _ => none }
def fnExactTableOkRow : OpenClaim := { program := "ytopakkndacbbpaa", sum := "f7869c014312d9339d4bc3f78a596280d98466060b5926b73d7bd23f40cc1b02", func := "loop.example/g00487/laws.FnExactTableOk", spec := "fnExactTableOk", apart := false }
def FnExactTableOkSaid : Prop := fnExactTableOkRow.holds Try.pinned (OpenSpec.ofChange fnExactTableOkSpec)

/-- ITS FALSE NEIGHBOUR: 'it returns false'. Refute it at one input. -/
def fnExactTableOkWrong : ChangeSpec := { name := "fnExactTableOk", fn := fun _ => fun
  | [d1, d2] => { results := [.lit (.bool false)], args := [d1, d2] }
  | _ => none }
def FnExactTableOkWrongFalsely : Prop := fnExactTableOkRow.holds Try.pinned (OpenSpec.ofChange fnExactTableOkWrong)

/-- 'laws.FnVectors': WHATEVER THE INPUT: true; the input reads as it did. -/
def fnVectorsSpec : ChangeSpec := { name := "fnVectors", fn := fun _ => fun
  | [d] => { results := [.lit (.bool true)], args := [d] }
  | _ => none }
def fnVectorsRow : OpenClaim := { program := "ytopakkndacbbpaa", sum := "f7869c014312d9339d4bc3f78a596280d98466060b5926b73d7bd23f40cc1b02", func := "loop.example/g00487/laws.FnVectors", spec := "fnVectors", apart := false }
def FnVectorsSaid : Prop := fnVectorsRow.holds Try.pinned (OpenSpec.ofChange fnVectorsSpec)

/-- ITS FALSE NEIGHBOUR: 'it returns false'. Refute it at one input. -/
def fnVectorsWrong : ChangeSpec := { name := "fnVectors", fn := fun _ => fun
  | [d] => { results := [.lit (.bool false)], args := [d] }
  | _ => none }
def FnVectorsWrongFalsely : Prop := fnVectorsRow.holds Try.pinned (OpenSpec.ofChange fnVectorsWrong)

/-- 'laws.FnExactTableAdd': WHATEVER THE INPUT: true; the input reads as it did. -/
def fnExactTableAddSpec : ChangeSpec := { name := "fnExactTableAdd", fn := fun _ => fun
  | [d1, d2, d3] => { results := [.lit (.bool true)], args := [d1, d2, d3] }
  | _ => none }
def fnExactTableAddRow : OpenClaim := { program := "ytopakkndacbbpaa", sum := "f7869c014312d9339d4bc3f78a596280d98466060b5926b73d7bd23f40cc1b02", func := "loop.example/g00487/laws.FnExactTableAdd", spec := "fnExactTableAdd", apart := false }
def FnExactTableAddSaid : Prop := fnExactTableAddRow.holds Try.pinned (OpenSpec.ofChange fnExactTableAddSpec)

/-- ITS FALSE NEIGHBOUR: 'it returns false'. Refute it at one input. -/
def fnExactTableAddWrong : ChangeSpec := { name := "fnExactTableAdd", fn := fun _ => fun
  | [d1, d2, d3] => { results := [.lit (.bool false)], args := [d1, d2, d3] }
  | _ => none }
def FnExactTableAddWrongFalsely : Prop := fnExactTableAddRow.holds Try.pinned (OpenSpec.ofChange fnExactTableAddWrong)

/-- 'laws.FnExactLogOk': WHATEVER THE INPUT: true; the input reads as it did. -/
def fnExactLogOkSpec : ChangeSpec := { name := "fnExactLogOk", fn := fun _ => fun
  | [d] => { results := [.lit (.bool true)], args := [d] }
  | _ => none }
def fnExactLogOkRow : OpenClaim := { program := "ytopakkndacbbpaa", sum := "f7869c014312d9339d4bc3f78a596280d98466060b5926b73d7bd23f40cc1b02", func := "loop.example/g00487/laws.FnExactLogOk", spec := "fnExactLogOk", apart := false }
def FnExactLogOkSaid : Prop := fnExactLogOkRow.holds Try.pinned (OpenSpec.ofChange fnExactLogOkSpec)

/-- ITS FALSE NEIGHBOUR: 'it returns false'. Refute it at one input. -/
def fnExactLogOkWrong : ChangeSpec := { name := "fnExactLogOk", fn := fun _ => fun
  | [d] => { results := [.lit (.bool false)], args := [d] }
  | _ => none }
def FnExactLogOkWrongFalsely : Prop := fnExactLogOkRow.holds Try.pinned (OpenSpec.ofChange fnExactLogOkWrong)

/- THE SECOND FORM. 'bulk': how many values and letters a reading holds, each counted each time it is reached (what is shared counts as often as it is met; a slice's spare places count too). A statement '..UptoSaid' is the law's where the arguments, and the package variables that the reading takes, are together of bulk at most 1048576: NARROWER than '..Said'. Prove '..Said' where nothing that the law and all that it calls make is longer than what came in: it says more and counts as full. Else prove '..UptoSaid'. A law counts once. -/
mutual
def uptoBulk {H : Type} : DataW H → Nat
  | .lit (.string bytes) => bytes.length + 1
  | .lit _ => 1
  | .nil => 1
  | .ptr d => uptoBulk d + 1
  | .slice elems spare => uptoBulkAll elems + uptoBulkAll spare + 1
  | .agg parts => uptoBulkAll parts + 1
  | .iface _ d => uptoBulk d + 1
  | .map entries => uptoBulkEntries entries + 1
  | .held _ => 1
def uptoBulkAll {H : Type} : List (DataW H) → Nat
  | [] => 0
  | d :: r => uptoBulk d + uptoBulkAll r
def uptoBulkEntries {H : Type} : List (Lit × DataW H) → Nat
  | [] => 0
  | x :: r => uptoBulkEntry x + uptoBulkEntries r
def uptoBulkEntry {H : Type} : Lit × DataW H → Nat
  | (.string bytes, d) => bytes.length + uptoBulk d + 1
  | (_, d) => uptoBulk d + 1
 end
def uptoSmall : (H : Type) → List (DataW H) → Bool := fun _ ds => decide (uptoBulkAll ds ≤ 1048576)
def OpenSpec.upto (s : _root_.Go.ChangeSpec) : _root_.Go.OpenSpec := { _root_.Go.OpenSpec.ofChange s with cond := some uptoSmall }

/-- 'laws.FnExactVecOk', WHERE WHAT IT READS IS OF BULK AT MOST 1048576: true; the input reads as it did. -/
def fnExactVecOkUptoRow : OpenClaim := { program := "ytopakkndacbbpaa", sum := "f7869c014312d9339d4bc3f78a596280d98466060b5926b73d7bd23f40cc1b02", func := "loop.example/g00487/laws.FnExactVecOk", spec := "fnExactVecOk", apart := false, narrowed := true }
def FnExactVecOkUptoSaid : Prop := fnExactVecOkUptoRow.holds Try.pinned (OpenSpec.upto fnExactVecOkSpec)

/-- 'laws.FnExactVecLeq', WHERE WHAT IT READS IS OF BULK AT MOST 1048576: true; the input reads as it did. -/
def fnExactVecLeqUptoRow : OpenClaim := { program := "ytopakkndacbbpaa", sum := "f7869c014312d9339d4bc3f78a596280d98466060b5926b73d7bd23f40cc1b02", func := "loop.example/g00487/laws.FnExactVecLeq", spec := "fnExactVecLeq", apart := false, narrowed := true }
def FnExactVecLeqUptoSaid : Prop := fnExactVecLeqUptoRow.holds Try.pinned (OpenSpec.upto fnExactVecLeqSpec)

/-- 'laws.FnExactVecRaise', WHERE WHAT IT READS IS OF BULK AT MOST 1048576: true; the input reads as it did. -/
def fnExactVecRaiseUptoRow : OpenClaim := { program := "ytopakkndacbbpaa", sum := "f7869c014312d9339d4bc3f78a596280d98466060b5926b73d7bd23f40cc1b02", func := "loop.example/g00487/laws.FnExactVecRaise", spec := "fnExactVecRaise", apart := false, narrowed := true }
def FnExactVecRaiseUptoSaid : Prop := fnExactVecRaiseUptoRow.holds Try.pinned (OpenSpec.upto fnExactVecRaiseSpec)

/-- 'laws.FnExactMarksOk', WHERE WHAT IT READS IS OF BULK AT MOST 1048576: true; the input reads as it did. -/
def fnExactMarksOkUptoRow : OpenClaim := { program := "ytopakkndacbbpaa", sum := "f7869c014312d9339d4bc3f78a596280d98466060b5926b73d7bd23f40cc1b02", func := "loop.example/g00487/laws.FnExactMarksOk", spec := "fnExactMarksOk", apart := false, narrowed := true }
def FnExactMarksOkUptoSaid : Prop := fnExactMarksOkUptoRow.holds Try.pinned (OpenSpec.upto fnExactMarksOkSpec)

/-- 'laws.FnExactVecMax', WHERE WHAT IT READS IS OF BULK AT MOST 1048576: true; the input reads as it did. -/
def fnExactVecMaxUptoRow : OpenClaim := { program := "ytopakkndacbbpaa", sum := "f7869c014312d9339d4bc3f78a596280d98466060b5926b73d7bd23f40cc1b02", func := "loop.example/g00487/laws.FnExactVecMax", spec := "fnExactVecMax", apart := false, narrowed := true }
def FnExactVecMaxUptoSaid : Prop := fnExactVecMaxUptoRow.holds Try.pinned (OpenSpec.upto fnExactVecMaxSpec)

/-- 'laws.FnExactTableNew', WHERE WHAT IT READS IS OF BULK AT MOST 1048576: true; the input reads as it did. -/
def fnExactTableNewUptoRow : OpenClaim := { program := "ytopakkndacbbpaa", sum := "f7869c014312d9339d4bc3f78a596280d98466060b5926b73d7bd23f40cc1b02", func := "loop.example/g00487/laws.FnExactTableNew", spec := "fnExactTableNew", apart := false, narrowed := true }
def FnExactTableNewUptoSaid : Prop := fnExactTableNewUptoRow.holds Try.pinned (OpenSpec.upto fnExactTableNewSpec)

/-- 'laws.FnExactCommon', WHERE WHAT IT READS IS OF BULK AT MOST 1048576: true; the input reads as it did. -/
def fnExactCommonUptoRow : OpenClaim := { program := "ytopakkndacbbpaa", sum := "f7869c014312d9339d4bc3f78a596280d98466060b5926b73d7bd23f40cc1b02", func := "loop.example/g00487/laws.FnExactCommon", spec := "fnExactCommon", apart := false, narrowed := true }
def FnExactCommonUptoSaid : Prop := fnExactCommonUptoRow.holds Try.pinned (OpenSpec.upto fnExactCommonSpec)

/-- 'laws.FnExactTableOk', WHERE WHAT IT READS IS OF BULK AT MOST 1048576: true; the input reads as it did. -/
def fnExactTableOkUptoRow : OpenClaim := { program := "ytopakkndacbbpaa", sum := "f7869c014312d9339d4bc3f78a596280d98466060b5926b73d7bd23f40cc1b02", func := "loop.example/g00487/laws.FnExactTableOk", spec := "fnExactTableOk", apart := false, narrowed := true }
def FnExactTableOkUptoSaid : Prop := fnExactTableOkUptoRow.holds Try.pinned (OpenSpec.upto fnExactTableOkSpec)

/-- 'laws.FnVectors', WHERE WHAT IT READS IS OF BULK AT MOST 1048576: true; the input reads as it did. -/
def fnVectorsUptoRow : OpenClaim := { program := "ytopakkndacbbpaa", sum := "f7869c014312d9339d4bc3f78a596280d98466060b5926b73d7bd23f40cc1b02", func := "loop.example/g00487/laws.FnVectors", spec := "fnVectors", apart := false, narrowed := true }
def FnVectorsUptoSaid : Prop := fnVectorsUptoRow.holds Try.pinned (OpenSpec.upto fnVectorsSpec)

/-- 'laws.FnExactTableAdd', WHERE WHAT IT READS IS OF BULK AT MOST 1048576: true; the input reads as it did. -/
def fnExactTableAddUptoRow : OpenClaim := { program := "ytopakkndacbbpaa", sum := "f7869c014312d9339d4bc3f78a596280d98466060b5926b73d7bd23f40cc1b02", func := "loop.example/g00487/laws.FnExactTableAdd", spec := "fnExactTableAdd", apart := false, narrowed := true }
def FnExactTableAddUptoSaid : Prop := fnExactTableAddUptoRow.holds Try.pinned (OpenSpec.upto fnExactTableAddSpec)

/-- 'laws.FnExactLogOk', WHERE WHAT IT READS IS OF BULK AT MOST 1048576: true; the input reads as it did. -/
def fnExactLogOkUptoRow : OpenClaim := { program := "ytopakkndacbbpaa", sum := "f7869c014312d9339d4bc3f78a596280d98466060b5926b73d7bd23f40cc1b02", func := "loop.example/g00487/laws.FnExactLogOk", spec := "fnExactLogOk", apart := false, narrowed := true }
def FnExactLogOkUptoSaid : Prop := fnExactLogOkUptoRow.holds Try.pinned (OpenSpec.upto fnExactLogOkSpec)

end Rows
end Go.Proofs.Ytopakkndacbbpaa
