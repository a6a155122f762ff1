/-
  No cell of these rows narrows 'for every input' (looked for: loops, veiled, ifaces, maps, wideKeys, modest, calm, conditions, laid).
  DERIVED. THE GIVEN ROWS OF THIS SEAT. 7 by the template 'for every input the law returns true; each argument reads behind the call as it read before'; 0 by the template 'total and deterministic' (their statements: YtbogbnjnjjhnbaaGreatTotals.lean).
  GIVEN WITH THE SEED: the statements are not yours to turn. If you find one false, say at which input.
  Laid BY PROGRAM, IN A SANDBOX (cutbox-rows.mjs): the forced cells as the released guide's own fill.sh prints them over the translation 641ce2f2ba5800ac… (all of the seat's roots in one cut). By AI agents, Wed Nov 11 2026. No macro, syntax, notation, axiom, sorry.
-/
import Derived.Test.YtbogbnjnjjhnbaaGreatChecked
import GoSem.Claim
import GoSem.ClaimJoined
import GoSem.ClaimMapViews
import Derived.JoinedTies
import Derived.KernelRfl
namespace Go.Proofs.YtbogbnjnjjhnbaaGreat
/- THE CELL 'sum', in the pinned program and in every row, IS THE sha256 OF THE DUMP (.gsa) THAT YtbogbnjnjjhnbaaGreatProg.lean LOADS. Nothing in Lean hashes anything: it is a label: what it is worth is what the hold of that sum in a sandbox is worth. -/
noncomputable def Tryz.pinned : Pinned := { name := "ytbogbnjnjjhnbaagreat", sum := "641ce2f2ba5800ac9c1282bad1bb0a9be27a8fc33852f4494e5b6fbe8ca16fa6", checked := Tryz.checked }
namespace Rows
def none {H : Type} : Left H := { results := [], args := [] }

/-- 'laws.FnExactSuspect': WHATEVER THE INPUT: true; the input reads as it did. -/
def fnExactSuspectSpec : ChangeSpec := { name := "fnExactSuspect", fn := fun _ => fun
  | [d1, d2] => { results := [.lit (.bool true)], args := [d1, d2] }
  | _ => none }
def fnExactSuspectRow : OpenClaim := { program := "ytbogbnjnjjhnbaagreat", sum := "641ce2f2ba5800ac9c1282bad1bb0a9be27a8fc33852f4494e5b6fbe8ca16fa6", func := "loop.example/g00487/laws.FnExactSuspect", spec := "fnExactSuspect", apart := false }
def FnExactSuspectSaid : Prop := fnExactSuspectRow.holds Tryz.pinned (OpenSpec.ofChange fnExactSuspectSpec)

/-- ITS FALSE NEIGHBOUR: 'it returns false'. Refute it at one input. -/
def fnExactSuspectWrong : ChangeSpec := { name := "fnExactSuspect", fn := fun _ => fun
  | [d1, d2] => { results := [.lit (.bool false)], args := [d1, d2] }
  | _ => none }
def FnExactSuspectWrongFalsely : Prop := fnExactSuspectRow.holds Tryz.pinned (OpenSpec.ofChange fnExactSuspectWrong)

/-- 'laws.FnExactSuspects': WHATEVER THE INPUT: true; the input reads as it did. -/
def fnExactSuspectsSpec : ChangeSpec := { name := "fnExactSuspects", fn := fun _ => fun
  | [d] => { results := [.lit (.bool true)], args := [d] }
  | _ => none }
def fnExactSuspectsRow : OpenClaim := { program := "ytbogbnjnjjhnbaagreat", sum := "641ce2f2ba5800ac9c1282bad1bb0a9be27a8fc33852f4494e5b6fbe8ca16fa6", func := "loop.example/g00487/laws.FnExactSuspects", spec := "fnExactSuspects", apart := false }
def FnExactSuspectsSaid : Prop := fnExactSuspectsRow.holds Tryz.pinned (OpenSpec.ofChange fnExactSuspectsSpec)

/-- ITS FALSE NEIGHBOUR: 'it returns false'. Refute it at one input. -/
def fnExactSuspectsWrong : ChangeSpec := { name := "fnExactSuspects", fn := fun _ => fun
  | [d] => { results := [.lit (.bool false)], args := [d] }
  | _ => none }
def FnExactSuspectsWrongFalsely : Prop := fnExactSuspectsRow.holds Tryz.pinned (OpenSpec.ofChange fnExactSuspectsWrong)

/-- 'laws.FnExactShip': WHATEVER THE INPUT: true; the input reads as it did. -/
def fnExactShipSpec : ChangeSpec := { name := "fnExactShip", fn := fun _ => fun
  | [d1, d2] => { results := [.lit (.bool true)], args := [d1, d2] }
  | _ => none }
def fnExactShipRow : OpenClaim := { program := "ytbogbnjnjjhnbaagreat", sum := "641ce2f2ba5800ac9c1282bad1bb0a9be27a8fc33852f4494e5b6fbe8ca16fa6", func := "loop.example/g00487/laws.FnExactShip", spec := "fnExactShip", inPlace := ["internal/bytealg.abigen_runtime_cmpstring"], apart := false }
def FnExactShipSaid : Prop := fnExactShipRow.holds Tryz.pinned (OpenSpec.ofChange fnExactShipSpec)

/-- ITS FALSE NEIGHBOUR: 'it returns false'. Refute it at one input. -/
def fnExactShipWrong : ChangeSpec := { name := "fnExactShip", fn := fun _ => fun
  | [d1, d2] => { results := [.lit (.bool false)], args := [d1, d2] }
  | _ => none }
def FnExactShipWrongFalsely : Prop := fnExactShipRow.holds Tryz.pinned (OpenSpec.ofChange fnExactShipWrong)

/-- 'laws.FnExactTick': WHATEVER THE INPUT: true; the input reads as it did. -/
def fnExactTickSpec : ChangeSpec := { name := "fnExactTick", fn := fun _ => fun
  | [d] => { results := [.lit (.bool true)], args := [d] }
  | _ => none }
def fnExactTickRow : OpenClaim := { program := "ytbogbnjnjjhnbaagreat", sum := "641ce2f2ba5800ac9c1282bad1bb0a9be27a8fc33852f4494e5b6fbe8ca16fa6", func := "loop.example/g00487/laws.FnExactTick", spec := "fnExactTick", apart := false }
def FnExactTickSaid : Prop := fnExactTickRow.holds Tryz.pinned (OpenSpec.ofChange fnExactTickSpec)

/-- ITS FALSE NEIGHBOUR: 'it returns false'. Refute it at one input. -/
def fnExactTickWrong : ChangeSpec := { name := "fnExactTick", fn := fun _ => fun
  | [d] => { results := [.lit (.bool false)], args := [d] }
  | _ => none }
def FnExactTickWrongFalsely : Prop := fnExactTickRow.holds Tryz.pinned (OpenSpec.ofChange fnExactTickWrong)

/-- 'laws.FnExactPush': WHATEVER THE INPUT: true; the input reads as it did. -/
def fnExactPushSpec : ChangeSpec := { name := "fnExactPush", fn := fun _ => fun
  | [d1, d2] => { results := [.lit (.bool true)], args := [d1, d2] }
  | _ => none }
def fnExactPushRow : OpenClaim := { program := "ytbogbnjnjjhnbaagreat", sum := "641ce2f2ba5800ac9c1282bad1bb0a9be27a8fc33852f4494e5b6fbe8ca16fa6", func := "loop.example/g00487/laws.FnExactPush", spec := "fnExactPush", inPlace := ["internal/bytealg.abigen_runtime_cmpstring"], apart := false }
def FnExactPushSaid : Prop := fnExactPushRow.holds Tryz.pinned (OpenSpec.ofChange fnExactPushSpec)

/-- ITS FALSE NEIGHBOUR: 'it returns false'. Refute it at one input. -/
def fnExactPushWrong : ChangeSpec := { name := "fnExactPush", fn := fun _ => fun
  | [d1, d2] => { results := [.lit (.bool false)], args := [d1, d2] }
  | _ => none }
def FnExactPushWrongFalsely : Prop := fnExactPushRow.holds Tryz.pinned (OpenSpec.ofChange fnExactPushWrong)

/-- 'laws.FnExactSyn': WHATEVER THE INPUT: true; the input reads as it did. -/
def fnExactSynSpec : ChangeSpec := { name := "fnExactSyn", fn := fun _ => fun
  | [d1, d2] => { results := [.lit (.bool true)], args := [d1, d2] }
  | _ => none }
def fnExactSynRow : OpenClaim := { program := "ytbogbnjnjjhnbaagreat", sum := "641ce2f2ba5800ac9c1282bad1bb0a9be27a8fc33852f4494e5b6fbe8ca16fa6", func := "loop.example/g00487/laws.FnExactSyn", spec := "fnExactSyn", apart := false }
def FnExactSynSaid : Prop := fnExactSynRow.holds Tryz.pinned (OpenSpec.ofChange fnExactSynSpec)

/-- ITS FALSE NEIGHBOUR: 'it returns false'. Refute it at one input. -/
def fnExactSynWrong : ChangeSpec := { name := "fnExactSyn", fn := fun _ => fun
  | [d1, d2] => { results := [.lit (.bool false)], args := [d1, d2] }
  | _ => none }
def FnExactSynWrongFalsely : Prop := fnExactSynRow.holds Tryz.pinned (OpenSpec.ofChange fnExactSynWrong)

/-- 'laws.FnExactTake': WHATEVER THE INPUT: true; the input reads as it did. -/
def fnExactTakeSpec : ChangeSpec := { name := "fnExactTake", fn := fun _ => fun
  | [d1, d2] => { results := [.lit (.bool true)], args := [d1, d2] }
  | _ => none }
def fnExactTakeRow : OpenClaim := { program := "ytbogbnjnjjhnbaagreat", sum := "641ce2f2ba5800ac9c1282bad1bb0a9be27a8fc33852f4494e5b6fbe8ca16fa6", func := "loop.example/g00487/laws.FnExactTake", spec := "fnExactTake", inPlace := ["internal/bytealg.abigen_runtime_cmpstring"], apart := false }
def FnExactTakeSaid : Prop := fnExactTakeRow.holds Tryz.pinned (OpenSpec.ofChange fnExactTakeSpec)

/-- ITS FALSE NEIGHBOUR: 'it returns false'. Refute it at one input. -/
def fnExactTakeWrong : ChangeSpec := { name := "fnExactTake", fn := fun _ => fun
  | [d1, d2] => { results := [.lit (.bool false)], args := [d1, d2] }
  | _ => none }
def FnExactTakeWrongFalsely : Prop := fnExactTakeRow.holds Tryz.pinned (OpenSpec.ofChange fnExactTakeWrong)

/- THE SECOND FORM. 'bulk': how many values and letters a reading holds, each counted each time it is reached (what is shared counts as often as it is met; a slice's spare places count too). A statement '..UptoSaid' is the law's where the arguments, and the package variables that the reading takes, are together of bulk at most 1048576: NARROWER than '..Said'. Prove '..Said' where nothing that the law and all that it calls make is longer than what came in: it says more and counts as full. Else prove '..UptoSaid'. A law counts once. -/
mutual
def uptoBulk {H : Type} : DataW H → Nat
  | .lit (.string bytes) => bytes.length + 1
  | .lit _ => 1
  | .nil => 1
  | .ptr d => uptoBulk d + 1
  | .slice elems spare => uptoBulkAll elems + uptoBulkAll spare + 1
  | .agg parts => uptoBulkAll parts + 1
  | .iface _ d => uptoBulk d + 1
  | .map entries => uptoBulkEntries entries + 1
  | .held _ => 1
def uptoBulkAll {H : Type} : List (DataW H) → Nat
  | [] => 0
  | d :: r => uptoBulk d + uptoBulkAll r
def uptoBulkEntries {H : Type} : List (Lit × DataW H) → Nat
  | [] => 0
  | x :: r => uptoBulkEntry x + uptoBulkEntries r
def uptoBulkEntry {H : Type} : Lit × DataW H → Nat
  | (.string bytes, d) => bytes.length + uptoBulk d + 1
  | (_, d) => uptoBulk d + 1
 end
def uptoSmall : (H : Type) → List (DataW H) → Bool := fun _ ds => decide (uptoBulkAll ds ≤ 1048576)
def OpenSpec.upto (s : _root_.Go.ChangeSpec) : _root_.Go.OpenSpec := { _root_.Go.OpenSpec.ofChange s with cond := some uptoSmall }

/-- 'laws.FnExactSuspect', WHERE WHAT IT READS IS OF BULK AT MOST 1048576: true; the input reads as it did. -/
def fnExactSuspectUptoRow : OpenClaim := { program := "ytbogbnjnjjhnbaagreat", sum := "641ce2f2ba5800ac9c1282bad1bb0a9be27a8fc33852f4494e5b6fbe8ca16fa6", func := "loop.example/g00487/laws.FnExactSuspect", spec := "fnExactSuspect", apart := false, narrowed := true }
def FnExactSuspectUptoSaid : Prop := fnExactSuspectUptoRow.holds Tryz.pinned (OpenSpec.upto fnExactSuspectSpec)

/-- 'laws.FnExactSuspects', WHERE WHAT IT READS IS OF BULK AT MOST 1048576: true; the input reads as it did. -/
def fnExactSuspectsUptoRow : OpenClaim := { program := "ytbogbnjnjjhnbaagreat", sum := "641ce2f2ba5800ac9c1282bad1bb0a9be27a8fc33852f4494e5b6fbe8ca16fa6", func := "loop.example/g00487/laws.FnExactSuspects", spec := "fnExactSuspects", apart := false, narrowed := true }
def FnExactSuspectsUptoSaid : Prop := fnExactSuspectsUptoRow.holds Tryz.pinned (OpenSpec.upto fnExactSuspectsSpec)

/-- 'laws.FnExactShip', WHERE WHAT IT READS IS OF BULK AT MOST 1048576: true; the input reads as it did. -/
def fnExactShipUptoRow : OpenClaim := { program := "ytbogbnjnjjhnbaagreat", sum := "641ce2f2ba5800ac9c1282bad1bb0a9be27a8fc33852f4494e5b6fbe8ca16fa6", func := "loop.example/g00487/laws.FnExactShip", spec := "fnExactShip", inPlace := ["internal/bytealg.abigen_runtime_cmpstring"], apart := false, narrowed := true }
def FnExactShipUptoSaid : Prop := fnExactShipUptoRow.holds Tryz.pinned (OpenSpec.upto fnExactShipSpec)

/-- 'laws.FnExactTick', WHERE WHAT IT READS IS OF BULK AT MOST 1048576: true; the input reads as it did. -/
def fnExactTickUptoRow : OpenClaim := { program := "ytbogbnjnjjhnbaagreat", sum := "641ce2f2ba5800ac9c1282bad1bb0a9be27a8fc33852f4494e5b6fbe8ca16fa6", func := "loop.example/g00487/laws.FnExactTick", spec := "fnExactTick", apart := false, narrowed := true }
def FnExactTickUptoSaid : Prop := fnExactTickUptoRow.holds Tryz.pinned (OpenSpec.upto fnExactTickSpec)

/-- 'laws.FnExactPush', WHERE WHAT IT READS IS OF BULK AT MOST 1048576: true; the input reads as it did. -/
def fnExactPushUptoRow : OpenClaim := { program := "ytbogbnjnjjhnbaagreat", sum := "641ce2f2ba5800ac9c1282bad1bb0a9be27a8fc33852f4494e5b6fbe8ca16fa6", func := "loop.example/g00487/laws.FnExactPush", spec := "fnExactPush", inPlace := ["internal/bytealg.abigen_runtime_cmpstring"], apart := false, narrowed := true }
def FnExactPushUptoSaid : Prop := fnExactPushUptoRow.holds Tryz.pinned (OpenSpec.upto fnExactPushSpec)

/-- 'laws.FnExactSyn', WHERE WHAT IT READS IS OF BULK AT MOST 1048576: true; the input reads as it did. -/
def fnExactSynUptoRow : OpenClaim := { program := "ytbogbnjnjjhnbaagreat", sum := "641ce2f2ba5800ac9c1282bad1bb0a9be27a8fc33852f4494e5b6fbe8ca16fa6", func := "loop.example/g00487/laws.FnExactSyn", spec := "fnExactSyn", apart := false, narrowed := true }
def FnExactSynUptoSaid : Prop := fnExactSynUptoRow.holds Tryz.pinned (OpenSpec.upto fnExactSynSpec)

/-- 'laws.FnExactTake', WHERE WHAT IT READS IS OF BULK AT MOST 1048576: true; the input reads as it did. -/
def fnExactTakeUptoRow : OpenClaim := { program := "ytbogbnjnjjhnbaagreat", sum := "641ce2f2ba5800ac9c1282bad1bb0a9be27a8fc33852f4494e5b6fbe8ca16fa6", func := "loop.example/g00487/laws.FnExactTake", spec := "fnExactTake", inPlace := ["internal/bytealg.abigen_runtime_cmpstring"], apart := false, narrowed := true }
def FnExactTakeUptoSaid : Prop := fnExactTakeUptoRow.holds Tryz.pinned (OpenSpec.upto fnExactTakeSpec)

end Rows
end Go.Proofs.YtbogbnjnjjhnbaaGreat
