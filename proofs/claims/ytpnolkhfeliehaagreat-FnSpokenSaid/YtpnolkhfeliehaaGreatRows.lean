/-
  No cell of these rows narrows 'for every input' (looked for: loops, veiled, ifaces, maps, wideKeys, modest, calm, conditions, laid).
  DERIVED. THE GIVEN ROWS OF THIS SEAT. 6 by the template 'for every input the law returns true; each argument reads behind the call as it read before'; 0 by the template 'total and deterministic' (their statements: YtpnolkhfeliehaaGreatTotals.lean).
  GIVEN WITH THE SEED: the statements are not yours to turn. If you find one false, say at which input.
  Laid BY PROGRAM, IN A SANDBOX (cutbox-rows.mjs): the forced cells as the released guide's own fill.sh prints them over the translation dbf38c96e8fd419a… (all of the seat's roots in one cut). By AI agents, Wed Nov 11 2026. No macro, syntax, notation, axiom, sorry.
-/
import Derived.Test.YtpnolkhfeliehaaGreatChecked
import GoSem.Claim
import GoSem.ClaimJoined
import GoSem.ClaimMapViews
import Derived.JoinedTies
import Derived.KernelRfl
namespace Go.Proofs.YtpnolkhfeliehaaGreat
/- THE CELL 'sum', in the pinned program and in every row, IS THE sha256 OF THE DUMP (.gsa) THAT YtpnolkhfeliehaaGreatProg.lean LOADS. Nothing in Lean hashes anything: it is a label: what it is worth is what the hold of that sum in a sandbox is worth. -/
noncomputable def Tryz.pinned : Pinned := { name := "ytpnolkhfeliehaagreat", sum := "dbf38c96e8fd419a7309b3bd791e8fef54b79b6d1b7e464f9ce85c0377ba5d18", checked := Tryz.checked }
namespace Rows
def none {H : Type} : Left H := { results := [], args := [] }

/-- 'laws.FnTakenOrder': WHATEVER THE INPUT: true; the input reads as it did. -/
def fnTakenOrderSpec : ChangeSpec := { name := "fnTakenOrder", fn := fun _ => fun
  | [d] => { results := [.lit (.bool true)], args := [d] }
  | _ => none }
def fnTakenOrderRow : OpenClaim := { program := "ytpnolkhfeliehaagreat", sum := "dbf38c96e8fd419a7309b3bd791e8fef54b79b6d1b7e464f9ce85c0377ba5d18", func := "loop.example/g00487/laws.FnTakenOrder", spec := "fnTakenOrder", inPlace := ["internal/bytealg.abigen_runtime_cmpstring"], apart := false }
def FnTakenOrderSaid : Prop := fnTakenOrderRow.holds Tryz.pinned (OpenSpec.ofChange fnTakenOrderSpec)

/-- ITS FALSE NEIGHBOUR: 'it returns false'. Refute it at one input. -/
def fnTakenOrderWrong : ChangeSpec := { name := "fnTakenOrder", fn := fun _ => fun
  | [d] => { results := [.lit (.bool false)], args := [d] }
  | _ => none }
def FnTakenOrderWrongFalsely : Prop := fnTakenOrderRow.holds Tryz.pinned (OpenSpec.ofChange fnTakenOrderWrong)

/-- 'laws.FnShipped': WHATEVER THE INPUT: true; the input reads as it did. -/
def fnShippedSpec : ChangeSpec := { name := "fnShipped", fn := fun _ => fun
  | [d] => { results := [.lit (.bool true)], args := [d] }
  | _ => none }
def fnShippedRow : OpenClaim := { program := "ytpnolkhfeliehaagreat", sum := "dbf38c96e8fd419a7309b3bd791e8fef54b79b6d1b7e464f9ce85c0377ba5d18", func := "loop.example/g00487/laws.FnShipped", spec := "fnShipped", inPlace := ["internal/bytealg.abigen_runtime_cmpstring"], apart := false }
def FnShippedSaid : Prop := fnShippedRow.holds Tryz.pinned (OpenSpec.ofChange fnShippedSpec)

/-- ITS FALSE NEIGHBOUR: 'it returns false'. Refute it at one input. -/
def fnShippedWrong : ChangeSpec := { name := "fnShipped", fn := fun _ => fun
  | [d] => { results := [.lit (.bool false)], args := [d] }
  | _ => none }
def FnShippedWrongFalsely : Prop := fnShippedRow.holds Tryz.pinned (OpenSpec.ofChange fnShippedWrong)

/-- 'laws.FnTaken': WHATEVER THE INPUT: true; the input reads as it did. -/
def fnTakenSpec : ChangeSpec := { name := "fnTaken", fn := fun _ => fun
  | [d] => { results := [.lit (.bool true)], args := [d] }
  | _ => none }
def fnTakenRow : OpenClaim := { program := "ytpnolkhfeliehaagreat", sum := "dbf38c96e8fd419a7309b3bd791e8fef54b79b6d1b7e464f9ce85c0377ba5d18", func := "loop.example/g00487/laws.FnTaken", spec := "fnTaken", inPlace := ["internal/bytealg.abigen_runtime_cmpstring"], apart := false }
def FnTakenSaid : Prop := fnTakenRow.holds Tryz.pinned (OpenSpec.ofChange fnTakenSpec)

/-- ITS FALSE NEIGHBOUR: 'it returns false'. Refute it at one input. -/
def fnTakenWrong : ChangeSpec := { name := "fnTaken", fn := fun _ => fun
  | [d] => { results := [.lit (.bool false)], args := [d] }
  | _ => none }
def FnTakenWrongFalsely : Prop := fnTakenRow.holds Tryz.pinned (OpenSpec.ofChange fnTakenWrong)

/-- 'laws.FnBegun': WHATEVER THE INPUT: true; the input reads as it did. -/
def fnBegunSpec : ChangeSpec := { name := "fnBegun", fn := fun _ => fun
  | [d] => { results := [.lit (.bool true)], args := [d] }
  | _ => none }
def fnBegunRow : OpenClaim := { program := "ytpnolkhfeliehaagreat", sum := "dbf38c96e8fd419a7309b3bd791e8fef54b79b6d1b7e464f9ce85c0377ba5d18", func := "loop.example/g00487/laws.FnBegun", spec := "fnBegun", inPlace := ["internal/bytealg.abigen_runtime_cmpstring"], apart := false }
def FnBegunSaid : Prop := fnBegunRow.holds Tryz.pinned (OpenSpec.ofChange fnBegunSpec)

/-- ITS FALSE NEIGHBOUR: 'it returns false'. Refute it at one input. -/
def fnBegunWrong : ChangeSpec := { name := "fnBegun", fn := fun _ => fun
  | [d] => { results := [.lit (.bool false)], args := [d] }
  | _ => none }
def FnBegunWrongFalsely : Prop := fnBegunRow.holds Tryz.pinned (OpenSpec.ofChange fnBegunWrong)

/-- 'laws.FnSpoken': WHATEVER THE INPUT: true; the input reads as it did. -/
def fnSpokenSpec : ChangeSpec := { name := "fnSpoken", fn := fun _ => fun
  | [d] => { results := [.lit (.bool true)], args := [d] }
  | _ => none }
def fnSpokenRow : OpenClaim := { program := "ytpnolkhfeliehaagreat", sum := "dbf38c96e8fd419a7309b3bd791e8fef54b79b6d1b7e464f9ce85c0377ba5d18", func := "loop.example/g00487/laws.FnSpoken", spec := "fnSpoken", inPlace := ["internal/bytealg.abigen_runtime_cmpstring"], apart := false }
def FnSpokenSaid : Prop := fnSpokenRow.holds Tryz.pinned (OpenSpec.ofChange fnSpokenSpec)

/-- ITS FALSE NEIGHBOUR: 'it returns false'. Refute it at one input. -/
def fnSpokenWrong : ChangeSpec := { name := "fnSpoken", fn := fun _ => fun
  | [d] => { results := [.lit (.bool false)], args := [d] }
  | _ => none }
def FnSpokenWrongFalsely : Prop := fnSpokenRow.holds Tryz.pinned (OpenSpec.ofChange fnSpokenWrong)

/-- 'laws.FnExactSay': WHATEVER THE INPUT: true; the input reads as it did. -/
def fnExactSaySpec : ChangeSpec := { name := "fnExactSay", fn := fun _ => fun
  | [d1, d2, d3, d4] => { results := [.lit (.bool true)], args := [d1, d2, d3, d4] }
  | _ => none }
def fnExactSayRow : OpenClaim := { program := "ytpnolkhfeliehaagreat", sum := "dbf38c96e8fd419a7309b3bd791e8fef54b79b6d1b7e464f9ce85c0377ba5d18", func := "loop.example/g00487/laws.FnExactSay", spec := "fnExactSay", inPlace := ["internal/bytealg.abigen_runtime_cmpstring"], apart := false }
def FnExactSaySaid : Prop := fnExactSayRow.holds Tryz.pinned (OpenSpec.ofChange fnExactSaySpec)

/-- ITS FALSE NEIGHBOUR: 'it returns false'. Refute it at one input. -/
def fnExactSayWrong : ChangeSpec := { name := "fnExactSay", fn := fun _ => fun
  | [d1, d2, d3, d4] => { results := [.lit (.bool false)], args := [d1, d2, d3, d4] }
  | _ => none }
def FnExactSayWrongFalsely : Prop := fnExactSayRow.holds Tryz.pinned (OpenSpec.ofChange fnExactSayWrong)

/- THE SECOND FORM. 'bulk': how many values and letters a reading holds, each counted each time it is reached (what is shared counts as often as it is met; a slice's spare places count too). A statement '..UptoSaid' is the law's where the arguments, and the package variables that the reading takes, are together of bulk at most 1048576: NARROWER than '..Said'. Prove '..Said' where nothing that the law and all that it calls make is longer than what came in: it says more and counts as full. Else prove '..UptoSaid'. A law counts once. -/
mutual
def uptoBulk {H : Type} : DataW H → Nat
  | .lit (.string bytes) => bytes.length + 1
  | .lit _ => 1
  | .nil => 1
  | .ptr d => uptoBulk d + 1
  | .slice elems spare => uptoBulkAll elems + uptoBulkAll spare + 1
  | .agg parts => uptoBulkAll parts + 1
  | .iface _ d => uptoBulk d + 1
  | .map entries => uptoBulkEntries entries + 1
  | .held _ => 1
def uptoBulkAll {H : Type} : List (DataW H) → Nat
  | [] => 0
  | d :: r => uptoBulk d + uptoBulkAll r
def uptoBulkEntries {H : Type} : List (Lit × DataW H) → Nat
  | [] => 0
  | x :: r => uptoBulkEntry x + uptoBulkEntries r
def uptoBulkEntry {H : Type} : Lit × DataW H → Nat
  | (.string bytes, d) => bytes.length + uptoBulk d + 1
  | (_, d) => uptoBulk d + 1
 end
def uptoSmall : (H : Type) → List (DataW H) → Bool := fun _ ds => decide (uptoBulkAll ds ≤ 1048576)
def OpenSpec.upto (s : _root_.Go.ChangeSpec) : _root_.Go.OpenSpec := { _root_.Go.OpenSpec.ofChange s with cond := some uptoSmall }

/-- 'laws.FnTakenOrder', WHERE WHAT IT READS IS OF BULK AT MOST 1048576: true; the input reads as it did. -/
def fnTakenOrderUptoRow : OpenClaim := { program := "ytpnolkhfeliehaagreat", sum := "dbf38c96e8fd419a7309b3bd791e8fef54b79b6d1b7e464f9ce85c0377ba5d18", func := "loop.example/g00487/laws.FnTakenOrder", spec := "fnTakenOrder", inPlace := ["internal/bytealg.abigen_runtime_cmpstring"], apart := false, narrowed := true }
def FnTakenOrderUptoSaid : Prop := fnTakenOrderUptoRow.holds Tryz.pinned (OpenSpec.upto fnTakenOrderSpec)

/-- 'laws.FnShipped', WHERE WHAT IT READS IS OF BULK AT MOST 1048576: true; the input reads as it did. -/
def fnShippedUptoRow : OpenClaim := { program := "ytpnolkhfeliehaagreat", sum := "dbf38c96e8fd419a7309b3bd791e8fef54b79b6d1b7e464f9ce85c0377ba5d18", func := "loop.example/g00487/laws.FnShipped", spec := "fnShipped", inPlace := ["internal/bytealg.abigen_runtime_cmpstring"], apart := false, narrowed := true }
def FnShippedUptoSaid : Prop := fnShippedUptoRow.holds Tryz.pinned (OpenSpec.upto fnShippedSpec)

/-- 'laws.FnTaken', WHERE WHAT IT READS IS OF BULK AT MOST 1048576: true; the input reads as it did. -/
def fnTakenUptoRow : OpenClaim := { program := "ytpnolkhfeliehaagreat", sum := "dbf38c96e8fd419a7309b3bd791e8fef54b79b6d1b7e464f9ce85c0377ba5d18", func := "loop.example/g00487/laws.FnTaken", spec := "fnTaken", inPlace := ["internal/bytealg.abigen_runtime_cmpstring"], apart := false, narrowed := true }
def FnTakenUptoSaid : Prop := fnTakenUptoRow.holds Tryz.pinned (OpenSpec.upto fnTakenSpec)

/-- 'laws.FnBegun', WHERE WHAT IT READS IS OF BULK AT MOST 1048576: true; the input reads as it did. -/
def fnBegunUptoRow : OpenClaim := { program := "ytpnolkhfeliehaagreat", sum := "dbf38c96e8fd419a7309b3bd791e8fef54b79b6d1b7e464f9ce85c0377ba5d18", func := "loop.example/g00487/laws.FnBegun", spec := "fnBegun", inPlace := ["internal/bytealg.abigen_runtime_cmpstring"], apart := false, narrowed := true }
def FnBegunUptoSaid : Prop := fnBegunUptoRow.holds Tryz.pinned (OpenSpec.upto fnBegunSpec)

/-- 'laws.FnSpoken', WHERE WHAT IT READS IS OF BULK AT MOST 1048576: true; the input reads as it did. -/
def fnSpokenUptoRow : OpenClaim := { program := "ytpnolkhfeliehaagreat", sum := "dbf38c96e8fd419a7309b3bd791e8fef54b79b6d1b7e464f9ce85c0377ba5d18", func := "loop.example/g00487/laws.FnSpoken", spec := "fnSpoken", inPlace := ["internal/bytealg.abigen_runtime_cmpstring"], apart := false, narrowed := true }
def FnSpokenUptoSaid : Prop := fnSpokenUptoRow.holds Tryz.pinned (OpenSpec.upto fnSpokenSpec)

/-- 'laws.FnExactSay', WHERE WHAT IT READS IS OF BULK AT MOST 1048576: true; the input reads as it did. -/
def fnExactSayUptoRow : OpenClaim := { program := "ytpnolkhfeliehaagreat", sum := "dbf38c96e8fd419a7309b3bd791e8fef54b79b6d1b7e464f9ce85c0377ba5d18", func := "loop.example/g00487/laws.FnExactSay", spec := "fnExactSay", inPlace := ["internal/bytealg.abigen_runtime_cmpstring"], apart := false, narrowed := true }
def FnExactSayUptoSaid : Prop := fnExactSayUptoRow.holds Tryz.pinned (OpenSpec.upto fnExactSaySpec)

end Rows
end Go.Proofs.YtpnolkhfeliehaaGreat
