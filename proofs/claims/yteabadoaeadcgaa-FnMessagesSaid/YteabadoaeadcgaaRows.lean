/-
  No cell of these rows narrows 'for every input' (looked for: loops, veiled, ifaces, maps, wideKeys, modest, calm, conditions, laid).
  DERIVED. THE GIVEN ROWS OF THIS SEAT. 10 by the template 'for every input the law returns true; each argument reads behind the call as it read before'; 0 by the template 'total and deterministic' (their statements: YteabadoaeadcgaaTotals.lean).
  GIVEN WITH THE SEED: the statements are not yours to turn. If you find one false, say at which input.
  Laid BY PROGRAM, IN A SANDBOX (cutbox-rows.mjs): the forced cells as the released guide's own fill.sh prints them over the translation 3db5fbb312937860… (all of the seat's roots in one cut). By AI agents, Wed Nov 11 2026. No macro, syntax, notation, axiom, sorry.
-/
import Derived.Test.YteabadoaeadcgaaChecked
import GoSem.Claim
import GoSem.ClaimJoined
import GoSem.ClaimMapViews
import Derived.JoinedTies
import Derived.KernelRfl
namespace Go.Proofs.Yteabadoaeadcgaa
/- THE CELL 'sum', in the pinned program and in every row, IS THE sha256 OF THE DUMP (.gsa) THAT YteabadoaeadcgaaProg.lean LOADS. Nothing in Lean hashes anything: it is a label: what it is worth is what the hold of that sum in a sandbox is worth. -/
noncomputable def Try.pinned : Pinned := { name := "yteabadoaeadcgaa", sum := "3db5fbb31293786071856dcf0ea43a78eae09b081a0372895c630d7545c49bcd", checked := Try.checked }
namespace Rows
def none {H : Type} : Left H := { results := [], args := [] }

/-- 'laws.FnTable': WHATEVER THE INPUT: true; the input reads as it did. -/
def fnTableSpec : ChangeSpec := { name := "fnTable", fn := fun _ => fun
  | [d] => { results := [.lit (.bool true)], args := [d] }
  | _ => none }
def fnTableRow : OpenClaim := { program := "yteabadoaeadcgaa", sum := "3db5fbb31293786071856dcf0ea43a78eae09b081a0372895c630d7545c49bcd", func := "loop.example/g00487/laws.FnTable", spec := "fnTable", apart := false }
def FnTableSaid : Prop := fnTableRow.holds Try.pinned (OpenSpec.ofChange fnTableSpec)

/-- ITS FALSE NEIGHBOUR: 'it returns false'. Refute it at one input. -/
def fnTableWrong : ChangeSpec := { name := "fnTable", fn := fun _ => fun
  | [d] => { results := [.lit (.bool false)], args := [d] }
  | _ => none }
def FnTableWrongFalsely : Prop := fnTableRow.holds Try.pinned (OpenSpec.ofChange fnTableWrong)

/-- 'laws.FnMarksGrow': WHATEVER THE INPUT: true; the input reads as it did. -/
def fnMarksGrowSpec : ChangeSpec := { name := "fnMarksGrow", fn := fun _ => fun
  | [d] => { results := [.lit (.bool true)], args := [d] }
  | _ => none }
def fnMarksGrowRow : OpenClaim := { program := "yteabadoaeadcgaa", sum := "3db5fbb31293786071856dcf0ea43a78eae09b081a0372895c630d7545c49bcd", func := "loop.example/g00487/laws.FnMarksGrow", spec := "fnMarksGrow", inPlace := ["internal/bytealg.abigen_runtime_cmpstring"], apart := false }
def FnMarksGrowSaid : Prop := fnMarksGrowRow.holds Try.pinned (OpenSpec.ofChange fnMarksGrowSpec)

/-- ITS FALSE NEIGHBOUR: 'it returns false'. Refute it at one input. -/
def fnMarksGrowWrong : ChangeSpec := { name := "fnMarksGrow", fn := fun _ => fun
  | [d] => { results := [.lit (.bool false)], args := [d] }
  | _ => none }
def FnMarksGrowWrongFalsely : Prop := fnMarksGrowRow.holds Try.pinned (OpenSpec.ofChange fnMarksGrowWrong)

/-- 'laws.FnLogGrows': WHATEVER THE INPUT: true; the input reads as it did. -/
def fnLogGrowsSpec : ChangeSpec := { name := "fnLogGrows", fn := fun _ => fun
  | [d] => { results := [.lit (.bool true)], args := [d] }
  | _ => none }
def fnLogGrowsRow : OpenClaim := { program := "yteabadoaeadcgaa", sum := "3db5fbb31293786071856dcf0ea43a78eae09b081a0372895c630d7545c49bcd", func := "loop.example/g00487/laws.FnLogGrows", spec := "fnLogGrows", inPlace := ["internal/bytealg.abigen_runtime_cmpstring"], apart := false }
def FnLogGrowsSaid : Prop := fnLogGrowsRow.holds Try.pinned (OpenSpec.ofChange fnLogGrowsSpec)

/-- ITS FALSE NEIGHBOUR: 'it returns false'. Refute it at one input. -/
def fnLogGrowsWrong : ChangeSpec := { name := "fnLogGrows", fn := fun _ => fun
  | [d] => { results := [.lit (.bool false)], args := [d] }
  | _ => none }
def FnLogGrowsWrongFalsely : Prop := fnLogGrowsRow.holds Try.pinned (OpenSpec.ofChange fnLogGrowsWrong)

/-- 'laws.FnLogged': WHATEVER THE INPUT: true; the input reads as it did. -/
def fnLoggedSpec : ChangeSpec := { name := "fnLogged", fn := fun _ => fun
  | [d] => { results := [.lit (.bool true)], args := [d] }
  | _ => none }
def fnLoggedRow : OpenClaim := { program := "yteabadoaeadcgaa", sum := "3db5fbb31293786071856dcf0ea43a78eae09b081a0372895c630d7545c49bcd", func := "loop.example/g00487/laws.FnLogged", spec := "fnLogged", inPlace := ["internal/bytealg.abigen_runtime_cmpstring"], apart := false }
def FnLoggedSaid : Prop := fnLoggedRow.holds Try.pinned (OpenSpec.ofChange fnLoggedSpec)

/-- ITS FALSE NEIGHBOUR: 'it returns false'. Refute it at one input. -/
def fnLoggedWrong : ChangeSpec := { name := "fnLogged", fn := fun _ => fun
  | [d] => { results := [.lit (.bool false)], args := [d] }
  | _ => none }
def FnLoggedWrongFalsely : Prop := fnLoggedRow.holds Try.pinned (OpenSpec.ofChange fnLoggedWrong)

/-- 'laws.FnExactStateOf': WHATEVER THE INPUT: true; the input reads as it did. -/
def fnExactStateOfSpec : ChangeSpec := { name := "fnExactStateOf", fn := fun _ => fun
  | [d] => { results := [.lit (.bool true)], args := [d] }
  | _ => none }
def fnExactStateOfRow : OpenClaim := { program := "yteabadoaeadcgaa", sum := "3db5fbb31293786071856dcf0ea43a78eae09b081a0372895c630d7545c49bcd", func := "loop.example/g00487/laws.FnExactStateOf", spec := "fnExactStateOf", apart := false }
def FnExactStateOfSaid : Prop := fnExactStateOfRow.holds Try.pinned (OpenSpec.ofChange fnExactStateOfSpec)

/-- ITS FALSE NEIGHBOUR: 'it returns false'. Refute it at one input. -/
def fnExactStateOfWrong : ChangeSpec := { name := "fnExactStateOf", fn := fun _ => fun
  | [d] => { results := [.lit (.bool false)], args := [d] }
  | _ => none }
def FnExactStateOfWrongFalsely : Prop := fnExactStateOfRow.holds Try.pinned (OpenSpec.ofChange fnExactStateOfWrong)

/-- 'laws.FnStateBytes': WHATEVER THE INPUT: true; the input reads as it did. -/
def fnStateBytesSpec : ChangeSpec := { name := "fnStateBytes", fn := fun _ => fun
  | [d] => { results := [.lit (.bool true)], args := [d] }
  | _ => none }
def fnStateBytesRow : OpenClaim := { program := "yteabadoaeadcgaa", sum := "3db5fbb31293786071856dcf0ea43a78eae09b081a0372895c630d7545c49bcd", func := "loop.example/g00487/laws.FnStateBytes", spec := "fnStateBytes", apart := false }
def FnStateBytesSaid : Prop := fnStateBytesRow.holds Try.pinned (OpenSpec.ofChange fnStateBytesSpec)

/-- ITS FALSE NEIGHBOUR: 'it returns false'. Refute it at one input. -/
def fnStateBytesWrong : ChangeSpec := { name := "fnStateBytes", fn := fun _ => fun
  | [d] => { results := [.lit (.bool false)], args := [d] }
  | _ => none }
def FnStateBytesWrongFalsely : Prop := fnStateBytesRow.holds Try.pinned (OpenSpec.ofChange fnStateBytesWrong)

/-- 'laws.FnSpoilt': WHATEVER THE INPUT: true; the input reads as it did. -/
def fnSpoiltSpec : ChangeSpec := { name := "fnSpoilt", fn := fun _ => fun
  | [d] => { results := [.lit (.bool true)], args := [d] }
  | _ => none }
def fnSpoiltRow : OpenClaim := { program := "yteabadoaeadcgaa", sum := "3db5fbb31293786071856dcf0ea43a78eae09b081a0372895c630d7545c49bcd", func := "loop.example/g00487/laws.FnSpoilt", spec := "fnSpoilt", apart := false }
def FnSpoiltSaid : Prop := fnSpoiltRow.holds Try.pinned (OpenSpec.ofChange fnSpoiltSpec)

/-- ITS FALSE NEIGHBOUR: 'it returns false'. Refute it at one input. -/
def fnSpoiltWrong : ChangeSpec := { name := "fnSpoilt", fn := fun _ => fun
  | [d] => { results := [.lit (.bool false)], args := [d] }
  | _ => none }
def FnSpoiltWrongFalsely : Prop := fnSpoiltRow.holds Try.pinned (OpenSpec.ofChange fnSpoiltWrong)

/-- 'laws.FnExactMsgBytes': WHATEVER THE INPUT: true; the input reads as it did. -/
def fnExactMsgBytesSpec : ChangeSpec := { name := "fnExactMsgBytes", fn := fun _ => fun
  | [d] => { results := [.lit (.bool true)], args := [d] }
  | _ => none }
def fnExactMsgBytesRow : OpenClaim := { program := "yteabadoaeadcgaa", sum := "3db5fbb31293786071856dcf0ea43a78eae09b081a0372895c630d7545c49bcd", func := "loop.example/g00487/laws.FnExactMsgBytes", spec := "fnExactMsgBytes", apart := false }
def FnExactMsgBytesSaid : Prop := fnExactMsgBytesRow.holds Try.pinned (OpenSpec.ofChange fnExactMsgBytesSpec)

/-- ITS FALSE NEIGHBOUR: 'it returns false'. Refute it at one input. -/
def fnExactMsgBytesWrong : ChangeSpec := { name := "fnExactMsgBytes", fn := fun _ => fun
  | [d] => { results := [.lit (.bool false)], args := [d] }
  | _ => none }
def FnExactMsgBytesWrongFalsely : Prop := fnExactMsgBytesRow.holds Try.pinned (OpenSpec.ofChange fnExactMsgBytesWrong)

/-- 'laws.FnExactMsgOf': WHATEVER THE INPUT: true; the input reads as it did. -/
def fnExactMsgOfSpec : ChangeSpec := { name := "fnExactMsgOf", fn := fun _ => fun
  | [d] => { results := [.lit (.bool true)], args := [d] }
  | _ => none }
def fnExactMsgOfRow : OpenClaim := { program := "yteabadoaeadcgaa", sum := "3db5fbb31293786071856dcf0ea43a78eae09b081a0372895c630d7545c49bcd", func := "loop.example/g00487/laws.FnExactMsgOf", spec := "fnExactMsgOf", apart := false }
def FnExactMsgOfSaid : Prop := fnExactMsgOfRow.holds Try.pinned (OpenSpec.ofChange fnExactMsgOfSpec)

/-- ITS FALSE NEIGHBOUR: 'it returns false'. Refute it at one input. -/
def fnExactMsgOfWrong : ChangeSpec := { name := "fnExactMsgOf", fn := fun _ => fun
  | [d] => { results := [.lit (.bool false)], args := [d] }
  | _ => none }
def FnExactMsgOfWrongFalsely : Prop := fnExactMsgOfRow.holds Try.pinned (OpenSpec.ofChange fnExactMsgOfWrong)

/-- 'laws.FnMessages': WHATEVER THE INPUT: true; the input reads as it did. -/
def fnMessagesSpec : ChangeSpec := { name := "fnMessages", fn := fun _ => fun
  | [d] => { results := [.lit (.bool true)], args := [d] }
  | _ => none }
def fnMessagesRow : OpenClaim := { program := "yteabadoaeadcgaa", sum := "3db5fbb31293786071856dcf0ea43a78eae09b081a0372895c630d7545c49bcd", func := "loop.example/g00487/laws.FnMessages", spec := "fnMessages", apart := false }
def FnMessagesSaid : Prop := fnMessagesRow.holds Try.pinned (OpenSpec.ofChange fnMessagesSpec)

/-- ITS FALSE NEIGHBOUR: 'it returns false'. Refute it at one input. -/
def fnMessagesWrong : ChangeSpec := { name := "fnMessages", fn := fun _ => fun
  | [d] => { results := [.lit (.bool false)], args := [d] }
  | _ => none }
def FnMessagesWrongFalsely : Prop := fnMessagesRow.holds Try.pinned (OpenSpec.ofChange fnMessagesWrong)

/- THE SECOND FORM. 'bulk': how many values and letters a reading holds, each counted each time it is reached (what is shared counts as often as it is met; a slice's spare places count too). A statement '..UptoSaid' is the law's where the arguments, and the package variables that the reading takes, are together of bulk at most 1048576: NARROWER than '..Said'. Prove '..Said' where nothing that the law and all that it calls make is longer than what came in: it says more and counts as full. Else prove '..UptoSaid'. A law counts once. -/
mutual
def uptoBulk {H : Type} : DataW H → Nat
  | .lit (.string bytes) => bytes.length + 1
  | .lit _ => 1
  | .nil => 1
  | .ptr d => uptoBulk d + 1
  | .slice elems spare => uptoBulkAll elems + uptoBulkAll spare + 1
  | .agg parts => uptoBulkAll parts + 1
  | .iface _ d => uptoBulk d + 1
  | .map entries => uptoBulkEntries entries + 1
  | .held _ => 1
def uptoBulkAll {H : Type} : List (DataW H) → Nat
  | [] => 0
  | d :: r => uptoBulk d + uptoBulkAll r
def uptoBulkEntries {H : Type} : List (Lit × DataW H) → Nat
  | [] => 0
  | x :: r => uptoBulkEntry x + uptoBulkEntries r
def uptoBulkEntry {H : Type} : Lit × DataW H → Nat
  | (.string bytes, d) => bytes.length + uptoBulk d + 1
  | (_, d) => uptoBulk d + 1
 end
def uptoSmall : (H : Type) → List (DataW H) → Bool := fun _ ds => decide (uptoBulkAll ds ≤ 1048576)
def OpenSpec.upto (s : _root_.Go.ChangeSpec) : _root_.Go.OpenSpec := { _root_.Go.OpenSpec.ofChange s with cond := some uptoSmall }

/-- 'laws.FnTable', WHERE WHAT IT READS IS OF BULK AT MOST 1048576: true; the input reads as it did. -/
def fnTableUptoRow : OpenClaim := { program := "yteabadoaeadcgaa", sum := "3db5fbb31293786071856dcf0ea43a78eae09b081a0372895c630d7545c49bcd", func := "loop.example/g00487/laws.FnTable", spec := "fnTable", apart := false, narrowed := true }
def FnTableUptoSaid : Prop := fnTableUptoRow.holds Try.pinned (OpenSpec.upto fnTableSpec)

/-- 'laws.FnMarksGrow', WHERE WHAT IT READS IS OF BULK AT MOST 1048576: true; the input reads as it did. -/
def fnMarksGrowUptoRow : OpenClaim := { program := "yteabadoaeadcgaa", sum := "3db5fbb31293786071856dcf0ea43a78eae09b081a0372895c630d7545c49bcd", func := "loop.example/g00487/laws.FnMarksGrow", spec := "fnMarksGrow", inPlace := ["internal/bytealg.abigen_runtime_cmpstring"], apart := false, narrowed := true }
def FnMarksGrowUptoSaid : Prop := fnMarksGrowUptoRow.holds Try.pinned (OpenSpec.upto fnMarksGrowSpec)

/-- 'laws.FnLogGrows', WHERE WHAT IT READS IS OF BULK AT MOST 1048576: true; the input reads as it did. -/
def fnLogGrowsUptoRow : OpenClaim := { program := "yteabadoaeadcgaa", sum := "3db5fbb31293786071856dcf0ea43a78eae09b081a0372895c630d7545c49bcd", func := "loop.example/g00487/laws.FnLogGrows", spec := "fnLogGrows", inPlace := ["internal/bytealg.abigen_runtime_cmpstring"], apart := false, narrowed := true }
def FnLogGrowsUptoSaid : Prop := fnLogGrowsUptoRow.holds Try.pinned (OpenSpec.upto fnLogGrowsSpec)

/-- 'laws.FnLogged', WHERE WHAT IT READS IS OF BULK AT MOST 1048576: true; the input reads as it did. -/
def fnLoggedUptoRow : OpenClaim := { program := "yteabadoaeadcgaa", sum := "3db5fbb31293786071856dcf0ea43a78eae09b081a0372895c630d7545c49bcd", func := "loop.example/g00487/laws.FnLogged", spec := "fnLogged", inPlace := ["internal/bytealg.abigen_runtime_cmpstring"], apart := false, narrowed := true }
def FnLoggedUptoSaid : Prop := fnLoggedUptoRow.holds Try.pinned (OpenSpec.upto fnLoggedSpec)

/-- 'laws.FnExactStateOf', WHERE WHAT IT READS IS OF BULK AT MOST 1048576: true; the input reads as it did. -/
def fnExactStateOfUptoRow : OpenClaim := { program := "yteabadoaeadcgaa", sum := "3db5fbb31293786071856dcf0ea43a78eae09b081a0372895c630d7545c49bcd", func := "loop.example/g00487/laws.FnExactStateOf", spec := "fnExactStateOf", apart := false, narrowed := true }
def FnExactStateOfUptoSaid : Prop := fnExactStateOfUptoRow.holds Try.pinned (OpenSpec.upto fnExactStateOfSpec)

/-- 'laws.FnStateBytes', WHERE WHAT IT READS IS OF BULK AT MOST 1048576: true; the input reads as it did. -/
def fnStateBytesUptoRow : OpenClaim := { program := "yteabadoaeadcgaa", sum := "3db5fbb31293786071856dcf0ea43a78eae09b081a0372895c630d7545c49bcd", func := "loop.example/g00487/laws.FnStateBytes", spec := "fnStateBytes", apart := false, narrowed := true }
def FnStateBytesUptoSaid : Prop := fnStateBytesUptoRow.holds Try.pinned (OpenSpec.upto fnStateBytesSpec)

/-- 'laws.FnSpoilt', WHERE WHAT IT READS IS OF BULK AT MOST 1048576: true; the input reads as it did. -/
def fnSpoiltUptoRow : OpenClaim := { program := "yteabadoaeadcgaa", sum := "3db5fbb31293786071856dcf0ea43a78eae09b081a0372895c630d7545c49bcd", func := "loop.example/g00487/laws.FnSpoilt", spec := "fnSpoilt", apart := false, narrowed := true }
def FnSpoiltUptoSaid : Prop := fnSpoiltUptoRow.holds Try.pinned (OpenSpec.upto fnSpoiltSpec)

/-- 'laws.FnExactMsgBytes', WHERE WHAT IT READS IS OF BULK AT MOST 1048576: true; the input reads as it did. -/
def fnExactMsgBytesUptoRow : OpenClaim := { program := "yteabadoaeadcgaa", sum := "3db5fbb31293786071856dcf0ea43a78eae09b081a0372895c630d7545c49bcd", func := "loop.example/g00487/laws.FnExactMsgBytes", spec := "fnExactMsgBytes", apart := false, narrowed := true }
def FnExactMsgBytesUptoSaid : Prop := fnExactMsgBytesUptoRow.holds Try.pinned (OpenSpec.upto fnExactMsgBytesSpec)

/-- 'laws.FnExactMsgOf', WHERE WHAT IT READS IS OF BULK AT MOST 1048576: true; the input reads as it did. -/
def fnExactMsgOfUptoRow : OpenClaim := { program := "yteabadoaeadcgaa", sum := "3db5fbb31293786071856dcf0ea43a78eae09b081a0372895c630d7545c49bcd", func := "loop.example/g00487/laws.FnExactMsgOf", spec := "fnExactMsgOf", apart := false, narrowed := true }
def FnExactMsgOfUptoSaid : Prop := fnExactMsgOfUptoRow.holds Try.pinned (OpenSpec.upto fnExactMsgOfSpec)

/-- 'laws.FnMessages', WHERE WHAT IT READS IS OF BULK AT MOST 1048576: true; the input reads as it did. -/
def fnMessagesUptoRow : OpenClaim := { program := "yteabadoaeadcgaa", sum := "3db5fbb31293786071856dcf0ea43a78eae09b081a0372895c630d7545c49bcd", func := "loop.example/g00487/laws.FnMessages", spec := "fnMessages", apart := false, narrowed := true }
def FnMessagesUptoSaid : Prop := fnMessagesUptoRow.holds Try.pinned (OpenSpec.upto fnMessagesSpec)

end Rows
end Go.Proofs.Yteabadoaeadcgaa
