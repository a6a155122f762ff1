/-
  No cell of these rows narrows 'for every input' (looked for: loops, veiled, ifaces, maps, wideKeys, modest, calm, conditions, laid).
  DERIVED. THE GIVEN ROWS OF THIS SEAT. 11 by the template 'for every input the law returns true; each argument reads behind the call as it read before'; 0 by the template 'total and deterministic' (their statements: YtopcpcoklgepnaaTotals.lean).
  GIVEN WITH THE SEED: the statements are not yours to turn. If you find one false, say at which input.
  Laid BY PROGRAM, IN A SANDBOX (cutbox-rows.mjs): the forced cells as the released guide's own fill.sh prints them over the translation faa8b7ee4bec9668… (all of the seat's roots in one cut). By AI agents, Wed Nov 11 2026. No macro, syntax, notation, axiom, sorry.
-/
import Derived.Test.YtopcpcoklgepnaaChecked
import GoSem.Claim
import GoSem.ClaimJoined
import GoSem.ClaimMapViews
import Derived.JoinedTies
import Derived.KernelRfl
namespace Go.Proofs.Ytopcpcoklgepnaa
/- THE CELL 'sum', in the pinned program and in every row, IS THE sha256 OF THE DUMP (.gsa) THAT YtopcpcoklgepnaaProg.lean LOADS. Nothing in Lean hashes anything: it is a label: what it is worth is what the hold of that sum in a sandbox is worth. -/
noncomputable def Try.pinned : Pinned := { name := "ytopcpcoklgepnaa", sum := "faa8b7ee4bec966815a55ea2bd4b4ced1669ad098c49d1aed4df77a8550d4ec5", checked := Try.checked }
namespace Rows
def none {H : Type} : Left H := { results := [], args := [] }

/-- 'laws.FnExactLogSeq': WHATEVER THE INPUT: true; the input reads as it did. -/
def fnExactLogSeqSpec : ChangeSpec := { name := "fnExactLogSeq", fn := fun _ => fun
  | [d] => { results := [.lit (.bool true)], args := [d] }
  | _ => none }
def fnExactLogSeqRow : OpenClaim := { program := "ytopcpcoklgepnaa", sum := "faa8b7ee4bec966815a55ea2bd4b4ced1669ad098c49d1aed4df77a8550d4ec5", func := "loop.example/g00487/laws.FnExactLogSeq", spec := "fnExactLogSeq", apart := false }
def FnExactLogSeqSaid : Prop := fnExactLogSeqRow.holds Try.pinned (OpenSpec.ofChange fnExactLogSeqSpec)

/-- ITS FALSE NEIGHBOUR: 'it returns false'. Refute it at one input. -/
def fnExactLogSeqWrong : ChangeSpec := { name := "fnExactLogSeq", fn := fun _ => fun
  | [d] => { results := [.lit (.bool false)], args := [d] }
  | _ => none }
def FnExactLogSeqWrongFalsely : Prop := fnExactLogSeqRow.holds Try.pinned (OpenSpec.ofChange fnExactLogSeqWrong)

/-- 'laws.FnExactMarksOf': WHATEVER THE INPUT: true; the input reads as it did. -/
def fnExactMarksOfSpec : ChangeSpec := { name := "fnExactMarksOf", fn := fun _ => fun
  | [d] => { results := [.lit (.bool true)], args := [d] }
  | _ => none }
def fnExactMarksOfRow : OpenClaim := { program := "ytopcpcoklgepnaa", sum := "faa8b7ee4bec966815a55ea2bd4b4ced1669ad098c49d1aed4df77a8550d4ec5", func := "loop.example/g00487/laws.FnExactMarksOf", spec := "fnExactMarksOf", apart := false }
def FnExactMarksOfSaid : Prop := fnExactMarksOfRow.holds Try.pinned (OpenSpec.ofChange fnExactMarksOfSpec)

/-- ITS FALSE NEIGHBOUR: 'it returns false'. Refute it at one input. -/
def fnExactMarksOfWrong : ChangeSpec := { name := "fnExactMarksOf", fn := fun _ => fun
  | [d] => { results := [.lit (.bool false)], args := [d] }
  | _ => none }
def FnExactMarksOfWrongFalsely : Prop := fnExactMarksOfRow.holds Try.pinned (OpenSpec.ofChange fnExactMarksOfWrong)

/-- 'laws.FnExactMsgSame': WHATEVER THE INPUT: true; the input reads as it did. -/
def fnExactMsgSameSpec : ChangeSpec := { name := "fnExactMsgSame", fn := fun _ => fun
  | [d1, d2] => { results := [.lit (.bool true)], args := [d1, d2] }
  | _ => none }
def fnExactMsgSameRow : OpenClaim := { program := "ytopcpcoklgepnaa", sum := "faa8b7ee4bec966815a55ea2bd4b4ced1669ad098c49d1aed4df77a8550d4ec5", func := "loop.example/g00487/laws.FnExactMsgSame", spec := "fnExactMsgSame", apart := false }
def FnExactMsgSameSaid : Prop := fnExactMsgSameRow.holds Try.pinned (OpenSpec.ofChange fnExactMsgSameSpec)

/-- ITS FALSE NEIGHBOUR: 'it returns false'. Refute it at one input. -/
def fnExactMsgSameWrong : ChangeSpec := { name := "fnExactMsgSame", fn := fun _ => fun
  | [d1, d2] => { results := [.lit (.bool false)], args := [d1, d2] }
  | _ => none }
def FnExactMsgSameWrongFalsely : Prop := fnExactMsgSameRow.holds Try.pinned (OpenSpec.ofChange fnExactMsgSameWrong)

/-- 'laws.FnExactLogDrop': WHATEVER THE INPUT: true; the input reads as it did. -/
def fnExactLogDropSpec : ChangeSpec := { name := "fnExactLogDrop", fn := fun _ => fun
  | [d1, d2] => { results := [.lit (.bool true)], args := [d1, d2] }
  | _ => none }
def fnExactLogDropRow : OpenClaim := { program := "ytopcpcoklgepnaa", sum := "faa8b7ee4bec966815a55ea2bd4b4ced1669ad098c49d1aed4df77a8550d4ec5", func := "loop.example/g00487/laws.FnExactLogDrop", spec := "fnExactLogDrop", apart := false }
def FnExactLogDropSaid : Prop := fnExactLogDropRow.holds Try.pinned (OpenSpec.ofChange fnExactLogDropSpec)

/-- ITS FALSE NEIGHBOUR: 'it returns false'. Refute it at one input. -/
def fnExactLogDropWrong : ChangeSpec := { name := "fnExactLogDrop", fn := fun _ => fun
  | [d1, d2] => { results := [.lit (.bool false)], args := [d1, d2] }
  | _ => none }
def FnExactLogDropWrongFalsely : Prop := fnExactLogDropRow.holds Try.pinned (OpenSpec.ofChange fnExactLogDropWrong)

/-- 'laws.FnExactMsgOk': WHATEVER THE INPUT: true; the input reads as it did. -/
def fnExactMsgOkSpec : ChangeSpec := { name := "fnExactMsgOk", fn := fun _ => fun
  | [d] => { results := [.lit (.bool true)], args := [d] }
  | _ => none }
def fnExactMsgOkRow : OpenClaim := { program := "ytopcpcoklgepnaa", sum := "faa8b7ee4bec966815a55ea2bd4b4ced1669ad098c49d1aed4df77a8550d4ec5", func := "loop.example/g00487/laws.FnExactMsgOk", spec := "fnExactMsgOk", apart := false }
def FnExactMsgOkSaid : Prop := fnExactMsgOkRow.holds Try.pinned (OpenSpec.ofChange fnExactMsgOkSpec)

/-- ITS FALSE NEIGHBOUR: 'it returns false'. Refute it at one input. -/
def fnExactMsgOkWrong : ChangeSpec := { name := "fnExactMsgOk", fn := fun _ => fun
  | [d] => { results := [.lit (.bool false)], args := [d] }
  | _ => none }
def FnExactMsgOkWrongFalsely : Prop := fnExactMsgOkRow.holds Try.pinned (OpenSpec.ofChange fnExactMsgOkWrong)

/-- 'laws.FnExactLogAdd': WHATEVER THE INPUT: true; the input reads as it did. -/
def fnExactLogAddSpec : ChangeSpec := { name := "fnExactLogAdd", fn := fun _ => fun
  | [d1, d2] => { results := [.lit (.bool true)], args := [d1, d2] }
  | _ => none }
def fnExactLogAddRow : OpenClaim := { program := "ytopcpcoklgepnaa", sum := "faa8b7ee4bec966815a55ea2bd4b4ced1669ad098c49d1aed4df77a8550d4ec5", func := "loop.example/g00487/laws.FnExactLogAdd", spec := "fnExactLogAdd", apart := false }
def FnExactLogAddSaid : Prop := fnExactLogAddRow.holds Try.pinned (OpenSpec.ofChange fnExactLogAddSpec)

/-- ITS FALSE NEIGHBOUR: 'it returns false'. Refute it at one input. -/
def fnExactLogAddWrong : ChangeSpec := { name := "fnExactLogAdd", fn := fun _ => fun
  | [d1, d2] => { results := [.lit (.bool false)], args := [d1, d2] }
  | _ => none }
def FnExactLogAddWrongFalsely : Prop := fnExactLogAddRow.holds Try.pinned (OpenSpec.ofChange fnExactLogAddWrong)

/-- 'laws.FnExactSlot': WHATEVER THE INPUT: true; the input reads as it did. -/
def fnExactSlotSpec : ChangeSpec := { name := "fnExactSlot", fn := fun _ => fun
  | [d1, d2, d3] => { results := [.lit (.bool true)], args := [d1, d2, d3] }
  | _ => none }
def fnExactSlotRow : OpenClaim := { program := "ytopcpcoklgepnaa", sum := "faa8b7ee4bec966815a55ea2bd4b4ced1669ad098c49d1aed4df77a8550d4ec5", func := "loop.example/g00487/laws.FnExactSlot", spec := "fnExactSlot", apart := false }
def FnExactSlotSaid : Prop := fnExactSlotRow.holds Try.pinned (OpenSpec.ofChange fnExactSlotSpec)

/-- ITS FALSE NEIGHBOUR: 'it returns false'. Refute it at one input. -/
def fnExactSlotWrong : ChangeSpec := { name := "fnExactSlot", fn := fun _ => fun
  | [d1, d2, d3] => { results := [.lit (.bool false)], args := [d1, d2, d3] }
  | _ => none }
def FnExactSlotWrongFalsely : Prop := fnExactSlotRow.holds Try.pinned (OpenSpec.ofChange fnExactSlotWrong)

/-- 'laws.FnExactNodeSame': WHATEVER THE INPUT: true; the input reads as it did. -/
def fnExactNodeSameSpec : ChangeSpec := { name := "fnExactNodeSame", fn := fun _ => fun
  | [d1, d2] => { results := [.lit (.bool true)], args := [d1, d2] }
  | _ => none }
def fnExactNodeSameRow : OpenClaim := { program := "ytopcpcoklgepnaa", sum := "faa8b7ee4bec966815a55ea2bd4b4ced1669ad098c49d1aed4df77a8550d4ec5", func := "loop.example/g00487/laws.FnExactNodeSame", spec := "fnExactNodeSame", unfollowed := true, recurses := true, apart := false }
def FnExactNodeSameSaid : Prop := fnExactNodeSameRow.holds Try.pinned (OpenSpec.ofChange fnExactNodeSameSpec)

/-- ITS FALSE NEIGHBOUR: 'it returns false'. Refute it at one input. -/
def fnExactNodeSameWrong : ChangeSpec := { name := "fnExactNodeSame", fn := fun _ => fun
  | [d1, d2] => { results := [.lit (.bool false)], args := [d1, d2] }
  | _ => none }
def FnExactNodeSameWrongFalsely : Prop := fnExactNodeSameRow.holds Try.pinned (OpenSpec.ofChange fnExactNodeSameWrong)

/-- 'laws.FnExactPrune': WHATEVER THE INPUT: true; the input reads as it did. -/
def fnExactPruneSpec : ChangeSpec := { name := "fnExactPrune", fn := fun _ => fun
  | [d1, d2] => { results := [.lit (.bool true)], args := [d1, d2] }
  | _ => none }
def fnExactPruneRow : OpenClaim := { program := "ytopcpcoklgepnaa", sum := "faa8b7ee4bec966815a55ea2bd4b4ced1669ad098c49d1aed4df77a8550d4ec5", func := "loop.example/g00487/laws.FnExactPrune", spec := "fnExactPrune", inPlace := ["internal/bytealg.abigen_runtime_cmpstring"], apart := false }
def FnExactPruneSaid : Prop := fnExactPruneRow.holds Try.pinned (OpenSpec.ofChange fnExactPruneSpec)

/-- ITS FALSE NEIGHBOUR: 'it returns false'. Refute it at one input. -/
def fnExactPruneWrong : ChangeSpec := { name := "fnExactPrune", fn := fun _ => fun
  | [d1, d2] => { results := [.lit (.bool false)], args := [d1, d2] }
  | _ => none }
def FnExactPruneWrongFalsely : Prop := fnExactPruneRow.holds Try.pinned (OpenSpec.ofChange fnExactPruneWrong)

/-- 'laws.FnExactLogSince': WHATEVER THE INPUT: true; the input reads as it did. -/
def fnExactLogSinceSpec : ChangeSpec := { name := "fnExactLogSince", fn := fun _ => fun
  | [d1, d2] => { results := [.lit (.bool true)], args := [d1, d2] }
  | _ => none }
def fnExactLogSinceRow : OpenClaim := { program := "ytopcpcoklgepnaa", sum := "faa8b7ee4bec966815a55ea2bd4b4ced1669ad098c49d1aed4df77a8550d4ec5", func := "loop.example/g00487/laws.FnExactLogSince", spec := "fnExactLogSince", inPlace := ["internal/bytealg.abigen_runtime_cmpstring"], apart := false }
def FnExactLogSinceSaid : Prop := fnExactLogSinceRow.holds Try.pinned (OpenSpec.ofChange fnExactLogSinceSpec)

/-- ITS FALSE NEIGHBOUR: 'it returns false'. Refute it at one input. -/
def fnExactLogSinceWrong : ChangeSpec := { name := "fnExactLogSince", fn := fun _ => fun
  | [d1, d2] => { results := [.lit (.bool false)], args := [d1, d2] }
  | _ => none }
def FnExactLogSinceWrongFalsely : Prop := fnExactLogSinceRow.holds Try.pinned (OpenSpec.ofChange fnExactLogSinceWrong)

/-- 'laws.FnExactTreeTouch': WHATEVER THE INPUT: true; the input reads as it did. -/
def fnExactTreeTouchSpec : ChangeSpec := { name := "fnExactTreeTouch", fn := fun _ => fun
  | [d1, d2, d3] => { results := [.lit (.bool true)], args := [d1, d2, d3] }
  | _ => none }
def fnExactTreeTouchRow : OpenClaim := { program := "ytopcpcoklgepnaa", sum := "faa8b7ee4bec966815a55ea2bd4b4ced1669ad098c49d1aed4df77a8550d4ec5", func := "loop.example/g00487/laws.FnExactTreeTouch", spec := "fnExactTreeTouch", apart := false }
def FnExactTreeTouchSaid : Prop := fnExactTreeTouchRow.holds Try.pinned (OpenSpec.ofChange fnExactTreeTouchSpec)

/-- ITS FALSE NEIGHBOUR: 'it returns false'. Refute it at one input. -/
def fnExactTreeTouchWrong : ChangeSpec := { name := "fnExactTreeTouch", fn := fun _ => fun
  | [d1, d2, d3] => { results := [.lit (.bool false)], args := [d1, d2, d3] }
  | _ => none }
def FnExactTreeTouchWrongFalsely : Prop := fnExactTreeTouchRow.holds Try.pinned (OpenSpec.ofChange fnExactTreeTouchWrong)

/- THE SECOND FORM. 'bulk': how many values and letters a reading holds, each counted each time it is reached (what is shared counts as often as it is met; a slice's spare places count too). A statement '..UptoSaid' is the law's where the arguments, and the package variables that the reading takes, are together of bulk at most 1048576: NARROWER than '..Said'. Prove '..Said' where nothing that the law and all that it calls make is longer than what came in: it says more and counts as full. Else prove '..UptoSaid'. A law counts once. -/
mutual
def uptoBulk {H : Type} : DataW H → Nat
  | .lit (.string bytes) => bytes.length + 1
  | .lit _ => 1
  | .nil => 1
  | .ptr d => uptoBulk d + 1
  | .slice elems spare => uptoBulkAll elems + uptoBulkAll spare + 1
  | .agg parts => uptoBulkAll parts + 1
  | .iface _ d => uptoBulk d + 1
  | .map entries => uptoBulkEntries entries + 1
  | .held _ => 1
def uptoBulkAll {H : Type} : List (DataW H) → Nat
  | [] => 0
  | d :: r => uptoBulk d + uptoBulkAll r
def uptoBulkEntries {H : Type} : List (Lit × DataW H) → Nat
  | [] => 0
  | x :: r => uptoBulkEntry x + uptoBulkEntries r
def uptoBulkEntry {H : Type} : Lit × DataW H → Nat
  | (.string bytes, d) => bytes.length + uptoBulk d + 1
  | (_, d) => uptoBulk d + 1
 end
def uptoSmall : (H : Type) → List (DataW H) → Bool := fun _ ds => decide (uptoBulkAll ds ≤ 1048576)
def OpenSpec.upto (s : _root_.Go.ChangeSpec) : _root_.Go.OpenSpec := { _root_.Go.OpenSpec.ofChange s with cond := some uptoSmall }

/-- 'laws.FnExactLogSeq', WHERE WHAT IT READS IS OF BULK AT MOST 1048576: true; the input reads as it did. -/
def fnExactLogSeqUptoRow : OpenClaim := { program := "ytopcpcoklgepnaa", sum := "faa8b7ee4bec966815a55ea2bd4b4ced1669ad098c49d1aed4df77a8550d4ec5", func := "loop.example/g00487/laws.FnExactLogSeq", spec := "fnExactLogSeq", apart := false, narrowed := true }
def FnExactLogSeqUptoSaid : Prop := fnExactLogSeqUptoRow.holds Try.pinned (OpenSpec.upto fnExactLogSeqSpec)

/-- 'laws.FnExactMarksOf', WHERE WHAT IT READS IS OF BULK AT MOST 1048576: true; the input reads as it did. -/
def fnExactMarksOfUptoRow : OpenClaim := { program := "ytopcpcoklgepnaa", sum := "faa8b7ee4bec966815a55ea2bd4b4ced1669ad098c49d1aed4df77a8550d4ec5", func := "loop.example/g00487/laws.FnExactMarksOf", spec := "fnExactMarksOf", apart := false, narrowed := true }
def FnExactMarksOfUptoSaid : Prop := fnExactMarksOfUptoRow.holds Try.pinned (OpenSpec.upto fnExactMarksOfSpec)

/-- 'laws.FnExactMsgSame', WHERE WHAT IT READS IS OF BULK AT MOST 1048576: true; the input reads as it did. -/
def fnExactMsgSameUptoRow : OpenClaim := { program := "ytopcpcoklgepnaa", sum := "faa8b7ee4bec966815a55ea2bd4b4ced1669ad098c49d1aed4df77a8550d4ec5", func := "loop.example/g00487/laws.FnExactMsgSame", spec := "fnExactMsgSame", apart := false, narrowed := true }
def FnExactMsgSameUptoSaid : Prop := fnExactMsgSameUptoRow.holds Try.pinned (OpenSpec.upto fnExactMsgSameSpec)

/-- 'laws.FnExactLogDrop', WHERE WHAT IT READS IS OF BULK AT MOST 1048576: true; the input reads as it did. -/
def fnExactLogDropUptoRow : OpenClaim := { program := "ytopcpcoklgepnaa", sum := "faa8b7ee4bec966815a55ea2bd4b4ced1669ad098c49d1aed4df77a8550d4ec5", func := "loop.example/g00487/laws.FnExactLogDrop", spec := "fnExactLogDrop", apart := false, narrowed := true }
def FnExactLogDropUptoSaid : Prop := fnExactLogDropUptoRow.holds Try.pinned (OpenSpec.upto fnExactLogDropSpec)

/-- 'laws.FnExactMsgOk', WHERE WHAT IT READS IS OF BULK AT MOST 1048576: true; the input reads as it did. -/
def fnExactMsgOkUptoRow : OpenClaim := { program := "ytopcpcoklgepnaa", sum := "faa8b7ee4bec966815a55ea2bd4b4ced1669ad098c49d1aed4df77a8550d4ec5", func := "loop.example/g00487/laws.FnExactMsgOk", spec := "fnExactMsgOk", apart := false, narrowed := true }
def FnExactMsgOkUptoSaid : Prop := fnExactMsgOkUptoRow.holds Try.pinned (OpenSpec.upto fnExactMsgOkSpec)

/-- 'laws.FnExactLogAdd', WHERE WHAT IT READS IS OF BULK AT MOST 1048576: true; the input reads as it did. -/
def fnExactLogAddUptoRow : OpenClaim := { program := "ytopcpcoklgepnaa", sum := "faa8b7ee4bec966815a55ea2bd4b4ced1669ad098c49d1aed4df77a8550d4ec5", func := "loop.example/g00487/laws.FnExactLogAdd", spec := "fnExactLogAdd", apart := false, narrowed := true }
def FnExactLogAddUptoSaid : Prop := fnExactLogAddUptoRow.holds Try.pinned (OpenSpec.upto fnExactLogAddSpec)

/-- 'laws.FnExactSlot', WHERE WHAT IT READS IS OF BULK AT MOST 1048576: true; the input reads as it did. -/
def fnExactSlotUptoRow : OpenClaim := { program := "ytopcpcoklgepnaa", sum := "faa8b7ee4bec966815a55ea2bd4b4ced1669ad098c49d1aed4df77a8550d4ec5", func := "loop.example/g00487/laws.FnExactSlot", spec := "fnExactSlot", apart := false, narrowed := true }
def FnExactSlotUptoSaid : Prop := fnExactSlotUptoRow.holds Try.pinned (OpenSpec.upto fnExactSlotSpec)

/-- 'laws.FnExactNodeSame', WHERE WHAT IT READS IS OF BULK AT MOST 1048576: true; the input reads as it did. -/
def fnExactNodeSameUptoRow : OpenClaim := { program := "ytopcpcoklgepnaa", sum := "faa8b7ee4bec966815a55ea2bd4b4ced1669ad098c49d1aed4df77a8550d4ec5", func := "loop.example/g00487/laws.FnExactNodeSame", spec := "fnExactNodeSame", unfollowed := true, recurses := true, apart := false, narrowed := true }
def FnExactNodeSameUptoSaid : Prop := fnExactNodeSameUptoRow.holds Try.pinned (OpenSpec.upto fnExactNodeSameSpec)

/-- 'laws.FnExactPrune', WHERE WHAT IT READS IS OF BULK AT MOST 1048576: true; the input reads as it did. -/
def fnExactPruneUptoRow : OpenClaim := { program := "ytopcpcoklgepnaa", sum := "faa8b7ee4bec966815a55ea2bd4b4ced1669ad098c49d1aed4df77a8550d4ec5", func := "loop.example/g00487/laws.FnExactPrune", spec := "fnExactPrune", inPlace := ["internal/bytealg.abigen_runtime_cmpstring"], apart := false, narrowed := true }
def FnExactPruneUptoSaid : Prop := fnExactPruneUptoRow.holds Try.pinned (OpenSpec.upto fnExactPruneSpec)

/-- 'laws.FnExactLogSince', WHERE WHAT IT READS IS OF BULK AT MOST 1048576: true; the input reads as it did. -/
def fnExactLogSinceUptoRow : OpenClaim := { program := "ytopcpcoklgepnaa", sum := "faa8b7ee4bec966815a55ea2bd4b4ced1669ad098c49d1aed4df77a8550d4ec5", func := "loop.example/g00487/laws.FnExactLogSince", spec := "fnExactLogSince", inPlace := ["internal/bytealg.abigen_runtime_cmpstring"], apart := false, narrowed := true }
def FnExactLogSinceUptoSaid : Prop := fnExactLogSinceUptoRow.holds Try.pinned (OpenSpec.upto fnExactLogSinceSpec)

/-- 'laws.FnExactTreeTouch', WHERE WHAT IT READS IS OF BULK AT MOST 1048576: true; the input reads as it did. -/
def fnExactTreeTouchUptoRow : OpenClaim := { program := "ytopcpcoklgepnaa", sum := "faa8b7ee4bec966815a55ea2bd4b4ced1669ad098c49d1aed4df77a8550d4ec5", func := "loop.example/g00487/laws.FnExactTreeTouch", spec := "fnExactTreeTouch", apart := false, narrowed := true }
def FnExactTreeTouchUptoSaid : Prop := fnExactTreeTouchUptoRow.holds Try.pinned (OpenSpec.upto fnExactTreeTouchSpec)

end Rows
end Go.Proofs.Ytopcpcoklgepnaa
