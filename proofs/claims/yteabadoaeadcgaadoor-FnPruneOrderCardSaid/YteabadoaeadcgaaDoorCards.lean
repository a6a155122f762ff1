/-
  DERIVED. GIVEN WITH THE SEED: THE CARDS: each row of YteabadoaeadcgaaDoorRows.lean that lists a variable, with what it lists TIED to the program's text (the seventh form; the later family's looks); each row that meets fmt, with fmt's text TOLD by the authors' own Lean function (tested against real Go, not proved from fmt's source: count such statements apart). THE CARD IS WHAT COUNTS. Prove the row's statement (the work); the ties are given (YteabadoaeadcgaaDoorTie.lean); close each card by the builder's one call (the guide's Derived/Test/ToyasCard.lean, 'card_holds'). Laid BY PROGRAM, IN A SANDBOX (cutbox-door.mjs). By AI agents, Wed Nov 11 2026. No macro, syntax, notation, axiom, sorry.
-/
import Derived.Test.YteabadoaeadcgaaDoorRows
import GoSem.ClaimSeven
namespace Go.Proofs.YteabadoaeadcgaaDoor
namespace Rows

/-- THE TIED CARD OF 'laws.FnPruneOrder'. -/
def fnPruneOrderCard : Claim7 := { stood := { row := fnPruneOrderRow, standIns := [], harness := (true, "b7552ed8d353f1c8e6e43cb86fa85baf5a00697e0a7dc3e3bddc8cc0dfcba8e9"), looks := false }, kinds := [], alts := [], laidByText := true, laidKinds := [.data, .data, .data], laidTests := true, laidLooks := .later }
def FnPruneOrderCardSaid : Prop := Claim7.holds Tryd.pinned (.plain (OpenSpec.ofChange fnPruneOrderSpec)) fnPruneOrderCard

/-- THE TIED CARD OF 'laws.FnMarks'. -/
def fnMarksCard : Claim7 := { stood := { row := fnMarksRow, standIns := [], harness := (true, "b7552ed8d353f1c8e6e43cb86fa85baf5a00697e0a7dc3e3bddc8cc0dfcba8e9"), looks := false }, kinds := [], alts := [], laidByText := true, laidKinds := [.data, .data, .data], laidTests := true, laidLooks := .later }
def FnMarksCardSaid : Prop := Claim7.holds Tryd.pinned (.plain (OpenSpec.ofChange fnMarksSpec)) fnMarksCard

/-- THE SECOND FORM's CARD OF 'laws.FnPruneOrder'. -/
def fnPruneOrderUptoCard : Claim7 := { stood := { row := fnPruneOrderUptoRow, standIns := [], harness := (true, "b7552ed8d353f1c8e6e43cb86fa85baf5a00697e0a7dc3e3bddc8cc0dfcba8e9"), looks := false }, kinds := [], alts := [], laidByText := true, laidKinds := [.data, .data, .data], laidTests := true, laidLooks := .later }
def FnPruneOrderUptoCardSaid : Prop := Claim7.holds Tryd.pinned (.plain (OpenSpec.upto fnPruneOrderSpec)) fnPruneOrderUptoCard

/-- THE SECOND FORM's CARD OF 'laws.FnMarks'. -/
def fnMarksUptoCard : Claim7 := { stood := { row := fnMarksUptoRow, standIns := [], harness := (true, "b7552ed8d353f1c8e6e43cb86fa85baf5a00697e0a7dc3e3bddc8cc0dfcba8e9"), looks := false }, kinds := [], alts := [], laidByText := true, laidKinds := [.data, .data, .data], laidTests := true, laidLooks := .later }
def FnMarksUptoCardSaid : Prop := Claim7.holds Tryd.pinned (.plain (OpenSpec.upto fnMarksSpec)) fnMarksUptoCard
end Rows
end Go.Proofs.YteabadoaeadcgaaDoor
