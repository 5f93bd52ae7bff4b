/-
  DERIVED. GIVEN WITH THE SEED: THE CARDS: each row of YtpcabnnihdjhpaaDoorRows.lean that lists a variable, with what it lists TIED to the program's text (the seventh form; the later family's looks); each row that meets fmt, with fmt's text TOLD by the authors' own Lean function (tested against real Go, not proved from fmt's source: count such statements apart). THE CARD IS WHAT COUNTS. Prove the row's statement (the work); the ties are given (YtpcabnnihdjhpaaDoorTie.lean); close each card by the builder's one call (the guide's Derived/Test/ToyasCard.lean, 'card_holds'). Laid BY PROGRAM, IN A SANDBOX (cutbox-door.mjs). By AI agents, Wed Nov 11 2026. No macro, syntax, notation, axiom, sorry.
-/
import Derived.Test.YtpcabnnihdjhpaaDoorRows
import GoSem.ClaimSeven
namespace Go.Proofs.YtpcabnnihdjhpaaDoor
namespace Rows

/-- THE TIED CARD OF 'sennitlaw28.ModelsChoose'. -/
def modelsChooseCard : Claim7 := { stood := { row := modelsChooseRow, standIns := [], harness := (true, "2f4f85988bef7495e377f2a39c8e4d9e68a3d17b4d01308cbc94b86d0abf10c6"), looks := false }, kinds := [], alts := [], laidByText := true, laidKinds := [.data], laidTests := true, laidLooks := .later }
def ModelsChooseCardSaid : Prop := Claim7.holds Tryd.pinned (.plain (OpenSpec.ofChange modelsChooseSpec)) modelsChooseCard

/-- THE SECOND FORM's CARD OF 'sennitlaw28.ModelsChoose'. -/
def modelsChooseUptoCard : Claim7 := { stood := { row := modelsChooseUptoRow, standIns := [], harness := (true, "2f4f85988bef7495e377f2a39c8e4d9e68a3d17b4d01308cbc94b86d0abf10c6"), looks := false }, kinds := [], alts := [], laidByText := true, laidKinds := [.data], laidTests := true, laidLooks := .later }
def ModelsChooseUptoCardSaid : Prop := Claim7.holds Tryd.pinned (.plain (OpenSpec.upto modelsChooseSpec)) modelsChooseUptoCard
end Rows
end Go.Proofs.YtpcabnnihdjhpaaDoor
