/-
  DERIVED. GIVEN WITH THE SEED: THE CARDS: each row of YtbmbaalidehoeaaDoorRows.lean that lists a variable, with what it lists TIED to the program's text (the seventh form; the later family's looks); each row that meets fmt, with fmt's text TOLD by the authors' own Lean function (tested against real Go, not proved from fmt's source: count such statements apart). THE CARD IS WHAT COUNTS. Prove the row's statement (the work); the ties are given (YtbmbaalidehoeaaDoorTie.lean); close each card by the builder's one call (the guide's Derived/Test/ToyasCard.lean, 'card_holds'). Laid BY PROGRAM, IN A SANDBOX (cutbox-door.mjs). By AI agents, Wed Nov 11 2026. No macro, syntax, notation, axiom, sorry.
-/
import Derived.Test.YtbmbaalidehoeaaDoorRows
import GoSem.ClaimSeven
namespace Go.Proofs.YtbmbaalidehoeaaDoor
namespace Rows

/-- THE TIED CARD OF 'sennitlaw22.MembersRun'. -/
def membersRunCard : Claim7 := { stood := { row := membersRunRow, standIns := [], harness := (true, "3dc791b465a095814881d71a5f2b5e91b1d791b5df79e8b234a5152a3f469b66"), looks := false }, kinds := [], alts := [], laidByText := true, laidKinds := [.data], laidTests := true, laidLooks := .later }
def MembersRunCardSaid : Prop := Claim7.holds Tryd.pinned (.plain (OpenSpec.ofChange membersRunSpec)) membersRunCard

/-- THE TIED CARD OF 'sennitlaw22.MembersOrder'. -/
def membersOrderCard : Claim7 := { stood := { row := membersOrderRow, standIns := [], harness := (true, "3dc791b465a095814881d71a5f2b5e91b1d791b5df79e8b234a5152a3f469b66"), looks := false }, kinds := [], alts := [], laidByText := true, laidKinds := [.data], laidTests := true, laidLooks := .later }
def MembersOrderCardSaid : Prop := Claim7.holds Tryd.pinned (.plain (OpenSpec.ofChange membersOrderSpec)) membersOrderCard

/-- THE TIED CARD OF 'sennitlaw22.MembersBase'. -/
def membersBaseCard : Claim7 := { stood := { row := membersBaseRow, standIns := [], harness := (true, "3dc791b465a095814881d71a5f2b5e91b1d791b5df79e8b234a5152a3f469b66"), looks := false }, kinds := [], alts := [], laidByText := true, laidKinds := [.data], laidTests := true, laidLooks := .later }
def MembersBaseCardSaid : Prop := Claim7.holds Tryd.pinned (.plain (OpenSpec.ofChange membersBaseSpec)) membersBaseCard

/-- THE TIED CARD OF 'sennitlaw22.MembersAgree'. -/
def membersAgreeCard : Claim7 := { stood := { row := membersAgreeRow, standIns := [], harness := (true, "3dc791b465a095814881d71a5f2b5e91b1d791b5df79e8b234a5152a3f469b66"), looks := false }, kinds := [], alts := [], laidByText := true, laidKinds := [.data], laidTests := true, laidLooks := .later }
def MembersAgreeCardSaid : Prop := Claim7.holds Tryd.pinned (.plain (OpenSpec.ofChange membersAgreeSpec)) membersAgreeCard

/-- THE SECOND FORM's CARD OF 'sennitlaw22.MembersRun'. -/
def membersRunUptoCard : Claim7 := { stood := { row := membersRunUptoRow, standIns := [], harness := (true, "3dc791b465a095814881d71a5f2b5e91b1d791b5df79e8b234a5152a3f469b66"), looks := false }, kinds := [], alts := [], laidByText := true, laidKinds := [.data], laidTests := true, laidLooks := .later }
def MembersRunUptoCardSaid : Prop := Claim7.holds Tryd.pinned (.plain (OpenSpec.upto membersRunSpec)) membersRunUptoCard

/-- THE SECOND FORM's CARD OF 'sennitlaw22.MembersOrder'. -/
def membersOrderUptoCard : Claim7 := { stood := { row := membersOrderUptoRow, standIns := [], harness := (true, "3dc791b465a095814881d71a5f2b5e91b1d791b5df79e8b234a5152a3f469b66"), looks := false }, kinds := [], alts := [], laidByText := true, laidKinds := [.data], laidTests := true, laidLooks := .later }
def MembersOrderUptoCardSaid : Prop := Claim7.holds Tryd.pinned (.plain (OpenSpec.upto membersOrderSpec)) membersOrderUptoCard

/-- THE SECOND FORM's CARD OF 'sennitlaw22.MembersBase'. -/
def membersBaseUptoCard : Claim7 := { stood := { row := membersBaseUptoRow, standIns := [], harness := (true, "3dc791b465a095814881d71a5f2b5e91b1d791b5df79e8b234a5152a3f469b66"), looks := false }, kinds := [], alts := [], laidByText := true, laidKinds := [.data], laidTests := true, laidLooks := .later }
def MembersBaseUptoCardSaid : Prop := Claim7.holds Tryd.pinned (.plain (OpenSpec.upto membersBaseSpec)) membersBaseUptoCard

/-- THE SECOND FORM's CARD OF 'sennitlaw22.MembersAgree'. -/
def membersAgreeUptoCard : Claim7 := { stood := { row := membersAgreeUptoRow, standIns := [], harness := (true, "3dc791b465a095814881d71a5f2b5e91b1d791b5df79e8b234a5152a3f469b66"), looks := false }, kinds := [], alts := [], laidByText := true, laidKinds := [.data], laidTests := true, laidLooks := .later }
def MembersAgreeUptoCardSaid : Prop := Claim7.holds Tryd.pinned (.plain (OpenSpec.upto membersAgreeSpec)) membersAgreeUptoCard
end Rows
end Go.Proofs.YtbmbaalidehoeaaDoor
