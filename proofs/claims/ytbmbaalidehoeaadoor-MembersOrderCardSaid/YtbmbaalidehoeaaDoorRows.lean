/-
  NARROWER THAN 'FOR EVERY INPUT', by the rows' own cells (each row's printed sentence says how): MembersRun: laid · MembersOrder: laid · MembersBase: laid · MembersAgree: laid.
  DERIVED. THE GIVEN ROWS OF THIS SEAT. 4 by the template 'for every input the law returns true; each argument reads behind the call as it read before'; 0 by the template 'total and deterministic' (their statements: YtbmbaalidehoeaaDoorTotals.lean).
  GIVEN WITH THE SEED: the statements are not yours to turn. If you find one false, say at which input.
  Laid BY PROGRAM, IN A SANDBOX (cutbox-rows.mjs): the forced cells as the released guide's own fill.sh prints them over the translation a8592d7a13e52a9d… (all of the seat's roots in one cut). By AI agents, Wed Nov 11 2026. No macro, syntax, notation, axiom, sorry.
-/
import Derived.Test.YtbmbaalidehoeaaDoorChecked
import GoSem.Claim
import GoSem.ClaimJoined
import GoSem.ClaimMapViews
import Derived.JoinedTies
import Derived.KernelRfl
namespace Go.Proofs.YtbmbaalidehoeaaDoor
/- THE CELL 'sum', in the pinned program and in every row, IS THE sha256 OF THE DUMP (.gsa) THAT YtbmbaalidehoeaaDoorProg.lean LOADS. Nothing in Lean hashes anything: it is a label: what it is worth is what the hold of that sum in a sandbox is worth. -/
noncomputable def Tryd.pinned : Pinned := { name := "ytbmbaalidehoeaadoor", sum := "a8592d7a13e52a9d98339944b08ed1ac2cb341bb43cccc63d4c9d2f4cc4d2de5", checked := Tryd.checked }
namespace Rows
def none {H : Type} : Left H := { results := [], args := [] }

/- WHAT THE LISTED PACKAGE-LEVEL VARIABLES READ AS WHEN THE CALL BEGINS. Each datum BY PROGRAM (the guide's laid-datum.mjs) off the statement by which the dump's own 'gosem.cut.vars' lays the variable. In a bare row this is a premise. The card (YtbmbaalidehoeaaDoorCards.lean) ties it to the program's text. -/
def laid_sennit_rings_signs {H : Type} : DataW H := .agg [.lit (.int .i64 1), .lit (.int .i64 (-1))]

/-- 'sennitlaw22.MembersRun': WHATEVER THE INPUT: true; the input reads as it did. -/
def membersRunSpec : ChangeSpec := { name := "membersRun", fn := fun _ => fun
  | [d1, d2, d3] => { results := [.lit (.bool true)], args := [d1, d2, d3] }
  | _ => none }
def membersRunRow : OpenClaim := { program := "ytbmbaalidehoeaadoor", sum := "a8592d7a13e52a9d98339944b08ed1ac2cb341bb43cccc63d4c9d2f4cc4d2de5", func := "sennit/sennitlaw22.MembersRun", spec := "membersRun", unfollowed := true, recurses := true, named := ["sennit/rings.signs"], plainKeys := false, apart := false, laid := [("sennit/rings.signs", laid_sennit_rings_signs)] }
def MembersRunSaid : Prop := membersRunRow.holds Tryd.pinned (OpenSpec.ofChange membersRunSpec)

/-- ITS FALSE NEIGHBOUR: 'it returns false'. Refute it at one input. -/
def membersRunWrong : ChangeSpec := { name := "membersRun", fn := fun _ => fun
  | [d1, d2, d3] => { results := [.lit (.bool false)], args := [d1, d2, d3] }
  | _ => none }
def MembersRunWrongFalsely : Prop := membersRunRow.holds Tryd.pinned (OpenSpec.ofChange membersRunWrong)

/-- 'sennitlaw22.MembersOrder': WHATEVER THE INPUT: true; the input reads as it did. -/
def membersOrderSpec : ChangeSpec := { name := "membersOrder", fn := fun _ => fun
  | [d1, d2, d3] => { results := [.lit (.bool true)], args := [d1, d2, d3] }
  | _ => none }
def membersOrderRow : OpenClaim := { program := "ytbmbaalidehoeaadoor", sum := "a8592d7a13e52a9d98339944b08ed1ac2cb341bb43cccc63d4c9d2f4cc4d2de5", func := "sennit/sennitlaw22.MembersOrder", spec := "membersOrder", unfollowed := true, recurses := true, named := ["sennit/rings.signs"], plainKeys := false, apart := false, laid := [("sennit/rings.signs", laid_sennit_rings_signs)] }
def MembersOrderSaid : Prop := membersOrderRow.holds Tryd.pinned (OpenSpec.ofChange membersOrderSpec)

/-- ITS FALSE NEIGHBOUR: 'it returns false'. Refute it at one input. -/
def membersOrderWrong : ChangeSpec := { name := "membersOrder", fn := fun _ => fun
  | [d1, d2, d3] => { results := [.lit (.bool false)], args := [d1, d2, d3] }
  | _ => none }
def MembersOrderWrongFalsely : Prop := membersOrderRow.holds Tryd.pinned (OpenSpec.ofChange membersOrderWrong)

/-- 'sennitlaw22.MembersBase': WHATEVER THE INPUT: true; the input reads as it did. -/
def membersBaseSpec : ChangeSpec := { name := "membersBase", fn := fun _ => fun
  | [d1, d2] => { results := [.lit (.bool true)], args := [d1, d2] }
  | _ => none }
def membersBaseRow : OpenClaim := { program := "ytbmbaalidehoeaadoor", sum := "a8592d7a13e52a9d98339944b08ed1ac2cb341bb43cccc63d4c9d2f4cc4d2de5", func := "sennit/sennitlaw22.MembersBase", spec := "membersBase", unfollowed := true, recurses := true, named := ["sennit/rings.signs"], plainKeys := false, apart := false, laid := [("sennit/rings.signs", laid_sennit_rings_signs)] }
def MembersBaseSaid : Prop := membersBaseRow.holds Tryd.pinned (OpenSpec.ofChange membersBaseSpec)

/-- ITS FALSE NEIGHBOUR: 'it returns false'. Refute it at one input. -/
def membersBaseWrong : ChangeSpec := { name := "membersBase", fn := fun _ => fun
  | [d1, d2] => { results := [.lit (.bool false)], args := [d1, d2] }
  | _ => none }
def MembersBaseWrongFalsely : Prop := membersBaseRow.holds Tryd.pinned (OpenSpec.ofChange membersBaseWrong)

/-- 'sennitlaw22.MembersAgree': WHATEVER THE INPUT: true; the input reads as it did. -/
def membersAgreeSpec : ChangeSpec := { name := "membersAgree", fn := fun _ => fun
  | [d1, d2, d3] => { results := [.lit (.bool true)], args := [d1, d2, d3] }
  | _ => none }
def membersAgreeRow : OpenClaim := { program := "ytbmbaalidehoeaadoor", sum := "a8592d7a13e52a9d98339944b08ed1ac2cb341bb43cccc63d4c9d2f4cc4d2de5", func := "sennit/sennitlaw22.MembersAgree", spec := "membersAgree", unfollowed := true, recurses := true, named := ["sennit/rings.signs"], plainKeys := false, apart := false, laid := [("sennit/rings.signs", laid_sennit_rings_signs)] }
def MembersAgreeSaid : Prop := membersAgreeRow.holds Tryd.pinned (OpenSpec.ofChange membersAgreeSpec)

/-- ITS FALSE NEIGHBOUR: 'it returns false'. Refute it at one input. -/
def membersAgreeWrong : ChangeSpec := { name := "membersAgree", fn := fun _ => fun
  | [d1, d2, d3] => { results := [.lit (.bool false)], args := [d1, d2, d3] }
  | _ => none }
def MembersAgreeWrongFalsely : Prop := membersAgreeRow.holds Tryd.pinned (OpenSpec.ofChange membersAgreeWrong)

/- THE SECOND FORM. 'bulk': how many values and letters a reading holds, each counted each time it is reached (what is shared counts as often as it is met; a slice's spare places count too). A statement '..UptoSaid' is the law's where the arguments, and the package variables that the reading takes, are together of bulk at most 1048576: NARROWER than '..Said'. Prove '..Said' where nothing that the law and all that it calls make is longer than what came in: it says more and counts as full. Else prove '..UptoSaid'. A law counts once. -/
mutual
def uptoBulk {H : Type} : DataW H → Nat
  | .lit (.string bytes) => bytes.length + 1
  | .lit _ => 1
  | .nil => 1
  | .ptr d => uptoBulk d + 1
  | .slice elems spare => uptoBulkAll elems + uptoBulkAll spare + 1
  | .agg parts => uptoBulkAll parts + 1
  | .iface _ d => uptoBulk d + 1
  | .map entries => uptoBulkEntries entries + 1
  | .held _ => 1
def uptoBulkAll {H : Type} : List (DataW H) → Nat
  | [] => 0
  | d :: r => uptoBulk d + uptoBulkAll r
def uptoBulkEntries {H : Type} : List (Lit × DataW H) → Nat
  | [] => 0
  | x :: r => uptoBulkEntry x + uptoBulkEntries r
def uptoBulkEntry {H : Type} : Lit × DataW H → Nat
  | (.string bytes, d) => bytes.length + uptoBulk d + 1
  | (_, d) => uptoBulk d + 1
 end
def uptoSmall : (H : Type) → List (DataW H) → Bool := fun _ ds => decide (uptoBulkAll ds ≤ 1048576)
def OpenSpec.upto (s : _root_.Go.ChangeSpec) : _root_.Go.OpenSpec := { _root_.Go.OpenSpec.ofChange s with cond := some uptoSmall }

/-- 'sennitlaw22.MembersRun', WHERE WHAT IT READS IS OF BULK AT MOST 1048576: true; the input reads as it did. -/
def membersRunUptoRow : OpenClaim := { program := "ytbmbaalidehoeaadoor", sum := "a8592d7a13e52a9d98339944b08ed1ac2cb341bb43cccc63d4c9d2f4cc4d2de5", func := "sennit/sennitlaw22.MembersRun", spec := "membersRun", unfollowed := true, recurses := true, named := ["sennit/rings.signs"], plainKeys := false, apart := false, laid := [("sennit/rings.signs", laid_sennit_rings_signs)], narrowed := true }
def MembersRunUptoSaid : Prop := membersRunUptoRow.holds Tryd.pinned (OpenSpec.upto membersRunSpec)

/-- 'sennitlaw22.MembersOrder', WHERE WHAT IT READS IS OF BULK AT MOST 1048576: true; the input reads as it did. -/
def membersOrderUptoRow : OpenClaim := { program := "ytbmbaalidehoeaadoor", sum := "a8592d7a13e52a9d98339944b08ed1ac2cb341bb43cccc63d4c9d2f4cc4d2de5", func := "sennit/sennitlaw22.MembersOrder", spec := "membersOrder", unfollowed := true, recurses := true, named := ["sennit/rings.signs"], plainKeys := false, apart := false, laid := [("sennit/rings.signs", laid_sennit_rings_signs)], narrowed := true }
def MembersOrderUptoSaid : Prop := membersOrderUptoRow.holds Tryd.pinned (OpenSpec.upto membersOrderSpec)

/-- 'sennitlaw22.MembersBase', WHERE WHAT IT READS IS OF BULK AT MOST 1048576: true; the input reads as it did. -/
def membersBaseUptoRow : OpenClaim := { program := "ytbmbaalidehoeaadoor", sum := "a8592d7a13e52a9d98339944b08ed1ac2cb341bb43cccc63d4c9d2f4cc4d2de5", func := "sennit/sennitlaw22.MembersBase", spec := "membersBase", unfollowed := true, recurses := true, named := ["sennit/rings.signs"], plainKeys := false, apart := false, laid := [("sennit/rings.signs", laid_sennit_rings_signs)], narrowed := true }
def MembersBaseUptoSaid : Prop := membersBaseUptoRow.holds Tryd.pinned (OpenSpec.upto membersBaseSpec)

/-- 'sennitlaw22.MembersAgree', WHERE WHAT IT READS IS OF BULK AT MOST 1048576: true; the input reads as it did. -/
def membersAgreeUptoRow : OpenClaim := { program := "ytbmbaalidehoeaadoor", sum := "a8592d7a13e52a9d98339944b08ed1ac2cb341bb43cccc63d4c9d2f4cc4d2de5", func := "sennit/sennitlaw22.MembersAgree", spec := "membersAgree", unfollowed := true, recurses := true, named := ["sennit/rings.signs"], plainKeys := false, apart := false, laid := [("sennit/rings.signs", laid_sennit_rings_signs)], narrowed := true }
def MembersAgreeUptoSaid : Prop := membersAgreeUptoRow.holds Tryd.pinned (OpenSpec.upto membersAgreeSpec)

end Rows
end Go.Proofs.YtbmbaalidehoeaaDoor
