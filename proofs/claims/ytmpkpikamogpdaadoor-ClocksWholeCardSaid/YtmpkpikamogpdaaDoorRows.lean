/-
  NARROWER THAN 'FOR EVERY INPUT', by the rows' own cells (each row's printed sentence says how): ActuatorsHold: laid · ActuatorsAny: laid · ActuatorsRun: laid · ClocksOf: laid · ClocksBack: laid · ClocksWhole: laid · ClocksVoid: laid · ClocksGo: laid.
  DERIVED. THE GIVEN ROWS OF THIS SEAT. 8 by the template 'for every input the law returns true; each argument reads behind the call as it read before'; 0 by the template 'total and deterministic' (their statements: YtmpkpikamogpdaaDoorTotals.lean).
  GIVEN WITH THE SEED: the statements are not yours to turn. If you find one false, say at which input.
  Laid BY PROGRAM, IN A SANDBOX (cutbox-rows.mjs): the forced cells as the released guide's own fill.sh prints them over the translation 5475a8c468eadc0c… (all of the seat's roots in one cut). By AI agents, Wed Nov 11 2026. No macro, syntax, notation, axiom, sorry.
-/
import Derived.Test.YtmpkpikamogpdaaDoorChecked
import GoSem.Claim
import GoSem.ClaimJoined
import GoSem.ClaimMapViews
import Derived.JoinedTies
import Derived.KernelRfl
namespace Go.Proofs.YtmpkpikamogpdaaDoor
/- THE CELL 'sum', in the pinned program and in every row, IS THE sha256 OF THE DUMP (.gsa) THAT YtmpkpikamogpdaaDoorProg.lean LOADS. Nothing in Lean hashes anything: it is a label: what it is worth is what the hold of that sum in a sandbox is worth. -/
noncomputable def Tryd.pinned : Pinned := { name := "ytmpkpikamogpdaadoor", sum := "5475a8c468eadc0cd275448b6f9697186f4d3d0753c7ac7762c3a7db65097e41", checked := Tryd.checked }
namespace Rows
def none {H : Type} : Left H := { results := [], args := [] }

/- WHAT THE LISTED PACKAGE-LEVEL VARIABLES READ AS WHEN THE CALL BEGINS. Each datum BY PROGRAM (the guide's laid-datum.mjs) off the statement by which the dump's own 'gosem.cut.vars' lays the variable. In a bare row this is a premise. The card (YtmpkpikamogpdaaDoorCards.lean) ties it to the program's text. -/
def laid_sennit_rings_signs {H : Type} : DataW H := .agg [.lit (.int .i64 1), .lit (.int .i64 (-1))]

/-- 'sennitlaw26.ActuatorsHold': WHATEVER THE INPUT: true; the input reads as it did. -/
def actuatorsHoldSpec : ChangeSpec := { name := "actuatorsHold", fn := fun _ => fun
  | [d1, d2, d3] => { results := [.lit (.bool true)], args := [d1, d2, d3] }
  | _ => none }
def actuatorsHoldRow : OpenClaim := { program := "ytmpkpikamogpdaadoor", sum := "5475a8c468eadc0cd275448b6f9697186f4d3d0753c7ac7762c3a7db65097e41", func := "sennit/sennitlaw26.ActuatorsHold", spec := "actuatorsHold", unfollowed := true, recurses := true, named := ["sennit/rings.signs"], apart := false, laid := [("sennit/rings.signs", laid_sennit_rings_signs)] }
def ActuatorsHoldSaid : Prop := actuatorsHoldRow.holds Tryd.pinned (OpenSpec.ofChange actuatorsHoldSpec)

/-- ITS FALSE NEIGHBOUR: 'it returns false'. Refute it at one input. -/
def actuatorsHoldWrong : ChangeSpec := { name := "actuatorsHold", fn := fun _ => fun
  | [d1, d2, d3] => { results := [.lit (.bool false)], args := [d1, d2, d3] }
  | _ => none }
def ActuatorsHoldWrongFalsely : Prop := actuatorsHoldRow.holds Tryd.pinned (OpenSpec.ofChange actuatorsHoldWrong)

/-- 'sennitlaw26.ActuatorsAny': WHATEVER THE INPUT: true; the input reads as it did. -/
def actuatorsAnySpec : ChangeSpec := { name := "actuatorsAny", fn := fun _ => fun
  | [d1, d2] => { results := [.lit (.bool true)], args := [d1, d2] }
  | _ => none }
def actuatorsAnyRow : OpenClaim := { program := "ytmpkpikamogpdaadoor", sum := "5475a8c468eadc0cd275448b6f9697186f4d3d0753c7ac7762c3a7db65097e41", func := "sennit/sennitlaw26.ActuatorsAny", spec := "actuatorsAny", unfollowed := true, recurses := true, named := ["sennit/rings.signs"], apart := false, laid := [("sennit/rings.signs", laid_sennit_rings_signs)] }
def ActuatorsAnySaid : Prop := actuatorsAnyRow.holds Tryd.pinned (OpenSpec.ofChange actuatorsAnySpec)

/-- ITS FALSE NEIGHBOUR: 'it returns false'. Refute it at one input. -/
def actuatorsAnyWrong : ChangeSpec := { name := "actuatorsAny", fn := fun _ => fun
  | [d1, d2] => { results := [.lit (.bool false)], args := [d1, d2] }
  | _ => none }
def ActuatorsAnyWrongFalsely : Prop := actuatorsAnyRow.holds Tryd.pinned (OpenSpec.ofChange actuatorsAnyWrong)

/-- 'sennitlaw26.ActuatorsRun': WHATEVER THE INPUT: true; the input reads as it did. -/
def actuatorsRunSpec : ChangeSpec := { name := "actuatorsRun", fn := fun _ => fun
  | [d1, d2, d3] => { results := [.lit (.bool true)], args := [d1, d2, d3] }
  | _ => none }
def actuatorsRunRow : OpenClaim := { program := "ytmpkpikamogpdaadoor", sum := "5475a8c468eadc0cd275448b6f9697186f4d3d0753c7ac7762c3a7db65097e41", func := "sennit/sennitlaw26.ActuatorsRun", spec := "actuatorsRun", unfollowed := true, recurses := true, named := ["sennit/rings.signs"], apart := false, laid := [("sennit/rings.signs", laid_sennit_rings_signs)] }
def ActuatorsRunSaid : Prop := actuatorsRunRow.holds Tryd.pinned (OpenSpec.ofChange actuatorsRunSpec)

/-- ITS FALSE NEIGHBOUR: 'it returns false'. Refute it at one input. -/
def actuatorsRunWrong : ChangeSpec := { name := "actuatorsRun", fn := fun _ => fun
  | [d1, d2, d3] => { results := [.lit (.bool false)], args := [d1, d2, d3] }
  | _ => none }
def ActuatorsRunWrongFalsely : Prop := actuatorsRunRow.holds Tryd.pinned (OpenSpec.ofChange actuatorsRunWrong)

/-- 'sennitlaw06.ClocksOf': WHATEVER THE INPUT: true; the input reads as it did. -/
def clocksOfSpec : ChangeSpec := { name := "clocksOf", fn := fun _ => fun
  | [d1, d2, d3] => { results := [.lit (.bool true)], args := [d1, d2, d3] }
  | _ => none }
def clocksOfRow : OpenClaim := { program := "ytmpkpikamogpdaadoor", sum := "5475a8c468eadc0cd275448b6f9697186f4d3d0753c7ac7762c3a7db65097e41", func := "sennit/sennitlaw06.ClocksOf", spec := "clocksOf", unfollowed := true, recurses := true, named := ["sennit/rings.signs"], apart := false, laid := [("sennit/rings.signs", laid_sennit_rings_signs)] }
def ClocksOfSaid : Prop := clocksOfRow.holds Tryd.pinned (OpenSpec.ofChange clocksOfSpec)

/-- ITS FALSE NEIGHBOUR: 'it returns false'. Refute it at one input. -/
def clocksOfWrong : ChangeSpec := { name := "clocksOf", fn := fun _ => fun
  | [d1, d2, d3] => { results := [.lit (.bool false)], args := [d1, d2, d3] }
  | _ => none }
def ClocksOfWrongFalsely : Prop := clocksOfRow.holds Tryd.pinned (OpenSpec.ofChange clocksOfWrong)

/-- 'sennitlaw06.ClocksBack': WHATEVER THE INPUT: true; the input reads as it did. -/
def clocksBackSpec : ChangeSpec := { name := "clocksBack", fn := fun _ => fun
  | [d1, d2] => { results := [.lit (.bool true)], args := [d1, d2] }
  | _ => none }
def clocksBackRow : OpenClaim := { program := "ytmpkpikamogpdaadoor", sum := "5475a8c468eadc0cd275448b6f9697186f4d3d0753c7ac7762c3a7db65097e41", func := "sennit/sennitlaw06.ClocksBack", spec := "clocksBack", unfollowed := true, recurses := true, named := ["sennit/rings.signs"], apart := false, laid := [("sennit/rings.signs", laid_sennit_rings_signs)] }
def ClocksBackSaid : Prop := clocksBackRow.holds Tryd.pinned (OpenSpec.ofChange clocksBackSpec)

/-- ITS FALSE NEIGHBOUR: 'it returns false'. Refute it at one input. -/
def clocksBackWrong : ChangeSpec := { name := "clocksBack", fn := fun _ => fun
  | [d1, d2] => { results := [.lit (.bool false)], args := [d1, d2] }
  | _ => none }
def ClocksBackWrongFalsely : Prop := clocksBackRow.holds Tryd.pinned (OpenSpec.ofChange clocksBackWrong)

/-- 'sennitlaw06.ClocksWhole': WHATEVER THE INPUT: true; the input reads as it did. -/
def clocksWholeSpec : ChangeSpec := { name := "clocksWhole", fn := fun _ => fun
  | [d1, d2] => { results := [.lit (.bool true)], args := [d1, d2] }
  | _ => none }
def clocksWholeRow : OpenClaim := { program := "ytmpkpikamogpdaadoor", sum := "5475a8c468eadc0cd275448b6f9697186f4d3d0753c7ac7762c3a7db65097e41", func := "sennit/sennitlaw06.ClocksWhole", spec := "clocksWhole", unfollowed := true, recurses := true, named := ["sennit/rings.signs"], apart := false, laid := [("sennit/rings.signs", laid_sennit_rings_signs)] }
def ClocksWholeSaid : Prop := clocksWholeRow.holds Tryd.pinned (OpenSpec.ofChange clocksWholeSpec)

/-- ITS FALSE NEIGHBOUR: 'it returns false'. Refute it at one input. -/
def clocksWholeWrong : ChangeSpec := { name := "clocksWhole", fn := fun _ => fun
  | [d1, d2] => { results := [.lit (.bool false)], args := [d1, d2] }
  | _ => none }
def ClocksWholeWrongFalsely : Prop := clocksWholeRow.holds Tryd.pinned (OpenSpec.ofChange clocksWholeWrong)

/-- 'sennitlaw06.ClocksVoid': WHATEVER THE INPUT: true; the input reads as it did. -/
def clocksVoidSpec : ChangeSpec := { name := "clocksVoid", fn := fun _ => fun
  | [d1, d2] => { results := [.lit (.bool true)], args := [d1, d2] }
  | _ => none }
def clocksVoidRow : OpenClaim := { program := "ytmpkpikamogpdaadoor", sum := "5475a8c468eadc0cd275448b6f9697186f4d3d0753c7ac7762c3a7db65097e41", func := "sennit/sennitlaw06.ClocksVoid", spec := "clocksVoid", unfollowed := true, recurses := true, named := ["sennit/rings.signs"], apart := false, laid := [("sennit/rings.signs", laid_sennit_rings_signs)] }
def ClocksVoidSaid : Prop := clocksVoidRow.holds Tryd.pinned (OpenSpec.ofChange clocksVoidSpec)

/-- ITS FALSE NEIGHBOUR: 'it returns false'. Refute it at one input. -/
def clocksVoidWrong : ChangeSpec := { name := "clocksVoid", fn := fun _ => fun
  | [d1, d2] => { results := [.lit (.bool false)], args := [d1, d2] }
  | _ => none }
def ClocksVoidWrongFalsely : Prop := clocksVoidRow.holds Tryd.pinned (OpenSpec.ofChange clocksVoidWrong)

/-- 'sennitlaw06.ClocksGo': WHATEVER THE INPUT: true; the input reads as it did. -/
def clocksGoSpec : ChangeSpec := { name := "clocksGo", fn := fun _ => fun
  | [d1, d2] => { results := [.lit (.bool true)], args := [d1, d2] }
  | _ => none }
def clocksGoRow : OpenClaim := { program := "ytmpkpikamogpdaadoor", sum := "5475a8c468eadc0cd275448b6f9697186f4d3d0753c7ac7762c3a7db65097e41", func := "sennit/sennitlaw06.ClocksGo", spec := "clocksGo", unfollowed := true, recurses := true, named := ["sennit/rings.signs"], apart := false, laid := [("sennit/rings.signs", laid_sennit_rings_signs)] }
def ClocksGoSaid : Prop := clocksGoRow.holds Tryd.pinned (OpenSpec.ofChange clocksGoSpec)

/-- ITS FALSE NEIGHBOUR: 'it returns false'. Refute it at one input. -/
def clocksGoWrong : ChangeSpec := { name := "clocksGo", fn := fun _ => fun
  | [d1, d2] => { results := [.lit (.bool false)], args := [d1, d2] }
  | _ => none }
def ClocksGoWrongFalsely : Prop := clocksGoRow.holds Tryd.pinned (OpenSpec.ofChange clocksGoWrong)

/- THE SECOND FORM. 'bulk': how many values and letters a reading holds, each counted each time it is reached (what is shared counts as often as it is met; a slice's spare places count too). A statement '..UptoSaid' is the law's where the arguments, and the package variables that the reading takes, are together of bulk at most 1048576: NARROWER than '..Said'. Prove '..Said' where nothing that the law and all that it calls make is longer than what came in: it says more and counts as full. Else prove '..UptoSaid'. A law counts once. -/
mutual
def uptoBulk {H : Type} : DataW H → Nat
  | .lit (.string bytes) => bytes.length + 1
  | .lit _ => 1
  | .nil => 1
  | .ptr d => uptoBulk d + 1
  | .slice elems spare => uptoBulkAll elems + uptoBulkAll spare + 1
  | .agg parts => uptoBulkAll parts + 1
  | .iface _ d => uptoBulk d + 1
  | .map entries => uptoBulkEntries entries + 1
  | .held _ => 1
def uptoBulkAll {H : Type} : List (DataW H) → Nat
  | [] => 0
  | d :: r => uptoBulk d + uptoBulkAll r
def uptoBulkEntries {H : Type} : List (Lit × DataW H) → Nat
  | [] => 0
  | x :: r => uptoBulkEntry x + uptoBulkEntries r
def uptoBulkEntry {H : Type} : Lit × DataW H → Nat
  | (.string bytes, d) => bytes.length + uptoBulk d + 1
  | (_, d) => uptoBulk d + 1
 end
def uptoSmall : (H : Type) → List (DataW H) → Bool := fun _ ds => decide (uptoBulkAll ds ≤ 1048576)
def OpenSpec.upto (s : _root_.Go.ChangeSpec) : _root_.Go.OpenSpec := { _root_.Go.OpenSpec.ofChange s with cond := some uptoSmall }

/-- 'sennitlaw26.ActuatorsHold', WHERE WHAT IT READS IS OF BULK AT MOST 1048576: true; the input reads as it did. -/
def actuatorsHoldUptoRow : OpenClaim := { program := "ytmpkpikamogpdaadoor", sum := "5475a8c468eadc0cd275448b6f9697186f4d3d0753c7ac7762c3a7db65097e41", func := "sennit/sennitlaw26.ActuatorsHold", spec := "actuatorsHold", unfollowed := true, recurses := true, named := ["sennit/rings.signs"], apart := false, laid := [("sennit/rings.signs", laid_sennit_rings_signs)], narrowed := true }
def ActuatorsHoldUptoSaid : Prop := actuatorsHoldUptoRow.holds Tryd.pinned (OpenSpec.upto actuatorsHoldSpec)

/-- 'sennitlaw26.ActuatorsAny', WHERE WHAT IT READS IS OF BULK AT MOST 1048576: true; the input reads as it did. -/
def actuatorsAnyUptoRow : OpenClaim := { program := "ytmpkpikamogpdaadoor", sum := "5475a8c468eadc0cd275448b6f9697186f4d3d0753c7ac7762c3a7db65097e41", func := "sennit/sennitlaw26.ActuatorsAny", spec := "actuatorsAny", unfollowed := true, recurses := true, named := ["sennit/rings.signs"], apart := false, laid := [("sennit/rings.signs", laid_sennit_rings_signs)], narrowed := true }
def ActuatorsAnyUptoSaid : Prop := actuatorsAnyUptoRow.holds Tryd.pinned (OpenSpec.upto actuatorsAnySpec)

/-- 'sennitlaw26.ActuatorsRun', WHERE WHAT IT READS IS OF BULK AT MOST 1048576: true; the input reads as it did. -/
def actuatorsRunUptoRow : OpenClaim := { program := "ytmpkpikamogpdaadoor", sum := "5475a8c468eadc0cd275448b6f9697186f4d3d0753c7ac7762c3a7db65097e41", func := "sennit/sennitlaw26.ActuatorsRun", spec := "actuatorsRun", unfollowed := true, recurses := true, named := ["sennit/rings.signs"], apart := false, laid := [("sennit/rings.signs", laid_sennit_rings_signs)], narrowed := true }
def ActuatorsRunUptoSaid : Prop := actuatorsRunUptoRow.holds Tryd.pinned (OpenSpec.upto actuatorsRunSpec)

/-- 'sennitlaw06.ClocksOf', WHERE WHAT IT READS IS OF BULK AT MOST 1048576: true; the input reads as it did. -/
def clocksOfUptoRow : OpenClaim := { program := "ytmpkpikamogpdaadoor", sum := "5475a8c468eadc0cd275448b6f9697186f4d3d0753c7ac7762c3a7db65097e41", func := "sennit/sennitlaw06.ClocksOf", spec := "clocksOf", unfollowed := true, recurses := true, named := ["sennit/rings.signs"], apart := false, laid := [("sennit/rings.signs", laid_sennit_rings_signs)], narrowed := true }
def ClocksOfUptoSaid : Prop := clocksOfUptoRow.holds Tryd.pinned (OpenSpec.upto clocksOfSpec)

/-- 'sennitlaw06.ClocksBack', WHERE WHAT IT READS IS OF BULK AT MOST 1048576: true; the input reads as it did. -/
def clocksBackUptoRow : OpenClaim := { program := "ytmpkpikamogpdaadoor", sum := "5475a8c468eadc0cd275448b6f9697186f4d3d0753c7ac7762c3a7db65097e41", func := "sennit/sennitlaw06.ClocksBack", spec := "clocksBack", unfollowed := true, recurses := true, named := ["sennit/rings.signs"], apart := false, laid := [("sennit/rings.signs", laid_sennit_rings_signs)], narrowed := true }
def ClocksBackUptoSaid : Prop := clocksBackUptoRow.holds Tryd.pinned (OpenSpec.upto clocksBackSpec)

/-- 'sennitlaw06.ClocksWhole', WHERE WHAT IT READS IS OF BULK AT MOST 1048576: true; the input reads as it did. -/
def clocksWholeUptoRow : OpenClaim := { program := "ytmpkpikamogpdaadoor", sum := "5475a8c468eadc0cd275448b6f9697186f4d3d0753c7ac7762c3a7db65097e41", func := "sennit/sennitlaw06.ClocksWhole", spec := "clocksWhole", unfollowed := true, recurses := true, named := ["sennit/rings.signs"], apart := false, laid := [("sennit/rings.signs", laid_sennit_rings_signs)], narrowed := true }
def ClocksWholeUptoSaid : Prop := clocksWholeUptoRow.holds Tryd.pinned (OpenSpec.upto clocksWholeSpec)

/-- 'sennitlaw06.ClocksVoid', WHERE WHAT IT READS IS OF BULK AT MOST 1048576: true; the input reads as it did. -/
def clocksVoidUptoRow : OpenClaim := { program := "ytmpkpikamogpdaadoor", sum := "5475a8c468eadc0cd275448b6f9697186f4d3d0753c7ac7762c3a7db65097e41", func := "sennit/sennitlaw06.ClocksVoid", spec := "clocksVoid", unfollowed := true, recurses := true, named := ["sennit/rings.signs"], apart := false, laid := [("sennit/rings.signs", laid_sennit_rings_signs)], narrowed := true }
def ClocksVoidUptoSaid : Prop := clocksVoidUptoRow.holds Tryd.pinned (OpenSpec.upto clocksVoidSpec)

/-- 'sennitlaw06.ClocksGo', WHERE WHAT IT READS IS OF BULK AT MOST 1048576: true; the input reads as it did. -/
def clocksGoUptoRow : OpenClaim := { program := "ytmpkpikamogpdaadoor", sum := "5475a8c468eadc0cd275448b6f9697186f4d3d0753c7ac7762c3a7db65097e41", func := "sennit/sennitlaw06.ClocksGo", spec := "clocksGo", unfollowed := true, recurses := true, named := ["sennit/rings.signs"], apart := false, laid := [("sennit/rings.signs", laid_sennit_rings_signs)], narrowed := true }
def ClocksGoUptoSaid : Prop := clocksGoUptoRow.holds Tryd.pinned (OpenSpec.upto clocksGoSpec)

end Rows
end Go.Proofs.YtmpkpikamogpdaaDoor
