/-
  No cell of these rows narrows 'for every input' (looked for: loops, veiled, ifaces, maps, wideKeys, modest, calm, conditions, laid).
  DERIVED. THE GIVEN ROWS OF THIS SEAT. 7 by the template 'for every input the law returns true; each argument reads behind the call as it read before'; 0 by the template 'total and deterministic' (their statements: YtkdbolhheodfkaaTotals.lean).
  GIVEN WITH THE SEED: the statements are not yours to turn. If you find one false, say at which input.
  Laid BY PROGRAM, IN A SANDBOX (cutbox-rows.mjs): the forced cells as the released guide's own fill.sh prints them over the translation 1644ac7fed8c91c7… (all of the seat's roots in one cut). By AI agents, Wed Nov 11 2026. No macro, syntax, notation, axiom, sorry.
-/
import Derived.Test.YtkdbolhheodfkaaChecked
import GoSem.Claim
import GoSem.ClaimJoined
import GoSem.ClaimMapViews
import Derived.JoinedTies
import Derived.KernelRfl
namespace Go.Proofs.Ytkdbolhheodfkaa
/- THE CELL 'sum', in the pinned program and in every row, IS THE sha256 OF THE DUMP (.gsa) THAT YtkdbolhheodfkaaProg.lean LOADS. Nothing in Lean hashes anything: it is a label: what it is worth is what the hold of that sum in a sandbox is worth. -/
noncomputable def Try.pinned : Pinned := { name := "ytkdbolhheodfkaa", sum := "1644ac7fed8c91c7954f3f3ad40d75599f6d398f330bac562c600f75341fd327", checked := Try.checked }
namespace Rows
def none {H : Type} : Left H := { results := [], args := [] }

/-- 'lombardlaw02.CalendarDates': WHATEVER THE INPUT: true; the input reads as it did. -/
def calendarDatesSpec : ChangeSpec := { name := "calendarDates", fn := fun _ => fun
  | [d1, d2] => { results := [.lit (.bool true)], args := [d1, d2] }
  | _ => none }
def calendarDatesRow : OpenClaim := { program := "ytkdbolhheodfkaa", sum := "1644ac7fed8c91c7954f3f3ad40d75599f6d398f330bac562c600f75341fd327", func := "lombard/lombardlaw02.CalendarDates", spec := "calendarDates", recurses := true, apart := false }
def CalendarDatesSaid : Prop := calendarDatesRow.holds Try.pinned (OpenSpec.ofChange calendarDatesSpec)

/-- ITS FALSE NEIGHBOUR: 'it returns false'. Refute it at one input. -/
def calendarDatesWrong : ChangeSpec := { name := "calendarDates", fn := fun _ => fun
  | [d1, d2] => { results := [.lit (.bool false)], args := [d1, d2] }
  | _ => none }
def CalendarDatesWrongFalsely : Prop := calendarDatesRow.holds Try.pinned (OpenSpec.ofChange calendarDatesWrong)

/-- 'lombardlaw02.CalendarBack': WHATEVER THE INPUT: true; the input reads as it did. -/
def calendarBackSpec : ChangeSpec := { name := "calendarBack", fn := fun _ => fun
  | [d1, d2] => { results := [.lit (.bool true)], args := [d1, d2] }
  | _ => none }
def calendarBackRow : OpenClaim := { program := "ytkdbolhheodfkaa", sum := "1644ac7fed8c91c7954f3f3ad40d75599f6d398f330bac562c600f75341fd327", func := "lombard/lombardlaw02.CalendarBack", spec := "calendarBack", recurses := true, apart := false }
def CalendarBackSaid : Prop := calendarBackRow.holds Try.pinned (OpenSpec.ofChange calendarBackSpec)

/-- ITS FALSE NEIGHBOUR: 'it returns false'. Refute it at one input. -/
def calendarBackWrong : ChangeSpec := { name := "calendarBack", fn := fun _ => fun
  | [d1, d2] => { results := [.lit (.bool false)], args := [d1, d2] }
  | _ => none }
def CalendarBackWrongFalsely : Prop := calendarBackRow.holds Try.pinned (OpenSpec.ofChange calendarBackWrong)

/-- 'lombardlaw02.CalendarWorks': WHATEVER THE INPUT: true; the input reads as it did. -/
def calendarWorksSpec : ChangeSpec := { name := "calendarWorks", fn := fun _ => fun
  | [d1, d2, d3, d4] => { results := [.lit (.bool true)], args := [d1, d2, d3, d4] }
  | _ => none }
def calendarWorksRow : OpenClaim := { program := "ytkdbolhheodfkaa", sum := "1644ac7fed8c91c7954f3f3ad40d75599f6d398f330bac562c600f75341fd327", func := "lombard/lombardlaw02.CalendarWorks", spec := "calendarWorks", recurses := true, apart := false }
def CalendarWorksSaid : Prop := calendarWorksRow.holds Try.pinned (OpenSpec.ofChange calendarWorksSpec)

/-- ITS FALSE NEIGHBOUR: 'it returns false'. Refute it at one input. -/
def calendarWorksWrong : ChangeSpec := { name := "calendarWorks", fn := fun _ => fun
  | [d1, d2, d3, d4] => { results := [.lit (.bool false)], args := [d1, d2, d3, d4] }
  | _ => none }
def CalendarWorksWrongFalsely : Prop := calendarWorksRow.holds Try.pinned (OpenSpec.ofChange calendarWorksWrong)

/-- 'lombardlaw02.CalendarMoves': WHATEVER THE INPUT: true; the input reads as it did. -/
def calendarMovesSpec : ChangeSpec := { name := "calendarMoves", fn := fun _ => fun
  | [d1, d2, d3] => { results := [.lit (.bool true)], args := [d1, d2, d3] }
  | _ => none }
def calendarMovesRow : OpenClaim := { program := "ytkdbolhheodfkaa", sum := "1644ac7fed8c91c7954f3f3ad40d75599f6d398f330bac562c600f75341fd327", func := "lombard/lombardlaw02.CalendarMoves", spec := "calendarMoves", recurses := true, apart := false }
def CalendarMovesSaid : Prop := calendarMovesRow.holds Try.pinned (OpenSpec.ofChange calendarMovesSpec)

/-- ITS FALSE NEIGHBOUR: 'it returns false'. Refute it at one input. -/
def calendarMovesWrong : ChangeSpec := { name := "calendarMoves", fn := fun _ => fun
  | [d1, d2, d3] => { results := [.lit (.bool false)], args := [d1, d2, d3] }
  | _ => none }
def CalendarMovesWrongFalsely : Prop := calendarMovesRow.holds Try.pinned (OpenSpec.ofChange calendarMovesWrong)

/-- 'lombardlaw02.CalendarRolls': WHATEVER THE INPUT: true; the input reads as it did. -/
def calendarRollsSpec : ChangeSpec := { name := "calendarRolls", fn := fun _ => fun
  | [d1, d2, d3] => { results := [.lit (.bool true)], args := [d1, d2, d3] }
  | _ => none }
def calendarRollsRow : OpenClaim := { program := "ytkdbolhheodfkaa", sum := "1644ac7fed8c91c7954f3f3ad40d75599f6d398f330bac562c600f75341fd327", func := "lombard/lombardlaw02.CalendarRolls", spec := "calendarRolls", recurses := true, apart := false }
def CalendarRollsSaid : Prop := calendarRollsRow.holds Try.pinned (OpenSpec.ofChange calendarRollsSpec)

/-- ITS FALSE NEIGHBOUR: 'it returns false'. Refute it at one input. -/
def calendarRollsWrong : ChangeSpec := { name := "calendarRolls", fn := fun _ => fun
  | [d1, d2, d3] => { results := [.lit (.bool false)], args := [d1, d2, d3] }
  | _ => none }
def CalendarRollsWrongFalsely : Prop := calendarRollsRow.holds Try.pinned (OpenSpec.ofChange calendarRollsWrong)

/-- 'lombardlaw02.CalendarThere': WHATEVER THE INPUT: true; the input reads as it did. -/
def calendarThereSpec : ChangeSpec := { name := "calendarThere", fn := fun _ => fun
  | [d1, d2, d3] => { results := [.lit (.bool true)], args := [d1, d2, d3] }
  | _ => none }
def calendarThereRow : OpenClaim := { program := "ytkdbolhheodfkaa", sum := "1644ac7fed8c91c7954f3f3ad40d75599f6d398f330bac562c600f75341fd327", func := "lombard/lombardlaw02.CalendarThere", spec := "calendarThere", recurses := true, apart := false }
def CalendarThereSaid : Prop := calendarThereRow.holds Try.pinned (OpenSpec.ofChange calendarThereSpec)

/-- ITS FALSE NEIGHBOUR: 'it returns false'. Refute it at one input. -/
def calendarThereWrong : ChangeSpec := { name := "calendarThere", fn := fun _ => fun
  | [d1, d2, d3] => { results := [.lit (.bool false)], args := [d1, d2, d3] }
  | _ => none }
def CalendarThereWrongFalsely : Prop := calendarThereRow.holds Try.pinned (OpenSpec.ofChange calendarThereWrong)

/-- 'lombardlaw02.CalendarNobody': WHATEVER THE INPUT: true; the input reads as it did. -/
def calendarNobodySpec : ChangeSpec := { name := "calendarNobody", fn := fun _ => fun
  | [d1, d2] => { results := [.lit (.bool true)], args := [d1, d2] }
  | _ => none }
def calendarNobodyRow : OpenClaim := { program := "ytkdbolhheodfkaa", sum := "1644ac7fed8c91c7954f3f3ad40d75599f6d398f330bac562c600f75341fd327", func := "lombard/lombardlaw02.CalendarNobody", spec := "calendarNobody", recurses := true, apart := false }
def CalendarNobodySaid : Prop := calendarNobodyRow.holds Try.pinned (OpenSpec.ofChange calendarNobodySpec)

/-- ITS FALSE NEIGHBOUR: 'it returns false'. Refute it at one input. -/
def calendarNobodyWrong : ChangeSpec := { name := "calendarNobody", fn := fun _ => fun
  | [d1, d2] => { results := [.lit (.bool false)], args := [d1, d2] }
  | _ => none }
def CalendarNobodyWrongFalsely : Prop := calendarNobodyRow.holds Try.pinned (OpenSpec.ofChange calendarNobodyWrong)

/- THE SECOND FORM. 'bulk': how many values and letters a reading holds, each counted each time it is reached (what is shared counts as often as it is met; a slice's spare places count too). A statement '..UptoSaid' is the law's where the arguments, and the package variables that the reading takes, are together of bulk at most 1048576: NARROWER than '..Said'. Prove '..Said' where nothing that the law and all that it calls make is longer than what came in: it says more and counts as full. Else prove '..UptoSaid'. A law counts once. -/
mutual
def uptoBulk {H : Type} : DataW H → Nat
  | .lit (.string bytes) => bytes.length + 1
  | .lit _ => 1
  | .nil => 1
  | .ptr d => uptoBulk d + 1
  | .slice elems spare => uptoBulkAll elems + uptoBulkAll spare + 1
  | .agg parts => uptoBulkAll parts + 1
  | .iface _ d => uptoBulk d + 1
  | .map entries => uptoBulkEntries entries + 1
  | .held _ => 1
def uptoBulkAll {H : Type} : List (DataW H) → Nat
  | [] => 0
  | d :: r => uptoBulk d + uptoBulkAll r
def uptoBulkEntries {H : Type} : List (Lit × DataW H) → Nat
  | [] => 0
  | x :: r => uptoBulkEntry x + uptoBulkEntries r
def uptoBulkEntry {H : Type} : Lit × DataW H → Nat
  | (.string bytes, d) => bytes.length + uptoBulk d + 1
  | (_, d) => uptoBulk d + 1
 end
def uptoSmall : (H : Type) → List (DataW H) → Bool := fun _ ds => decide (uptoBulkAll ds ≤ 1048576)
def OpenSpec.upto (s : _root_.Go.ChangeSpec) : _root_.Go.OpenSpec := { _root_.Go.OpenSpec.ofChange s with cond := some uptoSmall }

/-- 'lombardlaw02.CalendarDates', WHERE WHAT IT READS IS OF BULK AT MOST 1048576: true; the input reads as it did. -/
def calendarDatesUptoRow : OpenClaim := { program := "ytkdbolhheodfkaa", sum := "1644ac7fed8c91c7954f3f3ad40d75599f6d398f330bac562c600f75341fd327", func := "lombard/lombardlaw02.CalendarDates", spec := "calendarDates", recurses := true, apart := false, narrowed := true }
def CalendarDatesUptoSaid : Prop := calendarDatesUptoRow.holds Try.pinned (OpenSpec.upto calendarDatesSpec)

/-- 'lombardlaw02.CalendarBack', WHERE WHAT IT READS IS OF BULK AT MOST 1048576: true; the input reads as it did. -/
def calendarBackUptoRow : OpenClaim := { program := "ytkdbolhheodfkaa", sum := "1644ac7fed8c91c7954f3f3ad40d75599f6d398f330bac562c600f75341fd327", func := "lombard/lombardlaw02.CalendarBack", spec := "calendarBack", recurses := true, apart := false, narrowed := true }
def CalendarBackUptoSaid : Prop := calendarBackUptoRow.holds Try.pinned (OpenSpec.upto calendarBackSpec)

/-- 'lombardlaw02.CalendarWorks', WHERE WHAT IT READS IS OF BULK AT MOST 1048576: true; the input reads as it did. -/
def calendarWorksUptoRow : OpenClaim := { program := "ytkdbolhheodfkaa", sum := "1644ac7fed8c91c7954f3f3ad40d75599f6d398f330bac562c600f75341fd327", func := "lombard/lombardlaw02.CalendarWorks", spec := "calendarWorks", recurses := true, apart := false, narrowed := true }
def CalendarWorksUptoSaid : Prop := calendarWorksUptoRow.holds Try.pinned (OpenSpec.upto calendarWorksSpec)

/-- 'lombardlaw02.CalendarMoves', WHERE WHAT IT READS IS OF BULK AT MOST 1048576: true; the input reads as it did. -/
def calendarMovesUptoRow : OpenClaim := { program := "ytkdbolhheodfkaa", sum := "1644ac7fed8c91c7954f3f3ad40d75599f6d398f330bac562c600f75341fd327", func := "lombard/lombardlaw02.CalendarMoves", spec := "calendarMoves", recurses := true, apart := false, narrowed := true }
def CalendarMovesUptoSaid : Prop := calendarMovesUptoRow.holds Try.pinned (OpenSpec.upto calendarMovesSpec)

/-- 'lombardlaw02.CalendarRolls', WHERE WHAT IT READS IS OF BULK AT MOST 1048576: true; the input reads as it did. -/
def calendarRollsUptoRow : OpenClaim := { program := "ytkdbolhheodfkaa", sum := "1644ac7fed8c91c7954f3f3ad40d75599f6d398f330bac562c600f75341fd327", func := "lombard/lombardlaw02.CalendarRolls", spec := "calendarRolls", recurses := true, apart := false, narrowed := true }
def CalendarRollsUptoSaid : Prop := calendarRollsUptoRow.holds Try.pinned (OpenSpec.upto calendarRollsSpec)

/-- 'lombardlaw02.CalendarThere', WHERE WHAT IT READS IS OF BULK AT MOST 1048576: true; the input reads as it did. -/
def calendarThereUptoRow : OpenClaim := { program := "ytkdbolhheodfkaa", sum := "1644ac7fed8c91c7954f3f3ad40d75599f6d398f330bac562c600f75341fd327", func := "lombard/lombardlaw02.CalendarThere", spec := "calendarThere", recurses := true, apart := false, narrowed := true }
def CalendarThereUptoSaid : Prop := calendarThereUptoRow.holds Try.pinned (OpenSpec.upto calendarThereSpec)

/-- 'lombardlaw02.CalendarNobody', WHERE WHAT IT READS IS OF BULK AT MOST 1048576: true; the input reads as it did. -/
def calendarNobodyUptoRow : OpenClaim := { program := "ytkdbolhheodfkaa", sum := "1644ac7fed8c91c7954f3f3ad40d75599f6d398f330bac562c600f75341fd327", func := "lombard/lombardlaw02.CalendarNobody", spec := "calendarNobody", recurses := true, apart := false, narrowed := true }
def CalendarNobodyUptoSaid : Prop := calendarNobodyUptoRow.holds Try.pinned (OpenSpec.upto calendarNobodySpec)

end Rows
end Go.Proofs.Ytkdbolhheodfkaa
