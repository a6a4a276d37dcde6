/-
  No cell of these rows narrows 'for every input' (looked for: loops, veiled, ifaces, maps, wideKeys, modest, calm, conditions, laid).
  DERIVED. THE GIVEN ROWS OF THIS SEAT. 4 by the template 'for every input the law returns true; each argument reads behind the call as it read before'; 0 by the template 'total and deterministic' (their statements: YtgncepjnbdhmkaaTotals.lean).
  GIVEN WITH THE SEED: the statements are not yours to turn. If you find one false, say at which input.
  Laid BY PROGRAM, IN A SANDBOX (cutbox-rows.mjs): the forced cells as the released guide's own fill.sh prints them over the translation c86c79a3149ac46e… (all of the seat's roots in one cut). By AI agents, Wed Nov 11 2026. No macro, syntax, notation, axiom, sorry.
-/
import Derived.Test.YtgncepjnbdhmkaaChecked
import GoSem.Claim
import GoSem.ClaimJoined
import GoSem.ClaimMapViews
import Derived.JoinedTies
import Derived.KernelRfl
namespace Go.Proofs.Ytgncepjnbdhmkaa
/- THE CELL 'sum', in the pinned program and in every row, IS THE sha256 OF THE DUMP (.gsa) THAT YtgncepjnbdhmkaaProg.lean LOADS. Nothing in Lean hashes anything: it is a label: what it is worth is what the hold of that sum in a sandbox is worth. -/
noncomputable def Try.pinned : Pinned := { name := "ytgncepjnbdhmkaa", sum := "c86c79a3149ac46e28c547689a4e916acb3282751791a777603a1bf9466cd5f4", checked := Try.checked }
namespace Rows
def none {H : Type} : Left H := { results := [], args := [] }

/-- 'lombardlaw18.AllocFills': WHATEVER THE INPUT: true; the input reads as it did. -/
def allocFillsSpec : ChangeSpec := { name := "allocFills", fn := fun _ => fun
  | [d1, d2, d3] => { results := [.lit (.bool true)], args := [d1, d2, d3] }
  | _ => none }
def allocFillsRow : OpenClaim := { program := "ytgncepjnbdhmkaa", sum := "c86c79a3149ac46e28c547689a4e916acb3282751791a777603a1bf9466cd5f4", func := "lombard/lombardlaw18.AllocFills", spec := "allocFills", inPlace := ["slices.overlaps[lombard/api.Lot]"], unfollowed := true, recurses := true, apart := false }
def AllocFillsSaid : Prop := allocFillsRow.holds Try.pinned (OpenSpec.ofChange allocFillsSpec)

/-- ITS FALSE NEIGHBOUR: 'it returns false'. Refute it at one input. -/
def allocFillsWrong : ChangeSpec := { name := "allocFills", fn := fun _ => fun
  | [d1, d2, d3] => { results := [.lit (.bool false)], args := [d1, d2, d3] }
  | _ => none }
def AllocFillsWrongFalsely : Prop := allocFillsRow.holds Try.pinned (OpenSpec.ofChange allocFillsWrong)

/-- 'lombardlaw18.AllocWithin': WHATEVER THE INPUT: true; the input reads as it did. -/
def allocWithinSpec : ChangeSpec := { name := "allocWithin", fn := fun _ => fun
  | [d1, d2, d3] => { results := [.lit (.bool true)], args := [d1, d2, d3] }
  | _ => none }
def allocWithinRow : OpenClaim := { program := "ytgncepjnbdhmkaa", sum := "c86c79a3149ac46e28c547689a4e916acb3282751791a777603a1bf9466cd5f4", func := "lombard/lombardlaw18.AllocWithin", spec := "allocWithin", inPlace := ["slices.overlaps[lombard/api.Lot]"], unfollowed := true, recurses := true, apart := false }
def AllocWithinSaid : Prop := allocWithinRow.holds Try.pinned (OpenSpec.ofChange allocWithinSpec)

/-- ITS FALSE NEIGHBOUR: 'it returns false'. Refute it at one input. -/
def allocWithinWrong : ChangeSpec := { name := "allocWithin", fn := fun _ => fun
  | [d1, d2, d3] => { results := [.lit (.bool false)], args := [d1, d2, d3] }
  | _ => none }
def AllocWithinWrongFalsely : Prop := allocWithinRow.holds Try.pinned (OpenSpec.ofChange allocWithinWrong)

/-- 'lombardlaw18.AllocShort': WHATEVER THE INPUT: true; the input reads as it did. -/
def allocShortSpec : ChangeSpec := { name := "allocShort", fn := fun _ => fun
  | [d1, d2, d3] => { results := [.lit (.bool true)], args := [d1, d2, d3] }
  | _ => none }
def allocShortRow : OpenClaim := { program := "ytgncepjnbdhmkaa", sum := "c86c79a3149ac46e28c547689a4e916acb3282751791a777603a1bf9466cd5f4", func := "lombard/lombardlaw18.AllocShort", spec := "allocShort", inPlace := ["slices.overlaps[lombard/api.Lot]"], unfollowed := true, recurses := true, apart := false }
def AllocShortSaid : Prop := allocShortRow.holds Try.pinned (OpenSpec.ofChange allocShortSpec)

/-- ITS FALSE NEIGHBOUR: 'it returns false'. Refute it at one input. -/
def allocShortWrong : ChangeSpec := { name := "allocShort", fn := fun _ => fun
  | [d1, d2, d3] => { results := [.lit (.bool false)], args := [d1, d2, d3] }
  | _ => none }
def AllocShortWrongFalsely : Prop := allocShortRow.holds Try.pinned (OpenSpec.ofChange allocShortWrong)

/-- 'lombardlaw18.AllocSpare': WHATEVER THE INPUT: true; the input reads as it did. -/
def allocSpareSpec : ChangeSpec := { name := "allocSpare", fn := fun _ => fun
  | [d1, d2] => { results := [.lit (.bool true)], args := [d1, d2] }
  | _ => none }
def allocSpareRow : OpenClaim := { program := "ytgncepjnbdhmkaa", sum := "c86c79a3149ac46e28c547689a4e916acb3282751791a777603a1bf9466cd5f4", func := "lombard/lombardlaw18.AllocSpare", spec := "allocSpare", inPlace := ["slices.overlaps[lombard/api.Lot]"], unfollowed := true, recurses := true, apart := false }
def AllocSpareSaid : Prop := allocSpareRow.holds Try.pinned (OpenSpec.ofChange allocSpareSpec)

/-- ITS FALSE NEIGHBOUR: 'it returns false'. Refute it at one input. -/
def allocSpareWrong : ChangeSpec := { name := "allocSpare", fn := fun _ => fun
  | [d1, d2] => { results := [.lit (.bool false)], args := [d1, d2] }
  | _ => none }
def AllocSpareWrongFalsely : Prop := allocSpareRow.holds Try.pinned (OpenSpec.ofChange allocSpareWrong)

/- THE SECOND FORM. 'bulk': how many values and letters a reading holds, each counted each time it is reached (what is shared counts as often as it is met; a slice's spare places count too). A statement '..UptoSaid' is the law's where the arguments, and the package variables that the reading takes, are together of bulk at most 1048576: NARROWER than '..Said'. Prove '..Said' where nothing that the law and all that it calls make is longer than what came in: it says more and counts as full. Else prove '..UptoSaid'. A law counts once. -/
mutual
def uptoBulk {H : Type} : DataW H → Nat
  | .lit (.string bytes) => bytes.length + 1
  | .lit _ => 1
  | .nil => 1
  | .ptr d => uptoBulk d + 1
  | .slice elems spare => uptoBulkAll elems + uptoBulkAll spare + 1
  | .agg parts => uptoBulkAll parts + 1
  | .iface _ d => uptoBulk d + 1
  | .map entries => uptoBulkEntries entries + 1
  | .held _ => 1
def uptoBulkAll {H : Type} : List (DataW H) → Nat
  | [] => 0
  | d :: r => uptoBulk d + uptoBulkAll r
def uptoBulkEntries {H : Type} : List (Lit × DataW H) → Nat
  | [] => 0
  | x :: r => uptoBulkEntry x + uptoBulkEntries r
def uptoBulkEntry {H : Type} : Lit × DataW H → Nat
  | (.string bytes, d) => bytes.length + uptoBulk d + 1
  | (_, d) => uptoBulk d + 1
 end
def uptoSmall : (H : Type) → List (DataW H) → Bool := fun _ ds => decide (uptoBulkAll ds ≤ 1048576)
def OpenSpec.upto (s : _root_.Go.ChangeSpec) : _root_.Go.OpenSpec := { _root_.Go.OpenSpec.ofChange s with cond := some uptoSmall }

/-- 'lombardlaw18.AllocFills', WHERE WHAT IT READS IS OF BULK AT MOST 1048576: true; the input reads as it did. -/
def allocFillsUptoRow : OpenClaim := { program := "ytgncepjnbdhmkaa", sum := "c86c79a3149ac46e28c547689a4e916acb3282751791a777603a1bf9466cd5f4", func := "lombard/lombardlaw18.AllocFills", spec := "allocFills", inPlace := ["slices.overlaps[lombard/api.Lot]"], unfollowed := true, recurses := true, apart := false, narrowed := true }
def AllocFillsUptoSaid : Prop := allocFillsUptoRow.holds Try.pinned (OpenSpec.upto allocFillsSpec)

/-- 'lombardlaw18.AllocWithin', WHERE WHAT IT READS IS OF BULK AT MOST 1048576: true; the input reads as it did. -/
def allocWithinUptoRow : OpenClaim := { program := "ytgncepjnbdhmkaa", sum := "c86c79a3149ac46e28c547689a4e916acb3282751791a777603a1bf9466cd5f4", func := "lombard/lombardlaw18.AllocWithin", spec := "allocWithin", inPlace := ["slices.overlaps[lombard/api.Lot]"], unfollowed := true, recurses := true, apart := false, narrowed := true }
def AllocWithinUptoSaid : Prop := allocWithinUptoRow.holds Try.pinned (OpenSpec.upto allocWithinSpec)

/-- 'lombardlaw18.AllocShort', WHERE WHAT IT READS IS OF BULK AT MOST 1048576: true; the input reads as it did. -/
def allocShortUptoRow : OpenClaim := { program := "ytgncepjnbdhmkaa", sum := "c86c79a3149ac46e28c547689a4e916acb3282751791a777603a1bf9466cd5f4", func := "lombard/lombardlaw18.AllocShort", spec := "allocShort", inPlace := ["slices.overlaps[lombard/api.Lot]"], unfollowed := true, recurses := true, apart := false, narrowed := true }
def AllocShortUptoSaid : Prop := allocShortUptoRow.holds Try.pinned (OpenSpec.upto allocShortSpec)

/-- 'lombardlaw18.AllocSpare', WHERE WHAT IT READS IS OF BULK AT MOST 1048576: true; the input reads as it did. -/
def allocSpareUptoRow : OpenClaim := { program := "ytgncepjnbdhmkaa", sum := "c86c79a3149ac46e28c547689a4e916acb3282751791a777603a1bf9466cd5f4", func := "lombard/lombardlaw18.AllocSpare", spec := "allocSpare", inPlace := ["slices.overlaps[lombard/api.Lot]"], unfollowed := true, recurses := true, apart := false, narrowed := true }
def AllocSpareUptoSaid : Prop := allocSpareUptoRow.holds Try.pinned (OpenSpec.upto allocSpareSpec)

end Rows
end Go.Proofs.Ytgncepjnbdhmkaa
