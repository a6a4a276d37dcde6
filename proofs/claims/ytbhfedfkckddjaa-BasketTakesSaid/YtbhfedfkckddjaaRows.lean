/-
  No cell of these rows narrows 'for every input' (looked for: loops, veiled, ifaces, maps, wideKeys, modest, calm, conditions, laid).
  DERIVED. THE GIVEN ROWS OF THIS SEAT. 5 by the template 'for every input the law returns true; each argument reads behind the call as it read before'; 0 by the template 'total and deterministic' (their statements: YtbhfedfkckddjaaTotals.lean).
  GIVEN WITH THE SEED: the statements are not yours to turn. If you find one false, say at which input.
  Laid BY PROGRAM, IN A SANDBOX (cutbox-rows.mjs): the forced cells as the released guide's own fill.sh prints them over the translation b46f3115810741a8… (all of the seat's roots in one cut). By AI agents, Wed Nov 11 2026. No macro, syntax, notation, axiom, sorry.
-/
import Derived.Test.YtbhfedfkckddjaaChecked
import GoSem.Claim
import GoSem.ClaimJoined
import GoSem.ClaimMapViews
import Derived.JoinedTies
import Derived.KernelRfl
namespace Go.Proofs.Ytbhfedfkckddjaa
/- THE CELL 'sum', in the pinned program and in every row, IS THE sha256 OF THE DUMP (.gsa) THAT YtbhfedfkckddjaaProg.lean LOADS. Nothing in Lean hashes anything: it is a label: what it is worth is what the hold of that sum in a sandbox is worth. -/
noncomputable def Try.pinned : Pinned := { name := "ytbhfedfkckddjaa", sum := "b46f3115810741a8081016492de35423983d4e37c32a40ad77691e14709ee975", checked := Try.checked }
namespace Rows
def none {H : Type} : Left H := { results := [], args := [] }

/-- 'lombardlaw14.BasketPlays': WHATEVER THE INPUT: true; the input reads as it did. -/
def basketPlaysSpec : ChangeSpec := { name := "basketPlays", fn := fun _ => fun
  | [d] => { results := [.lit (.bool true)], args := [d] }
  | _ => none }
def basketPlaysRow : OpenClaim := { program := "ytbhfedfkckddjaa", sum := "b46f3115810741a8081016492de35423983d4e37c32a40ad77691e14709ee975", func := "lombard/lombardlaw14.BasketPlays", spec := "basketPlays", unfollowed := true, recurses := true, apart := false }
def BasketPlaysSaid : Prop := basketPlaysRow.holds Try.pinned (OpenSpec.ofChange basketPlaysSpec)

/-- ITS FALSE NEIGHBOUR: 'it returns false'. Refute it at one input. -/
def basketPlaysWrong : ChangeSpec := { name := "basketPlays", fn := fun _ => fun
  | [d] => { results := [.lit (.bool false)], args := [d] }
  | _ => none }
def BasketPlaysWrongFalsely : Prop := basketPlaysRow.holds Try.pinned (OpenSpec.ofChange basketPlaysWrong)

/-- 'lombardlaw14.BasketTakes': WHATEVER THE INPUT: true; the input reads as it did. -/
def basketTakesSpec : ChangeSpec := { name := "basketTakes", fn := fun _ => fun
  | [d1, d2, d3, d4] => { results := [.lit (.bool true)], args := [d1, d2, d3, d4] }
  | _ => none }
def basketTakesRow : OpenClaim := { program := "ytbhfedfkckddjaa", sum := "b46f3115810741a8081016492de35423983d4e37c32a40ad77691e14709ee975", func := "lombard/lombardlaw14.BasketTakes", spec := "basketTakes", unfollowed := true, recurses := true, apart := false }
def BasketTakesSaid : Prop := basketTakesRow.holds Try.pinned (OpenSpec.ofChange basketTakesSpec)

/-- ITS FALSE NEIGHBOUR: 'it returns false'. Refute it at one input. -/
def basketTakesWrong : ChangeSpec := { name := "basketTakes", fn := fun _ => fun
  | [d1, d2, d3, d4] => { results := [.lit (.bool false)], args := [d1, d2, d3, d4] }
  | _ => none }
def BasketTakesWrongFalsely : Prop := basketTakesRow.holds Try.pinned (OpenSpec.ofChange basketTakesWrong)

/-- 'lombardlaw14.BasketWithin': WHATEVER THE INPUT: true; the input reads as it did. -/
def basketWithinSpec : ChangeSpec := { name := "basketWithin", fn := fun _ => fun
  | [d1, d2, d3, d4] => { results := [.lit (.bool true)], args := [d1, d2, d3, d4] }
  | _ => none }
def basketWithinRow : OpenClaim := { program := "ytbhfedfkckddjaa", sum := "b46f3115810741a8081016492de35423983d4e37c32a40ad77691e14709ee975", func := "lombard/lombardlaw14.BasketWithin", spec := "basketWithin", unfollowed := true, recurses := true, apart := false }
def BasketWithinSaid : Prop := basketWithinRow.holds Try.pinned (OpenSpec.ofChange basketWithinSpec)

/-- ITS FALSE NEIGHBOUR: 'it returns false'. Refute it at one input. -/
def basketWithinWrong : ChangeSpec := { name := "basketWithin", fn := fun _ => fun
  | [d1, d2, d3, d4] => { results := [.lit (.bool false)], args := [d1, d2, d3, d4] }
  | _ => none }
def BasketWithinWrongFalsely : Prop := basketWithinRow.holds Try.pinned (OpenSpec.ofChange basketWithinWrong)

/-- 'lombardlaw14.BasketTells': WHATEVER THE INPUT: true; the input reads as it did. -/
def basketTellsSpec : ChangeSpec := { name := "basketTells", fn := fun _ => fun
  | [d1, d2, d3, d4, d5] => { results := [.lit (.bool true)], args := [d1, d2, d3, d4, d5] }
  | _ => none }
def basketTellsRow : OpenClaim := { program := "ytbhfedfkckddjaa", sum := "b46f3115810741a8081016492de35423983d4e37c32a40ad77691e14709ee975", func := "lombard/lombardlaw14.BasketTells", spec := "basketTells", unfollowed := true, recurses := true, apart := false }
def BasketTellsSaid : Prop := basketTellsRow.holds Try.pinned (OpenSpec.ofChange basketTellsSpec)

/-- ITS FALSE NEIGHBOUR: 'it returns false'. Refute it at one input. -/
def basketTellsWrong : ChangeSpec := { name := "basketTells", fn := fun _ => fun
  | [d1, d2, d3, d4, d5] => { results := [.lit (.bool false)], args := [d1, d2, d3, d4, d5] }
  | _ => none }
def BasketTellsWrongFalsely : Prop := basketTellsRow.holds Try.pinned (OpenSpec.ofChange basketTellsWrong)

/-- 'lombardlaw14.BasketStays': WHATEVER THE INPUT: true; the input reads as it did. -/
def basketStaysSpec : ChangeSpec := { name := "basketStays", fn := fun _ => fun
  | [d1, d2] => { results := [.lit (.bool true)], args := [d1, d2] }
  | _ => none }
def basketStaysRow : OpenClaim := { program := "ytbhfedfkckddjaa", sum := "b46f3115810741a8081016492de35423983d4e37c32a40ad77691e14709ee975", func := "lombard/lombardlaw14.BasketStays", spec := "basketStays", unfollowed := true, recurses := true, apart := false }
def BasketStaysSaid : Prop := basketStaysRow.holds Try.pinned (OpenSpec.ofChange basketStaysSpec)

/-- ITS FALSE NEIGHBOUR: 'it returns false'. Refute it at one input. -/
def basketStaysWrong : ChangeSpec := { name := "basketStays", fn := fun _ => fun
  | [d1, d2] => { results := [.lit (.bool false)], args := [d1, d2] }
  | _ => none }
def BasketStaysWrongFalsely : Prop := basketStaysRow.holds Try.pinned (OpenSpec.ofChange basketStaysWrong)

/- THE SECOND FORM. 'bulk': how many values and letters a reading holds, each counted each time it is reached (what is shared counts as often as it is met; a slice's spare places count too). A statement '..UptoSaid' is the law's where the arguments, and the package variables that the reading takes, are together of bulk at most 1048576: NARROWER than '..Said'. Prove '..Said' where nothing that the law and all that it calls make is longer than what came in: it says more and counts as full. Else prove '..UptoSaid'. A law counts once. -/
mutual
def uptoBulk {H : Type} : DataW H → Nat
  | .lit (.string bytes) => bytes.length + 1
  | .lit _ => 1
  | .nil => 1
  | .ptr d => uptoBulk d + 1
  | .slice elems spare => uptoBulkAll elems + uptoBulkAll spare + 1
  | .agg parts => uptoBulkAll parts + 1
  | .iface _ d => uptoBulk d + 1
  | .map entries => uptoBulkEntries entries + 1
  | .held _ => 1
def uptoBulkAll {H : Type} : List (DataW H) → Nat
  | [] => 0
  | d :: r => uptoBulk d + uptoBulkAll r
def uptoBulkEntries {H : Type} : List (Lit × DataW H) → Nat
  | [] => 0
  | x :: r => uptoBulkEntry x + uptoBulkEntries r
def uptoBulkEntry {H : Type} : Lit × DataW H → Nat
  | (.string bytes, d) => bytes.length + uptoBulk d + 1
  | (_, d) => uptoBulk d + 1
 end
def uptoSmall : (H : Type) → List (DataW H) → Bool := fun _ ds => decide (uptoBulkAll ds ≤ 1048576)
def OpenSpec.upto (s : _root_.Go.ChangeSpec) : _root_.Go.OpenSpec := { _root_.Go.OpenSpec.ofChange s with cond := some uptoSmall }

/-- 'lombardlaw14.BasketPlays', WHERE WHAT IT READS IS OF BULK AT MOST 1048576: true; the input reads as it did. -/
def basketPlaysUptoRow : OpenClaim := { program := "ytbhfedfkckddjaa", sum := "b46f3115810741a8081016492de35423983d4e37c32a40ad77691e14709ee975", func := "lombard/lombardlaw14.BasketPlays", spec := "basketPlays", unfollowed := true, recurses := true, apart := false, narrowed := true }
def BasketPlaysUptoSaid : Prop := basketPlaysUptoRow.holds Try.pinned (OpenSpec.upto basketPlaysSpec)

/-- 'lombardlaw14.BasketTakes', WHERE WHAT IT READS IS OF BULK AT MOST 1048576: true; the input reads as it did. -/
def basketTakesUptoRow : OpenClaim := { program := "ytbhfedfkckddjaa", sum := "b46f3115810741a8081016492de35423983d4e37c32a40ad77691e14709ee975", func := "lombard/lombardlaw14.BasketTakes", spec := "basketTakes", unfollowed := true, recurses := true, apart := false, narrowed := true }
def BasketTakesUptoSaid : Prop := basketTakesUptoRow.holds Try.pinned (OpenSpec.upto basketTakesSpec)

/-- 'lombardlaw14.BasketWithin', WHERE WHAT IT READS IS OF BULK AT MOST 1048576: true; the input reads as it did. -/
def basketWithinUptoRow : OpenClaim := { program := "ytbhfedfkckddjaa", sum := "b46f3115810741a8081016492de35423983d4e37c32a40ad77691e14709ee975", func := "lombard/lombardlaw14.BasketWithin", spec := "basketWithin", unfollowed := true, recurses := true, apart := false, narrowed := true }
def BasketWithinUptoSaid : Prop := basketWithinUptoRow.holds Try.pinned (OpenSpec.upto basketWithinSpec)

/-- 'lombardlaw14.BasketTells', WHERE WHAT IT READS IS OF BULK AT MOST 1048576: true; the input reads as it did. -/
def basketTellsUptoRow : OpenClaim := { program := "ytbhfedfkckddjaa", sum := "b46f3115810741a8081016492de35423983d4e37c32a40ad77691e14709ee975", func := "lombard/lombardlaw14.BasketTells", spec := "basketTells", unfollowed := true, recurses := true, apart := false, narrowed := true }
def BasketTellsUptoSaid : Prop := basketTellsUptoRow.holds Try.pinned (OpenSpec.upto basketTellsSpec)

/-- 'lombardlaw14.BasketStays', WHERE WHAT IT READS IS OF BULK AT MOST 1048576: true; the input reads as it did. -/
def basketStaysUptoRow : OpenClaim := { program := "ytbhfedfkckddjaa", sum := "b46f3115810741a8081016492de35423983d4e37c32a40ad77691e14709ee975", func := "lombard/lombardlaw14.BasketStays", spec := "basketStays", unfollowed := true, recurses := true, apart := false, narrowed := true }
def BasketStaysUptoSaid : Prop := basketStaysUptoRow.holds Try.pinned (OpenSpec.upto basketStaysSpec)

end Rows
end Go.Proofs.Ytbhfedfkckddjaa
