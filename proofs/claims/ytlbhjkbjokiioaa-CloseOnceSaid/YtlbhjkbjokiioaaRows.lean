/-
  No cell of these rows narrows 'for every input' (looked for: loops, veiled, ifaces, maps, wideKeys, modest, calm, conditions, laid).
  DERIVED. THE GIVEN ROWS OF THIS SEAT. 5 by the template 'for every input the law returns true; each argument reads behind the call as it read before'; 0 by the template 'total and deterministic' (their statements: YtlbhjkbjokiioaaTotals.lean).
  GIVEN WITH THE SEED: the statements are not yours to turn. If you find one false, say at which input.
  Laid BY PROGRAM, IN A SANDBOX (cutbox-rows.mjs): the forced cells as the released guide's own fill.sh prints them over the translation 297926d16c75cf31… (all of the seat's roots in one cut). By AI agents, Wed Nov 11 2026. No macro, syntax, notation, axiom, sorry.
-/
import Derived.Test.YtlbhjkbjokiioaaChecked
import GoSem.Claim
import GoSem.ClaimJoined
import GoSem.ClaimMapViews
import Derived.JoinedTies
import Derived.KernelRfl
namespace Go.Proofs.Ytlbhjkbjokiioaa
/- THE CELL 'sum', in the pinned program and in every row, IS THE sha256 OF THE DUMP (.gsa) THAT YtlbhjkbjokiioaaProg.lean LOADS. Nothing in Lean hashes anything: it is a label: what it is worth is what the hold of that sum in a sandbox is worth. -/
noncomputable def Try.pinned : Pinned := { name := "ytlbhjkbjokiioaa", sum := "297926d16c75cf31298a6f2e6989491be7bd2548a2eab6b3ac1c908bbf40bb48", checked := Try.checked }
namespace Rows
def none {H : Type} : Left H := { results := [], args := [] }

/-- 'lombardlaw29.CloseFalls': WHATEVER THE INPUT: true; the input reads as it did. -/
def closeFallsSpec : ChangeSpec := { name := "closeFalls", fn := fun _ => fun
  | [d1, d2] => { results := [.lit (.bool true)], args := [d1, d2] }
  | _ => none }
def closeFallsRow : OpenClaim := { program := "ytlbhjkbjokiioaa", sum := "297926d16c75cf31298a6f2e6989491be7bd2548a2eab6b3ac1c908bbf40bb48", func := "lombard/lombardlaw29.CloseFalls", spec := "closeFalls", apart := false }
def CloseFallsSaid : Prop := closeFallsRow.holds Try.pinned (OpenSpec.ofChange closeFallsSpec)

/-- ITS FALSE NEIGHBOUR: 'it returns false'. Refute it at one input. -/
def closeFallsWrong : ChangeSpec := { name := "closeFalls", fn := fun _ => fun
  | [d1, d2] => { results := [.lit (.bool false)], args := [d1, d2] }
  | _ => none }
def CloseFallsWrongFalsely : Prop := closeFallsRow.holds Try.pinned (OpenSpec.ofChange closeFallsWrong)

/-- 'lombardlaw29.CloseWhole': WHATEVER THE INPUT: true; the input reads as it did. -/
def closeWholeSpec : ChangeSpec := { name := "closeWhole", fn := fun _ => fun
  | [d1, d2] => { results := [.lit (.bool true)], args := [d1, d2] }
  | _ => none }
def closeWholeRow : OpenClaim := { program := "ytlbhjkbjokiioaa", sum := "297926d16c75cf31298a6f2e6989491be7bd2548a2eab6b3ac1c908bbf40bb48", func := "lombard/lombardlaw29.CloseWhole", spec := "closeWhole", apart := false }
def CloseWholeSaid : Prop := closeWholeRow.holds Try.pinned (OpenSpec.ofChange closeWholeSpec)

/-- ITS FALSE NEIGHBOUR: 'it returns false'. Refute it at one input. -/
def closeWholeWrong : ChangeSpec := { name := "closeWhole", fn := fun _ => fun
  | [d1, d2] => { results := [.lit (.bool false)], args := [d1, d2] }
  | _ => none }
def CloseWholeWrongFalsely : Prop := closeWholeRow.holds Try.pinned (OpenSpec.ofChange closeWholeWrong)

/-- 'lombardlaw29.CloseResults': WHATEVER THE INPUT: true; the input reads as it did. -/
def closeResultsSpec : ChangeSpec := { name := "closeResults", fn := fun _ => fun
  | [d1, d2, d3] => { results := [.lit (.bool true)], args := [d1, d2, d3] }
  | _ => none }
def closeResultsRow : OpenClaim := { program := "ytlbhjkbjokiioaa", sum := "297926d16c75cf31298a6f2e6989491be7bd2548a2eab6b3ac1c908bbf40bb48", func := "lombard/lombardlaw29.CloseResults", spec := "closeResults", apart := false }
def CloseResultsSaid : Prop := closeResultsRow.holds Try.pinned (OpenSpec.ofChange closeResultsSpec)

/-- ITS FALSE NEIGHBOUR: 'it returns false'. Refute it at one input. -/
def closeResultsWrong : ChangeSpec := { name := "closeResults", fn := fun _ => fun
  | [d1, d2, d3] => { results := [.lit (.bool false)], args := [d1, d2, d3] }
  | _ => none }
def CloseResultsWrongFalsely : Prop := closeResultsRow.holds Try.pinned (OpenSpec.ofChange closeResultsWrong)

/-- 'lombardlaw29.CloseAuctions': WHATEVER THE INPUT: true; the input reads as it did. -/
def closeAuctionsSpec : ChangeSpec := { name := "closeAuctions", fn := fun _ => fun
  | [d1, d2] => { results := [.lit (.bool true)], args := [d1, d2] }
  | _ => none }
def closeAuctionsRow : OpenClaim := { program := "ytlbhjkbjokiioaa", sum := "297926d16c75cf31298a6f2e6989491be7bd2548a2eab6b3ac1c908bbf40bb48", func := "lombard/lombardlaw29.CloseAuctions", spec := "closeAuctions", unfollowed := true, recurses := true, apart := false }
def CloseAuctionsSaid : Prop := closeAuctionsRow.holds Try.pinned (OpenSpec.ofChange closeAuctionsSpec)

/-- ITS FALSE NEIGHBOUR: 'it returns false'. Refute it at one input. -/
def closeAuctionsWrong : ChangeSpec := { name := "closeAuctions", fn := fun _ => fun
  | [d1, d2] => { results := [.lit (.bool false)], args := [d1, d2] }
  | _ => none }
def CloseAuctionsWrongFalsely : Prop := closeAuctionsRow.holds Try.pinned (OpenSpec.ofChange closeAuctionsWrong)

/-- 'lombardlaw29.CloseOnce': WHATEVER THE INPUT: true; the input reads as it did. -/
def closeOnceSpec : ChangeSpec := { name := "closeOnce", fn := fun _ => fun
  | [d1, d2] => { results := [.lit (.bool true)], args := [d1, d2] }
  | _ => none }
def closeOnceRow : OpenClaim := { program := "ytlbhjkbjokiioaa", sum := "297926d16c75cf31298a6f2e6989491be7bd2548a2eab6b3ac1c908bbf40bb48", func := "lombard/lombardlaw29.CloseOnce", spec := "closeOnce", unfollowed := true, recurses := true, apart := false }
def CloseOnceSaid : Prop := closeOnceRow.holds Try.pinned (OpenSpec.ofChange closeOnceSpec)

/-- ITS FALSE NEIGHBOUR: 'it returns false'. Refute it at one input. -/
def closeOnceWrong : ChangeSpec := { name := "closeOnce", fn := fun _ => fun
  | [d1, d2] => { results := [.lit (.bool false)], args := [d1, d2] }
  | _ => none }
def CloseOnceWrongFalsely : Prop := closeOnceRow.holds Try.pinned (OpenSpec.ofChange closeOnceWrong)

/- THE SECOND FORM. 'bulk': how many values and letters a reading holds, each counted each time it is reached (what is shared counts as often as it is met; a slice's spare places count too). A statement '..UptoSaid' is the law's where the arguments, and the package variables that the reading takes, are together of bulk at most 1048576: NARROWER than '..Said'. Prove '..Said' where nothing that the law and all that it calls make is longer than what came in: it says more and counts as full. Else prove '..UptoSaid'. A law counts once. -/
mutual
def uptoBulk {H : Type} : DataW H → Nat
  | .lit (.string bytes) => bytes.length + 1
  | .lit _ => 1
  | .nil => 1
  | .ptr d => uptoBulk d + 1
  | .slice elems spare => uptoBulkAll elems + uptoBulkAll spare + 1
  | .agg parts => uptoBulkAll parts + 1
  | .iface _ d => uptoBulk d + 1
  | .map entries => uptoBulkEntries entries + 1
  | .held _ => 1
def uptoBulkAll {H : Type} : List (DataW H) → Nat
  | [] => 0
  | d :: r => uptoBulk d + uptoBulkAll r
def uptoBulkEntries {H : Type} : List (Lit × DataW H) → Nat
  | [] => 0
  | x :: r => uptoBulkEntry x + uptoBulkEntries r
def uptoBulkEntry {H : Type} : Lit × DataW H → Nat
  | (.string bytes, d) => bytes.length + uptoBulk d + 1
  | (_, d) => uptoBulk d + 1
 end
def uptoSmall : (H : Type) → List (DataW H) → Bool := fun _ ds => decide (uptoBulkAll ds ≤ 1048576)
def OpenSpec.upto (s : _root_.Go.ChangeSpec) : _root_.Go.OpenSpec := { _root_.Go.OpenSpec.ofChange s with cond := some uptoSmall }

/-- 'lombardlaw29.CloseFalls', WHERE WHAT IT READS IS OF BULK AT MOST 1048576: true; the input reads as it did. -/
def closeFallsUptoRow : OpenClaim := { program := "ytlbhjkbjokiioaa", sum := "297926d16c75cf31298a6f2e6989491be7bd2548a2eab6b3ac1c908bbf40bb48", func := "lombard/lombardlaw29.CloseFalls", spec := "closeFalls", apart := false, narrowed := true }
def CloseFallsUptoSaid : Prop := closeFallsUptoRow.holds Try.pinned (OpenSpec.upto closeFallsSpec)

/-- 'lombardlaw29.CloseWhole', WHERE WHAT IT READS IS OF BULK AT MOST 1048576: true; the input reads as it did. -/
def closeWholeUptoRow : OpenClaim := { program := "ytlbhjkbjokiioaa", sum := "297926d16c75cf31298a6f2e6989491be7bd2548a2eab6b3ac1c908bbf40bb48", func := "lombard/lombardlaw29.CloseWhole", spec := "closeWhole", apart := false, narrowed := true }
def CloseWholeUptoSaid : Prop := closeWholeUptoRow.holds Try.pinned (OpenSpec.upto closeWholeSpec)

/-- 'lombardlaw29.CloseResults', WHERE WHAT IT READS IS OF BULK AT MOST 1048576: true; the input reads as it did. -/
def closeResultsUptoRow : OpenClaim := { program := "ytlbhjkbjokiioaa", sum := "297926d16c75cf31298a6f2e6989491be7bd2548a2eab6b3ac1c908bbf40bb48", func := "lombard/lombardlaw29.CloseResults", spec := "closeResults", apart := false, narrowed := true }
def CloseResultsUptoSaid : Prop := closeResultsUptoRow.holds Try.pinned (OpenSpec.upto closeResultsSpec)

/-- 'lombardlaw29.CloseAuctions', WHERE WHAT IT READS IS OF BULK AT MOST 1048576: true; the input reads as it did. -/
def closeAuctionsUptoRow : OpenClaim := { program := "ytlbhjkbjokiioaa", sum := "297926d16c75cf31298a6f2e6989491be7bd2548a2eab6b3ac1c908bbf40bb48", func := "lombard/lombardlaw29.CloseAuctions", spec := "closeAuctions", unfollowed := true, recurses := true, apart := false, narrowed := true }
def CloseAuctionsUptoSaid : Prop := closeAuctionsUptoRow.holds Try.pinned (OpenSpec.upto closeAuctionsSpec)

/-- 'lombardlaw29.CloseOnce', WHERE WHAT IT READS IS OF BULK AT MOST 1048576: true; the input reads as it did. -/
def closeOnceUptoRow : OpenClaim := { program := "ytlbhjkbjokiioaa", sum := "297926d16c75cf31298a6f2e6989491be7bd2548a2eab6b3ac1c908bbf40bb48", func := "lombard/lombardlaw29.CloseOnce", spec := "closeOnce", unfollowed := true, recurses := true, apart := false, narrowed := true }
def CloseOnceUptoSaid : Prop := closeOnceUptoRow.holds Try.pinned (OpenSpec.upto closeOnceSpec)

end Rows
end Go.Proofs.Ytlbhjkbjokiioaa
