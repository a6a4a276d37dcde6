/-
  No cell of these rows narrows 'for every input' (looked for: loops, veiled, ifaces, maps, wideKeys, modest, calm, conditions, laid).
  DERIVED. THE GIVEN ROWS OF THIS SEAT. 3 by the template 'for every input the law returns true; each argument reads behind the call as it read before'; 0 by the template 'total and deterministic' (their statements: YtjlkmdmaimednaaGreatTotals.lean).
  GIVEN WITH THE SEED: the statements are not yours to turn. If you find one false, say at which input.
  Laid BY PROGRAM, IN A SANDBOX (cutbox-rows.mjs): the forced cells as the released guide's own fill.sh prints them over the translation 18e5364ce74a6c88… (all of the seat's roots in one cut). By AI agents, Wed Nov 11 2026. No macro, syntax, notation, axiom, sorry.
-/
import Derived.Test.YtjlkmdmaimednaaGreatChecked
import GoSem.Claim
import GoSem.ClaimJoined
import GoSem.ClaimMapViews
import Derived.JoinedTies
import Derived.KernelRfl
namespace Go.Proofs.YtjlkmdmaimednaaGreat
/- THE CELL 'sum', in the pinned program and in every row, IS THE sha256 OF THE DUMP (.gsa) THAT YtjlkmdmaimednaaGreatProg.lean LOADS. Nothing in Lean hashes anything: it is a label: what it is worth is what the hold of that sum in a sandbox is worth. -/
noncomputable def Tryz.pinned : Pinned := { name := "ytjlkmdmaimednaagreat", sum := "18e5364ce74a6c8847ba9d4335733e331d7e357375b2e19ce134fb25bff6f539", checked := Tryz.checked }
namespace Rows
def none {H : Type} : Left H := { results := [], args := [] }

/-- 'lombardlaw19.SubstRenews': WHATEVER THE INPUT: true; the input reads as it did. -/
def substRenewsSpec : ChangeSpec := { name := "substRenews", fn := fun _ => fun
  | [d1, d2, d3] => { results := [.lit (.bool true)], args := [d1, d2, d3] }
  | _ => none }
def substRenewsRow : OpenClaim := { program := "ytjlkmdmaimednaagreat", sum := "18e5364ce74a6c8847ba9d4335733e331d7e357375b2e19ce134fb25bff6f539", func := "lombard/lombardlaw19.SubstRenews", spec := "substRenews", inPlace := ["slices.overlaps[lombard/api.Asset]", "slices.overlaps[int]", "slices.overlaps[lombard/api.Lot]"], unfollowed := true, recurses := true, apart := false }
def SubstRenewsSaid : Prop := substRenewsRow.holds Tryz.pinned (OpenSpec.ofChange substRenewsSpec)

/-- ITS FALSE NEIGHBOUR: 'it returns false'. Refute it at one input. -/
def substRenewsWrong : ChangeSpec := { name := "substRenews", fn := fun _ => fun
  | [d1, d2, d3] => { results := [.lit (.bool false)], args := [d1, d2, d3] }
  | _ => none }
def SubstRenewsWrongFalsely : Prop := substRenewsRow.holds Tryz.pinned (OpenSpec.ofChange substRenewsWrong)

/-- 'lombardlaw19.SubstStates': WHATEVER THE INPUT: true; the input reads as it did. -/
def substStatesSpec : ChangeSpec := { name := "substStates", fn := fun _ => fun
  | [d1, d2, d3, d4] => { results := [.lit (.bool true)], args := [d1, d2, d3, d4] }
  | _ => none }
def substStatesRow : OpenClaim := { program := "ytjlkmdmaimednaagreat", sum := "18e5364ce74a6c8847ba9d4335733e331d7e357375b2e19ce134fb25bff6f539", func := "lombard/lombardlaw19.SubstStates", spec := "substStates", inPlace := ["slices.overlaps[lombard/api.Asset]", "slices.overlaps[int]", "slices.overlaps[lombard/api.Lot]"], unfollowed := true, recurses := true, apart := false }
def SubstStatesSaid : Prop := substStatesRow.holds Tryz.pinned (OpenSpec.ofChange substStatesSpec)

/-- ITS FALSE NEIGHBOUR: 'it returns false'. Refute it at one input. -/
def substStatesWrong : ChangeSpec := { name := "substStates", fn := fun _ => fun
  | [d1, d2, d3, d4] => { results := [.lit (.bool false)], args := [d1, d2, d3, d4] }
  | _ => none }
def SubstStatesWrongFalsely : Prop := substStatesRow.holds Tryz.pinned (OpenSpec.ofChange substStatesWrong)

/-- 'lombardlaw19.SubstCovered': WHATEVER THE INPUT: true; the input reads as it did. -/
def substCoveredSpec : ChangeSpec := { name := "substCovered", fn := fun _ => fun
  | [d1, d2, d3, d4] => { results := [.lit (.bool true)], args := [d1, d2, d3, d4] }
  | _ => none }
def substCoveredRow : OpenClaim := { program := "ytjlkmdmaimednaagreat", sum := "18e5364ce74a6c8847ba9d4335733e331d7e357375b2e19ce134fb25bff6f539", func := "lombard/lombardlaw19.SubstCovered", spec := "substCovered", inPlace := ["slices.overlaps[lombard/api.Asset]", "slices.overlaps[int]", "slices.overlaps[lombard/api.Lot]"], unfollowed := true, recurses := true, apart := false }
def SubstCoveredSaid : Prop := substCoveredRow.holds Tryz.pinned (OpenSpec.ofChange substCoveredSpec)

/-- ITS FALSE NEIGHBOUR: 'it returns false'. Refute it at one input. -/
def substCoveredWrong : ChangeSpec := { name := "substCovered", fn := fun _ => fun
  | [d1, d2, d3, d4] => { results := [.lit (.bool false)], args := [d1, d2, d3, d4] }
  | _ => none }
def SubstCoveredWrongFalsely : Prop := substCoveredRow.holds Tryz.pinned (OpenSpec.ofChange substCoveredWrong)

/- THE SECOND FORM. 'bulk': how many values and letters a reading holds, each counted each time it is reached (what is shared counts as often as it is met; a slice's spare places count too). A statement '..UptoSaid' is the law's where the arguments, and the package variables that the reading takes, are together of bulk at most 1048576: NARROWER than '..Said'. Prove '..Said' where nothing that the law and all that it calls make is longer than what came in: it says more and counts as full. Else prove '..UptoSaid'. A law counts once. -/
mutual
def uptoBulk {H : Type} : DataW H → Nat
  | .lit (.string bytes) => bytes.length + 1
  | .lit _ => 1
  | .nil => 1
  | .ptr d => uptoBulk d + 1
  | .slice elems spare => uptoBulkAll elems + uptoBulkAll spare + 1
  | .agg parts => uptoBulkAll parts + 1
  | .iface _ d => uptoBulk d + 1
  | .map entries => uptoBulkEntries entries + 1
  | .held _ => 1
def uptoBulkAll {H : Type} : List (DataW H) → Nat
  | [] => 0
  | d :: r => uptoBulk d + uptoBulkAll r
def uptoBulkEntries {H : Type} : List (Lit × DataW H) → Nat
  | [] => 0
  | x :: r => uptoBulkEntry x + uptoBulkEntries r
def uptoBulkEntry {H : Type} : Lit × DataW H → Nat
  | (.string bytes, d) => bytes.length + uptoBulk d + 1
  | (_, d) => uptoBulk d + 1
 end
def uptoSmall : (H : Type) → List (DataW H) → Bool := fun _ ds => decide (uptoBulkAll ds ≤ 1048576)
def OpenSpec.upto (s : _root_.Go.ChangeSpec) : _root_.Go.OpenSpec := { _root_.Go.OpenSpec.ofChange s with cond := some uptoSmall }

/-- 'lombardlaw19.SubstRenews', WHERE WHAT IT READS IS OF BULK AT MOST 1048576: true; the input reads as it did. -/
def substRenewsUptoRow : OpenClaim := { program := "ytjlkmdmaimednaagreat", sum := "18e5364ce74a6c8847ba9d4335733e331d7e357375b2e19ce134fb25bff6f539", func := "lombard/lombardlaw19.SubstRenews", spec := "substRenews", inPlace := ["slices.overlaps[lombard/api.Asset]", "slices.overlaps[int]", "slices.overlaps[lombard/api.Lot]"], unfollowed := true, recurses := true, apart := false, narrowed := true }
def SubstRenewsUptoSaid : Prop := substRenewsUptoRow.holds Tryz.pinned (OpenSpec.upto substRenewsSpec)

/-- 'lombardlaw19.SubstStates', WHERE WHAT IT READS IS OF BULK AT MOST 1048576: true; the input reads as it did. -/
def substStatesUptoRow : OpenClaim := { program := "ytjlkmdmaimednaagreat", sum := "18e5364ce74a6c8847ba9d4335733e331d7e357375b2e19ce134fb25bff6f539", func := "lombard/lombardlaw19.SubstStates", spec := "substStates", inPlace := ["slices.overlaps[lombard/api.Asset]", "slices.overlaps[int]", "slices.overlaps[lombard/api.Lot]"], unfollowed := true, recurses := true, apart := false, narrowed := true }
def SubstStatesUptoSaid : Prop := substStatesUptoRow.holds Tryz.pinned (OpenSpec.upto substStatesSpec)

/-- 'lombardlaw19.SubstCovered', WHERE WHAT IT READS IS OF BULK AT MOST 1048576: true; the input reads as it did. -/
def substCoveredUptoRow : OpenClaim := { program := "ytjlkmdmaimednaagreat", sum := "18e5364ce74a6c8847ba9d4335733e331d7e357375b2e19ce134fb25bff6f539", func := "lombard/lombardlaw19.SubstCovered", spec := "substCovered", inPlace := ["slices.overlaps[lombard/api.Asset]", "slices.overlaps[int]", "slices.overlaps[lombard/api.Lot]"], unfollowed := true, recurses := true, apart := false, narrowed := true }
def SubstCoveredUptoSaid : Prop := substCoveredUptoRow.holds Tryz.pinned (OpenSpec.upto substCoveredSpec)

end Rows
end Go.Proofs.YtjlkmdmaimednaaGreat
