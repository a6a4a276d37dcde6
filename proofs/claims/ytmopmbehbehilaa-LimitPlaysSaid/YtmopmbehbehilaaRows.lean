/-
  No cell of these rows narrows 'for every input' (looked for: loops, veiled, ifaces, maps, wideKeys, modest, calm, conditions, laid).
  DERIVED. THE GIVEN ROWS OF THIS SEAT. 4 by the template 'for every input the law returns true; each argument reads behind the call as it read before'; 0 by the template 'total and deterministic' (their statements: YtmopmbehbehilaaTotals.lean).
  GIVEN WITH THE SEED: the statements are not yours to turn. If you find one false, say at which input.
  Laid BY PROGRAM, IN A SANDBOX (cutbox-rows.mjs): the forced cells as the released guide's own fill.sh prints them over the translation aeb8915239c70fab… (all of the seat's roots in one cut). By AI agents, Wed Nov 11 2026. No macro, syntax, notation, axiom, sorry.
-/
import Derived.Test.YtmopmbehbehilaaChecked
import GoSem.Claim
import GoSem.ClaimJoined
import GoSem.ClaimMapViews
import Derived.JoinedTies
import Derived.KernelRfl
namespace Go.Proofs.Ytmopmbehbehilaa
/- THE CELL 'sum', in the pinned program and in every row, IS THE sha256 OF THE DUMP (.gsa) THAT YtmopmbehbehilaaProg.lean LOADS. Nothing in Lean hashes anything: it is a label: what it is worth is what the hold of that sum in a sandbox is worth. -/
noncomputable def Try.pinned : Pinned := { name := "ytmopmbehbehilaa", sum := "aeb8915239c70fab3046d25e187c75aaab707aa63ba52b31bd0ca34c4f443ac2", checked := Try.checked }
namespace Rows
def none {H : Type} : Left H := { results := [], args := [] }

/-- 'lombardlaw16.LimitKeeps': WHATEVER THE INPUT: true; the input reads as it did. -/
def limitKeepsSpec : ChangeSpec := { name := "limitKeeps", fn := fun _ => fun
  | [d1, d2, d3] => { results := [.lit (.bool true)], args := [d1, d2, d3] }
  | _ => none }
def limitKeepsRow : OpenClaim := { program := "ytmopmbehbehilaa", sum := "aeb8915239c70fab3046d25e187c75aaab707aa63ba52b31bd0ca34c4f443ac2", func := "lombard/lombardlaw16.LimitKeeps", spec := "limitKeeps", unfollowed := true, recurses := true, apart := false }
def LimitKeepsSaid : Prop := limitKeepsRow.holds Try.pinned (OpenSpec.ofChange limitKeepsSpec)

/-- ITS FALSE NEIGHBOUR: 'it returns false'. Refute it at one input. -/
def limitKeepsWrong : ChangeSpec := { name := "limitKeeps", fn := fun _ => fun
  | [d1, d2, d3] => { results := [.lit (.bool false)], args := [d1, d2, d3] }
  | _ => none }
def LimitKeepsWrongFalsely : Prop := limitKeepsRow.holds Try.pinned (OpenSpec.ofChange limitKeepsWrong)

/-- 'lombardlaw16.LimitPlays': WHATEVER THE INPUT: true; the input reads as it did. -/
def limitPlaysSpec : ChangeSpec := { name := "limitPlays", fn := fun _ => fun
  | [d1, d2, d3, d4] => { results := [.lit (.bool true)], args := [d1, d2, d3, d4] }
  | _ => none }
def limitPlaysRow : OpenClaim := { program := "ytmopmbehbehilaa", sum := "aeb8915239c70fab3046d25e187c75aaab707aa63ba52b31bd0ca34c4f443ac2", func := "lombard/lombardlaw16.LimitPlays", spec := "limitPlays", unfollowed := true, recurses := true, apart := false }
def LimitPlaysSaid : Prop := limitPlaysRow.holds Try.pinned (OpenSpec.ofChange limitPlaysSpec)

/-- ITS FALSE NEIGHBOUR: 'it returns false'. Refute it at one input. -/
def limitPlaysWrong : ChangeSpec := { name := "limitPlays", fn := fun _ => fun
  | [d1, d2, d3, d4] => { results := [.lit (.bool false)], args := [d1, d2, d3, d4] }
  | _ => none }
def LimitPlaysWrongFalsely : Prop := limitPlaysRow.holds Try.pinned (OpenSpec.ofChange limitPlaysWrong)

/-- 'lombardlaw16.LimitBack': WHATEVER THE INPUT: true; the input reads as it did. -/
def limitBackSpec : ChangeSpec := { name := "limitBack", fn := fun _ => fun
  | [d1, d2, d3, d4, d5] => { results := [.lit (.bool true)], args := [d1, d2, d3, d4, d5] }
  | _ => none }
def limitBackRow : OpenClaim := { program := "ytmopmbehbehilaa", sum := "aeb8915239c70fab3046d25e187c75aaab707aa63ba52b31bd0ca34c4f443ac2", func := "lombard/lombardlaw16.LimitBack", spec := "limitBack", unfollowed := true, recurses := true, apart := false }
def LimitBackSaid : Prop := limitBackRow.holds Try.pinned (OpenSpec.ofChange limitBackSpec)

/-- ITS FALSE NEIGHBOUR: 'it returns false'. Refute it at one input. -/
def limitBackWrong : ChangeSpec := { name := "limitBack", fn := fun _ => fun
  | [d1, d2, d3, d4, d5] => { results := [.lit (.bool false)], args := [d1, d2, d3, d4, d5] }
  | _ => none }
def LimitBackWrongFalsely : Prop := limitBackRow.holds Try.pinned (OpenSpec.ofChange limitBackWrong)

/-- 'lombardlaw16.LimitNobody': WHATEVER THE INPUT: true; the input reads as it did. -/
def limitNobodySpec : ChangeSpec := { name := "limitNobody", fn := fun _ => fun
  | [d1, d2] => { results := [.lit (.bool true)], args := [d1, d2] }
  | _ => none }
def limitNobodyRow : OpenClaim := { program := "ytmopmbehbehilaa", sum := "aeb8915239c70fab3046d25e187c75aaab707aa63ba52b31bd0ca34c4f443ac2", func := "lombard/lombardlaw16.LimitNobody", spec := "limitNobody", unfollowed := true, recurses := true, apart := false }
def LimitNobodySaid : Prop := limitNobodyRow.holds Try.pinned (OpenSpec.ofChange limitNobodySpec)

/-- ITS FALSE NEIGHBOUR: 'it returns false'. Refute it at one input. -/
def limitNobodyWrong : ChangeSpec := { name := "limitNobody", fn := fun _ => fun
  | [d1, d2] => { results := [.lit (.bool false)], args := [d1, d2] }
  | _ => none }
def LimitNobodyWrongFalsely : Prop := limitNobodyRow.holds Try.pinned (OpenSpec.ofChange limitNobodyWrong)

/- THE SECOND FORM. 'bulk': how many values and letters a reading holds, each counted each time it is reached (what is shared counts as often as it is met; a slice's spare places count too). A statement '..UptoSaid' is the law's where the arguments, and the package variables that the reading takes, are together of bulk at most 1048576: NARROWER than '..Said'. Prove '..Said' where nothing that the law and all that it calls make is longer than what came in: it says more and counts as full. Else prove '..UptoSaid'. A law counts once. -/
mutual
def uptoBulk {H : Type} : DataW H → Nat
  | .lit (.string bytes) => bytes.length + 1
  | .lit _ => 1
  | .nil => 1
  | .ptr d => uptoBulk d + 1
  | .slice elems spare => uptoBulkAll elems + uptoBulkAll spare + 1
  | .agg parts => uptoBulkAll parts + 1
  | .iface _ d => uptoBulk d + 1
  | .map entries => uptoBulkEntries entries + 1
  | .held _ => 1
def uptoBulkAll {H : Type} : List (DataW H) → Nat
  | [] => 0
  | d :: r => uptoBulk d + uptoBulkAll r
def uptoBulkEntries {H : Type} : List (Lit × DataW H) → Nat
  | [] => 0
  | x :: r => uptoBulkEntry x + uptoBulkEntries r
def uptoBulkEntry {H : Type} : Lit × DataW H → Nat
  | (.string bytes, d) => bytes.length + uptoBulk d + 1
  | (_, d) => uptoBulk d + 1
 end
def uptoSmall : (H : Type) → List (DataW H) → Bool := fun _ ds => decide (uptoBulkAll ds ≤ 1048576)
def OpenSpec.upto (s : _root_.Go.ChangeSpec) : _root_.Go.OpenSpec := { _root_.Go.OpenSpec.ofChange s with cond := some uptoSmall }

/-- 'lombardlaw16.LimitKeeps', WHERE WHAT IT READS IS OF BULK AT MOST 1048576: true; the input reads as it did. -/
def limitKeepsUptoRow : OpenClaim := { program := "ytmopmbehbehilaa", sum := "aeb8915239c70fab3046d25e187c75aaab707aa63ba52b31bd0ca34c4f443ac2", func := "lombard/lombardlaw16.LimitKeeps", spec := "limitKeeps", unfollowed := true, recurses := true, apart := false, narrowed := true }
def LimitKeepsUptoSaid : Prop := limitKeepsUptoRow.holds Try.pinned (OpenSpec.upto limitKeepsSpec)

/-- 'lombardlaw16.LimitPlays', WHERE WHAT IT READS IS OF BULK AT MOST 1048576: true; the input reads as it did. -/
def limitPlaysUptoRow : OpenClaim := { program := "ytmopmbehbehilaa", sum := "aeb8915239c70fab3046d25e187c75aaab707aa63ba52b31bd0ca34c4f443ac2", func := "lombard/lombardlaw16.LimitPlays", spec := "limitPlays", unfollowed := true, recurses := true, apart := false, narrowed := true }
def LimitPlaysUptoSaid : Prop := limitPlaysUptoRow.holds Try.pinned (OpenSpec.upto limitPlaysSpec)

/-- 'lombardlaw16.LimitBack', WHERE WHAT IT READS IS OF BULK AT MOST 1048576: true; the input reads as it did. -/
def limitBackUptoRow : OpenClaim := { program := "ytmopmbehbehilaa", sum := "aeb8915239c70fab3046d25e187c75aaab707aa63ba52b31bd0ca34c4f443ac2", func := "lombard/lombardlaw16.LimitBack", spec := "limitBack", unfollowed := true, recurses := true, apart := false, narrowed := true }
def LimitBackUptoSaid : Prop := limitBackUptoRow.holds Try.pinned (OpenSpec.upto limitBackSpec)

/-- 'lombardlaw16.LimitNobody', WHERE WHAT IT READS IS OF BULK AT MOST 1048576: true; the input reads as it did. -/
def limitNobodyUptoRow : OpenClaim := { program := "ytmopmbehbehilaa", sum := "aeb8915239c70fab3046d25e187c75aaab707aa63ba52b31bd0ca34c4f443ac2", func := "lombard/lombardlaw16.LimitNobody", spec := "limitNobody", unfollowed := true, recurses := true, apart := false, narrowed := true }
def LimitNobodyUptoSaid : Prop := limitNobodyUptoRow.holds Try.pinned (OpenSpec.upto limitNobodySpec)

end Rows
end Go.Proofs.Ytmopmbehbehilaa
