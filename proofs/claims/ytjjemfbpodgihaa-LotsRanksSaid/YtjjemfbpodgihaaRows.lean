/-
  No cell of these rows narrows 'for every input' (looked for: loops, veiled, ifaces, maps, wideKeys, modest, calm, conditions, laid).
  DERIVED. THE GIVEN ROWS OF THIS SEAT. 4 by the template 'for every input the law returns true; each argument reads behind the call as it read before'; 0 by the template 'total and deterministic' (their statements: YtjjemfbpodgihaaTotals.lean).
  GIVEN WITH THE SEED: the statements are not yours to turn. If you find one false, say at which input.
  Laid BY PROGRAM, IN A SANDBOX (cutbox-rows.mjs): the forced cells as the released guide's own fill.sh prints them over the translation 229500720fa9ae84… (all of the seat's roots in one cut). By AI agents, Wed Nov 11 2026. No macro, syntax, notation, axiom, sorry.
-/
import Derived.Test.YtjjemfbpodgihaaChecked
import GoSem.Claim
import GoSem.ClaimJoined
import GoSem.ClaimMapViews
import Derived.JoinedTies
import Derived.KernelRfl
namespace Go.Proofs.Ytjjemfbpodgihaa
/- THE CELL 'sum', in the pinned program and in every row, IS THE sha256 OF THE DUMP (.gsa) THAT YtjjemfbpodgihaaProg.lean LOADS. Nothing in Lean hashes anything: it is a label: what it is worth is what the hold of that sum in a sandbox is worth. -/
noncomputable def Try.pinned : Pinned := { name := "ytjjemfbpodgihaa", sum := "229500720fa9ae844679d819e6cbe957de20b96dfb122c3df4c360156c1277bb", checked := Try.checked }
namespace Rows
def none {H : Type} : Left H := { results := [], args := [] }

/-- 'lombardlaw17.LotsReckons': WHATEVER THE INPUT: true; the input reads as it did. -/
def lotsReckonsSpec : ChangeSpec := { name := "lotsReckons", fn := fun _ => fun
  | [d1, d2, d3] => { results := [.lit (.bool true)], args := [d1, d2, d3] }
  | _ => none }
def lotsReckonsRow : OpenClaim := { program := "ytjjemfbpodgihaa", sum := "229500720fa9ae844679d819e6cbe957de20b96dfb122c3df4c360156c1277bb", func := "lombard/lombardlaw17.LotsReckons", spec := "lotsReckons", inPlace := ["slices.overlaps[lombard/api.Lot]"], unfollowed := true, recurses := true, apart := false }
def LotsReckonsSaid : Prop := lotsReckonsRow.holds Try.pinned (OpenSpec.ofChange lotsReckonsSpec)

/-- ITS FALSE NEIGHBOUR: 'it returns false'. Refute it at one input. -/
def lotsReckonsWrong : ChangeSpec := { name := "lotsReckons", fn := fun _ => fun
  | [d1, d2, d3] => { results := [.lit (.bool false)], args := [d1, d2, d3] }
  | _ => none }
def LotsReckonsWrongFalsely : Prop := lotsReckonsRow.holds Try.pinned (OpenSpec.ofChange lotsReckonsWrong)

/-- 'lombardlaw17.LotsBack': WHATEVER THE INPUT: true; the input reads as it did. -/
def lotsBackSpec : ChangeSpec := { name := "lotsBack", fn := fun _ => fun
  | [d1, d2] => { results := [.lit (.bool true)], args := [d1, d2] }
  | _ => none }
def lotsBackRow : OpenClaim := { program := "ytjjemfbpodgihaa", sum := "229500720fa9ae844679d819e6cbe957de20b96dfb122c3df4c360156c1277bb", func := "lombard/lombardlaw17.LotsBack", spec := "lotsBack", inPlace := ["slices.overlaps[lombard/api.Lot]"], unfollowed := true, recurses := true, apart := false }
def LotsBackSaid : Prop := lotsBackRow.holds Try.pinned (OpenSpec.ofChange lotsBackSpec)

/-- ITS FALSE NEIGHBOUR: 'it returns false'. Refute it at one input. -/
def lotsBackWrong : ChangeSpec := { name := "lotsBack", fn := fun _ => fun
  | [d1, d2] => { results := [.lit (.bool false)], args := [d1, d2] }
  | _ => none }
def LotsBackWrongFalsely : Prop := lotsBackRow.holds Try.pinned (OpenSpec.ofChange lotsBackWrong)

/-- 'lombardlaw17.LotsChecks': WHATEVER THE INPUT: true; the input reads as it did. -/
def lotsChecksSpec : ChangeSpec := { name := "lotsChecks", fn := fun _ => fun
  | [d] => { results := [.lit (.bool true)], args := [d] }
  | _ => none }
def lotsChecksRow : OpenClaim := { program := "ytjjemfbpodgihaa", sum := "229500720fa9ae844679d819e6cbe957de20b96dfb122c3df4c360156c1277bb", func := "lombard/lombardlaw17.LotsChecks", spec := "lotsChecks", inPlace := ["slices.overlaps[lombard/api.Lot]"], unfollowed := true, recurses := true, apart := false }
def LotsChecksSaid : Prop := lotsChecksRow.holds Try.pinned (OpenSpec.ofChange lotsChecksSpec)

/-- ITS FALSE NEIGHBOUR: 'it returns false'. Refute it at one input. -/
def lotsChecksWrong : ChangeSpec := { name := "lotsChecks", fn := fun _ => fun
  | [d] => { results := [.lit (.bool false)], args := [d] }
  | _ => none }
def LotsChecksWrongFalsely : Prop := lotsChecksRow.holds Try.pinned (OpenSpec.ofChange lotsChecksWrong)

/-- 'lombardlaw17.LotsRanks': WHATEVER THE INPUT: true; the input reads as it did. -/
def lotsRanksSpec : ChangeSpec := { name := "lotsRanks", fn := fun _ => fun
  | [d] => { results := [.lit (.bool true)], args := [d] }
  | _ => none }
def lotsRanksRow : OpenClaim := { program := "ytjjemfbpodgihaa", sum := "229500720fa9ae844679d819e6cbe957de20b96dfb122c3df4c360156c1277bb", func := "lombard/lombardlaw17.LotsRanks", spec := "lotsRanks", inPlace := ["slices.overlaps[lombard/api.Lot]"], unfollowed := true, recurses := true, apart := false }
def LotsRanksSaid : Prop := lotsRanksRow.holds Try.pinned (OpenSpec.ofChange lotsRanksSpec)

/-- ITS FALSE NEIGHBOUR: 'it returns false'. Refute it at one input. -/
def lotsRanksWrong : ChangeSpec := { name := "lotsRanks", fn := fun _ => fun
  | [d] => { results := [.lit (.bool false)], args := [d] }
  | _ => none }
def LotsRanksWrongFalsely : Prop := lotsRanksRow.holds Try.pinned (OpenSpec.ofChange lotsRanksWrong)

/- THE SECOND FORM. 'bulk': how many values and letters a reading holds, each counted each time it is reached (what is shared counts as often as it is met; a slice's spare places count too). A statement '..UptoSaid' is the law's where the arguments, and the package variables that the reading takes, are together of bulk at most 1048576: NARROWER than '..Said'. Prove '..Said' where nothing that the law and all that it calls make is longer than what came in: it says more and counts as full. Else prove '..UptoSaid'. A law counts once. -/
mutual
def uptoBulk {H : Type} : DataW H → Nat
  | .lit (.string bytes) => bytes.length + 1
  | .lit _ => 1
  | .nil => 1
  | .ptr d => uptoBulk d + 1
  | .slice elems spare => uptoBulkAll elems + uptoBulkAll spare + 1
  | .agg parts => uptoBulkAll parts + 1
  | .iface _ d => uptoBulk d + 1
  | .map entries => uptoBulkEntries entries + 1
  | .held _ => 1
def uptoBulkAll {H : Type} : List (DataW H) → Nat
  | [] => 0
  | d :: r => uptoBulk d + uptoBulkAll r
def uptoBulkEntries {H : Type} : List (Lit × DataW H) → Nat
  | [] => 0
  | x :: r => uptoBulkEntry x + uptoBulkEntries r
def uptoBulkEntry {H : Type} : Lit × DataW H → Nat
  | (.string bytes, d) => bytes.length + uptoBulk d + 1
  | (_, d) => uptoBulk d + 1
 end
def uptoSmall : (H : Type) → List (DataW H) → Bool := fun _ ds => decide (uptoBulkAll ds ≤ 1048576)
def OpenSpec.upto (s : _root_.Go.ChangeSpec) : _root_.Go.OpenSpec := { _root_.Go.OpenSpec.ofChange s with cond := some uptoSmall }

/-- 'lombardlaw17.LotsReckons', WHERE WHAT IT READS IS OF BULK AT MOST 1048576: true; the input reads as it did. -/
def lotsReckonsUptoRow : OpenClaim := { program := "ytjjemfbpodgihaa", sum := "229500720fa9ae844679d819e6cbe957de20b96dfb122c3df4c360156c1277bb", func := "lombard/lombardlaw17.LotsReckons", spec := "lotsReckons", inPlace := ["slices.overlaps[lombard/api.Lot]"], unfollowed := true, recurses := true, apart := false, narrowed := true }
def LotsReckonsUptoSaid : Prop := lotsReckonsUptoRow.holds Try.pinned (OpenSpec.upto lotsReckonsSpec)

/-- 'lombardlaw17.LotsBack', WHERE WHAT IT READS IS OF BULK AT MOST 1048576: true; the input reads as it did. -/
def lotsBackUptoRow : OpenClaim := { program := "ytjjemfbpodgihaa", sum := "229500720fa9ae844679d819e6cbe957de20b96dfb122c3df4c360156c1277bb", func := "lombard/lombardlaw17.LotsBack", spec := "lotsBack", inPlace := ["slices.overlaps[lombard/api.Lot]"], unfollowed := true, recurses := true, apart := false, narrowed := true }
def LotsBackUptoSaid : Prop := lotsBackUptoRow.holds Try.pinned (OpenSpec.upto lotsBackSpec)

/-- 'lombardlaw17.LotsChecks', WHERE WHAT IT READS IS OF BULK AT MOST 1048576: true; the input reads as it did. -/
def lotsChecksUptoRow : OpenClaim := { program := "ytjjemfbpodgihaa", sum := "229500720fa9ae844679d819e6cbe957de20b96dfb122c3df4c360156c1277bb", func := "lombard/lombardlaw17.LotsChecks", spec := "lotsChecks", inPlace := ["slices.overlaps[lombard/api.Lot]"], unfollowed := true, recurses := true, apart := false, narrowed := true }
def LotsChecksUptoSaid : Prop := lotsChecksUptoRow.holds Try.pinned (OpenSpec.upto lotsChecksSpec)

/-- 'lombardlaw17.LotsRanks', WHERE WHAT IT READS IS OF BULK AT MOST 1048576: true; the input reads as it did. -/
def lotsRanksUptoRow : OpenClaim := { program := "ytjjemfbpodgihaa", sum := "229500720fa9ae844679d819e6cbe957de20b96dfb122c3df4c360156c1277bb", func := "lombard/lombardlaw17.LotsRanks", spec := "lotsRanks", inPlace := ["slices.overlaps[lombard/api.Lot]"], unfollowed := true, recurses := true, apart := false, narrowed := true }
def LotsRanksUptoSaid : Prop := lotsRanksUptoRow.holds Try.pinned (OpenSpec.upto lotsRanksSpec)

end Rows
end Go.Proofs.Ytjjemfbpodgihaa
