/-
  No cell of these rows narrows 'for every input' (looked for: loops, veiled, ifaces, maps, wideKeys, modest, calm, conditions, laid).
  DERIVED. THE GIVEN ROWS OF THIS SEAT. 4 by the template 'for every input the law returns true; each argument reads behind the call as it read before'; 0 by the template 'total and deterministic' (their statements: YtbchabgigjjdnaaTotals.lean).
  GIVEN WITH THE SEED: the statements are not yours to turn. If you find one false, say at which input.
  Laid BY PROGRAM, IN A SANDBOX (cutbox-rows.mjs): the forced cells as the released guide's own fill.sh prints them over the translation 044577ba0fc019dd… (all of the seat's roots in one cut). By AI agents, Wed Nov 11 2026. No macro, syntax, notation, axiom, sorry.
-/
import Derived.Test.YtbchabgigjjdnaaChecked
import GoSem.Claim
import GoSem.ClaimJoined
import GoSem.ClaimMapViews
import Derived.JoinedTies
import Derived.KernelRfl
namespace Go.Proofs.Ytbchabgigjjdnaa
/- THE CELL 'sum', in the pinned program and in every row, IS THE sha256 OF THE DUMP (.gsa) THAT YtbchabgigjjdnaaProg.lean LOADS. Nothing in Lean hashes anything: it is a label: what it is worth is what the hold of that sum in a sandbox is worth. -/
noncomputable def Try.pinned : Pinned := { name := "ytbchabgigjjdnaa", sum := "044577ba0fc019dd3a618ad95f39f00c76f45f516e019c30adb77c7befbc0095", checked := Try.checked }
namespace Rows
def none {H : Type} : Left H := { results := [], args := [] }

/-- 'lombardlaw28.MarginEnough': WHATEVER THE INPUT: true; the input reads as it did. -/
def marginEnoughSpec : ChangeSpec := { name := "marginEnough", fn := fun _ => fun
  | [d1, d2, d3, d4] => { results := [.lit (.bool true)], args := [d1, d2, d3, d4] }
  | _ => none }
def marginEnoughRow : OpenClaim := { program := "ytbchabgigjjdnaa", sum := "044577ba0fc019dd3a618ad95f39f00c76f45f516e019c30adb77c7befbc0095", func := "lombard/lombardlaw28.MarginEnough", spec := "marginEnough", apart := false }
def MarginEnoughSaid : Prop := marginEnoughRow.holds Try.pinned (OpenSpec.ofChange marginEnoughSpec)

/-- ITS FALSE NEIGHBOUR: 'it returns false'. Refute it at one input. -/
def marginEnoughWrong : ChangeSpec := { name := "marginEnough", fn := fun _ => fun
  | [d1, d2, d3, d4] => { results := [.lit (.bool false)], args := [d1, d2, d3, d4] }
  | _ => none }
def MarginEnoughWrongFalsely : Prop := marginEnoughRow.holds Try.pinned (OpenSpec.ofChange marginEnoughWrong)

/-- 'lombardlaw28.MarginLacks': WHATEVER THE INPUT: true; the input reads as it did. -/
def marginLacksSpec : ChangeSpec := { name := "marginLacks", fn := fun _ => fun
  | [d1, d2, d3, d4, d5] => { results := [.lit (.bool true)], args := [d1, d2, d3, d4, d5] }
  | _ => none }
def marginLacksRow : OpenClaim := { program := "ytbchabgigjjdnaa", sum := "044577ba0fc019dd3a618ad95f39f00c76f45f516e019c30adb77c7befbc0095", func := "lombard/lombardlaw28.MarginLacks", spec := "marginLacks", apart := false }
def MarginLacksSaid : Prop := marginLacksRow.holds Try.pinned (OpenSpec.ofChange marginLacksSpec)

/-- ITS FALSE NEIGHBOUR: 'it returns false'. Refute it at one input. -/
def marginLacksWrong : ChangeSpec := { name := "marginLacks", fn := fun _ => fun
  | [d1, d2, d3, d4, d5] => { results := [.lit (.bool false)], args := [d1, d2, d3, d4, d5] }
  | _ => none }
def MarginLacksWrongFalsely : Prop := marginLacksRow.holds Try.pinned (OpenSpec.ofChange marginLacksWrong)

/-- 'lombardlaw28.MarginCalls': WHATEVER THE INPUT: true; the input reads as it did. -/
def marginCallsSpec : ChangeSpec := { name := "marginCalls", fn := fun _ => fun
  | [d1, d2, d3, d4, d5, d6] => { results := [.lit (.bool true)], args := [d1, d2, d3, d4, d5, d6] }
  | _ => none }
def marginCallsRow : OpenClaim := { program := "ytbchabgigjjdnaa", sum := "044577ba0fc019dd3a618ad95f39f00c76f45f516e019c30adb77c7befbc0095", func := "lombard/lombardlaw28.MarginCalls", spec := "marginCalls", apart := false }
def MarginCallsSaid : Prop := marginCallsRow.holds Try.pinned (OpenSpec.ofChange marginCallsSpec)

/-- ITS FALSE NEIGHBOUR: 'it returns false'. Refute it at one input. -/
def marginCallsWrong : ChangeSpec := { name := "marginCalls", fn := fun _ => fun
  | [d1, d2, d3, d4, d5, d6] => { results := [.lit (.bool false)], args := [d1, d2, d3, d4, d5, d6] }
  | _ => none }
def MarginCallsWrongFalsely : Prop := marginCallsRow.holds Try.pinned (OpenSpec.ofChange marginCallsWrong)

/-- 'lombardlaw28.MarginStress': WHATEVER THE INPUT: true; the input reads as it did. -/
def marginStressSpec : ChangeSpec := { name := "marginStress", fn := fun _ => fun
  | [d1, d2, d3] => { results := [.lit (.bool true)], args := [d1, d2, d3] }
  | _ => none }
def marginStressRow : OpenClaim := { program := "ytbchabgigjjdnaa", sum := "044577ba0fc019dd3a618ad95f39f00c76f45f516e019c30adb77c7befbc0095", func := "lombard/lombardlaw28.MarginStress", spec := "marginStress", apart := false }
def MarginStressSaid : Prop := marginStressRow.holds Try.pinned (OpenSpec.ofChange marginStressSpec)

/-- ITS FALSE NEIGHBOUR: 'it returns false'. Refute it at one input. -/
def marginStressWrong : ChangeSpec := { name := "marginStress", fn := fun _ => fun
  | [d1, d2, d3] => { results := [.lit (.bool false)], args := [d1, d2, d3] }
  | _ => none }
def MarginStressWrongFalsely : Prop := marginStressRow.holds Try.pinned (OpenSpec.ofChange marginStressWrong)

/- THE SECOND FORM. 'bulk': how many values and letters a reading holds, each counted each time it is reached (what is shared counts as often as it is met; a slice's spare places count too). A statement '..UptoSaid' is the law's where the arguments, and the package variables that the reading takes, are together of bulk at most 1048576: NARROWER than '..Said'. Prove '..Said' where nothing that the law and all that it calls make is longer than what came in: it says more and counts as full. Else prove '..UptoSaid'. A law counts once. -/
mutual
def uptoBulk {H : Type} : DataW H → Nat
  | .lit (.string bytes) => bytes.length + 1
  | .lit _ => 1
  | .nil => 1
  | .ptr d => uptoBulk d + 1
  | .slice elems spare => uptoBulkAll elems + uptoBulkAll spare + 1
  | .agg parts => uptoBulkAll parts + 1
  | .iface _ d => uptoBulk d + 1
  | .map entries => uptoBulkEntries entries + 1
  | .held _ => 1
def uptoBulkAll {H : Type} : List (DataW H) → Nat
  | [] => 0
  | d :: r => uptoBulk d + uptoBulkAll r
def uptoBulkEntries {H : Type} : List (Lit × DataW H) → Nat
  | [] => 0
  | x :: r => uptoBulkEntry x + uptoBulkEntries r
def uptoBulkEntry {H : Type} : Lit × DataW H → Nat
  | (.string bytes, d) => bytes.length + uptoBulk d + 1
  | (_, d) => uptoBulk d + 1
 end
def uptoSmall : (H : Type) → List (DataW H) → Bool := fun _ ds => decide (uptoBulkAll ds ≤ 1048576)
def OpenSpec.upto (s : _root_.Go.ChangeSpec) : _root_.Go.OpenSpec := { _root_.Go.OpenSpec.ofChange s with cond := some uptoSmall }

/-- 'lombardlaw28.MarginEnough', WHERE WHAT IT READS IS OF BULK AT MOST 1048576: true; the input reads as it did. -/
def marginEnoughUptoRow : OpenClaim := { program := "ytbchabgigjjdnaa", sum := "044577ba0fc019dd3a618ad95f39f00c76f45f516e019c30adb77c7befbc0095", func := "lombard/lombardlaw28.MarginEnough", spec := "marginEnough", apart := false, narrowed := true }
def MarginEnoughUptoSaid : Prop := marginEnoughUptoRow.holds Try.pinned (OpenSpec.upto marginEnoughSpec)

/-- 'lombardlaw28.MarginLacks', WHERE WHAT IT READS IS OF BULK AT MOST 1048576: true; the input reads as it did. -/
def marginLacksUptoRow : OpenClaim := { program := "ytbchabgigjjdnaa", sum := "044577ba0fc019dd3a618ad95f39f00c76f45f516e019c30adb77c7befbc0095", func := "lombard/lombardlaw28.MarginLacks", spec := "marginLacks", apart := false, narrowed := true }
def MarginLacksUptoSaid : Prop := marginLacksUptoRow.holds Try.pinned (OpenSpec.upto marginLacksSpec)

/-- 'lombardlaw28.MarginCalls', WHERE WHAT IT READS IS OF BULK AT MOST 1048576: true; the input reads as it did. -/
def marginCallsUptoRow : OpenClaim := { program := "ytbchabgigjjdnaa", sum := "044577ba0fc019dd3a618ad95f39f00c76f45f516e019c30adb77c7befbc0095", func := "lombard/lombardlaw28.MarginCalls", spec := "marginCalls", apart := false, narrowed := true }
def MarginCallsUptoSaid : Prop := marginCallsUptoRow.holds Try.pinned (OpenSpec.upto marginCallsSpec)

/-- 'lombardlaw28.MarginStress', WHERE WHAT IT READS IS OF BULK AT MOST 1048576: true; the input reads as it did. -/
def marginStressUptoRow : OpenClaim := { program := "ytbchabgigjjdnaa", sum := "044577ba0fc019dd3a618ad95f39f00c76f45f516e019c30adb77c7befbc0095", func := "lombard/lombardlaw28.MarginStress", spec := "marginStress", apart := false, narrowed := true }
def MarginStressUptoSaid : Prop := marginStressUptoRow.holds Try.pinned (OpenSpec.upto marginStressSpec)

end Rows
end Go.Proofs.Ytbchabgigjjdnaa
