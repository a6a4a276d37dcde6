-- made by wip/xprint of this repo (the kit's print, turned): no print of print.sh's
import Derived.Test.YtjhbacbaeakdpaaX7
import Derived.Test.YtjhbacbaeakdpaaXOpen
namespace Go.Proofs.Ytjhbacbaeakdpaa.X
open Go Go.RowKit Go.Proofs.YtjhbacbaeakdpaaW.PrintWords Go.Proofs.YtjhbacbaeakdpaaW.PrintLast Go.Proofs.YtjhbacbaeakdpaaW.PrintMore Go.Proofs.Ytjhbacbaeakdpaa.XWords
set_option linter.unusedVariables false
namespace SubstMoves
def b35 (x : S35) : Prop := x.f0.size ≤ 140737488351232 ∧ (Lit.int .i64 x.f1).wf = true
theorem opens35 : Opens Try.prog k35 35 b35 := opens_struct (fun x_ => ⟨x_.1, x_.2⟩) (fun _ => rfl) Try.underlying35 (ts := [9, 3]) (by kernel_rfl) (by kernel_rfl) (by kernel_rfl) (opensL_cons (opens_string Try.underlying9) (opensL_one (opens_int Try.underlying3)))
/-- THE ONE PURE STATEMENT of lombardlaw19_SubstMoves: mine to prove. -/
def Pure : Prop := ∀ (l0 : List (S35)) (l1 : List (S35)), (l0.length * 24 ≤ 140737488351232 ∧ ∀ x_ ∈ l0, b35 x_) → (l1.length * 24 ≤ 140737488351232 ∧ ∀ x_ ∈ l1, b35 x_) → ∃ k, lombardlaw19_SubstMoves.f k l0 l1 = some true
theorem walk (P : Pure) (A0 : Option Addr) (c0 : Nat) (l0 : List (S35)) (A1 : Option Addr) (c1 : Nat) (l1 : List (S35)) (w : World) (hr0 : Kd.C k35 w A0 l0.length l0) (hc0 : l0.length ≤ c0) (hr1 : Kd.C k35 w A1 l1.length l1) (hc1 : l1.length ≤ c1) (hb0 : l0.length * 24 ≤ 140737488351232 ∧ ∀ x_ ∈ l0, b35 x_) (hb1 : l1.length * 24 ≤ 140737488351232 ∧ ∀ x_ ∈ l1, b35 x_) :
    Calls Try.prog 3 #[.slice A0 l0.length c0, .slice A1 l1.length c1] w fun e w' => e = .returned (.bool true) ∧ Below w.heap.size w w' := by
  obtain ⟨k, h⟩ := P l0 l1 hb0 hb1
  refine (lombardlaw19_SubstMoves.calls k A0 c0 l0 A1 c1 l1 true w hr0 hc0 hr1 hc1 h).mono ?_
  rintro e w' ⟨rfl, hd⟩
  exact ⟨rfl, hd⟩
end SubstMoves
end Go.Proofs.Ytjhbacbaeakdpaa.X
