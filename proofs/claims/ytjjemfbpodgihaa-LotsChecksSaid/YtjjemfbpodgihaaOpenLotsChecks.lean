-- made by wip/xprint of this repo (the kit's print, turned): no print of print.sh's
import Derived.Test.YtjjemfbpodgihaaX10
import Derived.Test.YtjjemfbpodgihaaXOpen
namespace Go.Proofs.Ytjjemfbpodgihaa.X
open Go Go.RowKit Go.Proofs.YtjjemfbpodgihaaW.PrintWords Go.Proofs.YtjjemfbpodgihaaW.PrintLast Go.Proofs.YtjjemfbpodgihaaW.PrintMore Go.Proofs.Ytjjemfbpodgihaa.XWords
set_option linter.unusedVariables false
namespace LotsChecks
def b43 (x : S43) : Prop := x.f0.size ≤ 140737488351232 ∧ (Lit.int .i64 x.f1).wf = true
theorem opens43 : Opens Try.prog k43 43 b43 := opens_struct (fun x_ => ⟨x_.1, x_.2⟩) (fun _ => rfl) Try.underlying43 (ts := [9, 3]) (by kernel_rfl) (by kernel_rfl) (by kernel_rfl) (opensL_cons (opens_string Try.underlying9) (opensL_one (opens_int Try.underlying3)))
/-- THE ONE PURE STATEMENT of lombardlaw17_LotsChecks: mine to prove. -/
def Pure : Prop := ∀ (l0 : List (S43)), (l0.length * 24 ≤ 140737488351232 ∧ ∀ x_ ∈ l0, b43 x_) → ∃ k, lombardlaw17_LotsChecks.f k l0 = some true
theorem walk (P : Pure) (A0 : Option Addr) (c0 : Nat) (l0 : List (S43)) (w : World) (hr0 : Kd.C k43 w A0 l0.length l0) (hc0 : l0.length ≤ c0) (hb0 : l0.length * 24 ≤ 140737488351232 ∧ ∀ x_ ∈ l0, b43 x_) :
    Calls Try.prog 5 #[.slice A0 l0.length c0] w fun e w' => e = .returned (.bool true) ∧ Below w.heap.size w w' := by
  obtain ⟨k, h⟩ := P l0 hb0
  refine (lombardlaw17_LotsChecks.calls k A0 c0 l0 true w hr0 hc0 h).mono ?_
  rintro e w' ⟨rfl, hd⟩
  exact ⟨rfl, hd⟩
end LotsChecks
end Go.Proofs.Ytjjemfbpodgihaa.X
