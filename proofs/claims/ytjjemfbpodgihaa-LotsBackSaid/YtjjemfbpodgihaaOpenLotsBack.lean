-- made by wip/xprint of this repo (the kit's print, turned): no print of print.sh's
import Derived.Test.YtjjemfbpodgihaaX9
import Derived.Test.YtjjemfbpodgihaaXOpen
namespace Go.Proofs.Ytjjemfbpodgihaa.X
open Go Go.RowKit Go.Proofs.YtjjemfbpodgihaaW.PrintWords Go.Proofs.YtjjemfbpodgihaaW.PrintLast Go.Proofs.YtjjemfbpodgihaaW.PrintMore Go.Proofs.Ytjjemfbpodgihaa.XWords
set_option linter.unusedVariables false
namespace LotsBack
def b43 (x : S43) : Prop := x.f0.size ≤ 140737488351232 ∧ (Lit.int .i64 x.f1).wf = true
theorem opens43 : Opens Try.prog k43 43 b43 := opens_struct (fun x_ => ⟨x_.1, x_.2⟩) (fun _ => rfl) Try.underlying43 (ts := [9, 3]) (by kernel_rfl) (by kernel_rfl) (by kernel_rfl) (opensL_cons (opens_string Try.underlying9) (opensL_one (opens_int Try.underlying3)))
/-- THE ONE PURE STATEMENT of lombardlaw17_LotsBack: mine to prove. -/
def Pure : Prop := ∀ (l0 : List (S43)) (l1 : List (S43)), (l0.length * 24 ≤ 140737488351232 ∧ ∀ x_ ∈ l0, b43 x_) → (l1.length * 24 ≤ 140737488351232 ∧ ∀ x_ ∈ l1, b43 x_) → ∃ k, lombardlaw17_LotsBack.f k l0 l1 = some true
theorem walk (P : Pure) (A0 : Option Addr) (c0 : Nat) (l0 : List (S43)) (A1 : Option Addr) (c1 : Nat) (l1 : List (S43)) (w : World) (hr0 : Kd.C k43 w A0 l0.length l0) (hc0 : l0.length ≤ c0) (hr1 : Kd.C k43 w A1 l1.length l1) (hc1 : l1.length ≤ c1) (hb0 : l0.length * 24 ≤ 140737488351232 ∧ ∀ x_ ∈ l0, b43 x_) (hb1 : l1.length * 24 ≤ 140737488351232 ∧ ∀ x_ ∈ l1, b43 x_) :
    Calls Try.prog 4 #[.slice A0 l0.length c0, .slice A1 l1.length c1] w fun e w' => e = .returned (.bool true) ∧ Below w.heap.size w w' := by
  obtain ⟨k, h⟩ := P l0 l1 hb0 hb1
  refine (lombardlaw17_LotsBack.calls k A0 c0 l0 A1 c1 l1 true w hr0 hc0 hr1 hc1 h).mono ?_
  rintro e w' ⟨rfl, hd⟩
  exact ⟨rfl, hd⟩
end LotsBack
end Go.Proofs.Ytjjemfbpodgihaa.X
