-- made by wip/xprint of this repo (the kit's print, turned): no print of print.sh's
import Derived.Test.YtlbhjkbjokiioaaX11
import Derived.Test.YtlbhjkbjokiioaaXOpen
namespace Go.Proofs.Ytlbhjkbjokiioaa.X
open Go Go.RowKit Go.Proofs.YtlbhjkbjokiioaaW.PrintWords Go.Proofs.YtlbhjkbjokiioaaW.PrintLast Go.Proofs.YtlbhjkbjokiioaaW.PrintMore Go.Proofs.Ytlbhjkbjokiioaa.XWords
set_option linter.unusedVariables false
namespace CloseWhole
def b35 (x : S35) : Prop := x.f0.size ≤ 140737488351232 ∧ (x.f1.length * 8 ≤ 140737488351232 ∧ ∀ x_ ∈ x.f1, (Lit.int .i64 x_).wf = true)
theorem opens35 : Opens Try.prog k35 35 b35 := opens_struct (fun x_ => ⟨x_.1, x_.2⟩) (fun _ => rfl) Try.underlying35 (ts := [9, 32]) (by kernel_rfl) (by kernel_rfl) (by kernel_rfl) (opensL_cons (opens_string Try.underlying9) (opensL_one (opens_slice Try.underlying32 (opens_int Try.underlying3) (by kernel_rfl) (by kernel_rfl : Try.prog.bytesOf 3 = 8))))
/-- THE ONE PURE STATEMENT of lombardlaw29_CloseWhole: mine to prove. -/
def Pure : Prop := ∀ (a0 : Int) (l1 : List (S35)), ((Lit.int .i64 a0).wf = true) → (l1.length * 40 ≤ 140737488351232 ∧ ∀ x_ ∈ l1, b35 x_) → ∃ k, lombardlaw29_CloseWhole.f k a0 l1 = some true
theorem walk (P : Pure) (a0 : Int) (A1 : Option Addr) (c1 : Nat) (l1 : List (S35)) (w : World) (hr1 : Kd.C k35 w A1 l1.length l1) (hc1 : l1.length ≤ c1) (hb0 : (Lit.int .i64 a0).wf = true) (hb1 : l1.length * 40 ≤ 140737488351232 ∧ ∀ x_ ∈ l1, b35 x_) :
    Calls Try.prog 4 #[.int .i64 a0, .slice A1 l1.length c1] w fun e w' => e = .returned (.bool true) ∧ Below w.heap.size w w' := by
  obtain ⟨k, h⟩ := P a0 l1 hb0 hb1
  refine (lombardlaw29_CloseWhole.calls k a0 A1 c1 l1 true w hr1 hc1 h).mono ?_
  rintro e w' ⟨rfl, hd⟩
  exact ⟨rfl, hd⟩
end CloseWhole
end Go.Proofs.Ytlbhjkbjokiioaa.X
