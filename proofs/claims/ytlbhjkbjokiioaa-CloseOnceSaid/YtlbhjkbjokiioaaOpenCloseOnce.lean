-- made by wip/xprint of this repo (the kit's print, turned): no print of print.sh's
import Derived.Test.YtlbhjkbjokiioaaX19
import Derived.Test.YtlbhjkbjokiioaaXOpen
namespace Go.Proofs.Ytlbhjkbjokiioaa.X
open Go Go.RowKit Go.Proofs.YtlbhjkbjokiioaaW.PrintWords Go.Proofs.YtlbhjkbjokiioaaW.PrintLast Go.Proofs.YtlbhjkbjokiioaaW.PrintMore Go.Proofs.Ytlbhjkbjokiioaa.XWords
set_option linter.unusedVariables false
namespace CloseOnce
def b63 (x : S63) : Prop := x.f0.size ≤ 140737488351232 ∧ (Lit.int .i64 x.f1).wf = true
theorem opens63 : Opens Try.prog k63 63 b63 := opens_struct (fun x_ => ⟨x_.1, x_.2⟩) (fun _ => rfl) Try.underlying63 (ts := [9, 3]) (by kernel_rfl) (by kernel_rfl) (by kernel_rfl) (opensL_cons (opens_string Try.underlying9) (opensL_one (opens_int Try.underlying3)))
def b66 (x : S66) : Prop := (Lit.int .i64 x.f0).wf = true ∧ x.f1.size ≤ 140737488351232 ∧ (Lit.int .i64 x.f2).wf = true ∧ (Lit.int .i64 x.f3).wf = true
theorem opens66 : Opens Try.prog k66 66 b66 := opens_struct (fun x_ => ⟨x_.1, x_.2.1, x_.2.2.1, x_.2.2.2⟩) (fun _ => rfl) Try.underlying66 (ts := [3, 9, 3, 3]) (by kernel_rfl) (by kernel_rfl) (by kernel_rfl) (opensL_cons (opens_int Try.underlying3) (opensL_cons (opens_string Try.underlying9) (opensL_cons (opens_int Try.underlying3) (opensL_one (opens_int Try.underlying3)))))
/-- THE ONE PURE STATEMENT of lombardlaw29_CloseOnce: mine to prove. -/
def Pure : Prop := ∀ (l0 : List (S63)) (l1 : List (S66)), (l0.length * 24 ≤ 140737488351232 ∧ ∀ x_ ∈ l0, b63 x_) → (l1.length * 40 ≤ 140737488351232 ∧ ∀ x_ ∈ l1, b66 x_) → ∃ k, lombardlaw29_CloseOnce.f k l0 l1 = some true
theorem walk (P : Pure) (A0 : Option Addr) (c0 : Nat) (l0 : List (S63)) (A1 : Option Addr) (c1 : Nat) (l1 : List (S66)) (w : World) (hr0 : Kd.C k63 w A0 l0.length l0) (hc0 : l0.length ≤ c0) (hr1 : Kd.C k66 w A1 l1.length l1) (hc1 : l1.length ≤ c1) (hb0 : l0.length * 24 ≤ 140737488351232 ∧ ∀ x_ ∈ l0, b63 x_) (hb1 : l1.length * 40 ≤ 140737488351232 ∧ ∀ x_ ∈ l1, b66 x_) :
 Calls Try.prog 7 #[.slice A0 l0.length c0, .slice A1 l1.length c1] w fun e w' => e = .returned (.bool true) ∧ Below w.heap.size w w' := by
 obtain ⟨k, h⟩ := P l0 l1 hb0 hb1
 refine (lombardlaw29_CloseOnce.calls k A0 c0 l0 A1 c1 l1 true w hr0 hc0 hr1 hc1 h rfl).mono ?_
 rintro e w' ⟨rfl, hd⟩
 exact ⟨rfl, hd⟩
end CloseOnce
end Go.Proofs.Ytlbhjkbjokiioaa.X
