-- made by wip/xprint of this repo (the kit's print, turned): no print of print.sh's
import Derived.Test.YtbchabgigjjdnaaX9
import Derived.Test.YtbchabgigjjdnaaXOpen
namespace Go.Proofs.Ytbchabgigjjdnaa.X
open Go Go.RowKit Go.Proofs.YtbchabgigjjdnaaW.PrintWords Go.Proofs.YtbchabgigjjdnaaW.PrintLast Go.Proofs.YtbchabgigjjdnaaW.PrintMore Go.Proofs.Ytbchabgigjjdnaa.XWords
set_option linter.unusedVariables false
namespace MarginLacks
def b102 (x : S102) : Prop := x.f0.size ≤ 140737488351232 ∧ (Lit.int .i64 x.f1).wf = true
theorem opens102 : Opens Try.prog k102 102 b102 := opens_struct (fun x_ => ⟨x_.1, x_.2⟩) (fun _ => rfl) Try.underlying102 (ts := [9, 3]) (by kernel_rfl) (by kernel_rfl) (by kernel_rfl) (opensL_cons (opens_string Try.underlying9) (opensL_one (opens_int Try.underlying3)))
def b53 (x : S53) : Prop := (Lit.int .i64 x.f0).wf = true ∧ (Lit.int .i64 x.f1).wf = true ∧ (Lit.int .i64 x.f2).wf = true ∧ (Lit.int .i64 x.f3).wf = true ∧ (Lit.int .i64 x.f4).wf = true ∧ (x.f5.length * 24 ≤ 140737488351232 ∧ ∀ x_ ∈ x.f5, b102 x_)
theorem opens53 : Opens Try.prog k53 53 b53 := opens_struct (fun x_ => ⟨x_.1, x_.2.1, x_.2.2.1, x_.2.2.2.1, x_.2.2.2.2.1, x_.2.2.2.2.2⟩) (fun _ => rfl) Try.underlying53 (ts := [3, 3, 3, 3, 3, 42]) (by kernel_rfl) (by kernel_rfl) (by kernel_rfl) (opensL_cons (opens_int Try.underlying3) (opensL_cons (opens_int Try.underlying3) (opensL_cons (opens_int Try.underlying3) (opensL_cons (opens_int Try.underlying3) (opensL_cons (opens_int Try.underlying3) (opensL_one (opens_slice Try.underlying42 opens102 (by kernel_rfl) (by kernel_rfl : Try.prog.bytesOf 102 = 24))))))))
/-- THE ONE PURE STATEMENT of lombardlaw28_MarginLacks: mine to prove. -/
def Pure : Prop := ∀ (l0 : List (S53)) (a1 : Int) (a2 : Int) (l3 : List Int) (a4 : Int), (l0.length * 64 ≤ 140737488351232 ∧ ∀ x_ ∈ l0, b53 x_) → ((Lit.int .i64 a1).wf = true) → ((Lit.int .i64 a2).wf = true) → (l3.length * 8 ≤ 140737488351232 ∧ ∀ x_ ∈ l3, (Lit.int .i64 x_).wf = true) → ((Lit.int .i64 a4).wf = true) → ∃ k, lombardlaw28_MarginLacks.f k l0 a1 a2 l3 a4 = some true
theorem walk (P : Pure) (A0 : Option Addr) (c0 : Nat) (l0 : List (S53)) (a1 : Int) (a2 : Int) (A3 : Option Addr) (c3 : Nat) (l3 : List Int) (a4 : Int) (w : World) (hr0 : Kd.C k53 w A0 l0.length l0) (hc0 : l0.length ≤ c0) (hr3 : Kd.C (Kd.int .i64) w A3 l3.length l3) (hc3 : l3.length ≤ c3) (hb0 : l0.length * 64 ≤ 140737488351232 ∧ ∀ x_ ∈ l0, b53 x_) (hb1 : (Lit.int .i64 a1).wf = true) (hb2 : (Lit.int .i64 a2).wf = true) (hb3 : l3.length * 8 ≤ 140737488351232 ∧ ∀ x_ ∈ l3, (Lit.int .i64 x_).wf = true) (hb4 : (Lit.int .i64 a4).wf = true) :
    Calls Try.prog 4 #[.slice A0 l0.length c0, .int .i64 a1, .int .i64 a2, .slice A3 l3.length c3, .int .i64 a4] w fun e w' => e = .returned (.bool true) ∧ Below w.heap.size w w' := by
  obtain ⟨k, h⟩ := P l0 a1 a2 l3 a4 hb0 hb1 hb2 hb3 hb4
  refine (lombardlaw28_MarginLacks.calls k A0 c0 l0 a1 a2 A3 c3 l3 a4 true w hr0 hc0 hr3 hc3 h).mono ?_
  rintro e w' ⟨rfl, hd⟩
  exact ⟨rfl, hd⟩
end MarginLacks
end Go.Proofs.Ytbchabgigjjdnaa.X
