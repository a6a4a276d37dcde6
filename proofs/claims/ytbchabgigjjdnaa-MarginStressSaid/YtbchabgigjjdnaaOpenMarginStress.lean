-- made by wip/xprint of this repo (the kit's print, turned): no print of print.sh's
import Derived.Test.YtbchabgigjjdnaaXS4
import Derived.Test.YtbchabgigjjdnaaXOpen
namespace Go.Proofs.Ytbchabgigjjdnaa.XS
open Go Go.RowKit Go.Proofs.YtbchabgigjjdnaaW.PrintWords Go.Proofs.YtbchabgigjjdnaaW.PrintLast Go.Proofs.YtbchabgigjjdnaaW.PrintMore Go.Proofs.Ytbchabgigjjdnaa.XWords
set_option linter.unusedVariables false
namespace MarginStress
def b102 (x : S102) : Prop := x.f0.size ≤ 140737488351232 ∧ (Lit.int .i64 x.f1).wf = true
theorem opens102 : Opens Try.prog k102 102 b102 := opens_struct (fun x_ => ⟨x_.1, x_.2⟩) (fun _ => rfl) Try.underlying102 (ts := [9, 3]) (by kernel_rfl) (by kernel_rfl) (by kernel_rfl) (opensL_cons (opens_string Try.underlying9) (opensL_one (opens_int Try.underlying3)))
def b53 (x : S53) : Prop := (Lit.int .i64 x.f0).wf = true ∧ (Lit.int .i64 x.f1).wf = true ∧ (Lit.int .i64 x.f2).wf = true ∧ (Lit.int .i64 x.f3).wf = true ∧ (Lit.int .i64 x.f4).wf = true ∧ (x.f5.length * 24 ≤ 140737488351232 ∧ ∀ x_ ∈ x.f5, b102 x_)
theorem opens53 : Opens Try.prog k53 53 b53 := opens_struct (fun x_ => ⟨x_.1, x_.2.1, x_.2.2.1, x_.2.2.2.1, x_.2.2.2.2.1, x_.2.2.2.2.2⟩) (fun _ => rfl) Try.underlying53 (ts := [3, 3, 3, 3, 3, 42]) (by kernel_rfl) (by kernel_rfl) (by kernel_rfl) (opensL_cons (opens_int Try.underlying3) (opensL_cons (opens_int Try.underlying3) (opensL_cons (opens_int Try.underlying3) (opensL_cons (opens_int Try.underlying3) (opensL_cons (opens_int Try.underlying3) (opensL_one (opens_slice Try.underlying42 opens102 (by kernel_rfl) (by kernel_rfl : Try.prog.bytesOf 102 = 24))))))))
/-- THE ONE PURE STATEMENT of lombardlaw28_MarginStress: mine to prove. -/
def Pure : Prop := ∀ (a0_0 : Int) (a0_1 : Int) (a0_2 : Int) (a0_3 : Int) (a0_4 : Int) (l0_5 : List (S102)) (a1 : Int) (a2 : Int), ((Lit.int .i64 a0_0).wf = true) → ((Lit.int .i64 a0_1).wf = true) → ((Lit.int .i64 a0_2).wf = true) → ((Lit.int .i64 a0_3).wf = true) → ((Lit.int .i64 a0_4).wf = true) → (l0_5.length * 24 ≤ 140737488351232 ∧ ∀ x_ ∈ l0_5, b102 x_) → ((Lit.int .i64 a1).wf = true) → ((Lit.int .i64 a2).wf = true) → ∃ k, lombardlaw28_MarginStress.f k a0_0 a0_1 a0_2 a0_3 a0_4 l0_5 a1 a2 = some true
theorem walk (P : Pure) (a0_0 : Int) (a0_1 : Int) (a0_2 : Int) (a0_3 : Int) (a0_4 : Int) (A0_5 : Option Addr) (c0_5 : Nat) (l0_5 : List (S102)) (a1 : Int) (a2 : Int) (w : World) (hr0_5 : Kd.C k102 w A0_5 l0_5.length l0_5) (hc0_5 : l0_5.length ≤ c0_5) (hb0_0 : (Lit.int .i64 a0_0).wf = true) (hb0_1 : (Lit.int .i64 a0_1).wf = true) (hb0_2 : (Lit.int .i64 a0_2).wf = true) (hb0_3 : (Lit.int .i64 a0_3).wf = true) (hb0_4 : (Lit.int .i64 a0_4).wf = true) (hb0_5 : l0_5.length * 24 ≤ 140737488351232 ∧ ∀ x_ ∈ l0_5, b102 x_) (hb1 : (Lit.int .i64 a1).wf = true) (hb2 : (Lit.int .i64 a2).wf = true) :
    Calls Try.prog 6 #[.agg #[.int .i64 a0_0, .int .i64 a0_1, .int .i64 a0_2, .int .i64 a0_3, .int .i64 a0_4, .slice A0_5 l0_5.length c0_5], .int .i64 a1, .int .i64 a2] w fun e w' => e = .returned (.bool true) ∧ Below w.heap.size w w' := by
  obtain ⟨k, h⟩ := P a0_0 a0_1 a0_2 a0_3 a0_4 l0_5 a1 a2 hb0_0 hb0_1 hb0_2 hb0_3 hb0_4 hb0_5 hb1 hb2
  refine (lombardlaw28_MarginStress.calls (P0_5_ := fun k_ => k_ < w.heap.size) k a0_0 a0_1 a0_2 a0_3 a0_4 A0_5 c0_5 l0_5 a1 a2 true w (Kd.V_mk hc0_5 (Kd.C_F k102_heap hr0_5)) h).mono ?_
  rintro e w' ⟨rfl, hd⟩
  exact ⟨rfl, hd⟩
end MarginStress
end Go.Proofs.Ytbchabgigjjdnaa.XS
