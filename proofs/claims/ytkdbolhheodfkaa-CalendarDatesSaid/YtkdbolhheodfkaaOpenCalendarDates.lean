-- made by wip/xprint of this repo (the kit's print, turned): no print of print.sh's
import Derived.Test.YtkdbolhheodfkaaX8
import Derived.Test.YtkdbolhheodfkaaXOpen
namespace Go.Proofs.Ytkdbolhheodfkaa.X
open Go Go.RowKit Go.Proofs.YtkdbolhheodfkaaW.PrintWords Go.Proofs.YtkdbolhheodfkaaW.PrintLast Go.Proofs.YtkdbolhheodfkaaW.PrintMore Go.Proofs.Ytkdbolhheodfkaa.XWords
set_option linter.unusedVariables false
structure S23 where
  f0 : Int
  f1 : Int
  f2 : Int
def k23 : Kd S23 := Kd.iso (Kd.pair (Kd.int .i64) (Kd.pair (Kd.int .i64) (Kd.int .i64))) (fun x : S23 => (x.f0, x.f1, x.f2))
theorem k23_open {w : World} {x : S23} {cs : List Value} (h : k23.K w x cs) : cs = [.int .i64 x.f0, .int .i64 x.f1, .int .i64 x.f2] := by
  obtain ⟨_, _, rfl, rfl, ⟨_, _, rfl, rfl, rfl⟩⟩ := h
  exact rfl
namespace CalendarDates
def b23 (x : S23) : Prop := (Lit.int .i64 x.f0).wf = true ∧ (Lit.int .i64 x.f1).wf = true ∧ (Lit.int .i64 x.f2).wf = true
theorem opens23 : Opens Try.prog k23 23 b23 := opens_struct (fun x_ => ⟨x_.1, x_.2.1, x_.2.2⟩) (fun _ => rfl) Try.underlying23 (ts := [3, 3, 3]) (by kernel_rfl) (by kernel_rfl) (by kernel_rfl) (opensL_cons (opens_int Try.underlying3) (opensL_cons (opens_int Try.underlying3) (opensL_one (opens_int Try.underlying3))))
/-- THE ONE PURE STATEMENT of lombardlaw02_CalendarDates: mine to prove. -/
def Pure : Prop := ∀ (a0 : Int) (a1_0 : Int) (a1_1 : Int) (a1_2 : Int), ((Lit.int .i64 a0).wf = true) → ((Lit.int .i64 a1_0).wf = true) → ((Lit.int .i64 a1_1).wf = true) → ((Lit.int .i64 a1_2).wf = true) → ∃ k, lombardlaw02_CalendarDates.f k a0 a1_0 a1_1 a1_2 = some true
theorem walk (P : Pure) (a0 : Int) (a1_0 : Int) (a1_1 : Int) (a1_2 : Int) (w : World)  (hb0 : (Lit.int .i64 a0).wf = true) (hb1_0 : (Lit.int .i64 a1_0).wf = true) (hb1_1 : (Lit.int .i64 a1_1).wf = true) (hb1_2 : (Lit.int .i64 a1_2).wf = true) :
    Calls Try.prog 3 #[.int .i64 a0, .agg #[.int .i64 a1_0, .int .i64 a1_1, .int .i64 a1_2]] w fun e w' => e = .returned (.bool true) ∧ Below w.heap.size w w' := by
  obtain ⟨k, h⟩ := P a0 a1_0 a1_1 a1_2 hb0 hb1_0 hb1_1 hb1_2
  refine (lombardlaw02_CalendarDates.calls k a0 a1_0 a1_1 a1_2 true w  h).mono ?_
  rintro e w' ⟨rfl, hd⟩
  exact ⟨rfl, hd⟩
end CalendarDates
end Go.Proofs.Ytkdbolhheodfkaa.X
