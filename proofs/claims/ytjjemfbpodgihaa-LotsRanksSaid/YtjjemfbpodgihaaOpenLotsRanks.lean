-- made by wip/xprint of this repo (the kit's print, turned): no print of print.sh's
import Derived.Test.YtjjemfbpodgihaaX19
import Derived.Test.YtjjemfbpodgihaaXOpen
namespace Go.Proofs.Ytjjemfbpodgihaa.X
open Go Go.RowKit Go.Proofs.YtjjemfbpodgihaaW.PrintWords Go.Proofs.YtjjemfbpodgihaaW.PrintLast Go.Proofs.YtjjemfbpodgihaaW.PrintMore Go.Proofs.Ytjjemfbpodgihaa.XWords
set_option linter.unusedVariables false
namespace LotsRanks
def b43 (x : S43) : Prop := x.f0.size ≤ 140737488351232 ∧ (Lit.int .i64 x.f1).wf = true
theorem opens43 : Opens Try.prog k43 43 b43 := opens_struct (fun x_ => ⟨x_.1, x_.2⟩) (fun _ => rfl) Try.underlying43 (ts := [9, 3]) (by kernel_rfl) (by kernel_rfl) (by kernel_rfl) (opensL_cons (opens_string Try.underlying9) (opensL_one (opens_int Try.underlying3)))
def b45 (x : S45) : Prop := x.f0.size ≤ 140737488351232 ∧ (Lit.int .i64 x.f1).wf = true ∧ (Lit.int .i64 x.f2).wf = true ∧ (Lit.int .i64 x.f3).wf = true ∧ x.f4.size ≤ 140737488351232
theorem opens45 : Opens Try.prog k45 45 b45 := opens_struct (fun x_ => ⟨x_.1, x_.2.1, x_.2.2.1, x_.2.2.2.1, x_.2.2.2.2⟩) (fun _ => rfl) Try.underlying45 (ts := [9, 3, 3, 3, 9]) (by kernel_rfl) (by kernel_rfl) (by kernel_rfl) (opensL_cons (opens_string Try.underlying9) (opensL_cons (opens_int Try.underlying3) (opensL_cons (opens_int Try.underlying3) (opensL_cons (opens_int Try.underlying3) (opensL_one (opens_string Try.underlying9))))))
def b65 (x : S65) : Prop := b43 x.f0 ∧ b45 x.f1 ∧ (Lit.int .i64 x.f2).wf = true ∧ (Lit.int .i64 x.f3).wf = true
theorem opens65 : Opens Try.prog k65 65 b65 := opens_struct (fun x_ => ⟨x_.1, x_.2.1, x_.2.2.1, x_.2.2.2⟩) (fun _ => rfl) Try.underlying65 (ts := [43, 45, 3, 3]) (by kernel_rfl) (by kernel_rfl) (by kernel_rfl) (opensL_cons opens43 (opensL_cons opens45 (opensL_cons (opens_int Try.underlying3) (opensL_one (opens_int Try.underlying3)))))
/-- THE ONE PURE STATEMENT of lombardlaw17_LotsRanks: mine to prove. -/
def Pure : Prop := ∀ (l0 : List (S65)), (l0.length * 96 ≤ 140737488351232 ∧ ∀ x_ ∈ l0, b65 x_) → ∃ k, lombardlaw17_LotsRanks.f k l0 = some true
theorem walk (P : Pure) (A0 : Option Addr) (c0 : Nat) (l0 : List (S65)) (w : World) (hr0 : Kd.C k65 w A0 l0.length l0) (hc0 : l0.length ≤ c0) (hb0 : l0.length * 96 ≤ 140737488351232 ∧ ∀ x_ ∈ l0, b65 x_) :
 Calls Try.prog 6 #[.slice A0 l0.length c0] w fun e w' => e = .returned (.bool true) ∧ Below w.heap.size w w' := by
 obtain ⟨k, h⟩ := P l0 hb0
 refine (lombardlaw17_LotsRanks.calls k A0 c0 l0 true w hr0 hc0 h rfl).mono ?_
 rintro e w' ⟨rfl, hd⟩
 exact ⟨rfl, hd⟩
end LotsRanks
end Go.Proofs.Ytjjemfbpodgihaa.X
