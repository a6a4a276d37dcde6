/- slices.Clone at this dump: the shelf's contract, as ours. -/
import Derived.Test.YtgncepjnbdhmkaaAbCl
import Derived.Shelf.SlGeneric
import Derived.Shelf.SlicesE.Clone
import Derived.Ground.SlgnProg
import Derived.Test.YtgncepjnbdhmkaaRA
import Derived.Test.YtgncepjnbdhmkaaTSortE
set_option linter.unusedVariables false
set_option linter.unusedSimpArgs false
namespace Go.Proofs
open Go.Shelf
def Try.clone70_ren : Go.Shelf.Ren := ⟨fun | 41 => 70 | n => n, fun | 22 => 34 | 23 => 72 | 4 => 4 | n => n, fun | n => n⟩
theorem Try.clone70 : Go.Proofs.SlLaysE0.n41 Try.prog Try.clone70_ren := {
  mixed := by kernel_rfl
  f41 := ⟨Try.f70.name, by decide, Try.func70.trans (congrArg some (by kernel_rfl))⟩
  t4 := Try.underlying4
  a4 := Try.isAgg4
  z4 := Try.sizeOf4
  v4 := Try.zeroValue4
  t22 := Try.underlying34
  a22 := Try.isAgg34
  z22 := Try.sizeOf34
  v22 := Try.zeroValue34 }
end Go.Proofs
namespace Go.Proofs.Ytgncepjnbdhmkaa.Pure
open Go Go.Ab Go.Proofs Go.Proofs.Ytgncepjnbdhmkaa.R
theorem Clone70_r {l : List haircut_Item} (h : l.length ≤ 1000000000) : CloneR Try.prog 70 9 haircut_Item.enc l l := by
  have hi0 : (Try.prog.info? 72).map (fun i => (i.zero.map (·.cells.size), i.size, i.bytes)) = some (some 9, 9, 96) := by kernel_rfl
  obtain ⟨i0, hi⟩ : ∃ i0, Try.prog.info? 72 = some i0 := Option.isSome_iff_exists.1 (by kernel_rfl)
  rw [hi] at hi0
  simp only [Option.map_some, Option.some.injEq, Prod.mk.injEq, Option.map_eq_some_iff] at hi0
  obtain ⟨⟨z, hz, hzs⟩, h1, h2⟩ := hi0
  exact Con_clone Try.clone70 i0 z 9 96 hi hz h1 h2 hzs (by decide) Try.sizeOf72 (enters_of Try.func70 (by kernel_rfl) rfl) (by rw [List.length_map]; simp only [maxLen]; omega) (by rw [List.length_map]; omega)
end Go.Proofs.Ytgncepjnbdhmkaa.Pure
namespace Go.Proofs.Ytgncepjnbdhmkaa.Pure
open Go Go.Ab Go.Stable Go.Proofs.Ytgncepjnbdhmkaa.R
theorem Rank_r {l : List haircut_Item} (h : l.length ≤ 1000000000) : lots_Rank_r l (isort leE l) := by
  refine lots_Rank_of ?_
  unfold lots_Rank_w
  exact ⟨_, Clone70_r h, _, sort_r l (by simp only [Big]; omega), Rt.i rfl⟩
end Go.Proofs.Ytgncepjnbdhmkaa.Pure
