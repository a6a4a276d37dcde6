/- slices.Clone at this dump: the shelf's contract, as ours. -/
import Derived.Test.YtdljcgikknaffaaAbCl
import Derived.Shelf.SlGeneric
import Derived.Shelf.SlicesE.Clone
import Derived.Ground.SlgnProg
import Derived.Test.YtdljcgikknaffaaRA1
set_option linter.unusedVariables false
set_option linter.unusedSimpArgs false
namespace Go.Proofs
open Go.Shelf
def Try.clone50_ren : Go.Shelf.Ren := ⟨fun | 41 => 50 | n => n, fun | 22 => 44 | 23 => 75 | 4 => 4 | n => n, fun | n => n⟩
theorem Try.clone50 : Go.Proofs.SlLaysE0.n41 Try.prog Try.clone50_ren := {
  mixed := by kernel_rfl
  f41 := ⟨Try.f50.name, by decide, Try.func50.trans (congrArg some (by kernel_rfl))⟩
  t4 := Try.underlying4
  a4 := Try.isAgg4
  z4 := Try.sizeOf4
  v4 := Try.zeroValue4
  t22 := Try.underlying44
  a22 := Try.isAgg44
  z22 := Try.sizeOf44
  v22 := Try.zeroValue44 }
end Go.Proofs
namespace Go.Proofs.Ytdljcgikknaffaa.Pure
open Go Go.Ab Go.Proofs Go.Proofs.Ytdljcgikknaffaa.R
theorem Clone50_r {l : List haircut_Item} (h : l.length ≤ 1000000000) : CloneR Try.prog 50 9 haircut_Item.enc l l := by
  have hi0 : (Try.prog.info? 75).map (fun i => (i.zero.map (·.cells.size), i.size, i.bytes)) = some (some 9, 9, 96) := by kernel_rfl
  obtain ⟨i0, hi⟩ : ∃ i0, Try.prog.info? 75 = some i0 := Option.isSome_iff_exists.1 (by kernel_rfl)
  rw [hi] at hi0
  simp only [Option.map_some, Option.some.injEq, Prod.mk.injEq, Option.map_eq_some_iff] at hi0
  obtain ⟨⟨z, hz, hzs⟩, h1, h2⟩ := hi0
  exact Con_clone Try.clone50 i0 z 9 96 hi hz h1 h2 hzs (by decide) Try.sizeOf75 (enters_of Try.func50 (by kernel_rfl) rfl) (by rw [List.length_map]; simp only [maxLen]; omega) (by rw [List.length_map]; omega)
end Go.Proofs.Ytdljcgikknaffaa.Pure
