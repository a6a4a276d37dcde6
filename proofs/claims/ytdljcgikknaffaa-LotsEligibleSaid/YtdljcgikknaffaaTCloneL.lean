/- slices.Clone at this dump: the shelf's contract, as ours. -/
import Derived.Test.YtdljcgikknaffaaAbCl
import Derived.Shelf.SlGeneric
import Derived.Shelf.SlicesE.Clone
import Derived.Ground.SlgnProg
import Derived.Test.YtdljcgikknaffaaRA1
set_option linter.unusedVariables false
set_option linter.unusedSimpArgs false
namespace Go.Proofs
open Go.Shelf
def Try.clone32_ren : Go.Shelf.Ren := ⟨fun | 41 => 32 | n => n, fun | 22 => 28 | 23 => 61 | 4 => 4 | n => n, fun | n => n⟩
theorem Try.clone32 : Go.Proofs.SlLaysE0.n41 Try.prog Try.clone32_ren := {
  mixed := by kernel_rfl
  f41 := ⟨Try.f32.name, by decide, Try.func32.trans (congrArg some (by kernel_rfl))⟩
  t4 := Try.underlying4
  a4 := Try.isAgg4
  z4 := Try.sizeOf4
  v4 := Try.zeroValue4
  t22 := Try.underlying28
  a22 := Try.isAgg28
  z22 := Try.sizeOf28
  v22 := Try.zeroValue28 }
end Go.Proofs
namespace Go.Proofs.Ytdljcgikknaffaa.Pure
open Go Go.Ab Go.Proofs Go.Proofs.Ytdljcgikknaffaa.R
theorem Clone32_r {l : List api_Lot} (h : l.length ≤ 1000000000) : CloneR Try.prog 32 2 api_Lot.enc l l := by
  have hi0 : (Try.prog.info? 61).map (fun i => (i.zero.map (·.cells.size), i.size, i.bytes)) = some (some 2, 2, 24) := by kernel_rfl
  obtain ⟨i0, hi⟩ : ∃ i0, Try.prog.info? 61 = some i0 := Option.isSome_iff_exists.1 (by kernel_rfl)
  rw [hi] at hi0
  simp only [Option.map_some, Option.some.injEq, Prod.mk.injEq, Option.map_eq_some_iff] at hi0
  obtain ⟨⟨z, hz, hzs⟩, h1, h2⟩ := hi0
  exact Con_clone Try.clone32 i0 z 2 24 hi hz h1 h2 hzs (by decide) Try.sizeOf61 (enters_of Try.func32 (by kernel_rfl) rfl) (by rw [List.length_map]; simp only [maxLen]; omega) (by rw [List.length_map]; omega)
end Go.Proofs.Ytdljcgikknaffaa.Pure
