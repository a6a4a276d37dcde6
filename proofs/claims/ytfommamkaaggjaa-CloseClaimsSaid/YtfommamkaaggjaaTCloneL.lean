/- slices.Clone at this dump: the shelf's contract, as ours. -/
import Derived.Test.YtfommamkaaggjaaAbCl
import Derived.Shelf.SlGeneric
import Derived.Shelf.SlicesE.Clone
import Derived.Ground.SlgnProg
import Derived.Test.YtfommamkaaggjaaRA
set_option linter.unusedVariables false
set_option linter.unusedSimpArgs false
namespace Go.Proofs
open Go.Shelf
def Try.clone27_ren : Go.Shelf.Ren := ⟨fun | 41 => 27 | n => n, fun | 22 => 46 | 23 => 3 | 4 => 4 | n => n, fun | n => n⟩
theorem Try.clone27 : Go.Proofs.SlLaysE0.n41 Try.prog Try.clone27_ren := {
  mixed := by kernel_rfl
  f41 := ⟨Try.f27.name, by decide, Try.func27.trans (congrArg some (by kernel_rfl))⟩
  t4 := Try.underlying4
  a4 := Try.isAgg4
  z4 := Try.sizeOf4
  v4 := Try.zeroValue4
  t22 := Try.underlying46
  a22 := Try.isAgg46
  z22 := Try.sizeOf46
  v22 := Try.zeroValue46 }
end Go.Proofs
namespace Go.Proofs.Ytfommamkaaggjaa.Pure
open Go Go.Ab Go.Proofs Go.Proofs.Ytfommamkaaggjaa.R
theorem Clone27_r {l : List Int} (h : l.length ≤ 1000000000) : CloneR Try.prog 27 1 eN l l := by
  have hi0 : (Try.prog.info? 3).map (fun i => (i.zero.map (·.cells.size), i.size, i.bytes)) = some (some 1, 1, 8) := by kernel_rfl
  obtain ⟨i0, hi⟩ : ∃ i0, Try.prog.info? 3 = some i0 := Option.isSome_iff_exists.1 (by kernel_rfl)
  rw [hi] at hi0
  simp only [Option.map_some, Option.some.injEq, Prod.mk.injEq, Option.map_eq_some_iff] at hi0
  obtain ⟨⟨z, hz, hzs⟩, h1, h2⟩ := hi0
  exact Con_clone Try.clone27 i0 z 1 8 hi hz h1 h2 hzs (by decide) Try.sizeOf3 (enters_of Try.func27 (by kernel_rfl) rfl) (by rw [List.length_map]; simp only [maxLen]; omega) (by rw [List.length_map]; omega)
end Go.Proofs.Ytfommamkaaggjaa.Pure
namespace Go.Proofs
open Go.Shelf
def Try.clone32_ren : Go.Shelf.Ren := ⟨fun | 41 => 32 | n => n, fun | 22 => 28 | 23 => 68 | 4 => 4 | n => n, fun | n => n⟩
theorem Try.clone32 : Go.Proofs.SlLaysE0.n41 Try.prog Try.clone32_ren := {
  mixed := by kernel_rfl
  f41 := ⟨Try.f32.name, by decide, Try.func32.trans (congrArg some (by kernel_rfl))⟩
  t4 := Try.underlying4
  a4 := Try.isAgg4
  z4 := Try.sizeOf4
  v4 := Try.zeroValue4
  t22 := Try.underlying28
  a22 := Try.isAgg28
  z22 := Try.sizeOf28
  v22 := Try.zeroValue28 }
end Go.Proofs
namespace Go.Proofs.Ytfommamkaaggjaa.Pure
open Go Go.Ab Go.Proofs Go.Proofs.Ytfommamkaaggjaa.R
theorem Clone32_r {l : List api_Lot} (h : l.length ≤ 1000000000) : CloneR Try.prog 32 2 api_Lot.enc l l := by
  have hi0 : (Try.prog.info? 68).map (fun i => (i.zero.map (·.cells.size), i.size, i.bytes)) = some (some 2, 2, 24) := by kernel_rfl
  obtain ⟨i0, hi⟩ : ∃ i0, Try.prog.info? 68 = some i0 := Option.isSome_iff_exists.1 (by kernel_rfl)
  rw [hi] at hi0
  simp only [Option.map_some, Option.some.injEq, Prod.mk.injEq, Option.map_eq_some_iff] at hi0
  obtain ⟨⟨z, hz, hzs⟩, h1, h2⟩ := hi0
  exact Con_clone Try.clone32 i0 z 2 24 hi hz h1 h2 hzs (by decide) Try.sizeOf68 (enters_of Try.func32 (by kernel_rfl) rfl) (by rw [List.length_map]; simp only [maxLen]; omega) (by rw [List.length_map]; omega)
end Go.Proofs.Ytfommamkaaggjaa.Pure
