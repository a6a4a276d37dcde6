/- slices.Clone at this dump: the shelf's contract, as ours. -/
import Derived.Test.YtghkboapcapooaaGreatAbCl
import Derived.Shelf.SlGeneric
import Derived.Shelf.SlicesE.Clone
import Derived.Ground.SlgnProg
import Derived.Test.YtghkboapcapooaaGreatRA1
set_option linter.unusedVariables false
set_option linter.unusedSimpArgs false
namespace Go.Proofs
open Go.Shelf
def Tryz.clone91_ren : Go.Shelf.Ren := ⟨fun | 41 => 91 | n => n, fun | 22 => 76 | 23 => 113 | 4 => 4 | n => n, fun | n => n⟩
theorem Tryz.clone91 : Go.Proofs.SlLaysE0.n41 Tryz.prog Tryz.clone91_ren := {
  mixed := by kernel_rfl
  f41 := ⟨Tryz.f91.name, by decide, Tryz.func91.trans (congrArg some (by kernel_rfl))⟩
  t4 := Tryz.underlying4
  a4 := Tryz.isAgg4
  z4 := Tryz.sizeOf4
  v4 := Tryz.zeroValue4
  t22 := Tryz.underlying76
  a22 := Tryz.isAgg76
  z22 := Tryz.sizeOf76
  v22 := Tryz.zeroValue76 }
end Go.Proofs
namespace Go.Proofs.YtghkboapcapooaaGreat.Pure
open Go Go.Ab Go.Proofs Go.Proofs.YtghkboapcapooaaGreat.R
theorem Clone91_r {l : List haircut_Item} (h : l.length ≤ 1000000000) : CloneR Tryz.prog 91 9 haircut_Item.enc l l := by
  have hi0 : (Tryz.prog.info? 113).map (fun i => (i.zero.map (·.cells.size), i.size, i.bytes)) = some (some 9, 9, 96) := by kernel_rfl
  obtain ⟨i0, hi⟩ : ∃ i0, Tryz.prog.info? 113 = some i0 := Option.isSome_iff_exists.1 (by kernel_rfl)
  rw [hi] at hi0
  simp only [Option.map_some, Option.some.injEq, Prod.mk.injEq, Option.map_eq_some_iff] at hi0
  obtain ⟨⟨z, hz, hzs⟩, h1, h2⟩ := hi0
  exact Con_clone Tryz.clone91 i0 z 9 96 hi hz h1 h2 hzs (by decide) Tryz.sizeOf113 (enters_of Tryz.func91 (by kernel_rfl) rfl) (by rw [List.length_map]; simp only [maxLen]; omega) (by rw [List.length_map]; omega)
end Go.Proofs.YtghkboapcapooaaGreat.Pure
