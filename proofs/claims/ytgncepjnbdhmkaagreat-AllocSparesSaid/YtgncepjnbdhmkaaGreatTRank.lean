/- slices.Clone at this dump: the shelf's contract, as ours. -/
import Derived.Test.YtgncepjnbdhmkaaGreatAbCl
import Derived.Shelf.SlGeneric
import Derived.Shelf.SlicesE.Clone
import Derived.Ground.SlgnProg
import Derived.Test.YtgncepjnbdhmkaaGreatRA
import Derived.Test.YtgncepjnbdhmkaaGreatTSortE
set_option linter.unusedVariables false
set_option linter.unusedSimpArgs false
namespace Go.Proofs
open Go.Shelf
def Tryz.clone66_ren : Go.Shelf.Ren := ⟨fun | 41 => 66 | n => n, fun | 22 => 34 | 23 => 61 | 4 => 4 | n => n, fun | n => n⟩
theorem Tryz.clone66 : Go.Proofs.SlLaysE0.n41 Tryz.prog Tryz.clone66_ren := {
  mixed := by kernel_rfl
  f41 := ⟨Tryz.f66.name, by decide, Tryz.func66.trans (congrArg some (by kernel_rfl))⟩
  t4 := Tryz.underlying4
  a4 := Tryz.isAgg4
  z4 := Tryz.sizeOf4
  v4 := Tryz.zeroValue4
  t22 := Tryz.underlying34
  a22 := Tryz.isAgg34
  z22 := Tryz.sizeOf34
  v22 := Tryz.zeroValue34 }
end Go.Proofs
namespace Go.Proofs.YtgncepjnbdhmkaaGreat.Pure
open Go Go.Ab Go.Proofs Go.Proofs.YtgncepjnbdhmkaaGreat.R
theorem Clone66_r {l : List haircut_Item} (h : l.length ≤ 1000000000) : CloneR Tryz.prog 66 9 haircut_Item.enc l l := by
  have hi0 : (Tryz.prog.info? 61).map (fun i => (i.zero.map (·.cells.size), i.size, i.bytes)) = some (some 9, 9, 96) := by kernel_rfl
  obtain ⟨i0, hi⟩ : ∃ i0, Tryz.prog.info? 61 = some i0 := Option.isSome_iff_exists.1 (by kernel_rfl)
  rw [hi] at hi0
  simp only [Option.map_some, Option.some.injEq, Prod.mk.injEq, Option.map_eq_some_iff] at hi0
  obtain ⟨⟨z, hz, hzs⟩, h1, h2⟩ := hi0
  exact Con_clone Tryz.clone66 i0 z 9 96 hi hz h1 h2 hzs (by decide) Tryz.sizeOf61 (enters_of Tryz.func66 (by kernel_rfl) rfl) (by rw [List.length_map]; simp only [maxLen]; omega) (by rw [List.length_map]; omega)
end Go.Proofs.YtgncepjnbdhmkaaGreat.Pure
namespace Go.Proofs.YtgncepjnbdhmkaaGreat.Pure
open Go Go.Ab Go.Stable Go.Proofs.YtgncepjnbdhmkaaGreat.R
theorem Rank_r {l : List haircut_Item} (h : l.length ≤ 1000000000) : lots_Rank_r l (isort leE l) := by
  refine lots_Rank_of ?_
  unfold lots_Rank_w
  exact ⟨_, Clone66_r h, _, sort_r l (by simp only [Big]; omega), Rt.i rfl⟩
end Go.Proofs.YtgncepjnbdhmkaaGreat.Pure
