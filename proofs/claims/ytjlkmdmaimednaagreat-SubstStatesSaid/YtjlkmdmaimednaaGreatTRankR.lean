/- The library's stable sort of items: it tells the stable order. -/
import Derived.Test.YtjlkmdmaimednaaGreatAbStr
import Derived.Test.YtjlkmdmaimednaaGreatAbSt
import Derived.Test.YtjlkmdmaimednaaGreatRA1
import Derived.Test.YtjlkmdmaimednaaGreatAbCl
import Derived.Shelf.SlGeneric
import Derived.Shelf.SlicesE.Clone
import Derived.Ground.SlgnProg
set_option linter.unusedVariables false
set_option linter.unusedSimpArgs false
namespace Go.Proofs.YtjlkmdmaimednaaGreat.Pure
open Go Go.Ab Go.Stable Go.Proofs.YtjlkmdmaimednaaGreat.R
set_option linter.unusedVariables false
abbrev E := haircut_Item
instance : Inhabited E := ⟨⟨⟨ByteArray.empty, 0⟩, ⟨ByteArray.empty, 0, 0, 0, ByteArray.empty⟩, 0, 0⟩⟩
def leP (x y : E) : Prop := x.Cut < y.Cut ∨ x.Cut = y.Cut ∧ (x.Asset.Maturity < y.Asset.Maturity ∨ x.Asset.Maturity = y.Asset.Maturity ∧ ¬ sLt y.Lot.ISIN x.Lot.ISIN)
instance (x y : E) : Decidable (leP x y) := by unfold leP; exact instDecidableOr
def leE (x y : E) : Bool := decide (leP x y)
def cmpB (a b : ByteArray) : Int := if sLt a b then -1 else if sLt b a then 1 else 0
theorem isNaN_int_r (a : Int) : cmp_isNaN_int_r a false := by
  refine cmp_isNaN_int_of ?_
  unfold cmp_isNaN_int_w
  first | exact Rt.i (by simp) | exact Br.i (fun h => absurd rfl h) (fun _ => Rt.i rfl)
theorem isNaN_string_r (a : ByteArray) : cmp_isNaN_string_r a false := by
  refine cmp_isNaN_string_of ?_
  unfold cmp_isNaN_string_w
  first | exact Rt.i (by simp [strEq_true]) | exact Br.i (fun h => absurd rfl h) (fun _ => Rt.i rfl)
theorem Compare_string_r (a b : ByteArray) : cmp_Compare_string_r a b (cmpB a b) := by
  refine cmp_Compare_string_of ?_
  unfold cmp_Compare_string_w cmpB
  refine ⟨_, isNaN_string_r a, _, isNaN_string_r b, Br.f rfl (Br.f rfl (Br.i (fun h => Rt.i (by rw [if_pos h])) (fun h => Br.i (fun h1 => Rt.i ?_) (fun h1 => Rt.i ?_))))⟩
  · have h1 := Decidable.not_not.1 h1
    rw [if_neg h, if_pos h1]
  · have h1 : ¬ sLt b a := fun q => h1 (fun k => k q)
    rw [if_neg h, if_neg h1]
abbrev Big (n : Nat) : Prop := n ≤ 1152921504606846976
theorem u64n {n : Nat} (h : n ≤ 4611686018427387904) : IntKind.u64.wrap (n : Int) = n := by
  simp [IntKind.wrap, IntKind.bits, IntKind.signed]
  omega
theorem i64n {n : Nat} (h : n ≤ 4611686018427387904) : IntKind.i64.wrap (n : Int) = n := by
  simp [IntKind.wrap, IntKind.bits, IntKind.signed]
  omega
theorem half {i j : Nat} (h : i + j ≤ 4611686018427387904) : IntKind.i64.wrap (Int.fdiv (IntKind.u64.wrap ((i : Int) + j)) 2) = (((i + j) / 2 : Nat) : Int) := by
  rw [show (i : Int) + j = ((i + j : Nat) : Int) by omega, u64n h, Int.fdiv_eq_ediv_of_nonneg _ (by decide), show ((i + j : Nat) : Int) / 2 = (((i + j) / 2 : Nat) : Int) by omega, i64n (by omega)]
end Go.Proofs.YtjlkmdmaimednaaGreat.Pure
namespace Go.Proofs.YtjlkmdmaimednaaGreat.Pure
open Go Go.Ab Go.Stable Go.Proofs.YtjlkmdmaimednaaGreat.R
set_option linter.unusedVariables false
end Go.Proofs.YtjlkmdmaimednaaGreat.Pure
namespace Go.Proofs.YtjlkmdmaimednaaGreat.Pure
open Go Go.Ab Go.Stable Go.Proofs.YtjlkmdmaimednaaGreat.R
set_option linter.unusedVariables false
end Go.Proofs.YtjlkmdmaimednaaGreat.Pure
namespace Go.Proofs.YtjlkmdmaimednaaGreat.Pure
open Go Go.Ab Go.Stable Go.Proofs.YtjlkmdmaimednaaGreat.R
set_option linter.unusedVariables false
end Go.Proofs.YtjlkmdmaimednaaGreat.Pure
namespace Go.Proofs.YtjlkmdmaimednaaGreat.Pure
open Go Go.Ab Go.Stable Go.Proofs.YtjlkmdmaimednaaGreat.R
set_option linter.unusedVariables false
/-- Stretches of so many, each in order. -/
def blocks (s : Nat) : Nat → List E → List E
  | 0, _ => []
  | f + 1, L => if L = [] then [] else isort leE (L.take s) ++ blocks s f (L.drop s)
abbrev blk (s : Nat) (L : List E) : List E := blocks s L.length L
end Go.Proofs.YtjlkmdmaimednaaGreat.Pure
namespace Go.Proofs
open Go.Shelf
end Go.Proofs
namespace Go.Proofs.YtjlkmdmaimednaaGreat.Pure
open Go Go.Ab Go.Proofs Go.Proofs.YtjlkmdmaimednaaGreat.R
end Go.Proofs.YtjlkmdmaimednaaGreat.Pure
namespace Go.Proofs.YtjlkmdmaimednaaGreat.Pure
open Go Go.Ab Go.Stable Go.Proofs.YtjlkmdmaimednaaGreat.R
end Go.Proofs.YtjlkmdmaimednaaGreat.Pure
namespace Go.Proofs.YtjlkmdmaimednaaGreat.Pure
open Go Go.Ab Go.Stable Go.Proofs.YtjlkmdmaimednaaGreat.R
set_option linter.unusedVariables false
abbrev RI := lombardref15_Item
abbrev HI := haircut_Item
def toR (x : HI) : RI := ⟨x.Lot, x.Asset, x.Price, x.Cut⟩
def toH (x : RI) : HI := ⟨x.Lot, x.Asset, x.Price, x.Cut⟩
theorem toH_toR (l : List HI) : (l.map toR).map toH = l := by rw [List.map_map]; exact List.map_id' l
theorem toR_toH (l : List RI) : (l.map toH).map toR = l := by rw [List.map_map]; exact List.map_id' l
theorem app96 {n : Nat} (h : n ≤ 3000000) : App 96 n := ⟨by unfold maxLen; omega, by omega⟩
end Go.Proofs.YtjlkmdmaimednaaGreat.Pure
