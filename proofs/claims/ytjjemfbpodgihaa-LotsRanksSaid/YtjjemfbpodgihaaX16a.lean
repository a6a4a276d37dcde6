-- a shortened text: what this claim does not name is left out (wip/xprint/prune.py of this repo)
import Derived.Test.YtjjemfbpodgihaaXMin
import Derived.Test.YtjjemfbpodgihaaX0
import Derived.Test.YtjjemfbpodgihaaX13
import Derived.Test.YtjjemfbpodgihaaX15
namespace Go.Proofs.Ytjjemfbpodgihaa.X
open Go.RowKit Go.Proofs.YtjjemfbpodgihaaW.PrintWords Go.Proofs.YtjjemfbpodgihaaW.PrintLast Go.Proofs.YtjjemfbpodgihaaW.PrintMore
attribute [local go_sem] max2_int min2_int max_two min_two max_three min_three max_four min_four
set_option linter.unusedVariables false
set_option linter.unusedSimpArgs false
abbrev qx16_0 : Array Bool := #[true, true, true, true, false, true, false, false, false, false, false]
abbrev qx16_1 : Array Bool := #[true, true, true, true, false, true, true, false, false, false, false]
abbrev qx16_2 : Array Bool := #[true, true, true, true, false, true, true, true, false, false, false]
abbrev qx16_3 : Array Bool := #[true, true, true, true, true, true, true, true, true, false, true, false, false, false, false, false, false, false]
abbrev qx16_4 : Array Bool := #[true, true, true, true, true, true, true, true, true, false, true, true, false, false, false, false, false, false]
abbrev qx16_5 : Array Bool := #[true, true, true, true, true, true, true, true, true, false, true, true, true, false, false, false, false, false]
abbrev qx16_6 : Array Bool := #[true, true, true, true, false, true, false, false, false, false, false, false]
abbrev qx16_7 : Array Bool := #[true, true, true, true, false, true, true, false, false, false, false, false]
abbrev qx16_8 : Array Bool := #[true, true, true, true, false, true, true, true, false, false, false, false]
abbrev qx16_9 : Array Bool := #[true, true, true, true, true, true, false, true, false, false, false, false, false, false]
abbrev qx16_10 : Array Bool := #[true, true, true, true, true, true, false, true, true, false, false, false, false, false]
abbrev qx16_11 : Array Bool := #[true, true, true, true, true, true, false, true, true, true, false, false, false, false]
mutual
def slices_symMergeCmpFunc_haircut_Item.l0 : Nat → List (S47) → Int → Int → Int → Option ((List (S47)))
 | 0, _, _, _, _ => none
 | k + 1, x0, x1, x10, x11 => if x10 < x11 then (if 0 ≤ (wrap64 ((IntKind.u64.wrap (wrap64 (x10 + x11))) / 2)) then (if (wrap64 ((IntKind.u64.wrap (wrap64 (x10 + x11))) / 2)) < (x0.length : Int) then (if 0 ≤ x1 then (if x1 < (x0.length : Int) then ((lots_order.f k ((rd_T47 x0 (wrap64 ((IntKind.u64.wrap (wrap64 (x10 + x11))) / 2))).f0.f0) ((rd_T47 x0 (wrap64 ((IntKind.u64.wrap (wrap64 (x10 + x11))) / 2))).f0.f1) ((rd_T47 x0 (wrap64 ((IntKind.u64.wrap (wrap64 (x10 + x11))) / 2))).f1.f0) ((rd_T47 x0 (wrap64 ((IntKind.u64.wrap (wrap64 (x10 + x11))) / 2))).f1.f1) ((rd_T47 x0 (wrap64 ((IntKind.u64.wrap (wrap64 (x10 + x11))) / 2))).f1.f2) ((rd_T47 x0 (wrap64 ((IntKind.u64.wrap (wrap64 (x10 + x11))) / 2))).f1.f3) ((rd_T47 x0 (wrap64 ((IntKind.u64.wrap (wrap64 (x10 + x11))) / 2))).f1.f4) ((rd_T47 x0 (wrap64 ((IntKind.u64.wrap (wrap64 (x10 + x11))) / 2))).f2) ((rd_T47 x0 (wrap64 ((IntKind.u64.wrap (wrap64 (x10 + x11))) / 2))).f3) ((rd_T47 x0 x1).f0.f0) ((rd_T47 x0 x1).f0.f1) ((rd_T47 x0 x1).f1.f0) ((rd_T47 x0 x1).f1.f1) ((rd_T47 x0 x1).f1.f2) ((rd_T47 x0 x1).f1.f3) ((rd_T47 x0 x1).f1.f4) ((rd_T47 x0 x1).f2) ((rd_T47 x0 x1).f3)).bind fun t400 => (if t400 < 0 then (slices_symMergeCmpFunc_haircut_Item.l0 k x0 x1 (wrap64 ((wrap64 ((IntKind.u64.wrap (wrap64 (x10 + x11))) / 2)) + 1)) x11) else (slices_symMergeCmpFunc_haircut_Item.l0 k x0 x1 x10 (wrap64 ((IntKind.u64.wrap (wrap64 (x10 + x11))) / 2))))) else (none)) else (none)) else (none)) else (none)) else (slices_symMergeCmpFunc_haircut_Item.l1 k x0 x10 x1)
def slices_symMergeCmpFunc_haircut_Item.l1 : Nat → List (S47) → Int → Int → Option ((List (S47)))
 | 0, _, _, _ => none
 | k + 1, x0, x10, x13 => if x13 < (wrap64 (x10 - 1)) then (if 0 ≤ (wrap64 (x13 + 1)) then (if (wrap64 (x13 + 1)) < (x0.length : Int) then (if 0 ≤ x13 then (if x13 < (x0.length : Int) then (slices_symMergeCmpFunc_haircut_Item.l1 k ((x0.set (x13 : Int).toNat (⟨(⟨(rd_T47 x0 (wrap64 (x13 + 1))).f0.f0, (rd_T47 x0 (wrap64 (x13 + 1))).f0.f1⟩ : S43), (⟨(rd_T47 x0 (wrap64 (x13 + 1))).f1.f0, (rd_T47 x0 (wrap64 (x13 + 1))).f1.f1, (rd_T47 x0 (wrap64 (x13 + 1))).f1.f2, (rd_T47 x0 (wrap64 (x13 + 1))).f1.f3, (rd_T47 x0 (wrap64 (x13 + 1))).f1.f4⟩ : S45), (rd_T47 x0 (wrap64 (x13 + 1))).f2, (rd_T47 x0 (wrap64 (x13 + 1))).f3⟩ : S47)).set ((wrap64 (x13 + 1)) : Int).toNat (⟨(⟨(rd_T47 x0 x13).f0.f0, (rd_T47 x0 x13).f0.f1⟩ : S43), (⟨(rd_T47 x0 x13).f1.f0, (rd_T47 x0 x13).f1.f1, (rd_T47 x0 x13).f1.f2, (rd_T47 x0 x13).f1.f3, (rd_T47 x0 x13).f1.f4⟩ : S45), (rd_T47 x0 x13).f2, (rd_T47 x0 x13).f3⟩ : S47)) x10 (wrap64 (x13 + 1))) else (none)) else (none)) else (none)) else (none)) else (some x0)
def slices_symMergeCmpFunc_haircut_Item.l2 : Nat → List (S47) → Int → Int → Int → Option ((List (S47)))
 | 0, _, _, _, _ => none
 | k + 1, x0, x2, x14, x15 => if x14 < x15 then (if 0 ≤ x2 then (if x2 < (x0.length : Int) then (if 0 ≤ (wrap64 ((IntKind.u64.wrap (wrap64 (x14 + x15))) / 2)) then (if (wrap64 ((IntKind.u64.wrap (wrap64 (x14 + x15))) / 2)) < (x0.length : Int) then ((lots_order.f k ((rd_T47 x0 x2).f0.f0) ((rd_T47 x0 x2).f0.f1) ((rd_T47 x0 x2).f1.f0) ((rd_T47 x0 x2).f1.f1) ((rd_T47 x0 x2).f1.f2) ((rd_T47 x0 x2).f1.f3) ((rd_T47 x0 x2).f1.f4) ((rd_T47 x0 x2).f2) ((rd_T47 x0 x2).f3) ((rd_T47 x0 (wrap64 ((IntKind.u64.wrap (wrap64 (x14 + x15))) / 2))).f0.f0) ((rd_T47 x0 (wrap64 ((IntKind.u64.wrap (wrap64 (x14 + x15))) / 2))).f0.f1) ((rd_T47 x0 (wrap64 ((IntKind.u64.wrap (wrap64 (x14 + x15))) / 2))).f1.f0) ((rd_T47 x0 (wrap64 ((IntKind.u64.wrap (wrap64 (x14 + x15))) / 2))).f1.f1) ((rd_T47 x0 (wrap64 ((IntKind.u64.wrap (wrap64 (x14 + x15))) / 2))).f1.f2) ((rd_T47 x0 (wrap64 ((IntKind.u64.wrap (wrap64 (x14 + x15))) / 2))).f1.f3) ((rd_T47 x0 (wrap64 ((IntKind.u64.wrap (wrap64 (x14 + x15))) / 2))).f1.f4) ((rd_T47 x0 (wrap64 ((IntKind.u64.wrap (wrap64 (x14 + x15))) / 2))).f2) ((rd_T47 x0 (wrap64 ((IntKind.u64.wrap (wrap64 (x14 + x15))) / 2))).f3)).bind fun t407 => (if t407 < 0 then (slices_symMergeCmpFunc_haircut_Item.l2 k x0 x2 x14 (wrap64 ((IntKind.u64.wrap (wrap64 (x14 + x15))) / 2))) else (slices_symMergeCmpFunc_haircut_Item.l2 k x0 x2 (wrap64 ((wrap64 ((IntKind.u64.wrap (wrap64 (x14 + x15))) / 2)) + 1)) x15))) else (none)) else (none)) else (none)) else (none)) else (slices_symMergeCmpFunc_haircut_Item.l3 k x0 x14 x2)
def slices_symMergeCmpFunc_haircut_Item.l3 : Nat → List (S47) → Int → Int → Option ((List (S47)))
 | 0, _, _, _ => none
 | k + 1, x0, x14, x17 => if x17 > x14 then (if 0 ≤ (wrap64 (x17 - 1)) then (if (wrap64 (x17 - 1)) < (x0.length : Int) then (if 0 ≤ x17 then (if x17 < (x0.length : Int) then (slices_symMergeCmpFunc_haircut_Item.l3 k ((x0.set (x17 : Int).toNat (⟨(⟨(rd_T47 x0 (wrap64 (x17 - 1))).f0.f0, (rd_T47 x0 (wrap64 (x17 - 1))).f0.f1⟩ : S43), (⟨(rd_T47 x0 (wrap64 (x17 - 1))).f1.f0, (rd_T47 x0 (wrap64 (x17 - 1))).f1.f1, (rd_T47 x0 (wrap64 (x17 - 1))).f1.f2, (rd_T47 x0 (wrap64 (x17 - 1))).f1.f3, (rd_T47 x0 (wrap64 (x17 - 1))).f1.f4⟩ : S45), (rd_T47 x0 (wrap64 (x17 - 1))).f2, (rd_T47 x0 (wrap64 (x17 - 1))).f3⟩ : S47)).set ((wrap64 (x17 - 1)) : Int).toNat (⟨(⟨(rd_T47 x0 x17).f0.f0, (rd_T47 x0 x17).f0.f1⟩ : S43), (⟨(rd_T47 x0 x17).f1.f0, (rd_T47 x0 x17).f1.f1, (rd_T47 x0 x17).f1.f2, (rd_T47 x0 x17).f1.f3, (rd_T47 x0 x17).f1.f4⟩ : S45), (rd_T47 x0 x17).f2, (rd_T47 x0 x17).f3⟩ : S47)) x14 (wrap64 (x17 - 1))) else (none)) else (none)) else (none)) else (none)) else (some x0)
def slices_symMergeCmpFunc_haircut_Item.j4 : Nat → List (S47) → Int → Int → Int → Int → Int → Int → Int → Option ((List (S47)))
 | 0, _, _, _, _, _, _, _, _ => none
 | k + 1, x0, x1, x2, x3, x18, x19, x20, x21 => slices_symMergeCmpFunc_haircut_Item.l4 k x0 x1 x2 x3 x18 x19 x20 x21 (wrap64 (x19 - 1))
def slices_symMergeCmpFunc_haircut_Item.l4 : Nat → List (S47) → Int → Int → Int → Int → Int → Int → Int → Int → Option ((List (S47)))
 | 0, _, _, _, _, _, _, _, _, _ => none
 | k + 1, x0, x1, x2, x3, x18, x19, x20, x21, x22 => if x20 < x21 then (if 0 ≤ (wrap64 (x22 - (wrap64 ((IntKind.u64.wrap (wrap64 (x20 + x21))) / 2)))) then (if (wrap64 (x22 - (wrap64 ((IntKind.u64.wrap (wrap64 (x20 + x21))) / 2)))) < (x0.length : Int) then (if 0 ≤ (wrap64 ((IntKind.u64.wrap (wrap64 (x20 + x21))) / 2)) then (if (wrap64 ((IntKind.u64.wrap (wrap64 (x20 + x21))) / 2)) < (x0.length : Int) then ((lots_order.f k ((rd_T47 x0 (wrap64 (x22 - (wrap64 ((IntKind.u64.wrap (wrap64 (x20 + x21))) / 2))))).f0.f0) ((rd_T47 x0 (wrap64 (x22 - (wrap64 ((IntKind.u64.wrap (wrap64 (x20 + x21))) / 2))))).f0.f1) ((rd_T47 x0 (wrap64 (x22 - (wrap64 ((IntKind.u64.wrap (wrap64 (x20 + x21))) / 2))))).f1.f0) ((rd_T47 x0 (wrap64 (x22 - (wrap64 ((IntKind.u64.wrap (wrap64 (x20 + x21))) / 2))))).f1.f1) ((rd_T47 x0 (wrap64 (x22 - (wrap64 ((IntKind.u64.wrap (wrap64 (x20 + x21))) / 2))))).f1.f2) ((rd_T47 x0 (wrap64 (x22 - (wrap64 ((IntKind.u64.wrap (wrap64 (x20 + x21))) / 2))))).f1.f3) ((rd_T47 x0 (wrap64 (x22 - (wrap64 ((IntKind.u64.wrap (wrap64 (x20 + x21))) / 2))))).f1.f4) ((rd_T47 x0 (wrap64 (x22 - (wrap64 ((IntKind.u64.wrap (wrap64 (x20 + x21))) / 2))))).f2) ((rd_T47 x0 (wrap64 (x22 - (wrap64 ((IntKind.u64.wrap (wrap64 (x20 + x21))) / 2))))).f3) ((rd_T47 x0 (wrap64 ((IntKind.u64.wrap (wrap64 (x20 + x21))) / 2))).f0.f0) ((rd_T47 x0 (wrap64 ((IntKind.u64.wrap (wrap64 (x20 + x21))) / 2))).f0.f1) ((rd_T47 x0 (wrap64 ((IntKind.u64.wrap (wrap64 (x20 + x21))) / 2))).f1.f0) ((rd_T47 x0 (wrap64 ((IntKind.u64.wrap (wrap64 (x20 + x21))) / 2))).f1.f1) ((rd_T47 x0 (wrap64 ((IntKind.u64.wrap (wrap64 (x20 + x21))) / 2))).f1.f2) ((rd_T47 x0 (wrap64 ((IntKind.u64.wrap (wrap64 (x20 + x21))) / 2))).f1.f3) ((rd_T47 x0 (wrap64 ((IntKind.u64.wrap (wrap64 (x20 + x21))) / 2))).f1.f4) ((rd_T47 x0 (wrap64 ((IntKind.u64.wrap (wrap64 (x20 + x21))) / 2))).f2) ((rd_T47 x0 (wrap64 ((IntKind.u64.wrap (wrap64 (x20 + x21))) / 2))).f3)).bind fun t414 => (if t414 < 0 then (slices_symMergeCmpFunc_haircut_Item.l4 k x0 x1 x2 x3 x18 x19 x20 (wrap64 ((IntKind.u64.wrap (wrap64 (x20 + x21))) / 2)) x22) else (slices_symMergeCmpFunc_haircut_Item.l4 k x0 x1 x2 x3 x18 x19 (wrap64 ((wrap64 ((IntKind.u64.wrap (wrap64 (x20 + x21))) / 2)) + 1)) x21 x22))) else (none)) else (none)) else (none)) else (none)) else (if x20 < x2 then (slices_symMergeCmpFunc_haircut_Item.j6 k x0 x1 x2 x3 x18 x20 (wrap64 (x19 - x20)) (decide (x2 < (wrap64 (x19 - x20))))) else (slices_symMergeCmpFunc_haircut_Item.j6 k x0 x1 x2 x3 x18 x20 (wrap64 (x19 - x20)) false))
def slices_symMergeCmpFunc_haircut_Item.j6 : Nat → List (S47) → Int → Int → Int → Int → Int → Int → Bool → Option ((List (S47)))
 | 0, _, _, _, _, _, _, _, _ => none
 | k + 1, x0, x1, x2, x3, x18, x20, x24, x185 => if x185 = true then ((slices_rotateCmpFunc_haircut_Item.f k x0 x20 x2 x24).bind fun t415 => (slices_symMergeCmpFunc_haircut_Item.j7 k t415 x1 x3 x18 x20 x24)) else (slices_symMergeCmpFunc_haircut_Item.j7 k x0 x1 x3 x18 x20 x24)
def slices_symMergeCmpFunc_haircut_Item.j7 : Nat → List (S47) → Int → Int → Int → Int → Int → Option ((List (S47)))
 | 0, _, _, _, _, _, _ => none
 | k + 1, x0, x1, x3, x18, x20, x24 => if x1 < x20 then (slices_symMergeCmpFunc_haircut_Item.j8 k x0 x1 x3 x18 x20 x24 (decide (x20 < x18))) else (slices_symMergeCmpFunc_haircut_Item.j8 k x0 x1 x3 x18 x20 x24 false)
def slices_symMergeCmpFunc_haircut_Item.j8 : Nat → List (S47) → Int → Int → Int → Int → Int → Bool → Option ((List (S47)))
 | 0, _, _, _, _, _, _, _ => none
 | k + 1, x0, x1, x3, x18, x20, x24, x199 => if x199 = true then ((slices_symMergeCmpFunc_haircut_Item.f k x0 x1 x20 x18).bind fun t416 => (if x18 < x24 then (if x24 < x3 then ((slices_symMergeCmpFunc_haircut_Item.f k t416 x18 x24 x3).bind fun t417 => (some t417)) else (some t416)) else (some t416))) else (if x18 < x24 then (if x24 < x3 then ((slices_symMergeCmpFunc_haircut_Item.f k x0 x18 x24 x3).bind fun t418 => (some t418)) else (some x0)) else (some x0))
def slices_symMergeCmpFunc_haircut_Item.f : Nat → List (S47) → Int → Int → Int → Option ((List (S47)))
 | 0, _, _, _, _ => none
 | k + 1, l0, a1, a2, a3 => if (wrap64 (a2 - a1)) = 1 then (slices_symMergeCmpFunc_haircut_Item.l0 k l0 a1 a2 a3) else (if (wrap64 (a3 - a2)) = 1 then (slices_symMergeCmpFunc_haircut_Item.l2 k l0 a2 a1 a2) else (if a2 > (wrap64 ((IntKind.u64.wrap (wrap64 (a1 + a3))) / 2)) then (slices_symMergeCmpFunc_haircut_Item.j4 k l0 a1 a2 a3 (wrap64 ((IntKind.u64.wrap (wrap64 (a1 + a3))) / 2)) (wrap64 ((wrap64 ((IntKind.u64.wrap (wrap64 (a1 + a3))) / 2)) + a2)) (wrap64 ((wrap64 ((wrap64 ((IntKind.u64.wrap (wrap64 (a1 + a3))) / 2)) + a2)) - a3)) (wrap64 ((IntKind.u64.wrap (wrap64 (a1 + a3))) / 2))) else (slices_symMergeCmpFunc_haircut_Item.j4 k l0 a1 a2 a3 (wrap64 ((IntKind.u64.wrap (wrap64 (a1 + a3))) / 2)) (wrap64 ((wrap64 ((IntKind.u64.wrap (wrap64 (a1 + a3))) / 2)) + a2)) a1 a2)))
end
theorem slices_symMergeCmpFunc_haircut_Item.mono_l : ∀ k, (∀ y0 y1 y2 y3, LeO (slices_symMergeCmpFunc_haircut_Item.f k y0 y1 y2 y3) (slices_symMergeCmpFunc_haircut_Item.f (k + 1) y0 y1 y2 y3)) ∧ (∀ y0 y1 y2 y3, LeO (slices_symMergeCmpFunc_haircut_Item.l0 k y0 y1 y2 y3) (slices_symMergeCmpFunc_haircut_Item.l0 (k + 1) y0 y1 y2 y3)) ∧ (∀ y0 y1 y2, LeO (slices_symMergeCmpFunc_haircut_Item.l1 k y0 y1 y2) (slices_symMergeCmpFunc_haircut_Item.l1 (k + 1) y0 y1 y2)) ∧ (∀ y0 y1 y2 y3, LeO (slices_symMergeCmpFunc_haircut_Item.l2 k y0 y1 y2 y3) (slices_symMergeCmpFunc_haircut_Item.l2 (k + 1) y0 y1 y2 y3)) ∧ (∀ y0 y1 y2, LeO (slices_symMergeCmpFunc_haircut_Item.l3 k y0 y1 y2) (slices_symMergeCmpFunc_haircut_Item.l3 (k + 1) y0 y1 y2)) ∧ (∀ y0 y1 y2 y3 y4 y5 y6 y7, LeO (slices_symMergeCmpFunc_haircut_Item.j4 k y0 y1 y2 y3 y4 y5 y6 y7) (slices_symMergeCmpFunc_haircut_Item.j4 (k + 1) y0 y1 y2 y3 y4 y5 y6 y7)) ∧ (∀ y0 y1 y2 y3 y4 y5 y6 y7 y8, LeO (slices_symMergeCmpFunc_haircut_Item.l4 k y0 y1 y2 y3 y4 y5 y6 y7 y8) (slices_symMergeCmpFunc_haircut_Item.l4 (k + 1) y0 y1 y2 y3 y4 y5 y6 y7 y8)) ∧ (∀ y0 y1 y2 y3 y4 y5 y6 y7, LeO (slices_symMergeCmpFunc_haircut_Item.j6 k y0 y1 y2 y3 y4 y5 y6 y7) (slices_symMergeCmpFunc_haircut_Item.j6 (k + 1) y0 y1 y2 y3 y4 y5 y6 y7)) ∧ (∀ y0 y1 y2 y3 y4 y5, LeO (slices_symMergeCmpFunc_haircut_Item.j7 k y0 y1 y2 y3 y4 y5) (slices_symMergeCmpFunc_haircut_Item.j7 (k + 1) y0 y1 y2 y3 y4 y5)) ∧ (∀ y0 y1 y2 y3 y4 y5 y6, LeO (slices_symMergeCmpFunc_haircut_Item.j8 k y0 y1 y2 y3 y4 y5 y6) (slices_symMergeCmpFunc_haircut_Item.j8 (k + 1) y0 y1 y2 y3 y4 y5 y6))
 | 0 => ⟨fun _ _ _ _ r h => by simp [slices_symMergeCmpFunc_haircut_Item.f] at h, fun _ _ _ _ r h => by simp [slices_symMergeCmpFunc_haircut_Item.l0] at h, fun _ _ _ r h => by simp [slices_symMergeCmpFunc_haircut_Item.l1] at h, fun _ _ _ _ r h => by simp [slices_symMergeCmpFunc_haircut_Item.l2] at h, fun _ _ _ r h => by simp [slices_symMergeCmpFunc_haircut_Item.l3] at h, fun _ _ _ _ _ _ _ _ r h => by simp [slices_symMergeCmpFunc_haircut_Item.j4] at h, fun _ _ _ _ _ _ _ _ _ r h => by simp [slices_symMergeCmpFunc_haircut_Item.l4] at h, fun _ _ _ _ _ _ _ _ r h => by simp [slices_symMergeCmpFunc_haircut_Item.j6] at h, fun _ _ _ _ _ _ r h => by simp [slices_symMergeCmpFunc_haircut_Item.j7] at h, fun _ _ _ _ _ _ _ r h => by simp [slices_symMergeCmpFunc_haircut_Item.j8] at h⟩
 | k + 1 => by
  obtain ⟨ih0, ih1, ih2, ih3, ih4, ih5, ih6, ih7, ih8, ih9⟩ := slices_symMergeCmpFunc_haircut_Item.mono_l k
  refine ⟨?_, ?_, ?_, ?_, ?_, ?_, ?_, ?_, ?_, ?_⟩
  intro y0 y1 y2 y3; unfold slices_symMergeCmpFunc_haircut_Item.f; rotate_left
  intro y0 y1 y2 y3; unfold slices_symMergeCmpFunc_haircut_Item.l0; rotate_left
  intro y0 y1 y2; unfold slices_symMergeCmpFunc_haircut_Item.l1; rotate_left
  intro y0 y1 y2 y3; unfold slices_symMergeCmpFunc_haircut_Item.l2; rotate_left
  intro y0 y1 y2; unfold slices_symMergeCmpFunc_haircut_Item.l3; rotate_left
  intro y0 y1 y2 y3 y4 y5 y6 y7; unfold slices_symMergeCmpFunc_haircut_Item.j4; rotate_left
  intro y0 y1 y2 y3 y4 y5 y6 y7 y8; unfold slices_symMergeCmpFunc_haircut_Item.l4; rotate_left
  intro y0 y1 y2 y3 y4 y5 y6 y7; unfold slices_symMergeCmpFunc_haircut_Item.j6; rotate_left
  intro y0 y1 y2 y3 y4 y5; unfold slices_symMergeCmpFunc_haircut_Item.j7; rotate_left
  intro y0 y1 y2 y3 y4 y5 y6; unfold slices_symMergeCmpFunc_haircut_Item.j8; rotate_left
  all_goals repeat' first
  | (with_reducible exact ih0 _ _ _ _)
  | (with_reducible exact ih1 _ _ _ _)
  | (with_reducible exact ih2 _ _ _)
  | (with_reducible exact ih3 _ _ _ _)
  | (with_reducible exact ih4 _ _ _)
  | (with_reducible exact ih5 _ _ _ _ _ _ _ _)
  | (with_reducible exact ih6 _ _ _ _ _ _ _ _ _)
  | (with_reducible exact ih7 _ _ _ _ _ _ _ _)
  | (with_reducible exact ih8 _ _ _ _ _ _)
  | (with_reducible exact ih9 _ _ _ _ _ _ _)
  | (with_reducible exact lots_order.mono _ _ _ _ _ _ _ _ _ _ _ _ _ _ _ _ _ _ _)
  | (with_reducible exact slices_rotateCmpFunc_haircut_Item.mono _ _ _ _ _)
  | (with_reducible exact LeO.refl _)
  | (with_reducible exact LeO.none _)
  | (with_reducible refine LeO.ite ?_ ?_)
  | (with_reducible refine LeO.bind ?_ (fun _ => ?_))
  | exact ih0 _ _ _ _
  | exact ih1 _ _ _ _
  | exact ih2 _ _ _
  | exact ih3 _ _ _ _
  | exact ih4 _ _ _
  | exact ih5 _ _ _ _ _ _ _ _
  | exact ih6 _ _ _ _ _ _ _ _ _
  | exact ih7 _ _ _ _ _ _ _ _
  | exact ih8 _ _ _ _ _ _
  | exact ih9 _ _ _ _ _ _ _
  | exact lots_order.mono _ _ _ _ _ _ _ _ _ _ _ _ _ _ _ _ _ _ _
  | exact slices_rotateCmpFunc_haircut_Item.mono _ _ _ _ _
  | exact LeO.none _
  | refine LeO.ite ?_ ?_
  | refine LeO.bind ?_ (fun _ => ?_)
theorem slices_symMergeCmpFunc_haircut_Item.mono : ∀ a0 a1 a2 a3 k, LeO (slices_symMergeCmpFunc_haircut_Item.f k a0 a1 a2 a3) (slices_symMergeCmpFunc_haircut_Item.f (k + 1) a0 a1 a2 a3) := by
 intro a0 a1 a2 a3 k
 obtain ⟨ih0, ih1, ih2, ih3, ih4, ih5, ih6, ih7, ih8, ih9⟩ := slices_symMergeCmpFunc_haircut_Item.mono_l k
 exact ih0 a0 a1 a2 a3
def slices_symMergeCmpFunc_haircut_Item.T5 : Bool × List (List Nat × List Nat) := (true, [([], []), ([], []), ([], []), ([1, 2], [1, 2]), ([3], [3]), ([], []), ([], []), ([5, 6], [5, 6]), ([7], [7]), ([0, 4, 8], [0, 4, 8]), ([9], [9])])
def slices_symMergeCmpFunc_haircut_Item.B5 : List Nat := [0, 0, 0, 6, 14, 0, 0, 96, 224, 511, 1023]
theorem slices_symMergeCmpFunc_haircut_Item.tab5 : rtab .any (opsOf Try.f51 5) = slices_symMergeCmpFunc_haircut_Item.T5 := by kernel_rfl
theorem slices_symMergeCmpFunc_haircut_Item.bits5 : waitsOk slices_symMergeCmpFunc_haircut_Item.T5.2 slices_symMergeCmpFunc_haircut_Item.B5 = true := by kernel_rfl
def slices_symMergeCmpFunc_haircut_Item.T11 : Bool × List (List Nat × List Nat) := (true, [([], []), ([], []), ([], []), ([], []), ([3], [3]), ([], []), ([], []), ([6], [6]), ([5, 7], [5, 7]), ([8], [8]), ([], []), ([], []), ([10, 11], [10, 11]), ([12], [12]), ([0, 1, 0, 1, 5, 6, 7, 8, 9, 13], [0, 1]), ([14, 9, 0, 1, 5, 6, 7, 8, 9, 13], [9, 14]), ([2, 4, 0, 1, 2, 3, 4, 5, 6, 7, 8, 9, 10, 11, 12, 13, 14, 15], [2, 4]), ([16, 13, 15, 0, 1, 2, 3, 4, 5, 6, 7, 8, 9, 10, 11, 12, 13, 14, 15], [13, 16])])
def slices_symMergeCmpFunc_haircut_Item.B11 : List Nat := [0, 0, 0, 0, 8, 0, 0, 64, 224, 480, 0, 0, 3072, 7168, 16355, 32739, 65535, 131071]
theorem slices_symMergeCmpFunc_haircut_Item.tab11 : rtab .any (opsOf Try.f51 11) = slices_symMergeCmpFunc_haircut_Item.T11 := by kernel_rfl
theorem slices_symMergeCmpFunc_haircut_Item.bits11 : waitsOk slices_symMergeCmpFunc_haircut_Item.T11.2 slices_symMergeCmpFunc_haircut_Item.B11 = true := by kernel_rfl
def slices_symMergeCmpFunc_haircut_Item.T17 : Bool × List (List Nat × List Nat) := (true, [([], []), ([], []), ([], []), ([1, 2], [1, 2]), ([3], [3]), ([], []), ([], []), ([5, 6], [5, 6]), ([7], [7]), ([0, 4, 8], [0, 4, 8]), ([9], [9]), ([10], [10])])
def slices_symMergeCmpFunc_haircut_Item.B17 : List Nat := [0, 0, 0, 6, 14, 0, 0, 96, 224, 511, 1023, 2047]
theorem slices_symMergeCmpFunc_haircut_Item.tab17 : rtab .any (opsOf Try.f51 17) = slices_symMergeCmpFunc_haircut_Item.T17 := by kernel_rfl
theorem slices_symMergeCmpFunc_haircut_Item.bits17 : waitsOk slices_symMergeCmpFunc_haircut_Item.T17.2 slices_symMergeCmpFunc_haircut_Item.B17 = true := by kernel_rfl
def slices_symMergeCmpFunc_haircut_Item.T23 : Bool × List (List Nat × List Nat) := (true, [([], []), ([], []), ([], []), ([], []), ([3], [3]), ([], []), ([], []), ([6], [6]), ([5, 7], [5, 7]), ([8], [8]), ([], []), ([], []), ([10, 11], [10, 11]), ([12], [12]), ([0, 1, 0, 1, 5, 6, 7, 8, 9, 13], [0, 1]), ([14, 9, 0, 1, 5, 6, 7, 8, 9, 13], [9, 14]), ([2, 4, 0, 1, 2, 3, 4, 5, 6, 7, 8, 9, 10, 11, 12, 13, 14, 15], [2, 4]), ([16, 13, 15, 0, 1, 2, 3, 4, 5, 6, 7, 8, 9, 10, 11, 12, 13, 14, 15], [13, 16])])
def slices_symMergeCmpFunc_haircut_Item.B23 : List Nat := [0, 0, 0, 0, 8, 0, 0, 64, 224, 480, 0, 0, 3072, 7168, 16355, 32739, 65535, 131071]
theorem slices_symMergeCmpFunc_haircut_Item.tab23 : rtab .any (opsOf Try.f51 23) = slices_symMergeCmpFunc_haircut_Item.T23 := by kernel_rfl
theorem slices_symMergeCmpFunc_haircut_Item.bits23 : waitsOk slices_symMergeCmpFunc_haircut_Item.T23.2 slices_symMergeCmpFunc_haircut_Item.B23 = true := by kernel_rfl
def slices_symMergeCmpFunc_haircut_Item.T35 : Bool × List (List Nat × List Nat) := (true, [([], []), ([], []), ([], []), ([], []), ([2, 3], [2, 3]), ([1, 4], [1, 4]), ([5], [5]), ([], []), ([], []), ([7, 8], [7, 8]), ([9], [9]), ([0, 6, 10], [0, 6, 10]), ([11], [11]), ([12], [12])])
def slices_symMergeCmpFunc_haircut_Item.B35 : List Nat := [0, 0, 0, 0, 12, 30, 62, 0, 0, 384, 896, 2047, 4095, 8191]
theorem slices_symMergeCmpFunc_haircut_Item.tab35 : rtab .any (opsOf Try.f51 35) = slices_symMergeCmpFunc_haircut_Item.T35 := by kernel_rfl
theorem slices_symMergeCmpFunc_haircut_Item.bits35 : waitsOk slices_symMergeCmpFunc_haircut_Item.T35.2 slices_symMergeCmpFunc_haircut_Item.B35 = true := by kernel_rfl
abbrev slices_symMergeCmpFunc_haircut_Item.Con (k : Nat) : Prop := ∀ (P0_ : Nat → Prop) (u9000_ : Value) (l0 : List (S47)) (a1 : Int) (a2 : Int) (a3 : Int) (r : List (S47)) (w0 w : World) (hB : Below w0.heap.size w0 w) (ho0 : Kd.R k47 47 w w0.heap.size P0_ u9000_ l0) (h : slices_symMergeCmpFunc_haircut_Item.f k l0 a1 a2 a3 = some r),
 Calls Try.prog 51 #[u9000_, .int .i64 a1, .int .i64 a2, .int .i64 a3, .func (.func 39) #[] #[]] w fun e w' => e = .returned (.tuple #[]) ∧ Kd.R k47 47 w' w0.heap.size (fun k_ => (P0_ k_ ∨ w.heap.size ≤ k_)) u9000_ r ∧ Below w0.heap.size w0 w' ∧ Kept w w' (fun k_ => P0_ k_)
set_option maxHeartbeats 8000000 in
set_option maxRecDepth 100000 in
theorem slices_symMergeCmpFunc_haircut_Item.part0 (k : Nat) (ih : ∀ m, m < k + 1 → slices_symMergeCmpFunc_haircut_Item.Con m) (P0_ : Nat → Prop) (u9000_ : Value) (l0 : List (S47)) (a1 : Int) (a2 : Int) (a3 : Int) (r : List (S47)) (w0 w : World) (hB : Below w0.heap.size w0 w) (ho0 : Kd.R k47 47 w w0.heap.size P0_ u9000_ l0) (c6 : ((wrap64 (a2 - a1)) = 1)) (H : (slices_symMergeCmpFunc_haircut_Item.l0 k l0 a1 a2 a3) = some r) : Calls Try.prog 51 #[u9000_, .int .i64 a1, .int .i64 a2, .int .i64 a3, .func (.func 39) #[] #[]] w fun e w' => e = .returned (.tuple #[]) ∧ Kd.R k47 47 w' w0.heap.size (fun k_ => (P0_ k_ ∨ w.heap.size ≤ k_)) u9000_ r ∧ Below w0.heap.size w0 w' ∧ Kept w w' (fun k_ => P0_ k_) := by
 have hu47 := Try.underlying47
 have HO0 := Aside0.mk (show Kd.R k47 47 w w0.heap.size (fun k_ => (P0_ k_ ∨ w.heap.size ≤ k_)) u9000_ l0 from Kd.R_mono ho0 (fun k_ hk => (.inl hk)))
 have HK := Aside0.mk (Kept.refl w (fun k_ => P0_ k_))
 have HW0 := Aside0.mk hB.size
 have HB := Aside0.mk hB; clear hB
 have c6b0 : ((wrap64 (a2 - a1)) == 1) = true := beq_iff_eq.mpr c6
 have c6b1 : ((wrap64 (a2 - a1)) != 1) = false := bne_eq_false_iff_eq.mpr c6
 clear c6
 have H' := Aside0.mk H
 clear H
 go_enter Try.func51, Try.ntmps51
 go_wp2
 go_loopg [10, 11] k (fun kq v10 v11 w' => ∃ (x10_1 : Int) (x11_1 : Int), v10 = .int .i64 x10_1 ∧ v11 = .int .i64 x11_1 ∧ Aside0 (slices_symMergeCmpFunc_haircut_Item.l0 kq l0 a1 x10_1 x11_1 = some r) ∧ Aside0 (kq ≤ k) ∧ Aside0 (Kd.R k47 47 w' w0.heap.size (fun k_ => (P0_ k_ ∨ w.heap.size ≤ k_)) u9000_ l0) ∧ Aside0 (Kept w w' (fun k_ => P0_ k_)) ∧ Aside0 (Below w0.heap.size w0 w'))
 case atStart => exact ⟨(a2), (a3), ac, ac, H', ⟨Nat.le_refl _⟩, ⟨gR HO0⟩, ⟨gP HK⟩, ⟨gB HB⟩⟩
 case round =>
  clear H'; (try clear p2); (try clear c5); (try clear c6); (try clear c6b0); (try clear c6b1); (try clear p6)
  obtain ⟨x10_1, x11_1, rfl, rfl, HA, HK1, HO_0, HK, HB⟩ := hrel
  cases gk with
  | zero => exact absurd HA.out (by simp [slices_symMergeCmpFunc_haircut_Item.l0])
  | succ k1 =>
   have H := HA.out
   clear HA
   simp only [slices_symMergeCmpFunc_haircut_Item.l0] at H
   by_cases c7 : x10_1 < x11_1
   · rw [if_pos c7] at H
     have c7b0 : decide (x10_1 < x11_1) = true := decide_eq_true c7
     clear c7
     obtain ⟨ji8, hji8⟩ : ∃ j_ : Int, (wrap64 ((IntKind.u64.wrap (wrap64 (x10_1 + x11_1))) / 2)) = j_ := ⟨_, rfl⟩
     replace H : (if 0 ≤ (ji8) then (if (ji8) < (l0.length : Int) then (if 0 ≤ a1 then (if a1 < (l0.length : Int) then ((lots_order.f k1 ((rd_T47 l0 (ji8)).f0.f0) ((rd_T47 l0 (ji8)).f0.f1) ((rd_T47 l0 (ji8)).f1.f0) ((rd_T47 l0 (ji8)).f1.f1) ((rd_T47 l0 (ji8)).f1.f2) ((rd_T47 l0 (ji8)).f1.f3) ((rd_T47 l0 (ji8)).f1.f4) ((rd_T47 l0 (ji8)).f2) ((rd_T47 l0 (ji8)).f3) ((rd_T47 l0 a1).f0.f0) ((rd_T47 l0 a1).f0.f1) ((rd_T47 l0 a1).f1.f0) ((rd_T47 l0 a1).f1.f1) ((rd_T47 l0 a1).f1.f2) ((rd_T47 l0 a1).f1.f3) ((rd_T47 l0 a1).f1.f4) ((rd_T47 l0 a1).f2) ((rd_T47 l0 a1).f3)).bind fun t400 => (if t400 < 0 then (slices_symMergeCmpFunc_haircut_Item.l0 k1 l0 a1 (wrap64 ((ji8) + 1)) x11_1) else (slices_symMergeCmpFunc_haircut_Item.l0 k1 l0 a1 x10_1 ji8))) else (none)) else (none)) else (none)) else (none)) = some r := by first | (rw [hji8] at H; exact H) | (simp only [hji8] at H ⊢; exact H)
     have hji8w : (IntKind.i64.wrap ((IntKind.u64.wrap (wrap64 (x10_1 + x11_1))) / 2)) = ji8 := (i64_w _).trans hji8
     by_cases c9 : 0 ≤ (ji8)
     · rw [if_pos c9] at H
       have c9b0 : decide (0 ≤ (ji8)) = true := decide_eq_true c9
       clear c9
       by_cases c10 : (ji8) < (l0.length : Int)
       · rw [if_pos c10] at H
         have c10b0 : decide ((ji8) < (l0.length : Int)) = true := decide_eq_true c10
         clear c10
         by_cases c11 : 0 ≤ a1
         · rw [if_pos c11] at H
           have c11b0 : decide (0 ≤ a1) = true := decide_eq_true c11
           clear c11
           by_cases c12 : a1 < (l0.length : Int)
           · rw [if_pos c12] at H
             have c12b0 : decide (a1 < (l0.length : Int)) = true := decide_eq_true c12
             clear c12
             replace H := Option.bind_eq_some_iff.mp H
             obtain ⟨t400, A130, H⟩ := H
             replace H : (if t400 < 0 then (slices_symMergeCmpFunc_haircut_Item.l0 k1 l0 a1 (wrap64 ((ji8) + 1)) x11_1) else (slices_symMergeCmpFunc_haircut_Item.l0 k1 l0 a1 x10_1 ji8)) = some r := H
             have A13 := Aside0.mk A130; clear A130
             by_cases c14 : t400 < 0
             · rw [if_pos c14] at H
               have c14b0 : decide (t400 < 0) = true := decide_eq_true c14
               clear c14
               have H' := Aside0.mk H
               clear H
               try go_wp2
               have n0_ := Aside0.mk (Kd.R_drew HO_0.out)
               have n1_ := Aside0.mk (Kept.drew HK.out)
               have n2_ := Aside0.mk (below_drew1 HB.out)
               clear HO_0; clear HK; clear HB
               have HO_0 := n0_
               have HK := n1_
               have HB := n2_
               clear n0_ n1_ n2_
               obtain ⟨Ao16, co16, eo16⟩ := Kd.R_slice HO_0.out
               (first | subst eo16 | (injection eo16 with f1_ f2_ f3_; have f4_ := f1_.symm; have f5_ := f3_.symm; clear f1_ f2_ f3_; subst f4_; subst f5_))
               have p398 : 0 ≤ ((ji8) : Int) := od
               have q398 : (ji8) < (l0.length : Int) := od
               obtain ⟨ad398, e398, hx398_0, hx398_1, hx398_2, hx398_3, hx398_4, hx398_5, hx398_6, hx398_7, hx398_8⟩ := at_T47 (Kd.R_reads' HO_0.out).2.2 (ji8) p398 q398
               cases e398; replace p398 := eq_true p398; replace q398 := eq_true q398
               have p399 : 0 ≤ (a1 : Int) := od
               have q399 : a1 < (l0.length : Int) := od
               obtain ⟨ad399, e399, hx399_0, hx399_1, hx399_2, hx399_3, hx399_4, hx399_5, hx399_6, hx399_7, hx399_8⟩ := at_T47 (Kd.R_reads' HO_0.out).2.2 a1 p399 q399
               obtain rfl : ad398 = ad399 := (by injection e399)
               replace p399 := eq_true p399; replace q399 := eq_true q399
               refine start_ (n := 11) (S := fun w' => w'.cell? (ad398.add (((ji8)).toNat * 9)) = some (.string ((rd_T47 l0 (ji8)).f0.f0)) ∧ w'.cell? ⟨(ad398.add (((ji8)).toNat * 9)).block, (ad398.add (((ji8)).toNat * 9)).off + 1, none⟩ = some (.int .i64 ((rd_T47 l0 (ji8)).f0.f1)) ∧ w'.cell? ⟨(ad398.add (((ji8)).toNat * 9)).block, (ad398.add (((ji8)).toNat * 9)).off + 2, none⟩ = some (.string ((rd_T47 l0 (ji8)).f1.f0)) ∧ w'.cell? ⟨(ad398.add (((ji8)).toNat * 9)).block, (ad398.add (((ji8)).toNat * 9)).off + 3, none⟩ = some (.int .i64 ((rd_T47 l0 (ji8)).f1.f1)) ∧ w'.cell? ⟨(ad398.add (((ji8)).toNat * 9)).block, (ad398.add (((ji8)).toNat * 9)).off + 4, none⟩ = some (.int .i64 ((rd_T47 l0 (ji8)).f1.f2)) ∧ w'.cell? ⟨(ad398.add (((ji8)).toNat * 9)).block, (ad398.add (((ji8)).toNat * 9)).off + 5, none⟩ = some (.int .i64 ((rd_T47 l0 (ji8)).f1.f3)) ∧ w'.cell? ⟨(ad398.add (((ji8)).toNat * 9)).block, (ad398.add (((ji8)).toNat * 9)).off + 6, none⟩ = some (.string ((rd_T47 l0 (ji8)).f1.f4)) ∧ w'.cell? ⟨(ad398.add (((ji8)).toNat * 9)).block, (ad398.add (((ji8)).toNat * 9)).off + 7, none⟩ = some (.int .i64 ((rd_T47 l0 (ji8)).f2)) ∧ w'.cell? ⟨(ad398.add (((ji8)).toNat * 9)).block, (ad398.add (((ji8)).toNat * 9)).off + 8, none⟩ = some (.int .i64 ((rd_T47 l0 (ji8)).f3)) ∧ w'.cell? (ad398.add ((a1).toNat * 9)) = some (.string ((rd_T47 l0 a1).f0.f0)) ∧ w'.cell? ⟨(ad398.add ((a1).toNat * 9)).block, (ad398.add ((a1).toNat * 9)).off + 1, none⟩ = some (.int .i64 ((rd_T47 l0 a1).f0.f1)) ∧ w'.cell? ⟨(ad398.add ((a1).toNat * 9)).block, (ad398.add ((a1).toNat * 9)).off + 2, none⟩ = some (.string ((rd_T47 l0 a1).f1.f0)) ∧ w'.cell? ⟨(ad398.add ((a1).toNat * 9)).block, (ad398.add ((a1).toNat * 9)).off + 3, none⟩ = some (.int .i64 ((rd_T47 l0 a1).f1.f1)) ∧ w'.cell? ⟨(ad398.add ((a1).toNat * 9)).block, (ad398.add ((a1).toNat * 9)).off + 4, none⟩ = some (.int .i64 ((rd_T47 l0 a1).f1.f2)) ∧ w'.cell? ⟨(ad398.add ((a1).toNat * 9)).block, (ad398.add ((a1).toNat * 9)).off + 5, none⟩ = some (.int .i64 ((rd_T47 l0 a1).f1.f3)) ∧ w'.cell? ⟨(ad398.add ((a1).toNat * 9)).block, (ad398.add ((a1).toNat * 9)).off + 6, none⟩ = some (.string ((rd_T47 l0 a1).f1.f4)) ∧ w'.cell? ⟨(ad398.add ((a1).toNat * 9)).block, (ad398.add ((a1).toNat * 9)).off + 7, none⟩ = some (.int .i64 ((rd_T47 l0 a1).f2)) ∧ w'.cell? ⟨(ad398.add ((a1).toNat * 9)).block, (ad398.add ((a1).toNat * 9)).off + 8, none⟩ = some (.int .i64 ((rd_T47 l0 a1).f3))) (ds := []) (pf 11 0) (by kernel_rfl) rfl rfl ⟨hx398_0, hx398_1, hx398_2, hx398_3, hx398_4, hx398_5, hx398_6, hx398_7, hx398_8, hx399_0, hx399_1, hx399_2, hx399_3, hx399_4, hx399_5, hx399_6, hx399_7, hx399_8⟩ (fun hHeld => ?_); refine with_tabW slices_symMergeCmpFunc_haircut_Item.tab5 slices_symMergeCmpFunc_haircut_Item.bits5 (fun HT_ HW_ => ?_)
               generalize wr.drew = w15 at HO_0 HK HB hx398_0 hx398_1 hx398_2 hx398_3 hx398_4 hx398_5 hx398_6 hx398_7 hx398_8 hx399_0 hx399_1 hx399_2 hx399_3 hx399_4 hx399_5 hx399_6 hx399_7 hx399_8 hHeld ⊢
               refine pA (i := 0) (N := some 40) HT_ (pf 11 1) ?_
               refine pA (i := 1) (N := some 41) HT_ (pf 11 2) ?_
               refine pA (i := 2) (N := some 42) HT_ (pf 11 3) ?_
               refine pA (i := 3) (N := some 43) HT_ (pf 11 4) ?_
               refine pA (i := 5) (N := some 45) HT_ qx16_0 ?_
               refine pA (i := 6) (N := some 46) HT_ qx16_1 ?_
               refine pA (i := 7) (N := some 47) HT_ qx16_2 ?_
               refine take_ (i := 4) (N := some 44) (v := ?_) (a' := ?_) (pf 11 8) rfl rfl (take_ofW HT_.out HW_.out (by kernel_rfl)) (fun _ _ _ h => h) (Or.inl ⟨by rfl, ?_⟩) hHeld ?_ ?_
               rotate_left
               · rintro w' ⟨s0, s1, s2, s3, s4, s5, s6, s7, s8, s9, s10, s11, s12, s13, s14, s15, s16, s17⟩
                 go_simp
                 with_reducible rfl
               rotate_left
               · simp only [Act.put, sA, sB, sC, i64_w, i32_w]
                 rfl
               refine take_ (i := 8) (N := some 48) (v := ?_) (a' := ?_) (pf 11 9) rfl rfl (take_ofW HT_.out HW_.out (by kernel_rfl)) (fun _ _ _ h => h) (Or.inl ⟨by rfl, ?_⟩) hHeld ?_ ?_
               rotate_left
               · rintro w' ⟨s0, s1, s2, s3, s4, s5, s6, s7, s8, s9, s10, s11, s12, s13, s14, s15, s16, s17⟩
                 go_simp
                 with_reducible rfl
               rotate_left
               · simp only [Act.put, sA, sB, sC, i64_w, i32_w]
                 rfl
               refine one_ (i := 9) (N := some 49) (pf 11 10) rfl rfl (one_of HT_.out (by kernel_rfl)) (by decide) (fun K hK => ?_)
               refine goesV_ (by rfl) Try.func39 (by kernel_rfl) rfl #[.agg #[.string ((rd_T47 l0 (ji8)).f0.f0), .int .i64 ((rd_T47 l0 (ji8)).f0.f1), .string ((rd_T47 l0 (ji8)).f1.f0), .int .i64 ((rd_T47 l0 (ji8)).f1.f1), .int .i64 ((rd_T47 l0 (ji8)).f1.f2), .int .i64 ((rd_T47 l0 (ji8)).f1.f3), .string ((rd_T47 l0 (ji8)).f1.f4), .int .i64 ((rd_T47 l0 (ji8)).f2), .int .i64 ((rd_T47 l0 (ji8)).f3)], .agg #[.string ((rd_T47 l0 a1).f0.f0), .int .i64 ((rd_T47 l0 a1).f0.f1), .string ((rd_T47 l0 a1).f1.f0), .int .i64 ((rd_T47 l0 a1).f1.f1), .int .i64 ((rd_T47 l0 a1).f1.f2), .int .i64 ((rd_T47 l0 a1).f1.f3), .string ((rd_T47 l0 a1).f1.f4), .int .i64 ((rd_T47 l0 a1).f2), .int .i64 ((rd_T47 l0 a1).f3)]] (by rfl) rfl rfl (by (try simp only [List.map_toArray, List.map_cons, List.map_nil]); first | done | (simp only [hji8]; rfl) | rfl | (simp only [List.length_drop, List.length_take]; rfl)) ?_
               with_reducible refine (lots_order.calls k1 ((rd_T47 l0 (ji8)).f0.f0) ((rd_T47 l0 (ji8)).f0.f1) ((rd_T47 l0 (ji8)).f1.f0) ((rd_T47 l0 (ji8)).f1.f1) ((rd_T47 l0 (ji8)).f1.f2) ((rd_T47 l0 (ji8)).f1.f3) ((rd_T47 l0 (ji8)).f1.f4) ((rd_T47 l0 (ji8)).f2) ((rd_T47 l0 (ji8)).f3) ((rd_T47 l0 a1).f0.f0) ((rd_T47 l0 a1).f0.f1) ((rd_T47 l0 a1).f1.f0) ((rd_T47 l0 a1).f1.f1) ((rd_T47 l0 a1).f1.f2) ((rd_T47 l0 a1).f1.f3) ((rd_T47 l0 a1).f1.f4) ((rd_T47 l0 a1).f2) ((rd_T47 l0 a1).f3) t400 _ A13.out).mono ?_
               rintro e w17 ⟨rfl, hb⟩
               have HS0_ := (hb.cell (World.block_lt_of_cell? _ _ (hHeld.1))).trans (hHeld.1)
               have HS1_ := (hb.cell (World.block_lt_of_cell? _ _ (hHeld.2.1))).trans (hHeld.2.1)
               have HS2_ := (hb.cell (World.block_lt_of_cell? _ _ (hHeld.2.2.1))).trans (hHeld.2.2.1)
               have HS3_ := (hb.cell (World.block_lt_of_cell? _ _ (hHeld.2.2.2.1))).trans (hHeld.2.2.2.1)
               have HS4_ := (hb.cell (World.block_lt_of_cell? _ _ (hHeld.2.2.2.2.1))).trans (hHeld.2.2.2.2.1)
               have HS5_ := (hb.cell (World.block_lt_of_cell? _ _ (hHeld.2.2.2.2.2.1))).trans (hHeld.2.2.2.2.2.1)
               have HS6_ := (hb.cell (World.block_lt_of_cell? _ _ (hHeld.2.2.2.2.2.2.1))).trans (hHeld.2.2.2.2.2.2.1)
               have HS7_ := (hb.cell (World.block_lt_of_cell? _ _ (hHeld.2.2.2.2.2.2.2.1))).trans (hHeld.2.2.2.2.2.2.2.1)
               have HS8_ := (hb.cell (World.block_lt_of_cell? _ _ (hHeld.2.2.2.2.2.2.2.2.1))).trans (hHeld.2.2.2.2.2.2.2.2.1)
               have HS9_ := (hb.cell (World.block_lt_of_cell? _ _ (hHeld.2.2.2.2.2.2.2.2.2.1))).trans (hHeld.2.2.2.2.2.2.2.2.2.1)
               have HS10_ := (hb.cell (World.block_lt_of_cell? _ _ (hHeld.2.2.2.2.2.2.2.2.2.2.1))).trans (hHeld.2.2.2.2.2.2.2.2.2.2.1)
               have HS11_ := (hb.cell (World.block_lt_of_cell? _ _ (hHeld.2.2.2.2.2.2.2.2.2.2.2.1))).trans (hHeld.2.2.2.2.2.2.2.2.2.2.2.1)
               have HS12_ := (hb.cell (World.block_lt_of_cell? _ _ (hHeld.2.2.2.2.2.2.2.2.2.2.2.2.1))).trans (hHeld.2.2.2.2.2.2.2.2.2.2.2.2.1)
               have HS13_ := (hb.cell (World.block_lt_of_cell? _ _ (hHeld.2.2.2.2.2.2.2.2.2.2.2.2.2.1))).trans (hHeld.2.2.2.2.2.2.2.2.2.2.2.2.2.1)
               have HS14_ := (hb.cell (World.block_lt_of_cell? _ _ (hHeld.2.2.2.2.2.2.2.2.2.2.2.2.2.2.1))).trans (hHeld.2.2.2.2.2.2.2.2.2.2.2.2.2.2.1)
               have HS15_ := (hb.cell (World.block_lt_of_cell? _ _ (hHeld.2.2.2.2.2.2.2.2.2.2.2.2.2.2.2.1))).trans (hHeld.2.2.2.2.2.2.2.2.2.2.2.2.2.2.2.1)
               have HS16_ := (hb.cell (World.block_lt_of_cell? _ _ (hHeld.2.2.2.2.2.2.2.2.2.2.2.2.2.2.2.2.1))).trans (hHeld.2.2.2.2.2.2.2.2.2.2.2.2.2.2.2.2.1)
               have HS17_ := (hb.cell (World.block_lt_of_cell? _ _ (hHeld.2.2.2.2.2.2.2.2.2.2.2.2.2.2.2.2.2))).trans (hHeld.2.2.2.2.2.2.2.2.2.2.2.2.2.2.2.2.2)
               refine ⟨_, rfl, ?_⟩
               have n0_ := Aside0.mk (Kd.R_below (gR HO_0) hb)
               have n1_ := Aside0.mk (Kept.below (S := (fun k_ => P0_ k_)) (gP HK) hb)
               have n2_ := Aside0.mk (below_step (gB HB) hb)
               clear HO_0; clear HK; clear HB
               have HO_0 := n0_
               have HK := n1_
               have HB := n2_
               clear n0_ n1_ n2_
               try clear hb
               try clear hb2
               try clear hk
               try clear hi
               refine hK.out _ _ ⟨HS0_, HS1_, HS2_, HS3_, HS4_, HS5_, HS6_, HS7_, HS8_, HS9_, HS10_, HS11_, HS12_, HS13_, HS14_, HS15_, HS16_, HS17_⟩ (fun hHeld => ?_)
               clear hK K
               refine norm_ (a' := ?_) ?_ ?_
               rotate_left
               · show Act.put _ (some 49) _ = _
                 simp only [Act.put, sA, sB, sC, i64_w, i32_w]
                 rfl
               refine pA (i := 10) (N := some 50) HT_ (pf 11 11) ?_
               refine done_ (done_of HT_.out (by kernel_rfl)) ?_
               try go_wp2
               go_roundg k1
               case measure => have := HK1.out; omega
               case rel => exact ⟨(wrap64 ((ji8) + 1)), (x11_1), (by first | rfl | (simp; done) | (simp only [← hji8] <;> (first | rfl | simp)) | (simp [*]; done)), ac, H', ⟨by have := HK1.out; omega⟩, ⟨gR HO_0⟩, ⟨gP HK⟩, ⟨gB HB⟩⟩
             · rw [if_neg c14] at H
               have c14b0 : decide (t400 < 0) = false := decide_eq_false c14
               clear c14
               have H' := Aside0.mk H
               clear H
               try go_wp2
               have n0_ := Aside0.mk (Kd.R_drew HO_0.out)
               have n1_ := Aside0.mk (Kept.drew HK.out)
               have n2_ := Aside0.mk (below_drew1 HB.out)
               clear HO_0; clear HK; clear HB
               have HO_0 := n0_
               have HK := n1_
               have HB := n2_
               clear n0_ n1_ n2_
               obtain ⟨Ao19, co19, eo19⟩ := Kd.R_slice HO_0.out
               (first | subst eo19 | (injection eo19 with f1_ f2_ f3_; have f4_ := f1_.symm; have f5_ := f3_.symm; clear f1_ f2_ f3_; subst f4_; subst f5_))
               have p398 : 0 ≤ ((ji8) : Int) := od
               have q398 : (ji8) < (l0.length : Int) := od
               obtain ⟨ad398, e398, hx398_0, hx398_1, hx398_2, hx398_3, hx398_4, hx398_5, hx398_6, hx398_7, hx398_8⟩ := at_T47 (Kd.R_reads' HO_0.out).2.2 (ji8) p398 q398
               cases e398; replace p398 := eq_true p398; replace q398 := eq_true q398
               have p399 : 0 ≤ (a1 : Int) := od
               have q399 : a1 < (l0.length : Int) := od
               obtain ⟨ad399, e399, hx399_0, hx399_1, hx399_2, hx399_3, hx399_4, hx399_5, hx399_6, hx399_7, hx399_8⟩ := at_T47 (Kd.R_reads' HO_0.out).2.2 a1 p399 q399
               obtain rfl : ad398 = ad399 := (by injection e399)
               replace p399 := eq_true p399; replace q399 := eq_true q399
               refine start_ (n := 11) (S := fun w' => w'.cell? (ad398.add (((ji8)).toNat * 9)) = some (.string ((rd_T47 l0 (ji8)).f0.f0)) ∧ w'.cell? ⟨(ad398.add (((ji8)).toNat * 9)).block, (ad398.add (((ji8)).toNat * 9)).off + 1, none⟩ = some (.int .i64 ((rd_T47 l0 (ji8)).f0.f1)) ∧ w'.cell? ⟨(ad398.add (((ji8)).toNat * 9)).block, (ad398.add (((ji8)).toNat * 9)).off + 2, none⟩ = some (.string ((rd_T47 l0 (ji8)).f1.f0)) ∧ w'.cell? ⟨(ad398.add (((ji8)).toNat * 9)).block, (ad398.add (((ji8)).toNat * 9)).off + 3, none⟩ = some (.int .i64 ((rd_T47 l0 (ji8)).f1.f1)) ∧ w'.cell? ⟨(ad398.add (((ji8)).toNat * 9)).block, (ad398.add (((ji8)).toNat * 9)).off + 4, none⟩ = some (.int .i64 ((rd_T47 l0 (ji8)).f1.f2)) ∧ w'.cell? ⟨(ad398.add (((ji8)).toNat * 9)).block, (ad398.add (((ji8)).toNat * 9)).off + 5, none⟩ = some (.int .i64 ((rd_T47 l0 (ji8)).f1.f3)) ∧ w'.cell? ⟨(ad398.add (((ji8)).toNat * 9)).block, (ad398.add (((ji8)).toNat * 9)).off + 6, none⟩ = some (.string ((rd_T47 l0 (ji8)).f1.f4)) ∧ w'.cell? ⟨(ad398.add (((ji8)).toNat * 9)).block, (ad398.add (((ji8)).toNat * 9)).off + 7, none⟩ = some (.int .i64 ((rd_T47 l0 (ji8)).f2)) ∧ w'.cell? ⟨(ad398.add (((ji8)).toNat * 9)).block, (ad398.add (((ji8)).toNat * 9)).off + 8, none⟩ = some (.int .i64 ((rd_T47 l0 (ji8)).f3)) ∧ w'.cell? (ad398.add ((a1).toNat * 9)) = some (.string ((rd_T47 l0 a1).f0.f0)) ∧ w'.cell? ⟨(ad398.add ((a1).toNat * 9)).block, (ad398.add ((a1).toNat * 9)).off + 1, none⟩ = some (.int .i64 ((rd_T47 l0 a1).f0.f1)) ∧ w'.cell? ⟨(ad398.add ((a1).toNat * 9)).block, (ad398.add ((a1).toNat * 9)).off + 2, none⟩ = some (.string ((rd_T47 l0 a1).f1.f0)) ∧ w'.cell? ⟨(ad398.add ((a1).toNat * 9)).block, (ad398.add ((a1).toNat * 9)).off + 3, none⟩ = some (.int .i64 ((rd_T47 l0 a1).f1.f1)) ∧ w'.cell? ⟨(ad398.add ((a1).toNat * 9)).block, (ad398.add ((a1).toNat * 9)).off + 4, none⟩ = some (.int .i64 ((rd_T47 l0 a1).f1.f2)) ∧ w'.cell? ⟨(ad398.add ((a1).toNat * 9)).block, (ad398.add ((a1).toNat * 9)).off + 5, none⟩ = some (.int .i64 ((rd_T47 l0 a1).f1.f3)) ∧ w'.cell? ⟨(ad398.add ((a1).toNat * 9)).block, (ad398.add ((a1).toNat * 9)).off + 6, none⟩ = some (.string ((rd_T47 l0 a1).f1.f4)) ∧ w'.cell? ⟨(ad398.add ((a1).toNat * 9)).block, (ad398.add ((a1).toNat * 9)).off + 7, none⟩ = some (.int .i64 ((rd_T47 l0 a1).f2)) ∧ w'.cell? ⟨(ad398.add ((a1).toNat * 9)).block, (ad398.add ((a1).toNat * 9)).off + 8, none⟩ = some (.int .i64 ((rd_T47 l0 a1).f3))) (ds := []) (pf 11 0) (by kernel_rfl) rfl rfl ⟨hx398_0, hx398_1, hx398_2, hx398_3, hx398_4, hx398_5, hx398_6, hx398_7, hx398_8, hx399_0, hx399_1, hx399_2, hx399_3, hx399_4, hx399_5, hx399_6, hx399_7, hx399_8⟩ (fun hHeld => ?_); refine with_tabW slices_symMergeCmpFunc_haircut_Item.tab5 slices_symMergeCmpFunc_haircut_Item.bits5 (fun HT_ HW_ => ?_)
               generalize wr.drew = w18 at HO_0 HK HB hx398_0 hx398_1 hx398_2 hx398_3 hx398_4 hx398_5 hx398_6 hx398_7 hx398_8 hx399_0 hx399_1 hx399_2 hx399_3 hx399_4 hx399_5 hx399_6 hx399_7 hx399_8 hHeld ⊢
               refine pA (i := 0) (N := some 40) HT_ (pf 11 1) ?_
               refine pA (i := 1) (N := some 41) HT_ (pf 11 2) ?_
               refine pA (i := 2) (N := some 42) HT_ (pf 11 3) ?_
               refine pA (i := 3) (N := some 43) HT_ (pf 11 4) ?_
               refine pA (i := 5) (N := some 45) HT_ qx16_0 ?_
               refine pA (i := 6) (N := some 46) HT_ qx16_1 ?_
               refine pA (i := 7) (N := some 47) HT_ qx16_2 ?_
               refine take_ (i := 4) (N := some 44) (v := ?_) (a' := ?_) (pf 11 8) rfl rfl (take_ofW HT_.out HW_.out (by kernel_rfl)) (fun _ _ _ h => h) (Or.inl ⟨by rfl, ?_⟩) hHeld ?_ ?_
               rotate_left
               · rintro w' ⟨s0, s1, s2, s3, s4, s5, s6, s7, s8, s9, s10, s11, s12, s13, s14, s15, s16, s17⟩
                 go_simp
                 with_reducible rfl
               rotate_left
               · simp only [Act.put, sA, sB, sC, i64_w, i32_w]
                 rfl
               refine take_ (i := 8) (N := some 48) (v := ?_) (a' := ?_) (pf 11 9) rfl rfl (take_ofW HT_.out HW_.out (by kernel_rfl)) (fun _ _ _ h => h) (Or.inl ⟨by rfl, ?_⟩) hHeld ?_ ?_
               rotate_left
               · rintro w' ⟨s0, s1, s2, s3, s4, s5, s6, s7, s8, s9, s10, s11, s12, s13, s14, s15, s16, s17⟩
                 go_simp
                 with_reducible rfl
               rotate_left
               · simp only [Act.put, sA, sB, sC, i64_w, i32_w]
                 rfl
               refine one_ (i := 9) (N := some 49) (pf 11 10) rfl rfl (one_of HT_.out (by kernel_rfl)) (by decide) (fun K hK => ?_)
               refine goesV_ (by rfl) Try.func39 (by kernel_rfl) rfl #[.agg #[.string ((rd_T47 l0 (ji8)).f0.f0), .int .i64 ((rd_T47 l0 (ji8)).f0.f1), .string ((rd_T47 l0 (ji8)).f1.f0), .int .i64 ((rd_T47 l0 (ji8)).f1.f1), .int .i64 ((rd_T47 l0 (ji8)).f1.f2), .int .i64 ((rd_T47 l0 (ji8)).f1.f3), .string ((rd_T47 l0 (ji8)).f1.f4), .int .i64 ((rd_T47 l0 (ji8)).f2), .int .i64 ((rd_T47 l0 (ji8)).f3)], .agg #[.string ((rd_T47 l0 a1).f0.f0), .int .i64 ((rd_T47 l0 a1).f0.f1), .string ((rd_T47 l0 a1).f1.f0), .int .i64 ((rd_T47 l0 a1).f1.f1), .int .i64 ((rd_T47 l0 a1).f1.f2), .int .i64 ((rd_T47 l0 a1).f1.f3), .string ((rd_T47 l0 a1).f1.f4), .int .i64 ((rd_T47 l0 a1).f2), .int .i64 ((rd_T47 l0 a1).f3)]] (by rfl) rfl rfl (by (try simp only [List.map_toArray, List.map_cons, List.map_nil]); first | done | (simp only [hji8]; rfl) | rfl | (simp only [List.length_drop, List.length_take]; rfl)) ?_
               with_reducible refine (lots_order.calls k1 ((rd_T47 l0 (ji8)).f0.f0) ((rd_T47 l0 (ji8)).f0.f1) ((rd_T47 l0 (ji8)).f1.f0) ((rd_T47 l0 (ji8)).f1.f1) ((rd_T47 l0 (ji8)).f1.f2) ((rd_T47 l0 (ji8)).f1.f3) ((rd_T47 l0 (ji8)).f1.f4) ((rd_T47 l0 (ji8)).f2) ((rd_T47 l0 (ji8)).f3) ((rd_T47 l0 a1).f0.f0) ((rd_T47 l0 a1).f0.f1) ((rd_T47 l0 a1).f1.f0) ((rd_T47 l0 a1).f1.f1) ((rd_T47 l0 a1).f1.f2) ((rd_T47 l0 a1).f1.f3) ((rd_T47 l0 a1).f1.f4) ((rd_T47 l0 a1).f2) ((rd_T47 l0 a1).f3) t400 _ A13.out).mono ?_
               rintro e w20 ⟨rfl, hb⟩
               have HS0_ := (hb.cell (World.block_lt_of_cell? _ _ (hHeld.1))).trans (hHeld.1)
               have HS1_ := (hb.cell (World.block_lt_of_cell? _ _ (hHeld.2.1))).trans (hHeld.2.1)
               have HS2_ := (hb.cell (World.block_lt_of_cell? _ _ (hHeld.2.2.1))).trans (hHeld.2.2.1)
               have HS3_ := (hb.cell (World.block_lt_of_cell? _ _ (hHeld.2.2.2.1))).trans (hHeld.2.2.2.1)
               have HS4_ := (hb.cell (World.block_lt_of_cell? _ _ (hHeld.2.2.2.2.1))).trans (hHeld.2.2.2.2.1)
               have HS5_ := (hb.cell (World.block_lt_of_cell? _ _ (hHeld.2.2.2.2.2.1))).trans (hHeld.2.2.2.2.2.1)
               have HS6_ := (hb.cell (World.block_lt_of_cell? _ _ (hHeld.2.2.2.2.2.2.1))).trans (hHeld.2.2.2.2.2.2.1)
               have HS7_ := (hb.cell (World.block_lt_of_cell? _ _ (hHeld.2.2.2.2.2.2.2.1))).trans (hHeld.2.2.2.2.2.2.2.1)
               have HS8_ := (hb.cell (World.block_lt_of_cell? _ _ (hHeld.2.2.2.2.2.2.2.2.1))).trans (hHeld.2.2.2.2.2.2.2.2.1)
               have HS9_ := (hb.cell (World.block_lt_of_cell? _ _ (hHeld.2.2.2.2.2.2.2.2.2.1))).trans (hHeld.2.2.2.2.2.2.2.2.2.1)
               have HS10_ := (hb.cell (World.block_lt_of_cell? _ _ (hHeld.2.2.2.2.2.2.2.2.2.2.1))).trans (hHeld.2.2.2.2.2.2.2.2.2.2.1)
               have HS11_ := (hb.cell (World.block_lt_of_cell? _ _ (hHeld.2.2.2.2.2.2.2.2.2.2.2.1))).trans (hHeld.2.2.2.2.2.2.2.2.2.2.2.1)
               have HS12_ := (hb.cell (World.block_lt_of_cell? _ _ (hHeld.2.2.2.2.2.2.2.2.2.2.2.2.1))).trans (hHeld.2.2.2.2.2.2.2.2.2.2.2.2.1)
               have HS13_ := (hb.cell (World.block_lt_of_cell? _ _ (hHeld.2.2.2.2.2.2.2.2.2.2.2.2.2.1))).trans (hHeld.2.2.2.2.2.2.2.2.2.2.2.2.2.1)
               have HS14_ := (hb.cell (World.block_lt_of_cell? _ _ (hHeld.2.2.2.2.2.2.2.2.2.2.2.2.2.2.1))).trans (hHeld.2.2.2.2.2.2.2.2.2.2.2.2.2.2.1)
               have HS15_ := (hb.cell (World.block_lt_of_cell? _ _ (hHeld.2.2.2.2.2.2.2.2.2.2.2.2.2.2.2.1))).trans (hHeld.2.2.2.2.2.2.2.2.2.2.2.2.2.2.2.1)
               have HS16_ := (hb.cell (World.block_lt_of_cell? _ _ (hHeld.2.2.2.2.2.2.2.2.2.2.2.2.2.2.2.2.1))).trans (hHeld.2.2.2.2.2.2.2.2.2.2.2.2.2.2.2.2.1)
               have HS17_ := (hb.cell (World.block_lt_of_cell? _ _ (hHeld.2.2.2.2.2.2.2.2.2.2.2.2.2.2.2.2.2))).trans (hHeld.2.2.2.2.2.2.2.2.2.2.2.2.2.2.2.2.2)
               refine ⟨_, rfl, ?_⟩
               have n0_ := Aside0.mk (Kd.R_below (gR HO_0) hb)
               have n1_ := Aside0.mk (Kept.below (S := (fun k_ => P0_ k_)) (gP HK) hb)
               have n2_ := Aside0.mk (below_step (gB HB) hb)
               clear HO_0; clear HK; clear HB
               have HO_0 := n0_
               have HK := n1_
               have HB := n2_
               clear n0_ n1_ n2_
               try clear hb
               try clear hb2
               try clear hk
               try clear hi
               refine hK.out _ _ ⟨HS0_, HS1_, HS2_, HS3_, HS4_, HS5_, HS6_, HS7_, HS8_, HS9_, HS10_, HS11_, HS12_, HS13_, HS14_, HS15_, HS16_, HS17_⟩ (fun hHeld => ?_)
               clear hK K
               refine norm_ (a' := ?_) ?_ ?_
               rotate_left
               · show Act.put _ (some 49) _ = _
                 simp only [Act.put, sA, sB, sC, i64_w, i32_w]
                 rfl
               refine pA (i := 10) (N := some 50) HT_ (pf 11 11) ?_
               refine done_ (done_of HT_.out (by kernel_rfl)) ?_
               try go_wp2
               go_roundg k1
               case measure => have := HK1.out; omega
               case rel => exact ⟨(x10_1), (ji8), ac, (by first | rfl | (simp; done) | (simp only [← hji8] <;> (first | rfl | simp)) | (simp [*]; done)), H', ⟨by have := HK1.out; omega⟩, ⟨gR HO_0⟩, ⟨gP HK⟩, ⟨gB HB⟩⟩
           · rw [if_neg c12] at H
             exact absurd H (by simp)
         · rw [if_neg c11] at H
           exact absurd H (by simp)
       · rw [if_neg c10] at H
         exact absurd H (by simp)
     · rw [if_neg c9] at H
       exact absurd H (by simp)
   · rw [if_neg c7] at H
     have c7b0 : decide (x10_1 < x11_1) = false := decide_eq_false c7
     clear c7
     have H' := Aside0.mk H
     clear H
     go_wp2
     go_loopg [13] k1 (fun kq v13 w' => ∃ (x0_2 : List (S47)) (x13_2 : Int), v13 = .int .i64 x13_2 ∧ Aside0 (slices_symMergeCmpFunc_haircut_Item.l1 kq x0_2 x10_1 x13_2 = some r) ∧ Aside0 (kq ≤ k1) ∧ Aside0 (Kd.R k47 47 w' w0.heap.size (fun k_ => (P0_ k_ ∨ w.heap.size ≤ k_)) u9000_ x0_2) ∧ Aside0 (Kept w w' (fun k_ => P0_ k_)) ∧ Aside0 (Below w0.heap.size w0 w'))
     case atStart => exact ⟨(l0), (a1), ac, H', ⟨Nat.le_refl _⟩, ⟨gR HO_0⟩, ⟨gP HK⟩, ⟨gB HB⟩⟩
     case round =>
      clear H'; (try clear c1); (try clear p2); (try clear c3); (try clear p3); (try clear q3); (try clear hx3); (try clear c5); (try clear c6); (try clear c6b0); (try clear c6b1); (try clear p6); (try clear c7); (try clear c7b0); (try clear c9); (try clear c9b0); (try clear c10); (try clear c10b0); (try clear c11); (try clear c11b0); (try clear c12); (try clear c12b0); (try clear c14); (try clear c14b0); (try clear hx398_0); (try clear hx398_1); (try clear hx398_2); (try clear hx398_3); (try clear hx398_4); (try clear hx398_5); (try clear hx398_6); (try clear hx398_7); (try clear hx398_8); (try clear hx399_0); (try clear hx399_1); (try clear hx399_2); (try clear hx399_3); (try clear hx399_4); (try clear hx399_5); (try clear hx399_6); (try clear hx399_7); (try clear hx399_8); (try clear p2); (try clear p398); (try clear p399); (try clear p6); (try clear q398); (try clear q399)
      obtain ⟨x0_2, x13_2, rfl, HA, HK2, HO_0, HK, HB⟩ := hrel
      cases gk with
      | zero => exact absurd HA.out (by simp [slices_symMergeCmpFunc_haircut_Item.l1])
      | succ k2 =>
       have H := HA.out
       clear HA
       simp only [slices_symMergeCmpFunc_haircut_Item.l1] at H
       by_cases c21 : x13_2 < (wrap64 (x10_1 - 1))
       · rw [if_pos c21] at H
         have c21b0 : decide (x13_2 < (wrap64 (x10_1 - 1))) = true := decide_eq_true c21
         clear c21
         obtain ⟨ji22, hji22⟩ : ∃ j_ : Int, (wrap64 (x13_2 + 1)) = j_ := ⟨_, rfl⟩
         replace H : (if 0 ≤ (ji22) then (if (ji22) < (x0_2.length : Int) then (if 0 ≤ x13_2 then (if x13_2 < (x0_2.length : Int) then (slices_symMergeCmpFunc_haircut_Item.l1 k2 ((x0_2.set (x13_2 : Int).toNat (⟨(⟨(rd_T47 x0_2 (ji22)).f0.f0, (rd_T47 x0_2 (ji22)).f0.f1⟩ : S43), (⟨(rd_T47 x0_2 (ji22)).f1.f0, (rd_T47 x0_2 (ji22)).f1.f1, (rd_T47 x0_2 (ji22)).f1.f2, (rd_T47 x0_2 (ji22)).f1.f3, (rd_T47 x0_2 (ji22)).f1.f4⟩ : S45), (rd_T47 x0_2 (ji22)).f2, (rd_T47 x0_2 (ji22)).f3⟩ : S47)).set ((ji22) : Int).toNat (⟨(⟨(rd_T47 x0_2 x13_2).f0.f0, (rd_T47 x0_2 x13_2).f0.f1⟩ : S43), (⟨(rd_T47 x0_2 x13_2).f1.f0, (rd_T47 x0_2 x13_2).f1.f1, (rd_T47 x0_2 x13_2).f1.f2, (rd_T47 x0_2 x13_2).f1.f3, (rd_T47 x0_2 x13_2).f1.f4⟩ : S45), (rd_T47 x0_2 x13_2).f2, (rd_T47 x0_2 x13_2).f3⟩ : S47)) x10_1 ji22) else (none)) else (none)) else (none)) else (none)) = some r := by first | (rw [hji22] at H; exact H) | (simp only [hji22] at H ⊢; exact H)
         have hji22w : (IntKind.i64.wrap (x13_2 + 1)) = ji22 := (i64_w _).trans hji22
         by_cases c23 : 0 ≤ (ji22)
         · rw [if_pos c23] at H
           have c23b0 : decide (0 ≤ (ji22)) = true := decide_eq_true c23
           clear c23
           by_cases c24 : (ji22) < (x0_2.length : Int)
           · rw [if_pos c24] at H
             have c24b0 : decide ((ji22) < (x0_2.length : Int)) = true := decide_eq_true c24
             clear c24
             by_cases c25 : 0 ≤ x13_2
             · rw [if_pos c25] at H
               have c25b0 : decide (0 ≤ x13_2) = true := decide_eq_true c25
               clear c25
               by_cases c26 : x13_2 < (x0_2.length : Int)
               · rw [if_pos c26] at H
                 have c26b0 : decide (x13_2 < (x0_2.length : Int)) = true := decide_eq_true c26
                 clear c26
                 obtain ⟨y403, hy403⟩ : ∃ y_ : List (S47), y_ = (x0_2.set (x13_2 : Int).toNat (⟨(⟨(rd_T47 x0_2 (ji22)).f0.f0, (rd_T47 x0_2 (ji22)).f0.f1⟩ : S43), (⟨(rd_T47 x0_2 (ji22)).f1.f0, (rd_T47 x0_2 (ji22)).f1.f1, (rd_T47 x0_2 (ji22)).f1.f2, (rd_T47 x0_2 (ji22)).f1.f3, (rd_T47 x0_2 (ji22)).f1.f4⟩ : S45), (rd_T47 x0_2 (ji22)).f2, (rd_T47 x0_2 (ji22)).f3⟩ : S47)) := ⟨_, rfl⟩
                 replace H : (slices_symMergeCmpFunc_haircut_Item.l1 k2 (y403.set ((ji22) : Int).toNat (⟨(⟨(rd_T47 x0_2 x13_2).f0.f0, (rd_T47 x0_2 x13_2).f0.f1⟩ : S43), (⟨(rd_T47 x0_2 x13_2).f1.f0, (rd_T47 x0_2 x13_2).f1.f1, (rd_T47 x0_2 x13_2).f1.f2, (rd_T47 x0_2 x13_2).f1.f3, (rd_T47 x0_2 x13_2).f1.f4⟩ : S45), (rd_T47 x0_2 x13_2).f2, (rd_T47 x0_2 x13_2).f3⟩ : S47)) x10_1 ji22) = some r := by first | (rw [hy403]; with_reducible exact H) | (have H2_ := (Option.bind_some _ _).symm.trans H; rw [hy403]; with_reducible exact H2_) | (have H2_ := (Option.bind_some _ _).symm.trans H; with_reducible exact H2_) | with_reducible exact H | (rw [hy403]; exact H) | exact H
                 have Ny403 := Aside0.mk hy403; clear hy403
                 obtain ⟨y404, hy404⟩ : ∃ y_ : List (S47), y_ = (y403.set ((ji22) : Int).toNat (⟨(⟨(rd_T47 x0_2 x13_2).f0.f0, (rd_T47 x0_2 x13_2).f0.f1⟩ : S43), (⟨(rd_T47 x0_2 x13_2).f1.f0, (rd_T47 x0_2 x13_2).f1.f1, (rd_T47 x0_2 x13_2).f1.f2, (rd_T47 x0_2 x13_2).f1.f3, (rd_T47 x0_2 x13_2).f1.f4⟩ : S45), (rd_T47 x0_2 x13_2).f2, (rd_T47 x0_2 x13_2).f3⟩ : S47)) := ⟨_, rfl⟩
                 replace H : (slices_symMergeCmpFunc_haircut_Item.l1 k2 y404 x10_1 ji22) = some r := by first | (rw [hy404]; with_reducible exact H) | (have H2_ := (Option.bind_some _ _).symm.trans H; rw [hy404]; with_reducible exact H2_) | (have H2_ := (Option.bind_some _ _).symm.trans H; with_reducible exact H2_) | with_reducible exact H | (rw [hy404]; exact H) | exact H
                 have Ny404 := Aside0.mk hy404; clear hy404
                 have H' := Aside0.mk H
                 clear H
                 try go_wp2
                 have n0_ := Aside0.mk (Kd.R_drew HO_0.out)
                 have n1_ := Aside0.mk (Kept.drew HK.out)
                 have n2_ := Aside0.mk (below_drew1 HB.out)
                 clear HO_0; clear HK; clear HB
                 have HO_0 := n0_
                 have HK := n1_
                 have HB := n2_
                 clear n0_ n1_ n2_
                 obtain ⟨Ao30, co30, eo30⟩ := Kd.R_slice HO_0.out
                 (first | subst eo30 | (injection eo30 with f1_ f2_ f3_; have f4_ := f1_.symm; have f5_ := f3_.symm; clear f1_ f2_ f3_; subst f4_; subst f5_))
                 have p401 : 0 ≤ ((ji22) : Int) := od
                 have q401 : (ji22) < (x0_2.length : Int) := od
                 obtain ⟨ad401, e401, hx401_0, hx401_1, hx401_2, hx401_3, hx401_4, hx401_5, hx401_6, hx401_7, hx401_8⟩ := at_T47 (Kd.R_reads' HO_0.out).2.2 (ji22) p401 q401
                 cases e401; replace p401 := eq_true p401; replace q401 := eq_true q401
                 have p402 : 0 ≤ (x13_2 : Int) := od
                 have q402 : x13_2 < (x0_2.length : Int) := od
                 obtain ⟨ad402, e402, hx402_0, hx402_1, hx402_2, hx402_3, hx402_4, hx402_5, hx402_6, hx402_7, hx402_8⟩ := at_T47 (Kd.R_reads' HO_0.out).2.2 x13_2 p402 q402
                 obtain rfl : ad401 = ad402 := (by injection e402)
                 replace p402 := eq_true p402; replace q402 := eq_true q402
                 have p27 : 0 ≤ (x13_2 : Int) := od
                 have q27 : (x13_2 : Int) < ((x0_2.length : Int) : Int) := od
                 obtain ⟨go27, co27, eo27, gb27, gl27, cl27, HG27⟩ := Kd.R_form HO_0.out (by omega)
                 (first | cases eo27 | (injection eo27 with ea_ en_ ec_; (first | subst ea_ | (injection ea_ with ea_; subst ea_)); subst ec_; clear en_))
                 have GB27 := Aside0.mk gb27; have GG27 := Aside0.mk HG27; clear gb27 gl27 HG27
                 have HMgo27 := Aside0.mk (show (P0_ go27 ∨ w.heap.size ≤ go27) from (HO_0.out.1 _ rfl))
                 (first | simp only [add_plain] at hx401_0 | skip)
                 (first | simp only [add_plain] at hx401_1 | skip)
                 (first | simp only [add_plain] at hx401_2 | skip)
                 (first | simp only [add_plain] at hx401_3 | skip)
                 (first | simp only [add_plain] at hx401_4 | skip)
                 (first | simp only [add_plain] at hx401_5 | skip)
                 (first | simp only [add_plain] at hx401_6 | skip)
                 (first | simp only [add_plain] at hx401_7 | skip)
                 (first | simp only [add_plain] at hx401_8 | skip)
                 (first | simp only [add_plain] at hx402_0 | skip)
                 (first | simp only [add_plain] at hx402_1 | skip)
                 (first | simp only [add_plain] at hx402_2 | skip)
                 (first | simp only [add_plain] at hx402_3 | skip)
                 (first | simp only [add_plain] at hx402_4 | skip)
                 (first | simp only [add_plain] at hx402_5 | skip)
                 (first | simp only [add_plain] at hx402_6 | skip)
                 (first | simp only [add_plain] at hx402_7 | skip)
                 (first | simp only [add_plain] at hx402_8 | skip)
                 obtain ⟨ce27, hcl27, hM27, hcc27, hfr27⟩ := Kd.R_elem HO_0.out z47 (x13_2 : Int) p27 q27
                 obtain rfl := k47_openM hM27
                 have hx27_0 : World.cell? _ ⟨go27, (x13_2 : Int).toNat * 9, none⟩ = some (.string ((rd_T47 x0_2 x13_2).f0.f0)) := hcc27 0 _ rfl
                 have hx27_1 : World.cell? _ ⟨go27, (x13_2 : Int).toNat * 9 + 1, none⟩ = some (.int .i64 ((rd_T47 x0_2 x13_2).f0.f1)) := hcc27 1 _ rfl
                 have hx27_2 : World.cell? _ ⟨go27, (x13_2 : Int).toNat * 9 + 2, none⟩ = some (.string ((rd_T47 x0_2 x13_2).f1.f0)) := hcc27 2 _ rfl
                 have hx27_3 : World.cell? _ ⟨go27, (x13_2 : Int).toNat * 9 + 3, none⟩ = some (.int .i64 ((rd_T47 x0_2 x13_2).f1.f1)) := hcc27 3 _ rfl
                 have hx27_4 : World.cell? _ ⟨go27, (x13_2 : Int).toNat * 9 + 4, none⟩ = some (.int .i64 ((rd_T47 x0_2 x13_2).f1.f2)) := hcc27 4 _ rfl
                 have hx27_5 : World.cell? _ ⟨go27, (x13_2 : Int).toNat * 9 + 5, none⟩ = some (.int .i64 ((rd_T47 x0_2 x13_2).f1.f3)) := hcc27 5 _ rfl
                 have hx27_6 : World.cell? _ ⟨go27, (x13_2 : Int).toNat * 9 + 6, none⟩ = some (.string ((rd_T47 x0_2 x13_2).f1.f4)) := hcc27 6 _ rfl
                 have hx27_7 : World.cell? _ ⟨go27, (x13_2 : Int).toNat * 9 + 7, none⟩ = some (.int .i64 ((rd_T47 x0_2 x13_2).f2)) := hcc27 7 _ rfl
                 have hx27_8 : World.cell? _ ⟨go27, (x13_2 : Int).toNat * 9 + 8, none⟩ = some (.int .i64 ((rd_T47 x0_2 x13_2).f3)) := hcc27 8 _ rfl
                 have hf27_0 : World.frozen? _ ⟨go27, (x13_2 : Int).toNat * 9, none⟩ = false := hfr27 0
                 have hf27_1 : World.frozen? _ ⟨go27, (x13_2 : Int).toNat * 9 + 1, none⟩ = false := hfr27 1
                 have hf27_2 : World.frozen? _ ⟨go27, (x13_2 : Int).toNat * 9 + 2, none⟩ = false := hfr27 2
                 have hf27_3 : World.frozen? _ ⟨go27, (x13_2 : Int).toNat * 9 + 3, none⟩ = false := hfr27 3
                 have hf27_4 : World.frozen? _ ⟨go27, (x13_2 : Int).toNat * 9 + 4, none⟩ = false := hfr27 4
                 have hf27_5 : World.frozen? _ ⟨go27, (x13_2 : Int).toNat * 9 + 5, none⟩ = false := hfr27 5
                 have hf27_6 : World.frozen? _ ⟨go27, (x13_2 : Int).toNat * 9 + 6, none⟩ = false := hfr27 6
                 have hf27_7 : World.frozen? _ ⟨go27, (x13_2 : Int).toNat * 9 + 7, none⟩ = false := hfr27 7
                 have hf27_8 : World.frozen? _ ⟨go27, (x13_2 : Int).toNat * 9 + 8, none⟩ = false := hfr27 8
                 clear hcl27 hcc27 hfr27 hM27; replace p27 := eq_true p27; replace q27 := eq_true q27
                 obtain ⟨ce31, hcl31, hM31, hcc31, hfr31⟩ := Kd.R_elem HO_0.out z47 (x13_2 : Int) (od) (by have h_ : (x13_2 : Int) < ((x0_2.length : Int) : Int) := od; first | exact h_ | (have e_ := (Kd.R_reads' HO_0.out).1; omega) | simpa using h_)
                 obtain rfl := k47_openM hM31
                 have HP31 := (Kd.R_seg HO_0.out (x13_2 : Int) (od) (by have h_ : (x13_2 : Int) < ((x0_2.length : Int) : Int) := od; first | exact h_ | (have e_ := (Kd.R_reads' HO_0.out).1; omega) | simpa using h_) (seg := [.string ((rd_T47 x0_2 (ji22)).f0.f0), .int .i64 ((rd_T47 x0_2 (ji22)).f0.f1), .string ((rd_T47 x0_2 (ji22)).f1.f0), .int .i64 ((rd_T47 x0_2 (ji22)).f1.f1), .int .i64 ((rd_T47 x0_2 (ji22)).f1.f2), .int .i64 ((rd_T47 x0_2 (ji22)).f1.f3), .string ((rd_T47 x0_2 (ji22)).f1.f4), .int .i64 ((rd_T47 x0_2 (ji22)).f2), .int .i64 ((rd_T47 x0_2 (ji22)).f3)]) (j := 0) hcl31 hcc31 (show 9 ≤ 9 from by decide) (x' := (⟨(⟨(rd_T47 x0_2 (ji22)).f0.f0, (rd_T47 x0_2 (ji22)).f0.f1⟩ : S43), (⟨(rd_T47 x0_2 (ji22)).f1.f0, (rd_T47 x0_2 (ji22)).f1.f1, (rd_T47 x0_2 (ji22)).f1.f2, (rd_T47 x0_2 (ji22)).f1.f3, (rd_T47 x0_2 (ji22)).f1.f4⟩ : S45), (rd_T47 x0_2 (ji22)).f2, (rd_T47 x0_2 (ji22)).f3⟩ : S47)) (k47_mkM _ _ _ (⟨(⟨(rd_T47 x0_2 (ji22)).f0.f0, (rd_T47 x0_2 (ji22)).f0.f1⟩ : S43), (⟨(rd_T47 x0_2 (ji22)).f1.f0, (rd_T47 x0_2 (ji22)).f1.f1, (rd_T47 x0_2 (ji22)).f1.f2, (rd_T47 x0_2 (ji22)).f1.f3, (rd_T47 x0_2 (ji22)).f1.f4⟩ : S45), (rd_T47 x0_2 (ji22)).f2, (rd_T47 x0_2 (ji22)).f3⟩ : S47) ) (fun _ hk => hk)).1
                 rw [← Ny403.out] at HP31
                 have HQ31 := Aside0.mk HP31; clear hcl31 hcc31 hfr31 hM31 HP31
                 have p28 : 0 ≤ ((ji22) : Int) := od
                 have q28 : ((ji22) : Int) < ((x0_2.length : Int) : Int) := od
                 obtain ⟨ce28, hcl28, hM28, hcc28, hfr28⟩ := Kd.R_elem HQ31.out z47 ((ji22) : Int) p28 q28
                 obtain rfl := k47_openM hM28
                 have hx28_0 : World.cell? _ ⟨go27, ((ji22) : Int).toNat * 9, none⟩ = some (.string ((rd_T47 y403 (ji22)).f0.f0)) := hcc28 0 _ rfl
                 have hx28_1 : World.cell? _ ⟨go27, ((ji22) : Int).toNat * 9 + 1, none⟩ = some (.int .i64 ((rd_T47 y403 (ji22)).f0.f1)) := hcc28 1 _ rfl
                 have hx28_2 : World.cell? _ ⟨go27, ((ji22) : Int).toNat * 9 + 2, none⟩ = some (.string ((rd_T47 y403 (ji22)).f1.f0)) := hcc28 2 _ rfl
                 have hx28_3 : World.cell? _ ⟨go27, ((ji22) : Int).toNat * 9 + 3, none⟩ = some (.int .i64 ((rd_T47 y403 (ji22)).f1.f1)) := hcc28 3 _ rfl
                 have hx28_4 : World.cell? _ ⟨go27, ((ji22) : Int).toNat * 9 + 4, none⟩ = some (.int .i64 ((rd_T47 y403 (ji22)).f1.f2)) := hcc28 4 _ rfl
                 have hx28_5 : World.cell? _ ⟨go27, ((ji22) : Int).toNat * 9 + 5, none⟩ = some (.int .i64 ((rd_T47 y403 (ji22)).f1.f3)) := hcc28 5 _ rfl
                 have hx28_6 : World.cell? _ ⟨go27, ((ji22) : Int).toNat * 9 + 6, none⟩ = some (.string ((rd_T47 y403 (ji22)).f1.f4)) := hcc28 6 _ rfl
                 have hx28_7 : World.cell? _ ⟨go27, ((ji22) : Int).toNat * 9 + 7, none⟩ = some (.int .i64 ((rd_T47 y403 (ji22)).f2)) := hcc28 7 _ rfl
                 have hx28_8 : World.cell? _ ⟨go27, ((ji22) : Int).toNat * 9 + 8, none⟩ = some (.int .i64 ((rd_T47 y403 (ji22)).f3)) := hcc28 8 _ rfl
                 have hf28_0 : World.frozen? _ ⟨go27, ((ji22) : Int).toNat * 9, none⟩ = false := hfr28 0
                 have hf28_1 : World.frozen? _ ⟨go27, ((ji22) : Int).toNat * 9 + 1, none⟩ = false := hfr28 1
                 have hf28_2 : World.frozen? _ ⟨go27, ((ji22) : Int).toNat * 9 + 2, none⟩ = false := hfr28 2
                 have hf28_3 : World.frozen? _ ⟨go27, ((ji22) : Int).toNat * 9 + 3, none⟩ = false := hfr28 3
                 have hf28_4 : World.frozen? _ ⟨go27, ((ji22) : Int).toNat * 9 + 4, none⟩ = false := hfr28 4
                 have hf28_5 : World.frozen? _ ⟨go27, ((ji22) : Int).toNat * 9 + 5, none⟩ = false := hfr28 5
                 have hf28_6 : World.frozen? _ ⟨go27, ((ji22) : Int).toNat * 9 + 6, none⟩ = false := hfr28 6
                 have hf28_7 : World.frozen? _ ⟨go27, ((ji22) : Int).toNat * 9 + 7, none⟩ = false := hfr28 7
                 have hf28_8 : World.frozen? _ ⟨go27, ((ji22) : Int).toNat * 9 + 8, none⟩ = false := hfr28 8
                 clear hcl28 hcc28 hfr28 hM28; replace p28 := eq_true p28; replace q28 := eq_true q28
                 obtain ⟨ce32, hcl32, hM32, hcc32, hfr32⟩ := Kd.R_elem HQ31.out z47 ((ji22) : Int) (od) (by have h_ : ((ji22) : Int) < ((x0_2.length : Int) : Int) := od; first | exact h_ | (have e_ := (Kd.R_reads' HO_0.out).1; omega) | simpa using h_)
                 obtain rfl := k47_openM hM32
                 have HP32 := (Kd.R_seg HQ31.out ((ji22) : Int) (od) (by have h_ : ((ji22) : Int) < ((x0_2.length : Int) : Int) := od; first | exact h_ | (have e_ := (Kd.R_reads' HO_0.out).1; omega) | simpa using h_) (seg := [.string ((rd_T47 x0_2 x13_2).f0.f0), .int .i64 ((rd_T47 x0_2 x13_2).f0.f1), .string ((rd_T47 x0_2 x13_2).f1.f0), .int .i64 ((rd_T47 x0_2 x13_2).f1.f1), .int .i64 ((rd_T47 x0_2 x13_2).f1.f2), .int .i64 ((rd_T47 x0_2 x13_2).f1.f3), .string ((rd_T47 x0_2 x13_2).f1.f4), .int .i64 ((rd_T47 x0_2 x13_2).f2), .int .i64 ((rd_T47 x0_2 x13_2).f3)]) (j := 0) hcl32 hcc32 (show 9 ≤ 9 from by decide) (x' := (⟨(⟨(rd_T47 x0_2 x13_2).f0.f0, (rd_T47 x0_2 x13_2).f0.f1⟩ : S43), (⟨(rd_T47 x0_2 x13_2).f1.f0, (rd_T47 x0_2 x13_2).f1.f1, (rd_T47 x0_2 x13_2).f1.f2, (rd_T47 x0_2 x13_2).f1.f3, (rd_T47 x0_2 x13_2).f1.f4⟩ : S45), (rd_T47 x0_2 x13_2).f2, (rd_T47 x0_2 x13_2).f3⟩ : S47)) (k47_mkM _ _ _ (⟨(⟨(rd_T47 x0_2 x13_2).f0.f0, (rd_T47 x0_2 x13_2).f0.f1⟩ : S43), (⟨(rd_T47 x0_2 x13_2).f1.f0, (rd_T47 x0_2 x13_2).f1.f1, (rd_T47 x0_2 x13_2).f1.f2, (rd_T47 x0_2 x13_2).f1.f3, (rd_T47 x0_2 x13_2).f1.f4⟩ : S45), (rd_T47 x0_2 x13_2).f2, (rd_T47 x0_2 x13_2).f3⟩ : S47) ) (fun _ hk => hk)).1
                 rw [← Ny404.out] at HP32
                 have HQ32 := Aside0.mk HP32; clear hcl32 hcc32 hfr32 hM32 HP32
                 refine start_ (n := 18) (S := fun w' => w'.cell? ⟨go27, ((ji22)).toNat * 9, none⟩ = some (.string ((rd_T47 x0_2 (ji22)).f0.f0)) ∧ w'.cell? ⟨go27, ((ji22)).toNat * 9 + 1, none⟩ = some (.int .i64 ((rd_T47 x0_2 (ji22)).f0.f1)) ∧ w'.cell? ⟨go27, ((ji22)).toNat * 9 + 2, none⟩ = some (.string ((rd_T47 x0_2 (ji22)).f1.f0)) ∧ w'.cell? ⟨go27, ((ji22)).toNat * 9 + 3, none⟩ = some (.int .i64 ((rd_T47 x0_2 (ji22)).f1.f1)) ∧ w'.cell? ⟨go27, ((ji22)).toNat * 9 + 4, none⟩ = some (.int .i64 ((rd_T47 x0_2 (ji22)).f1.f2)) ∧ w'.cell? ⟨go27, ((ji22)).toNat * 9 + 5, none⟩ = some (.int .i64 ((rd_T47 x0_2 (ji22)).f1.f3)) ∧ w'.cell? ⟨go27, ((ji22)).toNat * 9 + 6, none⟩ = some (.string ((rd_T47 x0_2 (ji22)).f1.f4)) ∧ w'.cell? ⟨go27, ((ji22)).toNat * 9 + 7, none⟩ = some (.int .i64 ((rd_T47 x0_2 (ji22)).f2)) ∧ w'.cell? ⟨go27, ((ji22)).toNat * 9 + 8, none⟩ = some (.int .i64 ((rd_T47 x0_2 (ji22)).f3)) ∧ w'.cell? ⟨go27, ((x13_2).toNat * 9), none⟩ = some (.string ((rd_T47 x0_2 x13_2).f0.f0)) ∧ w'.cell? ⟨go27, ((x13_2).toNat * 9) + 1, none⟩ = some (.int .i64 ((rd_T47 x0_2 x13_2).f0.f1)) ∧ w'.cell? ⟨go27, ((x13_2).toNat * 9) + 2, none⟩ = some (.string ((rd_T47 x0_2 x13_2).f1.f0)) ∧ w'.cell? ⟨go27, ((x13_2).toNat * 9) + 3, none⟩ = some (.int .i64 ((rd_T47 x0_2 x13_2).f1.f1)) ∧ w'.cell? ⟨go27, ((x13_2).toNat * 9) + 4, none⟩ = some (.int .i64 ((rd_T47 x0_2 x13_2).f1.f2)) ∧ w'.cell? ⟨go27, ((x13_2).toNat * 9) + 5, none⟩ = some (.int .i64 ((rd_T47 x0_2 x13_2).f1.f3)) ∧ w'.cell? ⟨go27, ((x13_2).toNat * 9) + 6, none⟩ = some (.string ((rd_T47 x0_2 x13_2).f1.f4)) ∧ w'.cell? ⟨go27, ((x13_2).toNat * 9) + 7, none⟩ = some (.int .i64 ((rd_T47 x0_2 x13_2).f2)) ∧ w'.cell? ⟨go27, ((x13_2).toNat * 9) + 8, none⟩ = some (.int .i64 ((rd_T47 x0_2 x13_2).f3))) (ds := [15, 17]) (pf 18 0) (by kernel_rfl) rfl rfl ⟨hx401_0, hx401_1, hx401_2, hx401_3, hx401_4, hx401_5, hx401_6, hx401_7, hx401_8, hx402_0, hx402_1, hx402_2, hx402_3, hx402_4, hx402_5, hx402_6, hx402_7, hx402_8⟩ (fun hHeld => ?_); refine with_tabW slices_symMergeCmpFunc_haircut_Item.tab11 slices_symMergeCmpFunc_haircut_Item.bits11 (fun HT_ HW_ => ?_)
                 generalize wr.drew = w29 at HO_0 HK HB GG27 HQ31 HQ32 hf27_0 hf27_1 hf27_2 hf27_3 hf27_4 hf27_5 hf27_6 hf27_7 hf27_8 hf28_0 hf28_1 hf28_2 hf28_3 hf28_4 hf28_5 hf28_6 hf28_7 hf28_8 hx27_0 hx27_1 hx27_2 hx27_3 hx27_4 hx27_5 hx27_6 hx27_7 hx27_8 hx28_0 hx28_1 hx28_2 hx28_3 hx28_4 hx28_5 hx28_6 hx28_7 hx28_8 hx401_0 hx401_1 hx401_2 hx401_3 hx401_4 hx401_5 hx401_6 hx401_7 hx401_8 hx402_0 hx402_1 hx402_2 hx402_3 hx402_4 hx402_5 hx402_6 hx402_7 hx402_8 hHeld ⊢
                 refine pA (i := 0) (N := some 61) HT_ (pf 18 1) ?_
                 refine pA (i := 1) (N := some 62) HT_ (pf 18 2) ?_
                 refine pA (i := 2) (N := some 63) HT_ (pf 18 3) ?_
                 refine pA (i := 3) (N := some 64) HT_ (pf 18 4) ?_
                 refine pA (i := 4) (N := some 65) HT_ (pf 18 5) ?_
                 refine pA (i := 5) (N := some 66) HT_ (pf 18 6) ?_
                 refine pA (i := 6) (N := some 67) HT_ (pf 18 7) ?_
                 refine pA (i := 7) (N := some 68) HT_ (pf 18 8) ?_
                 refine pA (i := 8) (N := some 69) HT_ (pf 18 9) ?_
                 refine pA (i := 10) (N := some 71) HT_ qx16_3 ?_
                 refine pA (i := 11) (N := some 72) HT_ qx16_4 ?_
                 refine pA (i := 12) (N := some 73) HT_ qx16_5 ?_
                 refine take_ (i := 9) (N := some 70) (v := ?_) (a' := ?_) (pf 18 13) rfl rfl (take_ofW HT_.out HW_.out (by kernel_rfl)) (fun _ _ _ h => h) (Or.inl ⟨by rfl, ?_⟩) hHeld ?_ ?_
                 rotate_left
                 · rintro w' ⟨s0, s1, s2, s3, s4, s5, s6, s7, s8, s9, s10, s11, s12, s13, s14, s15, s16, s17⟩
                   go_simp
                   with_reducible rfl
                 rotate_left
                 · simp only [Act.put, sA, sB, sC, i64_w, i32_w]
                   rfl
                 refine take_ (i := 13) (N := some 74) (v := ?_) (a' := ?_) (pf 18 14) rfl rfl (take_ofW HT_.out HW_.out (by kernel_rfl)) (fun _ _ _ h => h) (Or.inl ⟨by rfl, ?_⟩) hHeld ?_ ?_
                 rotate_left
                 · rintro w' ⟨s0, s1, s2, s3, s4, s5, s6, s7, s8, s9, s10, s11, s12, s13, s14, s15, s16, s17⟩
                   go_simp
                   with_reducible rfl
                 rotate_left
                 · simp only [Act.put, sA, sB, sC, i64_w, i32_w]
                   rfl
                 refine pA (i := 14) (N := some 75) HT_ (pf 18 15) ?_
                 refine last_ (i := 15) (N := none) (pf 18 16) rfl rfl (one_of HT_.out (by kernel_rfl)) (by decide) (fun K hK => ?_)
                 refine skip_ (by rfl) rfl (st_skip HO_0 z47 (x13_2 : Int) (od) (by have h_ : (x13_2 : Int) < ((x0_2.length : Int) : Int) := od; first | exact h_ | (have e_ := (Kd.R_reads' HO_0.out).1; omega) | simpa using h_) [.string ((rd_T47 x0_2 (ji22)).f0.f0), .int .i64 ((rd_T47 x0_2 (ji22)).f0.f1), .string ((rd_T47 x0_2 (ji22)).f1.f0), .int .i64 ((rd_T47 x0_2 (ji22)).f1.f1), .int .i64 ((rd_T47 x0_2 (ji22)).f1.f2), .int .i64 ((rd_T47 x0_2 (ji22)).f1.f3), .string ((rd_T47 x0_2 (ji22)).f1.f4), .int .i64 ((rd_T47 x0_2 (ji22)).f2), .int .i64 ((rd_T47 x0_2 (ji22)).f3)] rfl (by rfl) rfl (by go_simp) rfl (by kernel_rfl) (by simp [Value.oneCell'])) ?_
                 refine hK.out _ _ ?_
                 clear hK K
                 generalize hz_ : World.setCells w29 go27 (Int.toNat (x13_2 : Int) * k47.sz + 0) [.string ((rd_T47 x0_2 (ji22)).f0.f0), .int .i64 ((rd_T47 x0_2 (ji22)).f0.f1), .string ((rd_T47 x0_2 (ji22)).f1.f0), .int .i64 ((rd_T47 x0_2 (ji22)).f1.f1), .int .i64 ((rd_T47 x0_2 (ji22)).f1.f2), .int .i64 ((rd_T47 x0_2 (ji22)).f1.f3), .string ((rd_T47 x0_2 (ji22)).f1.f4), .int .i64 ((rd_T47 x0_2 (ji22)).f2), .int .i64 ((rd_T47 x0_2 (ji22)).f3)] = wz_ at HQ31 HQ32 ⊢
                 refine pA (i := 16) (N := some 76) HT_ (pf 18 17) ?_
                 refine last_ (i := 17) (N := none) (pf 18 18) rfl rfl (one_of HT_.out (by kernel_rfl)) (by decide) (fun K hK => ?_)
                 refine skip_ (by rfl) rfl (st_skip HQ31 z47 ((ji22) : Int) (od) (by have h_ : ((ji22) : Int) < ((x0_2.length : Int) : Int) := od; first | exact h_ | (have e_ := (Kd.R_reads' HO_0.out).1; omega) | simpa using h_) [.string ((rd_T47 x0_2 x13_2).f0.f0), .int .i64 ((rd_T47 x0_2 x13_2).f0.f1), .string ((rd_T47 x0_2 x13_2).f1.f0), .int .i64 ((rd_T47 x0_2 x13_2).f1.f1), .int .i64 ((rd_T47 x0_2 x13_2).f1.f2), .int .i64 ((rd_T47 x0_2 x13_2).f1.f3), .string ((rd_T47 x0_2 x13_2).f1.f4), .int .i64 ((rd_T47 x0_2 x13_2).f2), .int .i64 ((rd_T47 x0_2 x13_2).f3)] rfl (by rfl) rfl (by go_simp) rfl (by kernel_rfl) (by simp [Value.oneCell'])) ?_
                 refine hK.out _ _ ?_
                 clear hK K; subst hz_
                 refine done_ (done_of HT_.out (by kernel_rfl)) ?_
                 try go_wp2
                 go_roundg k2
                 case measure => have := HK1.out; have := HK2.out; omega
                 case rel => exact ⟨(y404), (ji22), (by first | rfl | (simp; done) | (simp only [← hji22] <;> (first | rfl | simp)) | (simp [*]; done)), H', ⟨by have := HK1.out; have := HK2.out; omega⟩, ⟨gR HQ32⟩, ⟨gQ HK⟩, ⟨gS HB⟩⟩
               · rw [if_neg c26] at H
                 exact absurd H (by simp)
             · rw [if_neg c25] at H
               exact absurd H (by simp)
           · rw [if_neg c24] at H
             exact absurd H (by simp)
         · rw [if_neg c23] at H
           exact absurd H (by simp)
       · rw [if_neg c21] at H
         have c21b0 : decide (x13_2 < (wrap64 (x10_1 - 1))) = false := decide_eq_false c21
         clear c21
         obtain rfl := Option.some.inj H
         go_wp2
         first | go_end0 | ((try simp only [Exit.inBlock, Exit.then]); refine bodyPost_ret (results_none rfl _ _ _) rfl ?_)
         exact ⟨by first | rfl | (simp [errW_none, errW_some] <;> rfl) | (simp [*, errW_none, errW_some] <;> rfl), gR HO_0, gB HB, gP HK⟩
end Go.Proofs.Ytjjemfbpodgihaa.X
