-- a shortened text: what this claim does not name is left out (wip/xprint/prune.py of this repo)
import Derived.Test.YtlbhjkbjokiioaaXMin
import Derived.Test.YtlbhjkbjokiioaaX0
import Derived.Test.YtlbhjkbjokiioaaX6
import Derived.Test.YtlbhjkbjokiioaaX8
namespace Go.Proofs.Ytlbhjkbjokiioaa.X
open Go.RowKit Go.Proofs.YtlbhjkbjokiioaaW.PrintWords Go.Proofs.YtlbhjkbjokiioaaW.PrintLast Go.Proofs.YtlbhjkbjokiioaaW.PrintMore
attribute [local go_sem] max2_int min2_int max_two min_two max_three min_three max_four min_four
set_option linter.unusedVariables false
set_option linter.unusedSimpArgs false
mutual
def q0q.l0 : Nat → List (S79) → Int → Int → Int → Option ((List (S79)))
 | 0, _, _, _, _ => none
 | k + 1, x0, x1, x10, x11 => if x10 < x11 then (if 0 ≤ (wrap64 ((IntKind.u64.wrap (wrap64 (x10 + x11))) / 2)) then (if (wrap64 ((IntKind.u64.wrap (wrap64 (x10 + x11))) / 2)) < (x0.length : Int) then (if 0 ≤ x1 then (if x1 < (x0.length : Int) then ((q21q.f ((rd_T79 x0 (wrap64 ((IntKind.u64.wrap (wrap64 (x10 + x11))) / 2))).f0) ((rd_T79 x0 (wrap64 ((IntKind.u64.wrap (wrap64 (x10 + x11))) / 2))).f1) ((rd_T79 x0 (wrap64 ((IntKind.u64.wrap (wrap64 (x10 + x11))) / 2))).f2) ((rd_T79 x0 (wrap64 ((IntKind.u64.wrap (wrap64 (x10 + x11))) / 2))).f3) ((rd_T79 x0 x1).f0) ((rd_T79 x0 x1).f1) ((rd_T79 x0 x1).f2) ((rd_T79 x0 x1).f3)).bind fun t238 => (if t238 < 0 then (q0q.l0 k x0 x1 (wrap64 ((wrap64 ((IntKind.u64.wrap (wrap64 (x10 + x11))) / 2)) + 1)) x11) else (q0q.l0 k x0 x1 x10 (wrap64 ((IntKind.u64.wrap (wrap64 (x10 + x11))) / 2))))) else (none)) else (none)) else (none)) else (none)) else (q0q.l1 k x0 x10 x1)
def q0q.l1 : Nat → List (S79) → Int → Int → Option ((List (S79)))
 | 0, _, _, _ => none
 | k + 1, x0, x10, x13 => if x13 < (wrap64 (x10 - 1)) then (if 0 ≤ (wrap64 (x13 + 1)) then (if (wrap64 (x13 + 1)) < (x0.length : Int) then (if 0 ≤ x13 then (if x13 < (x0.length : Int) then (q0q.l1 k ((x0.set (x13 : Int).toNat (⟨(rd_T79 x0 (wrap64 (x13 + 1))).f0, (rd_T79 x0 (wrap64 (x13 + 1))).f1, (rd_T79 x0 (wrap64 (x13 + 1))).f2, (rd_T79 x0 (wrap64 (x13 + 1))).f3⟩ : S79)).set ((wrap64 (x13 + 1)) : Int).toNat (⟨(rd_T79 x0 x13).f0, (rd_T79 x0 x13).f1, (rd_T79 x0 x13).f2, (rd_T79 x0 x13).f3⟩ : S79)) x10 (wrap64 (x13 + 1))) else (none)) else (none)) else (none)) else (none)) else (some x0)
def q0q.l2 : Nat → List (S79) → Int → Int → Int → Option ((List (S79)))
 | 0, _, _, _, _ => none
 | k + 1, x0, x2, x14, x15 => if x14 < x15 then (if 0 ≤ x2 then (if x2 < (x0.length : Int) then (if 0 ≤ (wrap64 ((IntKind.u64.wrap (wrap64 (x14 + x15))) / 2)) then (if (wrap64 ((IntKind.u64.wrap (wrap64 (x14 + x15))) / 2)) < (x0.length : Int) then ((q21q.f ((rd_T79 x0 x2).f0) ((rd_T79 x0 x2).f1) ((rd_T79 x0 x2).f2) ((rd_T79 x0 x2).f3) ((rd_T79 x0 (wrap64 ((IntKind.u64.wrap (wrap64 (x14 + x15))) / 2))).f0) ((rd_T79 x0 (wrap64 ((IntKind.u64.wrap (wrap64 (x14 + x15))) / 2))).f1) ((rd_T79 x0 (wrap64 ((IntKind.u64.wrap (wrap64 (x14 + x15))) / 2))).f2) ((rd_T79 x0 (wrap64 ((IntKind.u64.wrap (wrap64 (x14 + x15))) / 2))).f3)).bind fun t245 => (if t245 < 0 then (q0q.l2 k x0 x2 x14 (wrap64 ((IntKind.u64.wrap (wrap64 (x14 + x15))) / 2))) else (q0q.l2 k x0 x2 (wrap64 ((wrap64 ((IntKind.u64.wrap (wrap64 (x14 + x15))) / 2)) + 1)) x15))) else (none)) else (none)) else (none)) else (none)) else (q0q.l3 k x0 x14 x2)
def q0q.l3 : Nat → List (S79) → Int → Int → Option ((List (S79)))
 | 0, _, _, _ => none
 | k + 1, x0, x14, x17 => if x17 > x14 then (if 0 ≤ (wrap64 (x17 - 1)) then (if (wrap64 (x17 - 1)) < (x0.length : Int) then (if 0 ≤ x17 then (if x17 < (x0.length : Int) then (q0q.l3 k ((x0.set (x17 : Int).toNat (⟨(rd_T79 x0 (wrap64 (x17 - 1))).f0, (rd_T79 x0 (wrap64 (x17 - 1))).f1, (rd_T79 x0 (wrap64 (x17 - 1))).f2, (rd_T79 x0 (wrap64 (x17 - 1))).f3⟩ : S79)).set ((wrap64 (x17 - 1)) : Int).toNat (⟨(rd_T79 x0 x17).f0, (rd_T79 x0 x17).f1, (rd_T79 x0 x17).f2, (rd_T79 x0 x17).f3⟩ : S79)) x14 (wrap64 (x17 - 1))) else (none)) else (none)) else (none)) else (none)) else (some x0)
def q0q.j4 : Nat → List (S79) → Int → Int → Int → Int → Int → Int → Int → Option ((List (S79)))
 | 0, _, _, _, _, _, _, _, _ => none
 | k + 1, x0, x1, x2, x3, x18, x19, x20, x21 => q0q.l4 k x0 x1 x2 x3 x18 x19 x20 x21 (wrap64 (x19 - 1))
def q0q.l4 : Nat → List (S79) → Int → Int → Int → Int → Int → Int → Int → Int → Option ((List (S79)))
 | 0, _, _, _, _, _, _, _, _, _ => none
 | k + 1, x0, x1, x2, x3, x18, x19, x20, x21, x22 => if x20 < x21 then (if 0 ≤ (wrap64 (x22 - (wrap64 ((IntKind.u64.wrap (wrap64 (x20 + x21))) / 2)))) then (if (wrap64 (x22 - (wrap64 ((IntKind.u64.wrap (wrap64 (x20 + x21))) / 2)))) < (x0.length : Int) then (if 0 ≤ (wrap64 ((IntKind.u64.wrap (wrap64 (x20 + x21))) / 2)) then (if (wrap64 ((IntKind.u64.wrap (wrap64 (x20 + x21))) / 2)) < (x0.length : Int) then ((q21q.f ((rd_T79 x0 (wrap64 (x22 - (wrap64 ((IntKind.u64.wrap (wrap64 (x20 + x21))) / 2))))).f0) ((rd_T79 x0 (wrap64 (x22 - (wrap64 ((IntKind.u64.wrap (wrap64 (x20 + x21))) / 2))))).f1) ((rd_T79 x0 (wrap64 (x22 - (wrap64 ((IntKind.u64.wrap (wrap64 (x20 + x21))) / 2))))).f2) ((rd_T79 x0 (wrap64 (x22 - (wrap64 ((IntKind.u64.wrap (wrap64 (x20 + x21))) / 2))))).f3) ((rd_T79 x0 (wrap64 ((IntKind.u64.wrap (wrap64 (x20 + x21))) / 2))).f0) ((rd_T79 x0 (wrap64 ((IntKind.u64.wrap (wrap64 (x20 + x21))) / 2))).f1) ((rd_T79 x0 (wrap64 ((IntKind.u64.wrap (wrap64 (x20 + x21))) / 2))).f2) ((rd_T79 x0 (wrap64 ((IntKind.u64.wrap (wrap64 (x20 + x21))) / 2))).f3)).bind fun t252 => (if t252 < 0 then (q0q.l4 k x0 x1 x2 x3 x18 x19 x20 (wrap64 ((IntKind.u64.wrap (wrap64 (x20 + x21))) / 2)) x22) else (q0q.l4 k x0 x1 x2 x3 x18 x19 (wrap64 ((wrap64 ((IntKind.u64.wrap (wrap64 (x20 + x21))) / 2)) + 1)) x21 x22))) else (none)) else (none)) else (none)) else (none)) else (if x20 < x2 then (q0q.j6 k x0 x1 x2 x3 x18 x20 (wrap64 (x19 - x20)) (decide (x2 < (wrap64 (x19 - x20))))) else (q0q.j6 k x0 x1 x2 x3 x18 x20 (wrap64 (x19 - x20)) false))
def q0q.j6 : Nat → List (S79) → Int → Int → Int → Int → Int → Int → Bool → Option ((List (S79)))
 | 0, _, _, _, _, _, _, _, _ => none
 | k + 1, x0, x1, x2, x3, x18, x20, x24, x185 => if x185 = true then ((q6q.f k x0 x20 x2 x24).bind fun t253 => (q0q.j7 k t253 x1 x3 x18 x20 x24)) else (q0q.j7 k x0 x1 x3 x18 x20 x24)
def q0q.j7 : Nat → List (S79) → Int → Int → Int → Int → Int → Option ((List (S79)))
 | 0, _, _, _, _, _, _ => none
 | k + 1, x0, x1, x3, x18, x20, x24 => if x1 < x20 then (q0q.j8 k x0 x1 x3 x18 x20 x24 (decide (x20 < x18))) else (q0q.j8 k x0 x1 x3 x18 x20 x24 false)
def q0q.j8 : Nat → List (S79) → Int → Int → Int → Int → Int → Bool → Option ((List (S79)))
 | 0, _, _, _, _, _, _, _ => none
 | k + 1, x0, x1, x3, x18, x20, x24, x199 => if x199 = true then ((q0q.f k x0 x1 x20 x18).bind fun t254 => (if x18 < x24 then (if x24 < x3 then ((q0q.f k t254 x18 x24 x3).bind fun t255 => (some t255)) else (some t254)) else (some t254))) else (if x18 < x24 then (if x24 < x3 then ((q0q.f k x0 x18 x24 x3).bind fun t256 => (some t256)) else (some x0)) else (some x0))
def q0q.f : Nat → List (S79) → Int → Int → Int → Option ((List (S79)))
 | 0, _, _, _, _ => none
 | k + 1, l0, a1, a2, a3 => if (wrap64 (a2 - a1)) = 1 then (q0q.l0 k l0 a1 a2 a3) else (if (wrap64 (a3 - a2)) = 1 then (q0q.l2 k l0 a2 a1 a2) else (if a2 > (wrap64 ((IntKind.u64.wrap (wrap64 (a1 + a3))) / 2)) then (q0q.j4 k l0 a1 a2 a3 (wrap64 ((IntKind.u64.wrap (wrap64 (a1 + a3))) / 2)) (wrap64 ((wrap64 ((IntKind.u64.wrap (wrap64 (a1 + a3))) / 2)) + a2)) (wrap64 ((wrap64 ((wrap64 ((IntKind.u64.wrap (wrap64 (a1 + a3))) / 2)) + a2)) - a3)) (wrap64 ((IntKind.u64.wrap (wrap64 (a1 + a3))) / 2))) else (q0q.j4 k l0 a1 a2 a3 (wrap64 ((IntKind.u64.wrap (wrap64 (a1 + a3))) / 2)) (wrap64 ((wrap64 ((IntKind.u64.wrap (wrap64 (a1 + a3))) / 2)) + a2)) a1 a2)))
end
theorem q0q.mono_l : ∀ k, (∀ y0 y1 y2 y3, LeO (q0q.f k y0 y1 y2 y3) (q0q.f (k + 1) y0 y1 y2 y3)) ∧ (∀ y0 y1 y2 y3, LeO (q0q.l0 k y0 y1 y2 y3) (q0q.l0 (k + 1) y0 y1 y2 y3)) ∧ (∀ y0 y1 y2, LeO (q0q.l1 k y0 y1 y2) (q0q.l1 (k + 1) y0 y1 y2)) ∧ (∀ y0 y1 y2 y3, LeO (q0q.l2 k y0 y1 y2 y3) (q0q.l2 (k + 1) y0 y1 y2 y3)) ∧ (∀ y0 y1 y2, LeO (q0q.l3 k y0 y1 y2) (q0q.l3 (k + 1) y0 y1 y2)) ∧ (∀ y0 y1 y2 y3 y4 y5 y6 y7, LeO (q0q.j4 k y0 y1 y2 y3 y4 y5 y6 y7) (q0q.j4 (k + 1) y0 y1 y2 y3 y4 y5 y6 y7)) ∧ (∀ y0 y1 y2 y3 y4 y5 y6 y7 y8, LeO (q0q.l4 k y0 y1 y2 y3 y4 y5 y6 y7 y8) (q0q.l4 (k + 1) y0 y1 y2 y3 y4 y5 y6 y7 y8)) ∧ (∀ y0 y1 y2 y3 y4 y5 y6 y7, LeO (q0q.j6 k y0 y1 y2 y3 y4 y5 y6 y7) (q0q.j6 (k + 1) y0 y1 y2 y3 y4 y5 y6 y7)) ∧ (∀ y0 y1 y2 y3 y4 y5, LeO (q0q.j7 k y0 y1 y2 y3 y4 y5) (q0q.j7 (k + 1) y0 y1 y2 y3 y4 y5)) ∧ (∀ y0 y1 y2 y3 y4 y5 y6, LeO (q0q.j8 k y0 y1 y2 y3 y4 y5 y6) (q0q.j8 (k + 1) y0 y1 y2 y3 y4 y5 y6))
 | 0 => ⟨fun _ _ _ _ r h => by simp [q0q.f] at h, fun _ _ _ _ r h => by simp [q0q.l0] at h, fun _ _ _ r h => by simp [q0q.l1] at h, fun _ _ _ _ r h => by simp [q0q.l2] at h, fun _ _ _ r h => by simp [q0q.l3] at h, fun _ _ _ _ _ _ _ _ r h => by simp [q0q.j4] at h, fun _ _ _ _ _ _ _ _ _ r h => by simp [q0q.l4] at h, fun _ _ _ _ _ _ _ _ r h => by simp [q0q.j6] at h, fun _ _ _ _ _ _ r h => by simp [q0q.j7] at h, fun _ _ _ _ _ _ _ r h => by simp [q0q.j8] at h⟩
 | k + 1 => by
  obtain ⟨ih0, ih1, ih2, ih3, ih4, ih5, ih6, ih7, ih8, ih9⟩ := q0q.mono_l k
  refine ⟨?_, ?_, ?_, ?_, ?_, ?_, ?_, ?_, ?_, ?_⟩
  intro y0 y1 y2 y3; unfold q0q.f; rotate_left
  intro y0 y1 y2 y3; unfold q0q.l0; rotate_left
  intro y0 y1 y2; unfold q0q.l1; rotate_left
  intro y0 y1 y2 y3; unfold q0q.l2; rotate_left
  intro y0 y1 y2; unfold q0q.l3; rotate_left
  intro y0 y1 y2 y3 y4 y5 y6 y7; unfold q0q.j4; rotate_left
  intro y0 y1 y2 y3 y4 y5 y6 y7 y8; unfold q0q.l4; rotate_left
  intro y0 y1 y2 y3 y4 y5 y6 y7; unfold q0q.j6; rotate_left
  intro y0 y1 y2 y3 y4 y5; unfold q0q.j7; rotate_left
  intro y0 y1 y2 y3 y4 y5 y6; unfold q0q.j8; rotate_left
  all_goals repeat' first
  | (with_reducible exact ih0 _ _ _ _)
  | (with_reducible exact ih1 _ _ _ _)
  | (with_reducible exact ih2 _ _ _)
  | (with_reducible exact ih3 _ _ _ _)
  | (with_reducible exact ih4 _ _ _)
  | (with_reducible exact ih5 _ _ _ _ _ _ _ _)
  | (with_reducible exact ih6 _ _ _ _ _ _ _ _ _)
  | (with_reducible exact ih7 _ _ _ _ _ _ _ _)
  | (with_reducible exact ih8 _ _ _ _ _ _)
  | (with_reducible exact ih9 _ _ _ _ _ _ _)
  | (with_reducible exact q6q.mono _ _ _ _ _)
  | (with_reducible exact LeO.refl _)
  | (with_reducible exact LeO.none _)
  | (with_reducible refine LeO.ite ?_ ?_)
  | (with_reducible refine LeO.bind ?_ (fun _ => ?_))
  | exact ih0 _ _ _ _
  | exact ih1 _ _ _ _
  | exact ih2 _ _ _
  | exact ih3 _ _ _ _
  | exact ih4 _ _ _
  | exact ih5 _ _ _ _ _ _ _ _
  | exact ih6 _ _ _ _ _ _ _ _ _
  | exact ih7 _ _ _ _ _ _ _ _
  | exact ih8 _ _ _ _ _ _
  | exact ih9 _ _ _ _ _ _ _
  | exact q6q.mono _ _ _ _ _
  | exact LeO.none _
  | refine LeO.ite ?_ ?_
  | refine LeO.bind ?_ (fun _ => ?_)
theorem q0q.mono : ∀ a0 a1 a2 a3 k, LeO (q0q.f k a0 a1 a2 a3) (q0q.f (k + 1) a0 a1 a2 a3) := by
 intro a0 a1 a2 a3 k
 obtain ⟨ih0, ih1, ih2, ih3, ih4, ih5, ih6, ih7, ih8, ih9⟩ := q0q.mono_l k
 exact ih0 a0 a1 a2 a3
def q0q.T5 : Bool × List (List Nat × List Nat) := (true, [([], []), ([], []), ([], []), ([1, 2], [1, 2]), ([3], [3]), ([], []), ([], []), ([5, 6], [5, 6]), ([7], [7]), ([0, 4, 8], [0, 4, 8]), ([9], [9])])
def q0q.B5 : List Nat := [0, 0, 0, 6, 14, 0, 0, 96, 224, 511, 1023]
theorem q0q.tab5 : rtab .any (opsOf Try.f59 5) = q0q.T5 := by kernel_rfl
theorem q0q.bits5 : waitsOk q0q.T5.2 q0q.B5 = true := by kernel_rfl
def q0q.T11 : Bool × List (List Nat × List Nat) := (true, [([], []), ([], []), ([], []), ([], []), ([3], [3]), ([], []), ([], []), ([6], [6]), ([5, 7], [5, 7]), ([8], [8]), ([], []), ([], []), ([10, 11], [10, 11]), ([12], [12]), ([0, 1, 0, 1, 5, 6, 7, 8, 9, 13], [0, 1]), ([14, 9, 0, 1, 5, 6, 7, 8, 9, 13], [9, 14]), ([2, 4, 0, 1, 2, 3, 4, 5, 6, 7, 8, 9, 10, 11, 12, 13, 14, 15], [2, 4]), ([16, 13, 15, 0, 1, 2, 3, 4, 5, 6, 7, 8, 9, 10, 11, 12, 13, 14, 15], [13, 16])])
def q0q.B11 : List Nat := [0, 0, 0, 0, 8, 0, 0, 64, 224, 480, 0, 0, 3072, 7168, 16355, 32739, 65535, 131071]
theorem q0q.tab11 : rtab .any (opsOf Try.f59 11) = q0q.T11 := by kernel_rfl
theorem q0q.bits11 : waitsOk q0q.T11.2 q0q.B11 = true := by kernel_rfl
def q0q.T17 : Bool × List (List Nat × List Nat) := (true, [([], []), ([], []), ([], []), ([1, 2], [1, 2]), ([3], [3]), ([], []), ([], []), ([5, 6], [5, 6]), ([7], [7]), ([0, 4, 8], [0, 4, 8]), ([9], [9]), ([10], [10])])
def q0q.B17 : List Nat := [0, 0, 0, 6, 14, 0, 0, 96, 224, 511, 1023, 2047]
theorem q0q.tab17 : rtab .any (opsOf Try.f59 17) = q0q.T17 := by kernel_rfl
theorem q0q.bits17 : waitsOk q0q.T17.2 q0q.B17 = true := by kernel_rfl
def q0q.T23 : Bool × List (List Nat × List Nat) := (true, [([], []), ([], []), ([], []), ([], []), ([3], [3]), ([], []), ([], []), ([6], [6]), ([5, 7], [5, 7]), ([8], [8]), ([], []), ([], []), ([10, 11], [10, 11]), ([12], [12]), ([0, 1, 0, 1, 5, 6, 7, 8, 9, 13], [0, 1]), ([14, 9, 0, 1, 5, 6, 7, 8, 9, 13], [9, 14]), ([2, 4, 0, 1, 2, 3, 4, 5, 6, 7, 8, 9, 10, 11, 12, 13, 14, 15], [2, 4]), ([16, 13, 15, 0, 1, 2, 3, 4, 5, 6, 7, 8, 9, 10, 11, 12, 13, 14, 15], [13, 16])])
def q0q.B23 : List Nat := [0, 0, 0, 0, 8, 0, 0, 64, 224, 480, 0, 0, 3072, 7168, 16355, 32739, 65535, 131071]
theorem q0q.tab23 : rtab .any (opsOf Try.f59 23) = q0q.T23 := by kernel_rfl
theorem q0q.bits23 : waitsOk q0q.T23.2 q0q.B23 = true := by kernel_rfl
def q0q.T35 : Bool × List (List Nat × List Nat) := (true, [([], []), ([], []), ([], []), ([], []), ([2, 3], [2, 3]), ([1, 4], [1, 4]), ([5], [5]), ([], []), ([], []), ([7, 8], [7, 8]), ([9], [9]), ([0, 6, 10], [0, 6, 10]), ([11], [11]), ([12], [12])])
def q0q.B35 : List Nat := [0, 0, 0, 0, 12, 30, 62, 0, 0, 384, 896, 2047, 4095, 8191]
theorem q0q.tab35 : rtab .any (opsOf Try.f59 35) = q0q.T35 := by kernel_rfl
theorem q0q.bits35 : waitsOk q0q.T35.2 q0q.B35 = true := by kernel_rfl
abbrev q0q.Con (k : Nat) : Prop := ∀ (P0_ : Nat → Prop) (u9000_ : Value) (l0 : List (S79)) (a1 : Int) (a2 : Int) (a3 : Int) (r : List (S79)) (w0 w : World) (hB : Below w0.heap.size w0 w) (ho0 : Kd.R k79 79 w w0.heap.size P0_ u9000_ l0) (h : q0q.f k l0 a1 a2 a3 = some r),
 Calls Try.prog 59 #[u9000_, .int .i64 a1, .int .i64 a2, .int .i64 a3, .func (.func 33) #[] #[]] w fun e w' => e = .returned (.tuple #[]) ∧ Kd.R k79 79 w' w0.heap.size (fun k_ => (P0_ k_ ∨ w.heap.size ≤ k_)) u9000_ r ∧ Below w0.heap.size w0 w' ∧ Kept w w' (fun k_ => P0_ k_)
set_option maxHeartbeats 8000000 in
set_option maxRecDepth 100000 in
theorem q0q.part0 (k : Nat) (ih : ∀ m, m < k + 1 → q0q.Con m) (P0_ : Nat → Prop) (u9000_ : Value) (l0 : List (S79)) (a1 : Int) (a2 : Int) (a3 : Int) (r : List (S79)) (w0 w : World) (hB : Below w0.heap.size w0 w) (ho0 : Kd.R k79 79 w w0.heap.size P0_ u9000_ l0) (c6 : ((wrap64 (a2 - a1)) = 1)) (H : (q0q.l0 k l0 a1 a2 a3) = some r) : Calls Try.prog 59 #[u9000_, .int .i64 a1, .int .i64 a2, .int .i64 a3, .func (.func 33) #[] #[]] w fun e w' => e = .returned (.tuple #[]) ∧ Kd.R k79 79 w' w0.heap.size (fun k_ => (P0_ k_ ∨ w.heap.size ≤ k_)) u9000_ r ∧ Below w0.heap.size w0 w' ∧ Kept w w' (fun k_ => P0_ k_) := by
 have hu79 := Try.underlying79
 have HO0 := aK (show Kd.R k79 79 w w0.heap.size (fun k_ => (P0_ k_ ∨ w.heap.size ≤ k_)) u9000_ l0 from Kd.R_mono ho0 (fun k_ hk => (.inl hk)))
 have HK := aK (Kept.refl w (fun k_ => P0_ k_))
 have HW0 := Aside0.mk hB.size
 have HB := Aside0.mk hB; clear hB
 have c6b0 : ((wrap64 (a2 - a1)) == 1) = true := beq_iff_eq.mpr c6
 have c6b1 : ((wrap64 (a2 - a1)) != 1) = false := bne_eq_false_iff_eq.mpr c6
 clear c6
 have H' := Aside0.mk H
 clear H
 go_enter Try.func59, Try.ntmps59
 go_wp2
 go_loopg [10, 11] k (fun kq v10 v11 w' => ∃ (x10_1 : Int) (x11_1 : Int), v10 = .int .i64 x10_1 ∧ v11 = .int .i64 x11_1 ∧ Aside0 (q0q.l0 kq l0 a1 x10_1 x11_1 = some r) ∧ Aside0 (kq ≤ k) ∧ Aside0 (Kd.R k79 79 w' w0.heap.size (fun k_ => (P0_ k_ ∨ w.heap.size ≤ k_)) u9000_ l0) ∧ Aside0 (Kept w w' (fun k_ => P0_ k_)) ∧ Aside0 (Below w0.heap.size w0 w'))
 case atStart => exact ⟨(a2), (a3), ac, ac, H', ⟨Nat.le_refl _⟩, ⟨gR HO0⟩, ⟨gP HK⟩, ⟨gB HB⟩⟩
 case round =>
  clear H'; (try clear c6); (try clear c6b0); (try clear c6b1)
  obtain ⟨x10_1, x11_1, rfl, rfl, HA, HK1, HO_0, HK, HB⟩ := hrel
  cases gk with
  | zero => exact absurd HA.out (by simp [q0q.l0])
  | succ k1 =>
   have H := HA.out
   clear HA
   simp only [q0q.l0] at H
   by_cases c7 : x10_1 < x11_1
   · rw [if_pos c7] at H
     have c7b0 := dT c7
     clear c7
     obtain ⟨ji8, hji8⟩ : ∃ j_ : Int, (wrap64 ((IntKind.u64.wrap (wrap64 (x10_1 + x11_1))) / 2)) = j_ := ⟨_, rfl⟩
     replace H : (if 0 ≤ (ji8) then (if (ji8) < (l0.length : Int) then (if 0 ≤ a1 then (if a1 < (l0.length : Int) then ((q21q.f ((rd_T79 l0 (ji8)).f0) ((rd_T79 l0 (ji8)).f1) ((rd_T79 l0 (ji8)).f2) ((rd_T79 l0 (ji8)).f3) ((rd_T79 l0 a1).f0) ((rd_T79 l0 a1).f1) ((rd_T79 l0 a1).f2) ((rd_T79 l0 a1).f3)).bind fun t238 => (if t238 < 0 then (q0q.l0 k1 l0 a1 (wrap64 ((ji8) + 1)) x11_1) else (q0q.l0 k1 l0 a1 x10_1 ji8))) else (none)) else (none)) else (none)) else (none)) = some r := by first | (rw [hji8] at H; exact H) | (simp only [hji8] at H ⊢; exact H)
     have hji8w : (IntKind.i64.wrap ((IntKind.u64.wrap (wrap64 (x10_1 + x11_1))) / 2)) = ji8 := (i64_w _).trans hji8
     by_cases c9 : 0 ≤ (ji8)
     · rw [if_pos c9] at H
       have c9b0 := dT c9
       clear c9
       by_cases c10 : (ji8) < (l0.length : Int)
       · rw [if_pos c10] at H
         have c10b0 := dT c10
         clear c10
         by_cases c11 : 0 ≤ a1
         · rw [if_pos c11] at H
           have c11b0 := dT c11
           clear c11
           by_cases c12 : a1 < (l0.length : Int)
           · rw [if_pos c12] at H
             have c12b0 := dT c12
             clear c12
             replace H := Option.bind_eq_some_iff.mp H
             obtain ⟨t238, A130, H⟩ := H
             replace H : (if t238 < 0 then (q0q.l0 k1 l0 a1 (wrap64 ((ji8) + 1)) x11_1) else (q0q.l0 k1 l0 a1 x10_1 ji8)) = some r := H
             have A13 := Aside0.mk A130; clear A130
             by_cases c14 : t238 < 0
             · rw [if_pos c14] at H
               have c14b0 := dT c14
               clear c14
               have H' := Aside0.mk H
               clear H
               try go_wp2
               have n0_ := aK (Kd.R_drew HO_0.out)
               have n1_ := aK (Kept.drew HK.out)
               have n2_ := aK (below_drew1 HB.out)
               clear HO_0; clear HK; clear HB
               have HO_0 := n0_
               have HK := n1_
               have HB := n2_
               clear n0_ n1_ n2_
               obtain ⟨Ao16, co16, eo16⟩ := Kd.R_slice HO_0.out
               (first | subst eo16 | (injection eo16 with f1_ f2_ f3_; have f4_ := f1_.symm; have f5_ := f3_.symm; clear f1_ f2_ f3_; subst f4_; subst f5_))
               obtain ⟨⟨p236, q236⟩, ad236, rfl, hx236_0, hx236_1, hx236_2, hx236_3⟩ := za (at_T79 (Kd.R_reads' HO_0.out).2.2) (ji8)
               obtain ⟨⟨p237, q237⟩, ad237, e237, hx237_0, hx237_1, hx237_2, hx237_3⟩ := za (at_T79 (Kd.R_reads' HO_0.out).2.2) a1
               obtain rfl : ad236 = ad237 := (by injection e237)
               refine start_ (n := 11) (S := fun w' => w'.cell? (ad236.add (((ji8)).toNat * 4)) = some (.int .i64 ((rd_T79 l0 (ji8)).f0)) ∧ w'.cell? ⟨(ad236.add (((ji8)).toNat * 4)).block, (ad236.add (((ji8)).toNat * 4)).off + 1, none⟩ = some (.string ((rd_T79 l0 (ji8)).f1)) ∧ w'.cell? ⟨(ad236.add (((ji8)).toNat * 4)).block, (ad236.add (((ji8)).toNat * 4)).off + 2, none⟩ = some (.int .i64 ((rd_T79 l0 (ji8)).f2)) ∧ w'.cell? ⟨(ad236.add (((ji8)).toNat * 4)).block, (ad236.add (((ji8)).toNat * 4)).off + 3, none⟩ = some (.int .i64 ((rd_T79 l0 (ji8)).f3)) ∧ w'.cell? (ad236.add ((a1).toNat * 4)) = some (.int .i64 ((rd_T79 l0 a1).f0)) ∧ w'.cell? ⟨(ad236.add ((a1).toNat * 4)).block, (ad236.add ((a1).toNat * 4)).off + 1, none⟩ = some (.string ((rd_T79 l0 a1).f1)) ∧ w'.cell? ⟨(ad236.add ((a1).toNat * 4)).block, (ad236.add ((a1).toNat * 4)).off + 2, none⟩ = some (.int .i64 ((rd_T79 l0 a1).f2)) ∧ w'.cell? ⟨(ad236.add ((a1).toNat * 4)).block, (ad236.add ((a1).toNat * 4)).off + 3, none⟩ = some (.int .i64 ((rd_T79 l0 a1).f3))) (ds := []) (pf 11 0) (by kernel_rfl) rfl rfl ⟨hx236_0, hx236_1, hx236_2, hx236_3, hx237_0, hx237_1, hx237_2, hx237_3⟩ (fun hHeld => ?_); refine with_tabW q0q.tab5 q0q.bits5 (fun HT_ HW_ => ?_)
               generalize wr.drew = w15 at HO_0 HK HB hx236_0 hx236_1 hx236_2 hx236_3 hx237_0 hx237_1 hx237_2 hx237_3 hHeld ⊢
               refine pA (i := 0) (N := some 40) HT_ (pf 11 1) ?_
               refine pA (i := 1) (N := some 41) HT_ (pf 11 2) ?_
               refine pA (i := 2) (N := some 42) HT_ (pf 11 3) ?_
               refine pA (i := 3) (N := some 43) HT_ (pf 11 4) ?_
               refine pA (i := 5) (N := some 45) HT_ (ba 11 47) ?_
               refine pA (i := 6) (N := some 46) HT_ (ba 11 111) ?_
               refine pA (i := 7) (N := some 47) HT_ (ba 11 239) ?_
               refine take_ (i := 4) (N := some 44) (v := ?_) (a' := ?_) (pf 11 8) rfl rfl (take_ofW HT_.out HW_.out (by kernel_rfl)) (fun _ _ _ h => h) (Or.inl ⟨by rfl, ?_⟩) hHeld ?_ ?_
               rotate_left
               · rintro w' ⟨s0, s1, s2, s3, s4, s5, s6, s7⟩
                 go_simp
                 with_reducible rfl
               rotate_left
               · simp only [Act.put, sA, sB, sC, i64_w, i32_w]
                 rfl
               refine take_ (i := 8) (N := some 48) (v := ?_) (a' := ?_) (pf 11 9) rfl rfl (take_ofW HT_.out HW_.out (by kernel_rfl)) (fun _ _ _ h => h) (Or.inl ⟨by rfl, ?_⟩) hHeld ?_ ?_
               rotate_left
               · rintro w' ⟨s0, s1, s2, s3, s4, s5, s6, s7⟩
                 go_simp
                 with_reducible rfl
               rotate_left
               · simp only [Act.put, sA, sB, sC, i64_w, i32_w]
                 rfl
               refine one_ (i := 9) (N := some 49) (pf 11 10) rfl rfl (one_of HT_.out (by kernel_rfl)) (by decide) (fun K hK => ?_)
               refine goesV_ (by rfl) Try.func33 (by kernel_rfl) rfl #[.agg #[.int .i64 ((rd_T79 l0 (ji8)).f0), .string ((rd_T79 l0 (ji8)).f1), .int .i64 ((rd_T79 l0 (ji8)).f2), .int .i64 ((rd_T79 l0 (ji8)).f3)], .agg #[.int .i64 ((rd_T79 l0 a1).f0), .string ((rd_T79 l0 a1).f1), .int .i64 ((rd_T79 l0 a1).f2), .int .i64 ((rd_T79 l0 a1).f3)]] (by rfl) rfl rfl (by (try simp only [List.map_toArray, List.map_cons, List.map_nil]); first | done | (simp only [hji8]; rfl) | rfl | (simp only [List.length_drop, List.length_take]; rfl)) ?_
               with_reducible refine (q21q.calls ((rd_T79 l0 (ji8)).f0) ((rd_T79 l0 (ji8)).f1) ((rd_T79 l0 (ji8)).f2) ((rd_T79 l0 (ji8)).f3) ((rd_T79 l0 a1).f0) ((rd_T79 l0 a1).f1) ((rd_T79 l0 a1).f2) ((rd_T79 l0 a1).f3) t238 _ A13.out).mono ?_
               rintro e w17 ⟨rfl, hb⟩
               have HS0_ := (hb.cell (World.block_lt_of_cell? _ _ (hHeld.1))).trans (hHeld.1)
               have HS1_ := (hb.cell (World.block_lt_of_cell? _ _ (hHeld.2.1))).trans (hHeld.2.1)
               have HS2_ := (hb.cell (World.block_lt_of_cell? _ _ (hHeld.2.2.1))).trans (hHeld.2.2.1)
               have HS3_ := (hb.cell (World.block_lt_of_cell? _ _ (hHeld.2.2.2.1))).trans (hHeld.2.2.2.1)
               have HS4_ := (hb.cell (World.block_lt_of_cell? _ _ (hHeld.2.2.2.2.1))).trans (hHeld.2.2.2.2.1)
               have HS5_ := (hb.cell (World.block_lt_of_cell? _ _ (hHeld.2.2.2.2.2.1))).trans (hHeld.2.2.2.2.2.1)
               have HS6_ := (hb.cell (World.block_lt_of_cell? _ _ (hHeld.2.2.2.2.2.2.1))).trans (hHeld.2.2.2.2.2.2.1)
               have HS7_ := (hb.cell (World.block_lt_of_cell? _ _ (hHeld.2.2.2.2.2.2.2))).trans (hHeld.2.2.2.2.2.2.2)
               refine ⟨_, rfl, ?_⟩
               have n0_ := aK (Kd.R_below (gR HO_0) hb)
               have n1_ := aK (Kept.below (S := (fun k_ => P0_ k_)) (gP HK) hb)
               have n2_ := aK (below_step (gB HB) hb)
               clear HO_0; clear HK; clear HB
               have HO_0 := n0_
               have HK := n1_
               have HB := n2_
               clear n0_ n1_ n2_
               try clear hb
               try clear hb2
               try clear hk
               try clear hi
               refine hK.out _ _ ⟨HS0_, HS1_, HS2_, HS3_, HS4_, HS5_, HS6_, HS7_⟩ (fun hHeld => ?_)
               clear hK K
               refine norm_ (a' := ?_) ?_ ?_
               rotate_left
               · show Act.put _ (some 49) _ = _
                 simp only [Act.put, sA, sB, sC, i64_w, i32_w]
                 rfl
               refine pA (i := 10) (N := some 50) HT_ (pf 11 11) ?_
               refine done_ (done_of HT_.out (by kernel_rfl)) ?_
               try go_wp2
               go_roundg k1
               case measure => have := HK1.out; omega
               case rel => exact ⟨(wrap64 ((ji8) + 1)), (x11_1), (by first | rfl | (simp; done) | (simp only [← hji8] <;> (first | rfl | simp)) | (simp [*]; done)), ac, H', ⟨by have := HK1.out; omega⟩, ⟨gR HO_0⟩, ⟨gP HK⟩, ⟨gB HB⟩⟩
             · rw [if_neg c14] at H
               have c14b0 := dF c14
               clear c14
               have H' := Aside0.mk H
               clear H
               try go_wp2
               have n0_ := aK (Kd.R_drew HO_0.out)
               have n1_ := aK (Kept.drew HK.out)
               have n2_ := aK (below_drew1 HB.out)
               clear HO_0; clear HK; clear HB
               have HO_0 := n0_
               have HK := n1_
               have HB := n2_
               clear n0_ n1_ n2_
               obtain ⟨Ao19, co19, eo19⟩ := Kd.R_slice HO_0.out
               (first | subst eo19 | (injection eo19 with f1_ f2_ f3_; have f4_ := f1_.symm; have f5_ := f3_.symm; clear f1_ f2_ f3_; subst f4_; subst f5_))
               obtain ⟨⟨p236, q236⟩, ad236, rfl, hx236_0, hx236_1, hx236_2, hx236_3⟩ := za (at_T79 (Kd.R_reads' HO_0.out).2.2) (ji8)
               obtain ⟨⟨p237, q237⟩, ad237, e237, hx237_0, hx237_1, hx237_2, hx237_3⟩ := za (at_T79 (Kd.R_reads' HO_0.out).2.2) a1
               obtain rfl : ad236 = ad237 := (by injection e237)
               refine start_ (n := 11) (S := fun w' => w'.cell? (ad236.add (((ji8)).toNat * 4)) = some (.int .i64 ((rd_T79 l0 (ji8)).f0)) ∧ w'.cell? ⟨(ad236.add (((ji8)).toNat * 4)).block, (ad236.add (((ji8)).toNat * 4)).off + 1, none⟩ = some (.string ((rd_T79 l0 (ji8)).f1)) ∧ w'.cell? ⟨(ad236.add (((ji8)).toNat * 4)).block, (ad236.add (((ji8)).toNat * 4)).off + 2, none⟩ = some (.int .i64 ((rd_T79 l0 (ji8)).f2)) ∧ w'.cell? ⟨(ad236.add (((ji8)).toNat * 4)).block, (ad236.add (((ji8)).toNat * 4)).off + 3, none⟩ = some (.int .i64 ((rd_T79 l0 (ji8)).f3)) ∧ w'.cell? (ad236.add ((a1).toNat * 4)) = some (.int .i64 ((rd_T79 l0 a1).f0)) ∧ w'.cell? ⟨(ad236.add ((a1).toNat * 4)).block, (ad236.add ((a1).toNat * 4)).off + 1, none⟩ = some (.string ((rd_T79 l0 a1).f1)) ∧ w'.cell? ⟨(ad236.add ((a1).toNat * 4)).block, (ad236.add ((a1).toNat * 4)).off + 2, none⟩ = some (.int .i64 ((rd_T79 l0 a1).f2)) ∧ w'.cell? ⟨(ad236.add ((a1).toNat * 4)).block, (ad236.add ((a1).toNat * 4)).off + 3, none⟩ = some (.int .i64 ((rd_T79 l0 a1).f3))) (ds := []) (pf 11 0) (by kernel_rfl) rfl rfl ⟨hx236_0, hx236_1, hx236_2, hx236_3, hx237_0, hx237_1, hx237_2, hx237_3⟩ (fun hHeld => ?_); refine with_tabW q0q.tab5 q0q.bits5 (fun HT_ HW_ => ?_)
               generalize wr.drew = w18 at HO_0 HK HB hx236_0 hx236_1 hx236_2 hx236_3 hx237_0 hx237_1 hx237_2 hx237_3 hHeld ⊢
               refine pA (i := 0) (N := some 40) HT_ (pf 11 1) ?_
               refine pA (i := 1) (N := some 41) HT_ (pf 11 2) ?_
               refine pA (i := 2) (N := some 42) HT_ (pf 11 3) ?_
               refine pA (i := 3) (N := some 43) HT_ (pf 11 4) ?_
               refine pA (i := 5) (N := some 45) HT_ (ba 11 47) ?_
               refine pA (i := 6) (N := some 46) HT_ (ba 11 111) ?_
               refine pA (i := 7) (N := some 47) HT_ (ba 11 239) ?_
               refine take_ (i := 4) (N := some 44) (v := ?_) (a' := ?_) (pf 11 8) rfl rfl (take_ofW HT_.out HW_.out (by kernel_rfl)) (fun _ _ _ h => h) (Or.inl ⟨by rfl, ?_⟩) hHeld ?_ ?_
               rotate_left
               · rintro w' ⟨s0, s1, s2, s3, s4, s5, s6, s7⟩
                 go_simp
                 with_reducible rfl
               rotate_left
               · simp only [Act.put, sA, sB, sC, i64_w, i32_w]
                 rfl
               refine take_ (i := 8) (N := some 48) (v := ?_) (a' := ?_) (pf 11 9) rfl rfl (take_ofW HT_.out HW_.out (by kernel_rfl)) (fun _ _ _ h => h) (Or.inl ⟨by rfl, ?_⟩) hHeld ?_ ?_
               rotate_left
               · rintro w' ⟨s0, s1, s2, s3, s4, s5, s6, s7⟩
                 go_simp
                 with_reducible rfl
               rotate_left
               · simp only [Act.put, sA, sB, sC, i64_w, i32_w]
                 rfl
               refine one_ (i := 9) (N := some 49) (pf 11 10) rfl rfl (one_of HT_.out (by kernel_rfl)) (by decide) (fun K hK => ?_)
               refine goesV_ (by rfl) Try.func33 (by kernel_rfl) rfl #[.agg #[.int .i64 ((rd_T79 l0 (ji8)).f0), .string ((rd_T79 l0 (ji8)).f1), .int .i64 ((rd_T79 l0 (ji8)).f2), .int .i64 ((rd_T79 l0 (ji8)).f3)], .agg #[.int .i64 ((rd_T79 l0 a1).f0), .string ((rd_T79 l0 a1).f1), .int .i64 ((rd_T79 l0 a1).f2), .int .i64 ((rd_T79 l0 a1).f3)]] (by rfl) rfl rfl (by (try simp only [List.map_toArray, List.map_cons, List.map_nil]); first | done | (simp only [hji8]; rfl) | rfl | (simp only [List.length_drop, List.length_take]; rfl)) ?_
               with_reducible refine (q21q.calls ((rd_T79 l0 (ji8)).f0) ((rd_T79 l0 (ji8)).f1) ((rd_T79 l0 (ji8)).f2) ((rd_T79 l0 (ji8)).f3) ((rd_T79 l0 a1).f0) ((rd_T79 l0 a1).f1) ((rd_T79 l0 a1).f2) ((rd_T79 l0 a1).f3) t238 _ A13.out).mono ?_
               rintro e w20 ⟨rfl, hb⟩
               have HS0_ := (hb.cell (World.block_lt_of_cell? _ _ (hHeld.1))).trans (hHeld.1)
               have HS1_ := (hb.cell (World.block_lt_of_cell? _ _ (hHeld.2.1))).trans (hHeld.2.1)
               have HS2_ := (hb.cell (World.block_lt_of_cell? _ _ (hHeld.2.2.1))).trans (hHeld.2.2.1)
               have HS3_ := (hb.cell (World.block_lt_of_cell? _ _ (hHeld.2.2.2.1))).trans (hHeld.2.2.2.1)
               have HS4_ := (hb.cell (World.block_lt_of_cell? _ _ (hHeld.2.2.2.2.1))).trans (hHeld.2.2.2.2.1)
               have HS5_ := (hb.cell (World.block_lt_of_cell? _ _ (hHeld.2.2.2.2.2.1))).trans (hHeld.2.2.2.2.2.1)
               have HS6_ := (hb.cell (World.block_lt_of_cell? _ _ (hHeld.2.2.2.2.2.2.1))).trans (hHeld.2.2.2.2.2.2.1)
               have HS7_ := (hb.cell (World.block_lt_of_cell? _ _ (hHeld.2.2.2.2.2.2.2))).trans (hHeld.2.2.2.2.2.2.2)
               refine ⟨_, rfl, ?_⟩
               have n0_ := aK (Kd.R_below (gR HO_0) hb)
               have n1_ := aK (Kept.below (S := (fun k_ => P0_ k_)) (gP HK) hb)
               have n2_ := aK (below_step (gB HB) hb)
               clear HO_0; clear HK; clear HB
               have HO_0 := n0_
               have HK := n1_
               have HB := n2_
               clear n0_ n1_ n2_
               try clear hb
               try clear hb2
               try clear hk
               try clear hi
               refine hK.out _ _ ⟨HS0_, HS1_, HS2_, HS3_, HS4_, HS5_, HS6_, HS7_⟩ (fun hHeld => ?_)
               clear hK K
               refine norm_ (a' := ?_) ?_ ?_
               rotate_left
               · show Act.put _ (some 49) _ = _
                 simp only [Act.put, sA, sB, sC, i64_w, i32_w]
                 rfl
               refine pA (i := 10) (N := some 50) HT_ (pf 11 11) ?_
               refine done_ (done_of HT_.out (by kernel_rfl)) ?_
               try go_wp2
               go_roundg k1
               case measure => have := HK1.out; omega
               case rel => exact ⟨(x10_1), (ji8), ac, (by first | rfl | (simp; done) | (simp only [← hji8] <;> (first | rfl | simp)) | (simp [*]; done)), H', ⟨by have := HK1.out; omega⟩, ⟨gR HO_0⟩, ⟨gP HK⟩, ⟨gB HB⟩⟩
           · rw [if_neg c12] at H
             exact absurd H (by simp)
         · rw [if_neg c11] at H
           exact absurd H (by simp)
       · rw [if_neg c10] at H
         exact absurd H (by simp)
     · rw [if_neg c9] at H
       exact absurd H (by simp)
   · rw [if_neg c7] at H
     have c7b0 := dF c7
     clear c7
     have H' := Aside0.mk H
     clear H
     go_wp2
     go_loopg [13] k1 (fun kq v13 w' => ∃ (x0_2 : List (S79)) (x13_2 : Int), v13 = .int .i64 x13_2 ∧ Aside0 (q0q.l1 kq x0_2 x10_1 x13_2 = some r) ∧ Aside0 (kq ≤ k1) ∧ Aside0 (Kd.R k79 79 w' w0.heap.size (fun k_ => (P0_ k_ ∨ w.heap.size ≤ k_)) u9000_ x0_2) ∧ Aside0 (Kept w w' (fun k_ => P0_ k_)) ∧ Aside0 (Below w0.heap.size w0 w'))
     case atStart => exact ⟨(l0), (a1), ac, H', ⟨Nat.le_refl _⟩, ⟨gR HO_0⟩, ⟨gP HK⟩, ⟨gB HB⟩⟩
     case round =>
      clear H'; (try clear c6); (try clear c6b0); (try clear c6b1); (try clear c7); (try clear c7b0)
      obtain ⟨x0_2, x13_2, rfl, HA, HK2, HO_0, HK, HB⟩ := hrel
      cases gk with
      | zero => exact absurd HA.out (by simp [q0q.l1])
      | succ k2 =>
       have H := HA.out
       clear HA
       simp only [q0q.l1] at H
       by_cases c21 : x13_2 < (wrap64 (x10_1 - 1))
       · rw [if_pos c21] at H
         have c21b0 := dT c21
         clear c21
         obtain ⟨ji22, hji22⟩ : ∃ j_ : Int, (wrap64 (x13_2 + 1)) = j_ := ⟨_, rfl⟩
         replace H : (if 0 ≤ (ji22) then (if (ji22) < (x0_2.length : Int) then (if 0 ≤ x13_2 then (if x13_2 < (x0_2.length : Int) then (q0q.l1 k2 ((x0_2.set (x13_2 : Int).toNat (⟨(rd_T79 x0_2 (ji22)).f0, (rd_T79 x0_2 (ji22)).f1, (rd_T79 x0_2 (ji22)).f2, (rd_T79 x0_2 (ji22)).f3⟩ : S79)).set ((ji22) : Int).toNat (⟨(rd_T79 x0_2 x13_2).f0, (rd_T79 x0_2 x13_2).f1, (rd_T79 x0_2 x13_2).f2, (rd_T79 x0_2 x13_2).f3⟩ : S79)) x10_1 ji22) else (none)) else (none)) else (none)) else (none)) = some r := by first | (rw [hji22] at H; exact H) | (simp only [hji22] at H ⊢; exact H)
         have hji22w : (IntKind.i64.wrap (x13_2 + 1)) = ji22 := (i64_w _).trans hji22
         by_cases c23 : 0 ≤ (ji22)
         · rw [if_pos c23] at H
           have c23b0 := dT c23
           clear c23
           by_cases c24 : (ji22) < (x0_2.length : Int)
           · rw [if_pos c24] at H
             have c24b0 := dT c24
             clear c24
             by_cases c25 : 0 ≤ x13_2
             · rw [if_pos c25] at H
               have c25b0 := dT c25
               clear c25
               by_cases c26 : x13_2 < (x0_2.length : Int)
               · rw [if_pos c26] at H
                 have c26b0 := dT c26
                 clear c26
                 obtain ⟨y241, hy_⟩ : ∃ y_ : List (S79), y_ = (x0_2.set (x13_2 : Int).toNat (⟨(rd_T79 x0_2 (ji22)).f0, (rd_T79 x0_2 (ji22)).f1, (rd_T79 x0_2 (ji22)).f2, (rd_T79 x0_2 (ji22)).f3⟩ : S79)) := ⟨_, rfl⟩
                 replace H : (q0q.l1 k2 (y241.set ((ji22) : Int).toNat (⟨(rd_T79 x0_2 x13_2).f0, (rd_T79 x0_2 x13_2).f1, (rd_T79 x0_2 x13_2).f2, (rd_T79 x0_2 x13_2).f3⟩ : S79)) x10_1 ji22) = some r := h2
                 have Ny241 := Aside0.mk hy_; clear hy_
                 obtain ⟨y242, hy_⟩ : ∃ y_ : List (S79), y_ = (y241.set ((ji22) : Int).toNat (⟨(rd_T79 x0_2 x13_2).f0, (rd_T79 x0_2 x13_2).f1, (rd_T79 x0_2 x13_2).f2, (rd_T79 x0_2 x13_2).f3⟩ : S79)) := ⟨_, rfl⟩
                 replace H : (q0q.l1 k2 y242 x10_1 ji22) = some r := h2
                 have Ny242 := Aside0.mk hy_; clear hy_
                 have H' := Aside0.mk H
                 clear H
                 try go_wp2
                 have n0_ := aK (Kd.R_drew HO_0.out)
                 have n1_ := aK (Kept.drew HK.out)
                 have n2_ := aK (below_drew1 HB.out)
                 clear HO_0; clear HK; clear HB
                 have HO_0 := n0_
                 have HK := n1_
                 have HB := n2_
                 clear n0_ n1_ n2_
                 obtain ⟨Ao30, co30, eo30⟩ := Kd.R_slice HO_0.out
                 (first | subst eo30 | (injection eo30 with f1_ f2_ f3_; have f4_ := f1_.symm; have f5_ := f3_.symm; clear f1_ f2_ f3_; subst f4_; subst f5_))
                 obtain ⟨⟨p239, q239⟩, ad239, rfl, hx239_0, hx239_1, hx239_2, hx239_3⟩ := za (at_T79 (Kd.R_reads' HO_0.out).2.2) (ji22)
                 obtain ⟨⟨p240, q240⟩, ad240, e240, hx240_0, hx240_1, hx240_2, hx240_3⟩ := za (at_T79 (Kd.R_reads' HO_0.out).2.2) x13_2
                 obtain rfl : ad239 = ad240 := (by injection e240)
                 have p27 : 0 ≤ (x13_2 : Int) := od
                 have q27 : (x13_2 : Int) < ((x0_2.length : Int) : Int) := od
                 obtain ⟨go27, co27, eo27, gb27, gl27, cl27, HG27⟩ := Kd.R_form HO_0.out (by omega)
                 (first | cases eo27 | (injection eo27 with ea_ en_ ec_; (first | subst ea_ | (injection ea_ with ea_; subst ea_)); subst ec_; clear en_))
                 have GB27 := Aside0.mk gb27; have GG27 := Aside0.mk HG27; clear gb27 gl27 HG27
                 have HMgo27 := aK (show (P0_ go27 ∨ w.heap.size ≤ go27) from (HO_0.out.1 _ rfl))
                 (first | simp only [add_plain] at hx239_0 | skip)
                 (first | simp only [add_plain] at hx239_1 | skip)
                 (first | simp only [add_plain] at hx239_2 | skip)
                 (first | simp only [add_plain] at hx239_3 | skip)
                 (first | simp only [add_plain] at hx240_0 | skip)
                 (first | simp only [add_plain] at hx240_1 | skip)
                 (first | simp only [add_plain] at hx240_2 | skip)
                 (first | simp only [add_plain] at hx240_3 | skip)
                 obtain ⟨ce27, hcl27, hM27, hcc27, hfr27⟩ := Kd.R_elem HO_0.out z79 (x13_2 : Int) p27 q27
                 obtain rfl := k79_openM hM27
                 have hx27_0 : World.cell? _ ⟨go27, (x13_2 : Int).toNat * 4, none⟩ = some (.int .i64 ((rd_T79 x0_2 x13_2).f0)) := hcc27 0 _ rfl
                 have hx27_1 : World.cell? _ ⟨go27, (x13_2 : Int).toNat * 4 + 1, none⟩ = some (.string ((rd_T79 x0_2 x13_2).f1)) := hcc27 1 _ rfl
                 have hx27_2 : World.cell? _ ⟨go27, (x13_2 : Int).toNat * 4 + 2, none⟩ = some (.int .i64 ((rd_T79 x0_2 x13_2).f2)) := hcc27 2 _ rfl
                 have hx27_3 : World.cell? _ ⟨go27, (x13_2 : Int).toNat * 4 + 3, none⟩ = some (.int .i64 ((rd_T79 x0_2 x13_2).f3)) := hcc27 3 _ rfl
                 have hf27_0 : World.frozen? _ ⟨go27, (x13_2 : Int).toNat * 4, none⟩ = false := hfr27 0
                 have hf27_1 : World.frozen? _ ⟨go27, (x13_2 : Int).toNat * 4 + 1, none⟩ = false := hfr27 1
                 have hf27_2 : World.frozen? _ ⟨go27, (x13_2 : Int).toNat * 4 + 2, none⟩ = false := hfr27 2
                 have hf27_3 : World.frozen? _ ⟨go27, (x13_2 : Int).toNat * 4 + 3, none⟩ = false := hfr27 3
                 clear hcl27 hcc27 hfr27 hM27; replace p27 := eq_true p27; replace q27 := eq_true q27
                 obtain ⟨ce31, hcl31, hM31, hcc31, hfr31⟩ := Kd.R_elem HO_0.out z79 (x13_2 : Int) (od) (by have h_ : (x13_2 : Int) < ((x0_2.length : Int) : Int) := od; first | exact h_ | (have e_ := (Kd.R_reads' HO_0.out).1; omega) | simpa using h_)
                 obtain rfl := k79_openM hM31
                 have HP31 := (Kd.R_seg HO_0.out (x13_2 : Int) (od) (by have h_ : (x13_2 : Int) < ((x0_2.length : Int) : Int) := od; first | exact h_ | (have e_ := (Kd.R_reads' HO_0.out).1; omega) | simpa using h_) (seg := [.int .i64 ((rd_T79 x0_2 (ji22)).f0), .string ((rd_T79 x0_2 (ji22)).f1), .int .i64 ((rd_T79 x0_2 (ji22)).f2), .int .i64 ((rd_T79 x0_2 (ji22)).f3)]) (j := 0) hcl31 hcc31 (show 4 ≤ 4 from by decide) (x' := (⟨(rd_T79 x0_2 (ji22)).f0, (rd_T79 x0_2 (ji22)).f1, (rd_T79 x0_2 (ji22)).f2, (rd_T79 x0_2 (ji22)).f3⟩ : S79)) (k79_mkM _ _ _ (⟨(rd_T79 x0_2 (ji22)).f0, (rd_T79 x0_2 (ji22)).f1, (rd_T79 x0_2 (ji22)).f2, (rd_T79 x0_2 (ji22)).f3⟩ : S79) ) (fun _ hk => hk)).1
                 rw [← Ny241.out] at HP31
                 have HQ31 := Aside0.mk HP31; clear hcl31 hcc31 hfr31 hM31 HP31
                 have p28 : 0 ≤ ((ji22) : Int) := od
                 have q28 : ((ji22) : Int) < ((x0_2.length : Int) : Int) := od
                 obtain ⟨ce28, hcl28, hM28, hcc28, hfr28⟩ := Kd.R_elem HQ31.out z79 ((ji22) : Int) p28 q28
                 obtain rfl := k79_openM hM28
                 have hx28_0 : World.cell? _ ⟨go27, ((ji22) : Int).toNat * 4, none⟩ = some (.int .i64 ((rd_T79 y241 (ji22)).f0)) := hcc28 0 _ rfl
                 have hx28_1 : World.cell? _ ⟨go27, ((ji22) : Int).toNat * 4 + 1, none⟩ = some (.string ((rd_T79 y241 (ji22)).f1)) := hcc28 1 _ rfl
                 have hx28_2 : World.cell? _ ⟨go27, ((ji22) : Int).toNat * 4 + 2, none⟩ = some (.int .i64 ((rd_T79 y241 (ji22)).f2)) := hcc28 2 _ rfl
                 have hx28_3 : World.cell? _ ⟨go27, ((ji22) : Int).toNat * 4 + 3, none⟩ = some (.int .i64 ((rd_T79 y241 (ji22)).f3)) := hcc28 3 _ rfl
                 have hf28_0 : World.frozen? _ ⟨go27, ((ji22) : Int).toNat * 4, none⟩ = false := hfr28 0
                 have hf28_1 : World.frozen? _ ⟨go27, ((ji22) : Int).toNat * 4 + 1, none⟩ = false := hfr28 1
                 have hf28_2 : World.frozen? _ ⟨go27, ((ji22) : Int).toNat * 4 + 2, none⟩ = false := hfr28 2
                 have hf28_3 : World.frozen? _ ⟨go27, ((ji22) : Int).toNat * 4 + 3, none⟩ = false := hfr28 3
                 clear hcl28 hcc28 hfr28 hM28; replace p28 := eq_true p28; replace q28 := eq_true q28
                 obtain ⟨ce32, hcl32, hM32, hcc32, hfr32⟩ := Kd.R_elem HQ31.out z79 ((ji22) : Int) (od) (by have h_ : ((ji22) : Int) < ((x0_2.length : Int) : Int) := od; first | exact h_ | (have e_ := (Kd.R_reads' HO_0.out).1; omega) | simpa using h_)
                 obtain rfl := k79_openM hM32
                 have HP32 := (Kd.R_seg HQ31.out ((ji22) : Int) (od) (by have h_ : ((ji22) : Int) < ((x0_2.length : Int) : Int) := od; first | exact h_ | (have e_ := (Kd.R_reads' HO_0.out).1; omega) | simpa using h_) (seg := [.int .i64 ((rd_T79 x0_2 x13_2).f0), .string ((rd_T79 x0_2 x13_2).f1), .int .i64 ((rd_T79 x0_2 x13_2).f2), .int .i64 ((rd_T79 x0_2 x13_2).f3)]) (j := 0) hcl32 hcc32 (show 4 ≤ 4 from by decide) (x' := (⟨(rd_T79 x0_2 x13_2).f0, (rd_T79 x0_2 x13_2).f1, (rd_T79 x0_2 x13_2).f2, (rd_T79 x0_2 x13_2).f3⟩ : S79)) (k79_mkM _ _ _ (⟨(rd_T79 x0_2 x13_2).f0, (rd_T79 x0_2 x13_2).f1, (rd_T79 x0_2 x13_2).f2, (rd_T79 x0_2 x13_2).f3⟩ : S79) ) (fun _ hk => hk)).1
                 rw [← Ny242.out] at HP32
                 have HQ32 := Aside0.mk HP32; clear hcl32 hcc32 hfr32 hM32 HP32
                 refine start_ (n := 18) (S := fun w' => w'.cell? ⟨go27, ((ji22)).toNat * 4, none⟩ = some (.int .i64 ((rd_T79 x0_2 (ji22)).f0)) ∧ w'.cell? ⟨go27, ((ji22)).toNat * 4 + 1, none⟩ = some (.string ((rd_T79 x0_2 (ji22)).f1)) ∧ w'.cell? ⟨go27, ((ji22)).toNat * 4 + 2, none⟩ = some (.int .i64 ((rd_T79 x0_2 (ji22)).f2)) ∧ w'.cell? ⟨go27, ((ji22)).toNat * 4 + 3, none⟩ = some (.int .i64 ((rd_T79 x0_2 (ji22)).f3)) ∧ w'.cell? ⟨go27, ((x13_2).toNat * 4), none⟩ = some (.int .i64 ((rd_T79 x0_2 x13_2).f0)) ∧ w'.cell? ⟨go27, ((x13_2).toNat * 4) + 1, none⟩ = some (.string ((rd_T79 x0_2 x13_2).f1)) ∧ w'.cell? ⟨go27, ((x13_2).toNat * 4) + 2, none⟩ = some (.int .i64 ((rd_T79 x0_2 x13_2).f2)) ∧ w'.cell? ⟨go27, ((x13_2).toNat * 4) + 3, none⟩ = some (.int .i64 ((rd_T79 x0_2 x13_2).f3))) (ds := [15, 17]) (pf 18 0) (by kernel_rfl) rfl rfl ⟨hx239_0, hx239_1, hx239_2, hx239_3, hx240_0, hx240_1, hx240_2, hx240_3⟩ (fun hHeld => ?_); refine with_tabW q0q.tab11 q0q.bits11 (fun HT_ HW_ => ?_)
                 generalize wr.drew = w29 at HO_0 HK HB GG27 HQ31 HQ32 hf27_0 hf27_1 hf27_2 hf27_3 hf28_0 hf28_1 hf28_2 hf28_3 hx239_0 hx239_1 hx239_2 hx239_3 hx240_0 hx240_1 hx240_2 hx240_3 hx27_0 hx27_1 hx27_2 hx27_3 hx28_0 hx28_1 hx28_2 hx28_3 hHeld ⊢
                 refine pA (i := 0) (N := some 61) HT_ (pf 18 1) ?_
                 refine pA (i := 1) (N := some 62) HT_ (pf 18 2) ?_
                 refine pA (i := 2) (N := some 63) HT_ (pf 18 3) ?_
                 refine pA (i := 3) (N := some 64) HT_ (pf 18 4) ?_
                 refine pA (i := 4) (N := some 65) HT_ (pf 18 5) ?_
                 refine pA (i := 5) (N := some 66) HT_ (pf 18 6) ?_
                 refine pA (i := 6) (N := some 67) HT_ (pf 18 7) ?_
                 refine pA (i := 7) (N := some 68) HT_ (pf 18 8) ?_
                 refine pA (i := 8) (N := some 69) HT_ (pf 18 9) ?_
                 refine pA (i := 10) (N := some 71) HT_ (ba 18 1535) ?_
                 refine pA (i := 11) (N := some 72) HT_ (ba 18 3583) ?_
                 refine pA (i := 12) (N := some 73) HT_ (ba 18 7679) ?_
                 refine take_ (i := 9) (N := some 70) (v := ?_) (a' := ?_) (pf 18 13) rfl rfl (take_ofW HT_.out HW_.out (by kernel_rfl)) (fun _ _ _ h => h) (Or.inl ⟨by rfl, ?_⟩) hHeld ?_ ?_
                 rotate_left
                 · rintro w' ⟨s0, s1, s2, s3, s4, s5, s6, s7⟩
                   go_simp
                   with_reducible rfl
                 rotate_left
                 · simp only [Act.put, sA, sB, sC, i64_w, i32_w]
                   rfl
                 refine take_ (i := 13) (N := some 74) (v := ?_) (a' := ?_) (pf 18 14) rfl rfl (take_ofW HT_.out HW_.out (by kernel_rfl)) (fun _ _ _ h => h) (Or.inl ⟨by rfl, ?_⟩) hHeld ?_ ?_
                 rotate_left
                 · rintro w' ⟨s0, s1, s2, s3, s4, s5, s6, s7⟩
                   go_simp
                   with_reducible rfl
                 rotate_left
                 · simp only [Act.put, sA, sB, sC, i64_w, i32_w]
                   rfl
                 refine pA (i := 14) (N := some 75) HT_ (pf 18 15) ?_
                 refine last_ (i := 15) (N := none) (pf 18 16) rfl rfl (one_of HT_.out (by kernel_rfl)) (by decide) (fun K hK => ?_)
                 refine skip_ (by rfl) rfl (st_skip HO_0 z79 (x13_2 : Int) (od) (by have h_ : (x13_2 : Int) < ((x0_2.length : Int) : Int) := od; first | exact h_ | (have e_ := (Kd.R_reads' HO_0.out).1; omega) | simpa using h_) [.int .i64 ((rd_T79 x0_2 (ji22)).f0), .string ((rd_T79 x0_2 (ji22)).f1), .int .i64 ((rd_T79 x0_2 (ji22)).f2), .int .i64 ((rd_T79 x0_2 (ji22)).f3)] rfl (by rfl) rfl (by go_simp) rfl (by kernel_rfl) (by simp [Value.oneCell'])) ?_
                 refine hK.out _ _ ?_
                 clear hK K
                 generalize hz_ : World.setCells w29 go27 (Int.toNat (x13_2 : Int) * k79.sz + 0) [.int .i64 ((rd_T79 x0_2 (ji22)).f0), .string ((rd_T79 x0_2 (ji22)).f1), .int .i64 ((rd_T79 x0_2 (ji22)).f2), .int .i64 ((rd_T79 x0_2 (ji22)).f3)] = wz_ at HQ31 HQ32 ⊢
                 refine pA (i := 16) (N := some 76) HT_ (pf 18 17) ?_
                 refine last_ (i := 17) (N := none) (pf 18 18) rfl rfl (one_of HT_.out (by kernel_rfl)) (by decide) (fun K hK => ?_)
                 refine skip_ (by rfl) rfl (st_skip HQ31 z79 ((ji22) : Int) (od) (by have h_ : ((ji22) : Int) < ((x0_2.length : Int) : Int) := od; first | exact h_ | (have e_ := (Kd.R_reads' HO_0.out).1; omega) | simpa using h_) [.int .i64 ((rd_T79 x0_2 x13_2).f0), .string ((rd_T79 x0_2 x13_2).f1), .int .i64 ((rd_T79 x0_2 x13_2).f2), .int .i64 ((rd_T79 x0_2 x13_2).f3)] rfl (by rfl) rfl (by go_simp) rfl (by kernel_rfl) (by simp [Value.oneCell'])) ?_
                 refine hK.out _ _ ?_
                 clear hK K; subst hz_
                 refine done_ (done_of HT_.out (by kernel_rfl)) ?_
                 try go_wp2
                 go_roundg k2
                 case measure => have := HK1.out; have := HK2.out; omega
                 case rel => exact ⟨(y242), (ji22), (by first | rfl | (simp; done) | (simp only [← hji22] <;> (first | rfl | simp)) | (simp [*]; done)), H', ⟨by have := HK1.out; have := HK2.out; omega⟩, ⟨gR HQ32⟩, ⟨gQ HK⟩, ⟨gS HB⟩⟩
               · rw [if_neg c26] at H
                 exact absurd H (by simp)
             · rw [if_neg c25] at H
               exact absurd H (by simp)
           · rw [if_neg c24] at H
             exact absurd H (by simp)
         · rw [if_neg c23] at H
           exact absurd H (by simp)
       · rw [if_neg c21] at H
         have c21b0 := dF c21
         clear c21
         obtain rfl := Option.some.inj H
         go_wp2
         first | go_end0 | ((try simp only [Exit.inBlock, Exit.then]); refine bodyPost_ret (results_none rfl _ _ _) rfl ?_)
         exact ⟨by first | rfl | (simp [errW_none, errW_some] <;> rfl) | (simp [*, errW_none, errW_some] <;> rfl), gR HO_0, gB HB, gP HK⟩
end Go.Proofs.Ytlbhjkbjokiioaa.X
