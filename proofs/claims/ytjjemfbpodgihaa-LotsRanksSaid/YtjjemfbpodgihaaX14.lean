-- a shortened text: what this claim does not name is left out (wip/xprint/prune.py of this repo)
import Derived.Test.YtjjemfbpodgihaaXMin
import Derived.Test.YtjjemfbpodgihaaX0
import Derived.Test.YtjjemfbpodgihaaX13
namespace Go.Proofs.Ytjjemfbpodgihaa.X
open Go.RowKit Go.Proofs.YtjjemfbpodgihaaW.PrintWords Go.Proofs.YtjjemfbpodgihaaW.PrintLast Go.Proofs.YtjjemfbpodgihaaW.PrintMore
attribute [local go_sem] max2_int min2_int max_two min_two max_three min_three max_four min_four
set_option linter.unusedVariables false
set_option linter.unusedSimpArgs false
abbrev qx14_0 : Array Bool := #[true, true, true, true, true, true, true, true, false, true, false, false, false, false, false, false, false]
abbrev qx14_1 : Array Bool := #[true, true, true, true, true, true, true, true, false, true, true, false, false, false, false, false, false]
abbrev qx14_2 : Array Bool := #[true, true, true, true, true, true, true, true, false, true, true, true, false, false, false, false, false]
abbrev qx14_3 : Array Bool := #[true, true, true, true, true, true, true, true, false, true, true, true, true, false, false, false, false]
mutual
def slices_insertionSortCmpFunc_haircut_Item.l0 : Nat → List (S47) → Int → Int → Int → Option ((List (S47)))
 | 0, _, _, _, _ => none
 | k + 1, x0, x1, x2, x8 => if x8 < x2 then (slices_insertionSortCmpFunc_haircut_Item.l1 k x0 x1 x2 x8 x8) else (some x0)
def slices_insertionSortCmpFunc_haircut_Item.l1 : Nat → List (S47) → Int → Int → Int → Int → Option ((List (S47)))
 | 0, _, _, _, _, _ => none
 | k + 1, x0, x1, x2, x8, x9 => if x9 > x1 then (if 0 ≤ x9 then (if x9 < (x0.length : Int) then (if 0 ≤ (wrap64 (x9 - 1)) then (if (wrap64 (x9 - 1)) < (x0.length : Int) then ((lots_order.f k ((rd_T47 x0 x9).f0.f0) ((rd_T47 x0 x9).f0.f1) ((rd_T47 x0 x9).f1.f0) ((rd_T47 x0 x9).f1.f1) ((rd_T47 x0 x9).f1.f2) ((rd_T47 x0 x9).f1.f3) ((rd_T47 x0 x9).f1.f4) ((rd_T47 x0 x9).f2) ((rd_T47 x0 x9).f3) ((rd_T47 x0 (wrap64 (x9 - 1))).f0.f0) ((rd_T47 x0 (wrap64 (x9 - 1))).f0.f1) ((rd_T47 x0 (wrap64 (x9 - 1))).f1.f0) ((rd_T47 x0 (wrap64 (x9 - 1))).f1.f1) ((rd_T47 x0 (wrap64 (x9 - 1))).f1.f2) ((rd_T47 x0 (wrap64 (x9 - 1))).f1.f3) ((rd_T47 x0 (wrap64 (x9 - 1))).f1.f4) ((rd_T47 x0 (wrap64 (x9 - 1))).f2) ((rd_T47 x0 (wrap64 (x9 - 1))).f3)).bind fun t386 => (if t386 < 0 then (slices_insertionSortCmpFunc_haircut_Item.l1 k ((x0.set (x9 : Int).toNat (⟨(⟨(rd_T47 x0 (wrap64 (x9 - 1))).f0.f0, (rd_T47 x0 (wrap64 (x9 - 1))).f0.f1⟩ : S43), (⟨(rd_T47 x0 (wrap64 (x9 - 1))).f1.f0, (rd_T47 x0 (wrap64 (x9 - 1))).f1.f1, (rd_T47 x0 (wrap64 (x9 - 1))).f1.f2, (rd_T47 x0 (wrap64 (x9 - 1))).f1.f3, (rd_T47 x0 (wrap64 (x9 - 1))).f1.f4⟩ : S45), (rd_T47 x0 (wrap64 (x9 - 1))).f2, (rd_T47 x0 (wrap64 (x9 - 1))).f3⟩ : S47)).set ((wrap64 (x9 - 1)) : Int).toNat (⟨(⟨(rd_T47 x0 x9).f0.f0, (rd_T47 x0 x9).f0.f1⟩ : S43), (⟨(rd_T47 x0 x9).f1.f0, (rd_T47 x0 x9).f1.f1, (rd_T47 x0 x9).f1.f2, (rd_T47 x0 x9).f1.f3, (rd_T47 x0 x9).f1.f4⟩ : S45), (rd_T47 x0 x9).f2, (rd_T47 x0 x9).f3⟩ : S47)) x1 x2 x8 (wrap64 (x9 - 1))) else (slices_insertionSortCmpFunc_haircut_Item.l0 k x0 x1 x2 (wrap64 (x8 + 1))))) else (none)) else (none)) else (none)) else (none)) else (slices_insertionSortCmpFunc_haircut_Item.l0 k x0 x1 x2 (wrap64 (x8 + 1)))
end
def slices_insertionSortCmpFunc_haircut_Item.f (k : Nat) (l0 : List (S47)) (a1 : Int) (a2 : Int)  : Option ((List (S47))) := slices_insertionSortCmpFunc_haircut_Item.l0 k l0 a1 a2 (wrap64 (a1 + 1))
theorem slices_insertionSortCmpFunc_haircut_Item.mono_l : ∀ k, (∀ y0 y1 y2 y3, LeO (slices_insertionSortCmpFunc_haircut_Item.l0 k y0 y1 y2 y3) (slices_insertionSortCmpFunc_haircut_Item.l0 (k + 1) y0 y1 y2 y3)) ∧ (∀ y0 y1 y2 y3 y4, LeO (slices_insertionSortCmpFunc_haircut_Item.l1 k y0 y1 y2 y3 y4) (slices_insertionSortCmpFunc_haircut_Item.l1 (k + 1) y0 y1 y2 y3 y4))
 | 0 => ⟨fun _ _ _ _ r h => by simp [slices_insertionSortCmpFunc_haircut_Item.l0] at h, fun _ _ _ _ _ r h => by simp [slices_insertionSortCmpFunc_haircut_Item.l1] at h⟩
 | k + 1 => by
  obtain ⟨ih0, ih1⟩ := slices_insertionSortCmpFunc_haircut_Item.mono_l k
  refine ⟨?_, ?_⟩
  intro y0 y1 y2 y3; unfold slices_insertionSortCmpFunc_haircut_Item.l0; rotate_left
  intro y0 y1 y2 y3 y4; unfold slices_insertionSortCmpFunc_haircut_Item.l1; rotate_left
  all_goals repeat' first
  | (with_reducible exact ih0 _ _ _ _)
  | (with_reducible exact ih1 _ _ _ _ _)
  | (with_reducible exact lots_order.mono _ _ _ _ _ _ _ _ _ _ _ _ _ _ _ _ _ _ _)
  | (with_reducible exact LeO.refl _)
  | (with_reducible exact LeO.none _)
  | (with_reducible refine LeO.ite ?_ ?_)
  | (with_reducible refine LeO.bind ?_ (fun _ => ?_))
  | exact ih0 _ _ _ _
  | exact ih1 _ _ _ _ _
  | exact lots_order.mono _ _ _ _ _ _ _ _ _ _ _ _ _ _ _ _ _ _ _
  | exact LeO.none _
  | refine LeO.ite ?_ ?_
  | refine LeO.bind ?_ (fun _ => ?_)
theorem slices_insertionSortCmpFunc_haircut_Item.mono : ∀ a0 a1 a2 k, LeO (slices_insertionSortCmpFunc_haircut_Item.f k a0 a1 a2) (slices_insertionSortCmpFunc_haircut_Item.f (k + 1) a0 a1 a2) := by
 intro a0 a1 a2 k
 obtain ⟨ih0, ih1⟩ := slices_insertionSortCmpFunc_haircut_Item.mono_l k
 unfold slices_insertionSortCmpFunc_haircut_Item.f
 repeat' first
  | (with_reducible exact ih0 _ _ _ _)
  | (with_reducible exact ih1 _ _ _ _ _)
  | (with_reducible exact lots_order.mono _ _ _ _ _ _ _ _ _ _ _ _ _ _ _ _ _ _ _)
  | (with_reducible exact LeO.refl _)
  | (with_reducible exact LeO.none _)
  | (with_reducible refine LeO.ite ?_ ?_)
  | (with_reducible refine LeO.bind ?_ (fun _ => ?_))
  | exact ih0 _ _ _ _
  | exact ih1 _ _ _ _ _
  | exact lots_order.mono _ _ _ _ _ _ _ _ _ _ _ _ _ _ _ _ _ _ _
  | exact LeO.none _
  | refine LeO.ite ?_ ?_
  | refine LeO.bind ?_ (fun _ => ?_)
def slices_insertionSortCmpFunc_haircut_Item.T4 : Bool × List (List Nat × List Nat) := (true, [([], []), ([], []), ([0, 1], [0, 1]), ([2], [2]), ([3], [3]), ([3], [3]), ([3], [3]), ([5, 6, 3], [3, 5, 6]), ([7, 3], [3, 7]), ([3], [3]), ([3], [3]), ([10, 3], [3, 10]), ([9, 11, 3], [3, 9, 11]), ([12, 3], [3, 12]), ([4, 8, 13, 3, 3], [3, 4, 8, 13]), ([14, 3], [3, 14]), ([3, 15], [3, 15])])
def slices_insertionSortCmpFunc_haircut_Item.B4 : List Nat := [0, 0, 3, 7, 15, 15, 15, 111, 239, 15, 15, 1039, 3599, 7695, 16383, 32767, 65535]
theorem slices_insertionSortCmpFunc_haircut_Item.tab4 : rtab .any (opsOf Try.f50 4) = slices_insertionSortCmpFunc_haircut_Item.T4 := by kernel_rfl
theorem slices_insertionSortCmpFunc_haircut_Item.bits4 : waitsOk slices_insertionSortCmpFunc_haircut_Item.T4.2 slices_insertionSortCmpFunc_haircut_Item.B4 = true := by kernel_rfl
def slices_insertionSortCmpFunc_haircut_Item.T6 : Bool × List (List Nat × List Nat) := (true, [([], []), ([], []), ([], []), ([], []), ([3], [3]), ([], []), ([], []), ([6], [6]), ([5, 7], [5, 7]), ([8], [8]), ([], []), ([], []), ([10, 11], [10, 11]), ([12], [12]), ([0, 1, 0, 1, 5, 6, 7, 8, 9, 13], [0, 1]), ([14, 9, 0, 1, 5, 6, 7, 8, 9, 13], [9, 14]), ([2, 4, 0, 1, 2, 3, 4, 5, 6, 7, 8, 9, 10, 11, 12, 13, 14, 15], [2, 4]), ([16, 13, 15, 0, 1, 2, 3, 4, 5, 6, 7, 8, 9, 10, 11, 12, 13, 14, 15], [13, 16])])
def slices_insertionSortCmpFunc_haircut_Item.B6 : List Nat := [0, 0, 0, 0, 8, 0, 0, 64, 224, 480, 0, 0, 3072, 7168, 16355, 32739, 65535, 131071]
theorem slices_insertionSortCmpFunc_haircut_Item.tab6 : rtab .any (opsOf Try.f50 6) = slices_insertionSortCmpFunc_haircut_Item.T6 := by kernel_rfl
theorem slices_insertionSortCmpFunc_haircut_Item.bits6 : waitsOk slices_insertionSortCmpFunc_haircut_Item.T6.2 slices_insertionSortCmpFunc_haircut_Item.B6 = true := by kernel_rfl
set_option maxHeartbeats 8000000 in
set_option maxRecDepth 100000 in
theorem slices_insertionSortCmpFunc_haircut_Item.calls (k : Nat) (P0_ : Nat → Prop) (u9000_ : Value) (l0 : List (S47)) (a1 : Int) (a2 : Int)  (r : List (S47)) (w0 w : World) (hB : Below w0.heap.size w0 w) (ho0 : Kd.R k47 47 w w0.heap.size P0_ u9000_ l0) (h : slices_insertionSortCmpFunc_haircut_Item.f k l0 a1 a2 = some r) :
 Calls Try.prog 50 #[u9000_, .int .i64 a1, .int .i64 a2, .func (.func 39) #[] #[]] w fun e w' => e = .returned (.tuple #[]) ∧ Kd.R k47 47 w' w0.heap.size (fun k_ => (P0_ k_ ∨ w.heap.size ≤ k_)) u9000_ r ∧ Below w0.heap.size w0 w' ∧ Kept w w' (fun k_ => P0_ k_) := by
 have hu47 := Try.underlying47
 have HO0 := Aside0.mk (show Kd.R k47 47 w w0.heap.size (fun k_ => (P0_ k_ ∨ w.heap.size ≤ k_)) u9000_ l0 from Kd.R_mono ho0 (fun k_ hk => (.inl hk)))
 have HK := Aside0.mk (Kept.refl w (fun k_ => P0_ k_))
 have HW0 := Aside0.mk hB.size
 have HB := Aside0.mk hB; clear hB
 have H : (slices_insertionSortCmpFunc_haircut_Item.l0 k l0 a1 a2 (wrap64 (a1 + 1))) = some r := h
 clear h
 have H' := Aside0.mk H
 clear H
 go_enter Try.func50, Try.ntmps50
 go_wp2
 go_loopg [8] k (fun kq v8 w' => ∃ (x0_1 : List (S47)) (x8_1 : Int), v8 = .int .i64 x8_1 ∧ Aside0 (slices_insertionSortCmpFunc_haircut_Item.l0 kq x0_1 a1 a2 x8_1 = some r) ∧ Aside0 (kq ≤ k) ∧ Aside0 (Kd.R k47 47 w' w0.heap.size (fun k_ => (P0_ k_ ∨ w.heap.size ≤ k_)) u9000_ x0_1) ∧ Aside0 (Kept w w' (fun k_ => P0_ k_)) ∧ Aside0 (Below w0.heap.size w0 w'))
 case atStart => exact ⟨(l0), (wrap64 (a1 + 1)), ac, H', ⟨Nat.le_refl _⟩, ⟨gR HO0⟩, ⟨gP HK⟩, ⟨gB HB⟩⟩
 case round =>
  clear H'; (try clear p2)
  obtain ⟨x0_1, x8_1, rfl, HA, HK1, HO_0, HK, HB⟩ := hrel
  cases gk with
  | zero => exact absurd HA.out (by simp [slices_insertionSortCmpFunc_haircut_Item.l0])
  | succ k1 =>
   have H := HA.out
   clear HA
   simp only [slices_insertionSortCmpFunc_haircut_Item.l0] at H
   by_cases c5 : x8_1 < a2
   · rw [if_pos c5] at H
     have c5b0 : decide (x8_1 < a2) = true := decide_eq_true c5
     clear c5
     have H' := Aside0.mk H
     clear H
     go_wp2
     go_loopg [9] k1 (fun kq v9 w' => ∃ (x0_2 : List (S47)) (x9_2 : Int), v9 = .int .i64 x9_2 ∧ Aside0 (slices_insertionSortCmpFunc_haircut_Item.l1 kq x0_2 a1 a2 x8_1 x9_2 = some r) ∧ Aside0 (kq ≤ k1) ∧ Aside0 (Kd.R k47 47 w' w0.heap.size (fun k_ => (P0_ k_ ∨ w.heap.size ≤ k_)) u9000_ x0_2) ∧ Aside0 (Kept w w' (fun k_ => P0_ k_)) ∧ Aside0 (Below w0.heap.size w0 w'))
     case atStart => exact ⟨(x0_1), (x8_1), ac, H', ⟨Nat.le_refl _⟩, ⟨gR HO_0⟩, ⟨gP HK⟩, ⟨gB HB⟩⟩
     case round =>
      clear H'; (try clear p2); (try clear c5); (try clear c5b0); (try clear p2)
      obtain ⟨x0_2, x9_2, rfl, HA, HK2, HO_0, HK, HB⟩ := hrel
      cases gk with
      | zero => exact absurd HA.out (by simp [slices_insertionSortCmpFunc_haircut_Item.l1])
      | succ k2 =>
       have H := HA.out
       clear HA
       simp only [slices_insertionSortCmpFunc_haircut_Item.l1] at H
       by_cases c6 : x9_2 > a1
       · rw [if_pos c6] at H
         have c6b0 : decide (a1 < x9_2) = true := decide_eq_true c6
         clear c6
         by_cases c7 : 0 ≤ x9_2
         · rw [if_pos c7] at H
           have c7b0 : decide (0 ≤ x9_2) = true := decide_eq_true c7
           clear c7
           by_cases c8 : x9_2 < (x0_2.length : Int)
           · rw [if_pos c8] at H
             have c8b0 : decide (x9_2 < (x0_2.length : Int)) = true := decide_eq_true c8
             clear c8
             obtain ⟨ji9, hji9⟩ : ∃ j_ : Int, (wrap64 (x9_2 - 1)) = j_ := ⟨_, rfl⟩
             replace H : (if 0 ≤ (ji9) then (if (ji9) < (x0_2.length : Int) then ((lots_order.f k2 ((rd_T47 x0_2 x9_2).f0.f0) ((rd_T47 x0_2 x9_2).f0.f1) ((rd_T47 x0_2 x9_2).f1.f0) ((rd_T47 x0_2 x9_2).f1.f1) ((rd_T47 x0_2 x9_2).f1.f2) ((rd_T47 x0_2 x9_2).f1.f3) ((rd_T47 x0_2 x9_2).f1.f4) ((rd_T47 x0_2 x9_2).f2) ((rd_T47 x0_2 x9_2).f3) ((rd_T47 x0_2 (ji9)).f0.f0) ((rd_T47 x0_2 (ji9)).f0.f1) ((rd_T47 x0_2 (ji9)).f1.f0) ((rd_T47 x0_2 (ji9)).f1.f1) ((rd_T47 x0_2 (ji9)).f1.f2) ((rd_T47 x0_2 (ji9)).f1.f3) ((rd_T47 x0_2 (ji9)).f1.f4) ((rd_T47 x0_2 (ji9)).f2) ((rd_T47 x0_2 (ji9)).f3)).bind fun t386 => (if t386 < 0 then (slices_insertionSortCmpFunc_haircut_Item.l1 k2 ((x0_2.set (x9_2 : Int).toNat (⟨(⟨(rd_T47 x0_2 (ji9)).f0.f0, (rd_T47 x0_2 (ji9)).f0.f1⟩ : S43), (⟨(rd_T47 x0_2 (ji9)).f1.f0, (rd_T47 x0_2 (ji9)).f1.f1, (rd_T47 x0_2 (ji9)).f1.f2, (rd_T47 x0_2 (ji9)).f1.f3, (rd_T47 x0_2 (ji9)).f1.f4⟩ : S45), (rd_T47 x0_2 (ji9)).f2, (rd_T47 x0_2 (ji9)).f3⟩ : S47)).set ((ji9) : Int).toNat (⟨(⟨(rd_T47 x0_2 x9_2).f0.f0, (rd_T47 x0_2 x9_2).f0.f1⟩ : S43), (⟨(rd_T47 x0_2 x9_2).f1.f0, (rd_T47 x0_2 x9_2).f1.f1, (rd_T47 x0_2 x9_2).f1.f2, (rd_T47 x0_2 x9_2).f1.f3, (rd_T47 x0_2 x9_2).f1.f4⟩ : S45), (rd_T47 x0_2 x9_2).f2, (rd_T47 x0_2 x9_2).f3⟩ : S47)) a1 a2 x8_1 ji9) else (slices_insertionSortCmpFunc_haircut_Item.l0 k2 x0_2 a1 a2 (wrap64 (x8_1 + 1))))) else (none)) else (none)) = some r := by first | (rw [hji9] at H; exact H) | (simp only [hji9] at H ⊢; exact H)
             have hji9w : (IntKind.i64.wrap (x9_2 - 1)) = ji9 := (i64_w _).trans hji9
             by_cases c10 : 0 ≤ (ji9)
             · rw [if_pos c10] at H
               have c10b0 : decide (0 ≤ (ji9)) = true := decide_eq_true c10
               clear c10
               by_cases c11 : (ji9) < (x0_2.length : Int)
               · rw [if_pos c11] at H
                 have c11b0 : decide ((ji9) < (x0_2.length : Int)) = true := decide_eq_true c11
                 clear c11
                 replace H := Option.bind_eq_some_iff.mp H
                 obtain ⟨t386, A120, H⟩ := H
                 replace H : (if t386 < 0 then (slices_insertionSortCmpFunc_haircut_Item.l1 k2 ((x0_2.set (x9_2 : Int).toNat (⟨(⟨(rd_T47 x0_2 (ji9)).f0.f0, (rd_T47 x0_2 (ji9)).f0.f1⟩ : S43), (⟨(rd_T47 x0_2 (ji9)).f1.f0, (rd_T47 x0_2 (ji9)).f1.f1, (rd_T47 x0_2 (ji9)).f1.f2, (rd_T47 x0_2 (ji9)).f1.f3, (rd_T47 x0_2 (ji9)).f1.f4⟩ : S45), (rd_T47 x0_2 (ji9)).f2, (rd_T47 x0_2 (ji9)).f3⟩ : S47)).set ((ji9) : Int).toNat (⟨(⟨(rd_T47 x0_2 x9_2).f0.f0, (rd_T47 x0_2 x9_2).f0.f1⟩ : S43), (⟨(rd_T47 x0_2 x9_2).f1.f0, (rd_T47 x0_2 x9_2).f1.f1, (rd_T47 x0_2 x9_2).f1.f2, (rd_T47 x0_2 x9_2).f1.f3, (rd_T47 x0_2 x9_2).f1.f4⟩ : S45), (rd_T47 x0_2 x9_2).f2, (rd_T47 x0_2 x9_2).f3⟩ : S47)) a1 a2 x8_1 ji9) else (slices_insertionSortCmpFunc_haircut_Item.l0 k2 x0_2 a1 a2 (wrap64 (x8_1 + 1)))) = some r := H
                 have A12 := Aside0.mk A120; clear A120
                 by_cases c13 : t386 < 0
                 · rw [if_pos c13] at H
                   have c13b0 : decide (t386 < 0) = true := decide_eq_true c13
                   clear c13
                   obtain ⟨y389, hy389⟩ : ∃ y_ : List (S47), y_ = (x0_2.set (x9_2 : Int).toNat (⟨(⟨(rd_T47 x0_2 (ji9)).f0.f0, (rd_T47 x0_2 (ji9)).f0.f1⟩ : S43), (⟨(rd_T47 x0_2 (ji9)).f1.f0, (rd_T47 x0_2 (ji9)).f1.f1, (rd_T47 x0_2 (ji9)).f1.f2, (rd_T47 x0_2 (ji9)).f1.f3, (rd_T47 x0_2 (ji9)).f1.f4⟩ : S45), (rd_T47 x0_2 (ji9)).f2, (rd_T47 x0_2 (ji9)).f3⟩ : S47)) := ⟨_, rfl⟩
                   replace H : (slices_insertionSortCmpFunc_haircut_Item.l1 k2 (y389.set ((ji9) : Int).toNat (⟨(⟨(rd_T47 x0_2 x9_2).f0.f0, (rd_T47 x0_2 x9_2).f0.f1⟩ : S43), (⟨(rd_T47 x0_2 x9_2).f1.f0, (rd_T47 x0_2 x9_2).f1.f1, (rd_T47 x0_2 x9_2).f1.f2, (rd_T47 x0_2 x9_2).f1.f3, (rd_T47 x0_2 x9_2).f1.f4⟩ : S45), (rd_T47 x0_2 x9_2).f2, (rd_T47 x0_2 x9_2).f3⟩ : S47)) a1 a2 x8_1 ji9) = some r := by first | (rw [hy389]; with_reducible exact H) | (have H2_ := (Option.bind_some _ _).symm.trans H; rw [hy389]; with_reducible exact H2_) | (have H2_ := (Option.bind_some _ _).symm.trans H; with_reducible exact H2_) | with_reducible exact H | (rw [hy389]; exact H) | exact H
                   have Ny389 := Aside0.mk hy389; clear hy389
                   obtain ⟨y390, hy390⟩ : ∃ y_ : List (S47), y_ = (y389.set ((ji9) : Int).toNat (⟨(⟨(rd_T47 x0_2 x9_2).f0.f0, (rd_T47 x0_2 x9_2).f0.f1⟩ : S43), (⟨(rd_T47 x0_2 x9_2).f1.f0, (rd_T47 x0_2 x9_2).f1.f1, (rd_T47 x0_2 x9_2).f1.f2, (rd_T47 x0_2 x9_2).f1.f3, (rd_T47 x0_2 x9_2).f1.f4⟩ : S45), (rd_T47 x0_2 x9_2).f2, (rd_T47 x0_2 x9_2).f3⟩ : S47)) := ⟨_, rfl⟩
                   replace H : (slices_insertionSortCmpFunc_haircut_Item.l1 k2 y390 a1 a2 x8_1 ji9) = some r := by first | (rw [hy390]; with_reducible exact H) | (have H2_ := (Option.bind_some _ _).symm.trans H; rw [hy390]; with_reducible exact H2_) | (have H2_ := (Option.bind_some _ _).symm.trans H; with_reducible exact H2_) | with_reducible exact H | (rw [hy390]; exact H) | exact H
                   have Ny390 := Aside0.mk hy390; clear hy390
                   have H' := Aside0.mk H
                   clear H
                   try go_wp2
                   have n0_ := Aside0.mk (Kd.R_drew HO_0.out)
                   have n1_ := Aside0.mk (Kept.drew HK.out)
                   have n2_ := Aside0.mk (below_drew1 HB.out)
                   clear HO_0; clear HK; clear HB
                   have HO_0 := n0_
                   have HK := n1_
                   have HB := n2_
                   clear n0_ n1_ n2_
                   obtain ⟨Ao17, co17, eo17⟩ := Kd.R_slice HO_0.out
                   (first | subst eo17 | (injection eo17 with f1_ f2_ f3_; have f4_ := f1_.symm; have f5_ := f3_.symm; clear f1_ f2_ f3_; subst f4_; subst f5_))
                   have p384 : 0 ≤ (x9_2 : Int) := od
                   have q384 : x9_2 < (x0_2.length : Int) := od
                   obtain ⟨ad384, e384, hx384_0, hx384_1, hx384_2, hx384_3, hx384_4, hx384_5, hx384_6, hx384_7, hx384_8⟩ := at_T47 (Kd.R_reads' HO_0.out).2.2 x9_2 p384 q384
                   cases e384; replace p384 := eq_true p384; replace q384 := eq_true q384
                   have p385 : 0 ≤ ((ji9) : Int) := od
                   have q385 : (ji9) < (x0_2.length : Int) := od
                   obtain ⟨ad385, e385, hx385_0, hx385_1, hx385_2, hx385_3, hx385_4, hx385_5, hx385_6, hx385_7, hx385_8⟩ := at_T47 (Kd.R_reads' HO_0.out).2.2 (ji9) p385 q385
                   obtain rfl : ad384 = ad385 := (by injection e385)
                   replace p385 := eq_true p385; replace q385 := eq_true q385
                   refine start_ (n := 17) (S := fun w' => w'.cell? (ad384.add ((x9_2).toNat * 9)) = some (.string ((rd_T47 x0_2 x9_2).f0.f0)) ∧ w'.cell? ⟨(ad384.add ((x9_2).toNat * 9)).block, (ad384.add ((x9_2).toNat * 9)).off + 1, none⟩ = some (.int .i64 ((rd_T47 x0_2 x9_2).f0.f1)) ∧ w'.cell? ⟨(ad384.add ((x9_2).toNat * 9)).block, (ad384.add ((x9_2).toNat * 9)).off + 2, none⟩ = some (.string ((rd_T47 x0_2 x9_2).f1.f0)) ∧ w'.cell? ⟨(ad384.add ((x9_2).toNat * 9)).block, (ad384.add ((x9_2).toNat * 9)).off + 3, none⟩ = some (.int .i64 ((rd_T47 x0_2 x9_2).f1.f1)) ∧ w'.cell? ⟨(ad384.add ((x9_2).toNat * 9)).block, (ad384.add ((x9_2).toNat * 9)).off + 4, none⟩ = some (.int .i64 ((rd_T47 x0_2 x9_2).f1.f2)) ∧ w'.cell? ⟨(ad384.add ((x9_2).toNat * 9)).block, (ad384.add ((x9_2).toNat * 9)).off + 5, none⟩ = some (.int .i64 ((rd_T47 x0_2 x9_2).f1.f3)) ∧ w'.cell? ⟨(ad384.add ((x9_2).toNat * 9)).block, (ad384.add ((x9_2).toNat * 9)).off + 6, none⟩ = some (.string ((rd_T47 x0_2 x9_2).f1.f4)) ∧ w'.cell? ⟨(ad384.add ((x9_2).toNat * 9)).block, (ad384.add ((x9_2).toNat * 9)).off + 7, none⟩ = some (.int .i64 ((rd_T47 x0_2 x9_2).f2)) ∧ w'.cell? ⟨(ad384.add ((x9_2).toNat * 9)).block, (ad384.add ((x9_2).toNat * 9)).off + 8, none⟩ = some (.int .i64 ((rd_T47 x0_2 x9_2).f3)) ∧ w'.cell? (ad384.add (((ji9)).toNat * 9)) = some (.string ((rd_T47 x0_2 (ji9)).f0.f0)) ∧ w'.cell? ⟨(ad384.add (((ji9)).toNat * 9)).block, (ad384.add (((ji9)).toNat * 9)).off + 1, none⟩ = some (.int .i64 ((rd_T47 x0_2 (ji9)).f0.f1)) ∧ w'.cell? ⟨(ad384.add (((ji9)).toNat * 9)).block, (ad384.add (((ji9)).toNat * 9)).off + 2, none⟩ = some (.string ((rd_T47 x0_2 (ji9)).f1.f0)) ∧ w'.cell? ⟨(ad384.add (((ji9)).toNat * 9)).block, (ad384.add (((ji9)).toNat * 9)).off + 3, none⟩ = some (.int .i64 ((rd_T47 x0_2 (ji9)).f1.f1)) ∧ w'.cell? ⟨(ad384.add (((ji9)).toNat * 9)).block, (ad384.add (((ji9)).toNat * 9)).off + 4, none⟩ = some (.int .i64 ((rd_T47 x0_2 (ji9)).f1.f2)) ∧ w'.cell? ⟨(ad384.add (((ji9)).toNat * 9)).block, (ad384.add (((ji9)).toNat * 9)).off + 5, none⟩ = some (.int .i64 ((rd_T47 x0_2 (ji9)).f1.f3)) ∧ w'.cell? ⟨(ad384.add (((ji9)).toNat * 9)).block, (ad384.add (((ji9)).toNat * 9)).off + 6, none⟩ = some (.string ((rd_T47 x0_2 (ji9)).f1.f4)) ∧ w'.cell? ⟨(ad384.add (((ji9)).toNat * 9)).block, (ad384.add (((ji9)).toNat * 9)).off + 7, none⟩ = some (.int .i64 ((rd_T47 x0_2 (ji9)).f2)) ∧ w'.cell? ⟨(ad384.add (((ji9)).toNat * 9)).block, (ad384.add (((ji9)).toNat * 9)).off + 8, none⟩ = some (.int .i64 ((rd_T47 x0_2 (ji9)).f3))) (ds := []) (pf 17 0) (by kernel_rfl) rfl rfl ⟨hx384_0, hx384_1, hx384_2, hx384_3, hx384_4, hx384_5, hx384_6, hx384_7, hx384_8, hx385_0, hx385_1, hx385_2, hx385_3, hx385_4, hx385_5, hx385_6, hx385_7, hx385_8⟩ (fun hHeld => ?_); refine with_tabW slices_insertionSortCmpFunc_haircut_Item.tab4 slices_insertionSortCmpFunc_haircut_Item.bits4 (fun HT_ HW_ => ?_)
                   generalize wr.drew = w16 at HO_0 HK HB hx384_0 hx384_1 hx384_2 hx384_3 hx384_4 hx384_5 hx384_6 hx384_7 hx384_8 hx385_0 hx385_1 hx385_2 hx385_3 hx385_4 hx385_5 hx385_6 hx385_7 hx385_8 hHeld ⊢
                   refine pA (i := 0) (N := some 18) HT_ (pf 17 1) ?_
                   refine pA (i := 1) (N := some 19) HT_ (pf 17 2) ?_
                   refine pA (i := 2) (N := some 20) HT_ (pf 17 3) ?_
                   refine pA (i := 3) (N := some 21) HT_ (pf 17 4) ?_
                   refine pA (i := 4) (N := some 22) HT_ (pf 17 5) ?_
                   refine pA (i := 5) (N := some 23) HT_ (pf 17 6) ?_
                   refine pA (i := 6) (N := some 24) HT_ (pf 17 7) ?_
                   refine pA (i := 7) (N := some 25) HT_ (pf 17 8) ?_
                   refine pA (i := 9) (N := some 27) HT_ qx14_0 ?_
                   refine pA (i := 10) (N := some 28) HT_ qx14_1 ?_
                   refine pA (i := 11) (N := some 29) HT_ qx14_2 ?_
                   refine pA (i := 12) (N := some 30) HT_ qx14_3 ?_
                   refine take_ (i := 8) (N := some 26) (v := ?_) (a' := ?_) (pf 17 13) rfl rfl (take_ofW HT_.out HW_.out (by kernel_rfl)) (fun _ _ _ h => h) (Or.inl ⟨by rfl, ?_⟩) hHeld ?_ ?_
                   rotate_left
                   · rintro w' ⟨s0, s1, s2, s3, s4, s5, s6, s7, s8, s9, s10, s11, s12, s13, s14, s15, s16, s17⟩
                     go_simp
                     with_reducible rfl
                   rotate_left
                   · simp only [Act.put, sA, sB, sC, i64_w, i32_w]
                     rfl
                   refine take_ (i := 13) (N := some 31) (v := ?_) (a' := ?_) (pf 17 14) rfl rfl (take_ofW HT_.out HW_.out (by kernel_rfl)) (fun _ _ _ h => h) (Or.inl ⟨by rfl, ?_⟩) hHeld ?_ ?_
                   rotate_left
                   · rintro w' ⟨s0, s1, s2, s3, s4, s5, s6, s7, s8, s9, s10, s11, s12, s13, s14, s15, s16, s17⟩
                     go_simp
                     with_reducible rfl
                   rotate_left
                   · simp only [Act.put, sA, sB, sC, i64_w, i32_w]
                     rfl
                   refine one_ (i := 14) (N := some 32) (pf 17 15) rfl rfl (one_of HT_.out (by kernel_rfl)) (by decide) (fun K hK => ?_)
                   refine goesV_ (by rfl) Try.func39 (by kernel_rfl) rfl #[.agg #[.string ((rd_T47 x0_2 x9_2).f0.f0), .int .i64 ((rd_T47 x0_2 x9_2).f0.f1), .string ((rd_T47 x0_2 x9_2).f1.f0), .int .i64 ((rd_T47 x0_2 x9_2).f1.f1), .int .i64 ((rd_T47 x0_2 x9_2).f1.f2), .int .i64 ((rd_T47 x0_2 x9_2).f1.f3), .string ((rd_T47 x0_2 x9_2).f1.f4), .int .i64 ((rd_T47 x0_2 x9_2).f2), .int .i64 ((rd_T47 x0_2 x9_2).f3)], .agg #[.string ((rd_T47 x0_2 (ji9)).f0.f0), .int .i64 ((rd_T47 x0_2 (ji9)).f0.f1), .string ((rd_T47 x0_2 (ji9)).f1.f0), .int .i64 ((rd_T47 x0_2 (ji9)).f1.f1), .int .i64 ((rd_T47 x0_2 (ji9)).f1.f2), .int .i64 ((rd_T47 x0_2 (ji9)).f1.f3), .string ((rd_T47 x0_2 (ji9)).f1.f4), .int .i64 ((rd_T47 x0_2 (ji9)).f2), .int .i64 ((rd_T47 x0_2 (ji9)).f3)]] (by rfl) rfl rfl (by (try simp only [List.map_toArray, List.map_cons, List.map_nil]); first | done | (simp only [hji9]; rfl) | rfl | (simp only [List.length_drop, List.length_take]; rfl)) ?_
                   with_reducible refine (lots_order.calls k2 ((rd_T47 x0_2 x9_2).f0.f0) ((rd_T47 x0_2 x9_2).f0.f1) ((rd_T47 x0_2 x9_2).f1.f0) ((rd_T47 x0_2 x9_2).f1.f1) ((rd_T47 x0_2 x9_2).f1.f2) ((rd_T47 x0_2 x9_2).f1.f3) ((rd_T47 x0_2 x9_2).f1.f4) ((rd_T47 x0_2 x9_2).f2) ((rd_T47 x0_2 x9_2).f3) ((rd_T47 x0_2 (ji9)).f0.f0) ((rd_T47 x0_2 (ji9)).f0.f1) ((rd_T47 x0_2 (ji9)).f1.f0) ((rd_T47 x0_2 (ji9)).f1.f1) ((rd_T47 x0_2 (ji9)).f1.f2) ((rd_T47 x0_2 (ji9)).f1.f3) ((rd_T47 x0_2 (ji9)).f1.f4) ((rd_T47 x0_2 (ji9)).f2) ((rd_T47 x0_2 (ji9)).f3) t386 _ A12.out).mono ?_
                   rintro e w18 ⟨rfl, hb⟩
                   have HS0_ := (hb.cell (World.block_lt_of_cell? _ _ (hHeld.1))).trans (hHeld.1)
                   have HS1_ := (hb.cell (World.block_lt_of_cell? _ _ (hHeld.2.1))).trans (hHeld.2.1)
                   have HS2_ := (hb.cell (World.block_lt_of_cell? _ _ (hHeld.2.2.1))).trans (hHeld.2.2.1)
                   have HS3_ := (hb.cell (World.block_lt_of_cell? _ _ (hHeld.2.2.2.1))).trans (hHeld.2.2.2.1)
                   have HS4_ := (hb.cell (World.block_lt_of_cell? _ _ (hHeld.2.2.2.2.1))).trans (hHeld.2.2.2.2.1)
                   have HS5_ := (hb.cell (World.block_lt_of_cell? _ _ (hHeld.2.2.2.2.2.1))).trans (hHeld.2.2.2.2.2.1)
                   have HS6_ := (hb.cell (World.block_lt_of_cell? _ _ (hHeld.2.2.2.2.2.2.1))).trans (hHeld.2.2.2.2.2.2.1)
                   have HS7_ := (hb.cell (World.block_lt_of_cell? _ _ (hHeld.2.2.2.2.2.2.2.1))).trans (hHeld.2.2.2.2.2.2.2.1)
                   have HS8_ := (hb.cell (World.block_lt_of_cell? _ _ (hHeld.2.2.2.2.2.2.2.2.1))).trans (hHeld.2.2.2.2.2.2.2.2.1)
                   have HS9_ := (hb.cell (World.block_lt_of_cell? _ _ (hHeld.2.2.2.2.2.2.2.2.2.1))).trans (hHeld.2.2.2.2.2.2.2.2.2.1)
                   have HS10_ := (hb.cell (World.block_lt_of_cell? _ _ (hHeld.2.2.2.2.2.2.2.2.2.2.1))).trans (hHeld.2.2.2.2.2.2.2.2.2.2.1)
                   have HS11_ := (hb.cell (World.block_lt_of_cell? _ _ (hHeld.2.2.2.2.2.2.2.2.2.2.2.1))).trans (hHeld.2.2.2.2.2.2.2.2.2.2.2.1)
                   have HS12_ := (hb.cell (World.block_lt_of_cell? _ _ (hHeld.2.2.2.2.2.2.2.2.2.2.2.2.1))).trans (hHeld.2.2.2.2.2.2.2.2.2.2.2.2.1)
                   have HS13_ := (hb.cell (World.block_lt_of_cell? _ _ (hHeld.2.2.2.2.2.2.2.2.2.2.2.2.2.1))).trans (hHeld.2.2.2.2.2.2.2.2.2.2.2.2.2.1)
                   have HS14_ := (hb.cell (World.block_lt_of_cell? _ _ (hHeld.2.2.2.2.2.2.2.2.2.2.2.2.2.2.1))).trans (hHeld.2.2.2.2.2.2.2.2.2.2.2.2.2.2.1)
                   have HS15_ := (hb.cell (World.block_lt_of_cell? _ _ (hHeld.2.2.2.2.2.2.2.2.2.2.2.2.2.2.2.1))).trans (hHeld.2.2.2.2.2.2.2.2.2.2.2.2.2.2.2.1)
                   have HS16_ := (hb.cell (World.block_lt_of_cell? _ _ (hHeld.2.2.2.2.2.2.2.2.2.2.2.2.2.2.2.2.1))).trans (hHeld.2.2.2.2.2.2.2.2.2.2.2.2.2.2.2.2.1)
                   have HS17_ := (hb.cell (World.block_lt_of_cell? _ _ (hHeld.2.2.2.2.2.2.2.2.2.2.2.2.2.2.2.2.2))).trans (hHeld.2.2.2.2.2.2.2.2.2.2.2.2.2.2.2.2.2)
                   refine ⟨_, rfl, ?_⟩
                   have n0_ := Aside0.mk (Kd.R_below (gR HO_0) hb)
                   have n1_ := Aside0.mk (Kept.below (S := (fun k_ => P0_ k_)) (gP HK) hb)
                   have n2_ := Aside0.mk (below_step (gB HB) hb)
                   clear HO_0; clear HK; clear HB
                   have HO_0 := n0_
                   have HK := n1_
                   have HB := n2_
                   clear n0_ n1_ n2_
                   try clear hb
                   try clear hb2
                   try clear hk
                   try clear hi
                   refine hK.out _ _ ⟨HS0_, HS1_, HS2_, HS3_, HS4_, HS5_, HS6_, HS7_, HS8_, HS9_, HS10_, HS11_, HS12_, HS13_, HS14_, HS15_, HS16_, HS17_⟩ (fun hHeld => ?_)
                   clear hK K
                   refine norm_ (a' := ?_) ?_ ?_
                   rotate_left
                   · show Act.put _ (some 32) _ = _
                     simp only [Act.put, sA, sB, sC, i64_w, i32_w]
                     rfl
                   refine pA (i := 15) (N := some 33) HT_ (pf 17 16) ?_
                   refine pA (i := 16) (N := some 34) HT_ (pf 17 17) ?_
                   refine done_ (done_of HT_.out (by kernel_rfl)) ?_
                   try go_wp2
                   have n0_ := Aside0.mk (Kd.R_drew HO_0.out)
                   have n1_ := Aside0.mk (Kept.drew HK.out)
                   have n2_ := Aside0.mk (below_drew1 HB.out)
                   clear HO_0; clear HK; clear HB
                   have HO_0 := n0_
                   have HK := n1_
                   have HB := n2_
                   clear n0_ n1_ n2_
                   have p387 : 0 ≤ ((ji9) : Int) := od
                   have q387 : (ji9) < (x0_2.length : Int) := od
                   obtain ⟨ad387, e387, hx387_0, hx387_1, hx387_2, hx387_3, hx387_4, hx387_5, hx387_6, hx387_7, hx387_8⟩ := at_T47 (Kd.R_reads' HO_0.out).2.2 (ji9) p387 q387
                   obtain rfl : ad384 = ad387 := (by injection e387)
                   replace p387 := eq_true p387; replace q387 := eq_true q387
                   have p388 : 0 ≤ (x9_2 : Int) := od
                   have q388 : x9_2 < (x0_2.length : Int) := od
                   obtain ⟨ad388, e388, hx388_0, hx388_1, hx388_2, hx388_3, hx388_4, hx388_5, hx388_6, hx388_7, hx388_8⟩ := at_T47 (Kd.R_reads' HO_0.out).2.2 x9_2 p388 q388
                   obtain rfl : ad384 = ad388 := (by injection e388)
                   replace p388 := eq_true p388; replace q388 := eq_true q388
                   have p14 : 0 ≤ (x9_2 : Int) := od
                   have q14 : (x9_2 : Int) < ((x0_2.length : Int) : Int) := od
                   obtain ⟨go14, co14, eo14, gb14, gl14, cl14, HG14⟩ := Kd.R_form HO_0.out (by omega)
                   (first | cases eo14 | (injection eo14 with ea_ en_ ec_; (first | subst ea_ | (injection ea_ with ea_; subst ea_)); subst ec_; clear en_))
                   have GB14 := Aside0.mk gb14; have GG14 := Aside0.mk HG14; clear gb14 gl14 HG14
                   have HMgo14 := Aside0.mk (show (P0_ go14 ∨ w.heap.size ≤ go14) from (HO_0.out.1 _ rfl))
                   (first | simp only [add_plain] at hx384_0 | skip)
                   (first | simp only [add_plain] at hx384_1 | skip)
                   (first | simp only [add_plain] at hx384_2 | skip)
                   (first | simp only [add_plain] at hx384_3 | skip)
                   (first | simp only [add_plain] at hx384_4 | skip)
                   (first | simp only [add_plain] at hx384_5 | skip)
                   (first | simp only [add_plain] at hx384_6 | skip)
                   (first | simp only [add_plain] at hx384_7 | skip)
                   (first | simp only [add_plain] at hx384_8 | skip)
                   (first | simp only [add_plain] at hx385_0 | skip)
                   (first | simp only [add_plain] at hx385_1 | skip)
                   (first | simp only [add_plain] at hx385_2 | skip)
                   (first | simp only [add_plain] at hx385_3 | skip)
                   (first | simp only [add_plain] at hx385_4 | skip)
                   (first | simp only [add_plain] at hx385_5 | skip)
                   (first | simp only [add_plain] at hx385_6 | skip)
                   (first | simp only [add_plain] at hx385_7 | skip)
                   (first | simp only [add_plain] at hx385_8 | skip)
                   (first | simp only [add_plain] at hx387_0 | skip)
                   (first | simp only [add_plain] at hx387_1 | skip)
                   (first | simp only [add_plain] at hx387_2 | skip)
                   (first | simp only [add_plain] at hx387_3 | skip)
                   (first | simp only [add_plain] at hx387_4 | skip)
                   (first | simp only [add_plain] at hx387_5 | skip)
                   (first | simp only [add_plain] at hx387_6 | skip)
                   (first | simp only [add_plain] at hx387_7 | skip)
                   (first | simp only [add_plain] at hx387_8 | skip)
                   (first | simp only [add_plain] at hx388_0 | skip)
                   (first | simp only [add_plain] at hx388_1 | skip)
                   (first | simp only [add_plain] at hx388_2 | skip)
                   (first | simp only [add_plain] at hx388_3 | skip)
                   (first | simp only [add_plain] at hx388_4 | skip)
                   (first | simp only [add_plain] at hx388_5 | skip)
                   (first | simp only [add_plain] at hx388_6 | skip)
                   (first | simp only [add_plain] at hx388_7 | skip)
                   (first | simp only [add_plain] at hx388_8 | skip)
                   obtain ⟨ce14, hcl14, hM14, hcc14, hfr14⟩ := Kd.R_elem HO_0.out z47 (x9_2 : Int) p14 q14
                   obtain rfl := k47_openM hM14
                   have hx14_0 : World.cell? _ ⟨go14, (x9_2 : Int).toNat * 9, none⟩ = some (.string ((rd_T47 x0_2 x9_2).f0.f0)) := hcc14 0 _ rfl
                   have hx14_1 : World.cell? _ ⟨go14, (x9_2 : Int).toNat * 9 + 1, none⟩ = some (.int .i64 ((rd_T47 x0_2 x9_2).f0.f1)) := hcc14 1 _ rfl
                   have hx14_2 : World.cell? _ ⟨go14, (x9_2 : Int).toNat * 9 + 2, none⟩ = some (.string ((rd_T47 x0_2 x9_2).f1.f0)) := hcc14 2 _ rfl
                   have hx14_3 : World.cell? _ ⟨go14, (x9_2 : Int).toNat * 9 + 3, none⟩ = some (.int .i64 ((rd_T47 x0_2 x9_2).f1.f1)) := hcc14 3 _ rfl
                   have hx14_4 : World.cell? _ ⟨go14, (x9_2 : Int).toNat * 9 + 4, none⟩ = some (.int .i64 ((rd_T47 x0_2 x9_2).f1.f2)) := hcc14 4 _ rfl
                   have hx14_5 : World.cell? _ ⟨go14, (x9_2 : Int).toNat * 9 + 5, none⟩ = some (.int .i64 ((rd_T47 x0_2 x9_2).f1.f3)) := hcc14 5 _ rfl
                   have hx14_6 : World.cell? _ ⟨go14, (x9_2 : Int).toNat * 9 + 6, none⟩ = some (.string ((rd_T47 x0_2 x9_2).f1.f4)) := hcc14 6 _ rfl
                   have hx14_7 : World.cell? _ ⟨go14, (x9_2 : Int).toNat * 9 + 7, none⟩ = some (.int .i64 ((rd_T47 x0_2 x9_2).f2)) := hcc14 7 _ rfl
                   have hx14_8 : World.cell? _ ⟨go14, (x9_2 : Int).toNat * 9 + 8, none⟩ = some (.int .i64 ((rd_T47 x0_2 x9_2).f3)) := hcc14 8 _ rfl
                   have hf14_0 : World.frozen? _ ⟨go14, (x9_2 : Int).toNat * 9, none⟩ = false := hfr14 0
                   have hf14_1 : World.frozen? _ ⟨go14, (x9_2 : Int).toNat * 9 + 1, none⟩ = false := hfr14 1
                   have hf14_2 : World.frozen? _ ⟨go14, (x9_2 : Int).toNat * 9 + 2, none⟩ = false := hfr14 2
                   have hf14_3 : World.frozen? _ ⟨go14, (x9_2 : Int).toNat * 9 + 3, none⟩ = false := hfr14 3
                   have hf14_4 : World.frozen? _ ⟨go14, (x9_2 : Int).toNat * 9 + 4, none⟩ = false := hfr14 4
                   have hf14_5 : World.frozen? _ ⟨go14, (x9_2 : Int).toNat * 9 + 5, none⟩ = false := hfr14 5
                   have hf14_6 : World.frozen? _ ⟨go14, (x9_2 : Int).toNat * 9 + 6, none⟩ = false := hfr14 6
                   have hf14_7 : World.frozen? _ ⟨go14, (x9_2 : Int).toNat * 9 + 7, none⟩ = false := hfr14 7
                   have hf14_8 : World.frozen? _ ⟨go14, (x9_2 : Int).toNat * 9 + 8, none⟩ = false := hfr14 8
                   clear hcl14 hcc14 hfr14 hM14; replace p14 := eq_true p14; replace q14 := eq_true q14
                   obtain ⟨ce20, hcl20, hM20, hcc20, hfr20⟩ := Kd.R_elem HO_0.out z47 (x9_2 : Int) (od) (by have h_ : (x9_2 : Int) < ((x0_2.length : Int) : Int) := od; first | exact h_ | (have e_ := (Kd.R_reads' HO_0.out).1; omega) | simpa using h_)
                   obtain rfl := k47_openM hM20
                   have HP20 := (Kd.R_seg HO_0.out (x9_2 : Int) (od) (by have h_ : (x9_2 : Int) < ((x0_2.length : Int) : Int) := od; first | exact h_ | (have e_ := (Kd.R_reads' HO_0.out).1; omega) | simpa using h_) (seg := [.string ((rd_T47 x0_2 (ji9)).f0.f0), .int .i64 ((rd_T47 x0_2 (ji9)).f0.f1), .string ((rd_T47 x0_2 (ji9)).f1.f0), .int .i64 ((rd_T47 x0_2 (ji9)).f1.f1), .int .i64 ((rd_T47 x0_2 (ji9)).f1.f2), .int .i64 ((rd_T47 x0_2 (ji9)).f1.f3), .string ((rd_T47 x0_2 (ji9)).f1.f4), .int .i64 ((rd_T47 x0_2 (ji9)).f2), .int .i64 ((rd_T47 x0_2 (ji9)).f3)]) (j := 0) hcl20 hcc20 (show 9 ≤ 9 from by decide) (x' := (⟨(⟨(rd_T47 x0_2 (ji9)).f0.f0, (rd_T47 x0_2 (ji9)).f0.f1⟩ : S43), (⟨(rd_T47 x0_2 (ji9)).f1.f0, (rd_T47 x0_2 (ji9)).f1.f1, (rd_T47 x0_2 (ji9)).f1.f2, (rd_T47 x0_2 (ji9)).f1.f3, (rd_T47 x0_2 (ji9)).f1.f4⟩ : S45), (rd_T47 x0_2 (ji9)).f2, (rd_T47 x0_2 (ji9)).f3⟩ : S47)) (k47_mkM _ _ _ (⟨(⟨(rd_T47 x0_2 (ji9)).f0.f0, (rd_T47 x0_2 (ji9)).f0.f1⟩ : S43), (⟨(rd_T47 x0_2 (ji9)).f1.f0, (rd_T47 x0_2 (ji9)).f1.f1, (rd_T47 x0_2 (ji9)).f1.f2, (rd_T47 x0_2 (ji9)).f1.f3, (rd_T47 x0_2 (ji9)).f1.f4⟩ : S45), (rd_T47 x0_2 (ji9)).f2, (rd_T47 x0_2 (ji9)).f3⟩ : S47) ) (fun _ hk => hk)).1
                   rw [← Ny389.out] at HP20
                   have HQ20 := Aside0.mk HP20; clear hcl20 hcc20 hfr20 hM20 HP20
                   have p15 : 0 ≤ ((ji9) : Int) := od
                   have q15 : ((ji9) : Int) < ((x0_2.length : Int) : Int) := od
                   obtain ⟨ce15, hcl15, hM15, hcc15, hfr15⟩ := Kd.R_elem HQ20.out z47 ((ji9) : Int) p15 q15
                   obtain rfl := k47_openM hM15
                   have hx15_0 : World.cell? _ ⟨go14, ((ji9) : Int).toNat * 9, none⟩ = some (.string ((rd_T47 y389 (ji9)).f0.f0)) := hcc15 0 _ rfl
                   have hx15_1 : World.cell? _ ⟨go14, ((ji9) : Int).toNat * 9 + 1, none⟩ = some (.int .i64 ((rd_T47 y389 (ji9)).f0.f1)) := hcc15 1 _ rfl
                   have hx15_2 : World.cell? _ ⟨go14, ((ji9) : Int).toNat * 9 + 2, none⟩ = some (.string ((rd_T47 y389 (ji9)).f1.f0)) := hcc15 2 _ rfl
                   have hx15_3 : World.cell? _ ⟨go14, ((ji9) : Int).toNat * 9 + 3, none⟩ = some (.int .i64 ((rd_T47 y389 (ji9)).f1.f1)) := hcc15 3 _ rfl
                   have hx15_4 : World.cell? _ ⟨go14, ((ji9) : Int).toNat * 9 + 4, none⟩ = some (.int .i64 ((rd_T47 y389 (ji9)).f1.f2)) := hcc15 4 _ rfl
                   have hx15_5 : World.cell? _ ⟨go14, ((ji9) : Int).toNat * 9 + 5, none⟩ = some (.int .i64 ((rd_T47 y389 (ji9)).f1.f3)) := hcc15 5 _ rfl
                   have hx15_6 : World.cell? _ ⟨go14, ((ji9) : Int).toNat * 9 + 6, none⟩ = some (.string ((rd_T47 y389 (ji9)).f1.f4)) := hcc15 6 _ rfl
                   have hx15_7 : World.cell? _ ⟨go14, ((ji9) : Int).toNat * 9 + 7, none⟩ = some (.int .i64 ((rd_T47 y389 (ji9)).f2)) := hcc15 7 _ rfl
                   have hx15_8 : World.cell? _ ⟨go14, ((ji9) : Int).toNat * 9 + 8, none⟩ = some (.int .i64 ((rd_T47 y389 (ji9)).f3)) := hcc15 8 _ rfl
                   have hf15_0 : World.frozen? _ ⟨go14, ((ji9) : Int).toNat * 9, none⟩ = false := hfr15 0
                   have hf15_1 : World.frozen? _ ⟨go14, ((ji9) : Int).toNat * 9 + 1, none⟩ = false := hfr15 1
                   have hf15_2 : World.frozen? _ ⟨go14, ((ji9) : Int).toNat * 9 + 2, none⟩ = false := hfr15 2
                   have hf15_3 : World.frozen? _ ⟨go14, ((ji9) : Int).toNat * 9 + 3, none⟩ = false := hfr15 3
                   have hf15_4 : World.frozen? _ ⟨go14, ((ji9) : Int).toNat * 9 + 4, none⟩ = false := hfr15 4
                   have hf15_5 : World.frozen? _ ⟨go14, ((ji9) : Int).toNat * 9 + 5, none⟩ = false := hfr15 5
                   have hf15_6 : World.frozen? _ ⟨go14, ((ji9) : Int).toNat * 9 + 6, none⟩ = false := hfr15 6
                   have hf15_7 : World.frozen? _ ⟨go14, ((ji9) : Int).toNat * 9 + 7, none⟩ = false := hfr15 7
                   have hf15_8 : World.frozen? _ ⟨go14, ((ji9) : Int).toNat * 9 + 8, none⟩ = false := hfr15 8
                   clear hcl15 hcc15 hfr15 hM15; replace p15 := eq_true p15; replace q15 := eq_true q15
                   obtain ⟨ce21, hcl21, hM21, hcc21, hfr21⟩ := Kd.R_elem HQ20.out z47 ((ji9) : Int) (od) (by have h_ : ((ji9) : Int) < ((x0_2.length : Int) : Int) := od; first | exact h_ | (have e_ := (Kd.R_reads' HO_0.out).1; omega) | simpa using h_)
                   obtain rfl := k47_openM hM21
                   have HP21 := (Kd.R_seg HQ20.out ((ji9) : Int) (od) (by have h_ : ((ji9) : Int) < ((x0_2.length : Int) : Int) := od; first | exact h_ | (have e_ := (Kd.R_reads' HO_0.out).1; omega) | simpa using h_) (seg := [.string ((rd_T47 x0_2 x9_2).f0.f0), .int .i64 ((rd_T47 x0_2 x9_2).f0.f1), .string ((rd_T47 x0_2 x9_2).f1.f0), .int .i64 ((rd_T47 x0_2 x9_2).f1.f1), .int .i64 ((rd_T47 x0_2 x9_2).f1.f2), .int .i64 ((rd_T47 x0_2 x9_2).f1.f3), .string ((rd_T47 x0_2 x9_2).f1.f4), .int .i64 ((rd_T47 x0_2 x9_2).f2), .int .i64 ((rd_T47 x0_2 x9_2).f3)]) (j := 0) hcl21 hcc21 (show 9 ≤ 9 from by decide) (x' := (⟨(⟨(rd_T47 x0_2 x9_2).f0.f0, (rd_T47 x0_2 x9_2).f0.f1⟩ : S43), (⟨(rd_T47 x0_2 x9_2).f1.f0, (rd_T47 x0_2 x9_2).f1.f1, (rd_T47 x0_2 x9_2).f1.f2, (rd_T47 x0_2 x9_2).f1.f3, (rd_T47 x0_2 x9_2).f1.f4⟩ : S45), (rd_T47 x0_2 x9_2).f2, (rd_T47 x0_2 x9_2).f3⟩ : S47)) (k47_mkM _ _ _ (⟨(⟨(rd_T47 x0_2 x9_2).f0.f0, (rd_T47 x0_2 x9_2).f0.f1⟩ : S43), (⟨(rd_T47 x0_2 x9_2).f1.f0, (rd_T47 x0_2 x9_2).f1.f1, (rd_T47 x0_2 x9_2).f1.f2, (rd_T47 x0_2 x9_2).f1.f3, (rd_T47 x0_2 x9_2).f1.f4⟩ : S45), (rd_T47 x0_2 x9_2).f2, (rd_T47 x0_2 x9_2).f3⟩ : S47) ) (fun _ hk => hk)).1
                   rw [← Ny390.out] at HP21
                   have HQ21 := Aside0.mk HP21; clear hcl21 hcc21 hfr21 hM21 HP21
                   refine start_ (n := 18) (S := fun w' => w'.cell? ⟨go14, ((ji9)).toNat * 9, none⟩ = some (.string ((rd_T47 x0_2 (ji9)).f0.f0)) ∧ w'.cell? ⟨go14, ((ji9)).toNat * 9 + 1, none⟩ = some (.int .i64 ((rd_T47 x0_2 (ji9)).f0.f1)) ∧ w'.cell? ⟨go14, ((ji9)).toNat * 9 + 2, none⟩ = some (.string ((rd_T47 x0_2 (ji9)).f1.f0)) ∧ w'.cell? ⟨go14, ((ji9)).toNat * 9 + 3, none⟩ = some (.int .i64 ((rd_T47 x0_2 (ji9)).f1.f1)) ∧ w'.cell? ⟨go14, ((ji9)).toNat * 9 + 4, none⟩ = some (.int .i64 ((rd_T47 x0_2 (ji9)).f1.f2)) ∧ w'.cell? ⟨go14, ((ji9)).toNat * 9 + 5, none⟩ = some (.int .i64 ((rd_T47 x0_2 (ji9)).f1.f3)) ∧ w'.cell? ⟨go14, ((ji9)).toNat * 9 + 6, none⟩ = some (.string ((rd_T47 x0_2 (ji9)).f1.f4)) ∧ w'.cell? ⟨go14, ((ji9)).toNat * 9 + 7, none⟩ = some (.int .i64 ((rd_T47 x0_2 (ji9)).f2)) ∧ w'.cell? ⟨go14, ((ji9)).toNat * 9 + 8, none⟩ = some (.int .i64 ((rd_T47 x0_2 (ji9)).f3)) ∧ w'.cell? ⟨go14, ((x9_2).toNat * 9), none⟩ = some (.string ((rd_T47 x0_2 x9_2).f0.f0)) ∧ w'.cell? ⟨go14, ((x9_2).toNat * 9) + 1, none⟩ = some (.int .i64 ((rd_T47 x0_2 x9_2).f0.f1)) ∧ w'.cell? ⟨go14, ((x9_2).toNat * 9) + 2, none⟩ = some (.string ((rd_T47 x0_2 x9_2).f1.f0)) ∧ w'.cell? ⟨go14, ((x9_2).toNat * 9) + 3, none⟩ = some (.int .i64 ((rd_T47 x0_2 x9_2).f1.f1)) ∧ w'.cell? ⟨go14, ((x9_2).toNat * 9) + 4, none⟩ = some (.int .i64 ((rd_T47 x0_2 x9_2).f1.f2)) ∧ w'.cell? ⟨go14, ((x9_2).toNat * 9) + 5, none⟩ = some (.int .i64 ((rd_T47 x0_2 x9_2).f1.f3)) ∧ w'.cell? ⟨go14, ((x9_2).toNat * 9) + 6, none⟩ = some (.string ((rd_T47 x0_2 x9_2).f1.f4)) ∧ w'.cell? ⟨go14, ((x9_2).toNat * 9) + 7, none⟩ = some (.int .i64 ((rd_T47 x0_2 x9_2).f2)) ∧ w'.cell? ⟨go14, ((x9_2).toNat * 9) + 8, none⟩ = some (.int .i64 ((rd_T47 x0_2 x9_2).f3))) (ds := [15, 17]) (pf 18 0) (by kernel_rfl) rfl rfl ⟨hx387_0, hx387_1, hx387_2, hx387_3, hx387_4, hx387_5, hx387_6, hx387_7, hx387_8, hx388_0, hx388_1, hx388_2, hx388_3, hx388_4, hx388_5, hx388_6, hx388_7, hx388_8⟩ (fun hHeld => ?_); refine with_tabW slices_insertionSortCmpFunc_haircut_Item.tab6 slices_insertionSortCmpFunc_haircut_Item.bits6 (fun HT_ HW_ => ?_)
                   generalize w18.drew = w19 at HO_0 HK HB GG14 HQ20 HQ21 hf14_0 hf14_1 hf14_2 hf14_3 hf14_4 hf14_5 hf14_6 hf14_7 hf14_8 hf15_0 hf15_1 hf15_2 hf15_3 hf15_4 hf15_5 hf15_6 hf15_7 hf15_8 hx14_0 hx14_1 hx14_2 hx14_3 hx14_4 hx14_5 hx14_6 hx14_7 hx14_8 hx15_0 hx15_1 hx15_2 hx15_3 hx15_4 hx15_5 hx15_6 hx15_7 hx15_8 hx384_0 hx384_1 hx384_2 hx384_3 hx384_4 hx384_5 hx384_6 hx384_7 hx384_8 hx385_0 hx385_1 hx385_2 hx385_3 hx385_4 hx385_5 hx385_6 hx385_7 hx385_8 hx387_0 hx387_1 hx387_2 hx387_3 hx387_4 hx387_5 hx387_6 hx387_7 hx387_8 hx388_0 hx388_1 hx388_2 hx388_3 hx388_4 hx388_5 hx388_6 hx388_7 hx388_8 hHeld ⊢
                   refine pA (i := 0) (N := some 37) HT_ (pf 18 1) ?_
                   refine pA (i := 1) (N := some 38) HT_ (pf 18 2) ?_
                   refine pA (i := 2) (N := some 39) HT_ (pf 18 3) ?_
                   refine pA (i := 3) (N := some 40) HT_ (pf 18 4) ?_
                   refine pA (i := 4) (N := some 41) HT_ (pf 18 5) ?_
                   refine pA (i := 5) (N := some 42) HT_ (pf 18 6) ?_
                   refine pA (i := 6) (N := some 43) HT_ (pf 18 7) ?_
                   refine pA (i := 7) (N := some 44) HT_ (pf 18 8) ?_
                   refine pA (i := 8) (N := some 45) HT_ (pf 18 9) ?_
                   refine pA (i := 10) (N := some 47) HT_ #[true, true, true, true, true, true, true, true, true, false, true, false, false, false, false, false, false, false] ?_
                   refine pA (i := 11) (N := some 48) HT_ #[true, true, true, true, true, true, true, true, true, false, true, true, false, false, false, false, false, false] ?_
                   refine pA (i := 12) (N := some 49) HT_ #[true, true, true, true, true, true, true, true, true, false, true, true, true, false, false, false, false, false] ?_
                   refine take_ (i := 9) (N := some 46) (v := ?_) (a' := ?_) (pf 18 13) rfl rfl (take_ofW HT_.out HW_.out (by kernel_rfl)) (fun _ _ _ h => h) (Or.inl ⟨by rfl, ?_⟩) hHeld ?_ ?_
                   rotate_left
                   · rintro w' ⟨s0, s1, s2, s3, s4, s5, s6, s7, s8, s9, s10, s11, s12, s13, s14, s15, s16, s17⟩
                     go_simp
                     with_reducible rfl
                   rotate_left
                   · simp only [Act.put, sA, sB, sC, i64_w, i32_w]
                     rfl
                   refine take_ (i := 13) (N := some 50) (v := ?_) (a' := ?_) (pf 18 14) rfl rfl (take_ofW HT_.out HW_.out (by kernel_rfl)) (fun _ _ _ h => h) (Or.inl ⟨by rfl, ?_⟩) hHeld ?_ ?_
                   rotate_left
                   · rintro w' ⟨s0, s1, s2, s3, s4, s5, s6, s7, s8, s9, s10, s11, s12, s13, s14, s15, s16, s17⟩
                     go_simp
                     with_reducible rfl
                   rotate_left
                   · simp only [Act.put, sA, sB, sC, i64_w, i32_w]
                     rfl
                   refine pA (i := 14) (N := some 51) HT_ (pf 18 15) ?_
                   refine last_ (i := 15) (N := none) (pf 18 16) rfl rfl (one_of HT_.out (by kernel_rfl)) (by decide) (fun K hK => ?_)
                   refine skip_ (by rfl) rfl (st_skip HO_0 z47 (x9_2 : Int) (od) (by have h_ : (x9_2 : Int) < ((x0_2.length : Int) : Int) := od; first | exact h_ | (have e_ := (Kd.R_reads' HO_0.out).1; omega) | simpa using h_) [.string ((rd_T47 x0_2 (ji9)).f0.f0), .int .i64 ((rd_T47 x0_2 (ji9)).f0.f1), .string ((rd_T47 x0_2 (ji9)).f1.f0), .int .i64 ((rd_T47 x0_2 (ji9)).f1.f1), .int .i64 ((rd_T47 x0_2 (ji9)).f1.f2), .int .i64 ((rd_T47 x0_2 (ji9)).f1.f3), .string ((rd_T47 x0_2 (ji9)).f1.f4), .int .i64 ((rd_T47 x0_2 (ji9)).f2), .int .i64 ((rd_T47 x0_2 (ji9)).f3)] rfl (by rfl) rfl (by go_simp) rfl (by kernel_rfl) (by simp [Value.oneCell'])) ?_
                   refine hK.out _ _ ?_
                   clear hK K
                   generalize hz_ : World.setCells w19 go14 (Int.toNat (x9_2 : Int) * k47.sz + 0) [.string ((rd_T47 x0_2 (ji9)).f0.f0), .int .i64 ((rd_T47 x0_2 (ji9)).f0.f1), .string ((rd_T47 x0_2 (ji9)).f1.f0), .int .i64 ((rd_T47 x0_2 (ji9)).f1.f1), .int .i64 ((rd_T47 x0_2 (ji9)).f1.f2), .int .i64 ((rd_T47 x0_2 (ji9)).f1.f3), .string ((rd_T47 x0_2 (ji9)).f1.f4), .int .i64 ((rd_T47 x0_2 (ji9)).f2), .int .i64 ((rd_T47 x0_2 (ji9)).f3)] = wz_ at HQ20 HQ21 ⊢
                   refine pA (i := 16) (N := some 52) HT_ (pf 18 17) ?_
                   refine last_ (i := 17) (N := none) (pf 18 18) rfl rfl (one_of HT_.out (by kernel_rfl)) (by decide) (fun K hK => ?_)
                   refine skip_ (by rfl) rfl (st_skip HQ20 z47 ((ji9) : Int) (od) (by have h_ : ((ji9) : Int) < ((x0_2.length : Int) : Int) := od; first | exact h_ | (have e_ := (Kd.R_reads' HO_0.out).1; omega) | simpa using h_) [.string ((rd_T47 x0_2 x9_2).f0.f0), .int .i64 ((rd_T47 x0_2 x9_2).f0.f1), .string ((rd_T47 x0_2 x9_2).f1.f0), .int .i64 ((rd_T47 x0_2 x9_2).f1.f1), .int .i64 ((rd_T47 x0_2 x9_2).f1.f2), .int .i64 ((rd_T47 x0_2 x9_2).f1.f3), .string ((rd_T47 x0_2 x9_2).f1.f4), .int .i64 ((rd_T47 x0_2 x9_2).f2), .int .i64 ((rd_T47 x0_2 x9_2).f3)] rfl (by rfl) rfl (by go_simp) rfl (by kernel_rfl) (by simp [Value.oneCell'])) ?_
                   refine hK.out _ _ ?_
                   clear hK K; subst hz_
                   refine done_ (done_of HT_.out (by kernel_rfl)) ?_
                   try go_wp2
                   go_roundg k2
                   case measure => have := HK1.out; have := HK2.out; omega
                   case rel => exact ⟨(y390), (ji9), (by first | rfl | (simp; done) | (simp only [← hji9] <;> (first | rfl | simp)) | (simp [*]; done)), H', ⟨by have := HK1.out; have := HK2.out; omega⟩, ⟨gR HQ21⟩, ⟨gQ HK⟩, ⟨gS HB⟩⟩
                 · rw [if_neg c13] at H
                   have c13b0 : decide (t386 < 0) = false := decide_eq_false c13
                   clear c13
                   have H' := Aside0.mk H
                   clear H
                   try go_wp2
                   have n0_ := Aside0.mk (Kd.R_drew HO_0.out)
                   have n1_ := Aside0.mk (Kept.drew HK.out)
                   have n2_ := Aside0.mk (below_drew1 HB.out)
                   clear HO_0; clear HK; clear HB
                   have HO_0 := n0_
                   have HK := n1_
                   have HB := n2_
                   clear n0_ n1_ n2_
                   obtain ⟨Ao23, co23, eo23⟩ := Kd.R_slice HO_0.out
                   (first | subst eo23 | (injection eo23 with f1_ f2_ f3_; have f4_ := f1_.symm; have f5_ := f3_.symm; clear f1_ f2_ f3_; subst f4_; subst f5_))
                   have p384 : 0 ≤ (x9_2 : Int) := od
                   have q384 : x9_2 < (x0_2.length : Int) := od
                   obtain ⟨ad384, e384, hx384_0, hx384_1, hx384_2, hx384_3, hx384_4, hx384_5, hx384_6, hx384_7, hx384_8⟩ := at_T47 (Kd.R_reads' HO_0.out).2.2 x9_2 p384 q384
                   cases e384; replace p384 := eq_true p384; replace q384 := eq_true q384
                   have p385 : 0 ≤ ((ji9) : Int) := od
                   have q385 : (ji9) < (x0_2.length : Int) := od
                   obtain ⟨ad385, e385, hx385_0, hx385_1, hx385_2, hx385_3, hx385_4, hx385_5, hx385_6, hx385_7, hx385_8⟩ := at_T47 (Kd.R_reads' HO_0.out).2.2 (ji9) p385 q385
                   obtain rfl : ad384 = ad385 := (by injection e385)
                   replace p385 := eq_true p385; replace q385 := eq_true q385
                   refine start_ (n := 17) (S := fun w' => w'.cell? (ad384.add ((x9_2).toNat * 9)) = some (.string ((rd_T47 x0_2 x9_2).f0.f0)) ∧ w'.cell? ⟨(ad384.add ((x9_2).toNat * 9)).block, (ad384.add ((x9_2).toNat * 9)).off + 1, none⟩ = some (.int .i64 ((rd_T47 x0_2 x9_2).f0.f1)) ∧ w'.cell? ⟨(ad384.add ((x9_2).toNat * 9)).block, (ad384.add ((x9_2).toNat * 9)).off + 2, none⟩ = some (.string ((rd_T47 x0_2 x9_2).f1.f0)) ∧ w'.cell? ⟨(ad384.add ((x9_2).toNat * 9)).block, (ad384.add ((x9_2).toNat * 9)).off + 3, none⟩ = some (.int .i64 ((rd_T47 x0_2 x9_2).f1.f1)) ∧ w'.cell? ⟨(ad384.add ((x9_2).toNat * 9)).block, (ad384.add ((x9_2).toNat * 9)).off + 4, none⟩ = some (.int .i64 ((rd_T47 x0_2 x9_2).f1.f2)) ∧ w'.cell? ⟨(ad384.add ((x9_2).toNat * 9)).block, (ad384.add ((x9_2).toNat * 9)).off + 5, none⟩ = some (.int .i64 ((rd_T47 x0_2 x9_2).f1.f3)) ∧ w'.cell? ⟨(ad384.add ((x9_2).toNat * 9)).block, (ad384.add ((x9_2).toNat * 9)).off + 6, none⟩ = some (.string ((rd_T47 x0_2 x9_2).f1.f4)) ∧ w'.cell? ⟨(ad384.add ((x9_2).toNat * 9)).block, (ad384.add ((x9_2).toNat * 9)).off + 7, none⟩ = some (.int .i64 ((rd_T47 x0_2 x9_2).f2)) ∧ w'.cell? ⟨(ad384.add ((x9_2).toNat * 9)).block, (ad384.add ((x9_2).toNat * 9)).off + 8, none⟩ = some (.int .i64 ((rd_T47 x0_2 x9_2).f3)) ∧ w'.cell? (ad384.add (((ji9)).toNat * 9)) = some (.string ((rd_T47 x0_2 (ji9)).f0.f0)) ∧ w'.cell? ⟨(ad384.add (((ji9)).toNat * 9)).block, (ad384.add (((ji9)).toNat * 9)).off + 1, none⟩ = some (.int .i64 ((rd_T47 x0_2 (ji9)).f0.f1)) ∧ w'.cell? ⟨(ad384.add (((ji9)).toNat * 9)).block, (ad384.add (((ji9)).toNat * 9)).off + 2, none⟩ = some (.string ((rd_T47 x0_2 (ji9)).f1.f0)) ∧ w'.cell? ⟨(ad384.add (((ji9)).toNat * 9)).block, (ad384.add (((ji9)).toNat * 9)).off + 3, none⟩ = some (.int .i64 ((rd_T47 x0_2 (ji9)).f1.f1)) ∧ w'.cell? ⟨(ad384.add (((ji9)).toNat * 9)).block, (ad384.add (((ji9)).toNat * 9)).off + 4, none⟩ = some (.int .i64 ((rd_T47 x0_2 (ji9)).f1.f2)) ∧ w'.cell? ⟨(ad384.add (((ji9)).toNat * 9)).block, (ad384.add (((ji9)).toNat * 9)).off + 5, none⟩ = some (.int .i64 ((rd_T47 x0_2 (ji9)).f1.f3)) ∧ w'.cell? ⟨(ad384.add (((ji9)).toNat * 9)).block, (ad384.add (((ji9)).toNat * 9)).off + 6, none⟩ = some (.string ((rd_T47 x0_2 (ji9)).f1.f4)) ∧ w'.cell? ⟨(ad384.add (((ji9)).toNat * 9)).block, (ad384.add (((ji9)).toNat * 9)).off + 7, none⟩ = some (.int .i64 ((rd_T47 x0_2 (ji9)).f2)) ∧ w'.cell? ⟨(ad384.add (((ji9)).toNat * 9)).block, (ad384.add (((ji9)).toNat * 9)).off + 8, none⟩ = some (.int .i64 ((rd_T47 x0_2 (ji9)).f3))) (ds := []) (pf 17 0) (by kernel_rfl) rfl rfl ⟨hx384_0, hx384_1, hx384_2, hx384_3, hx384_4, hx384_5, hx384_6, hx384_7, hx384_8, hx385_0, hx385_1, hx385_2, hx385_3, hx385_4, hx385_5, hx385_6, hx385_7, hx385_8⟩ (fun hHeld => ?_); refine with_tabW slices_insertionSortCmpFunc_haircut_Item.tab4 slices_insertionSortCmpFunc_haircut_Item.bits4 (fun HT_ HW_ => ?_)
                   generalize wr.drew = w22 at HO_0 HK HB hx384_0 hx384_1 hx384_2 hx384_3 hx384_4 hx384_5 hx384_6 hx384_7 hx384_8 hx385_0 hx385_1 hx385_2 hx385_3 hx385_4 hx385_5 hx385_6 hx385_7 hx385_8 hHeld ⊢
                   refine pA (i := 0) (N := some 18) HT_ (pf 17 1) ?_
                   refine pA (i := 1) (N := some 19) HT_ (pf 17 2) ?_
                   refine pA (i := 2) (N := some 20) HT_ (pf 17 3) ?_
                   refine pA (i := 3) (N := some 21) HT_ (pf 17 4) ?_
                   refine pA (i := 4) (N := some 22) HT_ (pf 17 5) ?_
                   refine pA (i := 5) (N := some 23) HT_ (pf 17 6) ?_
                   refine pA (i := 6) (N := some 24) HT_ (pf 17 7) ?_
                   refine pA (i := 7) (N := some 25) HT_ (pf 17 8) ?_
                   refine pA (i := 9) (N := some 27) HT_ qx14_0 ?_
                   refine pA (i := 10) (N := some 28) HT_ qx14_1 ?_
                   refine pA (i := 11) (N := some 29) HT_ qx14_2 ?_
                   refine pA (i := 12) (N := some 30) HT_ qx14_3 ?_
                   refine take_ (i := 8) (N := some 26) (v := ?_) (a' := ?_) (pf 17 13) rfl rfl (take_ofW HT_.out HW_.out (by kernel_rfl)) (fun _ _ _ h => h) (Or.inl ⟨by rfl, ?_⟩) hHeld ?_ ?_
                   rotate_left
                   · rintro w' ⟨s0, s1, s2, s3, s4, s5, s6, s7, s8, s9, s10, s11, s12, s13, s14, s15, s16, s17⟩
                     go_simp
                     with_reducible rfl
                   rotate_left
                   · simp only [Act.put, sA, sB, sC, i64_w, i32_w]
                     rfl
                   refine take_ (i := 13) (N := some 31) (v := ?_) (a' := ?_) (pf 17 14) rfl rfl (take_ofW HT_.out HW_.out (by kernel_rfl)) (fun _ _ _ h => h) (Or.inl ⟨by rfl, ?_⟩) hHeld ?_ ?_
                   rotate_left
                   · rintro w' ⟨s0, s1, s2, s3, s4, s5, s6, s7, s8, s9, s10, s11, s12, s13, s14, s15, s16, s17⟩
                     go_simp
                     with_reducible rfl
                   rotate_left
                   · simp only [Act.put, sA, sB, sC, i64_w, i32_w]
                     rfl
                   refine one_ (i := 14) (N := some 32) (pf 17 15) rfl rfl (one_of HT_.out (by kernel_rfl)) (by decide) (fun K hK => ?_)
                   refine goesV_ (by rfl) Try.func39 (by kernel_rfl) rfl #[.agg #[.string ((rd_T47 x0_2 x9_2).f0.f0), .int .i64 ((rd_T47 x0_2 x9_2).f0.f1), .string ((rd_T47 x0_2 x9_2).f1.f0), .int .i64 ((rd_T47 x0_2 x9_2).f1.f1), .int .i64 ((rd_T47 x0_2 x9_2).f1.f2), .int .i64 ((rd_T47 x0_2 x9_2).f1.f3), .string ((rd_T47 x0_2 x9_2).f1.f4), .int .i64 ((rd_T47 x0_2 x9_2).f2), .int .i64 ((rd_T47 x0_2 x9_2).f3)], .agg #[.string ((rd_T47 x0_2 (ji9)).f0.f0), .int .i64 ((rd_T47 x0_2 (ji9)).f0.f1), .string ((rd_T47 x0_2 (ji9)).f1.f0), .int .i64 ((rd_T47 x0_2 (ji9)).f1.f1), .int .i64 ((rd_T47 x0_2 (ji9)).f1.f2), .int .i64 ((rd_T47 x0_2 (ji9)).f1.f3), .string ((rd_T47 x0_2 (ji9)).f1.f4), .int .i64 ((rd_T47 x0_2 (ji9)).f2), .int .i64 ((rd_T47 x0_2 (ji9)).f3)]] (by rfl) rfl rfl (by (try simp only [List.map_toArray, List.map_cons, List.map_nil]); first | done | (simp only [hji9]; rfl) | rfl | (simp only [List.length_drop, List.length_take]; rfl)) ?_
                   with_reducible refine (lots_order.calls k2 ((rd_T47 x0_2 x9_2).f0.f0) ((rd_T47 x0_2 x9_2).f0.f1) ((rd_T47 x0_2 x9_2).f1.f0) ((rd_T47 x0_2 x9_2).f1.f1) ((rd_T47 x0_2 x9_2).f1.f2) ((rd_T47 x0_2 x9_2).f1.f3) ((rd_T47 x0_2 x9_2).f1.f4) ((rd_T47 x0_2 x9_2).f2) ((rd_T47 x0_2 x9_2).f3) ((rd_T47 x0_2 (ji9)).f0.f0) ((rd_T47 x0_2 (ji9)).f0.f1) ((rd_T47 x0_2 (ji9)).f1.f0) ((rd_T47 x0_2 (ji9)).f1.f1) ((rd_T47 x0_2 (ji9)).f1.f2) ((rd_T47 x0_2 (ji9)).f1.f3) ((rd_T47 x0_2 (ji9)).f1.f4) ((rd_T47 x0_2 (ji9)).f2) ((rd_T47 x0_2 (ji9)).f3) t386 _ A12.out).mono ?_
                   rintro e w24 ⟨rfl, hb⟩
                   have HS0_ := (hb.cell (World.block_lt_of_cell? _ _ (hHeld.1))).trans (hHeld.1)
                   have HS1_ := (hb.cell (World.block_lt_of_cell? _ _ (hHeld.2.1))).trans (hHeld.2.1)
                   have HS2_ := (hb.cell (World.block_lt_of_cell? _ _ (hHeld.2.2.1))).trans (hHeld.2.2.1)
                   have HS3_ := (hb.cell (World.block_lt_of_cell? _ _ (hHeld.2.2.2.1))).trans (hHeld.2.2.2.1)
                   have HS4_ := (hb.cell (World.block_lt_of_cell? _ _ (hHeld.2.2.2.2.1))).trans (hHeld.2.2.2.2.1)
                   have HS5_ := (hb.cell (World.block_lt_of_cell? _ _ (hHeld.2.2.2.2.2.1))).trans (hHeld.2.2.2.2.2.1)
                   have HS6_ := (hb.cell (World.block_lt_of_cell? _ _ (hHeld.2.2.2.2.2.2.1))).trans (hHeld.2.2.2.2.2.2.1)
                   have HS7_ := (hb.cell (World.block_lt_of_cell? _ _ (hHeld.2.2.2.2.2.2.2.1))).trans (hHeld.2.2.2.2.2.2.2.1)
                   have HS8_ := (hb.cell (World.block_lt_of_cell? _ _ (hHeld.2.2.2.2.2.2.2.2.1))).trans (hHeld.2.2.2.2.2.2.2.2.1)
                   have HS9_ := (hb.cell (World.block_lt_of_cell? _ _ (hHeld.2.2.2.2.2.2.2.2.2.1))).trans (hHeld.2.2.2.2.2.2.2.2.2.1)
                   have HS10_ := (hb.cell (World.block_lt_of_cell? _ _ (hHeld.2.2.2.2.2.2.2.2.2.2.1))).trans (hHeld.2.2.2.2.2.2.2.2.2.2.1)
                   have HS11_ := (hb.cell (World.block_lt_of_cell? _ _ (hHeld.2.2.2.2.2.2.2.2.2.2.2.1))).trans (hHeld.2.2.2.2.2.2.2.2.2.2.2.1)
                   have HS12_ := (hb.cell (World.block_lt_of_cell? _ _ (hHeld.2.2.2.2.2.2.2.2.2.2.2.2.1))).trans (hHeld.2.2.2.2.2.2.2.2.2.2.2.2.1)
                   have HS13_ := (hb.cell (World.block_lt_of_cell? _ _ (hHeld.2.2.2.2.2.2.2.2.2.2.2.2.2.1))).trans (hHeld.2.2.2.2.2.2.2.2.2.2.2.2.2.1)
                   have HS14_ := (hb.cell (World.block_lt_of_cell? _ _ (hHeld.2.2.2.2.2.2.2.2.2.2.2.2.2.2.1))).trans (hHeld.2.2.2.2.2.2.2.2.2.2.2.2.2.2.1)
                   have HS15_ := (hb.cell (World.block_lt_of_cell? _ _ (hHeld.2.2.2.2.2.2.2.2.2.2.2.2.2.2.2.1))).trans (hHeld.2.2.2.2.2.2.2.2.2.2.2.2.2.2.2.1)
                   have HS16_ := (hb.cell (World.block_lt_of_cell? _ _ (hHeld.2.2.2.2.2.2.2.2.2.2.2.2.2.2.2.2.1))).trans (hHeld.2.2.2.2.2.2.2.2.2.2.2.2.2.2.2.2.1)
                   have HS17_ := (hb.cell (World.block_lt_of_cell? _ _ (hHeld.2.2.2.2.2.2.2.2.2.2.2.2.2.2.2.2.2))).trans (hHeld.2.2.2.2.2.2.2.2.2.2.2.2.2.2.2.2.2)
                   refine ⟨_, rfl, ?_⟩
                   have n0_ := Aside0.mk (Kd.R_below (gR HO_0) hb)
                   have n1_ := Aside0.mk (Kept.below (S := (fun k_ => P0_ k_)) (gP HK) hb)
                   have n2_ := Aside0.mk (below_step (gB HB) hb)
                   clear HO_0; clear HK; clear HB
                   have HO_0 := n0_
                   have HK := n1_
                   have HB := n2_
                   clear n0_ n1_ n2_
                   try clear hb
                   try clear hb2
                   try clear hk
                   try clear hi
                   refine hK.out _ _ ⟨HS0_, HS1_, HS2_, HS3_, HS4_, HS5_, HS6_, HS7_, HS8_, HS9_, HS10_, HS11_, HS12_, HS13_, HS14_, HS15_, HS16_, HS17_⟩ (fun hHeld => ?_)
                   clear hK K
                   refine norm_ (a' := ?_) ?_ ?_
                   rotate_left
                   · show Act.put _ (some 32) _ = _
                     simp only [Act.put, sA, sB, sC, i64_w, i32_w]
                     rfl
                   refine pA (i := 15) (N := some 33) HT_ (pf 17 16) ?_
                   refine pA (i := 16) (N := some 34) HT_ (pf 17 17) ?_
                   refine done_ (done_of HT_.out (by kernel_rfl)) ?_
                   try go_wp2
                   go_roundg k2
                   case measure => have := HK1.out; have := HK2.out; omega
                   case rel => exact ⟨(x0_2), (wrap64 (x8_1 + 1)), ac, H', ⟨by have := HK1.out; have := HK2.out; omega⟩, ⟨gR HO_0⟩, ⟨gP HK⟩, ⟨gB HB⟩⟩
               · rw [if_neg c11] at H
                 exact absurd H (by simp)
             · rw [if_neg c10] at H
               exact absurd H (by simp)
           · rw [if_neg c8] at H
             exact absurd H (by simp)
         · rw [if_neg c7] at H
           exact absurd H (by simp)
       · rw [if_neg c6] at H
         have c6b0 : decide (a1 < x9_2) = false := decide_eq_false c6
         clear c6
         have H' := Aside0.mk H
         clear H
         try go_wp2
         have n0_ := Aside0.mk (Kd.R_drew HO_0.out)
         have n1_ := Aside0.mk (Kept.drew HK.out)
         have n2_ := Aside0.mk (below_drew1 HB.out)
         clear HO_0; clear HK; clear HB
         have HO_0 := n0_
         have HK := n1_
         have HB := n2_
         clear n0_ n1_ n2_
         refine start_ (n := 17) (S := fun w' => True) (ds := []) (pf 17 0) (by kernel_rfl) rfl rfl trivial (fun hHeld => ?_); refine with_tabW slices_insertionSortCmpFunc_haircut_Item.tab4 slices_insertionSortCmpFunc_haircut_Item.bits4 (fun HT_ HW_ => ?_)
         generalize wr.drew = w25 at HO_0 HK HB hHeld ⊢
         refine pA (i := 0) (N := some 18) HT_ (pf 17 1) ?_
         refine pA (i := 1) (N := some 19) HT_ (pf 17 2) ?_
         refine pA (i := 2) (N := some 20) HT_ (pf 17 3) ?_
         refine pA (i := 3) (N := some 21) HT_ (pf 17 4) ?_
         refine pure_ (i := 4) (N := some 22) (v := undef) (a' := ?_) (pf 17 5) rfl rfl (any_of HT_.out (by kernel_rfl)) (fun _ _ _ h => h) (Or.inr ⟨by rfl, rfl⟩) ?_ ?_
         rotate_left
         · simp only [Act.put, sA, sB, sC, i64_w, i32_w]
           rfl
         refine pure_ (i := 5) (N := some 23) (v := undef) (a' := ?_) (pf 17 6) rfl rfl (any_of HT_.out (by kernel_rfl)) (fun _ _ _ h => h) (Or.inr ⟨by rfl, rfl⟩) ?_ ?_
         rotate_left
         · simp only [Act.put, sA, sB, sC, i64_w, i32_w]
           rfl
         refine pure_ (i := 6) (N := some 24) (v := undef) (a' := ?_) (pf 17 7) rfl rfl (any_of HT_.out (by kernel_rfl)) (fun _ _ _ h => h) (Or.inr ⟨by rfl, rfl⟩) ?_ ?_
         rotate_left
         · simp only [Act.put, sA, sB, sC, i64_w, i32_w]
           rfl
         refine pure_ (i := 7) (N := some 25) (v := undef) (a' := ?_) (pf 17 8) rfl rfl (any_of HT_.out (by kernel_rfl)) (fun _ _ _ h => h) (Or.inr ⟨by rfl, rfl⟩) ?_ ?_
         rotate_left
         · simp only [Act.put, sA, sB, sC, i64_w, i32_w]
           rfl
         refine pure_ (i := 8) (N := some 26) (v := undef) (a' := ?_) (pf 17 9) rfl rfl (any_of HT_.out (by kernel_rfl)) (fun _ _ _ h => h) (Or.inr ⟨by rfl, rfl⟩) ?_ ?_
         rotate_left
         · simp only [Act.put, sA, sB, sC, i64_w, i32_w]
           rfl
         refine pure_ (i := 9) (N := some 27) (v := undef) (a' := ?_) (pf 17 10) rfl rfl (any_of HT_.out (by kernel_rfl)) (fun _ _ _ h => h) (Or.inr ⟨by rfl, rfl⟩) ?_ ?_
         rotate_left
         · simp only [Act.put, sA, sB, sC, i64_w, i32_w]
           rfl
         refine pure_ (i := 10) (N := some 28) (v := undef) (a' := ?_) (pf 17 11) rfl rfl (any_of HT_.out (by kernel_rfl)) (fun _ _ _ h => h) (Or.inr ⟨by rfl, rfl⟩) ?_ ?_
         rotate_left
         · simp only [Act.put, sA, sB, sC, i64_w, i32_w]
           rfl
         refine pure_ (i := 11) (N := some 29) (v := undef) (a' := ?_) (pf 17 12) rfl rfl (any_of HT_.out (by kernel_rfl)) (fun _ _ _ h => h) (Or.inr ⟨by rfl, rfl⟩) ?_ ?_
         rotate_left
         · simp only [Act.put, sA, sB, sC, i64_w, i32_w]
           rfl
         refine pure_ (i := 12) (N := some 30) (v := undef) (a' := ?_) (pf 17 13) rfl rfl (any_of HT_.out (by kernel_rfl)) (fun _ _ _ h => h) (Or.inr ⟨by rfl, rfl⟩) ?_ ?_
         rotate_left
         · simp only [Act.put, sA, sB, sC, i64_w, i32_w]
           rfl
         refine pure_ (i := 13) (N := some 31) (v := undef) (a' := ?_) (pf 17 14) rfl rfl (any_of HT_.out (by kernel_rfl)) (fun _ _ _ h => h) (Or.inr ⟨by rfl, rfl⟩) ?_ ?_
         rotate_left
         · simp only [Act.put, sA, sB, sC, i64_w, i32_w]
           rfl
         refine pure_ (i := 14) (N := some 32) (v := undef) (a' := ?_) (pf 17 15) rfl rfl (any_of HT_.out (by kernel_rfl)) (fun _ _ _ h => h) (Or.inr ⟨by rfl, rfl⟩) ?_ ?_
         rotate_left
         · simp only [Act.put, sA, sB, sC, i64_w, i32_w]
           rfl
         refine pure_ (i := 15) (N := some 33) (v := undef) (a' := ?_) (pf 17 16) rfl rfl (any_of HT_.out (by kernel_rfl)) (fun _ _ _ h => h) (Or.inr ⟨by rfl, rfl⟩) ?_ ?_
         rotate_left
         · simp only [Act.put, sA, sB, sC, i64_w, i32_w]
           rfl
         refine pA (i := 16) (N := some 34) HT_ (pf 17 17) ?_
         refine done_ (done_of HT_.out (by kernel_rfl)) ?_
         try go_wp2
         go_roundg k2
         case measure => have := HK1.out; have := HK2.out; omega
         case rel => exact ⟨(x0_2), (wrap64 (x8_1 + 1)), ac, H', ⟨by have := HK1.out; have := HK2.out; omega⟩, ⟨gR HO_0⟩, ⟨gP HK⟩, ⟨gB HB⟩⟩
   · rw [if_neg c5] at H
     have c5b0 : decide (x8_1 < a2) = false := decide_eq_false c5
     clear c5
     obtain rfl := Option.some.inj H
     go_wp2
     first | go_end0 | ((try simp only [Exit.inBlock, Exit.then]); refine bodyPost_ret (results_none rfl _ _ _) rfl ?_)
     exact ⟨by first | rfl | (simp [errW_none, errW_some] <;> rfl) | (simp [*, errW_none, errW_some] <;> rfl), gR HO_0, gB HB, gP HK⟩
end Go.Proofs.Ytjjemfbpodgihaa.X
