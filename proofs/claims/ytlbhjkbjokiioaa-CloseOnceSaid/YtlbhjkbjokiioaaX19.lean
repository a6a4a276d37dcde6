-- a shortened text: what this claim does not name is left out (wip/xprint/prune.py of this repo)
import Derived.Test.YtlbhjkbjokiioaaXMin
import Derived.Test.YtlbhjkbjokiioaaX0
import Derived.Test.YtlbhjkbjokiioaaX10
import Derived.Test.YtlbhjkbjokiioaaX11
import Derived.Test.YtlbhjkbjokiioaaX18
import Derived.Test.YtlbhjkbjokiioaaX5
import Derived.Test.YtlbhjkbjokiioaaMD
namespace Go.Proofs.Ytlbhjkbjokiioaa.X
open Go.RowKit Go.Proofs.YtlbhjkbjokiioaaW.PrintWords Go.Proofs.YtlbhjkbjokiioaaW.PrintLast Go.Proofs.YtlbhjkbjokiioaaW.PrintMore
attribute [local go_sem] max2_int min2_int max_two min_two max_three min_three max_four min_four
set_option linter.unusedVariables false
set_option linter.unusedSimpArgs false
mutual
def lombardlaw29_CloseOnce.j0 : Nat → List (S63) → List (S66) → Bool → Option (Bool)
 | 0, _, _, _ => none
 | k + 1, x0, x1, x25 => if x25 = true then ((lombardlaw29_awake.f k).bind fun t507 => (some t507)) else ((lombardlaw29_bids.f k x1).bind fun t508 => ((close_Auction.f k x0 t508).bind fun bt511 => (if bt511.2.2.2 = 0 then (lombardlaw29_CloseOnce.l0 k x0 x1 bt511.1 bt511.2.1 bt511.2.2.1 0 0) else (if (bt511.1.length : Int) = 0 then (if bt511.2.1 = 0 then (if (bt511.2.2.1.length : Int) = 0 then ((lombardlaw29_awake.f k).bind fun t519 => (some t519)) else (some false)) else (some false)) else (some false)))))
def lombardlaw29_CloseOnce.l0 : Nat → List (S63) → List (S66) → List (S58) → Int → List (S63) → Int → Int → Option (Bool)
 | 0, _, _, _, _, _, _, _ => none
 | k + 1, x0, x1, x5, x6, x7, x9, x10 => if x10 < (x0.length : Int) then (if 0 ≤ x10 then ((lombardref17_Qty.f k x7 ((rd_T63 x0 x10).f0)).bind fun t521 => (lombardlaw29_CloseOnce.l1 k x0 x1 x5 x6 x7 x9 x10 t521 0)) else (none)) else (lombardlaw29_CloseOnce.l2 k x1 x5 x6 x9 0)
def lombardlaw29_CloseOnce.l1 : Nat → List (S63) → List (S66) → List (S58) → Int → List (S63) → Int → Int → Int → Int → Option (Bool)
 | 0, _, _, _, _, _, _, _, _, _ => none
 | k + 1, x0, x1, x5, x6, x7, x9, x10, x11, x12 => if x12 < (x5.length : Int) then (if 0 ≤ x12 then (if 0 ≤ x10 then (if x10 < (x0.length : Int) then (if ((rd_T58 x5 x12).f1).toList = ((rd_T63 x0 x10).f0).toList then (lombardlaw29_CloseOnce.l1 k x0 x1 x5 x6 x7 x9 x10 (wrap64 (x11 + ((rd_T58 x5 x12).f2))) (wrap64 (x12 + 1))) else (lombardlaw29_CloseOnce.l1 k x0 x1 x5 x6 x7 x9 x10 x11 (wrap64 (x12 + 1)))) else (none)) else (none)) else (none)) else (if 0 ≤ x10 then (if x10 < (x0.length : Int) then (if x11 = ((rd_T63 x0 x10).f1) then (lombardlaw29_CloseOnce.l0 k x0 x1 x5 x6 x7 x9 (wrap64 (x10 + 1))) else (some false)) else (none)) else (none))
def lombardlaw29_CloseOnce.l2 : Nat → List (S66) → List (S58) → Int → Int → Int → Option (Bool)
 | 0, _, _, _, _, _ => none
 | k + 1, x1, x5, x6, x9, x13 => if x13 < (x5.length : Int) then (lombardlaw29_CloseOnce.l3 k x1 x5 x6 x9 x13 false 0) else (if x9 = x6 then ((lombardlaw29_awake.f k).bind fun t526 => (some t526)) else (some false))
def lombardlaw29_CloseOnce.l3 : Nat → List (S66) → List (S58) → Int → Int → Int → Bool → Int → Option (Bool)
 | 0, _, _, _, _, _, _, _ => none
 | k + 1, x1, x5, x6, x9, x13, x14, x15 => if x15 < (x1.length : Int) then (if 0 ≤ x13 then (if x13 < (x5.length : Int) then (if 0 ≤ x15 then ((lombardref01_MulDiv.f ((rd_T58 x5 x13).f2) ((rd_T66 x1 x15).f3) 1000000 2).bind fun bt529 => (if x14 = true then (lombardlaw29_CloseOnce.l3 k x1 x5 x6 x9 x13 true (wrap64 (x15 + 1))) else (if bt529.2 = 0 then (if ((rd_T66 x1 x15).f0) = ((rd_T58 x5 x13).f0) then (if ((rd_T66 x1 x15).f1).toList = ((rd_T58 x5 x13).f1).toList then (if ((rd_T58 x5 x13).f2) ≤ ((rd_T66 x1 x15).f2) then (lombardlaw29_CloseOnce.l3 k x1 x5 x6 x9 x13 (decide (((rd_T58 x5 x13).f3) ≤ bt529.1)) (wrap64 (x15 + 1))) else (lombardlaw29_CloseOnce.l3 k x1 x5 x6 x9 x13 false (wrap64 (x15 + 1)))) else (lombardlaw29_CloseOnce.l3 k x1 x5 x6 x9 x13 false (wrap64 (x15 + 1)))) else (lombardlaw29_CloseOnce.l3 k x1 x5 x6 x9 x13 false (wrap64 (x15 + 1)))) else (lombardlaw29_CloseOnce.l3 k x1 x5 x6 x9 x13 false (wrap64 (x15 + 1)))))) else (none)) else (none)) else (none)) else (if x14 = true then (if 0 ≤ x13 then (if x13 < (x5.length : Int) then (lombardlaw29_CloseOnce.l2 k x1 x5 x6 (wrap64 (x9 + ((rd_T58 x5 x13).f3))) (wrap64 (x13 + 1))) else (none)) else (none)) else (some false))
end
def lombardlaw29_CloseOnce.f (k : Nat) (l0 : List (S63)) (l1 : List (S66)) : Option (Bool) := if (l0.length : Int) > 64 then (lombardlaw29_CloseOnce.j0 k l0 l1 true) else (lombardlaw29_CloseOnce.j0 k l0 l1 (decide ((l1.length : Int) > 256)))
theorem lombardlaw29_CloseOnce.mono_l : ∀ k, (∀ y0 y1 y2, LeO (lombardlaw29_CloseOnce.j0 k y0 y1 y2) (lombardlaw29_CloseOnce.j0 (k + 1) y0 y1 y2)) ∧ (∀ y0 y1 y2 y3 y4 y5 y6, LeO (lombardlaw29_CloseOnce.l0 k y0 y1 y2 y3 y4 y5 y6) (lombardlaw29_CloseOnce.l0 (k + 1) y0 y1 y2 y3 y4 y5 y6)) ∧ (∀ y0 y1 y2 y3 y4 y5 y6 y7 y8, LeO (lombardlaw29_CloseOnce.l1 k y0 y1 y2 y3 y4 y5 y6 y7 y8) (lombardlaw29_CloseOnce.l1 (k + 1) y0 y1 y2 y3 y4 y5 y6 y7 y8)) ∧ (∀ y0 y1 y2 y3 y4, LeO (lombardlaw29_CloseOnce.l2 k y0 y1 y2 y3 y4) (lombardlaw29_CloseOnce.l2 (k + 1) y0 y1 y2 y3 y4)) ∧ (∀ y0 y1 y2 y3 y4 y5 y6, LeO (lombardlaw29_CloseOnce.l3 k y0 y1 y2 y3 y4 y5 y6) (lombardlaw29_CloseOnce.l3 (k + 1) y0 y1 y2 y3 y4 y5 y6))
 | 0 => ⟨fun _ _ _ r h => by simp [lombardlaw29_CloseOnce.j0] at h, fun _ _ _ _ _ _ _ r h => by simp [lombardlaw29_CloseOnce.l0] at h, fun _ _ _ _ _ _ _ _ _ r h => by simp [lombardlaw29_CloseOnce.l1] at h, fun _ _ _ _ _ r h => by simp [lombardlaw29_CloseOnce.l2] at h, fun _ _ _ _ _ _ _ r h => by simp [lombardlaw29_CloseOnce.l3] at h⟩
 | k + 1 => by
  obtain ⟨ih0, ih1, ih2, ih3, ih4⟩ := lombardlaw29_CloseOnce.mono_l k
  refine ⟨?_, ?_, ?_, ?_, ?_⟩
  intro y0 y1 y2; unfold lombardlaw29_CloseOnce.j0; rotate_left
  intro y0 y1 y2 y3 y4 y5 y6; unfold lombardlaw29_CloseOnce.l0; rotate_left
  intro y0 y1 y2 y3 y4 y5 y6 y7 y8; unfold lombardlaw29_CloseOnce.l1; rotate_left
  intro y0 y1 y2 y3 y4; unfold lombardlaw29_CloseOnce.l2; rotate_left
  intro y0 y1 y2 y3 y4 y5 y6; unfold lombardlaw29_CloseOnce.l3; rotate_left
  all_goals repeat' first
  | (with_reducible exact ih0 _ _ _)
  | (with_reducible exact ih1 _ _ _ _ _ _ _)
  | (with_reducible exact ih2 _ _ _ _ _ _ _ _ _)
  | (with_reducible exact ih3 _ _ _ _ _)
  | (with_reducible exact ih4 _ _ _ _ _ _ _)
  | (with_reducible exact close_Auction.mono _ _ _)
  | (with_reducible exact lombardlaw29_awake.mono _)
  | (with_reducible exact lombardlaw29_bids.mono _ _)
  | (with_reducible exact lombardref17_Qty.mono _ _ _)
  | (with_reducible exact LeO.refl _)
  | (with_reducible exact LeO.none _)
  | (with_reducible refine LeO.ite ?_ ?_)
  | (with_reducible refine LeO.bind ?_ (fun _ => ?_))
  | exact ih0 _ _ _
  | exact ih1 _ _ _ _ _ _ _
  | exact ih2 _ _ _ _ _ _ _ _ _
  | exact ih3 _ _ _ _ _
  | exact ih4 _ _ _ _ _ _ _
  | exact close_Auction.mono _ _ _
  | exact lombardlaw29_awake.mono _
  | exact lombardlaw29_bids.mono _ _
  | exact lombardref17_Qty.mono _ _ _
  | exact LeO.none _
  | refine LeO.ite ?_ ?_
  | refine LeO.bind ?_ (fun _ => ?_)
theorem lombardlaw29_CloseOnce.mono : ∀ a0 a1 k, LeO (lombardlaw29_CloseOnce.f k a0 a1) (lombardlaw29_CloseOnce.f (k + 1) a0 a1) := by
 intro a0 a1 k
 obtain ⟨ih0, ih1, ih2, ih3, ih4⟩ := lombardlaw29_CloseOnce.mono_l k
 unfold lombardlaw29_CloseOnce.f
 repeat' first
  | (with_reducible exact ih0 _ _ _)
  | (with_reducible exact ih1 _ _ _ _ _ _ _)
  | (with_reducible exact ih2 _ _ _ _ _ _ _ _ _)
  | (with_reducible exact ih3 _ _ _ _ _)
  | (with_reducible exact ih4 _ _ _ _ _ _ _)
  | (with_reducible exact close_Auction.mono _ _ _)
  | (with_reducible exact lombardlaw29_awake.mono _)
  | (with_reducible exact lombardlaw29_bids.mono _ _)
  | (with_reducible exact lombardref17_Qty.mono _ _ _)
  | (with_reducible exact LeO.refl _)
  | (with_reducible exact LeO.none _)
  | (with_reducible refine LeO.ite ?_ ?_)
  | (with_reducible refine LeO.bind ?_ (fun _ => ?_))
  | exact ih0 _ _ _
  | exact ih1 _ _ _ _ _ _ _
  | exact ih2 _ _ _ _ _ _ _ _ _
  | exact ih3 _ _ _ _ _
  | exact ih4 _ _ _ _ _ _ _
  | exact close_Auction.mono _ _ _
  | exact lombardlaw29_awake.mono _
  | exact lombardlaw29_bids.mono _ _
  | exact lombardref17_Qty.mono _ _ _
  | exact LeO.none _
  | refine LeO.ite ?_ ?_
  | refine LeO.bind ?_ (fun _ => ?_)
def lombardlaw29_CloseOnce.T14 : Bool × List (List Nat × List Nat) := (true, [([], []), ([], []), ([0, 1], [0, 1]), ([2], [2]), ([3], [3]), ([], []), ([], []), ([5, 6], [5, 6]), ([7], [7]), ([8], [8]), ([4, 9], [4, 9])])
def lombardlaw29_CloseOnce.B14 : List Nat := [0, 0, 3, 7, 15, 0, 0, 96, 224, 480, 1023]
theorem lombardlaw29_CloseOnce.tab14 : rtab .any (opsOf Try.f7 14) = lombardlaw29_CloseOnce.T14 := by kernel_rfl
theorem lombardlaw29_CloseOnce.bits14 : waitsOk lombardlaw29_CloseOnce.T14.2 lombardlaw29_CloseOnce.B14 = true := by kernel_rfl
def lombardlaw29_CloseOnce.T25 : Bool × List (List Nat × List Nat) := (true, [([], []), ([], []), ([0, 1], [0, 1]), ([2], [2]), ([3], [3]), ([], []), ([], []), ([5, 6], [5, 6]), ([7], [7]), ([8], [8]), ([4, 9], [4, 9]), ([10], [10]), ([11], [11]), ([11], [11]), ([12, 10, 0, 1, 2, 3, 4, 5, 6, 7, 8, 9, 10, 11, 12], [12]), ([13, 14, 0, 1, 2, 3, 4, 5, 6, 7, 8, 9, 10, 11, 12, 13, 14], [13])])
def lombardlaw29_CloseOnce.B25 : List Nat := [0, 0, 3, 7, 15, 0, 0, 96, 224, 480, 1023, 2047, 4095, 4095, 8191, 32767]
theorem lombardlaw29_CloseOnce.tab25 : rtab .any (opsOf Try.f7 25) = lombardlaw29_CloseOnce.T25 := by kernel_rfl
theorem lombardlaw29_CloseOnce.bits25 : waitsOk lombardlaw29_CloseOnce.T25.2 lombardlaw29_CloseOnce.B25 = true := by kernel_rfl
def lombardlaw29_CloseOnce.T26 : Bool × List (List Nat × List Nat) := (true, [([], []), ([0], [0]), ([1], [1]), ([2, 1], [1, 2]), ([3, 1, 1], [1, 3]), ([4], [4]), ([4], [4]), ([5, 6, 4], [4, 5, 6]), ([7, 4], [4, 7]), ([8, 4], [4, 8]), ([4], [4]), ([4], [4]), ([10, 11, 4], [4, 10, 11]), ([12, 4], [4, 12]), ([13, 4], [4, 13]), ([9, 14, 4], [4, 9, 14]), ([4, 15, 1], [1, 4, 15]), ([16, 4, 1], [1, 16]), ([17], [17]), ([17], [17]), ([18, 19, 17], [17, 18, 19]), ([20, 17], [17, 20]), ([21, 17], [17, 21]), ([17], [17]), ([17], [17]), ([23, 24, 17], [17, 23, 24]), ([25, 17], [17, 25]), ([26, 17], [17, 26]), ([22, 27, 17], [17, 22, 27]), ([17, 28, 1], [1, 17, 28]), ([29, 17, 1], [1, 29]), ([30], [30]), ([30], [30]), ([31, 32, 30], [30, 31, 32]), ([33, 30], [30, 33]), ([34, 30], [30, 34]), ([30], [30]), ([30], [30]), ([36, 37, 30], [30, 36, 37]), ([38, 30], [30, 38]), ([39, 30], [30, 39]), ([35, 40, 30], [30, 35, 40]), ([30, 41, 1], [1, 30, 41]), ([42, 30, 1], [1, 42]), ([43], [43]), ([43], [43]), ([44, 45, 43], [43, 44, 45]), ([46, 43], [43, 46]), ([47, 43], [43, 47]), ([43], [43]), ([48, 49, 43], [43, 48, 49]), ([43, 50, 1], [1, 43, 50]), ([1, 51], [1, 51]), ([52, 43, 0, 1, 2, 3, 4, 5, 6, 7, 8, 9, 10, 11, 12, 13, 14, 15, 16, 17, 18, 19, 20, 21, 22, 23, 24, 25, 26, 27, 28, 29, 30, 31, 32, 33, 34, 35, 36, 37, 38, 39, 40, 41, 42, 43, 44, 45, 46, 47, 48, 49, 50, 51, 52], [0, 52])])
def lombardlaw29_CloseOnce.B26 : List Nat := [0, 1, 3, 7, 15, 31, 31, 127, 255, 511, 31, 31, 3103, 7199, 15391, 32767, 65535, 131071, 262143, 262143, 1048575, 2097151, 4194303, 262143, 262143, 25427967, 58982399, 126091263, 268435455, 536870911, 1073741823, 2147483647, 2147483647, 8589934591, 17179869183, 34359738367, 2147483647, 2147483647, 208305913855, 483183820799, 1032939634687, 2199023255551, 4398046511103, 8796093022207, 17592186044415, 17592186044415, 70368744177663, 140737488355327, 281474976710655, 17592186044415, 1125899906842623, 2251799813685247, 4503599627370495, 9007199254740991]
theorem lombardlaw29_CloseOnce.tab26 : rtab .any (opsOf Try.f7 26) = lombardlaw29_CloseOnce.T26 := by kernel_rfl
theorem lombardlaw29_CloseOnce.bits26 : waitsOk lombardlaw29_CloseOnce.T26.2 lombardlaw29_CloseOnce.B26 = true := by kernel_rfl
set_option maxHeartbeats 8000000 in
set_option maxRecDepth 100000 in
theorem lombardlaw29_CloseOnce.calls (k : Nat) (A0 : Option Addr) (c0 : Nat) (l0 : List (S63)) (A1 : Option Addr) (c1 : Nat) (l1 : List (S66)) (r : Bool) (w : World) (hr0 : Kd.C k63 w A0 l0.length l0) (hc0 : l0.length ≤ c0) (hr1 : Kd.C k66 w A1 l1.length l1) (hc1 : l1.length ≤ c1) (h : lombardlaw29_CloseOnce.f k l0 l1 = some r) (htr_ : r = true) :
 Calls Try.prog 7 #[.slice A0 l0.length c0, .slice A1 l1.length c1] w fun e w' => e = .returned (.bool r) ∧ Below w.heap.size w w' := by
 have HR0 := Aside0.mk hr0; have HC0 := Aside0.mk hc0; clear hr0 hc0; have HR1 := Aside0.mk hr1; have HC1 := Aside0.mk hc1; clear hr1 hc1
 have HB := aK (Below.refl w.heap.size w)
 have H : (if (l0.length : Int) > 64 then (lombardlaw29_CloseOnce.j0 k l0 l1 true) else (lombardlaw29_CloseOnce.j0 k l0 l1 (decide ((l1.length : Int) > 256)))) = some r := h
 clear h; have HC3 := Aside0.mk H; clear H
 go_enter Try.func7, Try.ntmps7
 go_upto_region 1 with (fail)
 go_cut [25] (fun v25 wc => ∃ (kq : Nat) (x25_2 : Bool), v25 = .bool x25_2 ∧ Aside0 (lombardlaw29_CloseOnce.j0 kq l0 l1 x25_2 = some r) ∧ Aside0 (kq ≤ k) ∧ Aside0 (Below w.heap.size w wc))
 case first =>
  have H := HC3.out
  clear HC3
  by_cases c4 : (l0.length : Int) > 64
  · rw [if_pos c4] at H
    have c4b0 : decide (64 < (l0.length : Int)) = true := decide_eq_true c4
    have c4b1 : decide (64 < l0.length) = true := decide_eq_true (by omega)
    clear c4
    (first | rw [c4b0] | (simp only [i64_w, i32_w]; rw [c4b0]) | skip)
    have H' := Aside0.mk H
    clear H
    go_wp2
    go_meet
    case rel => exact ⟨_, (true), ac, H', ⟨by first | omega | exact Nat.le_refl _⟩, ⟨gB HB⟩⟩
  · rw [if_neg c4] at H
    have c4b0 : decide (64 < (l0.length : Int)) = false := decide_eq_false c4
    have c4b1 : decide (64 < l0.length) = false := decide_eq_false (by omega)
    clear c4
    (first | rw [c4b0] | (simp only [i64_w, i32_w]; rw [c4b0]) | skip)
    have H' := Aside0.mk H
    clear H
    go_wp2
    go_meet
    case rel => exact ⟨_, (decide ((l1.length : Int) > 256)), ac, H', ⟨by first | omega | exact Nat.le_refl _⟩, ⟨gB HB⟩⟩
 case rest =>
  clear HC3; (try clear c1)
  obtain ⟨kq, x25_2, rfl, HA, HJ2, HB⟩ := hcut
  cases kq with
  | zero => exact absurd HA.out (by simp [lombardlaw29_CloseOnce.j0])
  | succ kj2 =>
   have H := HA.out
   clear HA
   simp only [lombardlaw29_CloseOnce.j0] at H
   by_cases c5 : x25_2 = true
   · subst c5
     replace H : ((lombardlaw29_awake.f kj2).bind fun t507 => (some t507)) = some r := by rw [if_pos rfl] at H; exact H
     replace H := Option.bind_eq_some_iff.mp H
     obtain ⟨t507, A60, H⟩ := H
     replace H : (some t507) = some r := H
     have A6 := Aside0.mk A60; clear A60
     obtain rfl := Option.some.inj H
     go_wp2_with (first | ((with_reducible refine gate_callee (f := 8) rfl ?_); refine goesL_ (some 26) rfl rfl Try.func8 (by kernel_rfl) rfl #[] rfl am ?_; (with_reducible refine (lombardlaw29_awake.calls kj2  t507 _ A6.out htr_).mono ?_); rintro e w7 ⟨rfl, hb⟩; refine ⟨_, rfl, ?_⟩; replace HB := aK (below_step (gB HB) hb); (try clear hb); (try clear hb2); (try clear hk); (try clear hi)))
     go_ret
     exact ⟨by first | rfl | (simp [errW_none, errW_some] <;> rfl) | (simp [*, errW_none, errW_some] <;> rfl), gB HB⟩
   · replace c5 := Bool.eq_false_iff.mpr c5
     subst c5
     replace H : ((lombardlaw29_bids.f kj2 l1).bind fun t508 => ((close_Auction.f kj2 l0 t508).bind fun bt511 => (if bt511.2.2.2 = 0 then (lombardlaw29_CloseOnce.l0 kj2 l0 l1 bt511.1 bt511.2.1 bt511.2.2.1 0 0) else (if (bt511.1.length : Int) = 0 then (if bt511.2.1 = 0 then (if (bt511.2.2.1.length : Int) = 0 then ((lombardlaw29_awake.f kj2).bind fun t519 => (some t519)) else (some false)) else (some false)) else (some false))))) = some r := by rw [if_neg (show ¬ (false = true) by decide)] at H; exact H
     replace H := Option.bind_eq_some_iff.mp H
     obtain ⟨t508, A80, H⟩ := H
     replace H : ((close_Auction.f kj2 l0 t508).bind fun bt511 => (if bt511.2.2.2 = 0 then (lombardlaw29_CloseOnce.l0 kj2 l0 l1 bt511.1 bt511.2.1 bt511.2.2.1 0 0) else (if (bt511.1.length : Int) = 0 then (if bt511.2.1 = 0 then (if (bt511.2.2.1.length : Int) = 0 then ((lombardlaw29_awake.f kj2).bind fun t519 => (some t519)) else (some false)) else (some false)) else (some false)))) = some r := H
     have A8 := Aside0.mk A80; clear A80
     replace H := Option.bind_eq_some_iff.mp H
     obtain ⟨⟨t511, t512, t513, t514⟩, A90, H⟩ := H
     replace H : (if t514 = 0 then (lombardlaw29_CloseOnce.l0 kj2 l0 l1 t511 t512 t513 0 0) else (if (t511.length : Int) = 0 then (if t512 = 0 then (if (t513.length : Int) = 0 then ((lombardlaw29_awake.f kj2).bind fun t519 => (some t519)) else (some false)) else (some false)) else (some false))) = some r := H
     have A9 := Aside0.mk A90; clear A90
     by_cases c10 : t514 = 0
     · as_aux_lemma =>
       rw [if_pos c10] at H
       have c10b0 : (t514 == 0) = true := beq_iff_eq.mpr c10
       have c10b1 : (t514 != 0) = false := bne_eq_false_iff_eq.mpr c10
       clear c10
       have H' := Aside0.mk H
       clear H
       go_wp2_with (first | ((with_reducible refine gate_callee (f := 17) rfl ?_); refine goesL_ (some 30) rfl rfl Try.func17 (by kernel_rfl) rfl #[.slice A1 l1.length c1] rfl am ?_; (with_reducible refine (lombardlaw29_bids.calls kj2 _ _ l1 t508 _ ?side1 ?side2 A8.out).mono ?_); (case side1 => exact gC HR1 HB); (case side2 => exact HC1.out); rintro e w11 ⟨v509, rfl, ho0, hb⟩; (try clear A8); refine ⟨_, rfl, ?_⟩; have HO510 := aK (Kd.R_lower ho0 (below_size (gB HB))); replace HB := aK (below_step (gB HB) hb); (try clear hb); (try clear hb2); (try clear hk); (try clear hi); (try clear ho0); obtain ⟨Ao12, co12, eo12⟩ := Kd.R_slice HO510.out; subst eo12) | ((with_reducible refine gate_callee (f := 16) rfl ?_); refine goesL_ (some 31) rfl rfl Try.func16 (by kernel_rfl) rfl #[.slice A0 l0.length c0, .slice Ao12 t508.length co12] rfl am ?_; (with_reducible refine (close_Auction.calls kj2 _ _ l0 _ _ t508 t511 t512 t513 t514 _ ?side1 ?side2 ?side3 ?side4 A9.out).mono ?_); (case side1 => exact gC HR0 HB); (case side2 => exact HC0.out); (case side3 => repeat (first | exact (Kd.R_reads' HO510.out).2.2 | (with_reducible refine Kd.C_alloc ?_ _) | (with_reducible refine Kd.C_drewN ?_ _) | (with_reducible refine Kd.C_drew ?_))); (case side4 => exact (Kd.R_reads' HO510.out).2.1); rintro e w13 ⟨v515, v517, rfl, ho0, ho1, hb⟩; (try clear A9); refine ⟨_, rfl, ?_⟩; replace HO510 := aK (Kd.R_below (gR HO510) hb); have HO516 := aK (Kd.R_lower ho0 (below_size (gB HB))); have HO518 := aK (Kd.R_lower ho1 (below_size (gB HB))); replace HB := aK (below_step (gB HB) hb); (try clear hb); (try clear hb2); (try clear hk); (try clear hi); (try clear ho0); (try clear ho1)))
       go_loopg [10] kj2 (fun kq v10 w' => ∃ (x10_2 : Int), v10 = .int .i64 x10_2 ∧ Aside0 (lombardlaw29_CloseOnce.l0 kq l0 l1 t511 t512 t513 0 x10_2 = some r) ∧ Aside0 (kq ≤ kj2) ∧ Aside0 (Kd.R k58 58 w' w.heap.size (fun _ => True) v515 t511) ∧ Aside0 (Kd.R k63 63 w' w.heap.size (fun _ => True) v517 t513) ∧ Aside0 (Below w.heap.size w w'))
       case atStart => exact ⟨(0), ac, H', ⟨Nat.le_refl _⟩, ⟨gR HO516⟩, ⟨gR HO518⟩, ⟨gB HB⟩⟩
       case round =>
        clear H'; (try clear c1); (try clear c5); (try clear c10); (try clear c10b0); (try clear c10b1)
        obtain ⟨x10_2, rfl, HA, HK2, HO_5, HO_7, HB⟩ := hrel
        cases gk with
        | zero => exact absurd HA.out (by simp [lombardlaw29_CloseOnce.l0])
        | succ k2 =>
         have H := HA.out
         clear HA
         simp only [lombardlaw29_CloseOnce.l0] at H
         by_cases c14 : x10_2 < (l0.length : Int)
         · as_aux_lemma =>
           rw [if_pos c14] at H
           have c14b0 := dT c14
           clear c14
           by_cases c15 : 0 ≤ x10_2
           · as_aux_lemma =>
             rw [if_pos c15] at H
             have c15b0 := dT c15
             clear c15
             replace H := Option.bind_eq_some_iff.mp H
             obtain ⟨t521, A160, H⟩ := H
             replace H : (lombardlaw29_CloseOnce.l1 k2 l0 l1 t511 t512 t513 0 x10_2 t521 0) = some r := H
             have A16 := Aside0.mk A160; clear A160
             have H' := Aside0.mk H
             clear H
             obtain ⟨⟨p520, q520⟩, ad520, rfl, hx520_0, hx520_1⟩ := za (at_T63 HR0.out) x10_2
             replace hx520_0 := gc HB hx520_0
             replace hx520_1 := gc HB hx520_1
             obtain ⟨Ao17, co17, eo17⟩ := Kd.R_slice HO_7.out
             subst eo17
             go_wp2_with (first | ((with_reducible refine gate_callee (f := 20) rfl ?_); refine goesL_ (some 65) rfl rfl Try.func20 (by kernel_rfl) rfl #[.slice Ao17 t513.length co17, .string ((rd_T63 l0 x10_2).f0)] rfl am ?_; (with_reducible refine (lombardref17_Qty.calls k2 _ _ t513 ((rd_T63 l0 x10_2).f0) t521 _ ?side1 ?side2 A16.out).mono ?_); (case side1 => repeat (first | exact (Kd.R_reads' HO_7.out).2.2 | (with_reducible refine Kd.C_alloc ?_ _) | (with_reducible refine Kd.C_drewN ?_ _) | (with_reducible refine Kd.C_drew ?_))); (case side2 => exact (Kd.R_reads' HO_7.out).2.1); rintro e w' ⟨rfl, ⟨nd, rfl⟩⟩; (try clear A16); refine ⟨_, rfl, ?_⟩))
             go_loopg [11, 12] k2 (fun kq v11 v12 w' => ∃ (x11_3 : Int) (x12_3 : Int), v11 = .int .i64 x11_3 ∧ v12 = .int .i64 x12_3 ∧ Aside0 (lombardlaw29_CloseOnce.l1 kq l0 l1 t511 t512 t513 0 x10_2 x11_3 x12_3 = some r) ∧ Aside0 (kq ≤ k2) ∧ Aside0 (Kd.R k58 58 w' w.heap.size (fun _ => True) v515 t511) ∧ Aside0 (Kd.R k63 63 w' w.heap.size (fun _ => True) (.slice Ao17 t513.length co17) t513) ∧ Aside0 (Below w.heap.size w w'))
             case atStart => exact ⟨(t521), (0), ac, ac, H', ⟨Nat.le_refl _⟩, ⟨gR HO_5⟩, ⟨gR HO_7⟩, ⟨gB HB⟩⟩
             case round =>
              clear H'; (try clear c1); (try clear c5); (try clear c10); (try clear c10b0); (try clear c10b1); (try clear c14); (try clear c14b0); (try clear c15); (try clear c15b0); (try clear hx520_0); (try clear hx520_1); (try clear p520); (try clear q520)
              obtain ⟨x11_3, x12_3, rfl, rfl, HA, HK3, HO_5, HO_7, HB⟩ := hrel
              cases gk with
              | zero => exact absurd HA.out (by simp [lombardlaw29_CloseOnce.l1])
              | succ k3 =>
               have H := HA.out
               clear HA
               simp only [lombardlaw29_CloseOnce.l1] at H
               by_cases c18 : x12_3 < (t511.length : Int)
               · as_aux_lemma =>
                 rw [if_pos c18] at H
                 have c18b0 := dT c18
                 clear c18
                 by_cases c19 : 0 ≤ x12_3
                 · as_aux_lemma =>
                   rw [if_pos c19] at H
                   have c19b0 := dT c19
                   clear c19
                   by_cases c20 : 0 ≤ x10_2
                   · as_aux_lemma =>
                     rw [if_pos c20] at H
                     have c20b0 := dT c20
                     clear c20
                     by_cases c21 : x10_2 < (l0.length : Int)
                     · as_aux_lemma =>
                       rw [if_pos c21] at H
                       have c21b0 := dT c21
                       clear c21
                       by_cases c22 : ((rd_T58 t511 x12_3).f1).toList = ((rd_T63 l0 x10_2).f0).toList
                       · as_aux_lemma =>
                         rw [if_pos c22] at H
                         have c22b0 : (((rd_T58 t511 x12_3).f1).toList == ((rd_T63 l0 x10_2).f0).toList) = true := beq_iff_eq.mpr c22
                         have c22b1 : (((rd_T58 t511 x12_3).f1).toList != ((rd_T63 l0 x10_2).f0).toList) = false := bne_eq_false_iff_eq.mpr c22
                         clear c22
                         have H' := Aside0.mk H
                         clear H
                         obtain ⟨Ao23, co23, eo23⟩ := Kd.R_slice HO_5.out
                         subst eo23
                         try go_wp2
                         have n0_ := aK (Kd.R_drew HO_5.out)
                         have n1_ := aK (Kd.R_drew HO_7.out)
                         have n2_ := aK (below_drew1 HB.out)
                         clear HO_5; clear HO_7; clear HB
                         have HO_5 := n0_
                         have HO_7 := n1_
                         have HB := n2_
                         clear n0_ n1_ n2_
                         obtain ⟨⟨p522, q522⟩, ad522, rfl, hx522_0, hx522_1, hx522_2, hx522_3⟩ := za (at_T58 (Kd.R_reads' HO_5.out).2.2) x12_3
                         have p523 : 0 ≤ (x10_2 : Int) := od
                         have q523 : x10_2 < (l0.length : Int) := od
                         obtain ⟨ad523, e523, hx523_0, hx523_1⟩ := at_T63 HR0.out x10_2 p523 q523
                         have hw523_1 := hx523_1
                         have hw523_0 := hx523_0
                         obtain rfl : ad520 = ad523 := (by injection e523)
                         replace hx523_0 := gc HB hx523_0
                         replace hx523_1 := gc HB hx523_1
                         replace p523 := eq_true p523; replace q523 := eq_true q523
                         refine start_ (n := 11) (S := fun w' => w'.cell? (ad522.add ((x12_3).toNat * 4)) = some (.int .i64 ((rd_T58 t511 x12_3).f0)) ∧ w'.cell? ⟨(ad522.add ((x12_3).toNat * 4)).block, (ad522.add ((x12_3).toNat * 4)).off + 1, none⟩ = some (.string ((rd_T58 t511 x12_3).f1)) ∧ w'.cell? ⟨(ad522.add ((x12_3).toNat * 4)).block, (ad522.add ((x12_3).toNat * 4)).off + 2, none⟩ = some (.int .i64 ((rd_T58 t511 x12_3).f2)) ∧ w'.cell? ⟨(ad522.add ((x12_3).toNat * 4)).block, (ad522.add ((x12_3).toNat * 4)).off + 3, none⟩ = some (.int .i64 ((rd_T58 t511 x12_3).f3)) ∧ w'.cell? (ad520.add ((x10_2).toNat * 2)) = some (.string ((rd_T63 l0 x10_2).f0)) ∧ w'.cell? ⟨(ad520.add ((x10_2).toNat * 2)).block, (ad520.add ((x10_2).toNat * 2)).off + 1, none⟩ = some (.int .i64 ((rd_T63 l0 x10_2).f1))) (ds := []) (pf 11 0) (by kernel_rfl) rfl rfl ⟨hx522_0, hx522_1, hx522_2, hx522_3, ((HB.out.cell (World.block_lt_of_cell? w _ hw523_0)).trans hw523_0), ((HB.out.cell (World.block_lt_of_cell? w _ hw523_1)).trans hw523_1)⟩ (fun hHeld => ?_); refine with_tabW lombardlaw29_CloseOnce.tab14 lombardlaw29_CloseOnce.bits14 (fun HT_ HW_ => ?_)
                         generalize wr.drew = w24 at HO_5 HO_7 HB hx522_0 hx522_1 hx522_2 hx522_3 hx523_0 hx523_1 hHeld ⊢
                         refine pA (i := 0) (N := some 72) HT_ (pf 11 1) ?_
                         refine pA (i := 1) (N := some 73) HT_ (pf 11 2) ?_
                         refine pA (i := 2) (N := some 74) HT_ (pf 11 3) ?_
                         refine pA (i := 3) (N := some 75) HT_ (pf 11 4) ?_
                         refine pA (i := 5) (N := some 77) HT_ (ba 11 47) ?_
                         refine pA (i := 6) (N := some 78) HT_ (ba 11 111) ?_
                         refine pA (i := 7) (N := some 79) HT_ (ba 11 239) ?_
                         refine pA (i := 8) (N := some 80) HT_ (ba 11 495) ?_
                         refine take_ (i := 4) (N := some 76) (v := ?_) (a' := ?_) (pf 11 9) rfl rfl (take_ofW HT_.out HW_.out (by kernel_rfl)) (fun _ _ _ h => h) (Or.inl ⟨by rfl, ?_⟩) hHeld ?_ ?_
                         rotate_left
                         · as_aux_lemma =>
                           rintro w' ⟨s0, s1, s2, s3, s4, s5⟩
                           go_simp
                           with_reducible rfl
                         rotate_left
                         · as_aux_lemma =>
                           simp only [Act.put, sA, sB, sC, i64_w, i32_w]
                           rfl
                         refine take_ (i := 9) (N := some 81) (v := ?_) (a' := ?_) (pf 11 10) rfl rfl (take_ofW HT_.out HW_.out (by kernel_rfl)) (fun _ _ _ h => h) (Or.inl ⟨by rfl, ?_⟩) hHeld ?_ ?_
                         rotate_left
                         · as_aux_lemma =>
                           rintro w' ⟨s0, s1, s2, s3, s4, s5⟩
                           go_simp
                           with_reducible rfl
                         rotate_left
                         · as_aux_lemma =>
                           simp only [Act.put, sA, sB, sC, i64_w, i32_w]
                           rfl
                         refine pA (i := 10) (N := some 82) HT_ (pf 11 11) ?_
                         refine done_ (done_of HT_.out (by kernel_rfl)) ?_
                         obtain ⟨⟨p524, q524⟩, ad524, e524, hx524_0, hx524_1, hx524_2, hx524_3⟩ := za (at_T58 (Kd.R_reads' HO_5.out).2.2) x12_3
                         obtain rfl : ad522 = ad524 := (by injection e524)
                         try go_wp2
                         go_roundg k3
                         case measure => have := HJ2.out; have := HK2.out; have := HK3.out; omega
                         case rel => exact ⟨(wrap64 (x11_3 + ((rd_T58 t511 x12_3).f2))), (wrap64 (x12_3 + 1)), ac, ac, H', ⟨by have := HJ2.out; have := HK2.out; have := HK3.out; omega⟩, ⟨gR HO_5⟩, ⟨gR HO_7⟩, ⟨gB HB⟩⟩
                       · as_aux_lemma =>
                         rw [if_neg c22] at H
                         have c22b0 : (((rd_T58 t511 x12_3).f1).toList == ((rd_T63 l0 x10_2).f0).toList) = false := beq_eq_false_iff_ne.mpr c22
                         have c22b1 : (((rd_T58 t511 x12_3).f1).toList != ((rd_T63 l0 x10_2).f0).toList) = true := bne_iff_ne.mpr c22
                         have H' := Aside0.mk H
                         clear H
                         obtain ⟨Ao25, co25, eo25⟩ := Kd.R_slice HO_5.out
                         subst eo25
                         try go_wp2
                         have n0_ := aK (Kd.R_drew HO_5.out)
                         have n1_ := aK (Kd.R_drew HO_7.out)
                         have n2_ := aK (below_drew1 HB.out)
                         clear HO_5; clear HO_7; clear HB
                         have HO_5 := n0_
                         have HO_7 := n1_
                         have HB := n2_
                         clear n0_ n1_ n2_
                         obtain ⟨⟨p522, q522⟩, ad522, rfl, hx522_0, hx522_1, hx522_2, hx522_3⟩ := za (at_T58 (Kd.R_reads' HO_5.out).2.2) x12_3
                         have p523 : 0 ≤ (x10_2 : Int) := od
                         have q523 : x10_2 < (l0.length : Int) := od
                         obtain ⟨ad523, e523, hx523_0, hx523_1⟩ := at_T63 HR0.out x10_2 p523 q523
                         have hw523_1 := hx523_1
                         have hw523_0 := hx523_0
                         obtain rfl : ad520 = ad523 := (by injection e523)
                         replace hx523_0 := gc HB hx523_0
                         replace hx523_1 := gc HB hx523_1
                         replace p523 := eq_true p523; replace q523 := eq_true q523
                         refine start_ (n := 11) (S := fun w' => w'.cell? (ad522.add ((x12_3).toNat * 4)) = some (.int .i64 ((rd_T58 t511 x12_3).f0)) ∧ w'.cell? ⟨(ad522.add ((x12_3).toNat * 4)).block, (ad522.add ((x12_3).toNat * 4)).off + 1, none⟩ = some (.string ((rd_T58 t511 x12_3).f1)) ∧ w'.cell? ⟨(ad522.add ((x12_3).toNat * 4)).block, (ad522.add ((x12_3).toNat * 4)).off + 2, none⟩ = some (.int .i64 ((rd_T58 t511 x12_3).f2)) ∧ w'.cell? ⟨(ad522.add ((x12_3).toNat * 4)).block, (ad522.add ((x12_3).toNat * 4)).off + 3, none⟩ = some (.int .i64 ((rd_T58 t511 x12_3).f3)) ∧ w'.cell? (ad520.add ((x10_2).toNat * 2)) = some (.string ((rd_T63 l0 x10_2).f0)) ∧ w'.cell? ⟨(ad520.add ((x10_2).toNat * 2)).block, (ad520.add ((x10_2).toNat * 2)).off + 1, none⟩ = some (.int .i64 ((rd_T63 l0 x10_2).f1))) (ds := []) (pf 11 0) (by kernel_rfl) rfl rfl ⟨hx522_0, hx522_1, hx522_2, hx522_3, ((HB.out.cell (World.block_lt_of_cell? w _ hw523_0)).trans hw523_0), ((HB.out.cell (World.block_lt_of_cell? w _ hw523_1)).trans hw523_1)⟩ (fun hHeld => ?_); refine with_tabW lombardlaw29_CloseOnce.tab14 lombardlaw29_CloseOnce.bits14 (fun HT_ HW_ => ?_)
                         generalize wr.drew = w26 at HO_5 HO_7 HB hx522_0 hx522_1 hx522_2 hx522_3 hx523_0 hx523_1 hHeld ⊢
                         refine pA (i := 0) (N := some 72) HT_ (pf 11 1) ?_
                         refine pA (i := 1) (N := some 73) HT_ (pf 11 2) ?_
                         refine pA (i := 2) (N := some 74) HT_ (pf 11 3) ?_
                         refine pA (i := 3) (N := some 75) HT_ (pf 11 4) ?_
                         refine pA (i := 5) (N := some 77) HT_ (ba 11 47) ?_
                         refine pA (i := 6) (N := some 78) HT_ (ba 11 111) ?_
                         refine pA (i := 7) (N := some 79) HT_ (ba 11 239) ?_
                         refine pA (i := 8) (N := some 80) HT_ (ba 11 495) ?_
                         refine take_ (i := 4) (N := some 76) (v := ?_) (a' := ?_) (pf 11 9) rfl rfl (take_ofW HT_.out HW_.out (by kernel_rfl)) (fun _ _ _ h => h) (Or.inl ⟨by rfl, ?_⟩) hHeld ?_ ?_
                         rotate_left
                         · as_aux_lemma =>
                           rintro w' ⟨s0, s1, s2, s3, s4, s5⟩
                           go_simp
                           with_reducible rfl
                         rotate_left
                         · as_aux_lemma =>
                           simp only [Act.put, sA, sB, sC, i64_w, i32_w]
                           rfl
                         refine take_ (i := 9) (N := some 81) (v := ?_) (a' := ?_) (pf 11 10) rfl rfl (take_ofW HT_.out HW_.out (by kernel_rfl)) (fun _ _ _ h => h) (Or.inl ⟨by rfl, ?_⟩) hHeld ?_ ?_
                         rotate_left
                         · as_aux_lemma =>
                           rintro w' ⟨s0, s1, s2, s3, s4, s5⟩
                           go_simp
                           with_reducible rfl
                         rotate_left
                         · as_aux_lemma =>
                           simp only [Act.put, sA, sB, sC, i64_w, i32_w]
                           rfl
                         refine pA (i := 10) (N := some 82) HT_ (pf 11 11) ?_
                         refine done_ (done_of HT_.out (by kernel_rfl)) ?_
                         try go_wp2
                         go_roundg k3
                         case measure => have := HJ2.out; have := HK2.out; have := HK3.out; omega
                         case rel => exact ⟨(x11_3), (wrap64 (x12_3 + 1)), ac, ac, H', ⟨by have := HJ2.out; have := HK2.out; have := HK3.out; omega⟩, ⟨gR HO_5⟩, ⟨gR HO_7⟩, ⟨gB HB⟩⟩
                     · as_aux_lemma =>
                       rw [if_neg c21] at H
                       exact absurd H (by simp)
                   · as_aux_lemma =>
                     rw [if_neg c20] at H
                     exact absurd H (by simp)
                 · as_aux_lemma =>
                   rw [if_neg c19] at H
                   exact absurd H (by simp)
               · as_aux_lemma =>
                 rw [if_neg c18] at H
                 have c18b0 := dF c18
                 clear c18
                 by_cases c27 : 0 ≤ x10_2
                 · as_aux_lemma =>
                   rw [if_pos c27] at H
                   have c27b0 := dT c27
                   clear c27
                   by_cases c28 : x10_2 < (l0.length : Int)
                   · as_aux_lemma =>
                     rw [if_pos c28] at H
                     have c28b0 := dT c28
                     clear c28
                     by_cases c29 : x11_3 = ((rd_T63 l0 x10_2).f1)
                     · as_aux_lemma =>
                       rw [if_pos c29] at H
                       have c29b0 : (x11_3 == ((rd_T63 l0 x10_2).f1)) = true := beq_iff_eq.mpr c29
                       have c29b1 : (x11_3 != ((rd_T63 l0 x10_2).f1)) = false := bne_eq_false_iff_eq.mpr c29
                       clear c29
                       have H' := Aside0.mk H
                       clear H
                       obtain ⟨Ao30, co30, eo30⟩ := Kd.R_slice HO_5.out
                       subst eo30
                       obtain ⟨⟨p525, q525⟩, ad525, e525, hx525_0, hx525_1⟩ := za (at_T63 HR0.out) x10_2
                       obtain rfl : ad520 = ad525 := (by injection e525)
                       replace hx525_0 := gc HB hx525_0
                       replace hx525_1 := gc HB hx525_1
                       go_wp2
                       go_roundg k3
                       case measure => have := HJ2.out; have := HK2.out; have := HK3.out; omega
                       case rel => exact ⟨(wrap64 (x10_2 + 1)), ac, H', ⟨by have := HJ2.out; have := HK2.out; have := HK3.out; omega⟩, ⟨gR HO_5⟩, ⟨gR HO_7⟩, ⟨gB HB⟩⟩
                     · as_aux_lemma =>
                       rw [if_neg c29] at H
                       have c29b0 : (x11_3 == ((rd_T63 l0 x10_2).f1)) = false := beq_eq_false_iff_ne.mpr c29
                       have c29b1 : (x11_3 != ((rd_T63 l0 x10_2).f1)) = true := bne_iff_ne.mpr c29
                       exact absurd ((Option.some.inj H).trans htr_) (by decide)
                   · as_aux_lemma =>
                     rw [if_neg c28] at H
                     exact absurd H (by simp)
                 · as_aux_lemma =>
                   rw [if_neg c27] at H
                   exact absurd H (by simp)
           · as_aux_lemma =>
             rw [if_neg c15] at H
             exact absurd H (by simp)
         · as_aux_lemma =>
           rw [if_neg c14] at H
           have c14b0 := dF c14
           clear c14
           have H' := Aside0.mk H
           clear H
           go_wp2
           go_loopg [9, 13] k2 (fun kq v9 v13 w' => ∃ (x9_3 : Int) (x13_3 : Int), v9 = .int .i64 x9_3 ∧ v13 = .int .i64 x13_3 ∧ Aside0 (lombardlaw29_CloseOnce.l2 kq l1 t511 t512 x9_3 x13_3 = some r) ∧ Aside0 (kq ≤ k2) ∧ Aside0 (Kd.R k58 58 w' w.heap.size (fun _ => True) v515 t511) ∧ Aside0 (Below w.heap.size w w'))
           case atStart => exact ⟨(0), (0), ac, ac, H', ⟨Nat.le_refl _⟩, ⟨gR HO_5⟩, ⟨gB HB⟩⟩
           case round =>
            clear H'; (try clear c1); (try clear c5); (try clear c10); (try clear c10b0); (try clear c10b1); (try clear c14); (try clear c14b0)
            obtain ⟨x9_3, x13_3, rfl, rfl, HA, HK3, HO_5, HB⟩ := hrel
            cases gk with
            | zero => exact absurd HA.out (by simp [lombardlaw29_CloseOnce.l2])
            | succ k3 =>
             have H := HA.out
             clear HA
             simp only [lombardlaw29_CloseOnce.l2] at H
             by_cases c31 : x13_3 < (t511.length : Int)
             · as_aux_lemma =>
               rw [if_pos c31] at H
               have c31b0 := dT c31
               clear c31
               have H' := Aside0.mk H
               clear H
               obtain ⟨Ao32, co32, eo32⟩ := Kd.R_slice HO_5.out
               subst eo32
               go_wp2
               go_loopg [14, 15] k3 (fun kq v14 v15 w' => ∃ (x14_4 : Bool) (x15_4 : Int), v14 = .bool x14_4 ∧ v15 = .int .i64 x15_4 ∧ Aside0 (lombardlaw29_CloseOnce.l3 kq l1 t511 t512 x9_3 x13_3 x14_4 x15_4 = some r) ∧ Aside0 (kq ≤ k3) ∧ Aside0 (Kd.R k58 58 w' w.heap.size (fun _ => True) (.slice Ao32 t511.length co32) t511) ∧ Aside0 (Below w.heap.size w w'))
               case atStart => exact ⟨(false), (0), ac, ac, H', ⟨Nat.le_refl _⟩, ⟨gR HO_5⟩, ⟨gB HB⟩⟩
               case round =>
                clear H'; (try clear c1); (try clear c5); (try clear c10); (try clear c10b0); (try clear c10b1); (try clear c14); (try clear c14b0); (try clear c31); (try clear c31b0)
                obtain ⟨x14_4, x15_4, rfl, rfl, HA, HK4, HO_5, HB⟩ := hrel
                cases gk with
                | zero => exact absurd HA.out (by simp [lombardlaw29_CloseOnce.l3])
                | succ k4 =>
                 have H := HA.out
                 clear HA
                 simp only [lombardlaw29_CloseOnce.l3] at H
                 by_cases c33 : x15_4 < (l1.length : Int)
                 · as_aux_lemma =>
                   rw [if_pos c33] at H
                   have c33b0 := dT c33
                   clear c33
                   by_cases c34 : 0 ≤ x13_3
                   · as_aux_lemma =>
                     rw [if_pos c34] at H
                     have c34b0 := dT c34
                     clear c34
                     by_cases c35 : x13_3 < (t511.length : Int)
                     · as_aux_lemma =>
                       rw [if_pos c35] at H
                       have c35b0 := dT c35
                       clear c35
                       by_cases c36 : 0 ≤ x15_4
                       · as_aux_lemma =>
                         rw [if_pos c36] at H
                         have c36b0 := dT c36
                         clear c36
                         replace H := Option.bind_eq_some_iff.mp H
                         obtain ⟨⟨t529, t530⟩, A370, H⟩ := H
                         replace H : (if x14_4 = true then (lombardlaw29_CloseOnce.l3 k4 l1 t511 t512 x9_3 x13_3 true (wrap64 (x15_4 + 1))) else (if t530 = 0 then (if ((rd_T66 l1 x15_4).f0) = ((rd_T58 t511 x13_3).f0) then (if ((rd_T66 l1 x15_4).f1).toList = ((rd_T58 t511 x13_3).f1).toList then (if ((rd_T58 t511 x13_3).f2) ≤ ((rd_T66 l1 x15_4).f2) then (lombardlaw29_CloseOnce.l3 k4 l1 t511 t512 x9_3 x13_3 (decide (((rd_T58 t511 x13_3).f3) ≤ t529)) (wrap64 (x15_4 + 1))) else (lombardlaw29_CloseOnce.l3 k4 l1 t511 t512 x9_3 x13_3 false (wrap64 (x15_4 + 1)))) else (lombardlaw29_CloseOnce.l3 k4 l1 t511 t512 x9_3 x13_3 false (wrap64 (x15_4 + 1)))) else (lombardlaw29_CloseOnce.l3 k4 l1 t511 t512 x9_3 x13_3 false (wrap64 (x15_4 + 1)))) else (lombardlaw29_CloseOnce.l3 k4 l1 t511 t512 x9_3 x13_3 false (wrap64 (x15_4 + 1))))) = some r := H
                         have A37 := Aside0.mk A370; clear A370
                         by_cases c38 : x14_4 = true
                         · as_aux_lemma =>
                           subst c38
                           replace H : (lombardlaw29_CloseOnce.l3 k4 l1 t511 t512 x9_3 x13_3 true (wrap64 (x15_4 + 1))) = some r := by rw [if_pos rfl] at H; exact H
                           have H' := Aside0.mk H
                           clear H
                           try go_wp2
                           have n0_ := aK (Kd.R_drew HO_5.out)
                           have n1_ := aK (below_drew1 HB.out)
                           clear HO_5; clear HB
                           have HO_5 := n0_
                           have HB := n1_
                           clear n0_ n1_
                           obtain ⟨⟨p527, q527⟩, ad527, rfl, hx527_0, hx527_1, hx527_2, hx527_3⟩ := za (at_T58 (Kd.R_reads' HO_5.out).2.2) x13_3
                           have p528 : 0 ≤ (x15_4 : Int) := od
                           have q528 : x15_4 < (l1.length : Int) := od
                           obtain ⟨ad528, e528, hx528_0, hx528_1, hx528_2, hx528_3⟩ := at_T66 HR1.out x15_4 p528 q528
                           have hw528_3 := hx528_3
                           have hw528_2 := hx528_2
                           have hw528_1 := hx528_1
                           have hw528_0 := hx528_0
                           cases e528
                           replace hx528_0 := gc HB hx528_0
                           replace hx528_1 := gc HB hx528_1
                           replace hx528_2 := gc HB hx528_2
                           replace hx528_3 := gc HB hx528_3
                           replace p528 := eq_true p528; replace q528 := eq_true q528
                           refine start_ (n := 16) (S := fun w' => w'.cell? (ad527.add ((x13_3).toNat * 4)) = some (.int .i64 ((rd_T58 t511 x13_3).f0)) ∧ w'.cell? ⟨(ad527.add ((x13_3).toNat * 4)).block, (ad527.add ((x13_3).toNat * 4)).off + 1, none⟩ = some (.string ((rd_T58 t511 x13_3).f1)) ∧ w'.cell? ⟨(ad527.add ((x13_3).toNat * 4)).block, (ad527.add ((x13_3).toNat * 4)).off + 2, none⟩ = some (.int .i64 ((rd_T58 t511 x13_3).f2)) ∧ w'.cell? ⟨(ad527.add ((x13_3).toNat * 4)).block, (ad527.add ((x13_3).toNat * 4)).off + 3, none⟩ = some (.int .i64 ((rd_T58 t511 x13_3).f3)) ∧ w'.cell? (ad528.add ((x15_4).toNat * 4)) = some (.int .i64 ((rd_T66 l1 x15_4).f0)) ∧ w'.cell? ⟨(ad528.add ((x15_4).toNat * 4)).block, (ad528.add ((x15_4).toNat * 4)).off + 1, none⟩ = some (.string ((rd_T66 l1 x15_4).f1)) ∧ w'.cell? ⟨(ad528.add ((x15_4).toNat * 4)).block, (ad528.add ((x15_4).toNat * 4)).off + 2, none⟩ = some (.int .i64 ((rd_T66 l1 x15_4).f2)) ∧ w'.cell? ⟨(ad528.add ((x15_4).toNat * 4)).block, (ad528.add ((x15_4).toNat * 4)).off + 3, none⟩ = some (.int .i64 ((rd_T66 l1 x15_4).f3))) (ds := []) (pf 16 0) (by kernel_rfl) rfl rfl ⟨hx527_0, hx527_1, hx527_2, hx527_3, ((HB.out.cell (World.block_lt_of_cell? w _ hw528_0)).trans hw528_0), ((HB.out.cell (World.block_lt_of_cell? w _ hw528_1)).trans hw528_1), ((HB.out.cell (World.block_lt_of_cell? w _ hw528_2)).trans hw528_2), ((HB.out.cell (World.block_lt_of_cell? w _ hw528_3)).trans hw528_3)⟩ (fun hHeld => ?_); refine with_tabW lombardlaw29_CloseOnce.tab25 lombardlaw29_CloseOnce.bits25 (fun HT_ HW_ => ?_)
                           generalize wr.drew = w39 at HO_5 HB hx527_0 hx527_1 hx527_2 hx527_3 hx528_0 hx528_1 hx528_2 hx528_3 hHeld ⊢
                           refine pA (i := 0) (N := some 110) HT_ (pf 16 1) ?_
                           refine pA (i := 1) (N := some 111) HT_ (pf 16 2) ?_
                           refine pA (i := 2) (N := some 112) HT_ (pf 16 3) ?_
                           refine pA (i := 3) (N := some 113) HT_ (pf 16 4) ?_
                           refine pA (i := 5) (N := some 115) HT_ (ba 16 47) ?_
                           refine pA (i := 6) (N := some 116) HT_ (ba 16 111) ?_
                           refine pA (i := 7) (N := some 117) HT_ (ba 16 239) ?_
                           refine pA (i := 8) (N := some 118) HT_ (ba 16 495) ?_
                           refine take_ (i := 4) (N := some 114) (v := ?_) (a' := ?_) (pf 16 9) rfl rfl (take_ofW HT_.out HW_.out (by kernel_rfl)) (fun _ _ _ h => h) (Or.inl ⟨by rfl, ?_⟩) hHeld ?_ ?_
                           rotate_left
                           · as_aux_lemma =>
                             rintro w' ⟨s0, s1, s2, s3, s4, s5, s6, s7⟩
                             go_simp
                             with_reducible rfl
                           rotate_left
                           · as_aux_lemma =>
                             simp only [Act.put, sA, sB, sC, i64_w, i32_w]
                             rfl
                           refine take_ (i := 9) (N := some 119) (v := ?_) (a' := ?_) (pf 16 10) rfl rfl (take_ofW HT_.out HW_.out (by kernel_rfl)) (fun _ _ _ h => h) (Or.inl ⟨by rfl, ?_⟩) hHeld ?_ ?_
                           rotate_left
                           · as_aux_lemma =>
                             rintro w' ⟨s0, s1, s2, s3, s4, s5, s6, s7⟩
                             go_simp
                             with_reducible rfl
                           rotate_left
                           · as_aux_lemma =>
                             simp only [Act.put, sA, sB, sC, i64_w, i32_w]
                             rfl
                           refine one_ (i := 10) (N := some 120) (pf 16 11) rfl rfl (one_of HT_.out (by kernel_rfl)) (by decide) (fun K hK => ?_)
                           refine goes_ Try.func21 (by kernel_rfl) rfl #[.int .i64 ((rd_T58 t511 x13_3).f2), .int .i64 ((rd_T66 l1 x15_4).f3), .int .i64 1000000, .int .i64 2] (by rfl) rfl rfl am ?_
                           with_reducible refine (lombardref01_MulDiv.calls ((rd_T58 t511 x13_3).f2) ((rd_T66 l1 x15_4).f3) 1000000 2 t529 t530 _ A37.out).mono ?_
                           rintro e w40 ⟨rfl, hb⟩
                           have HS0_ := (hb.cell (World.block_lt_of_cell? _ _ (hHeld.1))).trans (hHeld.1)
                           have HS1_ := (hb.cell (World.block_lt_of_cell? _ _ (hHeld.2.1))).trans (hHeld.2.1)
                           have HS2_ := (hb.cell (World.block_lt_of_cell? _ _ (hHeld.2.2.1))).trans (hHeld.2.2.1)
                           have HS3_ := (hb.cell (World.block_lt_of_cell? _ _ (hHeld.2.2.2.1))).trans (hHeld.2.2.2.1)
                           refine ⟨_, rfl, ?_⟩
                           have n0_ := aK (Kd.R_below (gR HO_5) hb)
                           have n1_ := aK (below_step (gB HB) hb)
                           clear HO_5; clear HB
                           have HO_5 := n0_
                           have HB := n1_
                           clear n0_ n1_
                           try clear hb
                           try clear hb2
                           try clear hk
                           try clear hi
                           refine hK.out _ _ ⟨HS0_, HS1_, HS2_, HS3_, ((HB.out.cell (World.block_lt_of_cell? w _ hw528_0)).trans hw528_0), ((HB.out.cell (World.block_lt_of_cell? w _ hw528_1)).trans hw528_1), ((HB.out.cell (World.block_lt_of_cell? w _ hw528_2)).trans hw528_2), ((HB.out.cell (World.block_lt_of_cell? w _ hw528_3)).trans hw528_3)⟩ (fun hHeld => ?_)
                           clear hK K
                           refine norm_ (a' := ?_) ?_ ?_
                           rotate_left
                           · as_aux_lemma =>
                             show Act.put _ (some 120) _ = _
                             simp only [Act.put, sA, sB, sC, i64_w, i32_w]
                             rfl
                           refine pA (i := 11) (N := some 109) HT_ (pf 16 12) ?_
                           refine pA (i := 12) (N := some 121) HT_ (pf 16 13) ?_
                           refine pA (i := 13) (N := some 122) HT_ (pf 16 14) ?_
                           refine pA (i := 14) (N := some 16) HT_ (pf 16 15) ?_
                           refine pA (i := 15) (N := some 17) HT_ (pf 16 16) ?_
                           refine done_ (done_of HT_.out (by kernel_rfl)) ?_
                           try go_wp2
                           have n0_ := aK (Kd.R_drew HO_5.out)
                           have n1_ := aK (below_drew1 HB.out)
                           clear HO_5; clear HB
                           have HO_5 := n0_
                           have HB := n1_
                           clear n0_ n1_
                           refine start_ (n := 54) (S := fun w' => True) (ds := []) (pf 54 0) (by kernel_rfl) rfl rfl trivial (fun hHeld => ?_); refine with_tabW lombardlaw29_CloseOnce.tab26 lombardlaw29_CloseOnce.bits26 (fun HT_ HW_ => ?_)
                           generalize w40.drew = w41 at HO_5 HB hHeld ⊢
                           refine pA (i := 0) (N := some 123) HT_ (pf 54 1) ?_
                           refine pA (i := 1) (N := some 124) HT_ (pf 54 2) ?_
                           refine pure_ (i := 2) (N := some 125) (v := undef) (a' := ?_) (pf 54 3) rfl rfl (any_of HT_.out (by kernel_rfl)) (fun _ _ _ h => h) (Or.inr ⟨by rfl, rfl⟩) ?_ ?_
                           rotate_left
                           · as_aux_lemma =>
                             simp only [Act.put, sA, sB, sC, i64_w, i32_w]
                             rfl
                           refine pure_ (i := 3) (N := some 126) (v := undef) (a' := ?_) (pf 54 4) rfl rfl (any_of HT_.out (by kernel_rfl)) (fun _ _ _ h => h) (Or.inr ⟨by rfl, rfl⟩) ?_ ?_
                           rotate_left
                           · as_aux_lemma =>
                             simp only [Act.put, sA, sB, sC, i64_w, i32_w]
                             rfl
                           refine pure_ (i := 4) (N := some 127) (v := undef) (a' := ?_) (pf 54 5) rfl rfl (any_of HT_.out (by kernel_rfl)) (fun _ _ _ h => h) (Or.inr ⟨by rfl, rfl⟩) ?_ ?_
                           rotate_left
                           · as_aux_lemma =>
                             simp only [Act.put, sA, sB, sC, i64_w, i32_w]
                             rfl
                           refine pure_ (i := 5) (N := some 128) (v := undef) (a' := ?_) (pf 54 6) rfl rfl (any_of HT_.out (by kernel_rfl)) (fun _ _ _ h => h) (Or.inr ⟨by rfl, rfl⟩) ?_ ?_
                           rotate_left
                           · as_aux_lemma =>
                             simp only [Act.put, sA, sB, sC, i64_w, i32_w]
                             rfl
                           refine pure_ (i := 6) (N := some 129) (v := undef) (a' := ?_) (pf 54 7) rfl rfl (any_of HT_.out (by kernel_rfl)) (fun _ _ _ h => h) (Or.inr ⟨by rfl, rfl⟩) ?_ ?_
                           rotate_left
                           · as_aux_lemma =>
                             simp only [Act.put, sA, sB, sC, i64_w, i32_w]
                             rfl
                           refine pure_ (i := 7) (N := some 130) (v := undef) (a' := ?_) (pf 54 8) rfl rfl (any_of HT_.out (by kernel_rfl)) (fun _ _ _ h => h) (Or.inr ⟨by rfl, rfl⟩) ?_ ?_
                           rotate_left
                           · as_aux_lemma =>
                             simp only [Act.put, sA, sB, sC, i64_w, i32_w]
                             rfl
                           refine pure_ (i := 8) (N := some 131) (v := undef) (a' := ?_) (pf 54 9) rfl rfl (any_of HT_.out (by kernel_rfl)) (fun _ _ _ h => h) (Or.inr ⟨by rfl, rfl⟩) ?_ ?_
                           rotate_left
                           · as_aux_lemma =>
                             simp only [Act.put, sA, sB, sC, i64_w, i32_w]
                             rfl
                           refine pure_ (i := 9) (N := some 132) (v := undef) (a' := ?_) (pf 54 10) rfl rfl (any_of HT_.out (by kernel_rfl)) (fun _ _ _ h => h) (Or.inr ⟨by rfl, rfl⟩) ?_ ?_
                           rotate_left
                           · as_aux_lemma =>
                             simp only [Act.put, sA, sB, sC, i64_w, i32_w]
                             rfl
                           refine pure_ (i := 10) (N := some 133) (v := undef) (a' := ?_) (pf 54 11) rfl rfl (any_of HT_.out (by kernel_rfl)) (fun _ _ _ h => h) (Or.inr ⟨by rfl, rfl⟩) ?_ ?_
                           rotate_left
                           · as_aux_lemma =>
                             simp only [Act.put, sA, sB, sC, i64_w, i32_w]
                             rfl
                           refine pure_ (i := 11) (N := some 134) (v := undef) (a' := ?_) (pf 54 12) rfl rfl (any_of HT_.out (by kernel_rfl)) (fun _ _ _ h => h) (Or.inr ⟨by rfl, rfl⟩) ?_ ?_
                           rotate_left
                           · as_aux_lemma =>
                             simp only [Act.put, sA, sB, sC, i64_w, i32_w]
                             rfl
                           refine pure_ (i := 12) (N := some 135) (v := undef) (a' := ?_) (pf 54 13) rfl rfl (any_of HT_.out (by kernel_rfl)) (fun _ _ _ h => h) (Or.inr ⟨by rfl, rfl⟩) ?_ ?_
                           rotate_left
                           · as_aux_lemma =>
                             simp only [Act.put, sA, sB, sC, i64_w, i32_w]
                             rfl
                           refine pure_ (i := 13) (N := some 136) (v := undef) (a' := ?_) (pf 54 14) rfl rfl (any_of HT_.out (by kernel_rfl)) (fun _ _ _ h => h) (Or.inr ⟨by rfl, rfl⟩) ?_ ?_
                           rotate_left
                           · as_aux_lemma =>
                             simp only [Act.put, sA, sB, sC, i64_w, i32_w]
                             rfl
                           refine pure_ (i := 14) (N := some 137) (v := undef) (a' := ?_) (pf 54 15) rfl rfl (any_of HT_.out (by kernel_rfl)) (fun _ _ _ h => h) (Or.inr ⟨by rfl, rfl⟩) ?_ ?_
                           rotate_left
                           · as_aux_lemma =>
                             simp only [Act.put, sA, sB, sC, i64_w, i32_w]
                             rfl
                           refine pure_ (i := 15) (N := some 138) (v := undef) (a' := ?_) (pf 54 16) rfl rfl (any_of HT_.out (by kernel_rfl)) (fun _ _ _ h => h) (Or.inr ⟨by rfl, rfl⟩) ?_ ?_
                           rotate_left
                           · as_aux_lemma =>
                             simp only [Act.put, sA, sB, sC, i64_w, i32_w]
                             rfl
                           refine pure_ (i := 16) (N := some 139) (v := undef) (a' := ?_) (pf 54 17) rfl rfl (any_of HT_.out (by kernel_rfl)) (fun _ _ _ h => h) (Or.inr ⟨by rfl, rfl⟩) ?_ ?_
                           rotate_left
                           · as_aux_lemma =>
                             simp only [Act.put, sA, sB, sC, i64_w, i32_w]
                             rfl
                           refine pure_ (i := 17) (N := some 140) (v := undef) (a' := ?_) (pf 54 18) rfl rfl (any_of HT_.out (by kernel_rfl)) (fun _ _ _ h => h) (Or.inr ⟨by rfl, rfl⟩) ?_ ?_
                           rotate_left
                           · as_aux_lemma =>
                             simp only [Act.put, sA, sB, sC, i64_w, i32_w]
                             rfl
                           refine pure_ (i := 18) (N := some 141) (v := undef) (a' := ?_) (pf 54 19) rfl rfl (any_of HT_.out (by kernel_rfl)) (fun _ _ _ h => h) (Or.inr ⟨by rfl, rfl⟩) ?_ ?_
                           rotate_left
                           · as_aux_lemma =>
                             simp only [Act.put, sA, sB, sC, i64_w, i32_w]
                             rfl
                           refine pure_ (i := 19) (N := some 142) (v := undef) (a' := ?_) (pf 54 20) rfl rfl (any_of HT_.out (by kernel_rfl)) (fun _ _ _ h => h) (Or.inr ⟨by rfl, rfl⟩) ?_ ?_
                           rotate_left
                           · as_aux_lemma =>
                             simp only [Act.put, sA, sB, sC, i64_w, i32_w]
                             rfl
                           refine pure_ (i := 20) (N := some 143) (v := undef) (a' := ?_) (pf 54 21) rfl rfl (any_of HT_.out (by kernel_rfl)) (fun _ _ _ h => h) (Or.inr ⟨by rfl, rfl⟩) ?_ ?_
                           rotate_left
                           · as_aux_lemma =>
                             simp only [Act.put, sA, sB, sC, i64_w, i32_w]
                             rfl
                           refine pure_ (i := 21) (N := some 144) (v := undef) (a' := ?_) (pf 54 22) rfl rfl (any_of HT_.out (by kernel_rfl)) (fun _ _ _ h => h) (Or.inr ⟨by rfl, rfl⟩) ?_ ?_
                           rotate_left
                           · as_aux_lemma =>
                             simp only [Act.put, sA, sB, sC, i64_w, i32_w]
                             rfl
                           refine pure_ (i := 22) (N := some 145) (v := undef) (a' := ?_) (pf 54 23) rfl rfl (any_of HT_.out (by kernel_rfl)) (fun _ _ _ h => h) (Or.inr ⟨by rfl, rfl⟩) ?_ ?_
                           rotate_left
                           · as_aux_lemma =>
                             simp only [Act.put, sA, sB, sC, i64_w, i32_w]
                             rfl
                           refine pure_ (i := 23) (N := some 146) (v := undef) (a' := ?_) (pf 54 24) rfl rfl (any_of HT_.out (by kernel_rfl)) (fun _ _ _ h => h) (Or.inr ⟨by rfl, rfl⟩) ?_ ?_
                           rotate_left
                           · as_aux_lemma =>
                             simp only [Act.put, sA, sB, sC, i64_w, i32_w]
                             rfl
                           refine pure_ (i := 24) (N := some 147) (v := undef) (a' := ?_) (pf 54 25) rfl rfl (any_of HT_.out (by kernel_rfl)) (fun _ _ _ h => h) (Or.inr ⟨by rfl, rfl⟩) ?_ ?_
                           rotate_left
                           · as_aux_lemma =>
                             simp only [Act.put, sA, sB, sC, i64_w, i32_w]
                             rfl
                           refine pure_ (i := 25) (N := some 148) (v := undef) (a' := ?_) (pf 54 26) rfl rfl (any_of HT_.out (by kernel_rfl)) (fun _ _ _ h => h) (Or.inr ⟨by rfl, rfl⟩) ?_ ?_
                           rotate_left
                           · as_aux_lemma =>
                             simp only [Act.put, sA, sB, sC, i64_w, i32_w]
                             rfl
                           refine pure_ (i := 26) (N := some 149) (v := undef) (a' := ?_) (pf 54 27) rfl rfl (any_of HT_.out (by kernel_rfl)) (fun _ _ _ h => h) (Or.inr ⟨by rfl, rfl⟩) ?_ ?_
                           rotate_left
                           · as_aux_lemma =>
                             simp only [Act.put, sA, sB, sC, i64_w, i32_w]
                             rfl
                           refine pure_ (i := 27) (N := some 150) (v := undef) (a' := ?_) (pf 54 28) rfl rfl (any_of HT_.out (by kernel_rfl)) (fun _ _ _ h => h) (Or.inr ⟨by rfl, rfl⟩) ?_ ?_
                           rotate_left
                           · as_aux_lemma =>
                             simp only [Act.put, sA, sB, sC, i64_w, i32_w]
                             rfl
                           refine pure_ (i := 28) (N := some 151) (v := undef) (a' := ?_) (pf 54 29) rfl rfl (any_of HT_.out (by kernel_rfl)) (fun _ _ _ h => h) (Or.inr ⟨by rfl, rfl⟩) ?_ ?_
                           rotate_left
                           · as_aux_lemma =>
                             simp only [Act.put, sA, sB, sC, i64_w, i32_w]
                             rfl
                           refine pure_ (i := 29) (N := some 152) (v := undef) (a' := ?_) (pf 54 30) rfl rfl (any_of HT_.out (by kernel_rfl)) (fun _ _ _ h => h) (Or.inr ⟨by rfl, rfl⟩) ?_ ?_
                           rotate_left
                           · as_aux_lemma =>
                             simp only [Act.put, sA, sB, sC, i64_w, i32_w]
                             rfl
                           refine pure_ (i := 30) (N := some 153) (v := undef) (a' := ?_) (pf 54 31) rfl rfl (any_of HT_.out (by kernel_rfl)) (fun _ _ _ h => h) (Or.inr ⟨by rfl, rfl⟩) ?_ ?_
                           rotate_left
                           · as_aux_lemma =>
                             simp only [Act.put, sA, sB, sC, i64_w, i32_w]
                             rfl
                           refine pure_ (i := 31) (N := some 154) (v := undef) (a' := ?_) (pf 54 32) rfl rfl (any_of HT_.out (by kernel_rfl)) (fun _ _ _ h => h) (Or.inr ⟨by rfl, rfl⟩) ?_ ?_
                           rotate_left
                           · as_aux_lemma =>
                             simp only [Act.put, sA, sB, sC, i64_w, i32_w]
                             rfl
                           refine pure_ (i := 32) (N := some 155) (v := undef) (a' := ?_) (pf 54 33) rfl rfl (any_of HT_.out (by kernel_rfl)) (fun _ _ _ h => h) (Or.inr ⟨by rfl, rfl⟩) ?_ ?_
                           rotate_left
                           · as_aux_lemma =>
                             simp only [Act.put, sA, sB, sC, i64_w, i32_w]
                             rfl
                           refine pure_ (i := 33) (N := some 156) (v := undef) (a' := ?_) (pf 54 34) rfl rfl (any_of HT_.out (by kernel_rfl)) (fun _ _ _ h => h) (Or.inr ⟨by rfl, rfl⟩) ?_ ?_
                           rotate_left
                           · as_aux_lemma =>
                             simp only [Act.put, sA, sB, sC, i64_w, i32_w]
                             rfl
                           refine pure_ (i := 34) (N := some 157) (v := undef) (a' := ?_) (pf 54 35) rfl rfl (any_of HT_.out (by kernel_rfl)) (fun _ _ _ h => h) (Or.inr ⟨by rfl, rfl⟩) ?_ ?_
                           rotate_left
                           · as_aux_lemma =>
                             simp only [Act.put, sA, sB, sC, i64_w, i32_w]
                             rfl
                           refine pure_ (i := 35) (N := some 158) (v := undef) (a' := ?_) (pf 54 36) rfl rfl (any_of HT_.out (by kernel_rfl)) (fun _ _ _ h => h) (Or.inr ⟨by rfl, rfl⟩) ?_ ?_
                           rotate_left
                           · as_aux_lemma =>
                             simp only [Act.put, sA, sB, sC, i64_w, i32_w]
                             rfl
                           refine pure_ (i := 36) (N := some 159) (v := undef) (a' := ?_) (pf 54 37) rfl rfl (any_of HT_.out (by kernel_rfl)) (fun _ _ _ h => h) (Or.inr ⟨by rfl, rfl⟩) ?_ ?_
                           rotate_left
                           · as_aux_lemma =>
                             simp only [Act.put, sA, sB, sC, i64_w, i32_w]
                             rfl
                           refine pure_ (i := 37) (N := some 160) (v := undef) (a' := ?_) (pf 54 38) rfl rfl (any_of HT_.out (by kernel_rfl)) (fun _ _ _ h => h) (Or.inr ⟨by rfl, rfl⟩) ?_ ?_
                           rotate_left
                           · as_aux_lemma =>
                             simp only [Act.put, sA, sB, sC, i64_w, i32_w]
                             rfl
                           refine pure_ (i := 38) (N := some 161) (v := undef) (a' := ?_) (pf 54 39) rfl rfl (any_of HT_.out (by kernel_rfl)) (fun _ _ _ h => h) (Or.inr ⟨by rfl, rfl⟩) ?_ ?_
                           rotate_left
                           · as_aux_lemma =>
                             simp only [Act.put, sA, sB, sC, i64_w, i32_w]
                             rfl
                           refine pure_ (i := 39) (N := some 162) (v := undef) (a' := ?_) (pf 54 40) rfl rfl (any_of HT_.out (by kernel_rfl)) (fun _ _ _ h => h) (Or.inr ⟨by rfl, rfl⟩) ?_ ?_
                           rotate_left
                           · as_aux_lemma =>
                             simp only [Act.put, sA, sB, sC, i64_w, i32_w]
                             rfl
                           refine pure_ (i := 40) (N := some 163) (v := undef) (a' := ?_) (pf 54 41) rfl rfl (any_of HT_.out (by kernel_rfl)) (fun _ _ _ h => h) (Or.inr ⟨by rfl, rfl⟩) ?_ ?_
                           rotate_left
                           · as_aux_lemma =>
                             simp only [Act.put, sA, sB, sC, i64_w, i32_w]
                             rfl
                           refine pure_ (i := 41) (N := some 164) (v := undef) (a' := ?_) (pf 54 42) rfl rfl (any_of HT_.out (by kernel_rfl)) (fun _ _ _ h => h) (Or.inr ⟨by rfl, rfl⟩) ?_ ?_
                           rotate_left
                           · as_aux_lemma =>
                             simp only [Act.put, sA, sB, sC, i64_w, i32_w]
                             rfl
                           refine pure_ (i := 42) (N := some 165) (v := undef) (a' := ?_) (pf 54 43) rfl rfl (any_of HT_.out (by kernel_rfl)) (fun _ _ _ h => h) (Or.inr ⟨by rfl, rfl⟩) ?_ ?_
                           rotate_left
                           · as_aux_lemma =>
                             simp only [Act.put, sA, sB, sC, i64_w, i32_w]
                             rfl
                           refine pure_ (i := 43) (N := some 166) (v := undef) (a' := ?_) (pf 54 44) rfl rfl (any_of HT_.out (by kernel_rfl)) (fun _ _ _ h => h) (Or.inr ⟨by rfl, rfl⟩) ?_ ?_
                           rotate_left
                           · as_aux_lemma =>
                             simp only [Act.put, sA, sB, sC, i64_w, i32_w]
                             rfl
                           refine pure_ (i := 44) (N := some 167) (v := undef) (a' := ?_) (pf 54 45) rfl rfl (any_of HT_.out (by kernel_rfl)) (fun _ _ _ h => h) (Or.inr ⟨by rfl, rfl⟩) ?_ ?_
                           rotate_left
                           · as_aux_lemma =>
                             simp only [Act.put, sA, sB, sC, i64_w, i32_w]
                             rfl
                           refine pure_ (i := 45) (N := some 168) (v := undef) (a' := ?_) (pf 54 46) rfl rfl (any_of HT_.out (by kernel_rfl)) (fun _ _ _ h => h) (Or.inr ⟨by rfl, rfl⟩) ?_ ?_
                           rotate_left
                           · as_aux_lemma =>
                             simp only [Act.put, sA, sB, sC, i64_w, i32_w]
                             rfl
                           refine pure_ (i := 46) (N := some 169) (v := undef) (a' := ?_) (pf 54 47) rfl rfl (any_of HT_.out (by kernel_rfl)) (fun _ _ _ h => h) (Or.inr ⟨by rfl, rfl⟩) ?_ ?_
                           rotate_left
                           · as_aux_lemma =>
                             simp only [Act.put, sA, sB, sC, i64_w, i32_w]
                             rfl
                           refine pure_ (i := 47) (N := some 170) (v := undef) (a' := ?_) (pf 54 48) rfl rfl (any_of HT_.out (by kernel_rfl)) (fun _ _ _ h => h) (Or.inr ⟨by rfl, rfl⟩) ?_ ?_
                           rotate_left
                           · as_aux_lemma =>
                             simp only [Act.put, sA, sB, sC, i64_w, i32_w]
                             rfl
                           refine pure_ (i := 48) (N := some 171) (v := undef) (a' := ?_) (pf 54 49) rfl rfl (any_of HT_.out (by kernel_rfl)) (fun _ _ _ h => h) (Or.inr ⟨by rfl, rfl⟩) ?_ ?_
                           rotate_left
                           · as_aux_lemma =>
                             simp only [Act.put, sA, sB, sC, i64_w, i32_w]
                             rfl
                           refine pure_ (i := 49) (N := some 172) (v := undef) (a' := ?_) (pf 54 50) rfl rfl (any_of HT_.out (by kernel_rfl)) (fun _ _ _ h => h) (Or.inr ⟨by rfl, rfl⟩) ?_ ?_
                           rotate_left
                           · as_aux_lemma =>
                             simp only [Act.put, sA, sB, sC, i64_w, i32_w]
                             rfl
                           refine pure_ (i := 50) (N := some 173) (v := undef) (a' := ?_) (pf 54 51) rfl rfl (any_of HT_.out (by kernel_rfl)) (fun _ _ _ h => h) (Or.inr ⟨by rfl, rfl⟩) ?_ ?_
                           rotate_left
                           · as_aux_lemma =>
                             simp only [Act.put, sA, sB, sC, i64_w, i32_w]
                             rfl
                           refine pure_ (i := 51) (N := some 174) (v := undef) (a' := ?_) (pf 54 52) rfl rfl (any_of HT_.out (by kernel_rfl)) (fun _ _ _ h => h) (Or.inr ⟨by rfl, rfl⟩) ?_ ?_
                           rotate_left
                           · as_aux_lemma =>
                             simp only [Act.put, sA, sB, sC, i64_w, i32_w]
                             rfl
                           refine pA (i := 52) (N := some 175) HT_ (pf 54 53) ?_
                           refine pA (i := 53) (N := some 14) HT_ (pf 54 54) ?_
                           refine done_ (done_of HT_.out (by kernel_rfl)) ?_
                           try go_wp2
                           go_roundg k4
                           case measure => have := HJ2.out; have := HK2.out; have := HK3.out; have := HK4.out; omega
                           case rel => exact ⟨(true), (wrap64 (x15_4 + 1)), ac, ac, H', ⟨by have := HJ2.out; have := HK2.out; have := HK3.out; have := HK4.out; omega⟩, ⟨gR HO_5⟩, ⟨gB HB⟩⟩
                         · as_aux_lemma =>
                           replace c38 := Bool.eq_false_iff.mpr c38
                           subst c38
                           replace H : (if t530 = 0 then (if ((rd_T66 l1 x15_4).f0) = ((rd_T58 t511 x13_3).f0) then (if ((rd_T66 l1 x15_4).f1).toList = ((rd_T58 t511 x13_3).f1).toList then (if ((rd_T58 t511 x13_3).f2) ≤ ((rd_T66 l1 x15_4).f2) then (lombardlaw29_CloseOnce.l3 k4 l1 t511 t512 x9_3 x13_3 (decide (((rd_T58 t511 x13_3).f3) ≤ t529)) (wrap64 (x15_4 + 1))) else (lombardlaw29_CloseOnce.l3 k4 l1 t511 t512 x9_3 x13_3 false (wrap64 (x15_4 + 1)))) else (lombardlaw29_CloseOnce.l3 k4 l1 t511 t512 x9_3 x13_3 false (wrap64 (x15_4 + 1)))) else (lombardlaw29_CloseOnce.l3 k4 l1 t511 t512 x9_3 x13_3 false (wrap64 (x15_4 + 1)))) else (lombardlaw29_CloseOnce.l3 k4 l1 t511 t512 x9_3 x13_3 false (wrap64 (x15_4 + 1)))) = some r := by rw [if_neg (show ¬ (false = true) by decide)] at H; exact H
                           by_cases c42 : t530 = 0
                           · as_aux_lemma =>
                             rw [if_pos c42] at H
                             have c42b0 : (t530 == 0) = true := beq_iff_eq.mpr c42
                             have c42b1 : (t530 != 0) = false := bne_eq_false_iff_eq.mpr c42
                             clear c42
                             by_cases c43 : ((rd_T66 l1 x15_4).f0) = ((rd_T58 t511 x13_3).f0)
                             · rw [if_pos c43] at H
                               have c43b0 : (((rd_T66 l1 x15_4).f0) == ((rd_T58 t511 x13_3).f0)) = true := beq_iff_eq.mpr c43
                               have c43b1 : (((rd_T66 l1 x15_4).f0) != ((rd_T58 t511 x13_3).f0)) = false := bne_eq_false_iff_eq.mpr c43
                               clear c43
                               by_cases c44 : ((rd_T66 l1 x15_4).f1).toList = ((rd_T58 t511 x13_3).f1).toList
                               · rw [if_pos c44] at H
                                 have c44b0 : (((rd_T66 l1 x15_4).f1).toList == ((rd_T58 t511 x13_3).f1).toList) = true := beq_iff_eq.mpr c44
                                 have c44b1 : (((rd_T66 l1 x15_4).f1).toList != ((rd_T58 t511 x13_3).f1).toList) = false := bne_eq_false_iff_eq.mpr c44
                                 clear c44
                                 by_cases c45 : ((rd_T58 t511 x13_3).f2) ≤ ((rd_T66 l1 x15_4).f2)
                                 · rw [if_pos c45] at H
                                   have c45b0 := dT c45
                                   clear c45
                                   have H' := Aside0.mk H
                                   clear H
                                   try go_wp2
                                   have n0_ := aK (Kd.R_drew HO_5.out)
                                   have n1_ := aK (below_drew1 HB.out)
                                   clear HO_5; clear HB
                                   have HO_5 := n0_
                                   have HB := n1_
                                   clear n0_ n1_
                                   obtain ⟨⟨p527, q527⟩, ad527, rfl, hx527_0, hx527_1, hx527_2, hx527_3⟩ := za (at_T58 (Kd.R_reads' HO_5.out).2.2) x13_3
                                   have p528 : 0 ≤ (x15_4 : Int) := od
                                   have q528 : x15_4 < (l1.length : Int) := od
                                   obtain ⟨ad528, e528, hx528_0, hx528_1, hx528_2, hx528_3⟩ := at_T66 HR1.out x15_4 p528 q528
                                   have hw528_3 := hx528_3
                                   have hw528_2 := hx528_2
                                   have hw528_1 := hx528_1
                                   have hw528_0 := hx528_0
                                   cases e528
                                   replace hx528_0 := gc HB hx528_0
                                   replace hx528_1 := gc HB hx528_1
                                   replace hx528_2 := gc HB hx528_2
                                   replace hx528_3 := gc HB hx528_3
                                   replace p528 := eq_true p528; replace q528 := eq_true q528
                                   refine start_ (n := 16) (S := fun w' => w'.cell? (ad527.add ((x13_3).toNat * 4)) = some (.int .i64 ((rd_T58 t511 x13_3).f0)) ∧ w'.cell? ⟨(ad527.add ((x13_3).toNat * 4)).block, (ad527.add ((x13_3).toNat * 4)).off + 1, none⟩ = some (.string ((rd_T58 t511 x13_3).f1)) ∧ w'.cell? ⟨(ad527.add ((x13_3).toNat * 4)).block, (ad527.add ((x13_3).toNat * 4)).off + 2, none⟩ = some (.int .i64 ((rd_T58 t511 x13_3).f2)) ∧ w'.cell? ⟨(ad527.add ((x13_3).toNat * 4)).block, (ad527.add ((x13_3).toNat * 4)).off + 3, none⟩ = some (.int .i64 ((rd_T58 t511 x13_3).f3)) ∧ w'.cell? (ad528.add ((x15_4).toNat * 4)) = some (.int .i64 ((rd_T66 l1 x15_4).f0)) ∧ w'.cell? ⟨(ad528.add ((x15_4).toNat * 4)).block, (ad528.add ((x15_4).toNat * 4)).off + 1, none⟩ = some (.string ((rd_T66 l1 x15_4).f1)) ∧ w'.cell? ⟨(ad528.add ((x15_4).toNat * 4)).block, (ad528.add ((x15_4).toNat * 4)).off + 2, none⟩ = some (.int .i64 ((rd_T66 l1 x15_4).f2)) ∧ w'.cell? ⟨(ad528.add ((x15_4).toNat * 4)).block, (ad528.add ((x15_4).toNat * 4)).off + 3, none⟩ = some (.int .i64 ((rd_T66 l1 x15_4).f3))) (ds := []) (pf 16 0) (by kernel_rfl) rfl rfl ⟨hx527_0, hx527_1, hx527_2, hx527_3, ((HB.out.cell (World.block_lt_of_cell? w _ hw528_0)).trans hw528_0), ((HB.out.cell (World.block_lt_of_cell? w _ hw528_1)).trans hw528_1), ((HB.out.cell (World.block_lt_of_cell? w _ hw528_2)).trans hw528_2), ((HB.out.cell (World.block_lt_of_cell? w _ hw528_3)).trans hw528_3)⟩ (fun hHeld => ?_); refine with_tabW lombardlaw29_CloseOnce.tab25 lombardlaw29_CloseOnce.bits25 (fun HT_ HW_ => ?_)
                                   generalize wr.drew = w46 at HO_5 HB hx527_0 hx527_1 hx527_2 hx527_3 hx528_0 hx528_1 hx528_2 hx528_3 hHeld ⊢
                                   refine pA (i := 0) (N := some 110) HT_ (pf 16 1) ?_
                                   refine pA (i := 1) (N := some 111) HT_ (pf 16 2) ?_
                                   refine pA (i := 2) (N := some 112) HT_ (pf 16 3) ?_
                                   refine pA (i := 3) (N := some 113) HT_ (pf 16 4) ?_
                                   refine pA (i := 5) (N := some 115) HT_ (ba 16 47) ?_
                                   refine pA (i := 6) (N := some 116) HT_ (ba 16 111) ?_
                                   refine pA (i := 7) (N := some 117) HT_ (ba 16 239) ?_
                                   refine pA (i := 8) (N := some 118) HT_ (ba 16 495) ?_
                                   refine take_ (i := 4) (N := some 114) (v := ?_) (a' := ?_) (pf 16 9) rfl rfl (take_ofW HT_.out HW_.out (by kernel_rfl)) (fun _ _ _ h => h) (Or.inl ⟨by rfl, ?_⟩) hHeld ?_ ?_
                                   rotate_left
                                   · rintro w' ⟨s0, s1, s2, s3, s4, s5, s6, s7⟩
                                     go_simp
                                     with_reducible rfl
                                   rotate_left
                                   · simp only [Act.put, sA, sB, sC, i64_w, i32_w]
                                     rfl
                                   refine take_ (i := 9) (N := some 119) (v := ?_) (a' := ?_) (pf 16 10) rfl rfl (take_ofW HT_.out HW_.out (by kernel_rfl)) (fun _ _ _ h => h) (Or.inl ⟨by rfl, ?_⟩) hHeld ?_ ?_
                                   rotate_left
                                   · rintro w' ⟨s0, s1, s2, s3, s4, s5, s6, s7⟩
                                     go_simp
                                     with_reducible rfl
                                   rotate_left
                                   · simp only [Act.put, sA, sB, sC, i64_w, i32_w]
                                     rfl
                                   refine one_ (i := 10) (N := some 120) (pf 16 11) rfl rfl (one_of HT_.out (by kernel_rfl)) (by decide) (fun K hK => ?_)
                                   refine goes_ Try.func21 (by kernel_rfl) rfl #[.int .i64 ((rd_T58 t511 x13_3).f2), .int .i64 ((rd_T66 l1 x15_4).f3), .int .i64 1000000, .int .i64 2] (by rfl) rfl rfl am ?_
                                   with_reducible refine (lombardref01_MulDiv.calls ((rd_T58 t511 x13_3).f2) ((rd_T66 l1 x15_4).f3) 1000000 2 t529 t530 _ A37.out).mono ?_
                                   rintro e w47 ⟨rfl, hb⟩
                                   have HS0_ := (hb.cell (World.block_lt_of_cell? _ _ (hHeld.1))).trans (hHeld.1)
                                   have HS1_ := (hb.cell (World.block_lt_of_cell? _ _ (hHeld.2.1))).trans (hHeld.2.1)
                                   have HS2_ := (hb.cell (World.block_lt_of_cell? _ _ (hHeld.2.2.1))).trans (hHeld.2.2.1)
                                   have HS3_ := (hb.cell (World.block_lt_of_cell? _ _ (hHeld.2.2.2.1))).trans (hHeld.2.2.2.1)
                                   refine ⟨_, rfl, ?_⟩
                                   have n0_ := aK (Kd.R_below (gR HO_5) hb)
                                   have n1_ := aK (below_step (gB HB) hb)
                                   clear HO_5; clear HB
                                   have HO_5 := n0_
                                   have HB := n1_
                                   clear n0_ n1_
                                   try clear hb
                                   try clear hb2
                                   try clear hk
                                   try clear hi
                                   refine hK.out _ _ ⟨HS0_, HS1_, HS2_, HS3_, ((HB.out.cell (World.block_lt_of_cell? w _ hw528_0)).trans hw528_0), ((HB.out.cell (World.block_lt_of_cell? w _ hw528_1)).trans hw528_1), ((HB.out.cell (World.block_lt_of_cell? w _ hw528_2)).trans hw528_2), ((HB.out.cell (World.block_lt_of_cell? w _ hw528_3)).trans hw528_3)⟩ (fun hHeld => ?_)
                                   clear hK K
                                   refine norm_ (a' := ?_) ?_ ?_
                                   rotate_left
                                   · show Act.put _ (some 120) _ = _
                                     simp only [Act.put, sA, sB, sC, i64_w, i32_w]
                                     rfl
                                   refine pA (i := 11) (N := some 109) HT_ (pf 16 12) ?_
                                   refine pA (i := 12) (N := some 121) HT_ (pf 16 13) ?_
                                   refine pA (i := 13) (N := some 122) HT_ (pf 16 14) ?_
                                   refine pA (i := 14) (N := some 16) HT_ (pf 16 15) ?_
                                   refine pA (i := 15) (N := some 17) HT_ (pf 16 16) ?_
                                   refine done_ (done_of HT_.out (by kernel_rfl)) ?_
                                   try go_wp2
                                   have n0_ := aK (Kd.R_drew HO_5.out)
                                   have n1_ := aK (below_drew1 HB.out)
                                   clear HO_5; clear HB
                                   have HO_5 := n0_
                                   have HB := n1_
                                   clear n0_ n1_
                                   have p531 : 0 ≤ (x15_4 : Int) := od
                                   have q531 : x15_4 < (l1.length : Int) := od
                                   obtain ⟨ad531, e531, hx531_0, hx531_1, hx531_2, hx531_3⟩ := at_T66 HR1.out x15_4 p531 q531
                                   have hw531_3 := hx531_3
                                   have hw531_2 := hx531_2
                                   have hw531_1 := hx531_1
                                   have hw531_0 := hx531_0
                                   obtain rfl : ad528 = ad531 := (by injection e531)
                                   replace hx531_0 := gc HB hx531_0
                                   replace hx531_1 := gc HB hx531_1
                                   replace hx531_2 := gc HB hx531_2
                                   replace hx531_3 := gc HB hx531_3
                                   replace p531 := eq_true p531; replace q531 := eq_true q531
                                   obtain ⟨⟨p532, q532⟩, ad532, e532, hx532_0, hx532_1, hx532_2, hx532_3⟩ := za (at_T58 (Kd.R_reads' HO_5.out).2.2) x13_3
                                   obtain rfl : ad527 = ad532 := (by injection e532)
                                   have p533 : 0 ≤ (x15_4 : Int) := od
                                   have q533 : x15_4 < (l1.length : Int) := od
                                   obtain ⟨ad533, e533, hx533_0, hx533_1, hx533_2, hx533_3⟩ := at_T66 HR1.out x15_4 p533 q533
                                   have hw533_3 := hx533_3
                                   have hw533_2 := hx533_2
                                   have hw533_1 := hx533_1
                                   have hw533_0 := hx533_0
                                   obtain rfl : ad528 = ad533 := (by injection e533)
                                   replace hx533_0 := gc HB hx533_0
                                   replace hx533_1 := gc HB hx533_1
                                   replace hx533_2 := gc HB hx533_2
                                   replace hx533_3 := gc HB hx533_3
                                   replace p533 := eq_true p533; replace q533 := eq_true q533
                                   obtain ⟨⟨p534, q534⟩, ad534, e534, hx534_0, hx534_1, hx534_2, hx534_3⟩ := za (at_T58 (Kd.R_reads' HO_5.out).2.2) x13_3
                                   obtain rfl : ad527 = ad534 := (by injection e534)
                                   obtain ⟨⟨p535, q535⟩, ad535, e535, hx535_0, hx535_1, hx535_2, hx535_3⟩ := za (at_T58 (Kd.R_reads' HO_5.out).2.2) x13_3
                                   obtain rfl : ad527 = ad535 := (by injection e535)
                                   have p536 : 0 ≤ (x15_4 : Int) := od
                                   have q536 : x15_4 < (l1.length : Int) := od
                                   obtain ⟨ad536, e536, hx536_0, hx536_1, hx536_2, hx536_3⟩ := at_T66 HR1.out x15_4 p536 q536
                                   have hw536_3 := hx536_3
                                   have hw536_2 := hx536_2
                                   have hw536_1 := hx536_1
                                   have hw536_0 := hx536_0
                                   obtain rfl : ad528 = ad536 := (by injection e536)
                                   replace hx536_0 := gc HB hx536_0
                                   replace hx536_1 := gc HB hx536_1
                                   replace hx536_2 := gc HB hx536_2
                                   replace hx536_3 := gc HB hx536_3
                                   replace p536 := eq_true p536; replace q536 := eq_true q536
                                   obtain ⟨⟨p537, q537⟩, ad537, e537, hx537_0, hx537_1, hx537_2, hx537_3⟩ := za (at_T58 (Kd.R_reads' HO_5.out).2.2) x13_3
                                   obtain rfl : ad527 = ad537 := (by injection e537)
                                   refine start_ (n := 54) (S := fun w' => w'.cell? (ad528.add ((x15_4).toNat * 4)) = some (.int .i64 ((rd_T66 l1 x15_4).f0)) ∧ w'.cell? ⟨(ad528.add ((x15_4).toNat * 4)).block, (ad528.add ((x15_4).toNat * 4)).off + 1, none⟩ = some (.string ((rd_T66 l1 x15_4).f1)) ∧ w'.cell? ⟨(ad528.add ((x15_4).toNat * 4)).block, (ad528.add ((x15_4).toNat * 4)).off + 2, none⟩ = some (.int .i64 ((rd_T66 l1 x15_4).f2)) ∧ w'.cell? ⟨(ad528.add ((x15_4).toNat * 4)).block, (ad528.add ((x15_4).toNat * 4)).off + 3, none⟩ = some (.int .i64 ((rd_T66 l1 x15_4).f3)) ∧ w'.cell? (ad527.add ((x13_3).toNat * 4)) = some (.int .i64 ((rd_T58 t511 x13_3).f0)) ∧ w'.cell? ⟨(ad527.add ((x13_3).toNat * 4)).block, (ad527.add ((x13_3).toNat * 4)).off + 1, none⟩ = some (.string ((rd_T58 t511 x13_3).f1)) ∧ w'.cell? ⟨(ad527.add ((x13_3).toNat * 4)).block, (ad527.add ((x13_3).toNat * 4)).off + 2, none⟩ = some (.int .i64 ((rd_T58 t511 x13_3).f2)) ∧ w'.cell? ⟨(ad527.add ((x13_3).toNat * 4)).block, (ad527.add ((x13_3).toNat * 4)).off + 3, none⟩ = some (.int .i64 ((rd_T58 t511 x13_3).f3)) ∧ w'.cell? (ad528.add ((x15_4).toNat * 4)) = some (.int .i64 ((rd_T66 l1 x15_4).f0)) ∧ w'.cell? ⟨(ad528.add ((x15_4).toNat * 4)).block, (ad528.add ((x15_4).toNat * 4)).off + 1, none⟩ = some (.string ((rd_T66 l1 x15_4).f1)) ∧ w'.cell? ⟨(ad528.add ((x15_4).toNat * 4)).block, (ad528.add ((x15_4).toNat * 4)).off + 2, none⟩ = some (.int .i64 ((rd_T66 l1 x15_4).f2)) ∧ w'.cell? ⟨(ad528.add ((x15_4).toNat * 4)).block, (ad528.add ((x15_4).toNat * 4)).off + 3, none⟩ = some (.int .i64 ((rd_T66 l1 x15_4).f3)) ∧ w'.cell? (ad527.add ((x13_3).toNat * 4)) = some (.int .i64 ((rd_T58 t511 x13_3).f0)) ∧ w'.cell? ⟨(ad527.add ((x13_3).toNat * 4)).block, (ad527.add ((x13_3).toNat * 4)).off + 1, none⟩ = some (.string ((rd_T58 t511 x13_3).f1)) ∧ w'.cell? ⟨(ad527.add ((x13_3).toNat * 4)).block, (ad527.add ((x13_3).toNat * 4)).off + 2, none⟩ = some (.int .i64 ((rd_T58 t511 x13_3).f2)) ∧ w'.cell? ⟨(ad527.add ((x13_3).toNat * 4)).block, (ad527.add ((x13_3).toNat * 4)).off + 3, none⟩ = some (.int .i64 ((rd_T58 t511 x13_3).f3)) ∧ w'.cell? (ad527.add ((x13_3).toNat * 4)) = some (.int .i64 ((rd_T58 t511 x13_3).f0)) ∧ w'.cell? ⟨(ad527.add ((x13_3).toNat * 4)).block, (ad527.add ((x13_3).toNat * 4)).off + 1, none⟩ = some (.string ((rd_T58 t511 x13_3).f1)) ∧ w'.cell? ⟨(ad527.add ((x13_3).toNat * 4)).block, (ad527.add ((x13_3).toNat * 4)).off + 2, none⟩ = some (.int .i64 ((rd_T58 t511 x13_3).f2)) ∧ w'.cell? ⟨(ad527.add ((x13_3).toNat * 4)).block, (ad527.add ((x13_3).toNat * 4)).off + 3, none⟩ = some (.int .i64 ((rd_T58 t511 x13_3).f3)) ∧ w'.cell? (ad528.add ((x15_4).toNat * 4)) = some (.int .i64 ((rd_T66 l1 x15_4).f0)) ∧ w'.cell? ⟨(ad528.add ((x15_4).toNat * 4)).block, (ad528.add ((x15_4).toNat * 4)).off + 1, none⟩ = some (.string ((rd_T66 l1 x15_4).f1)) ∧ w'.cell? ⟨(ad528.add ((x15_4).toNat * 4)).block, (ad528.add ((x15_4).toNat * 4)).off + 2, none⟩ = some (.int .i64 ((rd_T66 l1 x15_4).f2)) ∧ w'.cell? ⟨(ad528.add ((x15_4).toNat * 4)).block, (ad528.add ((x15_4).toNat * 4)).off + 3, none⟩ = some (.int .i64 ((rd_T66 l1 x15_4).f3)) ∧ w'.cell? (ad527.add ((x13_3).toNat * 4)) = some (.int .i64 ((rd_T58 t511 x13_3).f0)) ∧ w'.cell? ⟨(ad527.add ((x13_3).toNat * 4)).block, (ad527.add ((x13_3).toNat * 4)).off + 1, none⟩ = some (.string ((rd_T58 t511 x13_3).f1)) ∧ w'.cell? ⟨(ad527.add ((x13_3).toNat * 4)).block, (ad527.add ((x13_3).toNat * 4)).off + 2, none⟩ = some (.int .i64 ((rd_T58 t511 x13_3).f2)) ∧ w'.cell? ⟨(ad527.add ((x13_3).toNat * 4)).block, (ad527.add ((x13_3).toNat * 4)).off + 3, none⟩ = some (.int .i64 ((rd_T58 t511 x13_3).f3))) (ds := []) (pf 54 0) (by kernel_rfl) rfl rfl ⟨((HB.out.cell (World.block_lt_of_cell? w _ hw531_0)).trans hw531_0), ((HB.out.cell (World.block_lt_of_cell? w _ hw531_1)).trans hw531_1), ((HB.out.cell (World.block_lt_of_cell? w _ hw531_2)).trans hw531_2), ((HB.out.cell (World.block_lt_of_cell? w _ hw531_3)).trans hw531_3), hx532_0, hx532_1, hx532_2, hx532_3, ((HB.out.cell (World.block_lt_of_cell? w _ hw533_0)).trans hw533_0), ((HB.out.cell (World.block_lt_of_cell? w _ hw533_1)).trans hw533_1), ((HB.out.cell (World.block_lt_of_cell? w _ hw533_2)).trans hw533_2), ((HB.out.cell (World.block_lt_of_cell? w _ hw533_3)).trans hw533_3), hx534_0, hx534_1, hx534_2, hx534_3, hx535_0, hx535_1, hx535_2, hx535_3, ((HB.out.cell (World.block_lt_of_cell? w _ hw536_0)).trans hw536_0), ((HB.out.cell (World.block_lt_of_cell? w _ hw536_1)).trans hw536_1), ((HB.out.cell (World.block_lt_of_cell? w _ hw536_2)).trans hw536_2), ((HB.out.cell (World.block_lt_of_cell? w _ hw536_3)).trans hw536_3), hx537_0, hx537_1, hx537_2, hx537_3⟩ (fun hHeld => ?_); refine with_tabW lombardlaw29_CloseOnce.tab26 lombardlaw29_CloseOnce.bits26 (fun HT_ HW_ => ?_)
                                   generalize w47.drew = w48 at HO_5 HB hx531_0 hx531_1 hx531_2 hx531_3 hx532_0 hx532_1 hx532_2 hx532_3 hx533_0 hx533_1 hx533_2 hx533_3 hx534_0 hx534_1 hx534_2 hx534_3 hx535_0 hx535_1 hx535_2 hx535_3 hx536_0 hx536_1 hx536_2 hx536_3 hx537_0 hx537_1 hx537_2 hx537_3 hHeld ⊢
                                   refine pA (i := 0) (N := some 123) HT_ (pf 54 1) ?_
                                   refine pA (i := 1) (N := some 124) HT_ (pf 54 2) ?_
                                   refine pA (i := 2) (N := some 125) HT_ (pf 54 3) ?_
                                   refine pA (i := 3) (N := some 126) HT_ (pf 54 4) ?_
                                   refine pA (i := 4) (N := some 127) HT_ (pf 54 5) ?_
                                   refine pA (i := 5) (N := some 128) HT_ (pf 54 6) ?_
                                   refine pA (i := 6) (N := some 129) HT_ (pf 54 7) ?_
                                   refine pA (i := 7) (N := some 130) HT_ (pf 54 8) ?_
                                   refine pA (i := 8) (N := some 131) HT_ (pf 54 9) ?_
                                   refine pA (i := 10) (N := some 133) HT_ (ba 54 1535) ?_
                                   refine pA (i := 11) (N := some 134) HT_ (ba 54 3583) ?_
                                   refine pA (i := 12) (N := some 135) HT_ (ba 54 7679) ?_
                                   refine pA (i := 13) (N := some 136) HT_ (ba 54 15871) ?_
                                   refine take_ (i := 9) (N := some 132) (v := ?_) (a' := ?_) (pf 54 14) rfl rfl (take_ofW HT_.out HW_.out (by kernel_rfl)) (fun _ _ _ h => h) (Or.inl ⟨by rfl, ?_⟩) hHeld ?_ ?_
                                   rotate_left
                                   · rintro w' ⟨s0, s1, s2, s3, s4, s5, s6, s7, s8, s9, s10, s11, s12, s13, s14, s15, s16, s17, s18, s19, s20, s21, s22, s23, s24, s25, s26, s27⟩
                                     go_simp
                                     with_reducible rfl
                                   rotate_left
                                   · simp only [Act.put, sA, sB, sC, i64_w, i32_w]
                                     rfl
                                   refine take_ (i := 14) (N := some 137) (v := ?_) (a' := ?_) (pf 54 15) rfl rfl (take_ofW HT_.out HW_.out (by kernel_rfl)) (fun _ _ _ h => h) (Or.inl ⟨by rfl, ?_⟩) hHeld ?_ ?_
                                   rotate_left
                                   · rintro w' ⟨s0, s1, s2, s3, s4, s5, s6, s7, s8, s9, s10, s11, s12, s13, s14, s15, s16, s17, s18, s19, s20, s21, s22, s23, s24, s25, s26, s27⟩
                                     go_simp
                                     with_reducible rfl
                                   rotate_left
                                   · simp only [Act.put, sA, sB, sC, i64_w, i32_w]
                                     rfl
                                   refine pA (i := 15) (N := some 138) HT_ (pf 54 16) ?_
                                   refine pA (i := 16) (N := some 139) HT_ (pf 54 17) ?_
                                   refine pA (i := 17) (N := some 140) HT_ (pf 54 18) ?_
                                   refine pA (i := 18) (N := some 141) HT_ (pf 54 19) ?_
                                   refine pA (i := 19) (N := some 142) HT_ (pf 54 20) ?_
                                   refine pA (i := 20) (N := some 143) HT_ (pf 54 21) ?_
                                   refine pA (i := 21) (N := some 144) HT_ (pf 54 22) ?_
                                   refine pA (i := 23) (N := some 146) HT_ (ba 54 12582911) ?_
                                   refine pA (i := 24) (N := some 147) HT_ (ba 54 29360127) ?_
                                   refine pA (i := 25) (N := some 148) HT_ (ba 54 62914559) ?_
                                   refine pA (i := 26) (N := some 149) HT_ (ba 54 130023423) ?_
                                   refine take_ (i := 22) (N := some 145) (v := ?_) (a' := ?_) (pf 54 27) rfl rfl (take_ofW HT_.out HW_.out (by kernel_rfl)) (fun _ _ _ h => h) (Or.inl ⟨by rfl, ?_⟩) hHeld ?_ ?_
                                   rotate_left
                                   · rintro w' ⟨s0, s1, s2, s3, s4, s5, s6, s7, s8, s9, s10, s11, s12, s13, s14, s15, s16, s17, s18, s19, s20, s21, s22, s23, s24, s25, s26, s27⟩
                                     go_simp
                                     with_reducible rfl
                                   rotate_left
                                   · simp only [Act.put, sA, sB, sC, i64_w, i32_w]
                                     rfl
                                   refine take_ (i := 27) (N := some 150) (v := ?_) (a' := ?_) (pf 54 28) rfl rfl (take_ofW HT_.out HW_.out (by kernel_rfl)) (fun _ _ _ h => h) (Or.inl ⟨by rfl, ?_⟩) hHeld ?_ ?_
                                   rotate_left
                                   · rintro w' ⟨s0, s1, s2, s3, s4, s5, s6, s7, s8, s9, s10, s11, s12, s13, s14, s15, s16, s17, s18, s19, s20, s21, s22, s23, s24, s25, s26, s27⟩
                                     go_simp
                                     with_reducible rfl
                                   rotate_left
                                   · simp only [Act.put, sA, sB, sC, i64_w, i32_w]
                                     rfl
                                   refine pA (i := 28) (N := some 151) HT_ (pf 54 29) ?_
                                   refine pA (i := 29) (N := some 152) HT_ (pf 54 30) ?_
                                   refine pA (i := 30) (N := some 153) HT_ (pf 54 31) ?_
                                   refine pA (i := 31) (N := some 154) HT_ (pf 54 32) ?_
                                   refine pA (i := 32) (N := some 155) HT_ (pf 54 33) ?_
                                   refine pA (i := 33) (N := some 156) HT_ (pf 54 34) ?_
                                   refine pA (i := 34) (N := some 157) HT_ (pf 54 35) ?_
                                   refine pA (i := 36) (N := some 159) HT_ (ba 54 103079215103) ?_
                                   refine pA (i := 37) (N := some 160) HT_ (ba 54 240518168575) ?_
                                   refine pA (i := 38) (N := some 161) HT_ (ba 54 515396075519) ?_
                                   refine pA (i := 39) (N := some 162) HT_ (ba 54 1065151889407) ?_
                                   refine take_ (i := 35) (N := some 158) (v := ?_) (a' := ?_) (pf 54 40) rfl rfl (take_ofW HT_.out HW_.out (by kernel_rfl)) (fun _ _ _ h => h) (Or.inl ⟨by rfl, ?_⟩) hHeld ?_ ?_
                                   rotate_left
                                   · rintro w' ⟨s0, s1, s2, s3, s4, s5, s6, s7, s8, s9, s10, s11, s12, s13, s14, s15, s16, s17, s18, s19, s20, s21, s22, s23, s24, s25, s26, s27⟩
                                     go_simp
                                     with_reducible rfl
                                   rotate_left
                                   · simp only [Act.put, sA, sB, sC, i64_w, i32_w]
                                     rfl
                                   refine take_ (i := 40) (N := some 163) (v := ?_) (a' := ?_) (pf 54 41) rfl rfl (take_ofW HT_.out HW_.out (by kernel_rfl)) (fun _ _ _ h => h) (Or.inl ⟨by rfl, ?_⟩) hHeld ?_ ?_
                                   rotate_left
                                   · rintro w' ⟨s0, s1, s2, s3, s4, s5, s6, s7, s8, s9, s10, s11, s12, s13, s14, s15, s16, s17, s18, s19, s20, s21, s22, s23, s24, s25, s26, s27⟩
                                     go_simp
                                     with_reducible rfl
                                   rotate_left
                                   · simp only [Act.put, sA, sB, sC, i64_w, i32_w]
                                     rfl
                                   refine pA (i := 41) (N := some 164) HT_ (pf 54 42) ?_
                                   refine pA (i := 42) (N := some 165) HT_ (pf 54 43) ?_
                                   refine pA (i := 43) (N := some 166) HT_ (pf 54 44) ?_
                                   refine pA (i := 44) (N := some 167) HT_ (pf 54 45) ?_
                                   refine pA (i := 45) (N := some 168) HT_ (pf 54 46) ?_
                                   refine pA (i := 46) (N := some 169) HT_ (pf 54 47) ?_
                                   refine pA (i := 47) (N := some 170) HT_ (pf 54 48) ?_
                                   refine pA (i := 49) (N := some 172) HT_ (ba 54 844424930131967) ?_
                                   refine take_ (i := 48) (N := some 171) (v := ?_) (a' := ?_) (pf 54 50) rfl rfl (take_ofW HT_.out HW_.out (by kernel_rfl)) (fun _ _ _ h => h) (Or.inl ⟨by rfl, ?_⟩) hHeld ?_ ?_
                                   rotate_left
                                   · rintro w' ⟨s0, s1, s2, s3, s4, s5, s6, s7, s8, s9, s10, s11, s12, s13, s14, s15, s16, s17, s18, s19, s20, s21, s22, s23, s24, s25, s26, s27⟩
                                     go_simp
                                     with_reducible rfl
                                   rotate_left
                                   · simp only [Act.put, sA, sB, sC, i64_w, i32_w]
                                     rfl
                                   refine pA (i := 50) (N := some 173) HT_ (pf 54 51) ?_
                                   refine pA (i := 51) (N := some 174) HT_ (pf 54 52) ?_
                                   refine pA (i := 52) (N := some 175) HT_ (pf 54 53) ?_
                                   refine pA (i := 53) (N := some 14) HT_ (pf 54 54) ?_
                                   refine done_ (done_of HT_.out (by kernel_rfl)) ?_
                                   try go_wp2
                                   go_roundg k4
                                   case measure => have := HJ2.out; have := HK2.out; have := HK3.out; have := HK4.out; omega
                                   case rel => exact ⟨(decide (((rd_T58 t511 x13_3).f3) ≤ t529)), (wrap64 (x15_4 + 1)), ac, ac, H', ⟨by have := HJ2.out; have := HK2.out; have := HK3.out; have := HK4.out; omega⟩, ⟨gR HO_5⟩, ⟨gB HB⟩⟩
                                 · rw [if_neg c45] at H
                                   have c45b0 := dF c45
                                   clear c45
                                   have H' := Aside0.mk H
                                   clear H
                                   try go_wp2
                                   have n0_ := aK (Kd.R_drew HO_5.out)
                                   have n1_ := aK (below_drew1 HB.out)
                                   clear HO_5; clear HB
                                   have HO_5 := n0_
                                   have HB := n1_
                                   clear n0_ n1_
                                   obtain ⟨⟨p527, q527⟩, ad527, rfl, hx527_0, hx527_1, hx527_2, hx527_3⟩ := za (at_T58 (Kd.R_reads' HO_5.out).2.2) x13_3
                                   have p528 : 0 ≤ (x15_4 : Int) := od
                                   have q528 : x15_4 < (l1.length : Int) := od
                                   obtain ⟨ad528, e528, hx528_0, hx528_1, hx528_2, hx528_3⟩ := at_T66 HR1.out x15_4 p528 q528
                                   have hw528_3 := hx528_3
                                   have hw528_2 := hx528_2
                                   have hw528_1 := hx528_1
                                   have hw528_0 := hx528_0
                                   cases e528
                                   replace hx528_0 := gc HB hx528_0
                                   replace hx528_1 := gc HB hx528_1
                                   replace hx528_2 := gc HB hx528_2
                                   replace hx528_3 := gc HB hx528_3
                                   replace p528 := eq_true p528; replace q528 := eq_true q528
                                   refine start_ (n := 16) (S := fun w' => w'.cell? (ad527.add ((x13_3).toNat * 4)) = some (.int .i64 ((rd_T58 t511 x13_3).f0)) ∧ w'.cell? ⟨(ad527.add ((x13_3).toNat * 4)).block, (ad527.add ((x13_3).toNat * 4)).off + 1, none⟩ = some (.string ((rd_T58 t511 x13_3).f1)) ∧ w'.cell? ⟨(ad527.add ((x13_3).toNat * 4)).block, (ad527.add ((x13_3).toNat * 4)).off + 2, none⟩ = some (.int .i64 ((rd_T58 t511 x13_3).f2)) ∧ w'.cell? ⟨(ad527.add ((x13_3).toNat * 4)).block, (ad527.add ((x13_3).toNat * 4)).off + 3, none⟩ = some (.int .i64 ((rd_T58 t511 x13_3).f3)) ∧ w'.cell? (ad528.add ((x15_4).toNat * 4)) = some (.int .i64 ((rd_T66 l1 x15_4).f0)) ∧ w'.cell? ⟨(ad528.add ((x15_4).toNat * 4)).block, (ad528.add ((x15_4).toNat * 4)).off + 1, none⟩ = some (.string ((rd_T66 l1 x15_4).f1)) ∧ w'.cell? ⟨(ad528.add ((x15_4).toNat * 4)).block, (ad528.add ((x15_4).toNat * 4)).off + 2, none⟩ = some (.int .i64 ((rd_T66 l1 x15_4).f2)) ∧ w'.cell? ⟨(ad528.add ((x15_4).toNat * 4)).block, (ad528.add ((x15_4).toNat * 4)).off + 3, none⟩ = some (.int .i64 ((rd_T66 l1 x15_4).f3))) (ds := []) (pf 16 0) (by kernel_rfl) rfl rfl ⟨hx527_0, hx527_1, hx527_2, hx527_3, ((HB.out.cell (World.block_lt_of_cell? w _ hw528_0)).trans hw528_0), ((HB.out.cell (World.block_lt_of_cell? w _ hw528_1)).trans hw528_1), ((HB.out.cell (World.block_lt_of_cell? w _ hw528_2)).trans hw528_2), ((HB.out.cell (World.block_lt_of_cell? w _ hw528_3)).trans hw528_3)⟩ (fun hHeld => ?_); refine with_tabW lombardlaw29_CloseOnce.tab25 lombardlaw29_CloseOnce.bits25 (fun HT_ HW_ => ?_)
                                   generalize wr.drew = w49 at HO_5 HB hx527_0 hx527_1 hx527_2 hx527_3 hx528_0 hx528_1 hx528_2 hx528_3 hHeld ⊢
                                   refine pA (i := 0) (N := some 110) HT_ (pf 16 1) ?_
                                   refine pA (i := 1) (N := some 111) HT_ (pf 16 2) ?_
                                   refine pA (i := 2) (N := some 112) HT_ (pf 16 3) ?_
                                   refine pA (i := 3) (N := some 113) HT_ (pf 16 4) ?_
                                   refine pA (i := 5) (N := some 115) HT_ (ba 16 47) ?_
                                   refine pA (i := 6) (N := some 116) HT_ (ba 16 111) ?_
                                   refine pA (i := 7) (N := some 117) HT_ (ba 16 239) ?_
                                   refine pA (i := 8) (N := some 118) HT_ (ba 16 495) ?_
                                   refine take_ (i := 4) (N := some 114) (v := ?_) (a' := ?_) (pf 16 9) rfl rfl (take_ofW HT_.out HW_.out (by kernel_rfl)) (fun _ _ _ h => h) (Or.inl ⟨by rfl, ?_⟩) hHeld ?_ ?_
                                   rotate_left
                                   · rintro w' ⟨s0, s1, s2, s3, s4, s5, s6, s7⟩
                                     go_simp
                                     with_reducible rfl
                                   rotate_left
                                   · simp only [Act.put, sA, sB, sC, i64_w, i32_w]
                                     rfl
                                   refine take_ (i := 9) (N := some 119) (v := ?_) (a' := ?_) (pf 16 10) rfl rfl (take_ofW HT_.out HW_.out (by kernel_rfl)) (fun _ _ _ h => h) (Or.inl ⟨by rfl, ?_⟩) hHeld ?_ ?_
                                   rotate_left
                                   · rintro w' ⟨s0, s1, s2, s3, s4, s5, s6, s7⟩
                                     go_simp
                                     with_reducible rfl
                                   rotate_left
                                   · simp only [Act.put, sA, sB, sC, i64_w, i32_w]
                                     rfl
                                   refine one_ (i := 10) (N := some 120) (pf 16 11) rfl rfl (one_of HT_.out (by kernel_rfl)) (by decide) (fun K hK => ?_)
                                   refine goes_ Try.func21 (by kernel_rfl) rfl #[.int .i64 ((rd_T58 t511 x13_3).f2), .int .i64 ((rd_T66 l1 x15_4).f3), .int .i64 1000000, .int .i64 2] (by rfl) rfl rfl am ?_
                                   with_reducible refine (lombardref01_MulDiv.calls ((rd_T58 t511 x13_3).f2) ((rd_T66 l1 x15_4).f3) 1000000 2 t529 t530 _ A37.out).mono ?_
                                   rintro e w50 ⟨rfl, hb⟩
                                   have HS0_ := (hb.cell (World.block_lt_of_cell? _ _ (hHeld.1))).trans (hHeld.1)
                                   have HS1_ := (hb.cell (World.block_lt_of_cell? _ _ (hHeld.2.1))).trans (hHeld.2.1)
                                   have HS2_ := (hb.cell (World.block_lt_of_cell? _ _ (hHeld.2.2.1))).trans (hHeld.2.2.1)
                                   have HS3_ := (hb.cell (World.block_lt_of_cell? _ _ (hHeld.2.2.2.1))).trans (hHeld.2.2.2.1)
                                   refine ⟨_, rfl, ?_⟩
                                   have n0_ := aK (Kd.R_below (gR HO_5) hb)
                                   have n1_ := aK (below_step (gB HB) hb)
                                   clear HO_5; clear HB
                                   have HO_5 := n0_
                                   have HB := n1_
                                   clear n0_ n1_
                                   try clear hb
                                   try clear hb2
                                   try clear hk
                                   try clear hi
                                   refine hK.out _ _ ⟨HS0_, HS1_, HS2_, HS3_, ((HB.out.cell (World.block_lt_of_cell? w _ hw528_0)).trans hw528_0), ((HB.out.cell (World.block_lt_of_cell? w _ hw528_1)).trans hw528_1), ((HB.out.cell (World.block_lt_of_cell? w _ hw528_2)).trans hw528_2), ((HB.out.cell (World.block_lt_of_cell? w _ hw528_3)).trans hw528_3)⟩ (fun hHeld => ?_)
                                   clear hK K
                                   refine norm_ (a' := ?_) ?_ ?_
                                   rotate_left
                                   · show Act.put _ (some 120) _ = _
                                     simp only [Act.put, sA, sB, sC, i64_w, i32_w]
                                     rfl
                                   refine pA (i := 11) (N := some 109) HT_ (pf 16 12) ?_
                                   refine pA (i := 12) (N := some 121) HT_ (pf 16 13) ?_
                                   refine pA (i := 13) (N := some 122) HT_ (pf 16 14) ?_
                                   refine pA (i := 14) (N := some 16) HT_ (pf 16 15) ?_
                                   refine pA (i := 15) (N := some 17) HT_ (pf 16 16) ?_
                                   refine done_ (done_of HT_.out (by kernel_rfl)) ?_
                                   try go_wp2
                                   have n0_ := aK (Kd.R_drew HO_5.out)
                                   have n1_ := aK (below_drew1 HB.out)
                                   clear HO_5; clear HB
                                   have HO_5 := n0_
                                   have HB := n1_
                                   clear n0_ n1_
                                   have p531 : 0 ≤ (x15_4 : Int) := od
                                   have q531 : x15_4 < (l1.length : Int) := od
                                   obtain ⟨ad531, e531, hx531_0, hx531_1, hx531_2, hx531_3⟩ := at_T66 HR1.out x15_4 p531 q531
                                   have hw531_3 := hx531_3
                                   have hw531_2 := hx531_2
                                   have hw531_1 := hx531_1
                                   have hw531_0 := hx531_0
                                   obtain rfl : ad528 = ad531 := (by injection e531)
                                   replace hx531_0 := gc HB hx531_0
                                   replace hx531_1 := gc HB hx531_1
                                   replace hx531_2 := gc HB hx531_2
                                   replace hx531_3 := gc HB hx531_3
                                   replace p531 := eq_true p531; replace q531 := eq_true q531
                                   obtain ⟨⟨p532, q532⟩, ad532, e532, hx532_0, hx532_1, hx532_2, hx532_3⟩ := za (at_T58 (Kd.R_reads' HO_5.out).2.2) x13_3
                                   obtain rfl : ad527 = ad532 := (by injection e532)
                                   have p533 : 0 ≤ (x15_4 : Int) := od
                                   have q533 : x15_4 < (l1.length : Int) := od
                                   obtain ⟨ad533, e533, hx533_0, hx533_1, hx533_2, hx533_3⟩ := at_T66 HR1.out x15_4 p533 q533
                                   have hw533_3 := hx533_3
                                   have hw533_2 := hx533_2
                                   have hw533_1 := hx533_1
                                   have hw533_0 := hx533_0
                                   obtain rfl : ad528 = ad533 := (by injection e533)
                                   replace hx533_0 := gc HB hx533_0
                                   replace hx533_1 := gc HB hx533_1
                                   replace hx533_2 := gc HB hx533_2
                                   replace hx533_3 := gc HB hx533_3
                                   replace p533 := eq_true p533; replace q533 := eq_true q533
                                   obtain ⟨⟨p534, q534⟩, ad534, e534, hx534_0, hx534_1, hx534_2, hx534_3⟩ := za (at_T58 (Kd.R_reads' HO_5.out).2.2) x13_3
                                   obtain rfl : ad527 = ad534 := (by injection e534)
                                   obtain ⟨⟨p535, q535⟩, ad535, e535, hx535_0, hx535_1, hx535_2, hx535_3⟩ := za (at_T58 (Kd.R_reads' HO_5.out).2.2) x13_3
                                   obtain rfl : ad527 = ad535 := (by injection e535)
                                   have p536 : 0 ≤ (x15_4 : Int) := od
                                   have q536 : x15_4 < (l1.length : Int) := od
                                   obtain ⟨ad536, e536, hx536_0, hx536_1, hx536_2, hx536_3⟩ := at_T66 HR1.out x15_4 p536 q536
                                   have hw536_3 := hx536_3
                                   have hw536_2 := hx536_2
                                   have hw536_1 := hx536_1
                                   have hw536_0 := hx536_0
                                   obtain rfl : ad528 = ad536 := (by injection e536)
                                   replace hx536_0 := gc HB hx536_0
                                   replace hx536_1 := gc HB hx536_1
                                   replace hx536_2 := gc HB hx536_2
                                   replace hx536_3 := gc HB hx536_3
                                   replace p536 := eq_true p536; replace q536 := eq_true q536
                                   refine start_ (n := 54) (S := fun w' => w'.cell? (ad528.add ((x15_4).toNat * 4)) = some (.int .i64 ((rd_T66 l1 x15_4).f0)) ∧ w'.cell? ⟨(ad528.add ((x15_4).toNat * 4)).block, (ad528.add ((x15_4).toNat * 4)).off + 1, none⟩ = some (.string ((rd_T66 l1 x15_4).f1)) ∧ w'.cell? ⟨(ad528.add ((x15_4).toNat * 4)).block, (ad528.add ((x15_4).toNat * 4)).off + 2, none⟩ = some (.int .i64 ((rd_T66 l1 x15_4).f2)) ∧ w'.cell? ⟨(ad528.add ((x15_4).toNat * 4)).block, (ad528.add ((x15_4).toNat * 4)).off + 3, none⟩ = some (.int .i64 ((rd_T66 l1 x15_4).f3)) ∧ w'.cell? (ad527.add ((x13_3).toNat * 4)) = some (.int .i64 ((rd_T58 t511 x13_3).f0)) ∧ w'.cell? ⟨(ad527.add ((x13_3).toNat * 4)).block, (ad527.add ((x13_3).toNat * 4)).off + 1, none⟩ = some (.string ((rd_T58 t511 x13_3).f1)) ∧ w'.cell? ⟨(ad527.add ((x13_3).toNat * 4)).block, (ad527.add ((x13_3).toNat * 4)).off + 2, none⟩ = some (.int .i64 ((rd_T58 t511 x13_3).f2)) ∧ w'.cell? ⟨(ad527.add ((x13_3).toNat * 4)).block, (ad527.add ((x13_3).toNat * 4)).off + 3, none⟩ = some (.int .i64 ((rd_T58 t511 x13_3).f3)) ∧ w'.cell? (ad528.add ((x15_4).toNat * 4)) = some (.int .i64 ((rd_T66 l1 x15_4).f0)) ∧ w'.cell? ⟨(ad528.add ((x15_4).toNat * 4)).block, (ad528.add ((x15_4).toNat * 4)).off + 1, none⟩ = some (.string ((rd_T66 l1 x15_4).f1)) ∧ w'.cell? ⟨(ad528.add ((x15_4).toNat * 4)).block, (ad528.add ((x15_4).toNat * 4)).off + 2, none⟩ = some (.int .i64 ((rd_T66 l1 x15_4).f2)) ∧ w'.cell? ⟨(ad528.add ((x15_4).toNat * 4)).block, (ad528.add ((x15_4).toNat * 4)).off + 3, none⟩ = some (.int .i64 ((rd_T66 l1 x15_4).f3)) ∧ w'.cell? (ad527.add ((x13_3).toNat * 4)) = some (.int .i64 ((rd_T58 t511 x13_3).f0)) ∧ w'.cell? ⟨(ad527.add ((x13_3).toNat * 4)).block, (ad527.add ((x13_3).toNat * 4)).off + 1, none⟩ = some (.string ((rd_T58 t511 x13_3).f1)) ∧ w'.cell? ⟨(ad527.add ((x13_3).toNat * 4)).block, (ad527.add ((x13_3).toNat * 4)).off + 2, none⟩ = some (.int .i64 ((rd_T58 t511 x13_3).f2)) ∧ w'.cell? ⟨(ad527.add ((x13_3).toNat * 4)).block, (ad527.add ((x13_3).toNat * 4)).off + 3, none⟩ = some (.int .i64 ((rd_T58 t511 x13_3).f3)) ∧ w'.cell? (ad527.add ((x13_3).toNat * 4)) = some (.int .i64 ((rd_T58 t511 x13_3).f0)) ∧ w'.cell? ⟨(ad527.add ((x13_3).toNat * 4)).block, (ad527.add ((x13_3).toNat * 4)).off + 1, none⟩ = some (.string ((rd_T58 t511 x13_3).f1)) ∧ w'.cell? ⟨(ad527.add ((x13_3).toNat * 4)).block, (ad527.add ((x13_3).toNat * 4)).off + 2, none⟩ = some (.int .i64 ((rd_T58 t511 x13_3).f2)) ∧ w'.cell? ⟨(ad527.add ((x13_3).toNat * 4)).block, (ad527.add ((x13_3).toNat * 4)).off + 3, none⟩ = some (.int .i64 ((rd_T58 t511 x13_3).f3)) ∧ w'.cell? (ad528.add ((x15_4).toNat * 4)) = some (.int .i64 ((rd_T66 l1 x15_4).f0)) ∧ w'.cell? ⟨(ad528.add ((x15_4).toNat * 4)).block, (ad528.add ((x15_4).toNat * 4)).off + 1, none⟩ = some (.string ((rd_T66 l1 x15_4).f1)) ∧ w'.cell? ⟨(ad528.add ((x15_4).toNat * 4)).block, (ad528.add ((x15_4).toNat * 4)).off + 2, none⟩ = some (.int .i64 ((rd_T66 l1 x15_4).f2)) ∧ w'.cell? ⟨(ad528.add ((x15_4).toNat * 4)).block, (ad528.add ((x15_4).toNat * 4)).off + 3, none⟩ = some (.int .i64 ((rd_T66 l1 x15_4).f3))) (ds := []) (pf 54 0) (by kernel_rfl) rfl rfl ⟨((HB.out.cell (World.block_lt_of_cell? w _ hw531_0)).trans hw531_0), ((HB.out.cell (World.block_lt_of_cell? w _ hw531_1)).trans hw531_1), ((HB.out.cell (World.block_lt_of_cell? w _ hw531_2)).trans hw531_2), ((HB.out.cell (World.block_lt_of_cell? w _ hw531_3)).trans hw531_3), hx532_0, hx532_1, hx532_2, hx532_3, ((HB.out.cell (World.block_lt_of_cell? w _ hw533_0)).trans hw533_0), ((HB.out.cell (World.block_lt_of_cell? w _ hw533_1)).trans hw533_1), ((HB.out.cell (World.block_lt_of_cell? w _ hw533_2)).trans hw533_2), ((HB.out.cell (World.block_lt_of_cell? w _ hw533_3)).trans hw533_3), hx534_0, hx534_1, hx534_2, hx534_3, hx535_0, hx535_1, hx535_2, hx535_3, ((HB.out.cell (World.block_lt_of_cell? w _ hw536_0)).trans hw536_0), ((HB.out.cell (World.block_lt_of_cell? w _ hw536_1)).trans hw536_1), ((HB.out.cell (World.block_lt_of_cell? w _ hw536_2)).trans hw536_2), ((HB.out.cell (World.block_lt_of_cell? w _ hw536_3)).trans hw536_3)⟩ (fun hHeld => ?_); refine with_tabW lombardlaw29_CloseOnce.tab26 lombardlaw29_CloseOnce.bits26 (fun HT_ HW_ => ?_)
                                   generalize w50.drew = w51 at HO_5 HB hx531_0 hx531_1 hx531_2 hx531_3 hx532_0 hx532_1 hx532_2 hx532_3 hx533_0 hx533_1 hx533_2 hx533_3 hx534_0 hx534_1 hx534_2 hx534_3 hx535_0 hx535_1 hx535_2 hx535_3 hx536_0 hx536_1 hx536_2 hx536_3 hHeld ⊢
                                   refine pA (i := 0) (N := some 123) HT_ (pf 54 1) ?_
                                   refine pA (i := 1) (N := some 124) HT_ (pf 54 2) ?_
                                   refine pA (i := 2) (N := some 125) HT_ (pf 54 3) ?_
                                   refine pA (i := 3) (N := some 126) HT_ (pf 54 4) ?_
                                   refine pA (i := 4) (N := some 127) HT_ (pf 54 5) ?_
                                   refine pA (i := 5) (N := some 128) HT_ (pf 54 6) ?_
                                   refine pA (i := 6) (N := some 129) HT_ (pf 54 7) ?_
                                   refine pA (i := 7) (N := some 130) HT_ (pf 54 8) ?_
                                   refine pA (i := 8) (N := some 131) HT_ (pf 54 9) ?_
                                   refine pA (i := 10) (N := some 133) HT_ (ba 54 1535) ?_
                                   refine pA (i := 11) (N := some 134) HT_ (ba 54 3583) ?_
                                   refine pA (i := 12) (N := some 135) HT_ (ba 54 7679) ?_
                                   refine pA (i := 13) (N := some 136) HT_ (ba 54 15871) ?_
                                   refine take_ (i := 9) (N := some 132) (v := ?_) (a' := ?_) (pf 54 14) rfl rfl (take_ofW HT_.out HW_.out (by kernel_rfl)) (fun _ _ _ h => h) (Or.inl ⟨by rfl, ?_⟩) hHeld ?_ ?_
                                   rotate_left
                                   · rintro w' ⟨s0, s1, s2, s3, s4, s5, s6, s7, s8, s9, s10, s11, s12, s13, s14, s15, s16, s17, s18, s19, s20, s21, s22, s23⟩
                                     go_simp
                                     with_reducible rfl
                                   rotate_left
                                   · simp only [Act.put, sA, sB, sC, i64_w, i32_w]
                                     rfl
                                   refine take_ (i := 14) (N := some 137) (v := ?_) (a' := ?_) (pf 54 15) rfl rfl (take_ofW HT_.out HW_.out (by kernel_rfl)) (fun _ _ _ h => h) (Or.inl ⟨by rfl, ?_⟩) hHeld ?_ ?_
                                   rotate_left
                                   · rintro w' ⟨s0, s1, s2, s3, s4, s5, s6, s7, s8, s9, s10, s11, s12, s13, s14, s15, s16, s17, s18, s19, s20, s21, s22, s23⟩
                                     go_simp
                                     with_reducible rfl
                                   rotate_left
                                   · simp only [Act.put, sA, sB, sC, i64_w, i32_w]
                                     rfl
                                   refine pA (i := 15) (N := some 138) HT_ (pf 54 16) ?_
                                   refine pA (i := 16) (N := some 139) HT_ (pf 54 17) ?_
                                   refine pA (i := 17) (N := some 140) HT_ (pf 54 18) ?_
                                   refine pA (i := 18) (N := some 141) HT_ (pf 54 19) ?_
                                   refine pA (i := 19) (N := some 142) HT_ (pf 54 20) ?_
                                   refine pA (i := 20) (N := some 143) HT_ (pf 54 21) ?_
                                   refine pA (i := 21) (N := some 144) HT_ (pf 54 22) ?_
                                   refine pA (i := 23) (N := some 146) HT_ (ba 54 12582911) ?_
                                   refine pA (i := 24) (N := some 147) HT_ (ba 54 29360127) ?_
                                   refine pA (i := 25) (N := some 148) HT_ (ba 54 62914559) ?_
                                   refine pA (i := 26) (N := some 149) HT_ (ba 54 130023423) ?_
                                   refine take_ (i := 22) (N := some 145) (v := ?_) (a' := ?_) (pf 54 27) rfl rfl (take_ofW HT_.out HW_.out (by kernel_rfl)) (fun _ _ _ h => h) (Or.inl ⟨by rfl, ?_⟩) hHeld ?_ ?_
                                   rotate_left
                                   · rintro w' ⟨s0, s1, s2, s3, s4, s5, s6, s7, s8, s9, s10, s11, s12, s13, s14, s15, s16, s17, s18, s19, s20, s21, s22, s23⟩
                                     go_simp
                                     with_reducible rfl
                                   rotate_left
                                   · simp only [Act.put, sA, sB, sC, i64_w, i32_w]
                                     rfl
                                   refine take_ (i := 27) (N := some 150) (v := ?_) (a' := ?_) (pf 54 28) rfl rfl (take_ofW HT_.out HW_.out (by kernel_rfl)) (fun _ _ _ h => h) (Or.inl ⟨by rfl, ?_⟩) hHeld ?_ ?_
                                   rotate_left
                                   · rintro w' ⟨s0, s1, s2, s3, s4, s5, s6, s7, s8, s9, s10, s11, s12, s13, s14, s15, s16, s17, s18, s19, s20, s21, s22, s23⟩
                                     go_simp
                                     with_reducible rfl
                                   rotate_left
                                   · simp only [Act.put, sA, sB, sC, i64_w, i32_w]
                                     rfl
                                   refine pA (i := 28) (N := some 151) HT_ (pf 54 29) ?_
                                   refine pA (i := 29) (N := some 152) HT_ (pf 54 30) ?_
                                   refine pA (i := 30) (N := some 153) HT_ (pf 54 31) ?_
                                   refine pA (i := 31) (N := some 154) HT_ (pf 54 32) ?_
                                   refine pA (i := 32) (N := some 155) HT_ (pf 54 33) ?_
                                   refine pA (i := 33) (N := some 156) HT_ (pf 54 34) ?_
                                   refine pA (i := 34) (N := some 157) HT_ (pf 54 35) ?_
                                   refine pA (i := 36) (N := some 159) HT_ (ba 54 103079215103) ?_
                                   refine pA (i := 37) (N := some 160) HT_ (ba 54 240518168575) ?_
                                   refine pA (i := 38) (N := some 161) HT_ (ba 54 515396075519) ?_
                                   refine pA (i := 39) (N := some 162) HT_ (ba 54 1065151889407) ?_
                                   refine take_ (i := 35) (N := some 158) (v := ?_) (a' := ?_) (pf 54 40) rfl rfl (take_ofW HT_.out HW_.out (by kernel_rfl)) (fun _ _ _ h => h) (Or.inl ⟨by rfl, ?_⟩) hHeld ?_ ?_
                                   rotate_left
                                   · rintro w' ⟨s0, s1, s2, s3, s4, s5, s6, s7, s8, s9, s10, s11, s12, s13, s14, s15, s16, s17, s18, s19, s20, s21, s22, s23⟩
                                     go_simp
                                     with_reducible rfl
                                   rotate_left
                                   · simp only [Act.put, sA, sB, sC, i64_w, i32_w]
                                     rfl
                                   refine take_ (i := 40) (N := some 163) (v := ?_) (a' := ?_) (pf 54 41) rfl rfl (take_ofW HT_.out HW_.out (by kernel_rfl)) (fun _ _ _ h => h) (Or.inl ⟨by rfl, ?_⟩) hHeld ?_ ?_
                                   rotate_left
                                   · rintro w' ⟨s0, s1, s2, s3, s4, s5, s6, s7, s8, s9, s10, s11, s12, s13, s14, s15, s16, s17, s18, s19, s20, s21, s22, s23⟩
                                     go_simp
                                     with_reducible rfl
                                   rotate_left
                                   · simp only [Act.put, sA, sB, sC, i64_w, i32_w]
                                     rfl
                                   refine pA (i := 41) (N := some 164) HT_ (pf 54 42) ?_
                                   refine pA (i := 42) (N := some 165) HT_ (pf 54 43) ?_
                                   refine pA (i := 43) (N := some 166) HT_ (pf 54 44) ?_
                                   refine pure_ (i := 44) (N := some 167) (v := undef) (a' := ?_) (pf 54 45) rfl rfl (any_of HT_.out (by kernel_rfl)) (fun _ _ _ h => h) (Or.inr ⟨by rfl, rfl⟩) ?_ ?_
                                   rotate_left
                                   · simp only [Act.put, sA, sB, sC, i64_w, i32_w]
                                     rfl
                                   refine pure_ (i := 45) (N := some 168) (v := undef) (a' := ?_) (pf 54 46) rfl rfl (any_of HT_.out (by kernel_rfl)) (fun _ _ _ h => h) (Or.inr ⟨by rfl, rfl⟩) ?_ ?_
                                   rotate_left
                                   · simp only [Act.put, sA, sB, sC, i64_w, i32_w]
                                     rfl
                                   refine pure_ (i := 46) (N := some 169) (v := undef) (a' := ?_) (pf 54 47) rfl rfl (any_of HT_.out (by kernel_rfl)) (fun _ _ _ h => h) (Or.inr ⟨by rfl, rfl⟩) ?_ ?_
                                   rotate_left
                                   · simp only [Act.put, sA, sB, sC, i64_w, i32_w]
                                     rfl
                                   refine pure_ (i := 47) (N := some 170) (v := undef) (a' := ?_) (pf 54 48) rfl rfl (any_of HT_.out (by kernel_rfl)) (fun _ _ _ h => h) (Or.inr ⟨by rfl, rfl⟩) ?_ ?_
                                   rotate_left
                                   · simp only [Act.put, sA, sB, sC, i64_w, i32_w]
                                     rfl
                                   refine pure_ (i := 48) (N := some 171) (v := undef) (a' := ?_) (pf 54 49) rfl rfl (any_of HT_.out (by kernel_rfl)) (fun _ _ _ h => h) (Or.inr ⟨by rfl, rfl⟩) ?_ ?_
                                   rotate_left
                                   · simp only [Act.put, sA, sB, sC, i64_w, i32_w]
                                     rfl
                                   refine pure_ (i := 49) (N := some 172) (v := undef) (a' := ?_) (pf 54 50) rfl rfl (any_of HT_.out (by kernel_rfl)) (fun _ _ _ h => h) (Or.inr ⟨by rfl, rfl⟩) ?_ ?_
                                   rotate_left
                                   · simp only [Act.put, sA, sB, sC, i64_w, i32_w]
                                     rfl
                                   refine pure_ (i := 50) (N := some 173) (v := undef) (a' := ?_) (pf 54 51) rfl rfl (any_of HT_.out (by kernel_rfl)) (fun _ _ _ h => h) (Or.inr ⟨by rfl, rfl⟩) ?_ ?_
                                   rotate_left
                                   · simp only [Act.put, sA, sB, sC, i64_w, i32_w]
                                     rfl
                                   refine pA (i := 51) (N := some 174) HT_ (pf 54 52) ?_
                                   refine pA (i := 52) (N := some 175) HT_ (pf 54 53) ?_
                                   refine pA (i := 53) (N := some 14) HT_ (pf 54 54) ?_
                                   refine done_ (done_of HT_.out (by kernel_rfl)) ?_
                                   try go_wp2
                                   go_roundg k4
                                   case measure => have := HJ2.out; have := HK2.out; have := HK3.out; have := HK4.out; omega
                                   case rel => exact ⟨(false), (wrap64 (x15_4 + 1)), ac, ac, H', ⟨by have := HJ2.out; have := HK2.out; have := HK3.out; have := HK4.out; omega⟩, ⟨gR HO_5⟩, ⟨gB HB⟩⟩
                               · rw [if_neg c44] at H
                                 have c44b0 : (((rd_T66 l1 x15_4).f1).toList == ((rd_T58 t511 x13_3).f1).toList) = false := beq_eq_false_iff_ne.mpr c44
                                 have c44b1 : (((rd_T66 l1 x15_4).f1).toList != ((rd_T58 t511 x13_3).f1).toList) = true := bne_iff_ne.mpr c44
                                 have H' := Aside0.mk H
                                 clear H
                                 try go_wp2
                                 have n0_ := aK (Kd.R_drew HO_5.out)
                                 have n1_ := aK (below_drew1 HB.out)
                                 clear HO_5; clear HB
                                 have HO_5 := n0_
                                 have HB := n1_
                                 clear n0_ n1_
                                 obtain ⟨⟨p527, q527⟩, ad527, rfl, hx527_0, hx527_1, hx527_2, hx527_3⟩ := za (at_T58 (Kd.R_reads' HO_5.out).2.2) x13_3
                                 have p528 : 0 ≤ (x15_4 : Int) := od
                                 have q528 : x15_4 < (l1.length : Int) := od
                                 obtain ⟨ad528, e528, hx528_0, hx528_1, hx528_2, hx528_3⟩ := at_T66 HR1.out x15_4 p528 q528
                                 have hw528_3 := hx528_3
                                 have hw528_2 := hx528_2
                                 have hw528_1 := hx528_1
                                 have hw528_0 := hx528_0
                                 cases e528
                                 replace hx528_0 := gc HB hx528_0
                                 replace hx528_1 := gc HB hx528_1
                                 replace hx528_2 := gc HB hx528_2
                                 replace hx528_3 := gc HB hx528_3
                                 replace p528 := eq_true p528; replace q528 := eq_true q528
                                 refine start_ (n := 16) (S := fun w' => w'.cell? (ad527.add ((x13_3).toNat * 4)) = some (.int .i64 ((rd_T58 t511 x13_3).f0)) ∧ w'.cell? ⟨(ad527.add ((x13_3).toNat * 4)).block, (ad527.add ((x13_3).toNat * 4)).off + 1, none⟩ = some (.string ((rd_T58 t511 x13_3).f1)) ∧ w'.cell? ⟨(ad527.add ((x13_3).toNat * 4)).block, (ad527.add ((x13_3).toNat * 4)).off + 2, none⟩ = some (.int .i64 ((rd_T58 t511 x13_3).f2)) ∧ w'.cell? ⟨(ad527.add ((x13_3).toNat * 4)).block, (ad527.add ((x13_3).toNat * 4)).off + 3, none⟩ = some (.int .i64 ((rd_T58 t511 x13_3).f3)) ∧ w'.cell? (ad528.add ((x15_4).toNat * 4)) = some (.int .i64 ((rd_T66 l1 x15_4).f0)) ∧ w'.cell? ⟨(ad528.add ((x15_4).toNat * 4)).block, (ad528.add ((x15_4).toNat * 4)).off + 1, none⟩ = some (.string ((rd_T66 l1 x15_4).f1)) ∧ w'.cell? ⟨(ad528.add ((x15_4).toNat * 4)).block, (ad528.add ((x15_4).toNat * 4)).off + 2, none⟩ = some (.int .i64 ((rd_T66 l1 x15_4).f2)) ∧ w'.cell? ⟨(ad528.add ((x15_4).toNat * 4)).block, (ad528.add ((x15_4).toNat * 4)).off + 3, none⟩ = some (.int .i64 ((rd_T66 l1 x15_4).f3))) (ds := []) (pf 16 0) (by kernel_rfl) rfl rfl ⟨hx527_0, hx527_1, hx527_2, hx527_3, ((HB.out.cell (World.block_lt_of_cell? w _ hw528_0)).trans hw528_0), ((HB.out.cell (World.block_lt_of_cell? w _ hw528_1)).trans hw528_1), ((HB.out.cell (World.block_lt_of_cell? w _ hw528_2)).trans hw528_2), ((HB.out.cell (World.block_lt_of_cell? w _ hw528_3)).trans hw528_3)⟩ (fun hHeld => ?_); refine with_tabW lombardlaw29_CloseOnce.tab25 lombardlaw29_CloseOnce.bits25 (fun HT_ HW_ => ?_)
                                 generalize wr.drew = w52 at HO_5 HB hx527_0 hx527_1 hx527_2 hx527_3 hx528_0 hx528_1 hx528_2 hx528_3 hHeld ⊢
                                 refine pA (i := 0) (N := some 110) HT_ (pf 16 1) ?_
                                 refine pA (i := 1) (N := some 111) HT_ (pf 16 2) ?_
                                 refine pA (i := 2) (N := some 112) HT_ (pf 16 3) ?_
                                 refine pA (i := 3) (N := some 113) HT_ (pf 16 4) ?_
                                 refine pA (i := 5) (N := some 115) HT_ (ba 16 47) ?_
                                 refine pA (i := 6) (N := some 116) HT_ (ba 16 111) ?_
                                 refine pA (i := 7) (N := some 117) HT_ (ba 16 239) ?_
                                 refine pA (i := 8) (N := some 118) HT_ (ba 16 495) ?_
                                 refine take_ (i := 4) (N := some 114) (v := ?_) (a' := ?_) (pf 16 9) rfl rfl (take_ofW HT_.out HW_.out (by kernel_rfl)) (fun _ _ _ h => h) (Or.inl ⟨by rfl, ?_⟩) hHeld ?_ ?_
                                 rotate_left
                                 · rintro w' ⟨s0, s1, s2, s3, s4, s5, s6, s7⟩
                                   go_simp
                                   with_reducible rfl
                                 rotate_left
                                 · simp only [Act.put, sA, sB, sC, i64_w, i32_w]
                                   rfl
                                 refine take_ (i := 9) (N := some 119) (v := ?_) (a' := ?_) (pf 16 10) rfl rfl (take_ofW HT_.out HW_.out (by kernel_rfl)) (fun _ _ _ h => h) (Or.inl ⟨by rfl, ?_⟩) hHeld ?_ ?_
                                 rotate_left
                                 · rintro w' ⟨s0, s1, s2, s3, s4, s5, s6, s7⟩
                                   go_simp
                                   with_reducible rfl
                                 rotate_left
                                 · simp only [Act.put, sA, sB, sC, i64_w, i32_w]
                                   rfl
                                 refine one_ (i := 10) (N := some 120) (pf 16 11) rfl rfl (one_of HT_.out (by kernel_rfl)) (by decide) (fun K hK => ?_)
                                 refine goes_ Try.func21 (by kernel_rfl) rfl #[.int .i64 ((rd_T58 t511 x13_3).f2), .int .i64 ((rd_T66 l1 x15_4).f3), .int .i64 1000000, .int .i64 2] (by rfl) rfl rfl am ?_
                                 with_reducible refine (lombardref01_MulDiv.calls ((rd_T58 t511 x13_3).f2) ((rd_T66 l1 x15_4).f3) 1000000 2 t529 t530 _ A37.out).mono ?_
                                 rintro e w53 ⟨rfl, hb⟩
                                 have HS0_ := (hb.cell (World.block_lt_of_cell? _ _ (hHeld.1))).trans (hHeld.1)
                                 have HS1_ := (hb.cell (World.block_lt_of_cell? _ _ (hHeld.2.1))).trans (hHeld.2.1)
                                 have HS2_ := (hb.cell (World.block_lt_of_cell? _ _ (hHeld.2.2.1))).trans (hHeld.2.2.1)
                                 have HS3_ := (hb.cell (World.block_lt_of_cell? _ _ (hHeld.2.2.2.1))).trans (hHeld.2.2.2.1)
                                 refine ⟨_, rfl, ?_⟩
                                 have n0_ := aK (Kd.R_below (gR HO_5) hb)
                                 have n1_ := aK (below_step (gB HB) hb)
                                 clear HO_5; clear HB
                                 have HO_5 := n0_
                                 have HB := n1_
                                 clear n0_ n1_
                                 try clear hb
                                 try clear hb2
                                 try clear hk
                                 try clear hi
                                 refine hK.out _ _ ⟨HS0_, HS1_, HS2_, HS3_, ((HB.out.cell (World.block_lt_of_cell? w _ hw528_0)).trans hw528_0), ((HB.out.cell (World.block_lt_of_cell? w _ hw528_1)).trans hw528_1), ((HB.out.cell (World.block_lt_of_cell? w _ hw528_2)).trans hw528_2), ((HB.out.cell (World.block_lt_of_cell? w _ hw528_3)).trans hw528_3)⟩ (fun hHeld => ?_)
                                 clear hK K
                                 refine norm_ (a' := ?_) ?_ ?_
                                 rotate_left
                                 · show Act.put _ (some 120) _ = _
                                   simp only [Act.put, sA, sB, sC, i64_w, i32_w]
                                   rfl
                                 refine pA (i := 11) (N := some 109) HT_ (pf 16 12) ?_
                                 refine pA (i := 12) (N := some 121) HT_ (pf 16 13) ?_
                                 refine pA (i := 13) (N := some 122) HT_ (pf 16 14) ?_
                                 refine pA (i := 14) (N := some 16) HT_ (pf 16 15) ?_
                                 refine pA (i := 15) (N := some 17) HT_ (pf 16 16) ?_
                                 refine done_ (done_of HT_.out (by kernel_rfl)) ?_
                                 try go_wp2
                                 have n0_ := aK (Kd.R_drew HO_5.out)
                                 have n1_ := aK (below_drew1 HB.out)
                                 clear HO_5; clear HB
                                 have HO_5 := n0_
                                 have HB := n1_
                                 clear n0_ n1_
                                 have p531 : 0 ≤ (x15_4 : Int) := od
                                 have q531 : x15_4 < (l1.length : Int) := od
                                 obtain ⟨ad531, e531, hx531_0, hx531_1, hx531_2, hx531_3⟩ := at_T66 HR1.out x15_4 p531 q531
                                 have hw531_3 := hx531_3
                                 have hw531_2 := hx531_2
                                 have hw531_1 := hx531_1
                                 have hw531_0 := hx531_0
                                 obtain rfl : ad528 = ad531 := (by injection e531)
                                 replace hx531_0 := gc HB hx531_0
                                 replace hx531_1 := gc HB hx531_1
                                 replace hx531_2 := gc HB hx531_2
                                 replace hx531_3 := gc HB hx531_3
                                 replace p531 := eq_true p531; replace q531 := eq_true q531
                                 obtain ⟨⟨p532, q532⟩, ad532, e532, hx532_0, hx532_1, hx532_2, hx532_3⟩ := za (at_T58 (Kd.R_reads' HO_5.out).2.2) x13_3
                                 obtain rfl : ad527 = ad532 := (by injection e532)
                                 have p533 : 0 ≤ (x15_4 : Int) := od
                                 have q533 : x15_4 < (l1.length : Int) := od
                                 obtain ⟨ad533, e533, hx533_0, hx533_1, hx533_2, hx533_3⟩ := at_T66 HR1.out x15_4 p533 q533
                                 have hw533_3 := hx533_3
                                 have hw533_2 := hx533_2
                                 have hw533_1 := hx533_1
                                 have hw533_0 := hx533_0
                                 obtain rfl : ad528 = ad533 := (by injection e533)
                                 replace hx533_0 := gc HB hx533_0
                                 replace hx533_1 := gc HB hx533_1
                                 replace hx533_2 := gc HB hx533_2
                                 replace hx533_3 := gc HB hx533_3
                                 replace p533 := eq_true p533; replace q533 := eq_true q533
                                 obtain ⟨⟨p534, q534⟩, ad534, e534, hx534_0, hx534_1, hx534_2, hx534_3⟩ := za (at_T58 (Kd.R_reads' HO_5.out).2.2) x13_3
                                 obtain rfl : ad527 = ad534 := (by injection e534)
                                 refine start_ (n := 54) (S := fun w' => w'.cell? (ad528.add ((x15_4).toNat * 4)) = some (.int .i64 ((rd_T66 l1 x15_4).f0)) ∧ w'.cell? ⟨(ad528.add ((x15_4).toNat * 4)).block, (ad528.add ((x15_4).toNat * 4)).off + 1, none⟩ = some (.string ((rd_T66 l1 x15_4).f1)) ∧ w'.cell? ⟨(ad528.add ((x15_4).toNat * 4)).block, (ad528.add ((x15_4).toNat * 4)).off + 2, none⟩ = some (.int .i64 ((rd_T66 l1 x15_4).f2)) ∧ w'.cell? ⟨(ad528.add ((x15_4).toNat * 4)).block, (ad528.add ((x15_4).toNat * 4)).off + 3, none⟩ = some (.int .i64 ((rd_T66 l1 x15_4).f3)) ∧ w'.cell? (ad527.add ((x13_3).toNat * 4)) = some (.int .i64 ((rd_T58 t511 x13_3).f0)) ∧ w'.cell? ⟨(ad527.add ((x13_3).toNat * 4)).block, (ad527.add ((x13_3).toNat * 4)).off + 1, none⟩ = some (.string ((rd_T58 t511 x13_3).f1)) ∧ w'.cell? ⟨(ad527.add ((x13_3).toNat * 4)).block, (ad527.add ((x13_3).toNat * 4)).off + 2, none⟩ = some (.int .i64 ((rd_T58 t511 x13_3).f2)) ∧ w'.cell? ⟨(ad527.add ((x13_3).toNat * 4)).block, (ad527.add ((x13_3).toNat * 4)).off + 3, none⟩ = some (.int .i64 ((rd_T58 t511 x13_3).f3)) ∧ w'.cell? (ad528.add ((x15_4).toNat * 4)) = some (.int .i64 ((rd_T66 l1 x15_4).f0)) ∧ w'.cell? ⟨(ad528.add ((x15_4).toNat * 4)).block, (ad528.add ((x15_4).toNat * 4)).off + 1, none⟩ = some (.string ((rd_T66 l1 x15_4).f1)) ∧ w'.cell? ⟨(ad528.add ((x15_4).toNat * 4)).block, (ad528.add ((x15_4).toNat * 4)).off + 2, none⟩ = some (.int .i64 ((rd_T66 l1 x15_4).f2)) ∧ w'.cell? ⟨(ad528.add ((x15_4).toNat * 4)).block, (ad528.add ((x15_4).toNat * 4)).off + 3, none⟩ = some (.int .i64 ((rd_T66 l1 x15_4).f3)) ∧ w'.cell? (ad527.add ((x13_3).toNat * 4)) = some (.int .i64 ((rd_T58 t511 x13_3).f0)) ∧ w'.cell? ⟨(ad527.add ((x13_3).toNat * 4)).block, (ad527.add ((x13_3).toNat * 4)).off + 1, none⟩ = some (.string ((rd_T58 t511 x13_3).f1)) ∧ w'.cell? ⟨(ad527.add ((x13_3).toNat * 4)).block, (ad527.add ((x13_3).toNat * 4)).off + 2, none⟩ = some (.int .i64 ((rd_T58 t511 x13_3).f2)) ∧ w'.cell? ⟨(ad527.add ((x13_3).toNat * 4)).block, (ad527.add ((x13_3).toNat * 4)).off + 3, none⟩ = some (.int .i64 ((rd_T58 t511 x13_3).f3))) (ds := []) (pf 54 0) (by kernel_rfl) rfl rfl ⟨((HB.out.cell (World.block_lt_of_cell? w _ hw531_0)).trans hw531_0), ((HB.out.cell (World.block_lt_of_cell? w _ hw531_1)).trans hw531_1), ((HB.out.cell (World.block_lt_of_cell? w _ hw531_2)).trans hw531_2), ((HB.out.cell (World.block_lt_of_cell? w _ hw531_3)).trans hw531_3), hx532_0, hx532_1, hx532_2, hx532_3, ((HB.out.cell (World.block_lt_of_cell? w _ hw533_0)).trans hw533_0), ((HB.out.cell (World.block_lt_of_cell? w _ hw533_1)).trans hw533_1), ((HB.out.cell (World.block_lt_of_cell? w _ hw533_2)).trans hw533_2), ((HB.out.cell (World.block_lt_of_cell? w _ hw533_3)).trans hw533_3), hx534_0, hx534_1, hx534_2, hx534_3⟩ (fun hHeld => ?_); refine with_tabW lombardlaw29_CloseOnce.tab26 lombardlaw29_CloseOnce.bits26 (fun HT_ HW_ => ?_)
                                 generalize w53.drew = w54 at HO_5 HB hx531_0 hx531_1 hx531_2 hx531_3 hx532_0 hx532_1 hx532_2 hx532_3 hx533_0 hx533_1 hx533_2 hx533_3 hx534_0 hx534_1 hx534_2 hx534_3 hHeld ⊢
                                 refine pA (i := 0) (N := some 123) HT_ (pf 54 1) ?_
                                 refine pA (i := 1) (N := some 124) HT_ (pf 54 2) ?_
                                 refine pA (i := 2) (N := some 125) HT_ (pf 54 3) ?_
                                 refine pA (i := 3) (N := some 126) HT_ (pf 54 4) ?_
                                 refine pA (i := 4) (N := some 127) HT_ (pf 54 5) ?_
                                 refine pA (i := 5) (N := some 128) HT_ (pf 54 6) ?_
                                 refine pA (i := 6) (N := some 129) HT_ (pf 54 7) ?_
                                 refine pA (i := 7) (N := some 130) HT_ (pf 54 8) ?_
                                 refine pA (i := 8) (N := some 131) HT_ (pf 54 9) ?_
                                 refine pA (i := 10) (N := some 133) HT_ (ba 54 1535) ?_
                                 refine pA (i := 11) (N := some 134) HT_ (ba 54 3583) ?_
                                 refine pA (i := 12) (N := some 135) HT_ (ba 54 7679) ?_
                                 refine pA (i := 13) (N := some 136) HT_ (ba 54 15871) ?_
                                 refine take_ (i := 9) (N := some 132) (v := ?_) (a' := ?_) (pf 54 14) rfl rfl (take_ofW HT_.out HW_.out (by kernel_rfl)) (fun _ _ _ h => h) (Or.inl ⟨by rfl, ?_⟩) hHeld ?_ ?_
                                 rotate_left
                                 · rintro w' ⟨s0, s1, s2, s3, s4, s5, s6, s7, s8, s9, s10, s11, s12, s13, s14, s15⟩
                                   go_simp
                                   with_reducible rfl
                                 rotate_left
                                 · simp only [Act.put, sA, sB, sC, i64_w, i32_w]
                                   rfl
                                 refine take_ (i := 14) (N := some 137) (v := ?_) (a' := ?_) (pf 54 15) rfl rfl (take_ofW HT_.out HW_.out (by kernel_rfl)) (fun _ _ _ h => h) (Or.inl ⟨by rfl, ?_⟩) hHeld ?_ ?_
                                 rotate_left
                                 · rintro w' ⟨s0, s1, s2, s3, s4, s5, s6, s7, s8, s9, s10, s11, s12, s13, s14, s15⟩
                                   go_simp
                                   with_reducible rfl
                                 rotate_left
                                 · simp only [Act.put, sA, sB, sC, i64_w, i32_w]
                                   rfl
                                 refine pA (i := 15) (N := some 138) HT_ (pf 54 16) ?_
                                 refine pA (i := 16) (N := some 139) HT_ (pf 54 17) ?_
                                 refine pA (i := 17) (N := some 140) HT_ (pf 54 18) ?_
                                 refine pA (i := 18) (N := some 141) HT_ (pf 54 19) ?_
                                 refine pA (i := 19) (N := some 142) HT_ (pf 54 20) ?_
                                 refine pA (i := 20) (N := some 143) HT_ (pf 54 21) ?_
                                 refine pA (i := 21) (N := some 144) HT_ (pf 54 22) ?_
                                 refine pA (i := 23) (N := some 146) HT_ (ba 54 12582911) ?_
                                 refine pA (i := 24) (N := some 147) HT_ (ba 54 29360127) ?_
                                 refine pA (i := 25) (N := some 148) HT_ (ba 54 62914559) ?_
                                 refine pA (i := 26) (N := some 149) HT_ (ba 54 130023423) ?_
                                 refine take_ (i := 22) (N := some 145) (v := ?_) (a' := ?_) (pf 54 27) rfl rfl (take_ofW HT_.out HW_.out (by kernel_rfl)) (fun _ _ _ h => h) (Or.inl ⟨by rfl, ?_⟩) hHeld ?_ ?_
                                 rotate_left
                                 · rintro w' ⟨s0, s1, s2, s3, s4, s5, s6, s7, s8, s9, s10, s11, s12, s13, s14, s15⟩
                                   go_simp
                                   with_reducible rfl
                                 rotate_left
                                 · simp only [Act.put, sA, sB, sC, i64_w, i32_w]
                                   rfl
                                 refine take_ (i := 27) (N := some 150) (v := ?_) (a' := ?_) (pf 54 28) rfl rfl (take_ofW HT_.out HW_.out (by kernel_rfl)) (fun _ _ _ h => h) (Or.inl ⟨by rfl, ?_⟩) hHeld ?_ ?_
                                 rotate_left
                                 · rintro w' ⟨s0, s1, s2, s3, s4, s5, s6, s7, s8, s9, s10, s11, s12, s13, s14, s15⟩
                                   go_simp
                                   with_reducible rfl
                                 rotate_left
                                 · simp only [Act.put, sA, sB, sC, i64_w, i32_w]
                                   rfl
                                 refine pA (i := 28) (N := some 151) HT_ (pf 54 29) ?_
                                 refine pA (i := 29) (N := some 152) HT_ (pf 54 30) ?_
                                 refine pA (i := 30) (N := some 153) HT_ (pf 54 31) ?_
                                 refine pure_ (i := 31) (N := some 154) (v := undef) (a' := ?_) (pf 54 32) rfl rfl (any_of HT_.out (by kernel_rfl)) (fun _ _ _ h => h) (Or.inr ⟨by rfl, rfl⟩) ?_ ?_
                                 rotate_left
                                 · simp only [Act.put, sA, sB, sC, i64_w, i32_w]
                                   rfl
                                 refine pure_ (i := 32) (N := some 155) (v := undef) (a' := ?_) (pf 54 33) rfl rfl (any_of HT_.out (by kernel_rfl)) (fun _ _ _ h => h) (Or.inr ⟨by rfl, rfl⟩) ?_ ?_
                                 rotate_left
                                 · simp only [Act.put, sA, sB, sC, i64_w, i32_w]
                                   rfl
                                 refine pure_ (i := 33) (N := some 156) (v := undef) (a' := ?_) (pf 54 34) rfl rfl (any_of HT_.out (by kernel_rfl)) (fun _ _ _ h => h) (Or.inr ⟨by rfl, rfl⟩) ?_ ?_
                                 rotate_left
                                 · simp only [Act.put, sA, sB, sC, i64_w, i32_w]
                                   rfl
                                 refine pure_ (i := 34) (N := some 157) (v := undef) (a' := ?_) (pf 54 35) rfl rfl (any_of HT_.out (by kernel_rfl)) (fun _ _ _ h => h) (Or.inr ⟨by rfl, rfl⟩) ?_ ?_
                                 rotate_left
                                 · simp only [Act.put, sA, sB, sC, i64_w, i32_w]
                                   rfl
                                 refine pure_ (i := 35) (N := some 158) (v := undef) (a' := ?_) (pf 54 36) rfl rfl (any_of HT_.out (by kernel_rfl)) (fun _ _ _ h => h) (Or.inr ⟨by rfl, rfl⟩) ?_ ?_
                                 rotate_left
                                 · simp only [Act.put, sA, sB, sC, i64_w, i32_w]
                                   rfl
                                 refine pure_ (i := 36) (N := some 159) (v := undef) (a' := ?_) (pf 54 37) rfl rfl (any_of HT_.out (by kernel_rfl)) (fun _ _ _ h => h) (Or.inr ⟨by rfl, rfl⟩) ?_ ?_
                                 rotate_left
                                 · simp only [Act.put, sA, sB, sC, i64_w, i32_w]
                                   rfl
                                 refine pure_ (i := 37) (N := some 160) (v := undef) (a' := ?_) (pf 54 38) rfl rfl (any_of HT_.out (by kernel_rfl)) (fun _ _ _ h => h) (Or.inr ⟨by rfl, rfl⟩) ?_ ?_
                                 rotate_left
                                 · simp only [Act.put, sA, sB, sC, i64_w, i32_w]
                                   rfl
                                 refine pure_ (i := 38) (N := some 161) (v := undef) (a' := ?_) (pf 54 39) rfl rfl (any_of HT_.out (by kernel_rfl)) (fun _ _ _ h => h) (Or.inr ⟨by rfl, rfl⟩) ?_ ?_
                                 rotate_left
                                 · simp only [Act.put, sA, sB, sC, i64_w, i32_w]
                                   rfl
                                 refine pure_ (i := 39) (N := some 162) (v := undef) (a' := ?_) (pf 54 40) rfl rfl (any_of HT_.out (by kernel_rfl)) (fun _ _ _ h => h) (Or.inr ⟨by rfl, rfl⟩) ?_ ?_
                                 rotate_left
                                 · simp only [Act.put, sA, sB, sC, i64_w, i32_w]
                                   rfl
                                 refine pure_ (i := 40) (N := some 163) (v := undef) (a' := ?_) (pf 54 41) rfl rfl (any_of HT_.out (by kernel_rfl)) (fun _ _ _ h => h) (Or.inr ⟨by rfl, rfl⟩) ?_ ?_
                                 rotate_left
                                 · simp only [Act.put, sA, sB, sC, i64_w, i32_w]
                                   rfl
                                 refine pure_ (i := 41) (N := some 164) (v := undef) (a' := ?_) (pf 54 42) rfl rfl (any_of HT_.out (by kernel_rfl)) (fun _ _ _ h => h) (Or.inr ⟨by rfl, rfl⟩) ?_ ?_
                                 rotate_left
                                 · simp only [Act.put, sA, sB, sC, i64_w, i32_w]
                                   rfl
                                 refine pA (i := 42) (N := some 165) HT_ (pf 54 43) ?_
                                 refine pA (i := 43) (N := some 166) HT_ (pf 54 44) ?_
                                 refine pure_ (i := 44) (N := some 167) (v := undef) (a' := ?_) (pf 54 45) rfl rfl (any_of HT_.out (by kernel_rfl)) (fun _ _ _ h => h) (Or.inr ⟨by rfl, rfl⟩) ?_ ?_
                                 rotate_left
                                 · simp only [Act.put, sA, sB, sC, i64_w, i32_w]
                                   rfl
                                 refine pure_ (i := 45) (N := some 168) (v := undef) (a' := ?_) (pf 54 46) rfl rfl (any_of HT_.out (by kernel_rfl)) (fun _ _ _ h => h) (Or.inr ⟨by rfl, rfl⟩) ?_ ?_
                                 rotate_left
                                 · simp only [Act.put, sA, sB, sC, i64_w, i32_w]
                                   rfl
                                 refine pure_ (i := 46) (N := some 169) (v := undef) (a' := ?_) (pf 54 47) rfl rfl (any_of HT_.out (by kernel_rfl)) (fun _ _ _ h => h) (Or.inr ⟨by rfl, rfl⟩) ?_ ?_
                                 rotate_left
                                 · simp only [Act.put, sA, sB, sC, i64_w, i32_w]
                                   rfl
                                 refine pure_ (i := 47) (N := some 170) (v := undef) (a' := ?_) (pf 54 48) rfl rfl (any_of HT_.out (by kernel_rfl)) (fun _ _ _ h => h) (Or.inr ⟨by rfl, rfl⟩) ?_ ?_
                                 rotate_left
                                 · simp only [Act.put, sA, sB, sC, i64_w, i32_w]
                                   rfl
                                 refine pure_ (i := 48) (N := some 171) (v := undef) (a' := ?_) (pf 54 49) rfl rfl (any_of HT_.out (by kernel_rfl)) (fun _ _ _ h => h) (Or.inr ⟨by rfl, rfl⟩) ?_ ?_
                                 rotate_left
                                 · simp only [Act.put, sA, sB, sC, i64_w, i32_w]
                                   rfl
                                 refine pure_ (i := 49) (N := some 172) (v := undef) (a' := ?_) (pf 54 50) rfl rfl (any_of HT_.out (by kernel_rfl)) (fun _ _ _ h => h) (Or.inr ⟨by rfl, rfl⟩) ?_ ?_
                                 rotate_left
                                 · simp only [Act.put, sA, sB, sC, i64_w, i32_w]
                                   rfl
                                 refine pure_ (i := 50) (N := some 173) (v := undef) (a' := ?_) (pf 54 51) rfl rfl (any_of HT_.out (by kernel_rfl)) (fun _ _ _ h => h) (Or.inr ⟨by rfl, rfl⟩) ?_ ?_
                                 rotate_left
                                 · simp only [Act.put, sA, sB, sC, i64_w, i32_w]
                                   rfl
                                 refine pA (i := 51) (N := some 174) HT_ (pf 54 52) ?_
                                 refine pA (i := 52) (N := some 175) HT_ (pf 54 53) ?_
                                 refine pA (i := 53) (N := some 14) HT_ (pf 54 54) ?_
                                 refine done_ (done_of HT_.out (by kernel_rfl)) ?_
                                 try go_wp2
                                 go_roundg k4
                                 case measure => have := HJ2.out; have := HK2.out; have := HK3.out; have := HK4.out; omega
                                 case rel => exact ⟨(false), (wrap64 (x15_4 + 1)), ac, ac, H', ⟨by have := HJ2.out; have := HK2.out; have := HK3.out; have := HK4.out; omega⟩, ⟨gR HO_5⟩, ⟨gB HB⟩⟩
                             · rw [if_neg c43] at H
                               have c43b0 : (((rd_T66 l1 x15_4).f0) == ((rd_T58 t511 x13_3).f0)) = false := beq_eq_false_iff_ne.mpr c43
                               have c43b1 : (((rd_T66 l1 x15_4).f0) != ((rd_T58 t511 x13_3).f0)) = true := bne_iff_ne.mpr c43
                               have H' := Aside0.mk H
                               clear H
                               try go_wp2
                               have n0_ := aK (Kd.R_drew HO_5.out)
                               have n1_ := aK (below_drew1 HB.out)
                               clear HO_5; clear HB
                               have HO_5 := n0_
                               have HB := n1_
                               clear n0_ n1_
                               obtain ⟨⟨p527, q527⟩, ad527, rfl, hx527_0, hx527_1, hx527_2, hx527_3⟩ := za (at_T58 (Kd.R_reads' HO_5.out).2.2) x13_3
                               have p528 : 0 ≤ (x15_4 : Int) := od
                               have q528 : x15_4 < (l1.length : Int) := od
                               obtain ⟨ad528, e528, hx528_0, hx528_1, hx528_2, hx528_3⟩ := at_T66 HR1.out x15_4 p528 q528
                               have hw528_3 := hx528_3
                               have hw528_2 := hx528_2
                               have hw528_1 := hx528_1
                               have hw528_0 := hx528_0
                               cases e528
                               replace hx528_0 := gc HB hx528_0
                               replace hx528_1 := gc HB hx528_1
                               replace hx528_2 := gc HB hx528_2
                               replace hx528_3 := gc HB hx528_3
                               replace p528 := eq_true p528; replace q528 := eq_true q528
                               refine start_ (n := 16) (S := fun w' => w'.cell? (ad527.add ((x13_3).toNat * 4)) = some (.int .i64 ((rd_T58 t511 x13_3).f0)) ∧ w'.cell? ⟨(ad527.add ((x13_3).toNat * 4)).block, (ad527.add ((x13_3).toNat * 4)).off + 1, none⟩ = some (.string ((rd_T58 t511 x13_3).f1)) ∧ w'.cell? ⟨(ad527.add ((x13_3).toNat * 4)).block, (ad527.add ((x13_3).toNat * 4)).off + 2, none⟩ = some (.int .i64 ((rd_T58 t511 x13_3).f2)) ∧ w'.cell? ⟨(ad527.add ((x13_3).toNat * 4)).block, (ad527.add ((x13_3).toNat * 4)).off + 3, none⟩ = some (.int .i64 ((rd_T58 t511 x13_3).f3)) ∧ w'.cell? (ad528.add ((x15_4).toNat * 4)) = some (.int .i64 ((rd_T66 l1 x15_4).f0)) ∧ w'.cell? ⟨(ad528.add ((x15_4).toNat * 4)).block, (ad528.add ((x15_4).toNat * 4)).off + 1, none⟩ = some (.string ((rd_T66 l1 x15_4).f1)) ∧ w'.cell? ⟨(ad528.add ((x15_4).toNat * 4)).block, (ad528.add ((x15_4).toNat * 4)).off + 2, none⟩ = some (.int .i64 ((rd_T66 l1 x15_4).f2)) ∧ w'.cell? ⟨(ad528.add ((x15_4).toNat * 4)).block, (ad528.add ((x15_4).toNat * 4)).off + 3, none⟩ = some (.int .i64 ((rd_T66 l1 x15_4).f3))) (ds := []) (pf 16 0) (by kernel_rfl) rfl rfl ⟨hx527_0, hx527_1, hx527_2, hx527_3, ((HB.out.cell (World.block_lt_of_cell? w _ hw528_0)).trans hw528_0), ((HB.out.cell (World.block_lt_of_cell? w _ hw528_1)).trans hw528_1), ((HB.out.cell (World.block_lt_of_cell? w _ hw528_2)).trans hw528_2), ((HB.out.cell (World.block_lt_of_cell? w _ hw528_3)).trans hw528_3)⟩ (fun hHeld => ?_); refine with_tabW lombardlaw29_CloseOnce.tab25 lombardlaw29_CloseOnce.bits25 (fun HT_ HW_ => ?_)
                               generalize wr.drew = w55 at HO_5 HB hx527_0 hx527_1 hx527_2 hx527_3 hx528_0 hx528_1 hx528_2 hx528_3 hHeld ⊢
                               refine pA (i := 0) (N := some 110) HT_ (pf 16 1) ?_
                               refine pA (i := 1) (N := some 111) HT_ (pf 16 2) ?_
                               refine pA (i := 2) (N := some 112) HT_ (pf 16 3) ?_
                               refine pA (i := 3) (N := some 113) HT_ (pf 16 4) ?_
                               refine pA (i := 5) (N := some 115) HT_ (ba 16 47) ?_
                               refine pA (i := 6) (N := some 116) HT_ (ba 16 111) ?_
                               refine pA (i := 7) (N := some 117) HT_ (ba 16 239) ?_
                               refine pA (i := 8) (N := some 118) HT_ (ba 16 495) ?_
                               refine take_ (i := 4) (N := some 114) (v := ?_) (a' := ?_) (pf 16 9) rfl rfl (take_ofW HT_.out HW_.out (by kernel_rfl)) (fun _ _ _ h => h) (Or.inl ⟨by rfl, ?_⟩) hHeld ?_ ?_
                               rotate_left
                               · rintro w' ⟨s0, s1, s2, s3, s4, s5, s6, s7⟩
                                 go_simp
                                 with_reducible rfl
                               rotate_left
                               · simp only [Act.put, sA, sB, sC, i64_w, i32_w]
                                 rfl
                               refine take_ (i := 9) (N := some 119) (v := ?_) (a' := ?_) (pf 16 10) rfl rfl (take_ofW HT_.out HW_.out (by kernel_rfl)) (fun _ _ _ h => h) (Or.inl ⟨by rfl, ?_⟩) hHeld ?_ ?_
                               rotate_left
                               · rintro w' ⟨s0, s1, s2, s3, s4, s5, s6, s7⟩
                                 go_simp
                                 with_reducible rfl
                               rotate_left
                               · simp only [Act.put, sA, sB, sC, i64_w, i32_w]
                                 rfl
                               refine one_ (i := 10) (N := some 120) (pf 16 11) rfl rfl (one_of HT_.out (by kernel_rfl)) (by decide) (fun K hK => ?_)
                               refine goes_ Try.func21 (by kernel_rfl) rfl #[.int .i64 ((rd_T58 t511 x13_3).f2), .int .i64 ((rd_T66 l1 x15_4).f3), .int .i64 1000000, .int .i64 2] (by rfl) rfl rfl am ?_
                               with_reducible refine (lombardref01_MulDiv.calls ((rd_T58 t511 x13_3).f2) ((rd_T66 l1 x15_4).f3) 1000000 2 t529 t530 _ A37.out).mono ?_
                               rintro e w56 ⟨rfl, hb⟩
                               have HS0_ := (hb.cell (World.block_lt_of_cell? _ _ (hHeld.1))).trans (hHeld.1)
                               have HS1_ := (hb.cell (World.block_lt_of_cell? _ _ (hHeld.2.1))).trans (hHeld.2.1)
                               have HS2_ := (hb.cell (World.block_lt_of_cell? _ _ (hHeld.2.2.1))).trans (hHeld.2.2.1)
                               have HS3_ := (hb.cell (World.block_lt_of_cell? _ _ (hHeld.2.2.2.1))).trans (hHeld.2.2.2.1)
                               refine ⟨_, rfl, ?_⟩
                               have n0_ := aK (Kd.R_below (gR HO_5) hb)
                               have n1_ := aK (below_step (gB HB) hb)
                               clear HO_5; clear HB
                               have HO_5 := n0_
                               have HB := n1_
                               clear n0_ n1_
                               try clear hb
                               try clear hb2
                               try clear hk
                               try clear hi
                               refine hK.out _ _ ⟨HS0_, HS1_, HS2_, HS3_, ((HB.out.cell (World.block_lt_of_cell? w _ hw528_0)).trans hw528_0), ((HB.out.cell (World.block_lt_of_cell? w _ hw528_1)).trans hw528_1), ((HB.out.cell (World.block_lt_of_cell? w _ hw528_2)).trans hw528_2), ((HB.out.cell (World.block_lt_of_cell? w _ hw528_3)).trans hw528_3)⟩ (fun hHeld => ?_)
                               clear hK K
                               refine norm_ (a' := ?_) ?_ ?_
                               rotate_left
                               · show Act.put _ (some 120) _ = _
                                 simp only [Act.put, sA, sB, sC, i64_w, i32_w]
                                 rfl
                               refine pA (i := 11) (N := some 109) HT_ (pf 16 12) ?_
                               refine pA (i := 12) (N := some 121) HT_ (pf 16 13) ?_
                               refine pA (i := 13) (N := some 122) HT_ (pf 16 14) ?_
                               refine pA (i := 14) (N := some 16) HT_ (pf 16 15) ?_
                               refine pA (i := 15) (N := some 17) HT_ (pf 16 16) ?_
                               refine done_ (done_of HT_.out (by kernel_rfl)) ?_
                               try go_wp2
                               have n0_ := aK (Kd.R_drew HO_5.out)
                               have n1_ := aK (below_drew1 HB.out)
                               clear HO_5; clear HB
                               have HO_5 := n0_
                               have HB := n1_
                               clear n0_ n1_
                               have p531 : 0 ≤ (x15_4 : Int) := od
                               have q531 : x15_4 < (l1.length : Int) := od
                               obtain ⟨ad531, e531, hx531_0, hx531_1, hx531_2, hx531_3⟩ := at_T66 HR1.out x15_4 p531 q531
                               have hw531_3 := hx531_3
                               have hw531_2 := hx531_2
                               have hw531_1 := hx531_1
                               have hw531_0 := hx531_0
                               obtain rfl : ad528 = ad531 := (by injection e531)
                               replace hx531_0 := gc HB hx531_0
                               replace hx531_1 := gc HB hx531_1
                               replace hx531_2 := gc HB hx531_2
                               replace hx531_3 := gc HB hx531_3
                               replace p531 := eq_true p531; replace q531 := eq_true q531
                               obtain ⟨⟨p532, q532⟩, ad532, e532, hx532_0, hx532_1, hx532_2, hx532_3⟩ := za (at_T58 (Kd.R_reads' HO_5.out).2.2) x13_3
                               obtain rfl : ad527 = ad532 := (by injection e532)
                               refine start_ (n := 54) (S := fun w' => w'.cell? (ad528.add ((x15_4).toNat * 4)) = some (.int .i64 ((rd_T66 l1 x15_4).f0)) ∧ w'.cell? ⟨(ad528.add ((x15_4).toNat * 4)).block, (ad528.add ((x15_4).toNat * 4)).off + 1, none⟩ = some (.string ((rd_T66 l1 x15_4).f1)) ∧ w'.cell? ⟨(ad528.add ((x15_4).toNat * 4)).block, (ad528.add ((x15_4).toNat * 4)).off + 2, none⟩ = some (.int .i64 ((rd_T66 l1 x15_4).f2)) ∧ w'.cell? ⟨(ad528.add ((x15_4).toNat * 4)).block, (ad528.add ((x15_4).toNat * 4)).off + 3, none⟩ = some (.int .i64 ((rd_T66 l1 x15_4).f3)) ∧ w'.cell? (ad527.add ((x13_3).toNat * 4)) = some (.int .i64 ((rd_T58 t511 x13_3).f0)) ∧ w'.cell? ⟨(ad527.add ((x13_3).toNat * 4)).block, (ad527.add ((x13_3).toNat * 4)).off + 1, none⟩ = some (.string ((rd_T58 t511 x13_3).f1)) ∧ w'.cell? ⟨(ad527.add ((x13_3).toNat * 4)).block, (ad527.add ((x13_3).toNat * 4)).off + 2, none⟩ = some (.int .i64 ((rd_T58 t511 x13_3).f2)) ∧ w'.cell? ⟨(ad527.add ((x13_3).toNat * 4)).block, (ad527.add ((x13_3).toNat * 4)).off + 3, none⟩ = some (.int .i64 ((rd_T58 t511 x13_3).f3))) (ds := []) (pf 54 0) (by kernel_rfl) rfl rfl ⟨((HB.out.cell (World.block_lt_of_cell? w _ hw531_0)).trans hw531_0), ((HB.out.cell (World.block_lt_of_cell? w _ hw531_1)).trans hw531_1), ((HB.out.cell (World.block_lt_of_cell? w _ hw531_2)).trans hw531_2), ((HB.out.cell (World.block_lt_of_cell? w _ hw531_3)).trans hw531_3), hx532_0, hx532_1, hx532_2, hx532_3⟩ (fun hHeld => ?_); refine with_tabW lombardlaw29_CloseOnce.tab26 lombardlaw29_CloseOnce.bits26 (fun HT_ HW_ => ?_)
                               generalize w56.drew = w57 at HO_5 HB hx531_0 hx531_1 hx531_2 hx531_3 hx532_0 hx532_1 hx532_2 hx532_3 hHeld ⊢
                               refine pA (i := 0) (N := some 123) HT_ (pf 54 1) ?_
                               refine pA (i := 1) (N := some 124) HT_ (pf 54 2) ?_
                               refine pA (i := 2) (N := some 125) HT_ (pf 54 3) ?_
                               refine pA (i := 3) (N := some 126) HT_ (pf 54 4) ?_
                               refine pA (i := 4) (N := some 127) HT_ (pf 54 5) ?_
                               refine pA (i := 5) (N := some 128) HT_ (pf 54 6) ?_
                               refine pA (i := 6) (N := some 129) HT_ (pf 54 7) ?_
                               refine pA (i := 7) (N := some 130) HT_ (pf 54 8) ?_
                               refine pA (i := 8) (N := some 131) HT_ (pf 54 9) ?_
                               refine pA (i := 10) (N := some 133) HT_ (ba 54 1535) ?_
                               refine pA (i := 11) (N := some 134) HT_ (ba 54 3583) ?_
                               refine pA (i := 12) (N := some 135) HT_ (ba 54 7679) ?_
                               refine pA (i := 13) (N := some 136) HT_ (ba 54 15871) ?_
                               refine take_ (i := 9) (N := some 132) (v := ?_) (a' := ?_) (pf 54 14) rfl rfl (take_ofW HT_.out HW_.out (by kernel_rfl)) (fun _ _ _ h => h) (Or.inl ⟨by rfl, ?_⟩) hHeld ?_ ?_
                               rotate_left
                               · rintro w' ⟨s0, s1, s2, s3, s4, s5, s6, s7⟩
                                 go_simp
                                 with_reducible rfl
                               rotate_left
                               · simp only [Act.put, sA, sB, sC, i64_w, i32_w]
                                 rfl
                               refine take_ (i := 14) (N := some 137) (v := ?_) (a' := ?_) (pf 54 15) rfl rfl (take_ofW HT_.out HW_.out (by kernel_rfl)) (fun _ _ _ h => h) (Or.inl ⟨by rfl, ?_⟩) hHeld ?_ ?_
                               rotate_left
                               · rintro w' ⟨s0, s1, s2, s3, s4, s5, s6, s7⟩
                                 go_simp
                                 with_reducible rfl
                               rotate_left
                               · simp only [Act.put, sA, sB, sC, i64_w, i32_w]
                                 rfl
                               refine pA (i := 15) (N := some 138) HT_ (pf 54 16) ?_
                               refine pA (i := 16) (N := some 139) HT_ (pf 54 17) ?_
                               refine pA (i := 17) (N := some 140) HT_ (pf 54 18) ?_
                               refine pure_ (i := 18) (N := some 141) (v := undef) (a' := ?_) (pf 54 19) rfl rfl (any_of HT_.out (by kernel_rfl)) (fun _ _ _ h => h) (Or.inr ⟨by rfl, rfl⟩) ?_ ?_
                               rotate_left
                               · simp only [Act.put, sA, sB, sC, i64_w, i32_w]
                                 rfl
                               refine pure_ (i := 19) (N := some 142) (v := undef) (a' := ?_) (pf 54 20) rfl rfl (any_of HT_.out (by kernel_rfl)) (fun _ _ _ h => h) (Or.inr ⟨by rfl, rfl⟩) ?_ ?_
                               rotate_left
                               · simp only [Act.put, sA, sB, sC, i64_w, i32_w]
                                 rfl
                               refine pure_ (i := 20) (N := some 143) (v := undef) (a' := ?_) (pf 54 21) rfl rfl (any_of HT_.out (by kernel_rfl)) (fun _ _ _ h => h) (Or.inr ⟨by rfl, rfl⟩) ?_ ?_
                               rotate_left
                               · simp only [Act.put, sA, sB, sC, i64_w, i32_w]
                                 rfl
                               refine pure_ (i := 21) (N := some 144) (v := undef) (a' := ?_) (pf 54 22) rfl rfl (any_of HT_.out (by kernel_rfl)) (fun _ _ _ h => h) (Or.inr ⟨by rfl, rfl⟩) ?_ ?_
                               rotate_left
                               · simp only [Act.put, sA, sB, sC, i64_w, i32_w]
                                 rfl
                               refine pure_ (i := 22) (N := some 145) (v := undef) (a' := ?_) (pf 54 23) rfl rfl (any_of HT_.out (by kernel_rfl)) (fun _ _ _ h => h) (Or.inr ⟨by rfl, rfl⟩) ?_ ?_
                               rotate_left
                               · simp only [Act.put, sA, sB, sC, i64_w, i32_w]
                                 rfl
                               refine pure_ (i := 23) (N := some 146) (v := undef) (a' := ?_) (pf 54 24) rfl rfl (any_of HT_.out (by kernel_rfl)) (fun _ _ _ h => h) (Or.inr ⟨by rfl, rfl⟩) ?_ ?_
                               rotate_left
                               · simp only [Act.put, sA, sB, sC, i64_w, i32_w]
                                 rfl
                               refine pure_ (i := 24) (N := some 147) (v := undef) (a' := ?_) (pf 54 25) rfl rfl (any_of HT_.out (by kernel_rfl)) (fun _ _ _ h => h) (Or.inr ⟨by rfl, rfl⟩) ?_ ?_
                               rotate_left
                               · simp only [Act.put, sA, sB, sC, i64_w, i32_w]
                                 rfl
                               refine pure_ (i := 25) (N := some 148) (v := undef) (a' := ?_) (pf 54 26) rfl rfl (any_of HT_.out (by kernel_rfl)) (fun _ _ _ h => h) (Or.inr ⟨by rfl, rfl⟩) ?_ ?_
                               rotate_left
                               · simp only [Act.put, sA, sB, sC, i64_w, i32_w]
                                 rfl
                               refine pure_ (i := 26) (N := some 149) (v := undef) (a' := ?_) (pf 54 27) rfl rfl (any_of HT_.out (by kernel_rfl)) (fun _ _ _ h => h) (Or.inr ⟨by rfl, rfl⟩) ?_ ?_
                               rotate_left
                               · simp only [Act.put, sA, sB, sC, i64_w, i32_w]
                                 rfl
                               refine pure_ (i := 27) (N := some 150) (v := undef) (a' := ?_) (pf 54 28) rfl rfl (any_of HT_.out (by kernel_rfl)) (fun _ _ _ h => h) (Or.inr ⟨by rfl, rfl⟩) ?_ ?_
                               rotate_left
                               · simp only [Act.put, sA, sB, sC, i64_w, i32_w]
                                 rfl
                               refine pure_ (i := 28) (N := some 151) (v := undef) (a' := ?_) (pf 54 29) rfl rfl (any_of HT_.out (by kernel_rfl)) (fun _ _ _ h => h) (Or.inr ⟨by rfl, rfl⟩) ?_ ?_
                               rotate_left
                               · simp only [Act.put, sA, sB, sC, i64_w, i32_w]
                                 rfl
                               refine pA (i := 29) (N := some 152) HT_ (pf 54 30) ?_
                               refine pA (i := 30) (N := some 153) HT_ (pf 54 31) ?_
                               refine pure_ (i := 31) (N := some 154) (v := undef) (a' := ?_) (pf 54 32) rfl rfl (any_of HT_.out (by kernel_rfl)) (fun _ _ _ h => h) (Or.inr ⟨by rfl, rfl⟩) ?_ ?_
                               rotate_left
                               · simp only [Act.put, sA, sB, sC, i64_w, i32_w]
                                 rfl
                               refine pure_ (i := 32) (N := some 155) (v := undef) (a' := ?_) (pf 54 33) rfl rfl (any_of HT_.out (by kernel_rfl)) (fun _ _ _ h => h) (Or.inr ⟨by rfl, rfl⟩) ?_ ?_
                               rotate_left
                               · simp only [Act.put, sA, sB, sC, i64_w, i32_w]
                                 rfl
                               refine pure_ (i := 33) (N := some 156) (v := undef) (a' := ?_) (pf 54 34) rfl rfl (any_of HT_.out (by kernel_rfl)) (fun _ _ _ h => h) (Or.inr ⟨by rfl, rfl⟩) ?_ ?_
                               rotate_left
                               · simp only [Act.put, sA, sB, sC, i64_w, i32_w]
                                 rfl
                               refine pure_ (i := 34) (N := some 157) (v := undef) (a' := ?_) (pf 54 35) rfl rfl (any_of HT_.out (by kernel_rfl)) (fun _ _ _ h => h) (Or.inr ⟨by rfl, rfl⟩) ?_ ?_
                               rotate_left
                               · simp only [Act.put, sA, sB, sC, i64_w, i32_w]
                                 rfl
                               refine pure_ (i := 35) (N := some 158) (v := undef) (a' := ?_) (pf 54 36) rfl rfl (any_of HT_.out (by kernel_rfl)) (fun _ _ _ h => h) (Or.inr ⟨by rfl, rfl⟩) ?_ ?_
                               rotate_left
                               · simp only [Act.put, sA, sB, sC, i64_w, i32_w]
                                 rfl
                               refine pure_ (i := 36) (N := some 159) (v := undef) (a' := ?_) (pf 54 37) rfl rfl (any_of HT_.out (by kernel_rfl)) (fun _ _ _ h => h) (Or.inr ⟨by rfl, rfl⟩) ?_ ?_
                               rotate_left
                               · simp only [Act.put, sA, sB, sC, i64_w, i32_w]
                                 rfl
                               refine pure_ (i := 37) (N := some 160) (v := undef) (a' := ?_) (pf 54 38) rfl rfl (any_of HT_.out (by kernel_rfl)) (fun _ _ _ h => h) (Or.inr ⟨by rfl, rfl⟩) ?_ ?_
                               rotate_left
                               · simp only [Act.put, sA, sB, sC, i64_w, i32_w]
                                 rfl
                               refine pure_ (i := 38) (N := some 161) (v := undef) (a' := ?_) (pf 54 39) rfl rfl (any_of HT_.out (by kernel_rfl)) (fun _ _ _ h => h) (Or.inr ⟨by rfl, rfl⟩) ?_ ?_
                               rotate_left
                               · simp only [Act.put, sA, sB, sC, i64_w, i32_w]
                                 rfl
                               refine pure_ (i := 39) (N := some 162) (v := undef) (a' := ?_) (pf 54 40) rfl rfl (any_of HT_.out (by kernel_rfl)) (fun _ _ _ h => h) (Or.inr ⟨by rfl, rfl⟩) ?_ ?_
                               rotate_left
                               · simp only [Act.put, sA, sB, sC, i64_w, i32_w]
                                 rfl
                               refine pure_ (i := 40) (N := some 163) (v := undef) (a' := ?_) (pf 54 41) rfl rfl (any_of HT_.out (by kernel_rfl)) (fun _ _ _ h => h) (Or.inr ⟨by rfl, rfl⟩) ?_ ?_
                               rotate_left
                               · simp only [Act.put, sA, sB, sC, i64_w, i32_w]
                                 rfl
                               refine pure_ (i := 41) (N := some 164) (v := undef) (a' := ?_) (pf 54 42) rfl rfl (any_of HT_.out (by kernel_rfl)) (fun _ _ _ h => h) (Or.inr ⟨by rfl, rfl⟩) ?_ ?_
                               rotate_left
                               · simp only [Act.put, sA, sB, sC, i64_w, i32_w]
                                 rfl
                               refine pA (i := 42) (N := some 165) HT_ (pf 54 43) ?_
                               refine pA (i := 43) (N := some 166) HT_ (pf 54 44) ?_
                               refine pure_ (i := 44) (N := some 167) (v := undef) (a' := ?_) (pf 54 45) rfl rfl (any_of HT_.out (by kernel_rfl)) (fun _ _ _ h => h) (Or.inr ⟨by rfl, rfl⟩) ?_ ?_
                               rotate_left
                               · simp only [Act.put, sA, sB, sC, i64_w, i32_w]
                                 rfl
                               refine pure_ (i := 45) (N := some 168) (v := undef) (a' := ?_) (pf 54 46) rfl rfl (any_of HT_.out (by kernel_rfl)) (fun _ _ _ h => h) (Or.inr ⟨by rfl, rfl⟩) ?_ ?_
                               rotate_left
                               · simp only [Act.put, sA, sB, sC, i64_w, i32_w]
                                 rfl
                               refine pure_ (i := 46) (N := some 169) (v := undef) (a' := ?_) (pf 54 47) rfl rfl (any_of HT_.out (by kernel_rfl)) (fun _ _ _ h => h) (Or.inr ⟨by rfl, rfl⟩) ?_ ?_
                               rotate_left
                               · simp only [Act.put, sA, sB, sC, i64_w, i32_w]
                                 rfl
                               refine pure_ (i := 47) (N := some 170) (v := undef) (a' := ?_) (pf 54 48) rfl rfl (any_of HT_.out (by kernel_rfl)) (fun _ _ _ h => h) (Or.inr ⟨by rfl, rfl⟩) ?_ ?_
                               rotate_left
                               · simp only [Act.put, sA, sB, sC, i64_w, i32_w]
                                 rfl
                               refine pure_ (i := 48) (N := some 171) (v := undef) (a' := ?_) (pf 54 49) rfl rfl (any_of HT_.out (by kernel_rfl)) (fun _ _ _ h => h) (Or.inr ⟨by rfl, rfl⟩) ?_ ?_
                               rotate_left
                               · simp only [Act.put, sA, sB, sC, i64_w, i32_w]
                                 rfl
                               refine pure_ (i := 49) (N := some 172) (v := undef) (a' := ?_) (pf 54 50) rfl rfl (any_of HT_.out (by kernel_rfl)) (fun _ _ _ h => h) (Or.inr ⟨by rfl, rfl⟩) ?_ ?_
                               rotate_left
                               · simp only [Act.put, sA, sB, sC, i64_w, i32_w]
                                 rfl
                               refine pure_ (i := 50) (N := some 173) (v := undef) (a' := ?_) (pf 54 51) rfl rfl (any_of HT_.out (by kernel_rfl)) (fun _ _ _ h => h) (Or.inr ⟨by rfl, rfl⟩) ?_ ?_
                               rotate_left
                               · simp only [Act.put, sA, sB, sC, i64_w, i32_w]
                                 rfl
                               refine pA (i := 51) (N := some 174) HT_ (pf 54 52) ?_
                               refine pA (i := 52) (N := some 175) HT_ (pf 54 53) ?_
                               refine pA (i := 53) (N := some 14) HT_ (pf 54 54) ?_
                               refine done_ (done_of HT_.out (by kernel_rfl)) ?_
                               try go_wp2
                               go_roundg k4
                               case measure => have := HJ2.out; have := HK2.out; have := HK3.out; have := HK4.out; omega
                               case rel => exact ⟨(false), (wrap64 (x15_4 + 1)), ac, ac, H', ⟨by have := HJ2.out; have := HK2.out; have := HK3.out; have := HK4.out; omega⟩, ⟨gR HO_5⟩, ⟨gB HB⟩⟩
                           · as_aux_lemma =>
                             rw [if_neg c42] at H
                             have c42b0 : (t530 == 0) = false := beq_eq_false_iff_ne.mpr c42
                             have c42b1 : (t530 != 0) = true := bne_iff_ne.mpr c42
                             have H' := Aside0.mk H
                             clear H
                             try go_wp2
                             have n0_ := aK (Kd.R_drew HO_5.out)
                             have n1_ := aK (below_drew1 HB.out)
                             clear HO_5; clear HB
                             have HO_5 := n0_
                             have HB := n1_
                             clear n0_ n1_
                             obtain ⟨⟨p527, q527⟩, ad527, rfl, hx527_0, hx527_1, hx527_2, hx527_3⟩ := za (at_T58 (Kd.R_reads' HO_5.out).2.2) x13_3
                             have p528 : 0 ≤ (x15_4 : Int) := od
                             have q528 : x15_4 < (l1.length : Int) := od
                             obtain ⟨ad528, e528, hx528_0, hx528_1, hx528_2, hx528_3⟩ := at_T66 HR1.out x15_4 p528 q528
                             have hw528_3 := hx528_3
                             have hw528_2 := hx528_2
                             have hw528_1 := hx528_1
                             have hw528_0 := hx528_0
                             cases e528
                             replace hx528_0 := gc HB hx528_0
                             replace hx528_1 := gc HB hx528_1
                             replace hx528_2 := gc HB hx528_2
                             replace hx528_3 := gc HB hx528_3
                             replace p528 := eq_true p528; replace q528 := eq_true q528
                             refine start_ (n := 16) (S := fun w' => w'.cell? (ad527.add ((x13_3).toNat * 4)) = some (.int .i64 ((rd_T58 t511 x13_3).f0)) ∧ w'.cell? ⟨(ad527.add ((x13_3).toNat * 4)).block, (ad527.add ((x13_3).toNat * 4)).off + 1, none⟩ = some (.string ((rd_T58 t511 x13_3).f1)) ∧ w'.cell? ⟨(ad527.add ((x13_3).toNat * 4)).block, (ad527.add ((x13_3).toNat * 4)).off + 2, none⟩ = some (.int .i64 ((rd_T58 t511 x13_3).f2)) ∧ w'.cell? ⟨(ad527.add ((x13_3).toNat * 4)).block, (ad527.add ((x13_3).toNat * 4)).off + 3, none⟩ = some (.int .i64 ((rd_T58 t511 x13_3).f3)) ∧ w'.cell? (ad528.add ((x15_4).toNat * 4)) = some (.int .i64 ((rd_T66 l1 x15_4).f0)) ∧ w'.cell? ⟨(ad528.add ((x15_4).toNat * 4)).block, (ad528.add ((x15_4).toNat * 4)).off + 1, none⟩ = some (.string ((rd_T66 l1 x15_4).f1)) ∧ w'.cell? ⟨(ad528.add ((x15_4).toNat * 4)).block, (ad528.add ((x15_4).toNat * 4)).off + 2, none⟩ = some (.int .i64 ((rd_T66 l1 x15_4).f2)) ∧ w'.cell? ⟨(ad528.add ((x15_4).toNat * 4)).block, (ad528.add ((x15_4).toNat * 4)).off + 3, none⟩ = some (.int .i64 ((rd_T66 l1 x15_4).f3))) (ds := []) (pf 16 0) (by kernel_rfl) rfl rfl ⟨hx527_0, hx527_1, hx527_2, hx527_3, ((HB.out.cell (World.block_lt_of_cell? w _ hw528_0)).trans hw528_0), ((HB.out.cell (World.block_lt_of_cell? w _ hw528_1)).trans hw528_1), ((HB.out.cell (World.block_lt_of_cell? w _ hw528_2)).trans hw528_2), ((HB.out.cell (World.block_lt_of_cell? w _ hw528_3)).trans hw528_3)⟩ (fun hHeld => ?_); refine with_tabW lombardlaw29_CloseOnce.tab25 lombardlaw29_CloseOnce.bits25 (fun HT_ HW_ => ?_)
                             generalize wr.drew = w58 at HO_5 HB hx527_0 hx527_1 hx527_2 hx527_3 hx528_0 hx528_1 hx528_2 hx528_3 hHeld ⊢
                             refine pA (i := 0) (N := some 110) HT_ (pf 16 1) ?_
                             refine pA (i := 1) (N := some 111) HT_ (pf 16 2) ?_
                             refine pA (i := 2) (N := some 112) HT_ (pf 16 3) ?_
                             refine pA (i := 3) (N := some 113) HT_ (pf 16 4) ?_
                             refine pA (i := 5) (N := some 115) HT_ (ba 16 47) ?_
                             refine pA (i := 6) (N := some 116) HT_ (ba 16 111) ?_
                             refine pA (i := 7) (N := some 117) HT_ (ba 16 239) ?_
                             refine pA (i := 8) (N := some 118) HT_ (ba 16 495) ?_
                             refine take_ (i := 4) (N := some 114) (v := ?_) (a' := ?_) (pf 16 9) rfl rfl (take_ofW HT_.out HW_.out (by kernel_rfl)) (fun _ _ _ h => h) (Or.inl ⟨by rfl, ?_⟩) hHeld ?_ ?_
                             rotate_left
                             · rintro w' ⟨s0, s1, s2, s3, s4, s5, s6, s7⟩
                               go_simp
                               with_reducible rfl
                             rotate_left
                             · simp only [Act.put, sA, sB, sC, i64_w, i32_w]
                               rfl
                             refine take_ (i := 9) (N := some 119) (v := ?_) (a' := ?_) (pf 16 10) rfl rfl (take_ofW HT_.out HW_.out (by kernel_rfl)) (fun _ _ _ h => h) (Or.inl ⟨by rfl, ?_⟩) hHeld ?_ ?_
                             rotate_left
                             · rintro w' ⟨s0, s1, s2, s3, s4, s5, s6, s7⟩
                               go_simp
                               with_reducible rfl
                             rotate_left
                             · simp only [Act.put, sA, sB, sC, i64_w, i32_w]
                               rfl
                             refine one_ (i := 10) (N := some 120) (pf 16 11) rfl rfl (one_of HT_.out (by kernel_rfl)) (by decide) (fun K hK => ?_)
                             refine goes_ Try.func21 (by kernel_rfl) rfl #[.int .i64 ((rd_T58 t511 x13_3).f2), .int .i64 ((rd_T66 l1 x15_4).f3), .int .i64 1000000, .int .i64 2] (by rfl) rfl rfl am ?_
                             with_reducible refine (lombardref01_MulDiv.calls ((rd_T58 t511 x13_3).f2) ((rd_T66 l1 x15_4).f3) 1000000 2 t529 t530 _ A37.out).mono ?_
                             rintro e w59 ⟨rfl, hb⟩
                             have HS0_ := (hb.cell (World.block_lt_of_cell? _ _ (hHeld.1))).trans (hHeld.1)
                             have HS1_ := (hb.cell (World.block_lt_of_cell? _ _ (hHeld.2.1))).trans (hHeld.2.1)
                             have HS2_ := (hb.cell (World.block_lt_of_cell? _ _ (hHeld.2.2.1))).trans (hHeld.2.2.1)
                             have HS3_ := (hb.cell (World.block_lt_of_cell? _ _ (hHeld.2.2.2.1))).trans (hHeld.2.2.2.1)
                             refine ⟨_, rfl, ?_⟩
                             have n0_ := aK (Kd.R_below (gR HO_5) hb)
                             have n1_ := aK (below_step (gB HB) hb)
                             clear HO_5; clear HB
                             have HO_5 := n0_
                             have HB := n1_
                             clear n0_ n1_
                             try clear hb
                             try clear hb2
                             try clear hk
                             try clear hi
                             refine hK.out _ _ ⟨HS0_, HS1_, HS2_, HS3_, ((HB.out.cell (World.block_lt_of_cell? w _ hw528_0)).trans hw528_0), ((HB.out.cell (World.block_lt_of_cell? w _ hw528_1)).trans hw528_1), ((HB.out.cell (World.block_lt_of_cell? w _ hw528_2)).trans hw528_2), ((HB.out.cell (World.block_lt_of_cell? w _ hw528_3)).trans hw528_3)⟩ (fun hHeld => ?_)
                             clear hK K
                             refine norm_ (a' := ?_) ?_ ?_
                             rotate_left
                             · show Act.put _ (some 120) _ = _
                               simp only [Act.put, sA, sB, sC, i64_w, i32_w]
                               rfl
                             refine pA (i := 11) (N := some 109) HT_ (pf 16 12) ?_
                             refine pA (i := 12) (N := some 121) HT_ (pf 16 13) ?_
                             refine pA (i := 13) (N := some 122) HT_ (pf 16 14) ?_
                             refine pA (i := 14) (N := some 16) HT_ (pf 16 15) ?_
                             refine pA (i := 15) (N := some 17) HT_ (pf 16 16) ?_
                             refine done_ (done_of HT_.out (by kernel_rfl)) ?_
                             try go_wp2
                             have n0_ := aK (Kd.R_drew HO_5.out)
                             have n1_ := aK (below_drew1 HB.out)
                             clear HO_5; clear HB
                             have HO_5 := n0_
                             have HB := n1_
                             clear n0_ n1_
                             refine start_ (n := 54) (S := fun w' => True) (ds := []) (pf 54 0) (by kernel_rfl) rfl rfl trivial (fun hHeld => ?_); refine with_tabW lombardlaw29_CloseOnce.tab26 lombardlaw29_CloseOnce.bits26 (fun HT_ HW_ => ?_)
                             generalize w59.drew = w60 at HO_5 HB hHeld ⊢
                             refine pA (i := 0) (N := some 123) HT_ (pf 54 1) ?_
                             refine pA (i := 1) (N := some 124) HT_ (pf 54 2) ?_
                             refine pA (i := 2) (N := some 125) HT_ (pf 54 3) ?_
                             refine pA (i := 3) (N := some 126) HT_ (pf 54 4) ?_
                             refine pA (i := 4) (N := some 127) HT_ (pf 54 5) ?_
                             refine pure_ (i := 5) (N := some 128) (v := undef) (a' := ?_) (pf 54 6) rfl rfl (any_of HT_.out (by kernel_rfl)) (fun _ _ _ h => h) (Or.inr ⟨by rfl, rfl⟩) ?_ ?_
                             rotate_left
                             · simp only [Act.put, sA, sB, sC, i64_w, i32_w]
                               rfl
                             refine pure_ (i := 6) (N := some 129) (v := undef) (a' := ?_) (pf 54 7) rfl rfl (any_of HT_.out (by kernel_rfl)) (fun _ _ _ h => h) (Or.inr ⟨by rfl, rfl⟩) ?_ ?_
                             rotate_left
                             · simp only [Act.put, sA, sB, sC, i64_w, i32_w]
                               rfl
                             refine pure_ (i := 7) (N := some 130) (v := undef) (a' := ?_) (pf 54 8) rfl rfl (any_of HT_.out (by kernel_rfl)) (fun _ _ _ h => h) (Or.inr ⟨by rfl, rfl⟩) ?_ ?_
                             rotate_left
                             · simp only [Act.put, sA, sB, sC, i64_w, i32_w]
                               rfl
                             refine pure_ (i := 8) (N := some 131) (v := undef) (a' := ?_) (pf 54 9) rfl rfl (any_of HT_.out (by kernel_rfl)) (fun _ _ _ h => h) (Or.inr ⟨by rfl, rfl⟩) ?_ ?_
                             rotate_left
                             · simp only [Act.put, sA, sB, sC, i64_w, i32_w]
                               rfl
                             refine pure_ (i := 9) (N := some 132) (v := undef) (a' := ?_) (pf 54 10) rfl rfl (any_of HT_.out (by kernel_rfl)) (fun _ _ _ h => h) (Or.inr ⟨by rfl, rfl⟩) ?_ ?_
                             rotate_left
                             · simp only [Act.put, sA, sB, sC, i64_w, i32_w]
                               rfl
                             refine pure_ (i := 10) (N := some 133) (v := undef) (a' := ?_) (pf 54 11) rfl rfl (any_of HT_.out (by kernel_rfl)) (fun _ _ _ h => h) (Or.inr ⟨by rfl, rfl⟩) ?_ ?_
                             rotate_left
                             · simp only [Act.put, sA, sB, sC, i64_w, i32_w]
                               rfl
                             refine pure_ (i := 11) (N := some 134) (v := undef) (a' := ?_) (pf 54 12) rfl rfl (any_of HT_.out (by kernel_rfl)) (fun _ _ _ h => h) (Or.inr ⟨by rfl, rfl⟩) ?_ ?_
                             rotate_left
                             · simp only [Act.put, sA, sB, sC, i64_w, i32_w]
                               rfl
                             refine pure_ (i := 12) (N := some 135) (v := undef) (a' := ?_) (pf 54 13) rfl rfl (any_of HT_.out (by kernel_rfl)) (fun _ _ _ h => h) (Or.inr ⟨by rfl, rfl⟩) ?_ ?_
                             rotate_left
                             · simp only [Act.put, sA, sB, sC, i64_w, i32_w]
                               rfl
                             refine pure_ (i := 13) (N := some 136) (v := undef) (a' := ?_) (pf 54 14) rfl rfl (any_of HT_.out (by kernel_rfl)) (fun _ _ _ h => h) (Or.inr ⟨by rfl, rfl⟩) ?_ ?_
                             rotate_left
                             · simp only [Act.put, sA, sB, sC, i64_w, i32_w]
                               rfl
                             refine pure_ (i := 14) (N := some 137) (v := undef) (a' := ?_) (pf 54 15) rfl rfl (any_of HT_.out (by kernel_rfl)) (fun _ _ _ h => h) (Or.inr ⟨by rfl, rfl⟩) ?_ ?_
                             rotate_left
                             · simp only [Act.put, sA, sB, sC, i64_w, i32_w]
                               rfl
                             refine pure_ (i := 15) (N := some 138) (v := undef) (a' := ?_) (pf 54 16) rfl rfl (any_of HT_.out (by kernel_rfl)) (fun _ _ _ h => h) (Or.inr ⟨by rfl, rfl⟩) ?_ ?_
                             rotate_left
                             · simp only [Act.put, sA, sB, sC, i64_w, i32_w]
                               rfl
                             refine pA (i := 16) (N := some 139) HT_ (pf 54 17) ?_
                             refine pA (i := 17) (N := some 140) HT_ (pf 54 18) ?_
                             refine pure_ (i := 18) (N := some 141) (v := undef) (a' := ?_) (pf 54 19) rfl rfl (any_of HT_.out (by kernel_rfl)) (fun _ _ _ h => h) (Or.inr ⟨by rfl, rfl⟩) ?_ ?_
                             rotate_left
                             · simp only [Act.put, sA, sB, sC, i64_w, i32_w]
                               rfl
                             refine pure_ (i := 19) (N := some 142) (v := undef) (a' := ?_) (pf 54 20) rfl rfl (any_of HT_.out (by kernel_rfl)) (fun _ _ _ h => h) (Or.inr ⟨by rfl, rfl⟩) ?_ ?_
                             rotate_left
                             · simp only [Act.put, sA, sB, sC, i64_w, i32_w]
                               rfl
                             refine pure_ (i := 20) (N := some 143) (v := undef) (a' := ?_) (pf 54 21) rfl rfl (any_of HT_.out (by kernel_rfl)) (fun _ _ _ h => h) (Or.inr ⟨by rfl, rfl⟩) ?_ ?_
                             rotate_left
                             · simp only [Act.put, sA, sB, sC, i64_w, i32_w]
                               rfl
                             refine pure_ (i := 21) (N := some 144) (v := undef) (a' := ?_) (pf 54 22) rfl rfl (any_of HT_.out (by kernel_rfl)) (fun _ _ _ h => h) (Or.inr ⟨by rfl, rfl⟩) ?_ ?_
                             rotate_left
                             · simp only [Act.put, sA, sB, sC, i64_w, i32_w]
                               rfl
                             refine pure_ (i := 22) (N := some 145) (v := undef) (a' := ?_) (pf 54 23) rfl rfl (any_of HT_.out (by kernel_rfl)) (fun _ _ _ h => h) (Or.inr ⟨by rfl, rfl⟩) ?_ ?_
                             rotate_left
                             · simp only [Act.put, sA, sB, sC, i64_w, i32_w]
                               rfl
                             refine pure_ (i := 23) (N := some 146) (v := undef) (a' := ?_) (pf 54 24) rfl rfl (any_of HT_.out (by kernel_rfl)) (fun _ _ _ h => h) (Or.inr ⟨by rfl, rfl⟩) ?_ ?_
                             rotate_left
                             · simp only [Act.put, sA, sB, sC, i64_w, i32_w]
                               rfl
                             refine pure_ (i := 24) (N := some 147) (v := undef) (a' := ?_) (pf 54 25) rfl rfl (any_of HT_.out (by kernel_rfl)) (fun _ _ _ h => h) (Or.inr ⟨by rfl, rfl⟩) ?_ ?_
                             rotate_left
                             · simp only [Act.put, sA, sB, sC, i64_w, i32_w]
                               rfl
                             refine pure_ (i := 25) (N := some 148) (v := undef) (a' := ?_) (pf 54 26) rfl rfl (any_of HT_.out (by kernel_rfl)) (fun _ _ _ h => h) (Or.inr ⟨by rfl, rfl⟩) ?_ ?_
                             rotate_left
                             · simp only [Act.put, sA, sB, sC, i64_w, i32_w]
                               rfl
                             refine pure_ (i := 26) (N := some 149) (v := undef) (a' := ?_) (pf 54 27) rfl rfl (any_of HT_.out (by kernel_rfl)) (fun _ _ _ h => h) (Or.inr ⟨by rfl, rfl⟩) ?_ ?_
                             rotate_left
                             · simp only [Act.put, sA, sB, sC, i64_w, i32_w]
                               rfl
                             refine pure_ (i := 27) (N := some 150) (v := undef) (a' := ?_) (pf 54 28) rfl rfl (any_of HT_.out (by kernel_rfl)) (fun _ _ _ h => h) (Or.inr ⟨by rfl, rfl⟩) ?_ ?_
                             rotate_left
                             · simp only [Act.put, sA, sB, sC, i64_w, i32_w]
                               rfl
                             refine pure_ (i := 28) (N := some 151) (v := undef) (a' := ?_) (pf 54 29) rfl rfl (any_of HT_.out (by kernel_rfl)) (fun _ _ _ h => h) (Or.inr ⟨by rfl, rfl⟩) ?_ ?_
                             rotate_left
                             · simp only [Act.put, sA, sB, sC, i64_w, i32_w]
                               rfl
                             refine pA (i := 29) (N := some 152) HT_ (pf 54 30) ?_
                             refine pA (i := 30) (N := some 153) HT_ (pf 54 31) ?_
                             refine pure_ (i := 31) (N := some 154) (v := undef) (a' := ?_) (pf 54 32) rfl rfl (any_of HT_.out (by kernel_rfl)) (fun _ _ _ h => h) (Or.inr ⟨by rfl, rfl⟩) ?_ ?_
                             rotate_left
                             · simp only [Act.put, sA, sB, sC, i64_w, i32_w]
                               rfl
                             refine pure_ (i := 32) (N := some 155) (v := undef) (a' := ?_) (pf 54 33) rfl rfl (any_of HT_.out (by kernel_rfl)) (fun _ _ _ h => h) (Or.inr ⟨by rfl, rfl⟩) ?_ ?_
                             rotate_left
                             · simp only [Act.put, sA, sB, sC, i64_w, i32_w]
                               rfl
                             refine pure_ (i := 33) (N := some 156) (v := undef) (a' := ?_) (pf 54 34) rfl rfl (any_of HT_.out (by kernel_rfl)) (fun _ _ _ h => h) (Or.inr ⟨by rfl, rfl⟩) ?_ ?_
                             rotate_left
                             · simp only [Act.put, sA, sB, sC, i64_w, i32_w]
                               rfl
                             refine pure_ (i := 34) (N := some 157) (v := undef) (a' := ?_) (pf 54 35) rfl rfl (any_of HT_.out (by kernel_rfl)) (fun _ _ _ h => h) (Or.inr ⟨by rfl, rfl⟩) ?_ ?_
                             rotate_left
                             · simp only [Act.put, sA, sB, sC, i64_w, i32_w]
                               rfl
                             refine pure_ (i := 35) (N := some 158) (v := undef) (a' := ?_) (pf 54 36) rfl rfl (any_of HT_.out (by kernel_rfl)) (fun _ _ _ h => h) (Or.inr ⟨by rfl, rfl⟩) ?_ ?_
                             rotate_left
                             · simp only [Act.put, sA, sB, sC, i64_w, i32_w]
                               rfl
                             refine pure_ (i := 36) (N := some 159) (v := undef) (a' := ?_) (pf 54 37) rfl rfl (any_of HT_.out (by kernel_rfl)) (fun _ _ _ h => h) (Or.inr ⟨by rfl, rfl⟩) ?_ ?_
                             rotate_left
                             · simp only [Act.put, sA, sB, sC, i64_w, i32_w]
                               rfl
                             refine pure_ (i := 37) (N := some 160) (v := undef) (a' := ?_) (pf 54 38) rfl rfl (any_of HT_.out (by kernel_rfl)) (fun _ _ _ h => h) (Or.inr ⟨by rfl, rfl⟩) ?_ ?_
                             rotate_left
                             · simp only [Act.put, sA, sB, sC, i64_w, i32_w]
                               rfl
                             refine pure_ (i := 38) (N := some 161) (v := undef) (a' := ?_) (pf 54 39) rfl rfl (any_of HT_.out (by kernel_rfl)) (fun _ _ _ h => h) (Or.inr ⟨by rfl, rfl⟩) ?_ ?_
                             rotate_left
                             · simp only [Act.put, sA, sB, sC, i64_w, i32_w]
                               rfl
                             refine pure_ (i := 39) (N := some 162) (v := undef) (a' := ?_) (pf 54 40) rfl rfl (any_of HT_.out (by kernel_rfl)) (fun _ _ _ h => h) (Or.inr ⟨by rfl, rfl⟩) ?_ ?_
                             rotate_left
                             · simp only [Act.put, sA, sB, sC, i64_w, i32_w]
                               rfl
                             refine pure_ (i := 40) (N := some 163) (v := undef) (a' := ?_) (pf 54 41) rfl rfl (any_of HT_.out (by kernel_rfl)) (fun _ _ _ h => h) (Or.inr ⟨by rfl, rfl⟩) ?_ ?_
                             rotate_left
                             · simp only [Act.put, sA, sB, sC, i64_w, i32_w]
                               rfl
                             refine pure_ (i := 41) (N := some 164) (v := undef) (a' := ?_) (pf 54 42) rfl rfl (any_of HT_.out (by kernel_rfl)) (fun _ _ _ h => h) (Or.inr ⟨by rfl, rfl⟩) ?_ ?_
                             rotate_left
                             · simp only [Act.put, sA, sB, sC, i64_w, i32_w]
                               rfl
                             refine pA (i := 42) (N := some 165) HT_ (pf 54 43) ?_
                             refine pA (i := 43) (N := some 166) HT_ (pf 54 44) ?_
                             refine pure_ (i := 44) (N := some 167) (v := undef) (a' := ?_) (pf 54 45) rfl rfl (any_of HT_.out (by kernel_rfl)) (fun _ _ _ h => h) (Or.inr ⟨by rfl, rfl⟩) ?_ ?_
                             rotate_left
                             · simp only [Act.put, sA, sB, sC, i64_w, i32_w]
                               rfl
                             refine pure_ (i := 45) (N := some 168) (v := undef) (a' := ?_) (pf 54 46) rfl rfl (any_of HT_.out (by kernel_rfl)) (fun _ _ _ h => h) (Or.inr ⟨by rfl, rfl⟩) ?_ ?_
                             rotate_left
                             · simp only [Act.put, sA, sB, sC, i64_w, i32_w]
                               rfl
                             refine pure_ (i := 46) (N := some 169) (v := undef) (a' := ?_) (pf 54 47) rfl rfl (any_of HT_.out (by kernel_rfl)) (fun _ _ _ h => h) (Or.inr ⟨by rfl, rfl⟩) ?_ ?_
                             rotate_left
                             · simp only [Act.put, sA, sB, sC, i64_w, i32_w]
                               rfl
                             refine pure_ (i := 47) (N := some 170) (v := undef) (a' := ?_) (pf 54 48) rfl rfl (any_of HT_.out (by kernel_rfl)) (fun _ _ _ h => h) (Or.inr ⟨by rfl, rfl⟩) ?_ ?_
                             rotate_left
                             · simp only [Act.put, sA, sB, sC, i64_w, i32_w]
                               rfl
                             refine pure_ (i := 48) (N := some 171) (v := undef) (a' := ?_) (pf 54 49) rfl rfl (any_of HT_.out (by kernel_rfl)) (fun _ _ _ h => h) (Or.inr ⟨by rfl, rfl⟩) ?_ ?_
                             rotate_left
                             · simp only [Act.put, sA, sB, sC, i64_w, i32_w]
                               rfl
                             refine pure_ (i := 49) (N := some 172) (v := undef) (a' := ?_) (pf 54 50) rfl rfl (any_of HT_.out (by kernel_rfl)) (fun _ _ _ h => h) (Or.inr ⟨by rfl, rfl⟩) ?_ ?_
                             rotate_left
                             · simp only [Act.put, sA, sB, sC, i64_w, i32_w]
                               rfl
                             refine pure_ (i := 50) (N := some 173) (v := undef) (a' := ?_) (pf 54 51) rfl rfl (any_of HT_.out (by kernel_rfl)) (fun _ _ _ h => h) (Or.inr ⟨by rfl, rfl⟩) ?_ ?_
                             rotate_left
                             · simp only [Act.put, sA, sB, sC, i64_w, i32_w]
                               rfl
                             refine pA (i := 51) (N := some 174) HT_ (pf 54 52) ?_
                             refine pA (i := 52) (N := some 175) HT_ (pf 54 53) ?_
                             refine pA (i := 53) (N := some 14) HT_ (pf 54 54) ?_
                             refine done_ (done_of HT_.out (by kernel_rfl)) ?_
                             try go_wp2
                             go_roundg k4
                             case measure => have := HJ2.out; have := HK2.out; have := HK3.out; have := HK4.out; omega
                             case rel => exact ⟨(false), (wrap64 (x15_4 + 1)), ac, ac, H', ⟨by have := HJ2.out; have := HK2.out; have := HK3.out; have := HK4.out; omega⟩, ⟨gR HO_5⟩, ⟨gB HB⟩⟩
                       · as_aux_lemma =>
                         rw [if_neg c36] at H
                         exact absurd H (by simp)
                     · as_aux_lemma =>
                       rw [if_neg c35] at H
                       exact absurd H (by simp)
                   · as_aux_lemma =>
                     rw [if_neg c34] at H
                     exact absurd H (by simp)
                 · as_aux_lemma =>
                   rw [if_neg c33] at H
                   have c33b0 := dF c33
                   clear c33
                   by_cases c61 : x14_4 = true
                   · as_aux_lemma =>
                     subst c61
                     replace H : (if 0 ≤ x13_3 then (if x13_3 < (t511.length : Int) then (lombardlaw29_CloseOnce.l2 k4 l1 t511 t512 (wrap64 (x9_3 + ((rd_T58 t511 x13_3).f3))) (wrap64 (x13_3 + 1))) else (none)) else (none)) = some r := by rw [if_pos rfl] at H; exact H
                     by_cases c62 : 0 ≤ x13_3
                     · as_aux_lemma =>
                       rw [if_pos c62] at H
                       have c62b0 := dT c62
                       clear c62
                       by_cases c63 : x13_3 < (t511.length : Int)
                       · as_aux_lemma =>
                         rw [if_pos c63] at H
                         have c63b0 := dT c63
                         clear c63
                         have H' := Aside0.mk H
                         clear H
                         obtain ⟨⟨p538, q538⟩, ad538, rfl, hx538_0, hx538_1, hx538_2, hx538_3⟩ := za (at_T58 (Kd.R_reads' HO_5.out).2.2) x13_3
                         go_wp2
                         go_roundg k4
                         case measure => have := HJ2.out; have := HK2.out; have := HK3.out; have := HK4.out; omega
                         case rel => exact ⟨(wrap64 (x9_3 + ((rd_T58 t511 x13_3).f3))), (wrap64 (x13_3 + 1)), ac, ac, H', ⟨by have := HJ2.out; have := HK2.out; have := HK3.out; have := HK4.out; omega⟩, ⟨gR HO_5⟩, ⟨gB HB⟩⟩
                       · as_aux_lemma =>
                         rw [if_neg c63] at H
                         exact absurd H (by simp)
                     · as_aux_lemma =>
                       rw [if_neg c62] at H
                       exact absurd H (by simp)
                   · as_aux_lemma =>
                     replace c61 := Bool.eq_false_iff.mpr c61
                     subst c61
                     replace H : (some false) = some r := by rw [if_neg (show ¬ (false = true) by decide)] at H; exact H
                     exact absurd ((Option.some.inj H).trans htr_) (by decide)
             · as_aux_lemma =>
               rw [if_neg c31] at H
               have c31b0 := dF c31
               clear c31
               by_cases c64 : x9_3 = t512
               · as_aux_lemma =>
                 rw [if_pos c64] at H
                 have c64b0 : (x9_3 == t512) = true := beq_iff_eq.mpr c64
                 have c64b1 : (x9_3 != t512) = false := bne_eq_false_iff_eq.mpr c64
                 clear c64
                 replace H := Option.bind_eq_some_iff.mp H
                 obtain ⟨t526, A650, H⟩ := H
                 replace H : (some t526) = some r := H
                 have A65 := Aside0.mk A650; clear A650
                 obtain rfl := Option.some.inj H
                 obtain ⟨Ao66, co66, eo66⟩ := Kd.R_slice HO_5.out
                 subst eo66
                 go_wp2_with (first | (go_at_call 8; (with_reducible refine (lombardlaw29_awake.calls k3  t526 _ A65.out htr_).mono ?_); rintro e w67 ⟨rfl, hb⟩; replace HO_5 := aK (Kd.R_below (gR HO_5) hb); replace HB := aK (below_step (gB HB) hb); (try clear hb); (try clear hb2); (try clear hk); (try clear hi)))
                 go_ret
                 exact ⟨by first | rfl | (simp [errW_none, errW_some] <;> rfl) | (simp [*, errW_none, errW_some] <;> rfl), gB HB⟩
               · as_aux_lemma =>
                 rw [if_neg c64] at H
                 have c64b0 : (x9_3 == t512) = false := beq_eq_false_iff_ne.mpr c64
                 have c64b1 : (x9_3 != t512) = true := bne_iff_ne.mpr c64
                 exact absurd ((Option.some.inj H).trans htr_) (by decide)
     · as_aux_lemma =>
       rw [if_neg c10] at H
       have c10b0 : (t514 == 0) = false := beq_eq_false_iff_ne.mpr c10
       have c10b1 : (t514 != 0) = true := bne_iff_ne.mpr c10
       by_cases c68 : (t511.length : Int) = 0
       · as_aux_lemma =>
         rw [if_pos c68] at H
         have c68b0 : ((t511.length : Int) == 0) = true := beq_iff_eq.mpr c68
         have c68b1 : ((t511.length : Int) != 0) = false := bne_eq_false_iff_eq.mpr c68
         clear c68
         by_cases c69 : t512 = 0
         · as_aux_lemma =>
           rw [if_pos c69] at H
           have c69b0 : (t512 == 0) = true := beq_iff_eq.mpr c69
           have c69b1 : (t512 != 0) = false := bne_eq_false_iff_eq.mpr c69
           clear c69
           by_cases c70 : (t513.length : Int) = 0
           · as_aux_lemma =>
             rw [if_pos c70] at H
             have c70b0 : ((t513.length : Int) == 0) = true := beq_iff_eq.mpr c70
             have c70b1 : ((t513.length : Int) != 0) = false := bne_eq_false_iff_eq.mpr c70
             clear c70
             replace H := Option.bind_eq_some_iff.mp H
             obtain ⟨t519, A710, H⟩ := H
             replace H : (some t519) = some r := H
             have A71 := Aside0.mk A710; clear A710
             obtain rfl := Option.some.inj H
             go_wp2_with (first | ((with_reducible refine gate_callee (f := 17) rfl ?_); refine goesL_ (some 30) rfl rfl Try.func17 (by kernel_rfl) rfl #[.slice A1 l1.length c1] rfl am ?_; (with_reducible refine (lombardlaw29_bids.calls kj2 _ _ l1 t508 _ ?side1 ?side2 A8.out).mono ?_); (case side1 => exact gC HR1 HB); (case side2 => exact HC1.out); rintro e w72 ⟨v509, rfl, ho0, hb⟩; (try clear A8); refine ⟨_, rfl, ?_⟩; have HO510 := aK (Kd.R_lower ho0 (below_size (gB HB))); replace HB := aK (below_step (gB HB) hb); (try clear hb); (try clear hb2); (try clear hk); (try clear hi); (try clear ho0); obtain ⟨Ao73, co73, eo73⟩ := Kd.R_slice HO510.out; subst eo73) | ((with_reducible refine gate_callee (f := 16) rfl ?_); refine goesL_ (some 31) rfl rfl Try.func16 (by kernel_rfl) rfl #[.slice A0 l0.length c0, .slice Ao73 t508.length co73] rfl am ?_; (with_reducible refine (close_Auction.calls kj2 _ _ l0 _ _ t508 t511 t512 t513 t514 _ ?side1 ?side2 ?side3 ?side4 A9.out).mono ?_); (case side1 => exact gC HR0 HB); (case side2 => exact HC0.out); (case side3 => repeat (first | exact (Kd.R_reads' HO510.out).2.2 | (with_reducible refine Kd.C_alloc ?_ _) | (with_reducible refine Kd.C_drewN ?_ _) | (with_reducible refine Kd.C_drew ?_))); (case side4 => exact (Kd.R_reads' HO510.out).2.1); rintro e w74 ⟨v515, v517, rfl, ho0, ho1, hb⟩; (try clear A9); refine ⟨_, rfl, ?_⟩; replace HO510 := aK (Kd.R_below (gR HO510) hb); have HO516 := aK (Kd.R_lower ho0 (below_size (gB HB))); have HO518 := aK (Kd.R_lower ho1 (below_size (gB HB))); replace HB := aK (below_step (gB HB) hb); (try clear hb); (try clear hb2); (try clear hk); (try clear hi); (try clear ho0); (try clear ho1); obtain ⟨Ao75, co75, eo75⟩ := Kd.R_slice HO516.out; subst eo75; obtain ⟨Ao76, co76, eo76⟩ := Kd.R_slice HO518.out; subst eo76) | (go_at_call 8; (with_reducible refine (lombardlaw29_awake.calls kj2  t519 _ A71.out htr_).mono ?_); rintro e w77 ⟨rfl, hb⟩; replace HO510 := aK (Kd.R_below (gR HO510) hb); replace HO516 := aK (Kd.R_below (gR HO516) hb); replace HO518 := aK (Kd.R_below (gR HO518) hb); replace HB := aK (below_step (gB HB) hb); (try clear hb); (try clear hb2); (try clear hk); (try clear hi)))
             go_ret
             exact ⟨by first | rfl | (simp [errW_none, errW_some] <;> rfl) | (simp [*, errW_none, errW_some] <;> rfl), gB HB⟩
           · as_aux_lemma =>
             rw [if_neg c70] at H
             have c70b0 : ((t513.length : Int) == 0) = false := beq_eq_false_iff_ne.mpr c70
             have c70b1 : ((t513.length : Int) != 0) = true := bne_iff_ne.mpr c70
             have c70b2 : ¬ (t513 = []) := fun h_ => c70 (by rw [h_]; rfl)
             exact absurd ((Option.some.inj H).trans htr_) (by decide)
         · as_aux_lemma =>
           rw [if_neg c69] at H
           have c69b0 : (t512 == 0) = false := beq_eq_false_iff_ne.mpr c69
           have c69b1 : (t512 != 0) = true := bne_iff_ne.mpr c69
           exact absurd ((Option.some.inj H).trans htr_) (by decide)
       · as_aux_lemma =>
         rw [if_neg c68] at H
         have c68b0 : ((t511.length : Int) == 0) = false := beq_eq_false_iff_ne.mpr c68
         have c68b1 : ((t511.length : Int) != 0) = true := bne_iff_ne.mpr c68
         have c68b2 : ¬ (t511 = []) := fun h_ => c68 (by rw [h_]; rfl)
         exact absurd ((Option.some.inj H).trans htr_) (by decide)
end Go.Proofs.Ytlbhjkbjokiioaa.X
