-- a shortened text: what this claim does not name is left out (wip/xprint/prune.py of this repo)
import Derived.Test.YtjjemfbpodgihaaXMin
import Derived.Test.YtjjemfbpodgihaaX0
import Derived.Test.YtjjemfbpodgihaaX12
import Derived.Test.YtjjemfbpodgihaaX17
import Derived.Test.YtjjemfbpodgihaaX18
import Derived.Test.YtjjemfbpodgihaaX3
import Derived.Test.YtjjemfbpodgihaaX8
namespace Go.Proofs.Ytjjemfbpodgihaa.X
open Go.RowKit Go.Proofs.YtjjemfbpodgihaaW.PrintWords Go.Proofs.YtjjemfbpodgihaaW.PrintLast Go.Proofs.YtjjemfbpodgihaaW.PrintMore
attribute [local go_sem] max2_int min2_int max_two min_two max_three min_three max_four min_four
set_option linter.unusedVariables false
set_option linter.unusedSimpArgs false
attribute [local go_sem high] eqA47
abbrev qx19_0 : Array Bool := #[true, true, true, true, true, true, true, true, false, false, true, false, false, false, false, false, false, false, false, false, false, false, false, false, false, false, false, false]
abbrev qx19_1 : Array Bool := #[true, true, true, true, true, true, true, true, false, false, true, true, false, false, false, false, false, false, false, false, false, false, false, false, false, false, false, false]
abbrev qx19_2 : Array Bool := #[true, true, true, true, true, true, true, true, false, false, true, true, true, false, false, false, false, false, false, false, false, false, false, false, false, false, false, false]
abbrev qx19_3 : Array Bool := #[true, true, true, true, true, true, true, true, false, false, true, true, true, true, false, false, false, false, false, false, false, false, false, false, false, false, false, false]
abbrev qx19_4 : Array Bool := #[true, true, true, true, true, true, true, true, false, false, true, true, true, true, true, false, false, false, false, false, false, false, false, false, false, false, false, false]
abbrev qx19_5 : Array Bool := #[true, true, true, true, true, true, true, true, true, false, true, true, true, true, true, false, false, false, false, false, false, false, false, false, false, false, false, false]
def lombardlaw17_LotsRanks.j0 : Nat → List (S65) → List (S65) → List (S43) → Int → List (S43) → Int → Bool → Option (Bool)
 | 0, _, _, _, _, _, _, _ => none
 | k + 1, x0, x3, x6, x7, x8, x9, x60 => if x60 = true then (some false) else ((lombardlaw17_items.f k x0).bind fun t502 => ((lots_Rank.f k t502).bind fun t505 => ((lombardlaw17_same.f k t505 x3).bind fun t508 => (if t508 = true then ((lombardref10_Lots.f k x6 x8).bind fun t509 => (if t509 = true then (if x7 = x9 then ((lombardlaw17_awake.f k).bind fun t510 => (some t510)) else (some false)) else (some false))) else (some false)))))
def lombardlaw17_LotsRanks.f (k : Nat) (l0 : List (S65)) : Option (Bool) := if (l0.length : Int) > 100 then ((lombardlaw17_awake.f k).bind fun t465 => (some t465)) else ((lombardref17_Rank.f k l0).bind fun t466 => ((lombardlaw17_items.f k l0).bind fun t469 => ((lots_Worst.f k t469).bind fun bt472 => ((lombardlaw17_items.f k l0).bind fun t483 => ((lots_Of.f k t483).bind fun bt486 => ((lombardref17_Of.f k l0).bind fun bt490 => (if (bt472.2.2.2.2.2.2.2.2.2 != (decide ((l0.length : Int) > 0))) = true then (lombardlaw17_LotsRanks.j0 k l0 t466 bt486.1 bt486.2 bt490.1 bt490.2 true) else (if bt472.2.2.2.2.2.2.2.2.2 = true then (if 0 ≤ (wrap64 ((t466.length : Int) - 1)) then (if (wrap64 ((t466.length : Int) - 1)) ≤ (t466.length : Int) then ((lombardlaw17_same.f k (([(⟨(⟨bt472.1, bt472.2.1⟩ : S43), (⟨bt472.2.2.1, bt472.2.2.2.1, bt472.2.2.2.2.1, bt472.2.2.2.2.2.1, bt472.2.2.2.2.2.2.1⟩ : S45), bt472.2.2.2.2.2.2.2.1, bt472.2.2.2.2.2.2.2.2.1⟩ : S47)] : List (S47))) (t466.drop ((wrap64 ((t466.length : Int) - 1)) : Int).toNat)).bind fun t501 => (if t501 = true then (lombardlaw17_LotsRanks.j0 k l0 t466 bt486.1 bt486.2 bt490.1 bt490.2 false) else (lombardlaw17_LotsRanks.j0 k l0 t466 bt486.1 bt486.2 bt490.1 bt490.2 true))) else (none)) else (none)) else (lombardlaw17_LotsRanks.j0 k l0 t466 bt486.1 bt486.2 bt490.1 bt490.2 ((!(bt472.1.toList == ([] : List UInt8)) || (!(bt472.2.1 == 0))) || ((!(bt472.2.2.1.toList == ([] : List UInt8)) || (!(bt472.2.2.2.1 == 0) || (!(bt472.2.2.2.2.1 == 0) || (!(bt472.2.2.2.2.2.1 == 0) || (!(bt472.2.2.2.2.2.2.1.toList == ([] : List UInt8))))))) || (!(bt472.2.2.2.2.2.2.2.1 == 0) || (!(bt472.2.2.2.2.2.2.2.2.1 == 0))))))))))))))
theorem lombardlaw17_LotsRanks.mono_l : ∀ k, (∀ y0 y1 y2 y3 y4 y5 y6, LeO (lombardlaw17_LotsRanks.j0 k y0 y1 y2 y3 y4 y5 y6) (lombardlaw17_LotsRanks.j0 (k + 1) y0 y1 y2 y3 y4 y5 y6))
 | 0 => fun _ _ _ _ _ _ _ r h => by simp [lombardlaw17_LotsRanks.j0] at h
 | k + 1 => by
  have ih0 := lombardlaw17_LotsRanks.mono_l k
  · intro y0 y1 y2 y3 y4 y5 y6
    unfold lombardlaw17_LotsRanks.j0
    repeat' first
    | (with_reducible exact ih0 _ _ _ _ _ _ _)
    | (with_reducible exact lombardlaw17_awake.mono _)
    | (with_reducible exact lombardlaw17_items.mono _ _)
    | (with_reducible exact lombardlaw17_same.mono _ _ _)
    | (with_reducible exact lombardref10_Lots.mono _ _ _)
    | (with_reducible exact lombardref17_Of.mono _ _)
    | (with_reducible exact lombardref17_Rank.mono _ _)
    | (with_reducible exact lots_Of.mono _ _)
    | (with_reducible exact lots_Rank.mono _ _)
    | (with_reducible exact lots_Worst.mono _ _)
    | (with_reducible exact LeO.refl _)
    | (with_reducible exact LeO.none _)
    | (with_reducible refine LeO.ite ?_ ?_)
    | (with_reducible refine LeO.bind ?_ (fun _ => ?_))
    | exact ih0 _ _ _ _ _ _ _
    | exact lombardlaw17_awake.mono _
    | exact lombardlaw17_items.mono _ _
    | exact lombardlaw17_same.mono _ _ _
    | exact lombardref10_Lots.mono _ _ _
    | exact lombardref17_Of.mono _ _
    | exact lombardref17_Rank.mono _ _
    | exact lots_Of.mono _ _
    | exact lots_Rank.mono _ _
    | exact lots_Worst.mono _ _
    | exact LeO.none _
    | refine LeO.ite ?_ ?_
    | refine LeO.bind ?_ (fun _ => ?_)
theorem lombardlaw17_LotsRanks.mono : ∀ a0 k, LeO (lombardlaw17_LotsRanks.f k a0) (lombardlaw17_LotsRanks.f (k + 1) a0) := by
 intro a0 k
 have ih0 := lombardlaw17_LotsRanks.mono_l k
 unfold lombardlaw17_LotsRanks.f
 repeat' first
  | (with_reducible exact ih0 _ _ _ _ _ _ _)
  | (with_reducible exact lombardlaw17_awake.mono _)
  | (with_reducible exact lombardlaw17_items.mono _ _)
  | (with_reducible exact lombardlaw17_same.mono _ _ _)
  | (with_reducible exact lombardref10_Lots.mono _ _ _)
  | (with_reducible exact lombardref17_Of.mono _ _)
  | (with_reducible exact lombardref17_Rank.mono _ _)
  | (with_reducible exact lots_Of.mono _ _)
  | (with_reducible exact lots_Rank.mono _ _)
  | (with_reducible exact lots_Worst.mono _ _)
  | (with_reducible exact LeO.refl _)
  | (with_reducible exact LeO.none _)
  | (with_reducible refine LeO.ite ?_ ?_)
  | (with_reducible refine LeO.bind ?_ (fun _ => ?_))
  | exact ih0 _ _ _ _ _ _ _
  | exact lombardlaw17_awake.mono _
  | exact lombardlaw17_items.mono _ _
  | exact lombardlaw17_same.mono _ _ _
  | exact lombardref10_Lots.mono _ _ _
  | exact lombardref17_Of.mono _ _
  | exact lombardref17_Rank.mono _ _
  | exact lots_Of.mono _ _
  | exact lots_Rank.mono _ _
  | exact lots_Worst.mono _ _
  | exact LeO.none _
  | refine LeO.ite ?_ ?_
  | refine LeO.bind ?_ (fun _ => ?_)
def lombardlaw17_LotsRanks.T7 : Bool × List (List Nat × List Nat) := (true, [([], []), ([], []), ([1], [1]), ([2], [2]), ([0, 3], [0, 3]), ([4], [4]), ([5], [5]), ([6, 5, 5], [5, 6]), ([7], [7]), ([8, 7], [7, 8]), ([7], [7]), ([7], [7]), ([11, 7], [7, 11]), ([12, 7], [7, 12]), ([10, 13, 7], [7, 10, 13]), ([9, 14, 7, 7], [7, 9, 14]), ([15, 7], [7, 15]), ([7, 16, 5], [5, 7, 16]), ([5, 17], [5, 17]), ([18, 15], [18]), ([19], [19]), ([20, 19], [19, 20]), ([21, 19, 19], [19, 21]), ([22], [22]), ([22], [22]), ([23, 24, 22], [22, 23, 24]), ([22, 25, 19], [19, 22, 25]), ([19, 26], [19, 26])])
def lombardlaw17_LotsRanks.B7 : List Nat := [0, 0, 2, 6, 15, 31, 63, 127, 255, 511, 255, 255, 2303, 6399, 15615, 32767, 65535, 131071, 262143, 524287, 1048575, 2097151, 4194303, 8388607, 8388607, 33554431, 67108863, 134217727]
theorem lombardlaw17_LotsRanks.tab7 : rtab .any (opsOf Try.f6 7) = lombardlaw17_LotsRanks.T7 := by kernel_rfl
theorem lombardlaw17_LotsRanks.bits7 : waitsOk lombardlaw17_LotsRanks.T7.2 lombardlaw17_LotsRanks.B7 = true := by kernel_rfl
set_option maxHeartbeats 8000000 in
set_option maxRecDepth 100000 in
theorem lombardlaw17_LotsRanks.calls (k : Nat) (A0 : Option Addr) (c0 : Nat) (l0 : List (S65)) (r : Bool) (w : World) (hr0 : Kd.C k65 w A0 l0.length l0) (hc0 : l0.length ≤ c0) (h : lombardlaw17_LotsRanks.f k l0 = some r) (htr_ : r = true) :
 Calls Try.prog 6 #[.slice A0 l0.length c0] w fun e w' => e = .returned (.bool r) ∧ Below w.heap.size w w' := by
 have hu47 := Try.underlying47
 have HR0 := Aside0.mk hr0; have HC0 := Aside0.mk hc0; clear hr0 hc0
 have HB := Aside0.mk (Below.refl w.heap.size w)
 have H : (if (l0.length : Int) > 100 then ((lombardlaw17_awake.f k).bind fun t465 => (some t465)) else ((lombardref17_Rank.f k l0).bind fun t466 => ((lombardlaw17_items.f k l0).bind fun t469 => ((lots_Worst.f k t469).bind fun bt472 => ((lombardlaw17_items.f k l0).bind fun t483 => ((lots_Of.f k t483).bind fun bt486 => ((lombardref17_Of.f k l0).bind fun bt490 => (if (bt472.2.2.2.2.2.2.2.2.2 != (decide ((l0.length : Int) > 0))) = true then (lombardlaw17_LotsRanks.j0 k l0 t466 bt486.1 bt486.2 bt490.1 bt490.2 true) else (if bt472.2.2.2.2.2.2.2.2.2 = true then (if 0 ≤ (wrap64 ((t466.length : Int) - 1)) then (if (wrap64 ((t466.length : Int) - 1)) ≤ (t466.length : Int) then ((lombardlaw17_same.f k (([(⟨(⟨bt472.1, bt472.2.1⟩ : S43), (⟨bt472.2.2.1, bt472.2.2.2.1, bt472.2.2.2.2.1, bt472.2.2.2.2.2.1, bt472.2.2.2.2.2.2.1⟩ : S45), bt472.2.2.2.2.2.2.2.1, bt472.2.2.2.2.2.2.2.2.1⟩ : S47)] : List (S47))) (t466.drop ((wrap64 ((t466.length : Int) - 1)) : Int).toNat)).bind fun t501 => (if t501 = true then (lombardlaw17_LotsRanks.j0 k l0 t466 bt486.1 bt486.2 bt490.1 bt490.2 false) else (lombardlaw17_LotsRanks.j0 k l0 t466 bt486.1 bt486.2 bt490.1 bt490.2 true))) else (none)) else (none)) else (lombardlaw17_LotsRanks.j0 k l0 t466 bt486.1 bt486.2 bt490.1 bt490.2 ((!(bt472.1.toList == ([] : List UInt8)) || (!(bt472.2.1 == 0))) || ((!(bt472.2.2.1.toList == ([] : List UInt8)) || (!(bt472.2.2.2.1 == 0) || (!(bt472.2.2.2.2.1 == 0) || (!(bt472.2.2.2.2.2.1 == 0) || (!(bt472.2.2.2.2.2.2.1.toList == ([] : List UInt8))))))) || (!(bt472.2.2.2.2.2.2.2.1 == 0) || (!(bt472.2.2.2.2.2.2.2.2.1 == 0))))))))))))))) = some r := h
 clear h
 by_cases c2 : (l0.length : Int) > 100
 · rw [if_pos c2] at H
   have c2b0 : decide (100 < (l0.length : Int)) = true := decide_eq_true c2
   have c2b1 : decide (100 < l0.length) = true := decide_eq_true (by omega)
   clear c2
   replace H := Option.bind_eq_some_iff.mp H
   obtain ⟨t465, A30, H⟩ := H
   replace H : (some t465) = some r := H
   have A3 := Aside0.mk A30; clear A30
   obtain rfl := Option.some.inj H
   go_enter Try.func6, Try.ntmps6
   go_wp2_with (first | ((with_reducible refine gate_callee (f := 8) rfl ?_); refine goesL_ (some 13) rfl rfl Try.func8 (by kernel_rfl) rfl #[] rfl am ?_; (with_reducible refine (lombardlaw17_awake.calls k  t465 _ A3.out htr_).mono ?_); rintro e w4 ⟨rfl, hb⟩; refine ⟨_, rfl, ?_⟩; have n0_ := Aside0.mk (below_step (gB HB) hb); clear HB; have HB := n0_; clear n0_; (try clear hb); (try clear hb2); (try clear hk); (try clear hi)))
   go_ret
   exact ⟨by first | rfl | (simp [errW_none, errW_some] <;> rfl) | (simp [*, errW_none, errW_some] <;> rfl), gB HB⟩
 · rw [if_neg c2] at H
   have c2b0 : decide (100 < (l0.length : Int)) = false := decide_eq_false c2
   have c2b1 : decide (100 < l0.length) = false := decide_eq_false (by omega)
   clear c2
   replace H := Option.bind_eq_some_iff.mp H
   obtain ⟨t466, A50, H⟩ := H
   replace H : ((lombardlaw17_items.f k l0).bind fun t469 => ((lots_Worst.f k t469).bind fun bt472 => ((lombardlaw17_items.f k l0).bind fun t483 => ((lots_Of.f k t483).bind fun bt486 => ((lombardref17_Of.f k l0).bind fun bt490 => (if (bt472.2.2.2.2.2.2.2.2.2 != (decide ((l0.length : Int) > 0))) = true then (lombardlaw17_LotsRanks.j0 k l0 t466 bt486.1 bt486.2 bt490.1 bt490.2 true) else (if bt472.2.2.2.2.2.2.2.2.2 = true then (if 0 ≤ (wrap64 ((t466.length : Int) - 1)) then (if (wrap64 ((t466.length : Int) - 1)) ≤ (t466.length : Int) then ((lombardlaw17_same.f k (([(⟨(⟨bt472.1, bt472.2.1⟩ : S43), (⟨bt472.2.2.1, bt472.2.2.2.1, bt472.2.2.2.2.1, bt472.2.2.2.2.2.1, bt472.2.2.2.2.2.2.1⟩ : S45), bt472.2.2.2.2.2.2.2.1, bt472.2.2.2.2.2.2.2.2.1⟩ : S47)] : List (S47))) (t466.drop ((wrap64 ((t466.length : Int) - 1)) : Int).toNat)).bind fun t501 => (if t501 = true then (lombardlaw17_LotsRanks.j0 k l0 t466 bt486.1 bt486.2 bt490.1 bt490.2 false) else (lombardlaw17_LotsRanks.j0 k l0 t466 bt486.1 bt486.2 bt490.1 bt490.2 true))) else (none)) else (none)) else (lombardlaw17_LotsRanks.j0 k l0 t466 bt486.1 bt486.2 bt490.1 bt490.2 ((!(bt472.1.toList == ([] : List UInt8)) || (!(bt472.2.1 == 0))) || ((!(bt472.2.2.1.toList == ([] : List UInt8)) || (!(bt472.2.2.2.1 == 0) || (!(bt472.2.2.2.2.1 == 0) || (!(bt472.2.2.2.2.2.1 == 0) || (!(bt472.2.2.2.2.2.2.1.toList == ([] : List UInt8))))))) || (!(bt472.2.2.2.2.2.2.2.1 == 0) || (!(bt472.2.2.2.2.2.2.2.2.1 == 0))))))))))))) = some r := H
   have A5 := Aside0.mk A50; clear A50
   replace H := Option.bind_eq_some_iff.mp H
   obtain ⟨t469, A60, H⟩ := H
   replace H : ((lots_Worst.f k t469).bind fun bt472 => ((lombardlaw17_items.f k l0).bind fun t483 => ((lots_Of.f k t483).bind fun bt486 => ((lombardref17_Of.f k l0).bind fun bt490 => (if (bt472.2.2.2.2.2.2.2.2.2 != (decide ((l0.length : Int) > 0))) = true then (lombardlaw17_LotsRanks.j0 k l0 t466 bt486.1 bt486.2 bt490.1 bt490.2 true) else (if bt472.2.2.2.2.2.2.2.2.2 = true then (if 0 ≤ (wrap64 ((t466.length : Int) - 1)) then (if (wrap64 ((t466.length : Int) - 1)) ≤ (t466.length : Int) then ((lombardlaw17_same.f k (([(⟨(⟨bt472.1, bt472.2.1⟩ : S43), (⟨bt472.2.2.1, bt472.2.2.2.1, bt472.2.2.2.2.1, bt472.2.2.2.2.2.1, bt472.2.2.2.2.2.2.1⟩ : S45), bt472.2.2.2.2.2.2.2.1, bt472.2.2.2.2.2.2.2.2.1⟩ : S47)] : List (S47))) (t466.drop ((wrap64 ((t466.length : Int) - 1)) : Int).toNat)).bind fun t501 => (if t501 = true then (lombardlaw17_LotsRanks.j0 k l0 t466 bt486.1 bt486.2 bt490.1 bt490.2 false) else (lombardlaw17_LotsRanks.j0 k l0 t466 bt486.1 bt486.2 bt490.1 bt490.2 true))) else (none)) else (none)) else (lombardlaw17_LotsRanks.j0 k l0 t466 bt486.1 bt486.2 bt490.1 bt490.2 ((!(bt472.1.toList == ([] : List UInt8)) || (!(bt472.2.1 == 0))) || ((!(bt472.2.2.1.toList == ([] : List UInt8)) || (!(bt472.2.2.2.1 == 0) || (!(bt472.2.2.2.2.1 == 0) || (!(bt472.2.2.2.2.2.1 == 0) || (!(bt472.2.2.2.2.2.2.1.toList == ([] : List UInt8))))))) || (!(bt472.2.2.2.2.2.2.2.1 == 0) || (!(bt472.2.2.2.2.2.2.2.2.1 == 0)))))))))))) = some r := H
   have A6 := Aside0.mk A60; clear A60
   replace H := Option.bind_eq_some_iff.mp H
   obtain ⟨⟨t472, t473, t474, t475, t476, t477, t478, t479, t480, t481⟩, A70, H⟩ := H
   replace H : ((lombardlaw17_items.f k l0).bind fun t483 => ((lots_Of.f k t483).bind fun bt486 => ((lombardref17_Of.f k l0).bind fun bt490 => (if (t481 != (decide ((l0.length : Int) > 0))) = true then (lombardlaw17_LotsRanks.j0 k l0 t466 bt486.1 bt486.2 bt490.1 bt490.2 true) else (if t481 = true then (if 0 ≤ (wrap64 ((t466.length : Int) - 1)) then (if (wrap64 ((t466.length : Int) - 1)) ≤ (t466.length : Int) then ((lombardlaw17_same.f k (([(⟨(⟨t472, t473⟩ : S43), (⟨t474, t475, t476, t477, t478⟩ : S45), t479, t480⟩ : S47)] : List (S47))) (t466.drop ((wrap64 ((t466.length : Int) - 1)) : Int).toNat)).bind fun t501 => (if t501 = true then (lombardlaw17_LotsRanks.j0 k l0 t466 bt486.1 bt486.2 bt490.1 bt490.2 false) else (lombardlaw17_LotsRanks.j0 k l0 t466 bt486.1 bt486.2 bt490.1 bt490.2 true))) else (none)) else (none)) else (lombardlaw17_LotsRanks.j0 k l0 t466 bt486.1 bt486.2 bt490.1 bt490.2 ((!(t472.toList == ([] : List UInt8)) || (!(t473 == 0))) || ((!(t474.toList == ([] : List UInt8)) || (!(t475 == 0) || (!(t476 == 0) || (!(t477 == 0) || (!(t478.toList == ([] : List UInt8))))))) || (!(t479 == 0) || (!(t480 == 0))))))))))) = some r := H
   have A7 := Aside0.mk A70; clear A70
   replace H := Option.bind_eq_some_iff.mp H
   obtain ⟨t483, A80, H⟩ := H
   replace H : ((lots_Of.f k t483).bind fun bt486 => ((lombardref17_Of.f k l0).bind fun bt490 => (if (t481 != (decide ((l0.length : Int) > 0))) = true then (lombardlaw17_LotsRanks.j0 k l0 t466 bt486.1 bt486.2 bt490.1 bt490.2 true) else (if t481 = true then (if 0 ≤ (wrap64 ((t466.length : Int) - 1)) then (if (wrap64 ((t466.length : Int) - 1)) ≤ (t466.length : Int) then ((lombardlaw17_same.f k (([(⟨(⟨t472, t473⟩ : S43), (⟨t474, t475, t476, t477, t478⟩ : S45), t479, t480⟩ : S47)] : List (S47))) (t466.drop ((wrap64 ((t466.length : Int) - 1)) : Int).toNat)).bind fun t501 => (if t501 = true then (lombardlaw17_LotsRanks.j0 k l0 t466 bt486.1 bt486.2 bt490.1 bt490.2 false) else (lombardlaw17_LotsRanks.j0 k l0 t466 bt486.1 bt486.2 bt490.1 bt490.2 true))) else (none)) else (none)) else (lombardlaw17_LotsRanks.j0 k l0 t466 bt486.1 bt486.2 bt490.1 bt490.2 ((!(t472.toList == ([] : List UInt8)) || (!(t473 == 0))) || ((!(t474.toList == ([] : List UInt8)) || (!(t475 == 0) || (!(t476 == 0) || (!(t477 == 0) || (!(t478.toList == ([] : List UInt8))))))) || (!(t479 == 0) || (!(t480 == 0)))))))))) = some r := H
   have A8 := Aside0.mk A80; clear A80
   replace H := Option.bind_eq_some_iff.mp H
   obtain ⟨⟨t486, t487⟩, A90, H⟩ := H
   replace H : ((lombardref17_Of.f k l0).bind fun bt490 => (if (t481 != (decide ((l0.length : Int) > 0))) = true then (lombardlaw17_LotsRanks.j0 k l0 t466 t486 t487 bt490.1 bt490.2 true) else (if t481 = true then (if 0 ≤ (wrap64 ((t466.length : Int) - 1)) then (if (wrap64 ((t466.length : Int) - 1)) ≤ (t466.length : Int) then ((lombardlaw17_same.f k (([(⟨(⟨t472, t473⟩ : S43), (⟨t474, t475, t476, t477, t478⟩ : S45), t479, t480⟩ : S47)] : List (S47))) (t466.drop ((wrap64 ((t466.length : Int) - 1)) : Int).toNat)).bind fun t501 => (if t501 = true then (lombardlaw17_LotsRanks.j0 k l0 t466 t486 t487 bt490.1 bt490.2 false) else (lombardlaw17_LotsRanks.j0 k l0 t466 t486 t487 bt490.1 bt490.2 true))) else (none)) else (none)) else (lombardlaw17_LotsRanks.j0 k l0 t466 t486 t487 bt490.1 bt490.2 ((!(t472.toList == ([] : List UInt8)) || (!(t473 == 0))) || ((!(t474.toList == ([] : List UInt8)) || (!(t475 == 0) || (!(t476 == 0) || (!(t477 == 0) || (!(t478.toList == ([] : List UInt8))))))) || (!(t479 == 0) || (!(t480 == 0))))))))) = some r := H
   have A9 := Aside0.mk A90; clear A90
   replace H := Option.bind_eq_some_iff.mp H
   obtain ⟨⟨t490, t493⟩, A100, H⟩ := H
   replace H : (if (t481 != (decide ((l0.length : Int) > 0))) = true then (lombardlaw17_LotsRanks.j0 k l0 t466 t486 t487 t490 t493 true) else (if t481 = true then (if 0 ≤ (wrap64 ((t466.length : Int) - 1)) then (if (wrap64 ((t466.length : Int) - 1)) ≤ (t466.length : Int) then ((lombardlaw17_same.f k (([(⟨(⟨t472, t473⟩ : S43), (⟨t474, t475, t476, t477, t478⟩ : S45), t479, t480⟩ : S47)] : List (S47))) (t466.drop ((wrap64 ((t466.length : Int) - 1)) : Int).toNat)).bind fun t501 => (if t501 = true then (lombardlaw17_LotsRanks.j0 k l0 t466 t486 t487 t490 t493 false) else (lombardlaw17_LotsRanks.j0 k l0 t466 t486 t487 t490 t493 true))) else (none)) else (none)) else (lombardlaw17_LotsRanks.j0 k l0 t466 t486 t487 t490 t493 ((!(t472.toList == ([] : List UInt8)) || (!(t473 == 0))) || ((!(t474.toList == ([] : List UInt8)) || (!(t475 == 0) || (!(t476 == 0) || (!(t477 == 0) || (!(t478.toList == ([] : List UInt8))))))) || (!(t479 == 0) || (!(t480 == 0)))))))) = some r := H
   have A10 := Aside0.mk A100; clear A100; have HC11 := Aside0.mk H; clear H
   go_enter Try.func6, Try.ntmps6
   go_upto_region 7 with (first | ((with_reducible refine gate_callee (f := 23) rfl ?_); refine goesL_ (some 15) rfl rfl Try.func23 (by kernel_rfl) rfl #[.slice A0 l0.length c0] rfl am ?_; (with_reducible refine (lombardref17_Rank.calls k _ _ l0 t466 _ ?side1 ?side2 A5.out).mono ?_); (case side1 => repeat (first | exact HR0.out | (with_reducible refine Kd.C_alloc ?_ _) | (with_reducible refine Kd.C_drewN ?_ _) | (with_reducible refine Kd.C_drew ?_))); (case side2 => exact HC0.out); rintro e w12 ⟨v467, rfl, ho0, hb⟩; (try clear A5); refine ⟨_, rfl, ?_⟩; have n0_ := Aside0.mk (Kd.R_lower ho0 (below_size (gB HB))); have n1_ := Aside0.mk (below_step (gB HB) hb); clear HB; have HO468 := n0_; have HB := n1_; clear n0_ n1_; (try clear hb); (try clear hb2); (try clear hk); (try clear hi); (try clear ho0)) | ((with_reducible refine gate_callee (f := 25) rfl ?_); refine goesL_ (some 18) rfl rfl Try.func25 (by kernel_rfl) rfl #[.slice A0 l0.length c0] rfl am ?_; (with_reducible refine (lombardlaw17_items.calls k _ _ l0 t469 _ ?side1 ?side2 A6.out).mono ?_); (case side1 => exact gC HR0 HB); (case side2 => exact HC0.out); rintro e w13 ⟨v470, rfl, ho0, hb⟩; (try clear A6); refine ⟨_, rfl, ?_⟩; have n0_ := Aside0.mk (Kd.R_below (gR HO468) hb); have n1_ := Aside0.mk (Kd.R_lower ho0 (below_size (gB HB))); have n2_ := Aside0.mk (below_step (gB HB) hb); clear HO468; clear HB; have HO468 := n0_; have HO471 := n1_; have HB := n2_; clear n0_ n1_ n2_; (try clear hb); (try clear hb2); (try clear hk); (try clear hi); (try clear ho0); obtain ⟨Ao14, co14, eo14⟩ := Kd.R_slice HO471.out; subst eo14) | ((with_reducible refine gate_callee (f := 24) rfl ?_); refine goesL_ (some 19) rfl rfl Try.func24 (by kernel_rfl) rfl #[.slice Ao14 t469.length co14] rfl am ?_; (with_reducible refine (lots_Worst.calls k _ _ t469 t472 t473 t474 t475 t476 t477 t478 t479 t480 t481 _ ?side1 ?side2 A7.out).mono ?_); (case side1 => repeat (first | exact (Kd.R_reads' HO471.out).2.2 | (with_reducible refine Kd.C_alloc ?_ _) | (with_reducible refine Kd.C_drewN ?_ _) | (with_reducible refine Kd.C_drew ?_))); (case side2 => exact (Kd.R_reads' HO471.out).2.1); rintro e w15 ⟨rfl, hb⟩; (try clear A7); refine ⟨_, rfl, ?_⟩; have n0_ := Aside0.mk (Kd.R_below (gR HO468) hb); have n1_ := Aside0.mk (Kd.R_below (gR HO471) hb); have n2_ := Aside0.mk (below_step (gB HB) hb); clear HO468; clear HO471; clear HB; have HO468 := n0_; have HO471 := n1_; have HB := n2_; clear n0_ n1_ n2_; (try clear hb); (try clear hb2); (try clear hk); (try clear hi)) | ((with_reducible refine gate_dst (N := 4) rfl ?_); (try (refine gate_guard (by rfl) ?_; dsimp only)); refine box_event ?hg (N := 4) ?hd (cs := #[.string (⟨#[]⟩ : ByteArray), .int .i64 0, .string (⟨#[]⟩ : ByteArray), .int .i64 0, .int .i64 0, .int .i64 0, .string (⟨#[]⟩ : ByteArray), .int .i64 0, .int .i64 0]) (t := 47) ?hr ?_; (case hd => rfl); (case hg => rfl); (case hr => first | (go_simp; done) | (go_simp; rfl) | (have hcq := hcq_.out; have hfq := hfq_.out; go_simp; done)); intro gb482 hg w16 hbox hb; have n0_ := Aside0.mk (Kd.R_below (gR HO468) hb); have n1_ := Aside0.mk (Kd.R_below (Kd.R_elderB (gR HO471) gb482 (Nat.le_of_eq hg.symm)) hb); have n2_ := Aside0.mk (below_step (gB HB) hb); have n3_ := Aside0.mk (hbox); have n4_ := Aside0.mk ((by rw [hg]; exact (below_size (gB HB)) : w.heap.size ≤ gb482)); have n5_ := Aside0.mk ((by rw [hg]; exact (below_size (gB HB)) : w.heap.size ≤ gb482)); clear HO468; clear HO471; clear HB; have HO468 := n0_; have HO471 := n1_; have HB := n2_; have BK482 := n3_; have GW482 := n4_; have GE482 := n5_; clear n0_ n1_ n2_ n3_ n4_ n5_; clear hb hbox hg; have hcz17_0 : w16.cell? ⟨gb482, 0, none⟩ = some (.string (⟨#[]⟩ : ByteArray)) := (blk_cell BK482.out 0).trans rfl; have hcz17_1 : w16.cell? ⟨gb482, 1, none⟩ = some (.int .i64 0) := (blk_cell BK482.out 1).trans rfl; have hcz17_2 : w16.cell? ⟨gb482, 2, none⟩ = some (.string (⟨#[]⟩ : ByteArray)) := (blk_cell BK482.out 2).trans rfl; have hcz17_3 : w16.cell? ⟨gb482, 3, none⟩ = some (.int .i64 0) := (blk_cell BK482.out 3).trans rfl; have hcz17_4 : w16.cell? ⟨gb482, 4, none⟩ = some (.int .i64 0) := (blk_cell BK482.out 4).trans rfl; have hcz17_5 : w16.cell? ⟨gb482, 5, none⟩ = some (.int .i64 0) := (blk_cell BK482.out 5).trans rfl; have hcz17_6 : w16.cell? ⟨gb482, 6, none⟩ = some (.string (⟨#[]⟩ : ByteArray)) := (blk_cell BK482.out 6).trans rfl; have hcz17_7 : w16.cell? ⟨gb482, 7, none⟩ = some (.int .i64 0) := (blk_cell BK482.out 7).trans rfl; have hcz17_8 : w16.cell? ⟨gb482, 8, none⟩ = some (.int .i64 0) := (blk_cell BK482.out 8).trans rfl; have hfz17_0 := blk_frozen BK482.out 0; have hfz17_1 := blk_frozen BK482.out 1; have hfz17_2 := blk_frozen BK482.out 2; have hfz17_3 := blk_frozen BK482.out 3; have hfz17_4 := blk_frozen BK482.out 4; have hfz17_5 := blk_frozen BK482.out 5; have hfz17_6 := blk_frozen BK482.out 6; have hfz17_7 := blk_frozen BK482.out 7; have hfz17_8 := blk_frozen BK482.out 8) | ((with_reducible refine gate_callee (f := 25) rfl ?_); refine goesL_ (some 24) rfl rfl Try.func25 (by kernel_rfl) rfl #[.slice A0 l0.length c0] rfl am ?_; (with_reducible refine (lombardlaw17_items.calls k _ _ l0 t483 _ ?side1 ?side2 A8.out).mono ?_); (case side1 => exact Kd.C_below HR0.out (gS HB)); (case side2 => exact HC0.out); rintro e w18 ⟨v484, rfl, ho0, hb⟩; (try clear A8); refine ⟨_, rfl, ?_⟩; have n0_ := Aside0.mk (Kd.R_below (gR ⟨(Kd.R_mono (Kd.R_far (p := ⟨gb482, 8, none⟩) (Kd.R_far (p := ⟨gb482, 7, none⟩) (Kd.R_far (p := ⟨gb482, 6, none⟩) (Kd.R_far (p := ⟨gb482, 5, none⟩) (Kd.R_far (p := ⟨gb482, 4, none⟩) (Kd.R_far (p := ⟨gb482, 3, none⟩) (Kd.R_far (p := ⟨gb482, 2, none⟩) (Kd.R_far (p := ⟨gb482, 1, none⟩) (Kd.R_far (p := ⟨gb482, 0, none⟩) (Kd.R_types HO468.out BK482.out (by decide)) (fun _ hk => hk.2) (.string t472)) (fun _ hk => hk.2) (.int .i64 t473)) (fun _ hk => hk.2) (.string t474)) (fun _ hk => hk.2) (.int .i64 t475)) (fun _ hk => hk.2) (.int .i64 t476)) (fun _ hk => hk.2) (.int .i64 t477)) (fun _ hk => hk.2) (.string t478)) (fun _ hk => hk.2) (.int .i64 t479)) (fun _ hk => hk.2) (.int .i64 t480)) (fun _ h_ => h_.1))⟩) hb); have n1_ := Aside0.mk (Kd.R_elder' (gR ⟨(Kd.R_mono (Kd.R_far (p := ⟨gb482, 8, none⟩) (Kd.R_far (p := ⟨gb482, 7, none⟩) (Kd.R_far (p := ⟨gb482, 6, none⟩) (Kd.R_far (p := ⟨gb482, 5, none⟩) (Kd.R_far (p := ⟨gb482, 4, none⟩) (Kd.R_far (p := ⟨gb482, 3, none⟩) (Kd.R_far (p := ⟨gb482, 2, none⟩) (Kd.R_far (p := ⟨gb482, 1, none⟩) (Kd.R_far (p := ⟨gb482, 0, none⟩) (Kd.R_mono HO471.out (fun k_ hk => (⟨hk, hk.2⟩ : _ ∧ k_ ≠ gb482))) (fun _ hk => hk.2) (.string t472)) (fun _ hk => hk.2) (.int .i64 t473)) (fun _ hk => hk.2) (.string t474)) (fun _ hk => hk.2) (.int .i64 t475)) (fun _ hk => hk.2) (.int .i64 t476)) (fun _ hk => hk.2) (.int .i64 t477)) (fun _ hk => hk.2) (.string t478)) (fun _ hk => hk.2) (.int .i64 t479)) (fun _ hk => hk.2) (.int .i64 t480)) (fun _ h_ => h_.1))⟩) (Kd.R_base ho0) hb); have n2_ := Aside0.mk (Kd.R_lower (Kd.R_newB (Kd.R_new' ho0 (Kd.R_lt (gR ⟨(Kd.R_mono (Kd.R_far (p := ⟨gb482, 8, none⟩) (Kd.R_far (p := ⟨gb482, 7, none⟩) (Kd.R_far (p := ⟨gb482, 6, none⟩) (Kd.R_far (p := ⟨gb482, 5, none⟩) (Kd.R_far (p := ⟨gb482, 4, none⟩) (Kd.R_far (p := ⟨gb482, 3, none⟩) (Kd.R_far (p := ⟨gb482, 2, none⟩) (Kd.R_far (p := ⟨gb482, 1, none⟩) (Kd.R_far (p := ⟨gb482, 0, none⟩) (Kd.R_mono HO471.out (fun k_ hk => (⟨hk, hk.2⟩ : _ ∧ k_ ≠ gb482))) (fun _ hk => hk.2) (.string t472)) (fun _ hk => hk.2) (.int .i64 t473)) (fun _ hk => hk.2) (.string t474)) (fun _ hk => hk.2) (.int .i64 t475)) (fun _ hk => hk.2) (.int .i64 t476)) (fun _ hk => hk.2) (.int .i64 t477)) (fun _ hk => hk.2) (.string t478)) (fun _ hk => hk.2) (.int .i64 t479)) (fun _ hk => hk.2) (.int .i64 t480)) (fun _ h_ => h_.1))⟩))) (g := gb482) (o := .cells #[.string t472, .int .i64 t473, .string t474, .int .i64 t475, .int .i64 t476, .int .i64 t477, .string t478, .int .i64 t479, .int .i64 t480] 47 (0, 0)) (by (with_reducible repeat (first | refine blk_drewN ?_ _ | refine blk_drew ?_ | refine blk_alloc ?_ _)); refine blk_put (cs := #[.string t472, .int .i64 t473, .string t474, .int .i64 t475, .int .i64 t476, .int .i64 t477, .string t478, .int .i64 t479, .int .i64 0]) ?_ 8 _ rfl; (with_reducible repeat (first | refine blk_drewN ?_ _ | refine blk_drew ?_ | refine blk_alloc ?_ _)); refine blk_put (cs := #[.string t472, .int .i64 t473, .string t474, .int .i64 t475, .int .i64 t476, .int .i64 t477, .string t478, .int .i64 0, .int .i64 0]) ?_ 7 _ rfl; (with_reducible repeat (first | refine blk_drewN ?_ _ | refine blk_drew ?_ | refine blk_alloc ?_ _)); refine blk_put (cs := #[.string t472, .int .i64 t473, .string t474, .int .i64 t475, .int .i64 t476, .int .i64 t477, .string (⟨#[]⟩ : ByteArray), .int .i64 0, .int .i64 0]) ?_ 6 _ rfl; (with_reducible repeat (first | refine blk_drewN ?_ _ | refine blk_drew ?_ | refine blk_alloc ?_ _)); refine blk_put (cs := #[.string t472, .int .i64 t473, .string t474, .int .i64 t475, .int .i64 t476, .int .i64 0, .string (⟨#[]⟩ : ByteArray), .int .i64 0, .int .i64 0]) ?_ 5 _ rfl; (with_reducible repeat (first | refine blk_drewN ?_ _ | refine blk_drew ?_ | refine blk_alloc ?_ _)); refine blk_put (cs := #[.string t472, .int .i64 t473, .string t474, .int .i64 t475, .int .i64 0, .int .i64 0, .string (⟨#[]⟩ : ByteArray), .int .i64 0, .int .i64 0]) ?_ 4 _ rfl; (with_reducible repeat (first | refine blk_drewN ?_ _ | refine blk_drew ?_ | refine blk_alloc ?_ _)); refine blk_put (cs := #[.string t472, .int .i64 t473, .string t474, .int .i64 0, .int .i64 0, .int .i64 0, .string (⟨#[]⟩ : ByteArray), .int .i64 0, .int .i64 0]) ?_ 3 _ rfl; (with_reducible repeat (first | refine blk_drewN ?_ _ | refine blk_drew ?_ | refine blk_alloc ?_ _)); refine blk_put (cs := #[.string t472, .int .i64 t473, .string (⟨#[]⟩ : ByteArray), .int .i64 0, .int .i64 0, .int .i64 0, .string (⟨#[]⟩ : ByteArray), .int .i64 0, .int .i64 0]) ?_ 2 _ rfl; (with_reducible repeat (first | refine blk_drewN ?_ _ | refine blk_drew ?_ | refine blk_alloc ?_ _)); refine blk_put (cs := #[.string t472, .int .i64 0, .string (⟨#[]⟩ : ByteArray), .int .i64 0, .int .i64 0, .int .i64 0, .string (⟨#[]⟩ : ByteArray), .int .i64 0, .int .i64 0]) ?_ 1 _ rfl; (with_reducible repeat (first | refine blk_drewN ?_ _ | refine blk_drew ?_ | refine blk_alloc ?_ _)); refine blk_put (cs := #[.string (⟨#[]⟩ : ByteArray), .int .i64 0, .string (⟨#[]⟩ : ByteArray), .int .i64 0, .int .i64 0, .int .i64 0, .string (⟨#[]⟩ : ByteArray), .int .i64 0, .int .i64 0]) ?_ 0 _ rfl; (with_reducible repeat (first | refine blk_drewN ?_ _ | refine blk_drew ?_ | refine blk_alloc ?_ _)); exact BK482.out)) (below_size (gS HB))); have n3_ := Aside0.mk (blk_below (g := gb482) (o := .cells #[.string t472, .int .i64 t473, .string t474, .int .i64 t475, .int .i64 t476, .int .i64 t477, .string t478, .int .i64 t479, .int .i64 t480] 47 (0, 0)) (by (with_reducible repeat (first | refine blk_drewN ?_ _ | refine blk_drew ?_ | refine blk_alloc ?_ _)); refine blk_put (cs := #[.string t472, .int .i64 t473, .string t474, .int .i64 t475, .int .i64 t476, .int .i64 t477, .string t478, .int .i64 t479, .int .i64 0]) ?_ 8 _ rfl; (with_reducible repeat (first | refine blk_drewN ?_ _ | refine blk_drew ?_ | refine blk_alloc ?_ _)); refine blk_put (cs := #[.string t472, .int .i64 t473, .string t474, .int .i64 t475, .int .i64 t476, .int .i64 t477, .string t478, .int .i64 0, .int .i64 0]) ?_ 7 _ rfl; (with_reducible repeat (first | refine blk_drewN ?_ _ | refine blk_drew ?_ | refine blk_alloc ?_ _)); refine blk_put (cs := #[.string t472, .int .i64 t473, .string t474, .int .i64 t475, .int .i64 t476, .int .i64 t477, .string (⟨#[]⟩ : ByteArray), .int .i64 0, .int .i64 0]) ?_ 6 _ rfl; (with_reducible repeat (first | refine blk_drewN ?_ _ | refine blk_drew ?_ | refine blk_alloc ?_ _)); refine blk_put (cs := #[.string t472, .int .i64 t473, .string t474, .int .i64 t475, .int .i64 t476, .int .i64 0, .string (⟨#[]⟩ : ByteArray), .int .i64 0, .int .i64 0]) ?_ 5 _ rfl; (with_reducible repeat (first | refine blk_drewN ?_ _ | refine blk_drew ?_ | refine blk_alloc ?_ _)); refine blk_put (cs := #[.string t472, .int .i64 t473, .string t474, .int .i64 t475, .int .i64 0, .int .i64 0, .string (⟨#[]⟩ : ByteArray), .int .i64 0, .int .i64 0]) ?_ 4 _ rfl; (with_reducible repeat (first | refine blk_drewN ?_ _ | refine blk_drew ?_ | refine blk_alloc ?_ _)); refine blk_put (cs := #[.string t472, .int .i64 t473, .string t474, .int .i64 0, .int .i64 0, .int .i64 0, .string (⟨#[]⟩ : ByteArray), .int .i64 0, .int .i64 0]) ?_ 3 _ rfl; (with_reducible repeat (first | refine blk_drewN ?_ _ | refine blk_drew ?_ | refine blk_alloc ?_ _)); refine blk_put (cs := #[.string t472, .int .i64 t473, .string (⟨#[]⟩ : ByteArray), .int .i64 0, .int .i64 0, .int .i64 0, .string (⟨#[]⟩ : ByteArray), .int .i64 0, .int .i64 0]) ?_ 2 _ rfl; (with_reducible repeat (first | refine blk_drewN ?_ _ | refine blk_drew ?_ | refine blk_alloc ?_ _)); refine blk_put (cs := #[.string t472, .int .i64 0, .string (⟨#[]⟩ : ByteArray), .int .i64 0, .int .i64 0, .int .i64 0, .string (⟨#[]⟩ : ByteArray), .int .i64 0, .int .i64 0]) ?_ 1 _ rfl; (with_reducible repeat (first | refine blk_drewN ?_ _ | refine blk_drew ?_ | refine blk_alloc ?_ _)); refine blk_put (cs := #[.string (⟨#[]⟩ : ByteArray), .int .i64 0, .string (⟨#[]⟩ : ByteArray), .int .i64 0, .int .i64 0, .int .i64 0, .string (⟨#[]⟩ : ByteArray), .int .i64 0, .int .i64 0]) ?_ 0 _ rfl; (with_reducible repeat (first | refine blk_drewN ?_ _ | refine blk_drew ?_ | refine blk_alloc ?_ _)); exact BK482.out) hb); have n4_ := Aside0.mk (below_step (gS HB) hb); clear HO468; clear HO471; clear BK482; clear HB; have HO468 := n0_; have HO471 := n1_; have HO485 := n2_; have BK482 := n3_; have HB := n4_; clear n0_ n1_ n2_ n3_ n4_; (try clear hb); (try clear hb2); (try clear hk); (try clear hi); (try clear ho0); obtain ⟨Ao19, co19, eo19⟩ := Kd.R_slice HO485.out; subst eo19) | ((with_reducible refine gate_callee (f := 26) rfl ?_); refine goesL_ (some 25) rfl rfl Try.func26 (by kernel_rfl) rfl #[.slice Ao19 t483.length co19] rfl am ?_; (with_reducible refine (lots_Of.calls k _ _ t483 t486 t487 _ ?side1 ?side2 A9.out).mono ?_); (case side1 => repeat (first | exact (Kd.R_reads' HO485.out).2.2 | (with_reducible refine Kd.C_alloc ?_ _) | (with_reducible refine Kd.C_drewN ?_ _) | (with_reducible refine Kd.C_drew ?_))); (case side2 => exact (Kd.R_reads' HO485.out).2.1); rintro e w20 ⟨v488, rfl, ho0, hb⟩; (try clear A9); refine ⟨_, rfl, ?_⟩; have n0_ := Aside0.mk (Kd.R_below (gR HO468) hb); have n1_ := Aside0.mk (Kd.R_below (gR HO471) hb); have n2_ := Aside0.mk (Kd.R_below (gR HO485) hb); have n3_ := Aside0.mk (Kd.R_lower ho0 (below_size (gS HB))); have n4_ := Aside0.mk (blk_below (g := gb482) (o := .cells #[.string t472, .int .i64 t473, .string t474, .int .i64 t475, .int .i64 t476, .int .i64 t477, .string t478, .int .i64 t479, .int .i64 t480] 47 (0, 0)) (gK BK482) hb); have n5_ := Aside0.mk (below_step (gS HB) hb); clear HO468; clear HO471; clear HO485; clear BK482; clear HB; have HO468 := n0_; have HO471 := n1_; have HO485 := n2_; have HO489 := n3_; have BK482 := n4_; have HB := n5_; clear n0_ n1_ n2_ n3_ n4_ n5_; (try clear hb); (try clear hb2); (try clear hk); (try clear hi); (try clear ho0)) | ((with_reducible refine gate_callee (f := 27) rfl ?_); refine goesL_ (some 30) rfl rfl Try.func27 (by kernel_rfl) rfl #[.slice A0 l0.length c0] rfl am ?_; (with_reducible refine (lombardref17_Of.calls k _ _ l0 t490 t493 _ ?side1 ?side2 A10.out).mono ?_); (case side1 => exact gC HR0 HB); (case side2 => exact HC0.out); rintro e w21 ⟨v491, rfl, ho0, hb⟩; (try clear A10); refine ⟨_, rfl, ?_⟩; have n0_ := Aside0.mk (Kd.R_below (gR HO468) hb); have n1_ := Aside0.mk (Kd.R_below (gR HO471) hb); have n2_ := Aside0.mk (Kd.R_below (gR HO485) hb); have n3_ := Aside0.mk (Kd.R_below (gR HO489) hb); have n4_ := Aside0.mk (Kd.V_lower (Kd.V_mono (ok' := fun k_ => some k_ ≠ (v467 : Value).ownBlock ∧ some k_ ≠ (.slice Ao14 t469.length co14 : Value).ownBlock ∧ some k_ ≠ (.slice Ao19 t483.length co19 : Value).ownBlock ∧ some k_ ≠ (v488 : Value).ownBlock ∧ k_ ≠ gb482) ho0 (fun k_ hk_ => ⟨(Kd.fresh' (Kd.R_lt (gR HO468)) k_ hk_), (Kd.fresh' (Kd.R_lt (gR HO471)) k_ hk_), (Kd.fresh' (Kd.R_lt (gR HO485)) k_ hk_), (Kd.fresh' (Kd.R_lt (gR HO489)) k_ hk_), (Kd.freshB (g := gb482) (o := .cells #[.string t472, .int .i64 t473, .string t474, .int .i64 t475, .int .i64 t476, .int .i64 t477, .string t478, .int .i64 t479, .int .i64 t480] 47 (0, 0)) (gK BK482) k_ hk_)⟩)) (below_size (gS HB))); have n5_ := Aside0.mk (blk_below (g := gb482) (o := .cells #[.string t472, .int .i64 t473, .string t474, .int .i64 t475, .int .i64 t476, .int .i64 t477, .string t478, .int .i64 t479, .int .i64 t480] 47 (0, 0)) (gK BK482) hb); have n6_ := Aside0.mk (below_step (gS HB) hb); clear HO468; clear HO471; clear HO485; clear HO489; clear BK482; clear HB; have HO468 := n0_; have HO471 := n1_; have HO485 := n2_; have HO489 := n3_; have HO492 := n4_; have BK482 := n5_; have HB := n6_; clear n0_ n1_ n2_ n3_ n4_ n5_ n6_; (try clear hb); (try clear hb2); (try clear hk); (try clear hi); (try clear ho0)))
   (try simp only [Act.put, sA, sB, sC])
   go_cut [60] (fun v60 wc => ∃ (kq : Nat) (x60_10 : Bool), v60 = .bool x60_10 ∧ Aside0 (lombardlaw17_LotsRanks.j0 kq l0 t466 t486 t487 t490 t493 x60_10 = some r) ∧ Aside0 (kq ≤ k) ∧ Aside0 (Kd.R k65 65 wc w.heap.size (fun _ => True) v467 t466) ∧ Aside0 (Kd.R k43 43 wc w.heap.size (fun _ => True) v488 t486) ∧ Aside0 (Kd.V k43 43 wc w.heap.size (fun k_ => some k_ ≠ (v467 : Value).ownBlock ∧ some k_ ≠ (v488 : Value).ownBlock ∧ k_ ≠ gb482) v491 t490) ∧ Aside0 (wc.heap[gb482]? = some (.cells #[.string t472, .int .i64 t473, .string t474, .int .i64 t475, .int .i64 t476, .int .i64 t477, .string t478, .int .i64 t479, .int .i64 t480] 47 (0, 0))) ∧ Aside0 (Below w.heap.size w wc))
   case first =>
    have H := HC11.out
    clear HC11
    by_cases c22 : (t481 != (decide ((l0.length : Int) > 0))) = true
    · rw [if_pos c22] at H
      have c22b0 : (t481 != (decide ((l0.length : Int) > 0))) = true := c22
      have c22bn : (t481 == decide (0 < l0.length)) = false := bne_len c22b0
      have c22bp := bne_lenT c22b0
      (try (have c22b1 : decide (t481 = (decide ((l0.length : Int) > 0))) = false := by simpa using c22))
      (try (have c22b2 : (t481 == (decide ((l0.length : Int) > 0))) = false := by simpa using c22))
      (try (have c22b3 : ¬ (t481 = (decide ((l0.length : Int) > 0))) := by simpa using c22))
      clear c22
      (first | rw [c22b0] | (simp only [i64_w, i32_w]; rw [c22b0]) | skip)
      have H' := Aside0.mk H
      clear H
      try go_wp2
      have n0_ := Aside0.mk (Kd.R_drew HO468.out)
      have n1_ := Aside0.mk (Kd.R_drew HO471.out)
      have n2_ := Aside0.mk (Kd.R_drew HO485.out)
      have n3_ := Aside0.mk (Kd.R_drew HO489.out)
      have n4_ := Aside0.mk (Kd.V_drew HO492.out)
      have n5_ := Aside0.mk (blk_drew BK482.out)
      have n6_ := Aside0.mk (below_drew1 HB.out)
      clear HO468; clear HO471; clear HO485; clear HO489; clear HO492; clear BK482; clear HB
      have HO468 := n0_
      have HO471 := n1_
      have HO485 := n2_
      have HO489 := n3_
      have HO492 := n4_
      have BK482 := n5_
      have HB := n6_
      clear n0_ n1_ n2_ n3_ n4_ n5_ n6_
      refine start_ (n := 28) (S := fun w' => True) (ds := []) (pf 28 0) (by kernel_rfl) rfl rfl trivial (fun hHeld => ?_); refine with_tabW lombardlaw17_LotsRanks.tab7 lombardlaw17_LotsRanks.bits7 (fun HT_ HW_ => ?_)
      generalize w21.drew = w23 at HO468 HO471 HO485 HO489 HO492 BK482 HB hHeld ⊢
      refine pA (i := 0) (N := some 33) HT_ (pf 28 1) ?_
      refine pA (i := 1) (N := some 34) HT_ (pf 28 2) ?_
      refine pA (i := 2) (N := some 35) HT_ (pf 28 3) ?_
      refine pA (i := 3) (N := some 36) HT_ (pf 28 4) ?_
      refine pA (i := 4) (N := some 37) HT_ (pf 28 5) ?_
      refine pA (i := 5) (N := some 38) HT_ (pf 28 6) ?_
      refine pure_ (i := 6) (N := some 39) (v := undef) (a' := ?_) (pf 28 7) rfl rfl (any_of HT_.out (by kernel_rfl)) (fun _ _ _ h => h) (Or.inr ⟨by rfl, rfl⟩) ?_ ?_
      rotate_left
      · simp only [Act.put, sA, sB, sC, i64_w, i32_w]
        rfl
      refine pure_ (i := 7) (N := some 40) (v := undef) (a' := ?_) (pf 28 8) rfl rfl (any_of HT_.out (by kernel_rfl)) (fun _ _ _ h => h) (Or.inr ⟨by rfl, rfl⟩) ?_ ?_
      rotate_left
      · simp only [Act.put, sA, sB, sC, i64_w, i32_w]
        rfl
      refine pure_ (i := 8) (N := some 41) (v := undef) (a' := ?_) (pf 28 9) rfl rfl (any_of HT_.out (by kernel_rfl)) (fun _ _ _ h => h) (Or.inr ⟨by rfl, rfl⟩) ?_ ?_
      rotate_left
      · simp only [Act.put, sA, sB, sC, i64_w, i32_w]
        rfl
      refine pure_ (i := 9) (N := some 42) (v := undef) (a' := ?_) (pf 28 10) rfl rfl (any_of HT_.out (by kernel_rfl)) (fun _ _ _ h => h) (Or.inr ⟨by rfl, rfl⟩) ?_ ?_
      rotate_left
      · simp only [Act.put, sA, sB, sC, i64_w, i32_w]
        rfl
      refine pure_ (i := 10) (N := some 43) (v := undef) (a' := ?_) (pf 28 11) rfl rfl (any_of HT_.out (by kernel_rfl)) (fun _ _ _ h => h) (Or.inr ⟨by rfl, rfl⟩) ?_ ?_
      rotate_left
      · simp only [Act.put, sA, sB, sC, i64_w, i32_w]
        rfl
      refine pure_ (i := 11) (N := some 44) (v := undef) (a' := ?_) (pf 28 12) rfl rfl (any_of HT_.out (by kernel_rfl)) (fun _ _ _ h => h) (Or.inr ⟨by rfl, rfl⟩) ?_ ?_
      rotate_left
      · simp only [Act.put, sA, sB, sC, i64_w, i32_w]
        rfl
      refine pure_ (i := 12) (N := some 45) (v := undef) (a' := ?_) (pf 28 13) rfl rfl (any_of HT_.out (by kernel_rfl)) (fun _ _ _ h => h) (Or.inr ⟨by rfl, rfl⟩) ?_ ?_
      rotate_left
      · simp only [Act.put, sA, sB, sC, i64_w, i32_w]
        rfl
      refine pure_ (i := 13) (N := some 46) (v := undef) (a' := ?_) (pf 28 14) rfl rfl (any_of HT_.out (by kernel_rfl)) (fun _ _ _ h => h) (Or.inr ⟨by rfl, rfl⟩) ?_ ?_
      rotate_left
      · simp only [Act.put, sA, sB, sC, i64_w, i32_w]
        rfl
      refine pure_ (i := 14) (N := some 47) (v := undef) (a' := ?_) (pf 28 15) rfl rfl (any_of HT_.out (by kernel_rfl)) (fun _ _ _ h => h) (Or.inr ⟨by rfl, rfl⟩) ?_ ?_
      rotate_left
      · simp only [Act.put, sA, sB, sC, i64_w, i32_w]
        rfl
      refine pure_ (i := 15) (N := some 48) (v := undef) (a' := ?_) (pf 28 16) rfl rfl (any_of HT_.out (by kernel_rfl)) (fun _ _ _ h => h) (Or.inr ⟨by rfl, rfl⟩) ?_ ?_
      rotate_left
      · simp only [Act.put, sA, sB, sC, i64_w, i32_w]
        rfl
      refine pure_ (i := 16) (N := some 49) (v := undef) (a' := ?_) (pf 28 17) rfl rfl (any_of HT_.out (by kernel_rfl)) (fun _ _ _ h => h) (Or.inr ⟨by rfl, rfl⟩) ?_ ?_
      rotate_left
      · simp only [Act.put, sA, sB, sC, i64_w, i32_w]
        rfl
      refine pure_ (i := 17) (N := some 50) (v := undef) (a' := ?_) (pf 28 18) rfl rfl (any_of HT_.out (by kernel_rfl)) (fun _ _ _ h => h) (Or.inr ⟨by rfl, rfl⟩) ?_ ?_
      rotate_left
      · simp only [Act.put, sA, sB, sC, i64_w, i32_w]
        rfl
      refine pA (i := 18) (N := some 51) HT_ (pf 28 19) ?_
      refine pA (i := 19) (N := some 52) HT_ (pf 28 20) ?_
      refine pure_ (i := 20) (N := some 53) (v := undef) (a' := ?_) (pf 28 21) rfl rfl (any_of HT_.out (by kernel_rfl)) (fun _ _ _ h => h) (Or.inr ⟨by rfl, rfl⟩) ?_ ?_
      rotate_left
      · simp only [Act.put, sA, sB, sC, i64_w, i32_w]
        rfl
      refine pure_ (i := 21) (N := some 54) (v := undef) (a' := ?_) (pf 28 22) rfl rfl (any_of HT_.out (by kernel_rfl)) (fun _ _ _ h => h) (Or.inr ⟨by rfl, rfl⟩) ?_ ?_
      rotate_left
      · simp only [Act.put, sA, sB, sC, i64_w, i32_w]
        rfl
      refine pure_ (i := 22) (N := some 55) (v := undef) (a' := ?_) (pf 28 23) rfl rfl (any_of HT_.out (by kernel_rfl)) (fun _ _ _ h => h) (Or.inr ⟨by rfl, rfl⟩) ?_ ?_
      rotate_left
      · simp only [Act.put, sA, sB, sC, i64_w, i32_w]
        rfl
      refine pure_ (i := 23) (N := some 56) (v := undef) (a' := ?_) (pf 28 24) rfl rfl (any_of HT_.out (by kernel_rfl)) (fun _ _ _ h => h) (Or.inr ⟨by rfl, rfl⟩) ?_ ?_
      rotate_left
      · simp only [Act.put, sA, sB, sC, i64_w, i32_w]
        rfl
      refine pure_ (i := 24) (N := some 57) (v := undef) (a' := ?_) (pf 28 25) rfl rfl (any_of HT_.out (by kernel_rfl)) (fun _ _ _ h => h) (Or.inr ⟨by rfl, rfl⟩) ?_ ?_
      rotate_left
      · simp only [Act.put, sA, sB, sC, i64_w, i32_w]
        rfl
      refine pure_ (i := 25) (N := some 58) (v := undef) (a' := ?_) (pf 28 26) rfl rfl (any_of HT_.out (by kernel_rfl)) (fun _ _ _ h => h) (Or.inr ⟨by rfl, rfl⟩) ?_ ?_
      rotate_left
      · simp only [Act.put, sA, sB, sC, i64_w, i32_w]
        rfl
      refine pure_ (i := 26) (N := some 59) (v := undef) (a' := ?_) (pf 28 27) rfl rfl (any_of HT_.out (by kernel_rfl)) (fun _ _ _ h => h) (Or.inr ⟨by rfl, rfl⟩) ?_ ?_
      rotate_left
      · simp only [Act.put, sA, sB, sC, i64_w, i32_w]
        rfl
      refine pA (i := 27) (N := some 60) HT_ (pf 28 28) ?_
      refine done_ (done_of HT_.out (by kernel_rfl)) ?_
      try go_wp2
      go_meet
      case rel => exact ⟨_, (true), ac, H', ⟨by first | omega | exact Nat.le_refl _⟩, ⟨gR HO468⟩, ⟨gR HO489⟩, ⟨by (with_reducible repeat (first | apply Kd.V_alloc | apply Kd.V_drewN | apply Kd.V_drew)); exact Kd.V_mono HO492.out (fun _ hk => ⟨hk.1, ⟨hk.2.2.2.1, hk.2.2.2.2⟩⟩)⟩, ⟨gK BK482⟩, ⟨gS HB⟩⟩
    · rw [if_neg c22] at H
      have c22b0 : (t481 != (decide ((l0.length : Int) > 0))) = false := by simpa using c22
      have c22bn : (t481 == decide (0 < l0.length)) = true := bne_len c22b0
      have c22bp := bne_lenF c22b0
      (try (have c22b1 : decide (t481 = (decide ((l0.length : Int) > 0))) = true := by simpa using c22))
      (try (have c22b2 : (t481 == (decide ((l0.length : Int) > 0))) = true := by simpa using c22))
      clear c22
      (first | rw [c22b0] | (simp only [i64_w, i32_w]; rw [c22b0]) | skip)
      by_cases c24 : t481 = true
      · subst c24
        have c22bq := bne_t c22b0
        have H1 : (if 0 ≤ (wrap64 ((t466.length : Int) - 1)) then (if (wrap64 ((t466.length : Int) - 1)) ≤ (t466.length : Int) then ((lombardlaw17_same.f k (([(⟨(⟨t472, t473⟩ : S43), (⟨t474, t475, t476, t477, t478⟩ : S45), t479, t480⟩ : S47)] : List (S47))) (t466.drop ((wrap64 ((t466.length : Int) - 1)) : Int).toNat)).bind fun t501 => (if t501 = true then (lombardlaw17_LotsRanks.j0 k l0 t466 t486 t487 t490 t493 false) else (lombardlaw17_LotsRanks.j0 k l0 t466 t486 t487 t490 t493 true))) else (none)) else (none)) = some r := by rw [if_pos rfl] at H; exact H
        clear H
        have H := H1
        clear H1
        obtain ⟨y494, hy494⟩ : ∃ y_ : List (S47), y_ = (([(⟨(⟨t472, t473⟩ : S43), (⟨t474, t475, t476, t477, t478⟩ : S45), t479, t480⟩ : S47)] : List (S47))) := ⟨_, rfl⟩
        replace H : (if 0 ≤ (wrap64 ((t466.length : Int) - 1)) then (if (wrap64 ((t466.length : Int) - 1)) ≤ (t466.length : Int) then ((lombardlaw17_same.f k y494 (t466.drop ((wrap64 ((t466.length : Int) - 1)) : Int).toNat)).bind fun t501 => (if t501 = true then (lombardlaw17_LotsRanks.j0 k l0 t466 t486 t487 t490 t493 false) else (lombardlaw17_LotsRanks.j0 k l0 t466 t486 t487 t490 t493 true))) else (none)) else (none)) = some r := by first | (rw [hy494]; with_reducible exact H) | (have H2_ := (Option.bind_some _ _).symm.trans H; rw [hy494]; with_reducible exact H2_) | (have H2_ := (Option.bind_some _ _).symm.trans H; with_reducible exact H2_) | with_reducible exact H | (rw [hy494]; exact H) | exact H
        have Ny494 := Aside0.mk hy494; clear hy494
        obtain ⟨ji25, hji25⟩ : ∃ j_ : Int, (wrap64 ((t466.length : Int) - 1)) = j_ := ⟨_, rfl⟩
        replace H : (if 0 ≤ (ji25) then (if (ji25) ≤ (t466.length : Int) then ((lombardlaw17_same.f k y494 (t466.drop ((ji25) : Int).toNat)).bind fun t501 => (if t501 = true then (lombardlaw17_LotsRanks.j0 k l0 t466 t486 t487 t490 t493 false) else (lombardlaw17_LotsRanks.j0 k l0 t466 t486 t487 t490 t493 true))) else (none)) else (none)) = some r := by first | (rw [hji25] at H; exact H) | (simp only [hji25] at H ⊢; exact H)
        have hji25w : (IntKind.i64.wrap ((t466.length : Int) - 1)) = ji25 := (i64_w _).trans hji25
        by_cases c26 : 0 ≤ (ji25)
        · rw [if_pos c26] at H
          have c26b0 := eq_true c26
          have c26b1 : decide (0 ≤ (ji25)) = true := decide_eq_true c26
          clear c26
          by_cases c27 : (ji25) ≤ (t466.length : Int)
          · rw [if_pos c27] at H
            have c27b0 := eq_true c27
            have c27b1 : decide ((ji25) ≤ (t466.length : Int)) = true := decide_eq_true c27
            clear c27
            obtain ⟨y497, hy497⟩ : ∃ y_ : List (S65), y_ = (t466.drop ((ji25) : Int).toNat) := ⟨_, rfl⟩
            replace H : ((lombardlaw17_same.f k y494 y497).bind fun t501 => (if t501 = true then (lombardlaw17_LotsRanks.j0 k l0 t466 t486 t487 t490 t493 false) else (lombardlaw17_LotsRanks.j0 k l0 t466 t486 t487 t490 t493 true))) = some r := by first | (rw [hy497]; with_reducible exact H) | (have H2_ := (Option.bind_some _ _).symm.trans H; rw [hy497]; with_reducible exact H2_) | (have H2_ := (Option.bind_some _ _).symm.trans H; with_reducible exact H2_) | with_reducible exact H | (rw [hy497]; exact H) | exact H
            have Ny497 := Aside0.mk hy497; clear hy497
            replace H := Option.bind_eq_some_iff.mp H
            obtain ⟨t501, A280, H⟩ := H
            replace H : (if t501 = true then (lombardlaw17_LotsRanks.j0 k l0 t466 t486 t487 t490 t493 false) else (lombardlaw17_LotsRanks.j0 k l0 t466 t486 t487 t490 t493 true)) = some r := H
            have A28 := Aside0.mk A280; clear A280
            by_cases c29 : t501 = true
            · subst c29
              have H1 : (lombardlaw17_LotsRanks.j0 k l0 t466 t486 t487 t490 t493 false) = some r := by rw [if_pos rfl] at H; exact H
              clear H
              have H := H1
              clear H1
              have H' := Aside0.mk H
              clear H
              try go_wp2
              have n0_ := Aside0.mk (Kd.R_drew HO468.out)
              have n1_ := Aside0.mk (Kd.R_drew HO471.out)
              have n2_ := Aside0.mk (Kd.R_drew HO485.out)
              have n3_ := Aside0.mk (Kd.R_drew HO489.out)
              have n4_ := Aside0.mk (Kd.V_drew HO492.out)
              have n5_ := Aside0.mk (blk_drew BK482.out)
              have n6_ := Aside0.mk (below_drew1 HB.out)
              clear HO468; clear HO471; clear HO485; clear HO489; clear HO492; clear BK482; clear HB
              have HO468 := n0_
              have HO471 := n1_
              have HO485 := n2_
              have HO489 := n3_
              have HO492 := n4_
              have BK482 := n5_
              have HB := n6_
              clear n0_ n1_ n2_ n3_ n4_ n5_ n6_
              obtain ⟨Ao31, co31, eo31⟩ := Kd.R_slice HO468.out
              (first | subst eo31 | (injection eo31 with f1_ f2_ f3_; have f4_ := f1_.symm; have f5_ := f3_.symm; clear f1_ f2_ f3_; subst f4_; subst f5_))
              have q32 : ((ji25) : Int) ≤ ((t466.length : Int) : Int) := od
              obtain ⟨i032, hi032, _, hsz32, _⟩ := info_parts info65
              have hroom32 : t466.length ≤ co31 := (Kd.R_reads' HO468.out).2.1
              have hC32 : Kd.C k65 _ Ao31 t466.length t466 := (Kd.R_reads' HO468.out).2.2
              have q032 : (0 : Int) ≤ ((ji25) : Int) := od
              have hcut32 := cut_from (P := Try.prog) 40 65 .i64 Try.underlying40 hi032 9 hsz32 Ao31 t466.length co31 (ji25) q032 q32
              have hr32 := Kd.C_drop (m := ((ji25) : Int).toNat) (c := co31) hC32 (by omega) hroom32
              obtain ⟨A32, hA32⟩ : ∃ A1, A1 = (if co31 = ((ji25) : Int).toNat then Ao31 else (Ao31 : Option Addr).map (·.add (((ji25) : Int).toNat * 9))) := ⟨_, rfl⟩
              obtain ⟨c32, hc32⟩ : ∃ c1, c1 = co31 - ((ji25) : Int).toNat := ⟨_, rfl⟩
              have hy32 : y497.length = t466.length - ((ji25) : Int).toNat := (by rw [Ny497.out, List.length_drop] <;> omega)
              rw [show (t466).drop ((ji25) : Int).toNat = y497 from Ny497.out.symm] at hr32
              replace hr32 : Kd.C k65 _ A32 y497.length y497 := (by rw [hA32]; exact hr32)
              rw [← hy32, ← hA32, ← hc32] at hcut32
              have HR500 := Aside0.mk hr32
              have HC500 := Aside0.mk (show y497.length ≤ c32 from by rw [hy32, hc32]; exact Nat.sub_le_sub_right hroom32 _)
              clear hr32 hC32 hroom32 hi032 hsz32 hc32; have KY32 := Aside0.mk hy32; have KA32 := Aside0.mk hA32; clear hy32 hA32
              have KL32 := Aside0.mk (show ((ji25) : Int).toNat ≤ t466.length from by omega)
              replace q32 := eq_true q32
              refine start_ (n := 28) (S := fun w' => w'.cell? ⟨gb482, 0, none⟩ = some (.string t472) ∧ w'.cell? ⟨gb482, 1, none⟩ = some (.int .i64 t473) ∧ w'.cell? ⟨gb482, 2, none⟩ = some (.string t474) ∧ w'.cell? ⟨gb482, 3, none⟩ = some (.int .i64 t475) ∧ w'.cell? ⟨gb482, 4, none⟩ = some (.int .i64 t476) ∧ w'.cell? ⟨gb482, 5, none⟩ = some (.int .i64 t477) ∧ w'.cell? ⟨gb482, 6, none⟩ = some (.string t478) ∧ w'.cell? ⟨gb482, 7, none⟩ = some (.int .i64 t479) ∧ w'.cell? ⟨gb482, 8, none⟩ = some (.int .i64 t480)) (ds := []) (pf 28 0) (by kernel_rfl) rfl rfl ⟨(blk_cell BK482.out 0).trans rfl, (blk_cell BK482.out 1).trans rfl, (blk_cell BK482.out 2).trans rfl, (blk_cell BK482.out 3).trans rfl, (blk_cell BK482.out 4).trans rfl, (blk_cell BK482.out 5).trans rfl, (blk_cell BK482.out 6).trans rfl, (blk_cell BK482.out 7).trans rfl, (blk_cell BK482.out 8).trans rfl⟩ (fun hHeld => ?_); refine with_tabW lombardlaw17_LotsRanks.tab7 lombardlaw17_LotsRanks.bits7 (fun HT_ HW_ => ?_)
              generalize w21.drew = w30 at HO468 HO471 HO485 HO489 HO492 BK482 HB HR500 hHeld ⊢
              refine pA (i := 0) (N := some 33) HT_ (pf 28 1) ?_
              refine pA (i := 1) (N := some 34) HT_ (pf 28 2) ?_
              refine pA (i := 2) (N := some 35) HT_ (pf 28 3) ?_
              refine pA (i := 3) (N := some 36) HT_ (pf 28 4) ?_
              refine pA (i := 4) (N := some 37) HT_ (pf 28 5) ?_
              refine pA (i := 5) (N := some 38) HT_ (pf 28 6) ?_
              refine pA (i := 6) (N := some 39) HT_ (pf 28 7) ?_
              refine pA (i := 7) (N := some 40) HT_ (pf 28 8) ?_
              refine pA (i := 10) (N := some 43) HT_ qx19_0 ?_
              refine pA (i := 11) (N := some 44) HT_ qx19_1 ?_
              refine pA (i := 12) (N := some 45) HT_ qx19_2 ?_
              refine pA (i := 13) (N := some 46) HT_ qx19_3 ?_
              refine pA (i := 14) (N := some 47) HT_ qx19_4 ?_
              refine take_ (i := 8) (N := some 41) (v := ?_) (a' := ?_) qx19_5 rfl rfl (take_ofW HT_.out HW_.out (by kernel_rfl)) (fun _ _ _ h => h) (Or.inl ⟨by rfl, ?_⟩) hHeld ?_ ?_
              rotate_left
              · rintro w' ⟨s0, s1, s2, s3, s4, s5, s6, s7, s8⟩
                go_simp
                with_reducible rfl
              rotate_left
              · simp only [Act.put, sA, sB, sC, i64_w, i32_w]
                rfl
              refine one_ (i := 9) (N := some 42) (pf 28 15) rfl rfl (one_of HT_.out (by kernel_rfl)) (by decide) (fun K hK => ?_)
              refine Kd.R_lit_step k47 _ 47 ?hg (N := 42) ?hd (xs := ([(⟨(⟨t472, t473⟩ : S43), (⟨t474, t475, t476, t477, t478⟩ : S45), t479, t480⟩ : S47)] : List (S47))) (inner := [.string t472, .int .i64 t473, .string t474, .int .i64 t475, .int .i64 t476, .int .i64 t477, .string t478, .int .i64 t479, .int .i64 t480]) (ok := fun _ => True) (okp := fun _ => True) ?hr ?hp (fun _ hk => hk) trivial (Below.refl _ _) (Nat.le_refl _) (by simp) ?_; (case hd => rfl); (case hg => rfl); (case hr => first | (go_simp; done) | (go_simp; rfl) | (have hcq := hcq_.out; have hfq := hfq_.out; go_simp; done)); (case hp => exact (Reps.c9 (show Kd.M k47 _ _ _ (⟨(⟨t472, t473⟩ : S43), (⟨t474, t475, t476, t477, t478⟩ : S45), t479, t480⟩ : S47) [.string t472, .int .i64 t473, .string t474, .int .i64 t475, .int .i64 t476, .int .i64 t477, .string t478, .int .i64 t479, .int .i64 t480] from (k47_mkM _ _ _ (⟨(⟨t472, t473⟩ : S43), (⟨t474, t475, t476, t477, t478⟩ : S45), t479, t480⟩ : S47) )) (Reps.none _ _)))
              intro v495 w33 ho34 hb hg_ hnew_; clear hg_ hnew_
              (first | rw [← Ny494.out] at ho34 | (simp only [Int.reduceToNat] at ho34; rw [← Ny494.out] at ho34))
              have n0_ := Aside0.mk (Kd.R_below (gR HO468) hb)
              have n1_ := Aside0.mk (Kd.R_elder' (gR HO471) (Kd.R_base ho34) hb)
              have n2_ := Aside0.mk (Kd.R_elder' (gR HO485) (Kd.R_base ho34) hb)
              have n3_ := Aside0.mk (Kd.R_below (gR HO489) hb)
              have n4_ := Aside0.mk (Kd.V_elder' (by (with_reducible repeat (first | apply Kd.V_alloc | apply Kd.V_drewN | apply Kd.V_drew)); exact HO492.out) (Kd.R_base ho34) hb)
              have n5_ := Aside0.mk (Kd.R_lower (Kd.R_newB (Kd.R_new' (Kd.R_new' ho34 (Kd.R_lt (gR HO471))) (Kd.R_lt (gR HO485))) (g := gb482) (o := .cells #[.string t472, .int .i64 t473, .string t474, .int .i64 t475, .int .i64 t476, .int .i64 t477, .string t478, .int .i64 t479, .int .i64 t480] 47 (0, 0)) (gK BK482)) (below_size (gS HB)))
              have n6_ := Aside0.mk (blk_below (g := gb482) (o := .cells #[.string t472, .int .i64 t473, .string t474, .int .i64 t475, .int .i64 t476, .int .i64 t477, .string t478, .int .i64 t479, .int .i64 t480] 47 (0, 0)) (gK BK482) hb)
              have n7_ := Aside0.mk (Kd.C_below (by repeat (first | (with_reducible exact HR500.out) | (with_reducible refine Kd.C_alloc ?_ _) | (with_reducible refine Kd.C_drewN ?_ _) | (with_reducible refine Kd.C_drew ?_) | exact HR500.out)) hb)
              have n8_ := Aside0.mk (below_step (gS HB) hb)
              clear HO468; clear HO471; clear HO485; clear HO489; clear HO492; clear BK482; clear HR500; clear HB
              have HO468 := n0_
              have HO471 := n1_
              have HO485 := n2_
              have HO489 := n3_
              have HO492 := n4_
              have HO496 := n5_
              have BK482 := n6_
              have HR500 := n7_
              have HB := n8_
              clear n0_ n1_ n2_ n3_ n4_ n5_ n6_ n7_ n8_; clear hb ho34
              obtain ⟨Ao35, co35, eo35⟩ := Kd.R_slice HO496.out
              (first | subst eo35 | (injection eo35 with f1_ f2_ f3_; have f4_ := f1_.symm; have f5_ := f3_.symm; clear f1_ f2_ f3_; subst f4_; subst f5_))
              refine hK.out _ _ ⟨(blk_cell BK482.out 0).trans rfl, (blk_cell BK482.out 1).trans rfl, (blk_cell BK482.out 2).trans rfl, (blk_cell BK482.out 3).trans rfl, (blk_cell BK482.out 4).trans rfl, (blk_cell BK482.out 5).trans rfl, (blk_cell BK482.out 6).trans rfl, (blk_cell BK482.out 7).trans rfl, (blk_cell BK482.out 8).trans rfl⟩ (fun hHeld => ?_)
              clear hK K
              refine norm_ (a' := ?_) ?_ ?_
              rotate_left
              · show Act.put _ (some 42) _ = _
                simp only [Act.put, sA, sB, sC, i64_w, i32_w]
                rfl
              refine one_ (i := 15) (N := some 48) (pf 28 16) rfl rfl (one_of HT_.out (by kernel_rfl)) (by decide) (fun K hK => ?_)
              refine goes_ Try.func28 (by kernel_rfl) rfl #[.slice Ao35 y494.length co35, .slice A32 y497.length c32] (by rfl) rfl rfl am ?_
              with_reducible refine (lombardlaw17_same.calls k _ _ y494 _ _ y497 true _ ?side1 ?side2 ?side3 ?side4 A28.out).mono ?_
              (case side1 => repeat (first | exact (Kd.R_reads' HO496.out).2.2 | (with_reducible refine Kd.C_alloc ?_ _) | (with_reducible refine Kd.C_drewN ?_ _) | (with_reducible refine Kd.C_drew ?_)))
              (case side2 => exact (Kd.R_reads' HO496.out).2.1)
              (case side3 => repeat (first | exact (by repeat (first | (with_reducible exact HR500.out) | (with_reducible refine Kd.C_alloc ?_ _) | (with_reducible refine Kd.C_drewN ?_ _) | (with_reducible refine Kd.C_drew ?_) | exact HR500.out)) | (with_reducible refine Kd.C_alloc ?_ _) | (with_reducible refine Kd.C_drewN ?_ _) | (with_reducible refine Kd.C_drew ?_)))
              (case side4 => exact HC500.out)
              rintro e w' ⟨rfl, ⟨nd, rfl⟩⟩
              refine ⟨_, rfl, ?_⟩
              refine hK.out _ _ ⟨(blk_cell BK482.out 0).trans rfl, (blk_cell BK482.out 1).trans rfl, (blk_cell BK482.out 2).trans rfl, (blk_cell BK482.out 3).trans rfl, (blk_cell BK482.out 4).trans rfl, (blk_cell BK482.out 5).trans rfl, (blk_cell BK482.out 6).trans rfl, (blk_cell BK482.out 7).trans rfl, (blk_cell BK482.out 8).trans rfl⟩ (fun hHeld => ?_)
              clear hK K
              refine norm_ (a' := ?_) ?_ ?_
              rotate_left
              · show Act.put _ (some 48) _ = _
                simp only [Act.put, sA, sB, sC, i64_w, i32_w]
                rfl
              refine pA (i := 16) (N := some 49) HT_ (pf 28 17) ?_
              refine pA (i := 17) (N := some 50) HT_ (pf 28 18) ?_
              refine pA (i := 18) (N := some 51) HT_ (pf 28 19) ?_
              refine pA (i := 19) (N := some 52) HT_ (pf 28 20) ?_
              refine pA (i := 20) (N := some 53) HT_ (pf 28 21) ?_
              refine pA (i := 21) (N := some 54) HT_ (pf 28 22) ?_
              refine pA (i := 22) (N := some 55) HT_ (pf 28 23) ?_
              refine pure_ (i := 23) (N := some 56) (v := undef) (a' := ?_) (pf 28 24) rfl rfl (any_of HT_.out (by kernel_rfl)) (fun _ _ _ h => h) (Or.inr ⟨by rfl, rfl⟩) ?_ ?_
              rotate_left
              · simp only [Act.put, sA, sB, sC, i64_w, i32_w]
                rfl
              refine pure_ (i := 24) (N := some 57) (v := undef) (a' := ?_) (pf 28 25) rfl rfl (any_of HT_.out (by kernel_rfl)) (fun _ _ _ h => h) (Or.inr ⟨by rfl, rfl⟩) ?_ ?_
              rotate_left
              · simp only [Act.put, sA, sB, sC, i64_w, i32_w]
                rfl
              refine pure_ (i := 25) (N := some 58) (v := undef) (a' := ?_) (pf 28 26) rfl rfl (any_of HT_.out (by kernel_rfl)) (fun _ _ _ h => h) (Or.inr ⟨by rfl, rfl⟩) ?_ ?_
              rotate_left
              · simp only [Act.put, sA, sB, sC, i64_w, i32_w]
                rfl
              refine pA (i := 26) (N := some 59) HT_ (pf 28 27) ?_
              refine pA (i := 27) (N := some 60) HT_ (pf 28 28) ?_
              refine done_ (done_of HT_.out (by kernel_rfl)) ?_
              try go_wp2
              go_meet
              case rel => exact ⟨_, (false), ac, H', ⟨by first | omega | exact Nat.le_refl _⟩, ⟨gR HO468⟩, ⟨gR HO489⟩, ⟨by (with_reducible repeat (first | apply Kd.V_alloc | apply Kd.V_drewN | apply Kd.V_drew)); exact Kd.V_mono HO492.out (fun _ hk => ⟨hk.1.1, ⟨hk.1.2.2.2.1, hk.1.2.2.2.2⟩⟩)⟩, ⟨gK BK482⟩, ⟨gS HB⟩⟩
            · replace c29 := Bool.eq_false_iff.mpr c29
              subst c29
              have H1 : (lombardlaw17_LotsRanks.j0 k l0 t466 t486 t487 t490 t493 true) = some r := by rw [if_neg (show ¬ (false = true) by decide)] at H; exact H
              clear H
              have H := H1
              clear H1
              have H' := Aside0.mk H
              clear H
              try go_wp2
              have n0_ := Aside0.mk (Kd.R_drew HO468.out)
              have n1_ := Aside0.mk (Kd.R_drew HO471.out)
              have n2_ := Aside0.mk (Kd.R_drew HO485.out)
              have n3_ := Aside0.mk (Kd.R_drew HO489.out)
              have n4_ := Aside0.mk (Kd.V_drew HO492.out)
              have n5_ := Aside0.mk (blk_drew BK482.out)
              have n6_ := Aside0.mk (below_drew1 HB.out)
              clear HO468; clear HO471; clear HO485; clear HO489; clear HO492; clear BK482; clear HB
              have HO468 := n0_
              have HO471 := n1_
              have HO485 := n2_
              have HO489 := n3_
              have HO492 := n4_
              have BK482 := n5_
              have HB := n6_
              clear n0_ n1_ n2_ n3_ n4_ n5_ n6_
              obtain ⟨Ao37, co37, eo37⟩ := Kd.R_slice HO468.out
              (first | subst eo37 | (injection eo37 with f1_ f2_ f3_; have f4_ := f1_.symm; have f5_ := f3_.symm; clear f1_ f2_ f3_; subst f4_; subst f5_))
              have q38 : ((ji25) : Int) ≤ ((t466.length : Int) : Int) := od
              obtain ⟨i038, hi038, _, hsz38, _⟩ := info_parts info65
              have hroom38 : t466.length ≤ co37 := (Kd.R_reads' HO468.out).2.1
              have hC38 : Kd.C k65 _ Ao37 t466.length t466 := (Kd.R_reads' HO468.out).2.2
              have q038 : (0 : Int) ≤ ((ji25) : Int) := od
              have hcut38 := cut_from (P := Try.prog) 40 65 .i64 Try.underlying40 hi038 9 hsz38 Ao37 t466.length co37 (ji25) q038 q38
              have hr38 := Kd.C_drop (m := ((ji25) : Int).toNat) (c := co37) hC38 (by omega) hroom38
              obtain ⟨A38, hA38⟩ : ∃ A1, A1 = (if co37 = ((ji25) : Int).toNat then Ao37 else (Ao37 : Option Addr).map (·.add (((ji25) : Int).toNat * 9))) := ⟨_, rfl⟩
              obtain ⟨c38, hc38⟩ : ∃ c1, c1 = co37 - ((ji25) : Int).toNat := ⟨_, rfl⟩
              have hy38 : y497.length = t466.length - ((ji25) : Int).toNat := (by rw [Ny497.out, List.length_drop] <;> omega)
              rw [show (t466).drop ((ji25) : Int).toNat = y497 from Ny497.out.symm] at hr38
              replace hr38 : Kd.C k65 _ A38 y497.length y497 := (by rw [hA38]; exact hr38)
              rw [← hy38, ← hA38, ← hc38] at hcut38
              have HR500 := Aside0.mk hr38
              have HC500 := Aside0.mk (show y497.length ≤ c38 from by rw [hy38, hc38]; exact Nat.sub_le_sub_right hroom38 _)
              clear hr38 hC38 hroom38 hi038 hsz38 hc38; have KY38 := Aside0.mk hy38; have KA38 := Aside0.mk hA38; clear hy38 hA38
              have KL38 := Aside0.mk (show ((ji25) : Int).toNat ≤ t466.length from by omega)
              replace q38 := eq_true q38
              refine start_ (n := 28) (S := fun w' => w'.cell? ⟨gb482, 0, none⟩ = some (.string t472) ∧ w'.cell? ⟨gb482, 1, none⟩ = some (.int .i64 t473) ∧ w'.cell? ⟨gb482, 2, none⟩ = some (.string t474) ∧ w'.cell? ⟨gb482, 3, none⟩ = some (.int .i64 t475) ∧ w'.cell? ⟨gb482, 4, none⟩ = some (.int .i64 t476) ∧ w'.cell? ⟨gb482, 5, none⟩ = some (.int .i64 t477) ∧ w'.cell? ⟨gb482, 6, none⟩ = some (.string t478) ∧ w'.cell? ⟨gb482, 7, none⟩ = some (.int .i64 t479) ∧ w'.cell? ⟨gb482, 8, none⟩ = some (.int .i64 t480)) (ds := []) (pf 28 0) (by kernel_rfl) rfl rfl ⟨(blk_cell BK482.out 0).trans rfl, (blk_cell BK482.out 1).trans rfl, (blk_cell BK482.out 2).trans rfl, (blk_cell BK482.out 3).trans rfl, (blk_cell BK482.out 4).trans rfl, (blk_cell BK482.out 5).trans rfl, (blk_cell BK482.out 6).trans rfl, (blk_cell BK482.out 7).trans rfl, (blk_cell BK482.out 8).trans rfl⟩ (fun hHeld => ?_); refine with_tabW lombardlaw17_LotsRanks.tab7 lombardlaw17_LotsRanks.bits7 (fun HT_ HW_ => ?_)
              generalize w21.drew = w36 at HO468 HO471 HO485 HO489 HO492 BK482 HB HR500 hHeld ⊢
              refine pA (i := 0) (N := some 33) HT_ (pf 28 1) ?_
              refine pA (i := 1) (N := some 34) HT_ (pf 28 2) ?_
              refine pA (i := 2) (N := some 35) HT_ (pf 28 3) ?_
              refine pA (i := 3) (N := some 36) HT_ (pf 28 4) ?_
              refine pA (i := 4) (N := some 37) HT_ (pf 28 5) ?_
              refine pA (i := 5) (N := some 38) HT_ (pf 28 6) ?_
              refine pA (i := 6) (N := some 39) HT_ (pf 28 7) ?_
              refine pA (i := 7) (N := some 40) HT_ (pf 28 8) ?_
              refine pA (i := 10) (N := some 43) HT_ qx19_0 ?_
              refine pA (i := 11) (N := some 44) HT_ qx19_1 ?_
              refine pA (i := 12) (N := some 45) HT_ qx19_2 ?_
              refine pA (i := 13) (N := some 46) HT_ qx19_3 ?_
              refine pA (i := 14) (N := some 47) HT_ qx19_4 ?_
              refine take_ (i := 8) (N := some 41) (v := ?_) (a' := ?_) qx19_5 rfl rfl (take_ofW HT_.out HW_.out (by kernel_rfl)) (fun _ _ _ h => h) (Or.inl ⟨by rfl, ?_⟩) hHeld ?_ ?_
              rotate_left
              · rintro w' ⟨s0, s1, s2, s3, s4, s5, s6, s7, s8⟩
                go_simp
                with_reducible rfl
              rotate_left
              · simp only [Act.put, sA, sB, sC, i64_w, i32_w]
                rfl
              refine one_ (i := 9) (N := some 42) (pf 28 15) rfl rfl (one_of HT_.out (by kernel_rfl)) (by decide) (fun K hK => ?_)
              refine Kd.R_lit_step k47 _ 47 ?hg (N := 42) ?hd (xs := ([(⟨(⟨t472, t473⟩ : S43), (⟨t474, t475, t476, t477, t478⟩ : S45), t479, t480⟩ : S47)] : List (S47))) (inner := [.string t472, .int .i64 t473, .string t474, .int .i64 t475, .int .i64 t476, .int .i64 t477, .string t478, .int .i64 t479, .int .i64 t480]) (ok := fun _ => True) (okp := fun _ => True) ?hr ?hp (fun _ hk => hk) trivial (Below.refl _ _) (Nat.le_refl _) (by simp) ?_; (case hd => rfl); (case hg => rfl); (case hr => first | (go_simp; done) | (go_simp; rfl) | (have hcq := hcq_.out; have hfq := hfq_.out; go_simp; done)); (case hp => exact (Reps.c9 (show Kd.M k47 _ _ _ (⟨(⟨t472, t473⟩ : S43), (⟨t474, t475, t476, t477, t478⟩ : S45), t479, t480⟩ : S47) [.string t472, .int .i64 t473, .string t474, .int .i64 t475, .int .i64 t476, .int .i64 t477, .string t478, .int .i64 t479, .int .i64 t480] from (k47_mkM _ _ _ (⟨(⟨t472, t473⟩ : S43), (⟨t474, t475, t476, t477, t478⟩ : S45), t479, t480⟩ : S47) )) (Reps.none _ _)))
              intro v495 w39 ho40 hb hg_ hnew_; clear hg_ hnew_
              (first | rw [← Ny494.out] at ho40 | (simp only [Int.reduceToNat] at ho40; rw [← Ny494.out] at ho40))
              have n0_ := Aside0.mk (Kd.R_below (gR HO468) hb)
              have n1_ := Aside0.mk (Kd.R_elder' (gR HO471) (Kd.R_base ho40) hb)
              have n2_ := Aside0.mk (Kd.R_elder' (gR HO485) (Kd.R_base ho40) hb)
              have n3_ := Aside0.mk (Kd.R_below (gR HO489) hb)
              have n4_ := Aside0.mk (Kd.V_elder' (by (with_reducible repeat (first | apply Kd.V_alloc | apply Kd.V_drewN | apply Kd.V_drew)); exact HO492.out) (Kd.R_base ho40) hb)
              have n5_ := Aside0.mk (Kd.R_lower (Kd.R_newB (Kd.R_new' (Kd.R_new' ho40 (Kd.R_lt (gR HO471))) (Kd.R_lt (gR HO485))) (g := gb482) (o := .cells #[.string t472, .int .i64 t473, .string t474, .int .i64 t475, .int .i64 t476, .int .i64 t477, .string t478, .int .i64 t479, .int .i64 t480] 47 (0, 0)) (gK BK482)) (below_size (gS HB)))
              have n6_ := Aside0.mk (blk_below (g := gb482) (o := .cells #[.string t472, .int .i64 t473, .string t474, .int .i64 t475, .int .i64 t476, .int .i64 t477, .string t478, .int .i64 t479, .int .i64 t480] 47 (0, 0)) (gK BK482) hb)
              have n7_ := Aside0.mk (Kd.C_below (by repeat (first | (with_reducible exact HR500.out) | (with_reducible refine Kd.C_alloc ?_ _) | (with_reducible refine Kd.C_drewN ?_ _) | (with_reducible refine Kd.C_drew ?_) | exact HR500.out)) hb)
              have n8_ := Aside0.mk (below_step (gS HB) hb)
              clear HO468; clear HO471; clear HO485; clear HO489; clear HO492; clear BK482; clear HR500; clear HB
              have HO468 := n0_
              have HO471 := n1_
              have HO485 := n2_
              have HO489 := n3_
              have HO492 := n4_
              have HO496 := n5_
              have BK482 := n6_
              have HR500 := n7_
              have HB := n8_
              clear n0_ n1_ n2_ n3_ n4_ n5_ n6_ n7_ n8_; clear hb ho40
              obtain ⟨Ao41, co41, eo41⟩ := Kd.R_slice HO496.out
              (first | subst eo41 | (injection eo41 with f1_ f2_ f3_; have f4_ := f1_.symm; have f5_ := f3_.symm; clear f1_ f2_ f3_; subst f4_; subst f5_))
              refine hK.out _ _ ⟨(blk_cell BK482.out 0).trans rfl, (blk_cell BK482.out 1).trans rfl, (blk_cell BK482.out 2).trans rfl, (blk_cell BK482.out 3).trans rfl, (blk_cell BK482.out 4).trans rfl, (blk_cell BK482.out 5).trans rfl, (blk_cell BK482.out 6).trans rfl, (blk_cell BK482.out 7).trans rfl, (blk_cell BK482.out 8).trans rfl⟩ (fun hHeld => ?_)
              clear hK K
              refine norm_ (a' := ?_) ?_ ?_
              rotate_left
              · show Act.put _ (some 42) _ = _
                simp only [Act.put, sA, sB, sC, i64_w, i32_w]
                rfl
              refine one_ (i := 15) (N := some 48) (pf 28 16) rfl rfl (one_of HT_.out (by kernel_rfl)) (by decide) (fun K hK => ?_)
              refine goes_ Try.func28 (by kernel_rfl) rfl #[.slice Ao41 y494.length co41, .slice A38 y497.length c38] (by rfl) rfl rfl am ?_
              with_reducible refine (lombardlaw17_same.calls k _ _ y494 _ _ y497 false _ ?side1 ?side2 ?side3 ?side4 A28.out).mono ?_
              (case side1 => repeat (first | exact (Kd.R_reads' HO496.out).2.2 | (with_reducible refine Kd.C_alloc ?_ _) | (with_reducible refine Kd.C_drewN ?_ _) | (with_reducible refine Kd.C_drew ?_)))
              (case side2 => exact (Kd.R_reads' HO496.out).2.1)
              (case side3 => repeat (first | exact (by repeat (first | (with_reducible exact HR500.out) | (with_reducible refine Kd.C_alloc ?_ _) | (with_reducible refine Kd.C_drewN ?_ _) | (with_reducible refine Kd.C_drew ?_) | exact HR500.out)) | (with_reducible refine Kd.C_alloc ?_ _) | (with_reducible refine Kd.C_drewN ?_ _) | (with_reducible refine Kd.C_drew ?_)))
              (case side4 => exact HC500.out)
              rintro e w' ⟨rfl, ⟨nd, rfl⟩⟩
              refine ⟨_, rfl, ?_⟩
              refine hK.out _ _ ⟨(blk_cell BK482.out 0).trans rfl, (blk_cell BK482.out 1).trans rfl, (blk_cell BK482.out 2).trans rfl, (blk_cell BK482.out 3).trans rfl, (blk_cell BK482.out 4).trans rfl, (blk_cell BK482.out 5).trans rfl, (blk_cell BK482.out 6).trans rfl, (blk_cell BK482.out 7).trans rfl, (blk_cell BK482.out 8).trans rfl⟩ (fun hHeld => ?_)
              clear hK K
              refine norm_ (a' := ?_) ?_ ?_
              rotate_left
              · show Act.put _ (some 48) _ = _
                simp only [Act.put, sA, sB, sC, i64_w, i32_w]
                rfl
              refine pA (i := 16) (N := some 49) HT_ (pf 28 17) ?_
              refine pA (i := 17) (N := some 50) HT_ (pf 28 18) ?_
              refine pA (i := 18) (N := some 51) HT_ (pf 28 19) ?_
              refine pA (i := 19) (N := some 52) HT_ (pf 28 20) ?_
              refine pure_ (i := 20) (N := some 53) (v := undef) (a' := ?_) (pf 28 21) rfl rfl (any_of HT_.out (by kernel_rfl)) (fun _ _ _ h => h) (Or.inr ⟨by rfl, rfl⟩) ?_ ?_
              rotate_left
              · simp only [Act.put, sA, sB, sC, i64_w, i32_w]
                rfl
              refine pure_ (i := 21) (N := some 54) (v := undef) (a' := ?_) (pf 28 22) rfl rfl (any_of HT_.out (by kernel_rfl)) (fun _ _ _ h => h) (Or.inr ⟨by rfl, rfl⟩) ?_ ?_
              rotate_left
              · simp only [Act.put, sA, sB, sC, i64_w, i32_w]
                rfl
              refine pure_ (i := 22) (N := some 55) (v := undef) (a' := ?_) (pf 28 23) rfl rfl (any_of HT_.out (by kernel_rfl)) (fun _ _ _ h => h) (Or.inr ⟨by rfl, rfl⟩) ?_ ?_
              rotate_left
              · simp only [Act.put, sA, sB, sC, i64_w, i32_w]
                rfl
              refine pure_ (i := 23) (N := some 56) (v := undef) (a' := ?_) (pf 28 24) rfl rfl (any_of HT_.out (by kernel_rfl)) (fun _ _ _ h => h) (Or.inr ⟨by rfl, rfl⟩) ?_ ?_
              rotate_left
              · simp only [Act.put, sA, sB, sC, i64_w, i32_w]
                rfl
              refine pure_ (i := 24) (N := some 57) (v := undef) (a' := ?_) (pf 28 25) rfl rfl (any_of HT_.out (by kernel_rfl)) (fun _ _ _ h => h) (Or.inr ⟨by rfl, rfl⟩) ?_ ?_
              rotate_left
              · simp only [Act.put, sA, sB, sC, i64_w, i32_w]
                rfl
              refine pure_ (i := 25) (N := some 58) (v := undef) (a' := ?_) (pf 28 26) rfl rfl (any_of HT_.out (by kernel_rfl)) (fun _ _ _ h => h) (Or.inr ⟨by rfl, rfl⟩) ?_ ?_
              rotate_left
              · simp only [Act.put, sA, sB, sC, i64_w, i32_w]
                rfl
              refine pure_ (i := 26) (N := some 59) (v := undef) (a' := ?_) (pf 28 27) rfl rfl (any_of HT_.out (by kernel_rfl)) (fun _ _ _ h => h) (Or.inr ⟨by rfl, rfl⟩) ?_ ?_
              rotate_left
              · simp only [Act.put, sA, sB, sC, i64_w, i32_w]
                rfl
              refine pA (i := 27) (N := some 60) HT_ (pf 28 28) ?_
              refine done_ (done_of HT_.out (by kernel_rfl)) ?_
              try go_wp2
              go_meet
              case rel => exact ⟨_, (true), ac, H', ⟨by first | omega | exact Nat.le_refl _⟩, ⟨gR HO468⟩, ⟨gR HO489⟩, ⟨by (with_reducible repeat (first | apply Kd.V_alloc | apply Kd.V_drewN | apply Kd.V_drew)); exact Kd.V_mono HO492.out (fun _ hk => ⟨hk.1.1, ⟨hk.1.2.2.2.1, hk.1.2.2.2.2⟩⟩)⟩, ⟨gK BK482⟩, ⟨gS HB⟩⟩
          · rw [if_neg c27] at H
            exact absurd H (by simp)
        · rw [if_neg c26] at H
          exact absurd H (by simp)
      · replace c24 := Bool.eq_false_iff.mpr c24
        subst c24
        have c22bq := bne_f c22b0
        have H1 : (lombardlaw17_LotsRanks.j0 k l0 t466 t486 t487 t490 t493 ((!(t472.toList == ([] : List UInt8)) || (!(t473 == 0))) || ((!(t474.toList == ([] : List UInt8)) || (!(t475 == 0) || (!(t476 == 0) || (!(t477 == 0) || (!(t478.toList == ([] : List UInt8))))))) || (!(t479 == 0) || (!(t480 == 0)))))) = some r := by rw [if_neg (show ¬ (false = true) by decide)] at H; exact H
        clear H
        have H := H1
        clear H1
        have H' := Aside0.mk H
        clear H
        try go_wp2
        have n0_ := Aside0.mk (Kd.R_drew HO468.out)
        have n1_ := Aside0.mk (Kd.R_drew HO471.out)
        have n2_ := Aside0.mk (Kd.R_drew HO485.out)
        have n3_ := Aside0.mk (Kd.R_drew HO489.out)
        have n4_ := Aside0.mk (Kd.V_drew HO492.out)
        have n5_ := Aside0.mk (blk_drew BK482.out)
        have n6_ := Aside0.mk (below_drew1 HB.out)
        clear HO468; clear HO471; clear HO485; clear HO489; clear HO492; clear BK482; clear HB
        have HO468 := n0_
        have HO471 := n1_
        have HO485 := n2_
        have HO489 := n3_
        have HO492 := n4_
        have BK482 := n5_
        have HB := n6_
        clear n0_ n1_ n2_ n3_ n4_ n5_ n6_
        refine start_ (n := 28) (S := fun w' => w'.cell? ⟨gb482, 0, none⟩ = some (.string t472) ∧ w'.cell? ⟨gb482, 1, none⟩ = some (.int .i64 t473) ∧ w'.cell? ⟨gb482, 2, none⟩ = some (.string t474) ∧ w'.cell? ⟨gb482, 3, none⟩ = some (.int .i64 t475) ∧ w'.cell? ⟨gb482, 4, none⟩ = some (.int .i64 t476) ∧ w'.cell? ⟨gb482, 5, none⟩ = some (.int .i64 t477) ∧ w'.cell? ⟨gb482, 6, none⟩ = some (.string t478) ∧ w'.cell? ⟨gb482, 7, none⟩ = some (.int .i64 t479) ∧ w'.cell? ⟨gb482, 8, none⟩ = some (.int .i64 t480)) (ds := []) (pf 28 0) (by kernel_rfl) rfl rfl ⟨(blk_cell BK482.out 0).trans rfl, (blk_cell BK482.out 1).trans rfl, (blk_cell BK482.out 2).trans rfl, (blk_cell BK482.out 3).trans rfl, (blk_cell BK482.out 4).trans rfl, (blk_cell BK482.out 5).trans rfl, (blk_cell BK482.out 6).trans rfl, (blk_cell BK482.out 7).trans rfl, (blk_cell BK482.out 8).trans rfl⟩ (fun hHeld => ?_); refine with_tabW lombardlaw17_LotsRanks.tab7 lombardlaw17_LotsRanks.bits7 (fun HT_ HW_ => ?_)
        generalize w21.drew = w42 at HO468 HO471 HO485 HO489 HO492 BK482 HB hHeld ⊢
        refine pA (i := 0) (N := some 33) HT_ (pf 28 1) ?_
        refine pA (i := 1) (N := some 34) HT_ (pf 28 2) ?_
        refine pA (i := 2) (N := some 35) HT_ (pf 28 3) ?_
        refine pA (i := 3) (N := some 36) HT_ (pf 28 4) ?_
        refine pA (i := 4) (N := some 37) HT_ (pf 28 5) ?_
        refine pA (i := 5) (N := some 38) HT_ (pf 28 6) ?_
        refine pA (i := 6) (N := some 39) HT_ (pf 28 7) ?_
        refine pA (i := 7) (N := some 40) HT_ (pf 28 8) ?_
        refine pure_ (i := 8) (N := some 41) (v := undef) (a' := ?_) (pf 28 9) rfl rfl (any_of HT_.out (by kernel_rfl)) (fun _ _ _ h => h) (Or.inr ⟨by rfl, rfl⟩) ?_ ?_
        rotate_left
        · simp only [Act.put, sA, sB, sC, i64_w, i32_w]
          rfl
        refine pure_ (i := 9) (N := some 42) (v := undef) (a' := ?_) (pf 28 10) rfl rfl (any_of HT_.out (by kernel_rfl)) (fun _ _ _ h => h) (Or.inr ⟨by rfl, rfl⟩) ?_ ?_
        rotate_left
        · simp only [Act.put, sA, sB, sC, i64_w, i32_w]
          rfl
        refine pure_ (i := 10) (N := some 43) (v := undef) (a' := ?_) (pf 28 11) rfl rfl (any_of HT_.out (by kernel_rfl)) (fun _ _ _ h => h) (Or.inr ⟨by rfl, rfl⟩) ?_ ?_
        rotate_left
        · simp only [Act.put, sA, sB, sC, i64_w, i32_w]
          rfl
        refine pure_ (i := 11) (N := some 44) (v := undef) (a' := ?_) (pf 28 12) rfl rfl (any_of HT_.out (by kernel_rfl)) (fun _ _ _ h => h) (Or.inr ⟨by rfl, rfl⟩) ?_ ?_
        rotate_left
        · simp only [Act.put, sA, sB, sC, i64_w, i32_w]
          rfl
        refine pure_ (i := 12) (N := some 45) (v := undef) (a' := ?_) (pf 28 13) rfl rfl (any_of HT_.out (by kernel_rfl)) (fun _ _ _ h => h) (Or.inr ⟨by rfl, rfl⟩) ?_ ?_
        rotate_left
        · simp only [Act.put, sA, sB, sC, i64_w, i32_w]
          rfl
        refine pure_ (i := 13) (N := some 46) (v := undef) (a' := ?_) (pf 28 14) rfl rfl (any_of HT_.out (by kernel_rfl)) (fun _ _ _ h => h) (Or.inr ⟨by rfl, rfl⟩) ?_ ?_
        rotate_left
        · simp only [Act.put, sA, sB, sC, i64_w, i32_w]
          rfl
        refine pure_ (i := 14) (N := some 47) (v := undef) (a' := ?_) (pf 28 15) rfl rfl (any_of HT_.out (by kernel_rfl)) (fun _ _ _ h => h) (Or.inr ⟨by rfl, rfl⟩) ?_ ?_
        rotate_left
        · simp only [Act.put, sA, sB, sC, i64_w, i32_w]
          rfl
        refine pure_ (i := 15) (N := some 48) (v := undef) (a' := ?_) (pf 28 16) rfl rfl (any_of HT_.out (by kernel_rfl)) (fun _ _ _ h => h) (Or.inr ⟨by rfl, rfl⟩) ?_ ?_
        rotate_left
        · simp only [Act.put, sA, sB, sC, i64_w, i32_w]
          rfl
        refine pure_ (i := 16) (N := some 49) (v := undef) (a' := ?_) (pf 28 17) rfl rfl (any_of HT_.out (by kernel_rfl)) (fun _ _ _ h => h) (Or.inr ⟨by rfl, rfl⟩) ?_ ?_
        rotate_left
        · simp only [Act.put, sA, sB, sC, i64_w, i32_w]
          rfl
        refine pA (i := 17) (N := some 50) HT_ (pf 28 18) ?_
        refine pA (i := 18) (N := some 51) HT_ (pf 28 19) ?_
        refine pA (i := 19) (N := some 52) HT_ (pf 28 20) ?_
        refine pA (i := 20) (N := some 53) HT_ (pf 28 21) ?_
        refine pA (i := 21) (N := some 54) HT_ (pf 28 22) ?_
        refine pA (i := 22) (N := some 55) HT_ (pf 28 23) ?_
        refine pA (i := 24) (N := some 57) HT_ #[true, true, true, true, true, true, true, true, true, true, true, true, true, true, true, true, true, true, true, true, true, true, true, false, true, false, false, false] ?_
        refine take_ (i := 23) (N := some 56) (v := ?_) (a' := ?_) (pf 28 25) rfl rfl (take_ofW HT_.out HW_.out (by kernel_rfl)) (fun _ _ _ h => h) (Or.inl ⟨by rfl, ?_⟩) hHeld ?_ ?_
        rotate_left
        · rintro w' ⟨s0, s1, s2, s3, s4, s5, s6, s7, s8⟩
          go_simp
          with_reducible rfl
        rotate_left
        · simp only [Act.put, sA, sB, sC, i64_w, i32_w]
          rfl
        refine pA (i := 25) (N := some 58) HT_ (pf 28 26) ?_
        refine pA (i := 26) (N := some 59) HT_ (pf 28 27) ?_
        refine pA (i := 27) (N := some 60) HT_ (pf 28 28) ?_
        refine done_ (done_of HT_.out (by kernel_rfl)) ?_
        try go_wp2
        go_meet
        case rel => exact ⟨_, (((!(t472.toList == ([] : List UInt8)) || (!(t473 == 0))) || ((!(t474.toList == ([] : List UInt8)) || (!(t475 == 0) || (!(t476 == 0) || (!(t477 == 0) || (!(t478.toList == ([] : List UInt8))))))) || (!(t479 == 0) || (!(t480 == 0)))))), ac, H', ⟨by first | omega | exact Nat.le_refl _⟩, ⟨gR HO468⟩, ⟨gR HO489⟩, ⟨by (with_reducible repeat (first | apply Kd.V_alloc | apply Kd.V_drewN | apply Kd.V_drew)); exact Kd.V_mono HO492.out (fun _ hk => ⟨hk.1, ⟨hk.2.2.2.1, hk.2.2.2.2⟩⟩)⟩, ⟨gK BK482⟩, ⟨gS HB⟩⟩
   case rest =>
    clear HC11; (try clear c1); (try clear c2); (try clear p2); (try clear c3); (try clear q3); (try clear c9); (try clear c24); (try clear c26); (try clear c27); (try clear c28); (try clear c29); (try clear c38); (try clear q38); (try clear q038); (try clear q38)
    obtain ⟨kq, x60_10, rfl, HA, HJ10, HO_3, HO_6, HO_8, BK482, HB⟩ := hcut
    cases kq with
    | zero => exact absurd HA.out (by simp [lombardlaw17_LotsRanks.j0])
    | succ kj10 =>
     have H := HA.out
     clear HA
     simp only [lombardlaw17_LotsRanks.j0] at H
     by_cases c43 : x60_10 = true
     · subst c43
       have H1 : (some false) = some r := by rw [if_pos rfl] at H; exact H
       clear H
       have H := H1
       clear H1
       exact absurd ((Option.some.inj H).trans htr_) (by decide)
     · replace c43 := Bool.eq_false_iff.mpr c43
       subst c43
       have H1 : ((lombardlaw17_items.f kj10 l0).bind fun t502 => ((lots_Rank.f kj10 t502).bind fun t505 => ((lombardlaw17_same.f kj10 t505 t466).bind fun t508 => (if t508 = true then ((lombardref10_Lots.f kj10 t486 t490).bind fun t509 => (if t509 = true then (if t487 = t493 then ((lombardlaw17_awake.f kj10).bind fun t510 => (some t510)) else (some false)) else (some false))) else (some false))))) = some r := by rw [if_neg (show ¬ (false = true) by decide)] at H; exact H
       clear H
       have H := H1
       clear H1
       replace H := Option.bind_eq_some_iff.mp H
       obtain ⟨t502, A440, H⟩ := H
       replace H : ((lots_Rank.f kj10 t502).bind fun t505 => ((lombardlaw17_same.f kj10 t505 t466).bind fun t508 => (if t508 = true then ((lombardref10_Lots.f kj10 t486 t490).bind fun t509 => (if t509 = true then (if t487 = t493 then ((lombardlaw17_awake.f kj10).bind fun t510 => (some t510)) else (some false)) else (some false))) else (some false)))) = some r := H
       have A44 := Aside0.mk A440; clear A440
       replace H := Option.bind_eq_some_iff.mp H
       obtain ⟨t505, A450, H⟩ := H
       replace H : ((lombardlaw17_same.f kj10 t505 t466).bind fun t508 => (if t508 = true then ((lombardref10_Lots.f kj10 t486 t490).bind fun t509 => (if t509 = true then (if t487 = t493 then ((lombardlaw17_awake.f kj10).bind fun t510 => (some t510)) else (some false)) else (some false))) else (some false))) = some r := H
       have A45 := Aside0.mk A450; clear A450
       replace H := Option.bind_eq_some_iff.mp H
       obtain ⟨t508, A460, H⟩ := H
       replace H : (if t508 = true then ((lombardref10_Lots.f kj10 t486 t490).bind fun t509 => (if t509 = true then (if t487 = t493 then ((lombardlaw17_awake.f kj10).bind fun t510 => (some t510)) else (some false)) else (some false))) else (some false)) = some r := H
       have A46 := Aside0.mk A460; clear A460
       by_cases c47 : t508 = true
       · subst c47
         have H1 : ((lombardref10_Lots.f kj10 t486 t490).bind fun t509 => (if t509 = true then (if t487 = t493 then ((lombardlaw17_awake.f kj10).bind fun t510 => (some t510)) else (some false)) else (some false))) = some r := by rw [if_pos rfl] at H; exact H
         clear H
         have H := H1
         clear H1
         replace H := Option.bind_eq_some_iff.mp H
         obtain ⟨t509, A480, H⟩ := H
         replace H : (if t509 = true then (if t487 = t493 then ((lombardlaw17_awake.f kj10).bind fun t510 => (some t510)) else (some false)) else (some false)) = some r := H
         have A48 := Aside0.mk A480; clear A480
         by_cases c49 : t509 = true
         · subst c49
           have H1 : (if t487 = t493 then ((lombardlaw17_awake.f kj10).bind fun t510 => (some t510)) else (some false)) = some r := by rw [if_pos rfl] at H; exact H
           clear H
           have H := H1
           clear H1
           by_cases c50 : t487 = t493
           · rw [if_pos c50] at H
             have c50b0 : (t487 == t493) = true := beq_iff_eq.mpr c50
             have c50b1 : (t487 != t493) = false := bne_eq_false_iff_eq.mpr c50
             clear c50
             replace H := Option.bind_eq_some_iff.mp H
             obtain ⟨t510, A510, H⟩ := H
             replace H : (some t510) = some r := H
             have A51 := Aside0.mk A510; clear A510
             obtain rfl := Option.some.inj H
             go_wp2_with (first | ((with_reducible refine gate_callee (f := 25) rfl ?_); refine goesL_ (some 62) rfl rfl Try.func25 (by kernel_rfl) rfl #[.slice A0 l0.length c0] rfl am ?_; (with_reducible refine (lombardlaw17_items.calls kj10 _ _ l0 t502 _ ?side1 ?side2 A44.out).mono ?_); (case side1 => exact gC HR0 HB); (case side2 => exact HC0.out); rintro e w52 ⟨v503, rfl, ho0, hb⟩; (try clear A44); refine ⟨_, rfl, ?_⟩; have n0_ := Aside0.mk (Kd.R_below (gR HO_3) hb); have n1_ := Aside0.mk (Kd.R_below (gR HO_6) hb); have n2_ := Aside0.mk (Kd.V_elder' (by (with_reducible repeat (first | apply Kd.V_alloc | apply Kd.V_drewN | apply Kd.V_drew)); exact HO_8.out) (Kd.R_base ho0) hb); have n3_ := Aside0.mk (Kd.R_lower (Kd.R_newB ho0 (g := gb482) (o := .cells #[.string t472, .int .i64 t473, .string t474, .int .i64 t475, .int .i64 t476, .int .i64 t477, .string t478, .int .i64 t479, .int .i64 t480] 47 (0, 0)) (gK BK482)) (below_size (gS HB))); have n4_ := Aside0.mk (blk_below (g := gb482) (o := .cells #[.string t472, .int .i64 t473, .string t474, .int .i64 t475, .int .i64 t476, .int .i64 t477, .string t478, .int .i64 t479, .int .i64 t480] 47 (0, 0)) (gK BK482) hb); have n5_ := Aside0.mk (below_step (gS HB) hb); clear HO_3; clear HO_6; clear HO_8; clear BK482; clear HB; have HO_3 := n0_; have HO_6 := n1_; have HO_8 := n2_; have HO504 := n3_; have BK482 := n4_; have HB := n5_; clear n0_ n1_ n2_ n3_ n4_ n5_; (try clear hb); (try clear hb2); (try clear hk); (try clear hi); (try clear ho0); obtain ⟨Ao53, co53, eo53⟩ := Kd.R_slice HO504.out; subst eo53) | ((with_reducible refine gate_callee (f := 29) rfl ?_); refine goesL_ (some 63) rfl rfl Try.func29 (by kernel_rfl) rfl #[.slice Ao53 t502.length co53] rfl am ?_; (with_reducible refine (lots_Rank.calls kj10 _ _ t502 t505 _ ?side1 ?side2 A45.out).mono ?_); (case side1 => repeat (first | exact (Kd.R_reads' HO504.out).2.2 | (with_reducible refine Kd.C_alloc ?_ _) | (with_reducible refine Kd.C_drewN ?_ _) | (with_reducible refine Kd.C_drew ?_))); (case side2 => exact (Kd.R_reads' HO504.out).2.1); rintro e w54 ⟨v506, rfl, ho0, hb⟩; (try clear A45); refine ⟨_, rfl, ?_⟩; have n0_ := Aside0.mk (Kd.R_below (gR HO_3) hb); have n1_ := Aside0.mk (Kd.R_below (gR HO_6) hb); have n2_ := Aside0.mk (Kd.V_elder' (by (with_reducible repeat (first | apply Kd.V_alloc | apply Kd.V_drewN | apply Kd.V_drew)); exact HO_8.out) (Kd.R_base ho0) hb); have n3_ := Aside0.mk (Kd.R_elder' (gR HO504) (Kd.R_base ho0) hb); have n4_ := Aside0.mk (Kd.R_lower (Kd.R_newB (Kd.R_new' ho0 (Kd.R_lt (gR HO504))) (g := gb482) (o := .cells #[.string t472, .int .i64 t473, .string t474, .int .i64 t475, .int .i64 t476, .int .i64 t477, .string t478, .int .i64 t479, .int .i64 t480] 47 (0, 0)) (gK BK482)) (below_size (gS HB))); have n5_ := Aside0.mk (blk_below (g := gb482) (o := .cells #[.string t472, .int .i64 t473, .string t474, .int .i64 t475, .int .i64 t476, .int .i64 t477, .string t478, .int .i64 t479, .int .i64 t480] 47 (0, 0)) (gK BK482) hb); have n6_ := Aside0.mk (below_step (gS HB) hb); clear HO_3; clear HO_6; clear HO_8; clear HO504; clear BK482; clear HB; have HO_3 := n0_; have HO_6 := n1_; have HO_8 := n2_; have HO504 := n3_; have HO507 := n4_; have BK482 := n5_; have HB := n6_; clear n0_ n1_ n2_ n3_ n4_ n5_ n6_; (try clear hb); (try clear hb2); (try clear hk); (try clear hi); (try clear ho0); obtain ⟨Ao55, co55, eo55⟩ := Kd.R_slice HO507.out; subst eo55; obtain ⟨Ao56, co56, eo56⟩ := Kd.R_slice HO_3.out; subst eo56) | ((with_reducible refine gate_callee (f := 28) rfl ?_); refine goesL_ (some 65) rfl rfl Try.func28 (by kernel_rfl) rfl #[.slice Ao55 t505.length co55, .slice Ao56 t466.length co56] rfl am ?_; (with_reducible refine (lombardlaw17_same.calls kj10 _ _ t505 _ _ t466 true _ ?side1 ?side2 ?side3 ?side4 A46.out).mono ?_); (case side1 => repeat (first | exact (Kd.R_reads' HO507.out).2.2 | (with_reducible refine Kd.C_alloc ?_ _) | (with_reducible refine Kd.C_drewN ?_ _) | (with_reducible refine Kd.C_drew ?_))); (case side2 => exact (Kd.R_reads' HO507.out).2.1); (case side3 => repeat (first | exact (Kd.R_reads' HO_3.out).2.2 | (with_reducible refine Kd.C_alloc ?_ _) | (with_reducible refine Kd.C_drewN ?_ _) | (with_reducible refine Kd.C_drew ?_))); (case side4 => exact (Kd.R_reads' HO_3.out).2.1); rintro e w' ⟨rfl, ⟨nd, rfl⟩⟩; (try clear A46); refine ⟨_, rfl, ?_⟩; obtain ⟨Ao57, co57, eo57⟩ := Kd.R_slice HO_6.out; subst eo57; obtain ⟨Ao58, co58, eo58⟩ := Kd.V_slice HO_8.out; subst eo58) | (go_at_call 13; (with_reducible refine (lombardref10_Lots.calls kj10 _ _ t486 _ _ t490 true _ ?side1 ?side2 ?side3 ?side4 A48.out).mono ?_); (case side1 => repeat (first | exact (Kd.R_reads' HO_6.out).2.2 | (with_reducible refine Kd.C_alloc ?_ _) | (with_reducible refine Kd.C_drewN ?_ _) | (with_reducible refine Kd.C_drew ?_))); (case side2 => exact (Kd.R_reads' HO_6.out).2.1); (case side3 => repeat (first | exact (Kd.V_reads' HO_8.out).2.2 | (with_reducible refine Kd.C_alloc ?_ _) | (with_reducible refine Kd.C_drewN ?_ _) | (with_reducible refine Kd.C_drew ?_))); (case side4 => exact (Kd.V_reads' HO_8.out).2.1); rintro e w' ⟨rfl, ⟨nd, rfl⟩⟩; (try clear A48)) | (go_at_call 8; (with_reducible refine (lombardlaw17_awake.calls kj10  t510 _ A51.out htr_).mono ?_); rintro e w59 ⟨rfl, hb⟩; have n0_ := Aside0.mk (Kd.R_below (gR HO_3) hb); have n1_ := Aside0.mk (Kd.R_below (gR HO_6) hb); have n2_ := Aside0.mk (Kd.V_below (by (with_reducible repeat (first | apply Kd.V_alloc | apply Kd.V_drewN | apply Kd.V_drew)); exact HO_8.out) hb); have n3_ := Aside0.mk (Kd.R_below (gR HO504) hb); have n4_ := Aside0.mk (Kd.R_below (gR HO507) hb); have n5_ := Aside0.mk (blk_below (g := gb482) (o := .cells #[.string t472, .int .i64 t473, .string t474, .int .i64 t475, .int .i64 t476, .int .i64 t477, .string t478, .int .i64 t479, .int .i64 t480] 47 (0, 0)) (gK BK482) hb); have n6_ := Aside0.mk (below_step (gS HB) hb); clear HO_3; clear HO_6; clear HO_8; clear HO504; clear HO507; clear BK482; clear HB; have HO_3 := n0_; have HO_6 := n1_; have HO_8 := n2_; have HO504 := n3_; have HO507 := n4_; have BK482 := n5_; have HB := n6_; clear n0_ n1_ n2_ n3_ n4_ n5_ n6_; (try clear hb); (try clear hb2); (try clear hk); (try clear hi)))
             go_ret
             exact ⟨by first | rfl | (simp [errW_none, errW_some] <;> rfl) | (simp [*, errW_none, errW_some] <;> rfl), gS HB⟩
           · rw [if_neg c50] at H
             have c50b0 : (t487 == t493) = false := beq_eq_false_iff_ne.mpr c50
             have c50b1 : (t487 != t493) = true := bne_iff_ne.mpr c50
             exact absurd ((Option.some.inj H).trans htr_) (by decide)
         · replace c49 := Bool.eq_false_iff.mpr c49
           subst c49
           have H1 : (some false) = some r := by rw [if_neg (show ¬ (false = true) by decide)] at H; exact H
           clear H
           have H := H1
           clear H1
           exact absurd ((Option.some.inj H).trans htr_) (by decide)
       · replace c47 := Bool.eq_false_iff.mpr c47
         subst c47
         have H1 : (some false) = some r := by rw [if_neg (show ¬ (false = true) by decide)] at H; exact H
         clear H
         have H := H1
         clear H1
         exact absurd ((Option.some.inj H).trans htr_) (by decide)
end Go.Proofs.Ytjjemfbpodgihaa.X
