-- a shortened text: what this claim does not name is left out (wip/xprint/prune.py of this repo)
import Derived.Test.YtlbhjkbjokiioaaXMin
import Derived.Test.YtlbhjkbjokiioaaX0
import Derived.Test.YtlbhjkbjokiioaaX1
import Derived.Test.YtlbhjkbjokiioaaX10
import Derived.Test.YtlbhjkbjokiioaaX11
import Derived.Test.YtlbhjkbjokiioaaMD
import Derived.Test.YtlbhjkbjokiioaaX5
namespace Go.Proofs.Ytlbhjkbjokiioaa.X
open Go.RowKit Go.Proofs.YtlbhjkbjokiioaaW.PrintWords Go.Proofs.YtlbhjkbjokiioaaW.PrintLast Go.Proofs.YtlbhjkbjokiioaaW.PrintMore
attribute [local go_sem] max2_int min2_int max_two min_two max_three min_three max_four min_four
set_option linter.unusedVariables false
set_option linter.unusedSimpArgs false
attribute [local go_sem high] eqA63
def lombardref17_Qty.l0 : Nat → List (S63) → ByteArray → Int → Option (Int)
 | 0, _, _, _ => none
 | k + 1, x0, x1, x5 => if x5 < (x0.length : Int) then (if 0 ≤ x5 then (if ((rd_T63 x0 x5).f0).toList = x1.toList then (some ((rd_T63 x0 x5).f1)) else (lombardref17_Qty.l0 k x0 x1 (wrap64 (x5 + 1)))) else (none)) else (some 0)
def lombardref17_Qty.f (k : Nat) (l0 : List (S63)) (a1 : ByteArray) : Option (Int) := lombardref17_Qty.l0 k l0 a1 0
theorem lombardref17_Qty.mono_l : ∀ k, (∀ y0 y1 y2, LeO (lombardref17_Qty.l0 k y0 y1 y2) (lombardref17_Qty.l0 (k + 1) y0 y1 y2))
 | 0 => fun _ _ _ r h => by simp [lombardref17_Qty.l0] at h
 | k + 1 => by
  have ih0 := lombardref17_Qty.mono_l k
  · intro y0 y1 y2
    unfold lombardref17_Qty.l0
    repeat' first
    | (with_reducible exact ih0 _ _ _)
    | (with_reducible exact LeO.refl _)
    | (with_reducible exact LeO.none _)
    | (with_reducible refine LeO.ite ?_ ?_)
    | (with_reducible refine LeO.bind ?_ (fun _ => ?_))
    | exact ih0 _ _ _
    | exact LeO.none _
    | refine LeO.ite ?_ ?_
    | refine LeO.bind ?_ (fun _ => ?_)
theorem lombardref17_Qty.mono : ∀ a0 a1 k, LeO (lombardref17_Qty.f k a0 a1) (lombardref17_Qty.f (k + 1) a0 a1) := by
 intro a0 a1 k
 have ih0 := lombardref17_Qty.mono_l k
 unfold lombardref17_Qty.f
 repeat' first
  | (with_reducible exact ih0 _ _ _)
  | (with_reducible exact LeO.refl _)
  | (with_reducible exact LeO.none _)
  | (with_reducible refine LeO.ite ?_ ?_)
  | (with_reducible refine LeO.bind ?_ (fun _ => ?_))
  | exact ih0 _ _ _
  | exact LeO.none _
  | refine LeO.ite ?_ ?_
  | refine LeO.bind ?_ (fun _ => ?_)
set_option maxHeartbeats 8000000 in
set_option maxRecDepth 100000 in
theorem lombardref17_Qty.calls (k : Nat) (A0 : Option Addr) (c0 : Nat) (l0 : List (S63)) (a1 : ByteArray) (r : Int) (w : World) (hr0 : Kd.C k63 w A0 l0.length l0) (hc0 : l0.length ≤ c0) (h : lombardref17_Qty.f k l0 a1 = some r) :
 Calls Try.prog 20 #[.slice A0 l0.length c0, .string a1] w fun e w' => e = .returned (.int .i64 r) ∧ Drawn0 w w' := by
 have HR0 := Aside0.mk hr0; have HC0 := Aside0.mk hc0; clear hr0 hc0
 have H : (lombardref17_Qty.l0 k l0 a1 0) = some r := h
 clear h
 have H' := Aside0.mk H
 clear H
 go_enter Try.func20, Try.ntmps20
 go_wp2
 go_loopg [5] k (fun kq v5 w' => ∃ (x5_1 : Int), v5 = .int .i64 x5_1 ∧ Aside0 (lombardref17_Qty.l0 kq l0 a1 x5_1 = some r) ∧ Aside0 (kq ≤ k) ∧ Drawn0 w w')
 case atStart => exact ⟨(0), ac, H', ⟨Nat.le_refl _⟩, dr⟩
 case round =>
  clear H'
  obtain ⟨x5_1, rfl, HA, HK1, ⟨m1, rfl⟩⟩ := hrel
  cases gk with
  | zero => exact absurd HA.out (by simp [lombardref17_Qty.l0])
  | succ k1 =>
   have H := HA.out
   clear HA
   simp only [lombardref17_Qty.l0] at H
   by_cases c3 : x5_1 < (l0.length : Int)
   · rw [if_pos c3] at H
     have c3b0 := dT c3
     clear c3
     by_cases c4 : 0 ≤ x5_1
     · rw [if_pos c4] at H
       have c4b0 := dT c4
       clear c4
       by_cases c5 : ((rd_T63 l0 x5_1).f0).toList = a1.toList
       · rw [if_pos c5] at H
         have c5b0 : (((rd_T63 l0 x5_1).f0).toList == a1.toList) = true := beq_iff_eq.mpr c5
         have c5b1 : (((rd_T63 l0 x5_1).f0).toList != a1.toList) = false := bne_eq_false_iff_eq.mpr c5
         clear c5
         obtain rfl := Option.some.inj H
         obtain ⟨⟨p505, q505⟩, ad505, rfl, hx505_0, hx505_1⟩ := za (at_T63 HR0.out) x5_1
         obtain ⟨⟨p506, q506⟩, ad506, e506, hx506_0, hx506_1⟩ := za (at_T63 HR0.out) x5_1
         obtain rfl : ad505 = ad506 := (by injection e506)
         go_wp2
         go_ret
         exact dn
       · rw [if_neg c5] at H
         have c5b0 : (((rd_T63 l0 x5_1).f0).toList == a1.toList) = false := beq_eq_false_iff_ne.mpr c5
         have c5b1 : (((rd_T63 l0 x5_1).f0).toList != a1.toList) = true := bne_iff_ne.mpr c5
         have H' := Aside0.mk H
         clear H
         obtain ⟨⟨p505, q505⟩, ad505, rfl, hx505_0, hx505_1⟩ := za (at_T63 HR0.out) x5_1
         go_wp2
         go_roundg k1
         case measure => have := HK1.out; omega
         case rel => exact ⟨(wrap64 (x5_1 + 1)), ac, H', ⟨by have := HK1.out; omega⟩, dr⟩
     · rw [if_neg c4] at H
       exact absurd H (by simp)
   · rw [if_neg c3] at H
     have c3b0 := dF c3
     clear c3
     obtain rfl := Option.some.inj H
     go_wp2
     go_ret
     exact dn
end Go.Proofs.Ytlbhjkbjokiioaa.X
