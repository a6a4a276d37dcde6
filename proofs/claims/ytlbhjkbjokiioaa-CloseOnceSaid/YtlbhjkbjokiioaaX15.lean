-- a shortened text: what this claim does not name is left out (wip/xprint/prune.py of this repo)
import Derived.Test.YtlbhjkbjokiioaaXMin
import Derived.Test.YtlbhjkbjokiioaaX0
namespace Go.Proofs.Ytlbhjkbjokiioaa.X
open Go.RowKit Go.Proofs.YtlbhjkbjokiioaaW.PrintWords Go.Proofs.YtlbhjkbjokiioaaW.PrintLast Go.Proofs.YtlbhjkbjokiioaaW.PrintMore
attribute [local go_sem] max2_int min2_int max_two min_two max_three min_three max_four min_four
set_option linter.unusedVariables false
set_option linter.unusedSimpArgs false
def q19q.l0 : Nat → List Int → Int → Int → Int → Option (Int × Int × Bool)
 | 0, _, _, _, _ => none
 | k + 1, x0, x5, x6, x7 => if x7 ≥ 0 then (if x7 ≥ 4 then (if 0 ≤ x7 then (if x7 < (x0.length : Int) then (q19q.l0 k x0 (IntKind.u64.wrap ((IntKind.u64.wrap (x5 * 65536)) + (rd x0 x7))) x6 (wrap64 (x7 - 1))) else (none)) else (none)) else (if 0 ≤ x7 then (if x7 < (x0.length : Int) then (q19q.l0 k x0 x5 (IntKind.u64.wrap ((IntKind.u64.wrap (x6 * 65536)) + (rd x0 x7))) (wrap64 (x7 - 1))) else (none)) else (none))) else (some (x5, x6, true))
def q19q.f (k : Nat) (l0 : List Int) : Option (Int × Int × Bool) := if (l0.length : Int) > 8 then (some (0, 0, false)) else (q19q.l0 k l0 0 0 (wrap64 ((l0.length : Int) - 1)))
theorem q19q.mono_l : ∀ k, (∀ y0 y1 y2 y3, LeO (q19q.l0 k y0 y1 y2 y3) (q19q.l0 (k + 1) y0 y1 y2 y3))
 | 0 => fun _ _ _ _ r h => by simp [q19q.l0] at h
 | k + 1 => by
  have ih0 := q19q.mono_l k
  · intro y0 y1 y2 y3
    unfold q19q.l0
    repeat' first
    | (with_reducible exact ih0 _ _ _ _)
    | (with_reducible exact LeO.refl _)
    | (with_reducible exact LeO.none _)
    | (with_reducible refine LeO.ite ?_ ?_)
    | (with_reducible refine LeO.bind ?_ (fun _ => ?_))
    | exact ih0 _ _ _ _
    | exact LeO.none _
    | refine LeO.ite ?_ ?_
    | refine LeO.bind ?_ (fun _ => ?_)
theorem q19q.mono : ∀ a0 k, LeO (q19q.f k a0) (q19q.f (k + 1) a0) := by
 intro a0 k
 have ih0 := q19q.mono_l k
 unfold q19q.f
 repeat' first
  | (with_reducible exact ih0 _ _ _ _)
  | (with_reducible exact LeO.refl _)
  | (with_reducible exact LeO.none _)
  | (with_reducible refine LeO.ite ?_ ?_)
  | (with_reducible refine LeO.bind ?_ (fun _ => ?_))
  | exact ih0 _ _ _ _
  | exact LeO.none _
  | refine LeO.ite ?_ ?_
  | refine LeO.bind ?_ (fun _ => ?_)
set_option maxHeartbeats 8000000 in
set_option maxRecDepth 100000 in
theorem q19q.calls (k : Nat) (A0 : Option Addr) (c0 : Nat) (l0 : List Int) (r1 : Int) (r2 : Int) (r3 : Bool) (w : World) (hr0 : Kd.C (Kd.int .u64) w A0 l0.length l0) (hc0 : l0.length ≤ c0) (h : q19q.f k l0 = some (r1, r2, r3)) :
 Calls Try.prog 46 #[.slice A0 l0.length c0] w fun e w' => e = .returned (.tuple #[.int .u64 r1, .int .u64 r2, .bool r3]) ∧ Drawn0 w w' := by
 have HR0 := Aside0.mk hr0; have HC0 := Aside0.mk hc0; clear hr0 hc0
 have H : (if (l0.length : Int) > 8 then (some (0, 0, false)) else (q19q.l0 k l0 0 0 (wrap64 ((l0.length : Int) - 1)))) = some (r1, r2, r3) := h
 clear h
 by_cases c2 : (l0.length : Int) > 8
 · rw [if_pos c2] at H
   have c2b0 : decide (8 < (l0.length : Int)) = true := decide_eq_true c2
   have c2b1 : decide (8 < l0.length) = true := decide_eq_true (by omega)
   clear c2
   simp only [Option.some.injEq, Prod.mk.injEq] at H
   obtain ⟨rfl, rfl, rfl⟩ := H
   go_enter Try.func46, Try.ntmps46
   go_wp2
   go_ret3
   exact dn
 · rw [if_neg c2] at H
   have c2b0 : decide (8 < (l0.length : Int)) = false := decide_eq_false c2
   have c2b1 : decide (8 < l0.length) = false := decide_eq_false (by omega)
   clear c2
   have H' := Aside0.mk H
   clear H
   go_enter Try.func46, Try.ntmps46
   go_wp2
   go_loopg [5, 6, 7] k (fun kq v5 v6 v7 w' => ∃ (x5_1 : Int) (x6_1 : Int) (x7_1 : Int), v5 = .int .u64 x5_1 ∧ v6 = .int .u64 x6_1 ∧ v7 = .int .i64 x7_1 ∧ Aside0 (q19q.l0 kq l0 x5_1 x6_1 x7_1 = some (r1, r2, r3)) ∧ Aside0 (kq ≤ k) ∧ Drawn0 w w')
   case atStart => exact ⟨(0), (0), (wrap64 ((l0.length : Int) - 1)), ac, ac, ac, H', ⟨Nat.le_refl _⟩, dr⟩
   case round =>
    clear H'; (try clear c2); (try clear c2b0); (try clear c2b1)
    obtain ⟨x5_1, x6_1, x7_1, rfl, rfl, rfl, HA, HK1, ⟨m1, rfl⟩⟩ := hrel
    cases gk with
    | zero => exact absurd HA.out (by simp [q19q.l0])
    | succ k1 =>
     have H := HA.out
     clear HA
     simp only [q19q.l0] at H
     by_cases c3 : x7_1 ≥ 0
     · rw [if_pos c3] at H
       have c3b0 : decide (0 ≤ x7_1) = true := decide_eq_true c3
       clear c3
       by_cases c4 : x7_1 ≥ 4
       · rw [if_pos c4] at H
         have c4b0 : decide (4 ≤ x7_1) = true := decide_eq_true c4
         clear c4
         by_cases c5 : 0 ≤ x7_1
         · rw [if_pos c5] at H
           have c5b0 := dT c5
           clear c5
           by_cases c6 : x7_1 < (l0.length : Int)
           · rw [if_pos c6] at H
             have c6b0 := dT c6
             clear c6
             have H' := Aside0.mk H
             clear H
             obtain ⟨⟨p441, q441⟩, ad441, rfl, hx441_0⟩ := za (Kd.at_int HR0.out) x7_1
             go_wp2
             go_roundg k1
             case measure => have := HK1.out; omega
             case rel => exact ⟨(IntKind.u64.wrap ((IntKind.u64.wrap (x5_1 * 65536)) + (rd l0 x7_1))), (x6_1), (wrap64 (x7_1 - 1)), ac, ac, ac, H', ⟨by have := HK1.out; omega⟩, dr⟩
           · rw [if_neg c6] at H
             exact absurd H (by simp)
         · rw [if_neg c5] at H
           exact absurd H (by simp)
       · rw [if_neg c4] at H
         have c4b0 : decide (4 ≤ x7_1) = false := decide_eq_false c4
         clear c4
         by_cases c7 : 0 ≤ x7_1
         · rw [if_pos c7] at H
           have c7b0 := dT c7
           clear c7
           by_cases c8 : x7_1 < (l0.length : Int)
           · rw [if_pos c8] at H
             have c8b0 := dT c8
             clear c8
             have H' := Aside0.mk H
             clear H
             obtain ⟨⟨p442, q442⟩, ad442, rfl, hx442_0⟩ := za (Kd.at_int HR0.out) x7_1
             go_wp2
             go_roundg k1
             case measure => have := HK1.out; omega
             case rel => exact ⟨(x5_1), (IntKind.u64.wrap ((IntKind.u64.wrap (x6_1 * 65536)) + (rd l0 x7_1))), (wrap64 (x7_1 - 1)), ac, ac, ac, H', ⟨by have := HK1.out; omega⟩, dr⟩
           · rw [if_neg c8] at H
             exact absurd H (by simp)
         · rw [if_neg c7] at H
           exact absurd H (by simp)
     · rw [if_neg c3] at H
       have c3b0 : decide (0 ≤ x7_1) = false := decide_eq_false c3
       clear c3
       simp only [Option.some.injEq, Prod.mk.injEq] at H
       obtain ⟨rfl, rfl, rfl⟩ := H
       go_wp2
       go_ret3
       exact dn
end Go.Proofs.Ytlbhjkbjokiioaa.X
