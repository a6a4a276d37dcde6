-- a shortened text: what this claim does not name is left out (wip/xprint/prune.py of this repo)
import Derived.Test.YtlbhjkbjokiioaaXMin
import Derived.Test.YtlbhjkbjokiioaaX0
import Derived.Test.YtlbhjkbjokiioaaX4
namespace Go.Proofs.Ytlbhjkbjokiioaa.X
open Go.RowKit Go.Proofs.YtlbhjkbjokiioaaW.PrintWords Go.Proofs.YtlbhjkbjokiioaaW.PrintLast Go.Proofs.YtlbhjkbjokiioaaW.PrintMore
attribute [local go_sem] max2_int min2_int max_two min_two max_three min_three max_four min_four
set_option linter.unusedVariables false
set_option linter.unusedSimpArgs false
def q8q.l0 : Nat → List Int → List Int → Int → Option (Bool)
 | 0, _, _, _ => none
 | k + 1, x0, x1, x5 => if x5 < (x0.length : Int) then (if 0 ≤ x5 then (if x5 < (x1.length : Int) then (if (rd x0 x5) = (rd x1 x5) then (q8q.l0 k x0 x1 (wrap64 (x5 + 1))) else (some false)) else (none)) else (none)) else (some true)
def q8q.f (k : Nat) (l0 : List Int) (l1 : List Int) : Option (Bool) := if (l0.length : Int) = (l1.length : Int) then (q8q.l0 k l0 l1 0) else (some false)
theorem q8q.mono_l : ∀ k, (∀ y0 y1 y2, LeO (q8q.l0 k y0 y1 y2) (q8q.l0 (k + 1) y0 y1 y2))
 | 0 => fun _ _ _ r h => by simp [q8q.l0] at h
 | k + 1 => by
  have ih0 := q8q.mono_l k
  · intro y0 y1 y2
    unfold q8q.l0
    repeat' first
    | (with_reducible exact ih0 _ _ _)
    | (with_reducible exact LeO.refl _)
    | (with_reducible exact LeO.none _)
    | (with_reducible refine LeO.ite ?_ ?_)
    | (with_reducible refine LeO.bind ?_ (fun _ => ?_))
    | exact ih0 _ _ _
    | exact LeO.none _
    | refine LeO.ite ?_ ?_
    | refine LeO.bind ?_ (fun _ => ?_)
theorem q8q.mono : ∀ a0 a1 k, LeO (q8q.f k a0 a1) (q8q.f (k + 1) a0 a1) := by
 intro a0 a1 k
 have ih0 := q8q.mono_l k
 unfold q8q.f
 repeat' first
  | (with_reducible exact ih0 _ _ _)
  | (with_reducible exact LeO.refl _)
  | (with_reducible exact LeO.none _)
  | (with_reducible refine LeO.ite ?_ ?_)
  | (with_reducible refine LeO.bind ?_ (fun _ => ?_))
  | exact ih0 _ _ _
  | exact LeO.none _
  | refine LeO.ite ?_ ?_
  | refine LeO.bind ?_ (fun _ => ?_)
set_option maxHeartbeats 8000000 in
set_option maxRecDepth 100000 in
theorem q8q.calls (k : Nat) (A0 : Option Addr) (c0 : Nat) (l0 : List Int) (A1 : Option Addr) (c1 : Nat) (l1 : List Int) (r : Bool) (w : World) (hr0 : Kd.C (Kd.int .i64) w A0 l0.length l0) (hc0 : l0.length ≤ c0) (hr1 : Kd.C (Kd.int .i64) w A1 l1.length l1) (hc1 : l1.length ≤ c1) (h : q8q.f k l0 l1 = some r) :
 Calls Try.prog 12 #[.slice A0 l0.length c0, .slice A1 l1.length c1] w fun e w' => e = .returned (.bool r) ∧ Drawn0 w w' := by
 have HR0 := Aside0.mk hr0; have HC0 := Aside0.mk hc0; clear hr0 hc0; have HR1 := Aside0.mk hr1; have HC1 := Aside0.mk hc1; clear hr1 hc1
 have H : (if (l0.length : Int) = (l1.length : Int) then (q8q.l0 k l0 l1 0) else (some false)) = some r := h
 clear h
 by_cases c3 : (l0.length : Int) = (l1.length : Int)
 · rw [if_pos c3] at H
   have c3b0 : ((l0.length : Int) == (l1.length : Int)) = true := beq_iff_eq.mpr c3
   have c3b1 : ((l0.length : Int) != (l1.length : Int)) = false := bne_eq_false_iff_eq.mpr c3
   have c3b2 : (l0.length == l1.length) = true := by first | simpa using c3 | (simp at c3 ⊢; omega)
   clear c3
   have H' := Aside0.mk H
   clear H
   go_enter Try.func12, Try.ntmps12
   go_wp2
   repeat (go_quiet (fail); try go_wp2)
   go_loopg [5] k (fun kq v5 w' => ∃ (x5_1 : Int), v5 = .int .i64 x5_1 ∧ Aside0 (q8q.l0 kq l0 l1 x5_1 = some r) ∧ Aside0 (kq ≤ k) ∧ Drawn0 w w')
   case atStart => exact ⟨(0), ac, H', ⟨Nat.le_refl _⟩, dr⟩
   case round =>
    clear H'; (try clear c1); (try clear c3); (try clear c3b0); (try clear c3b1); (try clear c3b2)
    obtain ⟨x5_1, rfl, HA, HK1, ⟨m1, rfl⟩⟩ := hrel
    cases gk with
    | zero => exact absurd HA.out (by simp [q8q.l0])
    | succ k1 =>
     have H := HA.out
     clear HA
     simp only [q8q.l0] at H
     by_cases c4 : x5_1 < (l0.length : Int)
     · rw [if_pos c4] at H
       have c4b0 := dT c4
       clear c4
       by_cases c5 : 0 ≤ x5_1
       · rw [if_pos c5] at H
         have c5b0 := dT c5
         clear c5
         by_cases c6 : x5_1 < (l1.length : Int)
         · rw [if_pos c6] at H
           have c6b0 := dT c6
           clear c6
           by_cases c7 : (rd l0 x5_1) = (rd l1 x5_1)
           · rw [if_pos c7] at H
             have c7b0 : ((rd l0 x5_1) == (rd l1 x5_1)) = true := beq_iff_eq.mpr c7
             have c7b1 : ((rd l0 x5_1) != (rd l1 x5_1)) = false := bne_eq_false_iff_eq.mpr c7
             clear c7
             have H' := Aside0.mk H
             clear H
             obtain ⟨⟨p170, q170⟩, ad170, rfl, hx170_0⟩ := za (Kd.at_int HR0.out) x5_1
             obtain ⟨⟨p171, q171⟩, ad171, rfl, hx171_0⟩ := za (Kd.at_int HR1.out) x5_1
             go_wp2
             repeat (go_quiet (fail); try go_wp2)
             go_roundg k1
             case measure => have := HK1.out; omega
             case rel => exact ⟨(wrap64 (x5_1 + 1)), ac, H', ⟨by have := HK1.out; omega⟩, dr⟩
           · rw [if_neg c7] at H
             have c7b0 : ((rd l0 x5_1) == (rd l1 x5_1)) = false := beq_eq_false_iff_ne.mpr c7
             have c7b1 : ((rd l0 x5_1) != (rd l1 x5_1)) = true := bne_iff_ne.mpr c7
             obtain rfl := Option.some.inj H
             obtain ⟨⟨p170, q170⟩, ad170, rfl, hx170_0⟩ := za (Kd.at_int HR0.out) x5_1
             obtain ⟨⟨p171, q171⟩, ad171, rfl, hx171_0⟩ := za (Kd.at_int HR1.out) x5_1
             go_wp2
             repeat (go_quiet (fail); try go_wp2)
             go_ret
             exact dn
         · rw [if_neg c6] at H
           exact absurd H (by simp)
       · rw [if_neg c5] at H
         exact absurd H (by simp)
     · rw [if_neg c4] at H
       have c4b0 := dF c4
       clear c4
       obtain rfl := Option.some.inj H
       go_wp2
       repeat (go_quiet (fail); try go_wp2)
       go_ret
       exact dn
 · rw [if_neg c3] at H
   have c3b0 : ((l0.length : Int) == (l1.length : Int)) = false := beq_eq_false_iff_ne.mpr c3
   have c3b1 : ((l0.length : Int) != (l1.length : Int)) = true := bne_iff_ne.mpr c3
   have c3b2 : (l0.length == l1.length) = false := by first | simpa using c3 | (simp at c3 ⊢; omega)
   obtain rfl := Option.some.inj H
   go_enter Try.func12, Try.ntmps12
   go_wp2
   repeat (go_quiet (fail); try go_wp2)
   go_ret
   exact dn
def lombardlaw29_awake.f (k : Nat)  : Option (Bool) := (close_Fall.f k 100 (([(⟨(⟨#[97]⟩ : ByteArray), (([30] : List Int))⟩ : S67), (⟨(⟨#[98]⟩ : ByteArray), (([10, 20, 30] : List Int))⟩ : S67), (⟨(⟨#[99]⟩ : ByteArray), (([50] : List Int))⟩ : S67)] : List (S67)))).bind fun bt184 => (if bt184.2.2 = 0 then (if bt184.2.1 = 0 then (if (bt184.1.length : Int) = 3 then (if 0 < (bt184.1.length : Int) then ((q8q.f k ((rd_T34 bt184.1 0).f1) (([30] : List Int))).bind fun t193 => (if t193 = true then (if 1 < (bt184.1.length : Int) then ((q8q.f k ((rd_T34 bt184.1 1).f1) (([10, 20, 30] : List Int))).bind fun t198 => (if t198 = true then (if 2 < (bt184.1.length : Int) then ((q8q.f k ((rd_T34 bt184.1 2).f1) (([10] : List Int))).bind fun t203 => (some t203)) else (none)) else (some false))) else (none)) else (some false))) else (none)) else (some false)) else (some false)) else (some false))
theorem lombardlaw29_awake.mono : ∀ k, LeO (lombardlaw29_awake.f k ) (lombardlaw29_awake.f (k + 1) ) := by
 intro  k
 unfold lombardlaw29_awake.f
 repeat' first
  | (with_reducible exact close_Fall.mono _ _ _)
  | (with_reducible exact q8q.mono _ _ _)
  | (with_reducible exact LeO.refl _)
  | (with_reducible exact LeO.none _)
  | (with_reducible refine LeO.ite ?_ ?_)
  | (with_reducible refine LeO.bind ?_ (fun _ => ?_))
  | exact close_Fall.mono _ _ _
  | exact q8q.mono _ _ _
  | exact LeO.none _
  | refine LeO.ite ?_ ?_
  | refine LeO.bind ?_ (fun _ => ?_)
set_option maxHeartbeats 8000000 in
set_option maxRecDepth 100000 in
theorem lombardlaw29_awake.calls (k : Nat)  (r : Bool) (w : World) (h : lombardlaw29_awake.f k  = some r) (htr_ : r = true) :
 Calls Try.prog 8 #[] w fun e w' => e = .returned (.bool r) ∧ Below w.heap.size w w' := by
 have hu67 := Try.underlying67
 have HB := aK (Below.refl w.heap.size w)
 have H : ((close_Fall.f k 100 (([(⟨(⟨#[97]⟩ : ByteArray), (([30] : List Int))⟩ : S67), (⟨(⟨#[98]⟩ : ByteArray), (([10, 20, 30] : List Int))⟩ : S67), (⟨(⟨#[99]⟩ : ByteArray), (([50] : List Int))⟩ : S67)] : List (S67)))).bind fun bt184 => (if bt184.2.2 = 0 then (if bt184.2.1 = 0 then (if (bt184.1.length : Int) = 3 then (if 0 < (bt184.1.length : Int) then ((q8q.f k ((rd_T34 bt184.1 0).f1) (([30] : List Int))).bind fun t193 => (if t193 = true then (if 1 < (bt184.1.length : Int) then ((q8q.f k ((rd_T34 bt184.1 1).f1) (([10, 20, 30] : List Int))).bind fun t198 => (if t198 = true then (if 2 < (bt184.1.length : Int) then ((q8q.f k ((rd_T34 bt184.1 2).f1) (([10] : List Int))).bind fun t203 => (some t203)) else (none)) else (some false))) else (none)) else (some false))) else (none)) else (some false)) else (some false)) else (some false))) = some r := h
 clear h
 obtain ⟨y172, hy_⟩ : ∃ y_ : List Int, y_ = (([30] : List Int)) := ⟨_, rfl⟩
 replace H : ((close_Fall.f k 100 (([(⟨(⟨#[97]⟩ : ByteArray), y172⟩ : S67), (⟨(⟨#[98]⟩ : ByteArray), (([10, 20, 30] : List Int))⟩ : S67), (⟨(⟨#[99]⟩ : ByteArray), (([50] : List Int))⟩ : S67)] : List (S67)))).bind fun bt184 => (if bt184.2.2 = 0 then (if bt184.2.1 = 0 then (if (bt184.1.length : Int) = 3 then (if 0 < (bt184.1.length : Int) then ((q8q.f k ((rd_T34 bt184.1 0).f1) (([30] : List Int))).bind fun t193 => (if t193 = true then (if 1 < (bt184.1.length : Int) then ((q8q.f k ((rd_T34 bt184.1 1).f1) (([10, 20, 30] : List Int))).bind fun t198 => (if t198 = true then (if 2 < (bt184.1.length : Int) then ((q8q.f k ((rd_T34 bt184.1 2).f1) (([10] : List Int))).bind fun t203 => (some t203)) else (none)) else (some false))) else (none)) else (some false))) else (none)) else (some false)) else (some false)) else (some false))) = some r := h2
 have Ny172 := Aside0.mk hy_; clear hy_
 obtain ⟨y175, hy_⟩ : ∃ y_ : List Int, y_ = (([10, 20, 30] : List Int)) := ⟨_, rfl⟩
 replace H : ((close_Fall.f k 100 (([(⟨(⟨#[97]⟩ : ByteArray), y172⟩ : S67), (⟨(⟨#[98]⟩ : ByteArray), y175⟩ : S67), (⟨(⟨#[99]⟩ : ByteArray), (([50] : List Int))⟩ : S67)] : List (S67)))).bind fun bt184 => (if bt184.2.2 = 0 then (if bt184.2.1 = 0 then (if (bt184.1.length : Int) = 3 then (if 0 < (bt184.1.length : Int) then ((q8q.f k ((rd_T34 bt184.1 0).f1) (([30] : List Int))).bind fun t193 => (if t193 = true then (if 1 < (bt184.1.length : Int) then ((q8q.f k ((rd_T34 bt184.1 1).f1) (([10, 20, 30] : List Int))).bind fun t198 => (if t198 = true then (if 2 < (bt184.1.length : Int) then ((q8q.f k ((rd_T34 bt184.1 2).f1) (([10] : List Int))).bind fun t203 => (some t203)) else (none)) else (some false))) else (none)) else (some false))) else (none)) else (some false)) else (some false)) else (some false))) = some r := h2
 have Ny175 := Aside0.mk hy_; clear hy_
 obtain ⟨y178, hy_⟩ : ∃ y_ : List Int, y_ = (([50] : List Int)) := ⟨_, rfl⟩
 replace H : ((close_Fall.f k 100 (([(⟨(⟨#[97]⟩ : ByteArray), y172⟩ : S67), (⟨(⟨#[98]⟩ : ByteArray), y175⟩ : S67), (⟨(⟨#[99]⟩ : ByteArray), y178⟩ : S67)] : List (S67)))).bind fun bt184 => (if bt184.2.2 = 0 then (if bt184.2.1 = 0 then (if (bt184.1.length : Int) = 3 then (if 0 < (bt184.1.length : Int) then ((q8q.f k ((rd_T34 bt184.1 0).f1) (([30] : List Int))).bind fun t193 => (if t193 = true then (if 1 < (bt184.1.length : Int) then ((q8q.f k ((rd_T34 bt184.1 1).f1) (([10, 20, 30] : List Int))).bind fun t198 => (if t198 = true then (if 2 < (bt184.1.length : Int) then ((q8q.f k ((rd_T34 bt184.1 2).f1) (([10] : List Int))).bind fun t203 => (some t203)) else (none)) else (some false))) else (none)) else (some false))) else (none)) else (some false)) else (some false)) else (some false))) = some r := h2
 have Ny178 := Aside0.mk hy_; clear hy_
 obtain ⟨y181, hy_⟩ : ∃ y_ : List (S67), y_ = (([(⟨(⟨#[97]⟩ : ByteArray), y172⟩ : S67), (⟨(⟨#[98]⟩ : ByteArray), y175⟩ : S67), (⟨(⟨#[99]⟩ : ByteArray), y178⟩ : S67)] : List (S67))) := ⟨_, rfl⟩
 replace H : ((close_Fall.f k 100 y181).bind fun bt184 => (if bt184.2.2 = 0 then (if bt184.2.1 = 0 then (if (bt184.1.length : Int) = 3 then (if 0 < (bt184.1.length : Int) then ((q8q.f k ((rd_T34 bt184.1 0).f1) (([30] : List Int))).bind fun t193 => (if t193 = true then (if 1 < (bt184.1.length : Int) then ((q8q.f k ((rd_T34 bt184.1 1).f1) (([10, 20, 30] : List Int))).bind fun t198 => (if t198 = true then (if 2 < (bt184.1.length : Int) then ((q8q.f k ((rd_T34 bt184.1 2).f1) (([10] : List Int))).bind fun t203 => (some t203)) else (none)) else (some false))) else (none)) else (some false))) else (none)) else (some false)) else (some false)) else (some false))) = some r := h2
 have Ny181 := Aside0.mk hy_; clear hy_
 replace H := Option.bind_eq_some_iff.mp H
 obtain ⟨⟨t184, t185, t186⟩, A10, H⟩ := H
 replace H : (if t186 = 0 then (if t185 = 0 then (if (t184.length : Int) = 3 then (if 0 < (t184.length : Int) then ((q8q.f k ((rd_T34 t184 0).f1) (([30] : List Int))).bind fun t193 => (if t193 = true then (if 1 < (t184.length : Int) then ((q8q.f k ((rd_T34 t184 1).f1) (([10, 20, 30] : List Int))).bind fun t198 => (if t198 = true then (if 2 < (t184.length : Int) then ((q8q.f k ((rd_T34 t184 2).f1) (([10] : List Int))).bind fun t203 => (some t203)) else (none)) else (some false))) else (none)) else (some false))) else (none)) else (some false)) else (some false)) else (some false)) = some r := H
 have A1 := Aside0.mk A10; clear A10
 by_cases c2 : t186 = 0
 · rw [if_pos c2] at H
   have c2b0 : (t186 == 0) = true := beq_iff_eq.mpr c2
   have c2b1 : (t186 != 0) = false := bne_eq_false_iff_eq.mpr c2
   clear c2
   by_cases c3 : t185 = 0
   · rw [if_pos c3] at H
     have c3b0 : (t185 == 0) = true := beq_iff_eq.mpr c3
     have c3b1 : (t185 != 0) = false := bne_eq_false_iff_eq.mpr c3
     clear c3
     by_cases c4 : (t184.length : Int) = 3
     · rw [if_pos c4] at H
       have c4b0 : ((t184.length : Int) == 3) = true := beq_iff_eq.mpr c4
       have c4b1 : ((t184.length : Int) != 3) = false := bne_eq_false_iff_eq.mpr c4
       clear c4
       by_cases c5 : 0 < (t184.length : Int)
       · rw [if_pos c5] at H
         have c5b0 := dT c5
         have c5b1 : decide (0 < t184.length) = true := decide_eq_true (by omega)
         clear c5
         obtain ⟨y190, hy_⟩ : ∃ y_ : List Int, y_ = (([30] : List Int)) := ⟨_, rfl⟩
         replace H : ((q8q.f k ((rd_T34 t184 0).f1) y190).bind fun t193 => (if t193 = true then (if 1 < (t184.length : Int) then ((q8q.f k ((rd_T34 t184 1).f1) (([10, 20, 30] : List Int))).bind fun t198 => (if t198 = true then (if 2 < (t184.length : Int) then ((q8q.f k ((rd_T34 t184 2).f1) (([10] : List Int))).bind fun t203 => (some t203)) else (none)) else (some false))) else (none)) else (some false))) = some r := h2
         have Ny190 := Aside0.mk hy_; clear hy_
         replace H := Option.bind_eq_some_iff.mp H
         obtain ⟨t193, A60, H⟩ := H
         replace H : (if t193 = true then (if 1 < (t184.length : Int) then ((q8q.f k ((rd_T34 t184 1).f1) (([10, 20, 30] : List Int))).bind fun t198 => (if t198 = true then (if 2 < (t184.length : Int) then ((q8q.f k ((rd_T34 t184 2).f1) (([10] : List Int))).bind fun t203 => (some t203)) else (none)) else (some false))) else (none)) else (some false)) = some r := H
         have A6 := Aside0.mk A60; clear A60
         by_cases c7 : t193 = true
         · subst c7
           replace H : (if 1 < (t184.length : Int) then ((q8q.f k ((rd_T34 t184 1).f1) (([10, 20, 30] : List Int))).bind fun t198 => (if t198 = true then (if 2 < (t184.length : Int) then ((q8q.f k ((rd_T34 t184 2).f1) (([10] : List Int))).bind fun t203 => (some t203)) else (none)) else (some false))) else (none)) = some r := by rw [if_pos rfl] at H; exact H
           by_cases c8 : 1 < (t184.length : Int)
           · rw [if_pos c8] at H
             have c8b0 := dT c8
             have c8b1 : decide (1 < t184.length) = true := decide_eq_true (by omega)
             clear c8
             obtain ⟨y195, hy_⟩ : ∃ y_ : List Int, y_ = (([10, 20, 30] : List Int)) := ⟨_, rfl⟩
             replace H : ((q8q.f k ((rd_T34 t184 1).f1) y195).bind fun t198 => (if t198 = true then (if 2 < (t184.length : Int) then ((q8q.f k ((rd_T34 t184 2).f1) (([10] : List Int))).bind fun t203 => (some t203)) else (none)) else (some false))) = some r := h2
             have Ny195 := Aside0.mk hy_; clear hy_
             replace H := Option.bind_eq_some_iff.mp H
             obtain ⟨t198, A90, H⟩ := H
             replace H : (if t198 = true then (if 2 < (t184.length : Int) then ((q8q.f k ((rd_T34 t184 2).f1) (([10] : List Int))).bind fun t203 => (some t203)) else (none)) else (some false)) = some r := H
             have A9 := Aside0.mk A90; clear A90
             by_cases c10 : t198 = true
             · subst c10
               replace H : (if 2 < (t184.length : Int) then ((q8q.f k ((rd_T34 t184 2).f1) (([10] : List Int))).bind fun t203 => (some t203)) else (none)) = some r := by rw [if_pos rfl] at H; exact H
               by_cases c11 : 2 < (t184.length : Int)
               · rw [if_pos c11] at H
                 have c11b0 := dT c11
                 have c11b1 : decide (2 < t184.length) = true := decide_eq_true (by omega)
                 clear c11
                 obtain ⟨y200, hy_⟩ : ∃ y_ : List Int, y_ = (([10] : List Int)) := ⟨_, rfl⟩
                 replace H : ((q8q.f k ((rd_T34 t184 2).f1) y200).bind fun t203 => (some t203)) = some r := h2
                 have Ny200 := Aside0.mk hy_; clear hy_
                 replace H := Option.bind_eq_some_iff.mp H
                 obtain ⟨t203, A120, H⟩ := H
                 replace H : (some t203) = some r := H
                 have A12 := Aside0.mk A120; clear A120
                 obtain rfl := Option.some.inj H
                 go_enter Try.func8, Try.ntmps8
                 go_wp2_with (first | ((with_reducible refine gate_dst (N := 5) rfl ?_); (try (refine gate_guard (by rfl) ?_; dsimp only)); refine Kd.R_lit (Kd.int .i64) _ 3 ?hg (N := 5) ?hd (xs := ([30] : List Int)) (inner := [.int .i64 30]) (ok := fun _ => True) (okp := fun _ => True) ?hr ?hp (fun _ hk => hk) trivial (Below.refl _ _) (Nat.le_refl _) (by simp) ?_; (case hd => rfl); (case hg => rfl); (case hr => first | (go_simp; done) | (go_simp; rfl) | (have hcq := hcq_.out; have hfq := hfq_.out; go_simp; done)); (case hp => exact (Reps.one (show Kd.M (Kd.int .i64) _ _ _ 30 [.int .i64 30] from rfl) (Reps.none _ _))); intro v173 w13 ho14 hb hg_ hnew_; clear hg_ hnew_; (first | rw [← Ny172.out] at ho14 | (simp only [Int.reduceToNat] at ho14; rw [← Ny172.out] at ho14)); have HO174 := aK (Kd.R_lower ho14 (below_size (gB HB))); replace HB := aK (below_step (gB HB) hb); clear hb ho14; obtain ⟨Ao15, co15, eo15⟩ := Kd.R_slice HO174.out; subst eo15) | ((with_reducible refine gate_dst (N := 7) rfl ?_); (try (refine gate_guard (by rfl) ?_; dsimp only)); refine Kd.R_lit (Kd.int .i64) _ 3 ?hg (N := 7) ?hd (xs := ([10, 20, 30] : List Int)) (inner := [.int .i64 10, .int .i64 20, .int .i64 30]) (ok := fun _ => True) (okp := fun _ => True) ?hr ?hp (fun _ hk => hk) trivial (Below.refl _ _) (Nat.le_refl _) (by simp) ?_; (case hd => rfl); (case hg => rfl); (case hr => first | (go_simp; done) | (go_simp; rfl) | (have hcq := hcq_.out; have hfq := hfq_.out; go_simp; done)); (case hp => exact (Reps.one (show Kd.M (Kd.int .i64) _ _ _ 10 [.int .i64 10] from rfl) (Reps.one (show Kd.M (Kd.int .i64) _ _ _ 20 [.int .i64 20] from rfl) (Reps.one (show Kd.M (Kd.int .i64) _ _ _ 30 [.int .i64 30] from rfl) (Reps.none _ _))))); intro v176 w16 ho17 hb hg_ hnew_; clear hg_ hnew_; (first | rw [← Ny175.out] at ho17 | (simp only [Int.reduceToNat] at ho17; rw [← Ny175.out] at ho17)); have HO177 := aK (Kd.R_lower (Kd.R_new' ho17 (Kd.R_lt (gR HO174))) (below_size (gB HB))); replace HO174 := aK (Kd.R_elder' (gR HO174) (Kd.R_base ho17) hb); replace HB := aK (below_step (gB HB) hb); clear hb ho17; obtain ⟨Ao18, co18, eo18⟩ := Kd.R_slice HO177.out; subst eo18) | ((with_reducible refine gate_dst (N := 9) rfl ?_); (try (refine gate_guard (by rfl) ?_; dsimp only)); refine Kd.R_lit (Kd.int .i64) _ 3 ?hg (N := 9) ?hd (xs := ([50] : List Int)) (inner := [.int .i64 50]) (ok := fun _ => True) (okp := fun _ => True) ?hr ?hp (fun _ hk => hk) trivial (Below.refl _ _) (Nat.le_refl _) (by simp) ?_; (case hd => rfl); (case hg => rfl); (case hr => first | (go_simp; done) | (go_simp; rfl) | (have hcq := hcq_.out; have hfq := hfq_.out; go_simp; done)); (case hp => exact (Reps.one (show Kd.M (Kd.int .i64) _ _ _ 50 [.int .i64 50] from rfl) (Reps.none _ _))); intro v179 w19 ho20 hb hg_ hnew_; clear hg_ hnew_; (first | rw [← Ny178.out] at ho20 | (simp only [Int.reduceToNat] at ho20; rw [← Ny178.out] at ho20)); have HO180 := aK (Kd.R_lower (Kd.R_new' (Kd.R_new' ho20 (Kd.R_lt (gR HO174))) (Kd.R_lt (gR HO177))) (below_size (gB HB))); replace HO174 := aK (Kd.R_elder' (gR HO174) (Kd.R_base ho20) hb); replace HO177 := aK (Kd.R_elder' (gR HO177) (Kd.R_base ho20) hb); replace HB := aK (below_step (gB HB) hb); clear hb ho20; obtain ⟨Ao21, co21, eo21⟩ := Kd.R_slice HO180.out; subst eo21) | ((with_reducible refine gate_dst (N := 11) rfl ?_); (try (refine gate_guard (by rfl) ?_; dsimp only)); refine Kd.N_lit k67 _ 67 ?hg (N' := 11) ?hd (xs := ([(⟨(⟨#[97]⟩ : ByteArray), y172⟩ : S67), (⟨(⟨#[98]⟩ : ByteArray), y175⟩ : S67), (⟨(⟨#[99]⟩ : ByteArray), y178⟩ : S67)] : List (S67))) (inner := [.string (⟨#[97]⟩ : ByteArray), .slice Ao15 y172.length co15, .string (⟨#[98]⟩ : ByteArray), .slice Ao18 y175.length co18, .string (⟨#[99]⟩ : ByteArray), .slice Ao21 y178.length co21]) (ok := (fun _ => True)) (okp := (fun _ => True)) ?hr ?hp (fun _ hk => hk) ((show ∀ k_, w19.heap.size ≤ k_ → (fun _ => True) k_ from fun k_ hk => trivial) _ (Nat.le_refl _)) (Below.refl _ _) (Nat.le_refl _) (by simp) ?_; (case hd => rfl); (case hg => rfl); (case hr => first | (go_simp; done) | (go_simp; rfl) | (have hcq := hcq_.out; have hfq := hfq_.out; go_simp; done)); (case hp => exact (Reps.c2 (show Kd.FK k67 _ _ (⟨(⟨#[97]⟩ : ByteArray), y172⟩ : S67) [.string (⟨#[97]⟩ : ByteArray), .slice Ao15 y172.length co15] from (k67_mkF _ _ (⟨(⟨#[97]⟩ : ByteArray), y172⟩ : S67) (Kd.R_reads' (Kd.R_mono (ok' := (fun _ => True)) (HO174.out) (fun k_ hk => trivial))).2.1 (Kd.R_F (Kd.R_mono (ok' := (fun _ => True)) (HO174.out) (fun k_ hk => trivial))))) (Reps.c2 (show Kd.FK k67 _ _ (⟨(⟨#[98]⟩ : ByteArray), y175⟩ : S67) [.string (⟨#[98]⟩ : ByteArray), .slice Ao18 y175.length co18] from (k67_mkF _ _ (⟨(⟨#[98]⟩ : ByteArray), y175⟩ : S67) (Kd.R_reads' (Kd.R_mono (ok' := (fun _ => True)) (HO177.out) (fun k_ hk => trivial))).2.1 (Kd.R_F (Kd.R_mono (ok' := (fun _ => True)) (HO177.out) (fun k_ hk => trivial))))) (Reps.c2 (show Kd.FK k67 _ _ (⟨(⟨#[99]⟩ : ByteArray), y178⟩ : S67) [.string (⟨#[99]⟩ : ByteArray), .slice Ao21 y178.length co21] from (k67_mkF _ _ (⟨(⟨#[99]⟩ : ByteArray), y178⟩ : S67) (Kd.R_reads' (Kd.R_mono (ok' := (fun _ => True)) (HO180.out) (fun k_ hk => trivial))).2.1 (Kd.R_F (Kd.R_mono (ok' := (fun _ => True)) (HO180.out) (fun k_ hk => trivial))))) (Reps.none _ _))))); intro v182 w22 ho23 hb hg_ hnew_; clear hg_ hnew_; (first | rw [← Ny181.out] at ho23 | (simp only [Int.reduceToNat] at ho23; rw [← Ny181.out] at ho23)); have HO183 := aK (Kd.N_lower ho23 (below_size (gB HB))); replace HB := aK (below_step (gB HB) hb); clear HO174; clear HO177; clear HO180; clear hb ho23; obtain ⟨Ao24, co24, eo24⟩ := Kd.N_slice HO183.out; subst eo24) | ((with_reducible refine gate_callee (f := 9) rfl ?_); refine goesL_ (some 12) rfl rfl Try.func9 (by kernel_rfl) rfl #[.int .i64 100, .slice Ao24 y181.length co24] rfl am ?_; (with_reducible refine (close_Fall.calls k 100 _ _ y181 t184 t185 t186 _ ?side1 ?side2 A1.out).mono ?_); (case side1 => repeat (first | exact (Kd.N_reads' HO183.out).2.2 | (with_reducible refine Kd.C_alloc ?_ _) | (with_reducible refine Kd.C_drewN ?_ _) | (with_reducible refine Kd.C_drew ?_))); (case side2 => exact (Kd.N_reads' HO183.out).2.1); rintro e w25 ⟨v187, rfl, ho0, hb⟩; refine ⟨_, rfl, ?_⟩; have HO188 := aK (Kd.N_lower (Kd.N_mono (ok' := fun k_ => some k_ ≠ (.slice Ao24 y181.length co24 : Value).ownBlock) (Kd.S_N (Kd.S_bound ho0)) (fun k_ hk_ => (Kd.fresh' (Kd.N_lt (by (with_reducible repeat (first | apply Kd.N_alloc | apply Kd.N_drewN | apply Kd.N_drew)); exact HO183.out)) k_ hk_.2.1))) (below_size (gB HB))); replace HO183 := aK (Kd.N_elder' (by (with_reducible repeat (first | apply Kd.N_alloc | apply Kd.N_drewN | apply Kd.N_drew)); exact HO183.out) (by first | exact Kd.N_base ho0 | exact Kd.S_base ho0 | exact Kd.R_base ho0) hb); replace HB := aK (below_step (gB HB) hb); (try clear hb); (try clear hb2); (try clear hk); (try clear hi); (try clear ho0); obtain ⟨Ao26, co26, eo26⟩ := Kd.N_slice HO188.out; subst eo26; have p189 : 0 ≤ (0 : Int) := (by omega); have q189 : 0 < (t184.length : Int) := od; obtain ⟨ad189, A189_1, c189_1, e189, hx189_0, hx189_1, hl189_1, hi189_1⟩ := at_T34 (Kd.N_reads' HO188.out).2.2 0 p189 q189; cases e189; obtain ⟨ce189, hce189, hMe189, hcc189⟩ := Kd.N_get HO188.out z34 0 p189 (by first | exact q189 | exact od | (have e_ := (Kd.N_reads' HO188.out).1; omega)); obtain ⟨ua189_1, uc189_1, rfl, ul189_1, ge189_1⟩ := k34_openF hMe189; have hv189_1 := hcc189 1 _ rfl; rw [add_field _ _ 1 (by omega)] at hv189_1; replace hv189_1 := Option.some.inj (hv189_1.symm.trans hx189_1); injection hv189_1 with hva_ hvn_ hvc_; rw [hva_] at ge189_1; rw [hvc_] at ul189_1; have HL189_1 := aK (show Kd.V (Kd.int .i64) 3 _ w.heap.size _ _ ((rd_T34 t184 0).f1) from Kd.V_mk ul189_1 ge189_1); clear hva_ hvn_ hvc_ ge189_1 ul189_1; clear hcc189 hce189; have qi189 : (0 < t184.length) = True := eq_true (by omega); (try rw [show ((0 : Int)).toNat = 0 from rfl] at hx189_0); (try rw [show 0 * 2 = 0 from rfl] at hx189_0); (try rw [Addr.add_zero'] at hx189_0); (try rw [show ((0 : Int)).toNat = 0 from rfl] at hx189_1); (try rw [show 0 * 2 = 0 from rfl] at hx189_1); (try rw [Addr.add_zero'] at hx189_1); have HR189_1 := Aside0.mk hi189_1; have HC189_1 := Aside0.mk hl189_1; clear hi189_1 hl189_1; replace p189 := eq_true p189; replace q189 := eq_true q189) | ((with_reducible refine gate_dst (N := 32) rfl ?_); (try (refine gate_guard (by rfl) ?_; dsimp only)); refine Kd.R_lit (Kd.int .i64) _ 3 ?hg (N := 32) ?hd (xs := ([30] : List Int)) (inner := [.int .i64 30]) (ok := fun _ => True) (okp := fun _ => True) ?hr ?hp (fun _ hk => hk) trivial (Below.refl _ _) (Nat.le_refl _) (by simp) ?_; (case hd => rfl); (case hg => rfl); (case hr => first | (go_simp; done) | (go_simp; rfl) | (have hcq := hcq_.out; have hfq := hfq_.out; go_simp; done)); (case hp => exact (Reps.one (show Kd.M (Kd.int .i64) _ _ _ 30 [.int .i64 30] from rfl) (Reps.none _ _))); intro v191 w27 ho28 hb hg_ hnew_; clear hg_ hnew_; (first | rw [← Ny190.out] at ho28 | (simp only [Int.reduceToNat] at ho28; rw [← Ny190.out] at ho28)); replace HO183 := aK (Kd.N_elder' (by (with_reducible repeat (first | apply Kd.N_alloc | apply Kd.N_drewN | apply Kd.N_drew)); exact HO183.out) (Kd.R_base ho28) hb); replace HO188 := aK (Kd.N_elder' (by (with_reducible repeat (first | apply Kd.N_alloc | apply Kd.N_drewN | apply Kd.N_drew)); exact HO188.out) (Kd.R_base ho28) hb); have HO192 := aK (Kd.R_lower ho28 (below_size (gB HB))); replace HR189_1 := aK (Kd.C_below (by repeat (first | (with_reducible exact HR189_1.out) | (with_reducible refine Kd.C_alloc ?_ _) | (with_reducible refine Kd.C_drewN ?_ _) | (with_reducible refine Kd.C_drew ?_) | exact HR189_1.out | exact (Kd.V_reads' HL189_1.out).2.2)) hb); replace HL189_1 := aK (Kd.V_elder' (by (with_reducible repeat (first | apply Kd.V_alloc | apply Kd.V_drewN | apply Kd.V_drew)); exact HL189_1.out) (Kd.R_base ho28) hb); replace HB := aK (below_step (gB HB) hb); clear hb ho28; obtain ⟨Ao29, co29, eo29⟩ := Kd.R_slice HO192.out; subst eo29) | (go_at_call 12; (with_reducible refine (q8q.calls k _ _ ((rd_T34 t184 0).f1) _ _ y190 true _ ?side1 ?side2 ?side3 ?side4 A6.out).mono ?_); (case side1 => repeat (first | exact (by repeat (first | (with_reducible exact HR189_1.out) | (with_reducible refine Kd.C_alloc ?_ _) | (with_reducible refine Kd.C_drewN ?_ _) | (with_reducible refine Kd.C_drew ?_) | exact HR189_1.out | exact (Kd.V_reads' HL189_1.out).2.2)) | (with_reducible refine Kd.C_alloc ?_ _) | (with_reducible refine Kd.C_drewN ?_ _) | (with_reducible refine Kd.C_drew ?_))); (case side2 => exact HC189_1.out); (case side3 => repeat (first | exact (Kd.R_reads' HO192.out).2.2 | (with_reducible refine Kd.C_alloc ?_ _) | (with_reducible refine Kd.C_drewN ?_ _) | (with_reducible refine Kd.C_drew ?_))); (case side4 => exact (Kd.R_reads' HO192.out).2.1); rintro e w' ⟨rfl, ⟨nd, rfl⟩⟩; have p194 : 0 ≤ (1 : Int) := (by omega); have q194 : 1 < (t184.length : Int) := od; obtain ⟨ad194, A194_1, c194_1, e194, hx194_0, hx194_1, hl194_1, hi194_1⟩ := at_T34 (Kd.N_reads' HO188.out).2.2 1 p194 q194; obtain rfl : ad189 = ad194 := (by injection e194); obtain ⟨ce194, hce194, hMe194, hcc194⟩ := Kd.N_get HO188.out z34 1 p194 (by first | exact q194 | exact od | (have e_ := (Kd.N_reads' HO188.out).1; omega)); obtain ⟨ua194_1, uc194_1, rfl, ul194_1, ge194_1⟩ := k34_openF hMe194; have hv194_1 := hcc194 1 _ rfl; rw [add_field _ _ 1 (by omega)] at hv194_1; replace hv194_1 := Option.some.inj (hv194_1.symm.trans hx194_1); injection hv194_1 with hva_ hvn_ hvc_; rw [hva_] at ge194_1; rw [hvc_] at ul194_1; have HL194_1 := aK (show Kd.V (Kd.int .i64) 3 _ w.heap.size _ _ ((rd_T34 t184 1).f1) from Kd.V_mk ul194_1 ge194_1); clear hva_ hvn_ hvc_ ge194_1 ul194_1; clear hcc194 hce194; (try simp only [show (1 : Int).toNat = 1 from rfl, Nat.reduceMul, Nat.reduceEqDiff, Go.Addr.add, ↓reduceIte] at hx194_0); (try simp only [show (1 : Int).toNat = 1 from rfl, Nat.reduceMul, Nat.reduceEqDiff, Go.Addr.add, ↓reduceIte] at hx194_1); have qi194 : (1 < t184.length) = True := eq_true (by omega); (try rw [show ((1 : Int)).toNat = 1 from rfl] at hx194_0); (try rw [show 1 * 2 = 2 from rfl] at hx194_0); (try rw [show ((1 : Int)).toNat = 1 from rfl] at hx194_1); (try rw [show 1 * 2 = 2 from rfl] at hx194_1); have HR194_1 := Aside0.mk hi194_1; have HC194_1 := Aside0.mk hl194_1; clear hi194_1 hl194_1; replace p194 := eq_true p194; replace q194 := eq_true q194) | ((with_reducible refine gate_dst (N := 40) rfl ?_); (try (refine gate_guard (by rfl) ?_; dsimp only)); refine Kd.R_lit (Kd.int .i64) _ 3 ?hg (N := 40) ?hd (xs := ([10, 20, 30] : List Int)) (inner := [.int .i64 10, .int .i64 20, .int .i64 30]) (ok := fun _ => True) (okp := fun _ => True) ?hr ?hp (fun _ hk => hk) trivial (Below.refl _ _) (Nat.le_refl _) (by simp) ?_; (case hd => rfl); (case hg => rfl); (case hr => first | (go_simp; done) | (go_simp; rfl) | (have hcq := hcq_.out; have hfq := hfq_.out; go_simp; done)); (case hp => exact (Reps.one (show Kd.M (Kd.int .i64) _ _ _ 10 [.int .i64 10] from rfl) (Reps.one (show Kd.M (Kd.int .i64) _ _ _ 20 [.int .i64 20] from rfl) (Reps.one (show Kd.M (Kd.int .i64) _ _ _ 30 [.int .i64 30] from rfl) (Reps.none _ _))))); intro v196 w30 ho31 hb hg_ hnew_; clear hg_ hnew_; (first | rw [← Ny195.out] at ho31 | (simp only [Int.reduceToNat] at ho31; rw [← Ny195.out] at ho31)); replace HO183 := aK (Kd.N_elder' (by (with_reducible repeat (first | apply Kd.N_alloc | apply Kd.N_drewN | apply Kd.N_drew)); exact HO183.out) (Kd.R_base ho31) hb); replace HO188 := aK (Kd.N_elder' (by (with_reducible repeat (first | apply Kd.N_alloc | apply Kd.N_drewN | apply Kd.N_drew)); exact HO188.out) (Kd.R_base ho31) hb); have HO197 := aK (Kd.R_lower (Kd.R_new' ho31 (Kd.R_lt (gR HO192))) (below_size (gB HB))); replace HO192 := aK (Kd.R_elder' (gR HO192) (Kd.R_base ho31) hb); replace HR189_1 := aK (Kd.C_below (by repeat (first | (with_reducible exact HR189_1.out) | (with_reducible refine Kd.C_alloc ?_ _) | (with_reducible refine Kd.C_drewN ?_ _) | (with_reducible refine Kd.C_drew ?_) | exact HR189_1.out | exact (Kd.V_reads' HL189_1.out).2.2)) hb); replace HL189_1 := aK (Kd.V_elder' (by (with_reducible repeat (first | apply Kd.V_alloc | apply Kd.V_drewN | apply Kd.V_drew)); exact HL189_1.out) (Kd.R_base ho31) hb); replace HR194_1 := aK (Kd.C_below (by repeat (first | (with_reducible exact HR194_1.out) | (with_reducible refine Kd.C_alloc ?_ _) | (with_reducible refine Kd.C_drewN ?_ _) | (with_reducible refine Kd.C_drew ?_) | exact HR194_1.out | exact (Kd.V_reads' HL194_1.out).2.2)) hb); replace HL194_1 := aK (Kd.V_elder' (by (with_reducible repeat (first | apply Kd.V_alloc | apply Kd.V_drewN | apply Kd.V_drew)); exact HL194_1.out) (Kd.R_base ho31) hb); replace HB := aK (below_step (gB HB) hb); clear hb ho31; obtain ⟨Ao32, co32, eo32⟩ := Kd.R_slice HO197.out; subst eo32) | (go_at_call 12; (with_reducible refine (q8q.calls k _ _ ((rd_T34 t184 1).f1) _ _ y195 true _ ?side1 ?side2 ?side3 ?side4 A9.out).mono ?_); (case side1 => repeat (first | exact (by repeat (first | (with_reducible exact HR194_1.out) | (with_reducible refine Kd.C_alloc ?_ _) | (with_reducible refine Kd.C_drewN ?_ _) | (with_reducible refine Kd.C_drew ?_) | exact HR194_1.out | exact (Kd.V_reads' HL194_1.out).2.2)) | (with_reducible refine Kd.C_alloc ?_ _) | (with_reducible refine Kd.C_drewN ?_ _) | (with_reducible refine Kd.C_drew ?_))); (case side2 => exact HC194_1.out); (case side3 => repeat (first | exact (Kd.R_reads' HO197.out).2.2 | (with_reducible refine Kd.C_alloc ?_ _) | (with_reducible refine Kd.C_drewN ?_ _) | (with_reducible refine Kd.C_drew ?_))); (case side4 => exact (Kd.R_reads' HO197.out).2.1); rintro e w' ⟨rfl, ⟨nd, rfl⟩⟩; have p199 : 0 ≤ (2 : Int) := (by omega); have q199 : 2 < (t184.length : Int) := od; obtain ⟨ad199, A199_1, c199_1, e199, hx199_0, hx199_1, hl199_1, hi199_1⟩ := at_T34 (Kd.N_reads' HO188.out).2.2 2 p199 q199; obtain rfl : ad189 = ad199 := (by injection e199); obtain ⟨ce199, hce199, hMe199, hcc199⟩ := Kd.N_get HO188.out z34 2 p199 (by first | exact q199 | exact od | (have e_ := (Kd.N_reads' HO188.out).1; omega)); obtain ⟨ua199_1, uc199_1, rfl, ul199_1, ge199_1⟩ := k34_openF hMe199; have hv199_1 := hcc199 1 _ rfl; rw [add_field _ _ 1 (by omega)] at hv199_1; replace hv199_1 := Option.some.inj (hv199_1.symm.trans hx199_1); injection hv199_1 with hva_ hvn_ hvc_; rw [hva_] at ge199_1; rw [hvc_] at ul199_1; have HL199_1 := aK (show Kd.V (Kd.int .i64) 3 _ w.heap.size _ _ ((rd_T34 t184 2).f1) from Kd.V_mk ul199_1 ge199_1); clear hva_ hvn_ hvc_ ge199_1 ul199_1; clear hcc199 hce199; (try simp only [show (2 : Int).toNat = 2 from rfl, Nat.reduceMul, Nat.reduceEqDiff, Go.Addr.add, ↓reduceIte] at hx199_0); (try simp only [show (2 : Int).toNat = 2 from rfl, Nat.reduceMul, Nat.reduceEqDiff, Go.Addr.add, ↓reduceIte] at hx199_1); have qi199 : (2 < t184.length) = True := eq_true (by omega); (try rw [show ((2 : Int)).toNat = 2 from rfl] at hx199_0); (try rw [show 2 * 2 = 4 from rfl] at hx199_0); (try rw [show ((2 : Int)).toNat = 2 from rfl] at hx199_1); (try rw [show 2 * 2 = 4 from rfl] at hx199_1); have HR199_1 := Aside0.mk hi199_1; have HC199_1 := Aside0.mk hl199_1; clear hi199_1 hl199_1; replace p199 := eq_true p199; replace q199 := eq_true q199) | ((with_reducible refine gate_dst (N := 48) rfl ?_); (try (refine gate_guard (by rfl) ?_; dsimp only)); refine Kd.R_lit (Kd.int .i64) _ 3 ?hg (N := 48) ?hd (xs := ([10] : List Int)) (inner := [.int .i64 10]) (ok := fun _ => True) (okp := fun _ => True) ?hr ?hp (fun _ hk => hk) trivial (Below.refl _ _) (Nat.le_refl _) (by simp) ?_; (case hd => rfl); (case hg => rfl); (case hr => first | (go_simp; done) | (go_simp; rfl) | (have hcq := hcq_.out; have hfq := hfq_.out; go_simp; done)); (case hp => exact (Reps.one (show Kd.M (Kd.int .i64) _ _ _ 10 [.int .i64 10] from rfl) (Reps.none _ _))); intro v201 w33 ho34 hb hg_ hnew_; clear hg_ hnew_; (first | rw [← Ny200.out] at ho34 | (simp only [Int.reduceToNat] at ho34; rw [← Ny200.out] at ho34)); replace HO183 := aK (Kd.N_elder' (by (with_reducible repeat (first | apply Kd.N_alloc | apply Kd.N_drewN | apply Kd.N_drew)); exact HO183.out) (Kd.R_base ho34) hb); replace HO188 := aK (Kd.N_elder' (by (with_reducible repeat (first | apply Kd.N_alloc | apply Kd.N_drewN | apply Kd.N_drew)); exact HO188.out) (Kd.R_base ho34) hb); have HO202 := aK (Kd.R_lower (Kd.R_new' (Kd.R_new' ho34 (Kd.R_lt (gR HO192))) (Kd.R_lt (gR HO197))) (below_size (gB HB))); replace HO192 := aK (Kd.R_elder' (gR HO192) (Kd.R_base ho34) hb); replace HO197 := aK (Kd.R_elder' (gR HO197) (Kd.R_base ho34) hb); replace HR189_1 := aK (Kd.C_below (by repeat (first | (with_reducible exact HR189_1.out) | (with_reducible refine Kd.C_alloc ?_ _) | (with_reducible refine Kd.C_drewN ?_ _) | (with_reducible refine Kd.C_drew ?_) | exact HR189_1.out | exact (Kd.V_reads' HL189_1.out).2.2)) hb); replace HL189_1 := aK (Kd.V_elder' (by (with_reducible repeat (first | apply Kd.V_alloc | apply Kd.V_drewN | apply Kd.V_drew)); exact HL189_1.out) (Kd.R_base ho34) hb); replace HR194_1 := aK (Kd.C_below (by repeat (first | (with_reducible exact HR194_1.out) | (with_reducible refine Kd.C_alloc ?_ _) | (with_reducible refine Kd.C_drewN ?_ _) | (with_reducible refine Kd.C_drew ?_) | exact HR194_1.out | exact (Kd.V_reads' HL194_1.out).2.2)) hb); replace HL194_1 := aK (Kd.V_elder' (by (with_reducible repeat (first | apply Kd.V_alloc | apply Kd.V_drewN | apply Kd.V_drew)); exact HL194_1.out) (Kd.R_base ho34) hb); replace HR199_1 := aK (Kd.C_below (by repeat (first | (with_reducible exact HR199_1.out) | (with_reducible refine Kd.C_alloc ?_ _) | (with_reducible refine Kd.C_drewN ?_ _) | (with_reducible refine Kd.C_drew ?_) | exact HR199_1.out | exact (Kd.V_reads' HL199_1.out).2.2)) hb); replace HL199_1 := aK (Kd.V_elder' (by (with_reducible repeat (first | apply Kd.V_alloc | apply Kd.V_drewN | apply Kd.V_drew)); exact HL199_1.out) (Kd.R_base ho34) hb); replace HB := aK (below_step (gB HB) hb); clear hb ho34; obtain ⟨Ao35, co35, eo35⟩ := Kd.R_slice HO202.out; subst eo35) | (go_at_call 12; (with_reducible refine (q8q.calls k _ _ ((rd_T34 t184 2).f1) _ _ y200 t203 _ ?side1 ?side2 ?side3 ?side4 A12.out).mono ?_); (case side1 => repeat (first | exact (by repeat (first | (with_reducible exact HR199_1.out) | (with_reducible refine Kd.C_alloc ?_ _) | (with_reducible refine Kd.C_drewN ?_ _) | (with_reducible refine Kd.C_drew ?_) | exact HR199_1.out | exact (Kd.V_reads' HL199_1.out).2.2)) | (with_reducible refine Kd.C_alloc ?_ _) | (with_reducible refine Kd.C_drewN ?_ _) | (with_reducible refine Kd.C_drew ?_))); (case side2 => exact HC199_1.out); (case side3 => repeat (first | exact (Kd.R_reads' HO202.out).2.2 | (with_reducible refine Kd.C_alloc ?_ _) | (with_reducible refine Kd.C_drewN ?_ _) | (with_reducible refine Kd.C_drew ?_))); (case side4 => exact (Kd.R_reads' HO202.out).2.1); rintro e w' ⟨rfl, ⟨nd, rfl⟩⟩))
                 go_ret
                 exact ⟨by first | rfl | (simp [errW_none, errW_some] <;> rfl) | (simp [*, errW_none, errW_some] <;> rfl), gB HB⟩
               · rw [if_neg c11] at H
                 exact absurd H (by simp)
             · replace c10 := Bool.eq_false_iff.mpr c10
               subst c10
               replace H : (some false) = some r := by rw [if_neg (show ¬ (false = true) by decide)] at H; exact H
               exact absurd ((Option.some.inj H).trans htr_) (by decide)
           · rw [if_neg c8] at H
             exact absurd H (by simp)
         · replace c7 := Bool.eq_false_iff.mpr c7
           subst c7
           replace H : (some false) = some r := by rw [if_neg (show ¬ (false = true) by decide)] at H; exact H
           exact absurd ((Option.some.inj H).trans htr_) (by decide)
       · rw [if_neg c5] at H
         exact absurd H (by simp)
     · rw [if_neg c4] at H
       have c4b0 : ((t184.length : Int) == 3) = false := beq_eq_false_iff_ne.mpr c4
       have c4b1 : ((t184.length : Int) != 3) = true := bne_iff_ne.mpr c4
       exact absurd ((Option.some.inj H).trans htr_) (by decide)
   · rw [if_neg c3] at H
     have c3b0 : (t185 == 0) = false := beq_eq_false_iff_ne.mpr c3
     have c3b1 : (t185 != 0) = true := bne_iff_ne.mpr c3
     exact absurd ((Option.some.inj H).trans htr_) (by decide)
 · rw [if_neg c2] at H
   have c2b0 : (t186 == 0) = false := beq_eq_false_iff_ne.mpr c2
   have c2b1 : (t186 != 0) = true := bne_iff_ne.mpr c2
   exact absurd ((Option.some.inj H).trans htr_) (by decide)
mutual
def lots_Check.l0 : Nat → List (S63) → List (S63) → Int → Int → Option (Int × Int)
 | 0, _, _, _, _ => none
 | k + 1, x0, x9, x10, x11 => if x11 < x10 then (if 0 ≤ x11 then (if x11 < (x9.length : Int) then (if ((rd_T63 x9 x11).f1) < 1 then (lots_Check.j1 k x0 x11 x9 x10 x11 true ((rd_T63 x9 x11).f0) ((rd_T63 x9 x11).f1)) else (lots_Check.j1 k x0 x11 x9 x10 x11 (decide (((rd_T63 x9 x11).f1) > 1125899906842624)) ((rd_T63 x9 x11).f0) ((rd_T63 x9 x11).f1))) else (none)) else (none)) else (some ((x0.length : Int), 0))
def lots_Check.j1 : Nat → List (S63) → Int → List (S63) → Int → Int → Bool → ByteArray → Int → Option (Int × Int)
 | 0, _, _, _, _, _, _, _, _ => none
 | k + 1, x0, x4, x9, x10, x11, x16, x206000, x206001 => if x16 = true then (some (x4, 1)) else (if x4 > 0 then (if 0 ≤ (wrap64 (x4 - 1)) then (if (wrap64 (x4 - 1)) < (x0.length : Int) then (if ((Op.bytesLess (((rd_T63 x0 (wrap64 (x4 - 1))).f0).toList) x206000.toList) = true) then (lots_Check.l0 k x0 x9 x10 (wrap64 (x11 + 1))) else (some (x4, 7))) else (none)) else (none)) else (lots_Check.l0 k x0 x9 x10 (wrap64 (x11 + 1))))
end
def lots_Check.f (k : Nat) (l0 : List (S63)) : Option (Int × Int) := if (l0.length : Int) > 64 then (some (0, 2)) else (lots_Check.l0 k l0 l0 (l0.length : Int) 0)
theorem lots_Check.mono_l : ∀ k, (∀ y0 y1 y2 y3, LeO (lots_Check.l0 k y0 y1 y2 y3) (lots_Check.l0 (k + 1) y0 y1 y2 y3)) ∧ (∀ y0 y1 y2 y3 y4 y5 y6 y7, LeO (lots_Check.j1 k y0 y1 y2 y3 y4 y5 y6 y7) (lots_Check.j1 (k + 1) y0 y1 y2 y3 y4 y5 y6 y7))
 | 0 => ⟨fun _ _ _ _ r h => by simp [lots_Check.l0] at h, fun _ _ _ _ _ _ _ _ r h => by simp [lots_Check.j1] at h⟩
 | k + 1 => by
  obtain ⟨ih0, ih1⟩ := lots_Check.mono_l k
  refine ⟨?_, ?_⟩
  intro y0 y1 y2 y3; unfold lots_Check.l0; rotate_left
  intro y0 y1 y2 y3 y4 y5 y6 y7; unfold lots_Check.j1; rotate_left
  all_goals repeat' first
  | (with_reducible exact ih0 _ _ _ _)
  | (with_reducible exact ih1 _ _ _ _ _ _ _ _)
  | (with_reducible exact LeO.refl _)
  | (with_reducible exact LeO.none _)
  | (with_reducible refine LeO.ite ?_ ?_)
  | (with_reducible refine LeO.bind ?_ (fun _ => ?_))
  | exact ih0 _ _ _ _
  | exact ih1 _ _ _ _ _ _ _ _
  | exact LeO.none _
  | refine LeO.ite ?_ ?_
  | refine LeO.bind ?_ (fun _ => ?_)
theorem lots_Check.mono : ∀ a0 k, LeO (lots_Check.f k a0) (lots_Check.f (k + 1) a0) := by
 intro a0 k
 obtain ⟨ih0, ih1⟩ := lots_Check.mono_l k
 unfold lots_Check.f
 repeat' first
  | (with_reducible exact ih0 _ _ _ _)
  | (with_reducible exact ih1 _ _ _ _ _ _ _ _)
  | (with_reducible exact LeO.refl _)
  | (with_reducible exact LeO.none _)
  | (with_reducible refine LeO.ite ?_ ?_)
  | (with_reducible refine LeO.bind ?_ (fun _ => ?_))
  | exact ih0 _ _ _ _
  | exact ih1 _ _ _ _ _ _ _ _
  | exact LeO.none _
  | refine LeO.ite ?_ ?_
  | refine LeO.bind ?_ (fun _ => ?_)
set_option maxHeartbeats 8000000 in
set_option maxRecDepth 100000 in
theorem lots_Check.calls (k : Nat) (A0 : Option Addr) (c0 : Nat) (l0 : List (S63)) (r1 : Int) (r2 : Int) (w : World) (hr0 : Kd.C k63 w A0 l0.length l0) (hc0 : l0.length ≤ c0) (h : lots_Check.f k l0 = some (r1, r2)) :
 Calls Try.prog 29 #[.slice A0 l0.length c0] w fun e w' => e = .returned (.tuple #[.int .i64 r1, .int .i64 r2]) ∧ Below w.heap.size w w' := by
 have hu63 := Try.underlying63
 have HR0 := Aside0.mk hr0; have HC0 := Aside0.mk hc0; clear hr0 hc0
 have HB := aK (Below.refl w.heap.size w)
 have H : (if (l0.length : Int) > 64 then (some (0, 2)) else (lots_Check.l0 k l0 l0 (l0.length : Int) 0)) = some (r1, r2) := h
 clear h
 by_cases c2 : (l0.length : Int) > 64
 · rw [if_pos c2] at H
   have c2b0 : decide (64 < (l0.length : Int)) = true := decide_eq_true c2
   have c2b1 : decide (64 < l0.length) = true := decide_eq_true (by omega)
   clear c2
   simp only [Option.some.injEq, Prod.mk.injEq] at H
   obtain ⟨rfl, rfl⟩ := H
   go_enter Try.func29, Try.ntmps29
   go_wp2
   repeat (go_quiet (fail); try go_wp2)
   go_ret2
   exact ⟨by first | rfl | (simp [errW_none, errW_some] <;> rfl) | (simp [*, errW_none, errW_some] <;> rfl), gB HB⟩
 · rw [if_neg c2] at H
   have c2b0 : decide (64 < (l0.length : Int)) = false := decide_eq_false c2
   have c2b1 : decide (64 < l0.length) = false := decide_eq_false (by omega)
   clear c2
   have H' := Aside0.mk H
   clear H
   go_enter Try.func29, Try.ntmps29
   go_wp2
   repeat (go_quiet (fail); try go_wp2)
   go_loopg [11] k (fun kq v11 w' => ∃ (x11_1 : Int), v11 = .int .i64 x11_1 ∧ Aside0 (lots_Check.l0 kq l0 l0 (l0.length : Int) x11_1 = some (r1, r2)) ∧ Aside0 (kq ≤ k) ∧ Aside0 (Below w.heap.size w w'))
   case atStart => exact ⟨(0), ac, H', ⟨Nat.le_refl _⟩, ⟨gB HB⟩⟩
   case round =>
    clear H'; (try clear c2); (try clear c2b0); (try clear c2b1)
    obtain ⟨x11_1, rfl, HA, HK1, HB⟩ := hrel
    cases gk with
    | zero => exact absurd HA.out (by simp [lots_Check.l0])
    | succ k1 =>
     have H := HA.out
     clear HA
     simp only [lots_Check.l0] at H
     by_cases c3 : x11_1 < (l0.length : Int)
     · rw [if_pos c3] at H
       have c3b0 := dT c3
       clear c3
       by_cases c4 : 0 ≤ x11_1
       · rw [if_pos c4] at H
         have c4b0 := dT c4
         clear c4
         by_cases c5 : x11_1 < (l0.length : Int)
         · rw [if_pos c5] at H
           have c5b0 := dT c5
           clear c5; have HC6 := Aside0.mk H; clear H
           obtain ⟨⟨p204, q204⟩, ad204, rfl, hx204_0, hx204_1⟩ := za (at_T63 HR0.out) x11_1
           replace hx204_0 := gc HB hx204_0
           replace hx204_1 := gc HB hx204_1
           go_upto_region 6 with (first | ((with_reducible refine gate_dst (N := 5) rfl ?_); refine box_event ?hg (N := 5) ?hd (cs := #[.string (⟨#[]⟩ : ByteArray), .int .i64 0]) (t := 63) ?hr ?_; (case hd => rfl); (case hg => rfl); (case hr => first | (go_simp; done) | (go_simp; rfl) | (have hcq := hcq_.out; have hfq := hfq_.out; go_simp; done)); intro gb205 hg w7 hbox hb; have BK205 := aK (hbox); have GW205 := aK ((by rw [hg]; exact (below_size (gB HB)) : w.heap.size ≤ gb205)); have GE205 := aK ((by rw [hg]; exact (below_size (gB HB)) : w.heap.size ≤ gb205)); replace HB := aK (below_step (gB HB) hb); clear hb hbox hg; have hcz8_0 : w7.cell? ⟨gb205, 0, none⟩ = some (.string (⟨#[]⟩ : ByteArray)) := (blk_cell BK205.out 0).trans rfl; have hcz8_1 : w7.cell? ⟨gb205, 1, none⟩ = some (.int .i64 0) := (blk_cell BK205.out 1).trans rfl; have hfz8_0 := blk_frozen BK205.out 0; have hfz8_1 := blk_frozen BK205.out 1))
           repeat (go_quiet (first | ((with_reducible refine gate_dst (N := 5) rfl ?_); refine box_event ?hg (N := 5) ?hd (cs := #[.string (⟨#[]⟩ : ByteArray), .int .i64 0]) (t := 63) ?hr ?_; (case hd => rfl); (case hg => rfl); (case hr => first | (go_simp; done) | (go_simp; rfl) | (have hcq := hcq_.out; have hfq := hfq_.out; go_simp; done)); intro gb205 hg w7 hbox hb; have BK205 := aK (hbox); have GW205 := aK ((by rw [hg]; exact (below_size (gB HB)) : w.heap.size ≤ gb205)); have GE205 := aK ((by rw [hg]; exact (below_size (gB HB)) : w.heap.size ≤ gb205)); replace HB := aK (below_step (gB HB) hb); clear hb hbox hg; have hcz8_0 : w7.cell? ⟨gb205, 0, none⟩ = some (.string (⟨#[]⟩ : ByteArray)) := (blk_cell BK205.out 0).trans rfl; have hcz8_1 : w7.cell? ⟨gb205, 1, none⟩ = some (.int .i64 0) := (blk_cell BK205.out 1).trans rfl; have hfz8_0 := blk_frozen BK205.out 0; have hfz8_1 := blk_frozen BK205.out 1)); go_upto_region 6 with (first | ((with_reducible refine gate_dst (N := 5) rfl ?_); refine box_event ?hg (N := 5) ?hd (cs := #[.string (⟨#[]⟩ : ByteArray), .int .i64 0]) (t := 63) ?hr ?_; (case hd => rfl); (case hg => rfl); (case hr => first | (go_simp; done) | (go_simp; rfl) | (have hcq := hcq_.out; have hfq := hfq_.out; go_simp; done)); intro gb205 hg w7 hbox hb; have BK205 := aK (hbox); have GW205 := aK ((by rw [hg]; exact (below_size (gB HB)) : w.heap.size ≤ gb205)); have GE205 := aK ((by rw [hg]; exact (below_size (gB HB)) : w.heap.size ≤ gb205)); replace HB := aK (below_step (gB HB) hb); clear hb hbox hg; have hcz8_0 : w7.cell? ⟨gb205, 0, none⟩ = some (.string (⟨#[]⟩ : ByteArray)) := (blk_cell BK205.out 0).trans rfl; have hcz8_1 : w7.cell? ⟨gb205, 1, none⟩ = some (.int .i64 0) := (blk_cell BK205.out 1).trans rfl; have hfz8_0 := blk_frozen BK205.out 0; have hfz8_1 := blk_frozen BK205.out 1)))
           (try simp only [Act.put, sA, sB, sC])
           go_cut [16] (fun v16 wc => ∃ (kq : Nat) (x16_5 : Bool), v16 = .bool x16_5 ∧ Aside0 (lots_Check.j1 kq l0 x11_1 l0 (l0.length : Int) x11_1 x16_5 ((rd_T63 l0 x11_1).f0) ((rd_T63 l0 x11_1).f1) = some (r1, r2)) ∧ Aside0 (kq ≤ k1) ∧ Aside0 (wc.heap[gb205]? = some (.cells #[.string ((rd_T63 l0 x11_1).f0), .int .i64 ((rd_T63 l0 x11_1).f1)] 63 (0, 0))) ∧ Aside0 (Below w.heap.size w wc))
           case first =>
            have H := HC6.out
            clear HC6
            by_cases c9 : ((rd_T63 l0 x11_1).f1) < 1
            · rw [if_pos c9] at H
              have c9b0 := dT c9
              clear c9
              (first | rw [c9b0] | (simp only [i64_w, i32_w]; rw [c9b0]) | skip)
              have H' := Aside0.mk H
              clear H
              have hcz10_0 : w7.cell? ⟨gb205, 0, none⟩ = some (.string (⟨#[]⟩ : ByteArray)) := (blk_cell BK205.out 0).trans rfl
              have hcz10_1 : w7.cell? ⟨gb205, 1, none⟩ = some (.int .i64 0) := (blk_cell BK205.out 1).trans rfl
              have hfz10_0 := blk_frozen BK205.out 0
              have hfz10_1 := blk_frozen BK205.out 1
              go_wp2
              repeat (go_quiet (fail); try go_wp2)
              go_meet
              case rel => exact ⟨_, (true), ac, H', ⟨by have := HK1.out; first | omega | exact Nat.le_refl _⟩, ⟨by (with_reducible repeat (first | refine blk_drewN ?_ _ | refine blk_drew ?_ | refine blk_alloc ?_ _)); refine blk_put (cs := #[.string ((rd_T63 l0 x11_1).f0), .int .i64 0]) ?_ 1 _ rfl; (with_reducible repeat (first | refine blk_drewN ?_ _ | refine blk_drew ?_ | refine blk_alloc ?_ _)); refine blk_put (cs := #[.string (⟨#[]⟩ : ByteArray), .int .i64 0]) ?_ 0 _ rfl; (with_reducible repeat (first | refine blk_drewN ?_ _ | refine blk_drew ?_ | refine blk_alloc ?_ _)); exact BK205.out⟩, ⟨gS HB⟩⟩
            · rw [if_neg c9] at H
              have c9b0 := dF c9
              clear c9
              (first | rw [c9b0] | (simp only [i64_w, i32_w]; rw [c9b0]) | skip)
              have H' := Aside0.mk H
              clear H
              have hcz11_0 : w7.cell? ⟨gb205, 0, none⟩ = some (.string (⟨#[]⟩ : ByteArray)) := (blk_cell BK205.out 0).trans rfl
              have hcz11_1 : w7.cell? ⟨gb205, 1, none⟩ = some (.int .i64 0) := (blk_cell BK205.out 1).trans rfl
              have hfz11_0 := blk_frozen BK205.out 0
              have hfz11_1 := blk_frozen BK205.out 1
              go_wp2
              repeat (go_quiet (fail); try go_wp2)
              go_meet
              case rel => exact ⟨_, (decide (((rd_T63 l0 x11_1).f1) > 1125899906842624)), ac, H', ⟨by have := HK1.out; first | omega | exact Nat.le_refl _⟩, ⟨by (with_reducible repeat (first | refine blk_drewN ?_ _ | refine blk_drew ?_ | refine blk_alloc ?_ _)); refine blk_put (cs := #[.string ((rd_T63 l0 x11_1).f0), .int .i64 0]) ?_ 1 _ rfl; (with_reducible repeat (first | refine blk_drewN ?_ _ | refine blk_drew ?_ | refine blk_alloc ?_ _)); refine blk_put (cs := #[.string (⟨#[]⟩ : ByteArray), .int .i64 0]) ?_ 0 _ rfl; (with_reducible repeat (first | refine blk_drewN ?_ _ | refine blk_drew ?_ | refine blk_alloc ?_ _)); exact BK205.out⟩, ⟨gS HB⟩⟩
           case rest =>
            clear HC6; (try clear c2); (try clear c2b0); (try clear c2b1); (try clear c3); (try clear c3b0); (try clear c4); (try clear c4b0); (try clear c5); (try clear c5b0); (try clear hcz8_0); (try clear hcz8_1); (try clear hfz8_0); (try clear hfz8_1); (try clear hx204_0); (try clear hx204_1); (try clear p204); (try clear q204)
            obtain ⟨kq, x16_5, rfl, HA, HJ5, BK205, HB⟩ := hcut
            cases kq with
            | zero => exact absurd HA.out (by simp [lots_Check.j1])
            | succ kj5 =>
             have H := HA.out
             clear HA
             simp only [lots_Check.j1] at H
             by_cases c12 : x16_5 = true
             · subst c12
               replace H : (some (x11_1, 1)) = some (r1, r2) := by rw [if_pos rfl] at H; exact H
               simp only [Option.some.injEq, Prod.mk.injEq] at H
               obtain ⟨rfl, rfl⟩ := H
               go_wp2
               repeat (go_quiet (fail); try go_wp2)
               go_ret2
               exact ⟨by first | rfl | (simp [errW_none, errW_some] <;> rfl) | (simp [*, errW_none, errW_some] <;> rfl), gS HB⟩
             · replace c12 := Bool.eq_false_iff.mpr c12
               subst c12
               replace H : (if x11_1 > 0 then (if 0 ≤ (wrap64 (x11_1 - 1)) then (if (wrap64 (x11_1 - 1)) < (l0.length : Int) then (if ((Op.bytesLess (((rd_T63 l0 (wrap64 (x11_1 - 1))).f0).toList) ((rd_T63 l0 x11_1).f0).toList) = true) then (lots_Check.l0 kj5 l0 l0 (l0.length : Int) (wrap64 (x11_1 + 1))) else (some (x11_1, 7))) else (none)) else (none)) else (lots_Check.l0 kj5 l0 l0 (l0.length : Int) (wrap64 (x11_1 + 1)))) = some (r1, r2) := by rw [if_neg (show ¬ (false = true) by decide)] at H; exact H
               by_cases c13 : x11_1 > 0
               · rw [if_pos c13] at H
                 have c13b0 : decide (0 < x11_1) = true := decide_eq_true c13
                 clear c13
                 obtain ⟨ji14, hji14⟩ : ∃ j_ : Int, (wrap64 (x11_1 - 1)) = j_ := ⟨_, rfl⟩
                 replace H : (if 0 ≤ (ji14) then (if (ji14) < (l0.length : Int) then (if ((Op.bytesLess (((rd_T63 l0 (ji14)).f0).toList) ((rd_T63 l0 x11_1).f0).toList) = true) then (lots_Check.l0 kj5 l0 l0 (l0.length : Int) (wrap64 (x11_1 + 1))) else (some (x11_1, 7))) else (none)) else (none)) = some (r1, r2) := by first | (rw [hji14] at H; exact H) | (simp only [hji14] at H ⊢; exact H)
                 have hji14w : (IntKind.i64.wrap (x11_1 - 1)) = ji14 := (i64_w _).trans hji14
                 by_cases c15 : 0 ≤ (ji14)
                 · rw [if_pos c15] at H
                   have c15b0 := dT c15
                   clear c15
                   by_cases c16 : (ji14) < (l0.length : Int)
                   · rw [if_pos c16] at H
                     have c16b0 := dT c16
                     clear c16
                     by_cases c17 : ((Op.bytesLess (((rd_T63 l0 (ji14)).f0).toList) ((rd_T63 l0 x11_1).f0).toList) = true)
                     · rw [if_pos c17] at H
                       have c17b0 : (Op.bytesLess (((rd_T63 l0 (ji14)).f0).toList) ((rd_T63 l0 x11_1).f0).toList) = true := c17
                       clear c17
                       have H' := Aside0.mk H
                       clear H
                       have hcz18_0 : wc.cell? ⟨gb205, 0, none⟩ = some (.string ((rd_T63 l0 x11_1).f0)) := (blk_cell BK205.out 0).trans rfl
                       have hcz18_1 : wc.cell? ⟨gb205, 1, none⟩ = some (.int .i64 ((rd_T63 l0 x11_1).f1)) := (blk_cell BK205.out 1).trans rfl
                       have hfz18_0 := blk_frozen BK205.out 0
                       have hfz18_1 := blk_frozen BK205.out 1
                       obtain ⟨⟨p206, q206⟩, ad206, e206, hx206_0, hx206_1⟩ := za (at_T63 HR0.out) (ji14)
                       obtain rfl : ad204 = ad206 := (by injection e206)
                       replace hx206_0 := gc HB hx206_0
                       replace hx206_1 := gc HB hx206_1
                       go_wp2
                       repeat (go_quiet (fail); try go_wp2)
                       go_roundg kj5
                       case measure => have := HK1.out; have := HJ5.out; omega
                       case rel => exact ⟨(wrap64 (x11_1 + 1)), ac, H', ⟨by have := HK1.out; have := HJ5.out; omega⟩, ⟨gS HB⟩⟩
                     · rw [if_neg c17] at H
                       have c17b0 : (Op.bytesLess (((rd_T63 l0 (ji14)).f0).toList) ((rd_T63 l0 x11_1).f0).toList) = false := by simpa using c17
                       clear c17
                       simp only [Option.some.injEq, Prod.mk.injEq] at H
                       obtain ⟨rfl, rfl⟩ := H
                       have hcz19_0 : wc.cell? ⟨gb205, 0, none⟩ = some (.string ((rd_T63 l0 x11_1).f0)) := (blk_cell BK205.out 0).trans rfl
                       have hcz19_1 : wc.cell? ⟨gb205, 1, none⟩ = some (.int .i64 ((rd_T63 l0 x11_1).f1)) := (blk_cell BK205.out 1).trans rfl
                       have hfz19_0 := blk_frozen BK205.out 0
                       have hfz19_1 := blk_frozen BK205.out 1
                       obtain ⟨⟨p206, q206⟩, ad206, e206, hx206_0, hx206_1⟩ := za (at_T63 HR0.out) (ji14)
                       obtain rfl : ad204 = ad206 := (by injection e206)
                       replace hx206_0 := gc HB hx206_0
                       replace hx206_1 := gc HB hx206_1
                       go_wp2
                       repeat (go_quiet (fail); try go_wp2)
                       go_ret2
                       exact ⟨by first | rfl | (simp [errW_none, errW_some] <;> rfl) | (simp only [← hji14]; first | rfl | (simp [errW_none, errW_some] <;> rfl)) | (simp [*, errW_none, errW_some] <;> rfl), gS HB⟩
                   · rw [if_neg c16] at H
                     exact absurd H (by simp)
                 · rw [if_neg c15] at H
                   exact absurd H (by simp)
               · rw [if_neg c13] at H
                 have c13b0 : decide (0 < x11_1) = false := decide_eq_false c13
                 clear c13
                 have H' := Aside0.mk H
                 clear H
                 go_wp2
                 repeat (go_quiet (fail); try go_wp2)
                 go_roundg kj5
                 case measure => have := HK1.out; have := HJ5.out; omega
                 case rel => exact ⟨(wrap64 (x11_1 + 1)), ac, H', ⟨by have := HK1.out; have := HJ5.out; omega⟩, ⟨gS HB⟩⟩
         · rw [if_neg c5] at H
           exact absurd H (by simp)
       · rw [if_neg c4] at H
         exact absurd H (by simp)
     · rw [if_neg c3] at H
       have c3b0 := dF c3
       clear c3
       simp only [Option.some.injEq, Prod.mk.injEq] at H
       obtain ⟨rfl, rfl⟩ := H
       go_wp2
       repeat (go_quiet (fail); try go_wp2)
       go_ret2
       exact ⟨by first | rfl | (simp [errW_none, errW_some] <;> rfl) | (simp [*, errW_none, errW_some] <;> rfl), gB HB⟩
end Go.Proofs.Ytlbhjkbjokiioaa.X
