-- a shortened text: what this claim does not name is left out (wip/xprint/prune.py of this repo)
import Derived.Test.YtlbhjkbjokiioaaXMin
import Derived.Test.YtlbhjkbjokiioaaX0
namespace Go.Proofs.Ytlbhjkbjokiioaa.X
open Go.RowKit Go.Proofs.YtlbhjkbjokiioaaW.PrintWords Go.Proofs.YtlbhjkbjokiioaaW.PrintLast Go.Proofs.YtlbhjkbjokiioaaW.PrintMore
attribute [local go_sem] max2_int min2_int max_two min_two max_three min_three max_four min_four
set_option linter.unusedVariables false
set_option linter.unusedSimpArgs false
mutual
def q9q.l0 : Nat → List (S66) → Int → Option (Int)
 | 0, _, _ => none
 | k + 1, x0, x3 => if x3 < (x0.length : Int) then (if 0 ≤ x3 then (if ((rd_T66 x0 x3).f0) < 1 then (q9q.j1 k x0 x3 true) else (q9q.j1 k x0 x3 (decide (((rd_T66 x0 x3).f0) > 32)))) else (none)) else (some 0)
def q9q.j1 : Nat → List (S66) → Int → Bool → Option (Int)
 | 0, _, _, _ => none
 | k + 1, x0, x3, x26 => if x26 = true then (some 22) else (if 0 ≤ x3 then (if x3 < (x0.length : Int) then (if ((rd_T66 x0 x3).f2) < 1 then (some 1) else (if ((rd_T66 x0 x3).f2) > 1125899906842624 then (some 1) else (if ((rd_T66 x0 x3).f3) < 1 then (some 1) else (if ((rd_T66 x0 x3).f3) > 4294967296 then (some 1) else (q9q.l0 k x0 (wrap64 (x3 + 1))))))) else (none)) else (none))
end
def q9q.f (k : Nat) (l0 : List (S66)) : Option (Int) := if (l0.length : Int) > 256 then (some 2) else (q9q.l0 k l0 0)
theorem q9q.mono_l : ∀ k, (∀ y0 y1, LeO (q9q.l0 k y0 y1) (q9q.l0 (k + 1) y0 y1)) ∧ (∀ y0 y1 y2, LeO (q9q.j1 k y0 y1 y2) (q9q.j1 (k + 1) y0 y1 y2))
 | 0 => ⟨fun _ _ r h => by simp [q9q.l0] at h, fun _ _ _ r h => by simp [q9q.j1] at h⟩
 | k + 1 => by
  obtain ⟨ih0, ih1⟩ := q9q.mono_l k
  refine ⟨?_, ?_⟩
  intro y0 y1; unfold q9q.l0; rotate_left
  intro y0 y1 y2; unfold q9q.j1; rotate_left
  all_goals repeat' first
  | (with_reducible exact ih0 _ _)
  | (with_reducible exact ih1 _ _ _)
  | (with_reducible exact LeO.refl _)
  | (with_reducible exact LeO.none _)
  | (with_reducible refine LeO.ite ?_ ?_)
  | (with_reducible refine LeO.bind ?_ (fun _ => ?_))
  | exact ih0 _ _
  | exact ih1 _ _ _
  | exact LeO.none _
  | refine LeO.ite ?_ ?_
  | refine LeO.bind ?_ (fun _ => ?_)
theorem q9q.mono : ∀ a0 k, LeO (q9q.f k a0) (q9q.f (k + 1) a0) := by
 intro a0 k
 obtain ⟨ih0, ih1⟩ := q9q.mono_l k
 unfold q9q.f
 repeat' first
  | (with_reducible exact ih0 _ _)
  | (with_reducible exact ih1 _ _ _)
  | (with_reducible exact LeO.refl _)
  | (with_reducible exact LeO.none _)
  | (with_reducible refine LeO.ite ?_ ?_)
  | (with_reducible refine LeO.bind ?_ (fun _ => ?_))
  | exact ih0 _ _
  | exact ih1 _ _ _
  | exact LeO.none _
  | refine LeO.ite ?_ ?_
  | refine LeO.bind ?_ (fun _ => ?_)
set_option maxHeartbeats 8000000 in
set_option maxRecDepth 100000 in
theorem q9q.calls (k : Nat) (A0 : Option Addr) (c0 : Nat) (l0 : List (S66)) (r : Int) (w : World) (hr0 : Kd.C k66 w A0 l0.length l0) (hc0 : l0.length ≤ c0) (h : q9q.f k l0 = some r) :
 Calls Try.prog 37 #[.slice A0 l0.length c0] w fun e w' => e = .returned (.int .i64 r) ∧ Drawn0 w w' := by
 have HR0 := Aside0.mk hr0; have HC0 := Aside0.mk hc0; clear hr0 hc0
 have H : (if (l0.length : Int) > 256 then (some 2) else (q9q.l0 k l0 0)) = some r := h
 clear h
 by_cases c2 : (l0.length : Int) > 256
 · rw [if_pos c2] at H
   have c2b0 : decide (256 < (l0.length : Int)) = true := decide_eq_true c2
   have c2b1 : decide (256 < l0.length) = true := decide_eq_true (by omega)
   clear c2
   obtain rfl := Option.some.inj H
   go_enter Try.func37, Try.ntmps37
   go_wp2
   go_ret
   exact dn
 · rw [if_neg c2] at H
   have c2b0 : decide (256 < (l0.length : Int)) = false := decide_eq_false c2
   have c2b1 : decide (256 < l0.length) = false := decide_eq_false (by omega)
   clear c2
   have H' := Aside0.mk H
   clear H
   go_enter Try.func37, Try.ntmps37
   go_wp2
   go_loopg [3] k (fun kq v3 w' => ∃ (x3_1 : Int), v3 = .int .i64 x3_1 ∧ Aside0 (q9q.l0 kq l0 x3_1 = some r) ∧ Aside0 (kq ≤ k) ∧ Drawn0 w w')
   case atStart => exact ⟨(0), ac, H', ⟨Nat.le_refl _⟩, dr⟩
   case round =>
    clear H'; (try clear c2); (try clear c2b0); (try clear c2b1)
    obtain ⟨x3_1, rfl, HA, HK1, ⟨m1, rfl⟩⟩ := hrel
    cases gk with
    | zero => exact absurd HA.out (by simp [q9q.l0])
    | succ k1 =>
     have H := HA.out
     clear HA
     simp only [q9q.l0] at H
     by_cases c3 : x3_1 < (l0.length : Int)
     · rw [if_pos c3] at H
       have c3b0 := dT c3
       clear c3; have HC4 := Aside0.mk H; clear H
       go_upto_region 6 with (fail)
       go_cut [26] (fun v26 wc => ∃ (kq : Nat) (x26_3 : Bool), v26 = .bool x26_3 ∧ Aside0 (q9q.j1 kq l0 x3_1 x26_3 = some r) ∧ Aside0 (kq ≤ k1) ∧ Drawn0 w wc)
       case first =>
        have H := HC4.out
        clear HC4
        by_cases c5 : 0 ≤ x3_1
        · rw [if_pos c5] at H
          have c5b0 := dT c5
          clear c5
          (first | rw [c5b0] | (simp only [i64_w, i32_w]; rw [c5b0]) | skip)
          by_cases c6 : ((rd_T66 l0 x3_1).f0) < 1
          · rw [if_pos c6] at H
            have c6b0 := dT c6
            clear c6
            have H' := Aside0.mk H
            clear H
            obtain ⟨⟨p294, q294⟩, ad294, rfl, hx294_0, hx294_1, hx294_2, hx294_3⟩ := za (at_T66 HR0.out) x3_1
            go_wp2
            go_meet
            case rel => exact ⟨_, (true), ac, H', ⟨by have := HK1.out; first | omega | exact Nat.le_refl _⟩, dr⟩
          · rw [if_neg c6] at H
            have c6b0 := dF c6
            clear c6
            have H' := Aside0.mk H
            clear H
            obtain ⟨⟨p294, q294⟩, ad294, rfl, hx294_0, hx294_1, hx294_2, hx294_3⟩ := za (at_T66 HR0.out) x3_1
            obtain ⟨⟨p295, q295⟩, ad295, e295, hx295_0, hx295_1, hx295_2, hx295_3⟩ := za (at_T66 HR0.out) x3_1
            obtain rfl : ad294 = ad295 := (by injection e295)
            go_wp2
            go_meet
            case rel => exact ⟨_, (decide (((rd_T66 l0 x3_1).f0) > 32)), ac, H', ⟨by have := HK1.out; first | omega | exact Nat.le_refl _⟩, dr⟩
        · rw [if_neg c5] at H
          exact absurd H (by simp)
       case rest =>
        clear HC4; (try clear c2); (try clear c2b0); (try clear c2b1); (try clear c3); (try clear c3b0)
        obtain ⟨kq, x26_3, rfl, HA, HJ3, ⟨mc3, rfl⟩⟩ := hcut
        cases kq with
        | zero => exact absurd HA.out (by simp [q9q.j1])
        | succ kj3 =>
         have H := HA.out
         clear HA
         simp only [q9q.j1] at H
         by_cases c7 : x26_3 = true
         · subst c7
           replace H : (some 22) = some r := by rw [if_pos rfl] at H; exact H
           obtain rfl := Option.some.inj H
           go_wp2
           go_ret
           exact dn
         · replace c7 := Bool.eq_false_iff.mpr c7
           subst c7
           replace H : (if 0 ≤ x3_1 then (if x3_1 < (l0.length : Int) then (if ((rd_T66 l0 x3_1).f2) < 1 then (some 1) else (if ((rd_T66 l0 x3_1).f2) > 1125899906842624 then (some 1) else (if ((rd_T66 l0 x3_1).f3) < 1 then (some 1) else (if ((rd_T66 l0 x3_1).f3) > 4294967296 then (some 1) else (q9q.l0 kj3 l0 (wrap64 (x3_1 + 1))))))) else (none)) else (none)) = some r := by rw [if_neg (show ¬ (false = true) by decide)] at H; exact H
           by_cases c8 : 0 ≤ x3_1
           · rw [if_pos c8] at H
             have c8b0 := dT c8
             clear c8
             by_cases c9 : x3_1 < (l0.length : Int)
             · rw [if_pos c9] at H
               have c9b0 := dT c9
               clear c9
               by_cases c10 : ((rd_T66 l0 x3_1).f2) < 1
               · rw [if_pos c10] at H
                 have c10b0 := dT c10
                 clear c10
                 obtain rfl := Option.some.inj H
                 obtain ⟨⟨p296, q296⟩, ad296, rfl, hx296_0, hx296_1, hx296_2, hx296_3⟩ := za (at_T66 HR0.out) x3_1
                 go_wp2
                 go_ret
                 exact dn
               · rw [if_neg c10] at H
                 have c10b0 := dF c10
                 clear c10
                 by_cases c11 : ((rd_T66 l0 x3_1).f2) > 1125899906842624
                 · rw [if_pos c11] at H
                   have c11b0 : decide (1125899906842624 < ((rd_T66 l0 x3_1).f2)) = true := decide_eq_true c11
                   clear c11
                   obtain rfl := Option.some.inj H
                   obtain ⟨⟨p296, q296⟩, ad296, rfl, hx296_0, hx296_1, hx296_2, hx296_3⟩ := za (at_T66 HR0.out) x3_1
                   obtain ⟨⟨p297, q297⟩, ad297, e297, hx297_0, hx297_1, hx297_2, hx297_3⟩ := za (at_T66 HR0.out) x3_1
                   obtain rfl : ad296 = ad297 := (by injection e297)
                   go_wp2
                   go_ret
                   exact dn
                 · rw [if_neg c11] at H
                   have c11b0 : decide (1125899906842624 < ((rd_T66 l0 x3_1).f2)) = false := decide_eq_false c11
                   clear c11
                   by_cases c12 : ((rd_T66 l0 x3_1).f3) < 1
                   · rw [if_pos c12] at H
                     have c12b0 := dT c12
                     clear c12
                     obtain rfl := Option.some.inj H
                     obtain ⟨⟨p296, q296⟩, ad296, rfl, hx296_0, hx296_1, hx296_2, hx296_3⟩ := za (at_T66 HR0.out) x3_1
                     obtain ⟨⟨p297, q297⟩, ad297, e297, hx297_0, hx297_1, hx297_2, hx297_3⟩ := za (at_T66 HR0.out) x3_1
                     obtain rfl : ad296 = ad297 := (by injection e297)
                     obtain ⟨⟨p298, q298⟩, ad298, e298, hx298_0, hx298_1, hx298_2, hx298_3⟩ := za (at_T66 HR0.out) x3_1
                     obtain rfl : ad296 = ad298 := (by injection e298)
                     go_wp2
                     go_ret
                     exact dn
                   · rw [if_neg c12] at H
                     have c12b0 := dF c12
                     clear c12
                     by_cases c13 : ((rd_T66 l0 x3_1).f3) > 4294967296
                     · rw [if_pos c13] at H
                       have c13b0 : decide (4294967296 < ((rd_T66 l0 x3_1).f3)) = true := decide_eq_true c13
                       clear c13
                       obtain rfl := Option.some.inj H
                       obtain ⟨⟨p296, q296⟩, ad296, rfl, hx296_0, hx296_1, hx296_2, hx296_3⟩ := za (at_T66 HR0.out) x3_1
                       obtain ⟨⟨p297, q297⟩, ad297, e297, hx297_0, hx297_1, hx297_2, hx297_3⟩ := za (at_T66 HR0.out) x3_1
                       obtain rfl : ad296 = ad297 := (by injection e297)
                       obtain ⟨⟨p298, q298⟩, ad298, e298, hx298_0, hx298_1, hx298_2, hx298_3⟩ := za (at_T66 HR0.out) x3_1
                       obtain rfl : ad296 = ad298 := (by injection e298)
                       obtain ⟨⟨p299, q299⟩, ad299, e299, hx299_0, hx299_1, hx299_2, hx299_3⟩ := za (at_T66 HR0.out) x3_1
                       obtain rfl : ad296 = ad299 := (by injection e299)
                       go_wp2
                       go_ret
                       exact dn
                     · rw [if_neg c13] at H
                       have c13b0 : decide (4294967296 < ((rd_T66 l0 x3_1).f3)) = false := decide_eq_false c13
                       clear c13
                       have H' := Aside0.mk H
                       clear H
                       obtain ⟨⟨p296, q296⟩, ad296, rfl, hx296_0, hx296_1, hx296_2, hx296_3⟩ := za (at_T66 HR0.out) x3_1
                       obtain ⟨⟨p297, q297⟩, ad297, e297, hx297_0, hx297_1, hx297_2, hx297_3⟩ := za (at_T66 HR0.out) x3_1
                       obtain rfl : ad296 = ad297 := (by injection e297)
                       obtain ⟨⟨p298, q298⟩, ad298, e298, hx298_0, hx298_1, hx298_2, hx298_3⟩ := za (at_T66 HR0.out) x3_1
                       obtain rfl : ad296 = ad298 := (by injection e298)
                       obtain ⟨⟨p299, q299⟩, ad299, e299, hx299_0, hx299_1, hx299_2, hx299_3⟩ := za (at_T66 HR0.out) x3_1
                       obtain rfl : ad296 = ad299 := (by injection e299)
                       go_wp2
                       go_roundg kj3
                       case measure => have := HK1.out; have := HJ3.out; omega
                       case rel => exact ⟨(wrap64 (x3_1 + 1)), ac, H', ⟨by have := HK1.out; have := HJ3.out; omega⟩, dr⟩
             · rw [if_neg c9] at H
               exact absurd H (by simp)
           · rw [if_neg c8] at H
             exact absurd H (by simp)
     · rw [if_neg c3] at H
       have c3b0 := dF c3
       clear c3
       obtain rfl := Option.some.inj H
       go_wp2
       go_ret
       exact dn
mutual
def q5q.l0 : Nat → List (S66) → ByteArray → List (S66) → Int → Option ((List (S66)))
 | 0, _, _, _, _ => none
 | k + 1, x0, x1, x5, x6 => if x6 < (x0.length : Int) then (if 0 ≤ x6 then (if ((rd_T66 x0 x6).f1).toList = x1.toList then (q5q.l1 k x0 x1 x5 x6 (x5.length : Int)) else (q5q.l0 k x0 x1 x5 (wrap64 (x6 + 1)))) else (none)) else (some x5)
def q5q.l1 : Nat → List (S66) → ByteArray → List (S66) → Int → Int → Option ((List (S66)))
 | 0, _, _, _, _, _ => none
 | k + 1, x0, x1, x5, x6, x7 => if x7 > 0 then (if 0 ≤ (wrap64 (x7 - 1)) then (if (wrap64 (x7 - 1)) < (x5.length : Int) then (if 0 ≤ x6 then (if x6 < (x0.length : Int) then (if ((rd_T66 x5 (wrap64 (x7 - 1))).f3) < ((rd_T66 x0 x6).f3) then (q5q.l1 k x0 x1 x5 x6 (wrap64 (x7 - 1))) else ((some (([] : List (S66)) : List (S66))).bind fun y303 => (if 0 ≤ x7 then (if x7 ≤ (x5.length : Int) then ((some (x5.take (x7 : Int).toNat : List (S66))).bind fun y306 => (if y303.length + y306.length < 3518437208883 then ((some (y303 ++ y306 : List (S66))).bind fun y310 => (if y310.length < 3518437208883 then ((some (y310 ++ [(⟨(rd_T66 x0 x6).f0, (rd_T66 x0 x6).f1, (rd_T66 x0 x6).f2, (rd_T66 x0 x6).f3⟩ : S66)] : List (S66))).bind fun y314 => ((some (x5.drop (x7 : Int).toNat : List (S66))).bind fun y317 => (if y314.length + y317.length < 3518437208883 then (q5q.l0 k x0 x1 (y314 ++ y317) (wrap64 (x6 + 1))) else (none)))) else (none))) else (none))) else (none)) else (none)))) else (none)) else (none)) else (none)) else (none)) else ((some (([] : List (S66)) : List (S66))).bind fun y324 => (if 0 ≤ x7 then (if x7 ≤ (x5.length : Int) then ((some (x5.take (x7 : Int).toNat : List (S66))).bind fun y327 => (if y324.length + y327.length < 3518437208883 then ((some (y324 ++ y327 : List (S66))).bind fun y331 => (if 0 ≤ x6 then (if x6 < (x0.length : Int) then (if y331.length < 3518437208883 then ((some (y331 ++ [(⟨(rd_T66 x0 x6).f0, (rd_T66 x0 x6).f1, (rd_T66 x0 x6).f2, (rd_T66 x0 x6).f3⟩ : S66)] : List (S66))).bind fun y335 => ((some (x5.drop (x7 : Int).toNat : List (S66))).bind fun y338 => (if y335.length + y338.length < 3518437208883 then (q5q.l0 k x0 x1 (y335 ++ y338) (wrap64 (x6 + 1))) else (none)))) else (none)) else (none)) else (none))) else (none))) else (none)) else (none)))
end
def q5q.f (k : Nat) (l0 : List (S66)) (a1 : ByteArray) : Option ((List (S66))) := q5q.l0 k l0 a1 ([] : List (S66)) 0
theorem q5q.mono_l : ∀ k, (∀ y0 y1 y2 y3, LeO (q5q.l0 k y0 y1 y2 y3) (q5q.l0 (k + 1) y0 y1 y2 y3)) ∧ (∀ y0 y1 y2 y3 y4, LeO (q5q.l1 k y0 y1 y2 y3 y4) (q5q.l1 (k + 1) y0 y1 y2 y3 y4))
 | 0 => ⟨fun _ _ _ _ r h => by simp [q5q.l0] at h, fun _ _ _ _ _ r h => by simp [q5q.l1] at h⟩
 | k + 1 => by
  obtain ⟨ih0, ih1⟩ := q5q.mono_l k
  refine ⟨?_, ?_⟩
  intro y0 y1 y2 y3; unfold q5q.l0; rotate_left
  intro y0 y1 y2 y3 y4; unfold q5q.l1; rotate_left
  all_goals repeat' first
  | (with_reducible exact ih0 _ _ _ _)
  | (with_reducible exact ih1 _ _ _ _ _)
  | (with_reducible exact LeO.refl _)
  | (with_reducible exact LeO.none _)
  | (with_reducible refine LeO.ite ?_ ?_)
  | (with_reducible refine LeO.bind ?_ (fun _ => ?_))
  | exact ih0 _ _ _ _
  | exact ih1 _ _ _ _ _
  | exact LeO.none _
  | refine LeO.ite ?_ ?_
  | refine LeO.bind ?_ (fun _ => ?_)
theorem q5q.mono : ∀ a0 a1 k, LeO (q5q.f k a0 a1) (q5q.f (k + 1) a0 a1) := by
 intro a0 a1 k
 obtain ⟨ih0, ih1⟩ := q5q.mono_l k
 unfold q5q.f
 repeat' first
  | (with_reducible exact ih0 _ _ _ _)
  | (with_reducible exact ih1 _ _ _ _ _)
  | (with_reducible exact LeO.refl _)
  | (with_reducible exact LeO.none _)
  | (with_reducible refine LeO.ite ?_ ?_)
  | (with_reducible refine LeO.bind ?_ (fun _ => ?_))
  | exact ih0 _ _ _ _
  | exact ih1 _ _ _ _ _
  | exact LeO.none _
  | refine LeO.ite ?_ ?_
  | refine LeO.bind ?_ (fun _ => ?_)
set_option maxHeartbeats 8000000 in
set_option maxRecDepth 100000 in
theorem q5q.calls (k : Nat) (A0 : Option Addr) (c0 : Nat) (l0 : List (S66)) (a1 : ByteArray) (r : List (S66)) (w : World) (hr0 : Kd.C k66 w A0 l0.length l0) (hc0 : l0.length ≤ c0) (h : q5q.f k l0 a1 = some r) :
 Calls Try.prog 38 #[.slice A0 l0.length c0, .string a1] w fun e w' => ∃ v0_ : Value, e = .returned (v0_) ∧ Kd.R k66 66 w' w.heap.size (fun _ => True) v0_ r ∧ Below w.heap.size w w' := by
 have hu66 := Try.underlying66
 have HR0 := Aside0.mk hr0; have HC0 := Aside0.mk hc0; clear hr0 hc0
 have HB := aK (Below.refl w.heap.size w)
 have H : (q5q.l0 k l0 a1 ([] : List (S66)) 0) = some r := h
 clear h
 have H' := Aside0.mk H
 clear H
 go_enter Try.func38, Try.ntmps38
 go_wp2
 repeat (go_quiet (fail); try go_wp2)
 go_loopg [5, 6] k (fun kq v5 v6 w' => ∃ (x5_1 : List (S66)) (x6_1 : Int), v6 = .int .i64 x6_1 ∧ Aside0 (q5q.l0 kq l0 a1 x5_1 x6_1 = some r) ∧ Aside0 (kq ≤ k) ∧ Aside0 (Kd.R k66 66 w' w.heap.size (fun _ => True) v5 x5_1) ∧ Aside0 (Below w.heap.size w w'))
 case atStart => exact ⟨(([] : List (S66))), (0), ac, H', ⟨Nat.le_refl _⟩, ⟨by first | exact Kd.R_nil _ _ _ _ _ | exact Kd.N_nil _ _ _ _ _ | exact Kd.V_nil _ _ _ _ _ | exact Kd.Q_nil _ _ _ _ _ | exact Kd.S_nil _ _ _ _ _⟩, ⟨gB HB⟩⟩
 case round =>
  clear H'
  obtain ⟨x5_1, x6_1, rfl, HA, HK1, HO_5, HB⟩ := hrel
  cases gk with
  | zero => exact absurd HA.out (by simp [q5q.l0])
  | succ k1 =>
   have H := HA.out
   clear HA
   simp only [q5q.l0] at H
   by_cases c3 : x6_1 < (l0.length : Int)
   · rw [if_pos c3] at H
     have c3b0 := dT c3
     clear c3
     by_cases c4 : 0 ≤ x6_1
     · rw [if_pos c4] at H
       have c4b0 := dT c4
       clear c4
       by_cases c5 : ((rd_T66 l0 x6_1).f1).toList = a1.toList
       · rw [if_pos c5] at H
         have c5b0 : (((rd_T66 l0 x6_1).f1).toList == a1.toList) = true := beq_iff_eq.mpr c5
         have c5b1 : (((rd_T66 l0 x6_1).f1).toList != a1.toList) = false := bne_eq_false_iff_eq.mpr c5
         clear c5
         have H' := Aside0.mk H
         clear H
         obtain ⟨⟨p300, q300⟩, ad300, rfl, hx300_0, hx300_1, hx300_2, hx300_3⟩ := za (at_T66 HR0.out) x6_1
         replace hx300_0 := gc HB hx300_0
         replace hx300_1 := gc HB hx300_1
         replace hx300_2 := gc HB hx300_2
         replace hx300_3 := gc HB hx300_3
         obtain ⟨Ao6, co6, eo6⟩ := Kd.R_slice HO_5.out
         subst eo6
         go_wp2
         repeat (go_quiet (fail); try go_wp2)
         go_loopg [7] k1 (fun kq v7 w' => ∃ (x7_2 : Int), v7 = .int .i64 x7_2 ∧ Aside0 (q5q.l1 kq l0 a1 x5_1 x6_1 x7_2 = some r) ∧ Aside0 (kq ≤ k1) ∧ Aside0 (Kd.R k66 66 w' w.heap.size (fun _ => True) (.slice Ao6 x5_1.length co6) x5_1) ∧ Aside0 (Below w.heap.size w w'))
         case atStart => exact ⟨((x5_1.length : Int)), ac, H', ⟨Nat.le_refl _⟩, ⟨gR HO_5⟩, ⟨gB HB⟩⟩
         case round =>
          clear H'; (try clear c3); (try clear c3b0); (try clear c4); (try clear c4b0); (try clear c5); (try clear c5b0); (try clear c5b1); (try clear hx300_0); (try clear hx300_1); (try clear hx300_2); (try clear hx300_3); (try clear p300); (try clear q300)
          obtain ⟨x7_2, rfl, HA, HK2, HO_5, HB⟩ := hrel
          cases gk with
          | zero => exact absurd HA.out (by simp [q5q.l1])
          | succ k2 =>
           have H := HA.out
           clear HA
           simp only [q5q.l1] at H
           by_cases c7 : x7_2 > 0
           · rw [if_pos c7] at H
             have c7b0 : decide (0 < x7_2) = true := decide_eq_true c7
             clear c7
             obtain ⟨ji8, hji8⟩ : ∃ j_ : Int, (wrap64 (x7_2 - 1)) = j_ := ⟨_, rfl⟩
             replace H : (if 0 ≤ (ji8) then (if (ji8) < (x5_1.length : Int) then (if 0 ≤ x6_1 then (if x6_1 < (l0.length : Int) then (if ((rd_T66 x5_1 (ji8)).f3) < ((rd_T66 l0 x6_1).f3) then (q5q.l1 k2 l0 a1 x5_1 x6_1 ji8) else ((some (([] : List (S66)) : List (S66))).bind fun y303 => (if 0 ≤ x7_2 then (if x7_2 ≤ (x5_1.length : Int) then ((some (x5_1.take (x7_2 : Int).toNat : List (S66))).bind fun y306 => (if y303.length + y306.length < 3518437208883 then ((some (y303 ++ y306 : List (S66))).bind fun y310 => (if y310.length < 3518437208883 then ((some (y310 ++ [(⟨(rd_T66 l0 x6_1).f0, (rd_T66 l0 x6_1).f1, (rd_T66 l0 x6_1).f2, (rd_T66 l0 x6_1).f3⟩ : S66)] : List (S66))).bind fun y314 => ((some (x5_1.drop (x7_2 : Int).toNat : List (S66))).bind fun y317 => (if y314.length + y317.length < 3518437208883 then (q5q.l0 k2 l0 a1 (y314 ++ y317) (wrap64 (x6_1 + 1))) else (none)))) else (none))) else (none))) else (none)) else (none)))) else (none)) else (none)) else (none)) else (none)) = some r := by first | (rw [hji8] at H; exact H) | (simp only [hji8] at H ⊢; exact H)
             have hji8w : (IntKind.i64.wrap (x7_2 - 1)) = ji8 := (i64_w _).trans hji8
             by_cases c9 : 0 ≤ (ji8)
             · rw [if_pos c9] at H
               have c9b0 := dT c9
               clear c9
               by_cases c10 : (ji8) < (x5_1.length : Int)
               · rw [if_pos c10] at H
                 have c10b0 := dT c10
                 clear c10
                 by_cases c11 : 0 ≤ x6_1
                 · rw [if_pos c11] at H
                   have c11b0 := dT c11
                   clear c11
                   by_cases c12 : x6_1 < (l0.length : Int)
                   · rw [if_pos c12] at H
                     have c12b0 := dT c12
                     clear c12
                     by_cases c13 : ((rd_T66 x5_1 (ji8)).f3) < ((rd_T66 l0 x6_1).f3)
                     · rw [if_pos c13] at H
                       have c13b0 := dT c13
                       clear c13
                       have H' := Aside0.mk H
                       clear H
                       obtain ⟨⟨p301, q301⟩, ad301, rfl, hx301_0, hx301_1, hx301_2, hx301_3⟩ := za (at_T66 (Kd.R_reads' HO_5.out).2.2) (ji8)
                       obtain ⟨⟨p302, q302⟩, ad302, e302, hx302_0, hx302_1, hx302_2, hx302_3⟩ := za (at_T66 HR0.out) x6_1
                       obtain rfl : ad300 = ad302 := (by injection e302)
                       replace hx302_0 := gc HB hx302_0
                       replace hx302_1 := gc HB hx302_1
                       replace hx302_2 := gc HB hx302_2
                       replace hx302_3 := gc HB hx302_3
                       go_wp2
                       repeat (go_quiet (fail); try go_wp2)
                       go_roundg k2
                       case measure => have := HK1.out; have := HK2.out; omega
                       case rel => exact ⟨(ji8), (by first | rfl | (simp; done) | (simp only [← hji8] <;> (first | rfl | simp)) | (simp [*]; done)), H', ⟨by have := HK1.out; have := HK2.out; omega⟩, ⟨gR HO_5⟩, ⟨gB HB⟩⟩
                     · rw [if_neg c13] at H
                       have c13b0 := dF c13
                       clear c13
                       obtain ⟨y303, hy_⟩ : ∃ y_ : List (S66), y_ = (([] : List (S66))) := ⟨_, rfl⟩
                       replace H : (if 0 ≤ x7_2 then (if x7_2 ≤ (x5_1.length : Int) then ((some (x5_1.take (x7_2 : Int).toNat : List (S66))).bind fun y306 => (if y303.length + y306.length < 3518437208883 then ((some (y303 ++ y306 : List (S66))).bind fun y310 => (if y310.length < 3518437208883 then ((some (y310 ++ [(⟨(rd_T66 l0 x6_1).f0, (rd_T66 l0 x6_1).f1, (rd_T66 l0 x6_1).f2, (rd_T66 l0 x6_1).f3⟩ : S66)] : List (S66))).bind fun y314 => ((some (x5_1.drop (x7_2 : Int).toNat : List (S66))).bind fun y317 => (if y314.length + y317.length < 3518437208883 then (q5q.l0 k2 l0 a1 (y314 ++ y317) (wrap64 (x6_1 + 1))) else (none)))) else (none))) else (none))) else (none)) else (none)) = some r := h2
                       have Ny303 := Aside0.mk hy_; clear hy_
                       by_cases c14 : 0 ≤ x7_2
                       · rw [if_pos c14] at H
                         have c14b0 := eq_true c14
                         have c14b1 : decide (0 ≤ x7_2) = true := decide_eq_true c14
                         clear c14
                         by_cases c15 : x7_2 ≤ (x5_1.length : Int)
                         · rw [if_pos c15] at H
                           have c15b0 := eq_true c15
                           have c15b1 : decide (x7_2 ≤ (x5_1.length : Int)) = true := decide_eq_true c15
                           clear c15
                           obtain ⟨y306, hy_⟩ : ∃ y_ : List (S66), y_ = (x5_1.take (x7_2 : Int).toNat) := ⟨_, rfl⟩
                           replace H : (if y303.length + y306.length < 3518437208883 then ((some (y303 ++ y306 : List (S66))).bind fun y310 => (if y310.length < 3518437208883 then ((some (y310 ++ [(⟨(rd_T66 l0 x6_1).f0, (rd_T66 l0 x6_1).f1, (rd_T66 l0 x6_1).f2, (rd_T66 l0 x6_1).f3⟩ : S66)] : List (S66))).bind fun y314 => ((some (x5_1.drop (x7_2 : Int).toNat : List (S66))).bind fun y317 => (if y314.length + y317.length < 3518437208883 then (q5q.l0 k2 l0 a1 (y314 ++ y317) (wrap64 (x6_1 + 1))) else (none)))) else (none))) else (none)) = some r := h2
                           have Ny306 := Aside0.mk hy_; clear hy_
                           by_cases c16 : y303.length + y306.length < 3518437208883
                           · rw [if_pos c16] at H
                             have LMc16 := Aside0.mk c16; clear c16
                             obtain ⟨y310, hy_⟩ : ∃ y_ : List (S66), y_ = (y303 ++ y306) := ⟨_, rfl⟩
                             replace H : (if y310.length < 3518437208883 then ((some (y310 ++ [(⟨(rd_T66 l0 x6_1).f0, (rd_T66 l0 x6_1).f1, (rd_T66 l0 x6_1).f2, (rd_T66 l0 x6_1).f3⟩ : S66)] : List (S66))).bind fun y314 => ((some (x5_1.drop (x7_2 : Int).toNat : List (S66))).bind fun y317 => (if y314.length + y317.length < 3518437208883 then (q5q.l0 k2 l0 a1 (y314 ++ y317) (wrap64 (x6_1 + 1))) else (none)))) else (none)) = some r := h2
                             have Ny310 := Aside0.mk hy_; clear hy_
                             by_cases c17 : y310.length < 3518437208883
                             · rw [if_pos c17] at H
                               have LMc17 := Aside0.mk c17; clear c17
                               obtain ⟨y314, hy_⟩ : ∃ y_ : List (S66), y_ = (y310 ++ [(⟨(rd_T66 l0 x6_1).f0, (rd_T66 l0 x6_1).f1, (rd_T66 l0 x6_1).f2, (rd_T66 l0 x6_1).f3⟩ : S66)]) := ⟨_, rfl⟩
                               replace H : ((some (x5_1.drop (x7_2 : Int).toNat : List (S66))).bind fun y317 => (if y314.length + y317.length < 3518437208883 then (q5q.l0 k2 l0 a1 (y314 ++ y317) (wrap64 (x6_1 + 1))) else (none))) = some r := h2
                               have Ny314 := Aside0.mk hy_; clear hy_
                               have c18b0 := eq_true (od : 0 ≤ x7_2)
                               have c19b0 := eq_true (od : x7_2 ≤ (x5_1.length : Int))
                               obtain ⟨y317, hy_⟩ : ∃ y_ : List (S66), y_ = (x5_1.drop (x7_2 : Int).toNat) := ⟨_, rfl⟩
                               replace H : (if y314.length + y317.length < 3518437208883 then (q5q.l0 k2 l0 a1 (y314 ++ y317) (wrap64 (x6_1 + 1))) else (none)) = some r := h2
                               have Ny317 := Aside0.mk hy_; clear hy_
                               by_cases c20 : y314.length + y317.length < 3518437208883
                               · rw [if_pos c20] at H
                                 have LMc20 := Aside0.mk c20; clear c20
                                 obtain ⟨y321, hy_⟩ : ∃ y_ : List (S66), y_ = (y314 ++ y317) := ⟨_, rfl⟩
                                 replace H : (q5q.l0 k2 l0 a1 y321 (wrap64 (x6_1 + 1))) = some r := h2
                                 have Ny321 := Aside0.mk hy_; clear hy_
                                 have H' := Aside0.mk H
                                 clear H
                                 obtain ⟨⟨p301, q301⟩, ad301, rfl, hx301_0, hx301_1, hx301_2, hx301_3⟩ := za (at_T66 (Kd.R_reads' HO_5.out).2.2) (ji8)
                                 obtain ⟨⟨p302, q302⟩, ad302, e302, hx302_0, hx302_1, hx302_2, hx302_3⟩ := za (at_T66 HR0.out) x6_1
                                 obtain rfl : ad300 = ad302 := (by injection e302)
                                 replace hx302_0 := gc HB hx302_0
                                 replace hx302_1 := gc HB hx302_1
                                 replace hx302_2 := gc HB hx302_2
                                 replace hx302_3 := gc HB hx302_3
                                 go_wp2_with (first | ((with_reducible refine gate_dst (N := 42) rfl ?_); refine Kd.R_lit k66 _ 66 ?hg (N := 42) ?hd (xs := ([] : List (S66))) (inner := []) (ok := fun _ => True) (okp := fun _ => True) ?hr ?hp (fun _ hk => hk) trivial (Below.refl _ _) (Nat.le_refl _) (by simp) ?_; (case hd => rfl); (case hg => rfl); (case hr => first | (go_simp; done) | (go_simp; rfl) | (have hcq := hcq_.out; have hfq := hfq_.out; go_simp; done)); (case hp => exact (Reps.none _ _)); intro v304 w21 ho22 hb hg_ hnew_; clear hg_ hnew_; (first | rw [← Ny303.out] at ho22 | (simp only [Int.reduceToNat] at ho22; rw [← Ny303.out] at ho22)); have HO305 := aK (Kd.R_lower (Kd.R_new' ho22 (Kd.R_lt (gR HO_5))) (below_size (gB HB))); replace HO_5 := aK (Kd.R_elder' (gR HO_5) (Kd.R_base ho22) hb); replace HB := aK (below_step (gB HB) hb); clear hb ho22; have q23 : (x7_2 : Int) ≤ ((x5_1.length : Int) : Int) := od; obtain ⟨i023, hi023, _, hsz23, _⟩ := info_parts info66; have hroom23 : x5_1.length ≤ co6 := (Kd.R_reads' HO_5.out).2.1; have hC23 : Kd.C k66 _ (some ad301) x5_1.length x5_1 := (Kd.R_reads' HO_5.out).2.2; have hcut23 := cut_to (P := Try.prog) 46 66 .i64 Try.underlying46 hi023 (some ad301) x5_1.length co6 x7_2 (od) q23 hroom23; have hr23 := Kd.C_take (m := (x7_2 : Int).toNat) hC23 (by omega); have hy_ : y306.length = (x7_2 : Int).toNat := (by rw [Ny306.out, List.length_take]; omega); rw [← Ny306.out] at hr23; rw [← hy_] at hcut23; have HR309 := Aside0.mk hr23; have HC309 := aK (show y306.length ≤ co6 from by omega); clear hr23 hC23 hroom23 hi023 hsz23; have KY23 := Aside0.mk hy_; clear hy_; have KL23 := aK (show (x7_2 : Int).toNat ≤ x5_1.length from by omega); replace q23 := eq_true q23) | ((with_reducible refine q25q (b := .append) (xs := #[.tmp 42, .tmp 45]) rfl ?_); at_builtin; refine Kd.R_append_rows k66 (w0 := w) w.heap.size rfl (.tmp 42) (.tmp 45) 46 66 (.agg #[(.int .i64 0), (.string ⟨#[]⟩), (.int .i64 0), (.int .i64 0)]) 40 rfl Try.underlying46 info66 rfl (by decide) (by omega) v304 y303 y306 _ _ _ (fun k_ => some k_ ≠ (.slice (some ad301) x5_1.length co6 : Value).ownBlock) (fun _ => False) rfl rfl ?aO ?aR (fun _ _ h => h) (fun _ h => h.elim) ?aF ?aB ?aS ?aL ?_; (case aR => repeat (first | exact (by repeat (first | (with_reducible exact HR309.out) | (with_reducible refine Kd.C_alloc ?_ _) | (with_reducible refine Kd.C_drewN ?_ _) | (with_reducible refine Kd.C_drew ?_) | exact HR309.out)) | (with_reducible refine Kd.C_alloc ?_ _) | (with_reducible refine Kd.C_drewN ?_ _) | (with_reducible refine Kd.C_drew ?_))); (case aB => exact (gB HB)); (case aF => exact (fun k_ hk => Kd.fresh' (Kd.R_lt (gR HO_5)) k_ hk)); (case aO => exact (gR ⟨Kd.R_mono HO305.out (fun _ hk => hk.2)⟩)); (case aS => exact (below_size (gB HB))); (case aL => have := LMc16.out; omega); intro v311 w24 ho hb hg hat; rw [← Ny310.out] at ho; replace HB := aK (hb); replace HR309 := aK ((show Kd.C k66 w24 (some ad301) y306.length y306 from by rw [Ny306.out]; exact Kd.C_take (m := (x7_2 : Int).toNat) ((Kd.R_reads' (Kd.R_after (ok := (fun _ => True)) (gR HO_5) hg hat)).2.2) KL23.out)); replace HO_5 := aK (Kd.R_after (ok := (fun _ => True)) (gR HO_5) hg hat); have HO312 := aK (ho); clear HO305; clear ho hb hg hat; have p313 : 0 ≤ (x6_1 : Int) := od; have q313 : x6_1 < (l0.length : Int) := od; obtain ⟨ad313, e313, hx313_0, hx313_1, hx313_2, hx313_3⟩ := at_T66 HR0.out x6_1 p313 q313; obtain rfl : ad300 = ad313 := (by injection e313); replace hx313_0 := gc HB hx313_0; replace hx313_1 := gc HB hx313_1; replace hx313_2 := gc HB hx313_2; replace hx313_3 := gc HB hx313_3; replace p313 := eq_true p313; replace q313 := eq_true q313) | ((with_reducible refine q25q (b := .append) (xs := #[.tmp 47, .tmp 52]) rfl ?_); at_builtin; refine Kd.R_append k66 (w0 := w) w.heap.size rfl (.tmp 47) (.tmp 52) 46 66 (.agg #[(.int .i64 0), (.string ⟨#[]⟩), (.int .i64 0), (.int .i64 0)]) 40 rfl Try.underlying46 info66 rfl (by decide) (by omega) v311 y310 (⟨(rd_T66 l0 x6_1).f0, (rd_T66 l0 x6_1).f1, (rd_T66 l0 x6_1).f2, (rd_T66 l0 x6_1).f3⟩ : S66) [.int .i64 ((rd_T66 l0 x6_1).f0), .string ((rd_T66 l0 x6_1).f1), .int .i64 ((rd_T66 l0 x6_1).f2), .int .i64 ((rd_T66 l0 x6_1).f3)] (fun k_ => some k_ ≠ (.slice (some ad301) x5_1.length co6 : Value).ownBlock) (fun _ => False) rfl rfl ?aP (fun _ hk => hk.elim) ?aF ?aO ?aB ?aS ?aL ?_; (case aP => exact k66_mkM _ _ _ (⟨(rd_T66 l0 x6_1).f0, (rd_T66 l0 x6_1).f1, (rd_T66 l0 x6_1).f2, (rd_T66 l0 x6_1).f3⟩ : S66)); (case aB => exact (gB HB)); (case aF => exact (fun k_ hk => Kd.fresh' (Kd.R_lt (gR HO_5)) k_ hk)); (case aO => exact (gR HO312)); (case aS => exact (below_size (gB HB))); (case aL => have := LMc17.out; omega); intro v315 w25 ho hb hg hat; rw [← Ny314.out] at ho; replace HB := aK (hb); replace HR309 := aK ((show Kd.C k66 w25 (some ad301) y306.length y306 from by rw [Ny306.out]; exact Kd.C_take (m := (x7_2 : Int).toNat) ((Kd.R_reads' (Kd.R_after (ok := (fun _ => True)) (gR HO_5) hg hat)).2.2) KL23.out)); replace HO_5 := aK (Kd.R_after (ok := (fun _ => True)) (gR HO_5) hg hat); have HO316 := aK (ho); clear HO312; clear ho hb hg hat; have q26 : (x7_2 : Int) ≤ ((x5_1.length : Int) : Int) := od; obtain ⟨i026, hi026, _, hsz26, _⟩ := info_parts info66; have hroom26 : x5_1.length ≤ co6 := (Kd.R_reads' HO_5.out).2.1; have hC26 : Kd.C k66 _ (some ad301) x5_1.length x5_1 := (Kd.R_reads' HO_5.out).2.2; have q026 : (0 : Int) ≤ (x7_2 : Int) := od; have hcut26 := cut_from (P := Try.prog) 46 66 .i64 Try.underlying46 hi026 4 hsz26 (some ad301) x5_1.length co6 x7_2 q026 q26; have hr26 := Kd.C_drop (m := (x7_2 : Int).toNat) (c := co6) hC26 (by omega) hroom26; obtain ⟨A26, hA26⟩ : ∃ A1, A1 = (if co6 = (x7_2 : Int).toNat then (some ad301) else ((some ad301) : Option Addr).map (·.add ((x7_2 : Int).toNat * 4))) := ⟨_, rfl⟩; obtain ⟨c26, hc26⟩ : ∃ c1, c1 = co6 - (x7_2 : Int).toNat := ⟨_, rfl⟩; have hy_ : y317.length = x5_1.length - (x7_2 : Int).toNat := (by rw [Ny317.out, List.length_drop] <;> omega); rw [show (x5_1).drop (x7_2 : Int).toNat = y317 from Ny317.out.symm] at hr26; replace hr26 : Kd.C k66 _ A26 y317.length y317 := (by rw [hA26]; exact hr26); rw [← hy_, ← hA26, ← hc26] at hcut26; have HR320 := Aside0.mk hr26; have HC320 := aK (show y317.length ≤ c26 from by rw [hy_, hc26]; exact Nat.sub_le_sub_right hroom26 _); clear hr26 hC26 hroom26 hi026 hsz26 hc26; have KY26 := Aside0.mk hy_; have KA26 := Aside0.mk hA26; clear hy_ hA26; have KL26 := aK (show (x7_2 : Int).toNat ≤ x5_1.length from by omega); replace q26 := eq_true q26) | ((with_reducible refine q25q (b := .append) (xs := #[.tmp 54, .tmp 57]) rfl ?_); at_builtin; refine Kd.R_append_rows k66 (w0 := w) w.heap.size rfl (.tmp 54) (.tmp 57) 46 66 (.agg #[(.int .i64 0), (.string ⟨#[]⟩), (.int .i64 0), (.int .i64 0)]) 40 rfl Try.underlying46 info66 rfl (by decide) (by omega) v315 y314 y317 _ _ _ (fun k_ => some k_ ≠ (.slice (some ad301) x5_1.length co6 : Value).ownBlock) (fun _ => False) rfl rfl ?aO ?aR (fun _ _ h => h) (fun _ h => h.elim) ?aF ?aB ?aS ?aL ?_; (case aR => repeat (first | exact (by repeat (first | (with_reducible exact HR320.out) | (with_reducible refine Kd.C_alloc ?_ _) | (with_reducible refine Kd.C_drewN ?_ _) | (with_reducible refine Kd.C_drew ?_) | exact HR320.out)) | (with_reducible refine Kd.C_alloc ?_ _) | (with_reducible refine Kd.C_drewN ?_ _) | (with_reducible refine Kd.C_drew ?_))); (case aB => exact (gB HB)); (case aF => exact (fun k_ hk => Kd.fresh' (Kd.R_lt (gR HO_5)) k_ hk)); (case aO => exact (gR HO316)); (case aS => exact (below_size (gB HB))); (case aL => have := LMc20.out; omega); intro v322 w27 ho hb hg hat; rw [← Ny321.out] at ho; replace HB := aK (hb); replace HR309 := aK ((show Kd.C k66 w27 (some ad301) y306.length y306 from by rw [Ny306.out]; exact Kd.C_take (m := (x7_2 : Int).toNat) ((Kd.R_reads' (Kd.R_after (ok := (fun _ => True)) (gR HO_5) hg hat)).2.2) KL23.out)); replace HR320 := aK ((show Kd.C k66 w27 A26 y317.length y317 from by rw [Ny317.out, KA26.out]; exact Kd.C_drop (m := (x7_2 : Int).toNat) (c := co6) ((Kd.R_reads' (Kd.R_after (ok := (fun _ => True)) (gR HO_5) hg hat)).2.2) KL26.out ((Kd.R_reads' (Kd.R_after (ok := (fun _ => True)) (gR HO_5) hg hat)).2.1))); replace HO_5 := aK (Kd.R_after (ok := (fun _ => True)) (gR HO_5) hg hat); have HO323 := aK (ho); clear HO316; clear ho hb hg hat))
                                 repeat (go_quiet (fail); try go_wp2_with (first | ((with_reducible refine gate_dst (N := 42) rfl ?_); refine Kd.R_lit k66 _ 66 ?hg (N := 42) ?hd (xs := ([] : List (S66))) (inner := []) (ok := fun _ => True) (okp := fun _ => True) ?hr ?hp (fun _ hk => hk) trivial (Below.refl _ _) (Nat.le_refl _) (by simp) ?_; (case hd => rfl); (case hg => rfl); (case hr => first | (go_simp; done) | (go_simp; rfl) | (have hcq := hcq_.out; have hfq := hfq_.out; go_simp; done)); (case hp => exact (Reps.none _ _)); intro v304 w21 ho22 hb hg_ hnew_; clear hg_ hnew_; (first | rw [← Ny303.out] at ho22 | (simp only [Int.reduceToNat] at ho22; rw [← Ny303.out] at ho22)); have HO305 := aK (Kd.R_lower (Kd.R_new' ho22 (Kd.R_lt (gR HO_5))) (below_size (gB HB))); replace HO_5 := aK (Kd.R_elder' (gR HO_5) (Kd.R_base ho22) hb); replace HB := aK (below_step (gB HB) hb); clear hb ho22; have q23 : (x7_2 : Int) ≤ ((x5_1.length : Int) : Int) := od; obtain ⟨i023, hi023, _, hsz23, _⟩ := info_parts info66; have hroom23 : x5_1.length ≤ co6 := (Kd.R_reads' HO_5.out).2.1; have hC23 : Kd.C k66 _ (some ad301) x5_1.length x5_1 := (Kd.R_reads' HO_5.out).2.2; have hcut23 := cut_to (P := Try.prog) 46 66 .i64 Try.underlying46 hi023 (some ad301) x5_1.length co6 x7_2 (od) q23 hroom23; have hr23 := Kd.C_take (m := (x7_2 : Int).toNat) hC23 (by omega); have hy_ : y306.length = (x7_2 : Int).toNat := (by rw [Ny306.out, List.length_take]; omega); rw [← Ny306.out] at hr23; rw [← hy_] at hcut23; have HR309 := Aside0.mk hr23; have HC309 := aK (show y306.length ≤ co6 from by omega); clear hr23 hC23 hroom23 hi023 hsz23; have KY23 := Aside0.mk hy_; clear hy_; have KL23 := aK (show (x7_2 : Int).toNat ≤ x5_1.length from by omega); replace q23 := eq_true q23) | ((with_reducible refine q25q (b := .append) (xs := #[.tmp 42, .tmp 45]) rfl ?_); at_builtin; refine Kd.R_append_rows k66 (w0 := w) w.heap.size rfl (.tmp 42) (.tmp 45) 46 66 (.agg #[(.int .i64 0), (.string ⟨#[]⟩), (.int .i64 0), (.int .i64 0)]) 40 rfl Try.underlying46 info66 rfl (by decide) (by omega) v304 y303 y306 _ _ _ (fun k_ => some k_ ≠ (.slice (some ad301) x5_1.length co6 : Value).ownBlock) (fun _ => False) rfl rfl ?aO ?aR (fun _ _ h => h) (fun _ h => h.elim) ?aF ?aB ?aS ?aL ?_; (case aR => repeat (first | exact (by repeat (first | (with_reducible exact HR309.out) | (with_reducible refine Kd.C_alloc ?_ _) | (with_reducible refine Kd.C_drewN ?_ _) | (with_reducible refine Kd.C_drew ?_) | exact HR309.out)) | (with_reducible refine Kd.C_alloc ?_ _) | (with_reducible refine Kd.C_drewN ?_ _) | (with_reducible refine Kd.C_drew ?_))); (case aB => exact (gB HB)); (case aF => exact (fun k_ hk => Kd.fresh' (Kd.R_lt (gR HO_5)) k_ hk)); (case aO => exact (gR ⟨Kd.R_mono HO305.out (fun _ hk => hk.2)⟩)); (case aS => exact (below_size (gB HB))); (case aL => have := LMc16.out; omega); intro v311 w24 ho hb hg hat; rw [← Ny310.out] at ho; replace HB := aK (hb); replace HR309 := aK ((show Kd.C k66 w24 (some ad301) y306.length y306 from by rw [Ny306.out]; exact Kd.C_take (m := (x7_2 : Int).toNat) ((Kd.R_reads' (Kd.R_after (ok := (fun _ => True)) (gR HO_5) hg hat)).2.2) KL23.out)); replace HO_5 := aK (Kd.R_after (ok := (fun _ => True)) (gR HO_5) hg hat); have HO312 := aK (ho); clear HO305; clear ho hb hg hat; have p313 : 0 ≤ (x6_1 : Int) := od; have q313 : x6_1 < (l0.length : Int) := od; obtain ⟨ad313, e313, hx313_0, hx313_1, hx313_2, hx313_3⟩ := at_T66 HR0.out x6_1 p313 q313; obtain rfl : ad300 = ad313 := (by injection e313); replace hx313_0 := gc HB hx313_0; replace hx313_1 := gc HB hx313_1; replace hx313_2 := gc HB hx313_2; replace hx313_3 := gc HB hx313_3; replace p313 := eq_true p313; replace q313 := eq_true q313) | ((with_reducible refine q25q (b := .append) (xs := #[.tmp 47, .tmp 52]) rfl ?_); at_builtin; refine Kd.R_append k66 (w0 := w) w.heap.size rfl (.tmp 47) (.tmp 52) 46 66 (.agg #[(.int .i64 0), (.string ⟨#[]⟩), (.int .i64 0), (.int .i64 0)]) 40 rfl Try.underlying46 info66 rfl (by decide) (by omega) v311 y310 (⟨(rd_T66 l0 x6_1).f0, (rd_T66 l0 x6_1).f1, (rd_T66 l0 x6_1).f2, (rd_T66 l0 x6_1).f3⟩ : S66) [.int .i64 ((rd_T66 l0 x6_1).f0), .string ((rd_T66 l0 x6_1).f1), .int .i64 ((rd_T66 l0 x6_1).f2), .int .i64 ((rd_T66 l0 x6_1).f3)] (fun k_ => some k_ ≠ (.slice (some ad301) x5_1.length co6 : Value).ownBlock) (fun _ => False) rfl rfl ?aP (fun _ hk => hk.elim) ?aF ?aO ?aB ?aS ?aL ?_; (case aP => exact k66_mkM _ _ _ (⟨(rd_T66 l0 x6_1).f0, (rd_T66 l0 x6_1).f1, (rd_T66 l0 x6_1).f2, (rd_T66 l0 x6_1).f3⟩ : S66)); (case aB => exact (gB HB)); (case aF => exact (fun k_ hk => Kd.fresh' (Kd.R_lt (gR HO_5)) k_ hk)); (case aO => exact (gR HO312)); (case aS => exact (below_size (gB HB))); (case aL => have := LMc17.out; omega); intro v315 w25 ho hb hg hat; rw [← Ny314.out] at ho; replace HB := aK (hb); replace HR309 := aK ((show Kd.C k66 w25 (some ad301) y306.length y306 from by rw [Ny306.out]; exact Kd.C_take (m := (x7_2 : Int).toNat) ((Kd.R_reads' (Kd.R_after (ok := (fun _ => True)) (gR HO_5) hg hat)).2.2) KL23.out)); replace HO_5 := aK (Kd.R_after (ok := (fun _ => True)) (gR HO_5) hg hat); have HO316 := aK (ho); clear HO312; clear ho hb hg hat; have q26 : (x7_2 : Int) ≤ ((x5_1.length : Int) : Int) := od; obtain ⟨i026, hi026, _, hsz26, _⟩ := info_parts info66; have hroom26 : x5_1.length ≤ co6 := (Kd.R_reads' HO_5.out).2.1; have hC26 : Kd.C k66 _ (some ad301) x5_1.length x5_1 := (Kd.R_reads' HO_5.out).2.2; have q026 : (0 : Int) ≤ (x7_2 : Int) := od; have hcut26 := cut_from (P := Try.prog) 46 66 .i64 Try.underlying46 hi026 4 hsz26 (some ad301) x5_1.length co6 x7_2 q026 q26; have hr26 := Kd.C_drop (m := (x7_2 : Int).toNat) (c := co6) hC26 (by omega) hroom26; obtain ⟨A26, hA26⟩ : ∃ A1, A1 = (if co6 = (x7_2 : Int).toNat then (some ad301) else ((some ad301) : Option Addr).map (·.add ((x7_2 : Int).toNat * 4))) := ⟨_, rfl⟩; obtain ⟨c26, hc26⟩ : ∃ c1, c1 = co6 - (x7_2 : Int).toNat := ⟨_, rfl⟩; have hy_ : y317.length = x5_1.length - (x7_2 : Int).toNat := (by rw [Ny317.out, List.length_drop] <;> omega); rw [show (x5_1).drop (x7_2 : Int).toNat = y317 from Ny317.out.symm] at hr26; replace hr26 : Kd.C k66 _ A26 y317.length y317 := (by rw [hA26]; exact hr26); rw [← hy_, ← hA26, ← hc26] at hcut26; have HR320 := Aside0.mk hr26; have HC320 := aK (show y317.length ≤ c26 from by rw [hy_, hc26]; exact Nat.sub_le_sub_right hroom26 _); clear hr26 hC26 hroom26 hi026 hsz26 hc26; have KY26 := Aside0.mk hy_; have KA26 := Aside0.mk hA26; clear hy_ hA26; have KL26 := aK (show (x7_2 : Int).toNat ≤ x5_1.length from by omega); replace q26 := eq_true q26) | ((with_reducible refine q25q (b := .append) (xs := #[.tmp 54, .tmp 57]) rfl ?_); at_builtin; refine Kd.R_append_rows k66 (w0 := w) w.heap.size rfl (.tmp 54) (.tmp 57) 46 66 (.agg #[(.int .i64 0), (.string ⟨#[]⟩), (.int .i64 0), (.int .i64 0)]) 40 rfl Try.underlying46 info66 rfl (by decide) (by omega) v315 y314 y317 _ _ _ (fun k_ => some k_ ≠ (.slice (some ad301) x5_1.length co6 : Value).ownBlock) (fun _ => False) rfl rfl ?aO ?aR (fun _ _ h => h) (fun _ h => h.elim) ?aF ?aB ?aS ?aL ?_; (case aR => repeat (first | exact (by repeat (first | (with_reducible exact HR320.out) | (with_reducible refine Kd.C_alloc ?_ _) | (with_reducible refine Kd.C_drewN ?_ _) | (with_reducible refine Kd.C_drew ?_) | exact HR320.out)) | (with_reducible refine Kd.C_alloc ?_ _) | (with_reducible refine Kd.C_drewN ?_ _) | (with_reducible refine Kd.C_drew ?_))); (case aB => exact (gB HB)); (case aF => exact (fun k_ hk => Kd.fresh' (Kd.R_lt (gR HO_5)) k_ hk)); (case aO => exact (gR HO316)); (case aS => exact (below_size (gB HB))); (case aL => have := LMc20.out; omega); intro v322 w27 ho hb hg hat; rw [← Ny321.out] at ho; replace HB := aK (hb); replace HR309 := aK ((show Kd.C k66 w27 (some ad301) y306.length y306 from by rw [Ny306.out]; exact Kd.C_take (m := (x7_2 : Int).toNat) ((Kd.R_reads' (Kd.R_after (ok := (fun _ => True)) (gR HO_5) hg hat)).2.2) KL23.out)); replace HR320 := aK ((show Kd.C k66 w27 A26 y317.length y317 from by rw [Ny317.out, KA26.out]; exact Kd.C_drop (m := (x7_2 : Int).toNat) (c := co6) ((Kd.R_reads' (Kd.R_after (ok := (fun _ => True)) (gR HO_5) hg hat)).2.2) KL26.out ((Kd.R_reads' (Kd.R_after (ok := (fun _ => True)) (gR HO_5) hg hat)).2.1))); replace HO_5 := aK (Kd.R_after (ok := (fun _ => True)) (gR HO_5) hg hat); have HO323 := aK (ho); clear HO316; clear ho hb hg hat)))
                                 go_roundg k2
                                 case measure => have := HK1.out; have := HK2.out; omega
                                 case rel => exact ⟨(y321), (wrap64 (x6_1 + 1)), ac, H', ⟨by have := HK1.out; have := HK2.out; omega⟩, ⟨gR ⟨Kd.R_mono HO323.out (fun _ hk => trivial)⟩⟩, ⟨gB HB⟩⟩
                               · rw [if_neg c20] at H
                                 exact absurd H (by simp)
                             · rw [if_neg c17] at H
                               exact absurd H (by simp)
                           · rw [if_neg c16] at H
                             exact absurd H (by simp)
                         · rw [if_neg c15] at H
                           exact absurd H (by simp)
                       · rw [if_neg c14] at H
                         exact absurd H (by simp)
                   · rw [if_neg c12] at H
                     exact absurd H (by simp)
                 · rw [if_neg c11] at H
                   exact absurd H (by simp)
               · rw [if_neg c10] at H
                 exact absurd H (by simp)
             · rw [if_neg c9] at H
               exact absurd H (by simp)
           · rw [if_neg c7] at H
             have c7b0 : decide (0 < x7_2) = false := decide_eq_false c7
             clear c7
             obtain ⟨y324, hy_⟩ : ∃ y_ : List (S66), y_ = (([] : List (S66))) := ⟨_, rfl⟩
             replace H : (if 0 ≤ x7_2 then (if x7_2 ≤ (x5_1.length : Int) then ((some (x5_1.take (x7_2 : Int).toNat : List (S66))).bind fun y327 => (if y324.length + y327.length < 3518437208883 then ((some (y324 ++ y327 : List (S66))).bind fun y331 => (if 0 ≤ x6_1 then (if x6_1 < (l0.length : Int) then (if y331.length < 3518437208883 then ((some (y331 ++ [(⟨(rd_T66 l0 x6_1).f0, (rd_T66 l0 x6_1).f1, (rd_T66 l0 x6_1).f2, (rd_T66 l0 x6_1).f3⟩ : S66)] : List (S66))).bind fun y335 => ((some (x5_1.drop (x7_2 : Int).toNat : List (S66))).bind fun y338 => (if y335.length + y338.length < 3518437208883 then (q5q.l0 k2 l0 a1 (y335 ++ y338) (wrap64 (x6_1 + 1))) else (none)))) else (none)) else (none)) else (none))) else (none))) else (none)) else (none)) = some r := h2
             have Ny324 := Aside0.mk hy_; clear hy_
             by_cases c28 : 0 ≤ x7_2
             · rw [if_pos c28] at H
               have c28b0 := eq_true c28
               have c28b1 : decide (0 ≤ x7_2) = true := decide_eq_true c28
               clear c28
               by_cases c29 : x7_2 ≤ (x5_1.length : Int)
               · rw [if_pos c29] at H
                 have c29b0 := eq_true c29
                 have c29b1 : decide (x7_2 ≤ (x5_1.length : Int)) = true := decide_eq_true c29
                 clear c29
                 obtain ⟨y327, hy_⟩ : ∃ y_ : List (S66), y_ = (x5_1.take (x7_2 : Int).toNat) := ⟨_, rfl⟩
                 replace H : (if y324.length + y327.length < 3518437208883 then ((some (y324 ++ y327 : List (S66))).bind fun y331 => (if 0 ≤ x6_1 then (if x6_1 < (l0.length : Int) then (if y331.length < 3518437208883 then ((some (y331 ++ [(⟨(rd_T66 l0 x6_1).f0, (rd_T66 l0 x6_1).f1, (rd_T66 l0 x6_1).f2, (rd_T66 l0 x6_1).f3⟩ : S66)] : List (S66))).bind fun y335 => ((some (x5_1.drop (x7_2 : Int).toNat : List (S66))).bind fun y338 => (if y335.length + y338.length < 3518437208883 then (q5q.l0 k2 l0 a1 (y335 ++ y338) (wrap64 (x6_1 + 1))) else (none)))) else (none)) else (none)) else (none))) else (none)) = some r := h2
                 have Ny327 := Aside0.mk hy_; clear hy_
                 by_cases c30 : y324.length + y327.length < 3518437208883
                 · rw [if_pos c30] at H
                   have LMc30 := Aside0.mk c30; clear c30
                   obtain ⟨y331, hy_⟩ : ∃ y_ : List (S66), y_ = (y324 ++ y327) := ⟨_, rfl⟩
                   replace H : (if 0 ≤ x6_1 then (if x6_1 < (l0.length : Int) then (if y331.length < 3518437208883 then ((some (y331 ++ [(⟨(rd_T66 l0 x6_1).f0, (rd_T66 l0 x6_1).f1, (rd_T66 l0 x6_1).f2, (rd_T66 l0 x6_1).f3⟩ : S66)] : List (S66))).bind fun y335 => ((some (x5_1.drop (x7_2 : Int).toNat : List (S66))).bind fun y338 => (if y335.length + y338.length < 3518437208883 then (q5q.l0 k2 l0 a1 (y335 ++ y338) (wrap64 (x6_1 + 1))) else (none)))) else (none)) else (none)) else (none)) = some r := h2
                   have Ny331 := Aside0.mk hy_; clear hy_
                   by_cases c31 : 0 ≤ x6_1
                   · rw [if_pos c31] at H
                     have c31b0 := dT c31
                     clear c31
                     by_cases c32 : x6_1 < (l0.length : Int)
                     · rw [if_pos c32] at H
                       have c32b0 := dT c32
                       clear c32
                       by_cases c33 : y331.length < 3518437208883
                       · rw [if_pos c33] at H
                         have LMc33 := Aside0.mk c33; clear c33
                         obtain ⟨y335, hy_⟩ : ∃ y_ : List (S66), y_ = (y331 ++ [(⟨(rd_T66 l0 x6_1).f0, (rd_T66 l0 x6_1).f1, (rd_T66 l0 x6_1).f2, (rd_T66 l0 x6_1).f3⟩ : S66)]) := ⟨_, rfl⟩
                         replace H : ((some (x5_1.drop (x7_2 : Int).toNat : List (S66))).bind fun y338 => (if y335.length + y338.length < 3518437208883 then (q5q.l0 k2 l0 a1 (y335 ++ y338) (wrap64 (x6_1 + 1))) else (none))) = some r := h2
                         have Ny335 := Aside0.mk hy_; clear hy_
                         have c34b0 := eq_true (od : 0 ≤ x7_2)
                         have c35b0 := eq_true (od : x7_2 ≤ (x5_1.length : Int))
                         obtain ⟨y338, hy_⟩ : ∃ y_ : List (S66), y_ = (x5_1.drop (x7_2 : Int).toNat) := ⟨_, rfl⟩
                         replace H : (if y335.length + y338.length < 3518437208883 then (q5q.l0 k2 l0 a1 (y335 ++ y338) (wrap64 (x6_1 + 1))) else (none)) = some r := h2
                         have Ny338 := Aside0.mk hy_; clear hy_
                         by_cases c36 : y335.length + y338.length < 3518437208883
                         · rw [if_pos c36] at H
                           have LMc36 := Aside0.mk c36; clear c36
                           obtain ⟨y342, hy_⟩ : ∃ y_ : List (S66), y_ = (y335 ++ y338) := ⟨_, rfl⟩
                           replace H : (q5q.l0 k2 l0 a1 y342 (wrap64 (x6_1 + 1))) = some r := h2
                           have Ny342 := Aside0.mk hy_; clear hy_
                           have H' := Aside0.mk H
                           clear H
                           go_wp2_with (first | ((with_reducible refine gate_dst (N := 42) rfl ?_); refine Kd.R_lit k66 _ 66 ?hg (N := 42) ?hd (xs := ([] : List (S66))) (inner := []) (ok := fun _ => True) (okp := fun _ => True) ?hr ?hp (fun _ hk => hk) trivial (Below.refl _ _) (Nat.le_refl _) (by simp) ?_; (case hd => rfl); (case hg => rfl); (case hr => first | (go_simp; done) | (go_simp; rfl) | (have hcq := hcq_.out; have hfq := hfq_.out; go_simp; done)); (case hp => exact (Reps.none _ _)); intro v325 w37 ho38 hb hg_ hnew_; clear hg_ hnew_; (first | rw [← Ny324.out] at ho38 | (simp only [Int.reduceToNat] at ho38; rw [← Ny324.out] at ho38)); have HO326 := aK (Kd.R_lower (Kd.R_new' ho38 (Kd.R_lt (gR HO_5))) (below_size (gB HB))); replace HO_5 := aK (Kd.R_elder' (gR HO_5) (Kd.R_base ho38) hb); replace HB := aK (below_step (gB HB) hb); clear hb ho38; have q39 : (x7_2 : Int) ≤ ((x5_1.length : Int) : Int) := od; obtain ⟨i039, hi039, _, hsz39, _⟩ := info_parts info66; have hroom39 : x5_1.length ≤ co6 := (Kd.R_reads' HO_5.out).2.1; have hC39 : Kd.C k66 _ Ao6 x5_1.length x5_1 := (Kd.R_reads' HO_5.out).2.2; have hcut39 := cut_to (P := Try.prog) 46 66 .i64 Try.underlying46 hi039 Ao6 x5_1.length co6 x7_2 (od) q39 hroom39; have hr39 := Kd.C_take (m := (x7_2 : Int).toNat) hC39 (by omega); have hy_ : y327.length = (x7_2 : Int).toNat := (by rw [Ny327.out, List.length_take]; omega); rw [← Ny327.out] at hr39; rw [← hy_] at hcut39; have HR330 := Aside0.mk hr39; have HC330 := aK (show y327.length ≤ co6 from by omega); clear hr39 hC39 hroom39 hi039 hsz39; have KY39 := Aside0.mk hy_; clear hy_; have KL39 := aK (show (x7_2 : Int).toNat ≤ x5_1.length from by omega); replace q39 := eq_true q39) | ((with_reducible refine q25q (b := .append) (xs := #[.tmp 42, .tmp 45]) rfl ?_); at_builtin; refine Kd.R_append_rows k66 (w0 := w) w.heap.size rfl (.tmp 42) (.tmp 45) 46 66 (.agg #[(.int .i64 0), (.string ⟨#[]⟩), (.int .i64 0), (.int .i64 0)]) 40 rfl Try.underlying46 info66 rfl (by decide) (by omega) v325 y324 y327 _ _ _ (fun k_ => some k_ ≠ (.slice Ao6 x5_1.length co6 : Value).ownBlock) (fun _ => False) rfl rfl ?aO ?aR (fun _ _ h => h) (fun _ h => h.elim) ?aF ?aB ?aS ?aL ?_; (case aR => repeat (first | exact (by repeat (first | (with_reducible exact HR330.out) | (with_reducible refine Kd.C_alloc ?_ _) | (with_reducible refine Kd.C_drewN ?_ _) | (with_reducible refine Kd.C_drew ?_) | exact HR330.out)) | (with_reducible refine Kd.C_alloc ?_ _) | (with_reducible refine Kd.C_drewN ?_ _) | (with_reducible refine Kd.C_drew ?_))); (case aB => exact (gB HB)); (case aF => exact (fun k_ hk => Kd.fresh' (Kd.R_lt (gR HO_5)) k_ hk)); (case aO => exact (gR ⟨Kd.R_mono HO326.out (fun _ hk => hk.2)⟩)); (case aS => exact (below_size (gB HB))); (case aL => have := LMc30.out; omega); intro v332 w40 ho hb hg hat; rw [← Ny331.out] at ho; replace HB := aK (hb); replace HR330 := aK ((show Kd.C k66 w40 Ao6 y327.length y327 from by rw [Ny327.out]; exact Kd.C_take (m := (x7_2 : Int).toNat) ((Kd.R_reads' (Kd.R_after (ok := (fun _ => True)) (gR HO_5) hg hat)).2.2) KL39.out)); replace HO_5 := aK (Kd.R_after (ok := (fun _ => True)) (gR HO_5) hg hat); have HO333 := aK (ho); clear HO326; clear ho hb hg hat; have p334 : 0 ≤ (x6_1 : Int) := od; have q334 : x6_1 < (l0.length : Int) := od; obtain ⟨ad334, e334, hx334_0, hx334_1, hx334_2, hx334_3⟩ := at_T66 HR0.out x6_1 p334 q334; obtain rfl : ad300 = ad334 := (by injection e334); replace hx334_0 := gc HB hx334_0; replace hx334_1 := gc HB hx334_1; replace hx334_2 := gc HB hx334_2; replace hx334_3 := gc HB hx334_3; replace p334 := eq_true p334; replace q334 := eq_true q334) | ((with_reducible refine q25q (b := .append) (xs := #[.tmp 47, .tmp 52]) rfl ?_); at_builtin; refine Kd.R_append k66 (w0 := w) w.heap.size rfl (.tmp 47) (.tmp 52) 46 66 (.agg #[(.int .i64 0), (.string ⟨#[]⟩), (.int .i64 0), (.int .i64 0)]) 40 rfl Try.underlying46 info66 rfl (by decide) (by omega) v332 y331 (⟨(rd_T66 l0 x6_1).f0, (rd_T66 l0 x6_1).f1, (rd_T66 l0 x6_1).f2, (rd_T66 l0 x6_1).f3⟩ : S66) [.int .i64 ((rd_T66 l0 x6_1).f0), .string ((rd_T66 l0 x6_1).f1), .int .i64 ((rd_T66 l0 x6_1).f2), .int .i64 ((rd_T66 l0 x6_1).f3)] (fun k_ => some k_ ≠ (.slice Ao6 x5_1.length co6 : Value).ownBlock) (fun _ => False) rfl rfl ?aP (fun _ hk => hk.elim) ?aF ?aO ?aB ?aS ?aL ?_; (case aP => exact k66_mkM _ _ _ (⟨(rd_T66 l0 x6_1).f0, (rd_T66 l0 x6_1).f1, (rd_T66 l0 x6_1).f2, (rd_T66 l0 x6_1).f3⟩ : S66)); (case aB => exact (gB HB)); (case aF => exact (fun k_ hk => Kd.fresh' (Kd.R_lt (gR HO_5)) k_ hk)); (case aO => exact (gR HO333)); (case aS => exact (below_size (gB HB))); (case aL => have := LMc33.out; omega); intro v336 w41 ho hb hg hat; rw [← Ny335.out] at ho; replace HB := aK (hb); replace HR330 := aK ((show Kd.C k66 w41 Ao6 y327.length y327 from by rw [Ny327.out]; exact Kd.C_take (m := (x7_2 : Int).toNat) ((Kd.R_reads' (Kd.R_after (ok := (fun _ => True)) (gR HO_5) hg hat)).2.2) KL39.out)); replace HO_5 := aK (Kd.R_after (ok := (fun _ => True)) (gR HO_5) hg hat); have HO337 := aK (ho); clear HO333; clear ho hb hg hat; have q42 : (x7_2 : Int) ≤ ((x5_1.length : Int) : Int) := od; obtain ⟨i042, hi042, _, hsz42, _⟩ := info_parts info66; have hroom42 : x5_1.length ≤ co6 := (Kd.R_reads' HO_5.out).2.1; have hC42 : Kd.C k66 _ Ao6 x5_1.length x5_1 := (Kd.R_reads' HO_5.out).2.2; have q042 : (0 : Int) ≤ (x7_2 : Int) := od; have hcut42 := cut_from (P := Try.prog) 46 66 .i64 Try.underlying46 hi042 4 hsz42 Ao6 x5_1.length co6 x7_2 q042 q42; have hr42 := Kd.C_drop (m := (x7_2 : Int).toNat) (c := co6) hC42 (by omega) hroom42; obtain ⟨A42, hA42⟩ : ∃ A1, A1 = (if co6 = (x7_2 : Int).toNat then Ao6 else (Ao6 : Option Addr).map (·.add ((x7_2 : Int).toNat * 4))) := ⟨_, rfl⟩; obtain ⟨c42, hc42⟩ : ∃ c1, c1 = co6 - (x7_2 : Int).toNat := ⟨_, rfl⟩; have hy_ : y338.length = x5_1.length - (x7_2 : Int).toNat := (by rw [Ny338.out, List.length_drop] <;> omega); rw [show (x5_1).drop (x7_2 : Int).toNat = y338 from Ny338.out.symm] at hr42; replace hr42 : Kd.C k66 _ A42 y338.length y338 := (by rw [hA42]; exact hr42); rw [← hy_, ← hA42, ← hc42] at hcut42; have HR341 := Aside0.mk hr42; have HC341 := aK (show y338.length ≤ c42 from by rw [hy_, hc42]; exact Nat.sub_le_sub_right hroom42 _); clear hr42 hC42 hroom42 hi042 hsz42 hc42; have KY42 := Aside0.mk hy_; have KA42 := Aside0.mk hA42; clear hy_ hA42; have KL42 := aK (show (x7_2 : Int).toNat ≤ x5_1.length from by omega); replace q42 := eq_true q42) | ((with_reducible refine q25q (b := .append) (xs := #[.tmp 54, .tmp 57]) rfl ?_); at_builtin; refine Kd.R_append_rows k66 (w0 := w) w.heap.size rfl (.tmp 54) (.tmp 57) 46 66 (.agg #[(.int .i64 0), (.string ⟨#[]⟩), (.int .i64 0), (.int .i64 0)]) 40 rfl Try.underlying46 info66 rfl (by decide) (by omega) v336 y335 y338 _ _ _ (fun k_ => some k_ ≠ (.slice Ao6 x5_1.length co6 : Value).ownBlock) (fun _ => False) rfl rfl ?aO ?aR (fun _ _ h => h) (fun _ h => h.elim) ?aF ?aB ?aS ?aL ?_; (case aR => repeat (first | exact (by repeat (first | (with_reducible exact HR341.out) | (with_reducible refine Kd.C_alloc ?_ _) | (with_reducible refine Kd.C_drewN ?_ _) | (with_reducible refine Kd.C_drew ?_) | exact HR341.out)) | (with_reducible refine Kd.C_alloc ?_ _) | (with_reducible refine Kd.C_drewN ?_ _) | (with_reducible refine Kd.C_drew ?_))); (case aB => exact (gB HB)); (case aF => exact (fun k_ hk => Kd.fresh' (Kd.R_lt (gR HO_5)) k_ hk)); (case aO => exact (gR HO337)); (case aS => exact (below_size (gB HB))); (case aL => have := LMc36.out; omega); intro v343 w43 ho hb hg hat; rw [← Ny342.out] at ho; replace HB := aK (hb); replace HR330 := aK ((show Kd.C k66 w43 Ao6 y327.length y327 from by rw [Ny327.out]; exact Kd.C_take (m := (x7_2 : Int).toNat) ((Kd.R_reads' (Kd.R_after (ok := (fun _ => True)) (gR HO_5) hg hat)).2.2) KL39.out)); replace HR341 := aK ((show Kd.C k66 w43 A42 y338.length y338 from by rw [Ny338.out, KA42.out]; exact Kd.C_drop (m := (x7_2 : Int).toNat) (c := co6) ((Kd.R_reads' (Kd.R_after (ok := (fun _ => True)) (gR HO_5) hg hat)).2.2) KL42.out ((Kd.R_reads' (Kd.R_after (ok := (fun _ => True)) (gR HO_5) hg hat)).2.1))); replace HO_5 := aK (Kd.R_after (ok := (fun _ => True)) (gR HO_5) hg hat); have HO344 := aK (ho); clear HO337; clear ho hb hg hat))
                           repeat (go_quiet (fail); try go_wp2_with (first | ((with_reducible refine gate_dst (N := 42) rfl ?_); refine Kd.R_lit k66 _ 66 ?hg (N := 42) ?hd (xs := ([] : List (S66))) (inner := []) (ok := fun _ => True) (okp := fun _ => True) ?hr ?hp (fun _ hk => hk) trivial (Below.refl _ _) (Nat.le_refl _) (by simp) ?_; (case hd => rfl); (case hg => rfl); (case hr => first | (go_simp; done) | (go_simp; rfl) | (have hcq := hcq_.out; have hfq := hfq_.out; go_simp; done)); (case hp => exact (Reps.none _ _)); intro v325 w37 ho38 hb hg_ hnew_; clear hg_ hnew_; (first | rw [← Ny324.out] at ho38 | (simp only [Int.reduceToNat] at ho38; rw [← Ny324.out] at ho38)); have HO326 := aK (Kd.R_lower (Kd.R_new' ho38 (Kd.R_lt (gR HO_5))) (below_size (gB HB))); replace HO_5 := aK (Kd.R_elder' (gR HO_5) (Kd.R_base ho38) hb); replace HB := aK (below_step (gB HB) hb); clear hb ho38; have q39 : (x7_2 : Int) ≤ ((x5_1.length : Int) : Int) := od; obtain ⟨i039, hi039, _, hsz39, _⟩ := info_parts info66; have hroom39 : x5_1.length ≤ co6 := (Kd.R_reads' HO_5.out).2.1; have hC39 : Kd.C k66 _ Ao6 x5_1.length x5_1 := (Kd.R_reads' HO_5.out).2.2; have hcut39 := cut_to (P := Try.prog) 46 66 .i64 Try.underlying46 hi039 Ao6 x5_1.length co6 x7_2 (od) q39 hroom39; have hr39 := Kd.C_take (m := (x7_2 : Int).toNat) hC39 (by omega); have hy_ : y327.length = (x7_2 : Int).toNat := (by rw [Ny327.out, List.length_take]; omega); rw [← Ny327.out] at hr39; rw [← hy_] at hcut39; have HR330 := Aside0.mk hr39; have HC330 := aK (show y327.length ≤ co6 from by omega); clear hr39 hC39 hroom39 hi039 hsz39; have KY39 := Aside0.mk hy_; clear hy_; have KL39 := aK (show (x7_2 : Int).toNat ≤ x5_1.length from by omega); replace q39 := eq_true q39) | ((with_reducible refine q25q (b := .append) (xs := #[.tmp 42, .tmp 45]) rfl ?_); at_builtin; refine Kd.R_append_rows k66 (w0 := w) w.heap.size rfl (.tmp 42) (.tmp 45) 46 66 (.agg #[(.int .i64 0), (.string ⟨#[]⟩), (.int .i64 0), (.int .i64 0)]) 40 rfl Try.underlying46 info66 rfl (by decide) (by omega) v325 y324 y327 _ _ _ (fun k_ => some k_ ≠ (.slice Ao6 x5_1.length co6 : Value).ownBlock) (fun _ => False) rfl rfl ?aO ?aR (fun _ _ h => h) (fun _ h => h.elim) ?aF ?aB ?aS ?aL ?_; (case aR => repeat (first | exact (by repeat (first | (with_reducible exact HR330.out) | (with_reducible refine Kd.C_alloc ?_ _) | (with_reducible refine Kd.C_drewN ?_ _) | (with_reducible refine Kd.C_drew ?_) | exact HR330.out)) | (with_reducible refine Kd.C_alloc ?_ _) | (with_reducible refine Kd.C_drewN ?_ _) | (with_reducible refine Kd.C_drew ?_))); (case aB => exact (gB HB)); (case aF => exact (fun k_ hk => Kd.fresh' (Kd.R_lt (gR HO_5)) k_ hk)); (case aO => exact (gR ⟨Kd.R_mono HO326.out (fun _ hk => hk.2)⟩)); (case aS => exact (below_size (gB HB))); (case aL => have := LMc30.out; omega); intro v332 w40 ho hb hg hat; rw [← Ny331.out] at ho; replace HB := aK (hb); replace HR330 := aK ((show Kd.C k66 w40 Ao6 y327.length y327 from by rw [Ny327.out]; exact Kd.C_take (m := (x7_2 : Int).toNat) ((Kd.R_reads' (Kd.R_after (ok := (fun _ => True)) (gR HO_5) hg hat)).2.2) KL39.out)); replace HO_5 := aK (Kd.R_after (ok := (fun _ => True)) (gR HO_5) hg hat); have HO333 := aK (ho); clear HO326; clear ho hb hg hat; have p334 : 0 ≤ (x6_1 : Int) := od; have q334 : x6_1 < (l0.length : Int) := od; obtain ⟨ad334, e334, hx334_0, hx334_1, hx334_2, hx334_3⟩ := at_T66 HR0.out x6_1 p334 q334; obtain rfl : ad300 = ad334 := (by injection e334); replace hx334_0 := gc HB hx334_0; replace hx334_1 := gc HB hx334_1; replace hx334_2 := gc HB hx334_2; replace hx334_3 := gc HB hx334_3; replace p334 := eq_true p334; replace q334 := eq_true q334) | ((with_reducible refine q25q (b := .append) (xs := #[.tmp 47, .tmp 52]) rfl ?_); at_builtin; refine Kd.R_append k66 (w0 := w) w.heap.size rfl (.tmp 47) (.tmp 52) 46 66 (.agg #[(.int .i64 0), (.string ⟨#[]⟩), (.int .i64 0), (.int .i64 0)]) 40 rfl Try.underlying46 info66 rfl (by decide) (by omega) v332 y331 (⟨(rd_T66 l0 x6_1).f0, (rd_T66 l0 x6_1).f1, (rd_T66 l0 x6_1).f2, (rd_T66 l0 x6_1).f3⟩ : S66) [.int .i64 ((rd_T66 l0 x6_1).f0), .string ((rd_T66 l0 x6_1).f1), .int .i64 ((rd_T66 l0 x6_1).f2), .int .i64 ((rd_T66 l0 x6_1).f3)] (fun k_ => some k_ ≠ (.slice Ao6 x5_1.length co6 : Value).ownBlock) (fun _ => False) rfl rfl ?aP (fun _ hk => hk.elim) ?aF ?aO ?aB ?aS ?aL ?_; (case aP => exact k66_mkM _ _ _ (⟨(rd_T66 l0 x6_1).f0, (rd_T66 l0 x6_1).f1, (rd_T66 l0 x6_1).f2, (rd_T66 l0 x6_1).f3⟩ : S66)); (case aB => exact (gB HB)); (case aF => exact (fun k_ hk => Kd.fresh' (Kd.R_lt (gR HO_5)) k_ hk)); (case aO => exact (gR HO333)); (case aS => exact (below_size (gB HB))); (case aL => have := LMc33.out; omega); intro v336 w41 ho hb hg hat; rw [← Ny335.out] at ho; replace HB := aK (hb); replace HR330 := aK ((show Kd.C k66 w41 Ao6 y327.length y327 from by rw [Ny327.out]; exact Kd.C_take (m := (x7_2 : Int).toNat) ((Kd.R_reads' (Kd.R_after (ok := (fun _ => True)) (gR HO_5) hg hat)).2.2) KL39.out)); replace HO_5 := aK (Kd.R_after (ok := (fun _ => True)) (gR HO_5) hg hat); have HO337 := aK (ho); clear HO333; clear ho hb hg hat; have q42 : (x7_2 : Int) ≤ ((x5_1.length : Int) : Int) := od; obtain ⟨i042, hi042, _, hsz42, _⟩ := info_parts info66; have hroom42 : x5_1.length ≤ co6 := (Kd.R_reads' HO_5.out).2.1; have hC42 : Kd.C k66 _ Ao6 x5_1.length x5_1 := (Kd.R_reads' HO_5.out).2.2; have q042 : (0 : Int) ≤ (x7_2 : Int) := od; have hcut42 := cut_from (P := Try.prog) 46 66 .i64 Try.underlying46 hi042 4 hsz42 Ao6 x5_1.length co6 x7_2 q042 q42; have hr42 := Kd.C_drop (m := (x7_2 : Int).toNat) (c := co6) hC42 (by omega) hroom42; obtain ⟨A42, hA42⟩ : ∃ A1, A1 = (if co6 = (x7_2 : Int).toNat then Ao6 else (Ao6 : Option Addr).map (·.add ((x7_2 : Int).toNat * 4))) := ⟨_, rfl⟩; obtain ⟨c42, hc42⟩ : ∃ c1, c1 = co6 - (x7_2 : Int).toNat := ⟨_, rfl⟩; have hy_ : y338.length = x5_1.length - (x7_2 : Int).toNat := (by rw [Ny338.out, List.length_drop] <;> omega); rw [show (x5_1).drop (x7_2 : Int).toNat = y338 from Ny338.out.symm] at hr42; replace hr42 : Kd.C k66 _ A42 y338.length y338 := (by rw [hA42]; exact hr42); rw [← hy_, ← hA42, ← hc42] at hcut42; have HR341 := Aside0.mk hr42; have HC341 := aK (show y338.length ≤ c42 from by rw [hy_, hc42]; exact Nat.sub_le_sub_right hroom42 _); clear hr42 hC42 hroom42 hi042 hsz42 hc42; have KY42 := Aside0.mk hy_; have KA42 := Aside0.mk hA42; clear hy_ hA42; have KL42 := aK (show (x7_2 : Int).toNat ≤ x5_1.length from by omega); replace q42 := eq_true q42) | ((with_reducible refine q25q (b := .append) (xs := #[.tmp 54, .tmp 57]) rfl ?_); at_builtin; refine Kd.R_append_rows k66 (w0 := w) w.heap.size rfl (.tmp 54) (.tmp 57) 46 66 (.agg #[(.int .i64 0), (.string ⟨#[]⟩), (.int .i64 0), (.int .i64 0)]) 40 rfl Try.underlying46 info66 rfl (by decide) (by omega) v336 y335 y338 _ _ _ (fun k_ => some k_ ≠ (.slice Ao6 x5_1.length co6 : Value).ownBlock) (fun _ => False) rfl rfl ?aO ?aR (fun _ _ h => h) (fun _ h => h.elim) ?aF ?aB ?aS ?aL ?_; (case aR => repeat (first | exact (by repeat (first | (with_reducible exact HR341.out) | (with_reducible refine Kd.C_alloc ?_ _) | (with_reducible refine Kd.C_drewN ?_ _) | (with_reducible refine Kd.C_drew ?_) | exact HR341.out)) | (with_reducible refine Kd.C_alloc ?_ _) | (with_reducible refine Kd.C_drewN ?_ _) | (with_reducible refine Kd.C_drew ?_))); (case aB => exact (gB HB)); (case aF => exact (fun k_ hk => Kd.fresh' (Kd.R_lt (gR HO_5)) k_ hk)); (case aO => exact (gR HO337)); (case aS => exact (below_size (gB HB))); (case aL => have := LMc36.out; omega); intro v343 w43 ho hb hg hat; rw [← Ny342.out] at ho; replace HB := aK (hb); replace HR330 := aK ((show Kd.C k66 w43 Ao6 y327.length y327 from by rw [Ny327.out]; exact Kd.C_take (m := (x7_2 : Int).toNat) ((Kd.R_reads' (Kd.R_after (ok := (fun _ => True)) (gR HO_5) hg hat)).2.2) KL39.out)); replace HR341 := aK ((show Kd.C k66 w43 A42 y338.length y338 from by rw [Ny338.out, KA42.out]; exact Kd.C_drop (m := (x7_2 : Int).toNat) (c := co6) ((Kd.R_reads' (Kd.R_after (ok := (fun _ => True)) (gR HO_5) hg hat)).2.2) KL42.out ((Kd.R_reads' (Kd.R_after (ok := (fun _ => True)) (gR HO_5) hg hat)).2.1))); replace HO_5 := aK (Kd.R_after (ok := (fun _ => True)) (gR HO_5) hg hat); have HO344 := aK (ho); clear HO337; clear ho hb hg hat)))
                           go_roundg k2
                           case measure => have := HK1.out; have := HK2.out; omega
                           case rel => exact ⟨(y342), (wrap64 (x6_1 + 1)), ac, H', ⟨by have := HK1.out; have := HK2.out; omega⟩, ⟨gR ⟨Kd.R_mono HO344.out (fun _ hk => trivial)⟩⟩, ⟨gB HB⟩⟩
                         · rw [if_neg c36] at H
                           exact absurd H (by simp)
                       · rw [if_neg c33] at H
                         exact absurd H (by simp)
                     · rw [if_neg c32] at H
                       exact absurd H (by simp)
                   · rw [if_neg c31] at H
                     exact absurd H (by simp)
                 · rw [if_neg c30] at H
                   exact absurd H (by simp)
               · rw [if_neg c29] at H
                 exact absurd H (by simp)
             · rw [if_neg c28] at H
               exact absurd H (by simp)
       · rw [if_neg c5] at H
         have c5b0 : (((rd_T66 l0 x6_1).f1).toList == a1.toList) = false := beq_eq_false_iff_ne.mpr c5
         have c5b1 : (((rd_T66 l0 x6_1).f1).toList != a1.toList) = true := bne_iff_ne.mpr c5
         have H' := Aside0.mk H
         clear H
         obtain ⟨⟨p300, q300⟩, ad300, rfl, hx300_0, hx300_1, hx300_2, hx300_3⟩ := za (at_T66 HR0.out) x6_1
         replace hx300_0 := gc HB hx300_0
         replace hx300_1 := gc HB hx300_1
         replace hx300_2 := gc HB hx300_2
         replace hx300_3 := gc HB hx300_3
         go_wp2
         repeat (go_quiet (fail); try go_wp2)
         go_roundg k1
         case measure => have := HK1.out; omega
         case rel => exact ⟨(x5_1), (wrap64 (x6_1 + 1)), ac, H', ⟨by have := HK1.out; omega⟩, ⟨gR HO_5⟩, ⟨gB HB⟩⟩
     · rw [if_neg c4] at H
       exact absurd H (by simp)
   · rw [if_neg c3] at H
     have c3b0 := dF c3
     clear c3
     obtain rfl := Option.some.inj H
     go_wp2
     repeat (go_quiet (fail); try go_wp2)
     go_ret
     exact ⟨_, by first | rfl | (simp [errW_none, errW_some] <;> rfl) | (simp [*, errW_none, errW_some] <;> rfl), gR HO_5, gB HB⟩
end Go.Proofs.Ytlbhjkbjokiioaa.X
