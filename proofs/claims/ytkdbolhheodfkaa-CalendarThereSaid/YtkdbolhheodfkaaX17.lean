-- a shortened text: what this claim does not name is left out (wip/xprint/prune.py of this repo)
import Derived.Test.YtkdbolhheodfkaaX0
import Derived.Test.YtkdbolhheodfkaaX10
import Derived.Test.YtkdbolhheodfkaaX13
import Derived.Test.YtkdbolhheodfkaaX14
import Derived.Test.YtkdbolhheodfkaaX7
import Derived.Test.YtkdbolhheodfkaaNEW
import Derived.Test.YtkdbolhheodfkaaWRK
namespace Go.Proofs.Ytkdbolhheodfkaa.X
open Go.RowKit Go.Proofs.YtkdbolhheodfkaaW.PrintWords Go.Proofs.YtkdbolhheodfkaaW.PrintLast Go.Proofs.YtkdbolhheodfkaaW.PrintMore
attribute [local go_sem] max2_int min2_int max_two min_two max_three min_three max_four min_four
set_option linter.unusedVariables false
set_option linter.unusedSimpArgs false
mutual
def lombardlaw02_CalendarThere.j0 : Nat → Int → Int → Bool → List Int → Option (Bool)
  | 0, _, _, _, _ => none
  | k + 1, x1, x2, x29, x336000 => if x29 = true then ((lombardlaw02_awake.f k).bind fun t337 => (some t337)) else ((calendar_Calendar_Roll.f k x336000 x1).bind fun bt338 => (if bt338.2 = 0 then ((calendar_Calendar_Works.f x336000 bt338.1).bind fun t340 => (lombardlaw02_CalendarThere.j1 k x1 x2 (!t340) x336000)) else (lombardlaw02_CalendarThere.j1 k x1 x2 false x336000)))
def lombardlaw02_CalendarThere.j1 : Nat → Int → Int → Bool → List Int → Option (Bool)
  | 0, _, _, _, _ => none
  | k + 1, x1, x2, x44, x336000 => if x44 = true then (some false) else ((calendar_Calendar_Works.f x336000 x1).bind fun t341 => (if t341 = true then ((calendar_Calendar_Move.f k x336000 x1 x2).bind fun bt343 => (if bt343.2 = 0 then ((calendar_Calendar_Move.f k x336000 bt343.1 (wrap64 (-x2))).bind fun bt346 => (if bt346.2 = 0 then (if bt346.1 = x1 then ((calendar_Calendar_Count.f k x336000 x1 bt343.1).bind fun t348 => (if t348 = x2 then ((calendar_Calendar_Works.f x336000 bt343.1).bind fun t349 => (if t349 = true then ((lombardlaw02_awake.f k).bind fun t350 => (some t350)) else (some false))) else (some false))) else (some false)) else (some false))) else (if bt343.2 = 6 then ((lombardlaw02_awake.f k).bind fun t345 => (some t345)) else (some false)))) else ((lombardlaw02_awake.f k).bind fun t342 => (some t342))))
end
def lombardlaw02_CalendarThere.f (k : Nat) (l0 : List Int) (a1 : Int) (a2 : Int) : Option (Bool) := (calendar_New.f l0).bind fun bt334 => (if bt334.2 = 0 then (if a2 < 0 then (lombardlaw02_CalendarThere.j0 k a1 a2 true bt334.1) else (lombardlaw02_CalendarThere.j0 k a1 a2 (decide (a2 > 60)) bt334.1)) else (lombardlaw02_CalendarThere.j0 k a1 a2 true bt334.1))
theorem lombardlaw02_CalendarThere.mono_l : ∀ k, (∀ y0 y1 y2 y3, LeO (lombardlaw02_CalendarThere.j0 k y0 y1 y2 y3) (lombardlaw02_CalendarThere.j0 (k + 1) y0 y1 y2 y3)) ∧ (∀ y0 y1 y2 y3, LeO (lombardlaw02_CalendarThere.j1 k y0 y1 y2 y3) (lombardlaw02_CalendarThere.j1 (k + 1) y0 y1 y2 y3))
  | 0 => ⟨fun _ _ _ _ r h => by simp [lombardlaw02_CalendarThere.j0] at h, fun _ _ _ _ r h => by simp [lombardlaw02_CalendarThere.j1] at h⟩
  | k + 1 => by
    obtain ⟨ih0, ih1⟩ := lombardlaw02_CalendarThere.mono_l k
    refine ⟨?_, ?_⟩
    · intro y0 y1 y2 y3
      unfold lombardlaw02_CalendarThere.j0
      repeat' first
      | (with_reducible exact ih0 _ _ _ _)
      | (with_reducible exact ih1 _ _ _ _)
      | (with_reducible exact calendar_Calendar_Count.mono _ _ _ _)
      | (with_reducible exact calendar_Calendar_Move.mono _ _ _ _)
      | (with_reducible exact calendar_Calendar_Roll.mono _ _ _)
      | (with_reducible exact lombardlaw02_awake.mono _)
      | (with_reducible exact LeO.refl _)
      | (with_reducible exact LeO.none _)
      | (with_reducible refine LeO.ite ?_ ?_)
      | (with_reducible refine LeO.bind ?_ (fun _ => ?_))
      | exact ih0 _ _ _ _
      | exact ih1 _ _ _ _
      | exact calendar_Calendar_Count.mono _ _ _ _
      | exact calendar_Calendar_Move.mono _ _ _ _
      | exact calendar_Calendar_Roll.mono _ _ _
      | exact lombardlaw02_awake.mono _
      | exact LeO.none _
      | refine LeO.ite ?_ ?_
      | refine LeO.bind ?_ (fun _ => ?_)
    · intro y0 y1 y2 y3
      unfold lombardlaw02_CalendarThere.j1
      repeat' first
      | (with_reducible exact ih0 _ _ _ _)
      | (with_reducible exact ih1 _ _ _ _)
      | (with_reducible exact calendar_Calendar_Count.mono _ _ _ _)
      | (with_reducible exact calendar_Calendar_Move.mono _ _ _ _)
      | (with_reducible exact calendar_Calendar_Roll.mono _ _ _)
      | (with_reducible exact lombardlaw02_awake.mono _)
      | (with_reducible exact LeO.refl _)
      | (with_reducible exact LeO.none _)
      | (with_reducible refine LeO.ite ?_ ?_)
      | (with_reducible refine LeO.bind ?_ (fun _ => ?_))
      | exact ih0 _ _ _ _
      | exact ih1 _ _ _ _
      | exact calendar_Calendar_Count.mono _ _ _ _
      | exact calendar_Calendar_Move.mono _ _ _ _
      | exact calendar_Calendar_Roll.mono _ _ _
      | exact lombardlaw02_awake.mono _
      | exact LeO.none _
      | refine LeO.ite ?_ ?_
      | refine LeO.bind ?_ (fun _ => ?_)
theorem lombardlaw02_CalendarThere.mono : ∀ a0 a1 a2 k, LeO (lombardlaw02_CalendarThere.f k a0 a1 a2) (lombardlaw02_CalendarThere.f (k + 1) a0 a1 a2) := by
  intro a0 a1 a2 k
  obtain ⟨ih0, ih1⟩ := lombardlaw02_CalendarThere.mono_l k
  unfold lombardlaw02_CalendarThere.f
  repeat' first
      | (with_reducible exact ih0 _ _ _ _)
      | (with_reducible exact ih1 _ _ _ _)
      | (with_reducible exact calendar_Calendar_Count.mono _ _ _ _)
      | (with_reducible exact calendar_Calendar_Move.mono _ _ _ _)
      | (with_reducible exact calendar_Calendar_Roll.mono _ _ _)
      | (with_reducible exact lombardlaw02_awake.mono _)
      | (with_reducible exact LeO.refl _)
      | (with_reducible exact LeO.none _)
      | (with_reducible refine LeO.ite ?_ ?_)
      | (with_reducible refine LeO.bind ?_ (fun _ => ?_))
      | exact ih0 _ _ _ _
      | exact ih1 _ _ _ _
      | exact calendar_Calendar_Count.mono _ _ _ _
      | exact calendar_Calendar_Move.mono _ _ _ _
      | exact calendar_Calendar_Roll.mono _ _ _
      | exact lombardlaw02_awake.mono _
      | exact LeO.none _
      | refine LeO.ite ?_ ?_
      | refine LeO.bind ?_ (fun _ => ?_)
set_option maxHeartbeats 8000000 in
set_option maxRecDepth 100000 in
theorem lombardlaw02_CalendarThere.calls (k : Nat) (A0 : Option Addr) (c0 : Nat) (l0 : List Int) (a1 : Int) (a2 : Int) (r : Bool) (w : World) (hr0 : Kd.C (Kd.int .i64) w A0 l0.length l0) (hc0 : l0.length ≤ c0) (h : lombardlaw02_CalendarThere.f k l0 a1 a2 = some r) :
    Calls Try.prog 8 #[.slice A0 l0.length c0, .int .i64 a1, .int .i64 a2] w fun e w' => e = .returned (.bool r) ∧ Below w.heap.size w w' := by
  have HR0 := Aside0.mk hr0
  have HC0 := Aside0.mk hc0
  clear hr0 hc0
  have HB := Aside0.mk (Below.refl w.heap.size w)
  have H : ((calendar_New.f l0).bind fun bt334 => (if bt334.2 = 0 then (if a2 < 0 then (lombardlaw02_CalendarThere.j0 k a1 a2 true bt334.1) else (lombardlaw02_CalendarThere.j0 k a1 a2 (decide (a2 > 60)) bt334.1)) else (lombardlaw02_CalendarThere.j0 k a1 a2 true bt334.1))) = some r := h
  clear h
  replace H := Option.bind_eq_some_iff.mp H
  obtain ⟨⟨t334, t336⟩, A40, H⟩ := H
  replace H : (if t336 = 0 then (if a2 < 0 then (lombardlaw02_CalendarThere.j0 k a1 a2 true t334) else (lombardlaw02_CalendarThere.j0 k a1 a2 (decide (a2 > 60)) t334)) else (lombardlaw02_CalendarThere.j0 k a1 a2 true t334)) = some r := H
  have A4 := Aside0.mk A40
  clear A40
  have HC5 := Aside0.mk H
  clear H
  go_enter Try.func8, Try.ntmps8
  go_upto_region 2 with (first | ((with_reducible refine gate_callee (f := 20) rfl ?_); refine goesL_ (some 17) rfl rfl Try.func20 (by kernel_rfl) rfl #[.slice A0 l0.length c0] rfl (by (try simp only [List.map_toArray, List.map_cons, List.map_nil]); first | done | rfl | (simp only [List.length_drop, List.length_take]; rfl)) ?_; (with_reducible refine (calendar_New.calls _ _ l0 t334 t336 w _ ?side1 ?side2 ?side3 A4.out).mono ?_); (case side1 => repeat (first | (with_reducible first | exact HB.out | apply below_alloc | apply pw_below_drewN | apply below_drew1) | exact HB.out)); (case side2 => exact HR0.out); (case side3 => exact HC0.out); rintro e w6 ⟨g335, rfl, hi, hb, hb2⟩; (try clear A4); refine ⟨_, rfl, ?_⟩; have n0_ := Aside0.mk (hb); have n1_ := Aside0.mk (hi); clear HB; have HB := n0_; have HI335 := n1_; clear n0_ n1_; (try clear hb); (try clear hb2); (try clear hk); (try clear hi)))
  (try simp only [Act.put, List.setIfInBounds_toArray, List.set_cons_zero, List.set_cons_succ])
  go_cut [29] (fun v29 wc => ∃ (kq : Nat) (x29_4 : Bool), v29 = .bool x29_4 ∧ Aside0 (lombardlaw02_CalendarThere.j0 kq a1 a2 x29_4 t334 = some r) ∧ Aside0 (kq ≤ k) ∧ Aside0 (IsS57 w wc g335 t334) ∧ Aside0 (Below w.heap.size w wc))
  case first =>
    have H := HC5.out
    clear HC5
    by_cases c7 : t336 = 0
    · rw [if_pos c7] at H
      have c7b0 : (t336 == 0) = true := beq_iff_eq.mpr c7
      have c7b1 : (t336 != 0) = false := bne_eq_false_iff_eq.mpr c7
      clear c7
      (first | rw [c7b0] | (simp only [i64_w, i32_w]; rw [c7b0]) | skip)
      by_cases c8 : a2 < 0
      · rw [if_pos c8] at H
        have c8b0 : decide (a2 < 0) = true := decide_eq_true c8
        clear c8
        have H' := Aside0.mk H
        clear H
        go_wp2
        go_meet
        case rel => exact ⟨_, (true), (by first | rfl | (simp; done) | (simp [*]; done)), H', ⟨by first | omega | exact Nat.le_refl _⟩, ⟨by repeat (first | (with_reducible first | exact HI335.out | apply IsS57.alloc | apply IsS57.drewN | apply IsS57.drew) | exact HI335.out)⟩, ⟨by repeat (first | (with_reducible first | exact HB.out | apply below_alloc | apply pw_below_drewN | apply below_drew1 | refine below_set ?_ (IsS57.ge HI335.out)) | exact HB.out)⟩⟩
      · rw [if_neg c8] at H
        have c8b0 : decide (a2 < 0) = false := decide_eq_false c8
        clear c8
        have H' := Aside0.mk H
        clear H
        go_wp2
        go_meet
        case rel => exact ⟨_, (decide (a2 > 60)), (by first | rfl | (simp; done) | (simp [*]; done)), H', ⟨by first | omega | exact Nat.le_refl _⟩, ⟨by repeat (first | (with_reducible first | exact HI335.out | apply IsS57.alloc | apply IsS57.drewN | apply IsS57.drew) | exact HI335.out)⟩, ⟨by repeat (first | (with_reducible first | exact HB.out | apply below_alloc | apply pw_below_drewN | apply below_drew1 | refine below_set ?_ (IsS57.ge HI335.out)) | exact HB.out)⟩⟩
    · rw [if_neg c7] at H
      have c7b0 : (t336 == 0) = false := beq_eq_false_iff_ne.mpr c7
      have c7b1 : (t336 != 0) = true := bne_iff_ne.mpr c7
      (first | rw [c7b0] | (simp only [i64_w, i32_w]; rw [c7b0]) | skip)
      have H' := Aside0.mk H
      clear H
      go_wp2
      go_meet
      case rel => exact ⟨_, (true), (by first | rfl | (simp; done) | (simp [*]; done)), H', ⟨by first | omega | exact Nat.le_refl _⟩, ⟨by repeat (first | (with_reducible first | exact HI335.out | apply IsS57.alloc | apply IsS57.drewN | apply IsS57.drew) | exact HI335.out)⟩, ⟨by repeat (first | (with_reducible first | exact HB.out | apply below_alloc | apply pw_below_drewN | apply below_drew1 | refine below_set ?_ (IsS57.ge HI335.out)) | exact HB.out)⟩⟩
  case rest =>
    clear HC5
    try clear c2
    try clear p2
    try clear c7
    try clear c7b0
    try clear c7b1
    try clear c8
    try clear c8b0
    obtain ⟨kq, x29_4, rfl, HA, HJ4, HI335, HB⟩ := hcut
    cases kq with
    | zero => exact absurd HA.out (by simp [lombardlaw02_CalendarThere.j0])
    | succ kj4 =>
      have H := HA.out
      clear HA
      simp only [lombardlaw02_CalendarThere.j0] at H
      by_cases c9 : x29_4 = true
      · subst c9
        have H1 : ((lombardlaw02_awake.f kj4).bind fun t337 => (some t337)) = some r := by rw [if_pos rfl] at H; exact H
        clear H
        have H := H1
        clear H1
        replace H := Option.bind_eq_some_iff.mp H
        obtain ⟨t337, A100, H⟩ := H
        replace H : (some t337) = some r := H
        have A10 := Aside0.mk A100
        clear A100
        obtain rfl := Option.some.inj H
        go_wp2_with (first | ((with_reducible refine gate_callee (f := 19) rfl ?_); refine goesL_ (some 30) rfl rfl Try.func19 (by kernel_rfl) rfl #[] rfl (by (try simp only [List.map_toArray, List.map_cons, List.map_nil]); first | done | rfl | (simp only [List.length_drop, List.length_take]; rfl)) ?_; (with_reducible refine (lombardlaw02_awake.calls kj4  t337 _ A10.out).mono ?_); rintro e w11 ⟨rfl, hb⟩; (try clear A10); refine ⟨_, rfl, ?_⟩; have n0_ := Aside0.mk (IsS57.below (by repeat (first | (with_reducible first | exact HI335.out | apply IsS57.alloc | apply IsS57.drewN | apply IsS57.drew) | exact HI335.out)) hb); have n1_ := Aside0.mk (below_step (by repeat (first | (with_reducible first | exact HB.out | apply below_alloc | apply pw_below_drewN | apply below_drew1 | refine below_set ?_ (IsS57.ge HI335.out)) | exact HB.out)) hb); clear HI335; clear HB; have HI335 := n0_; have HB := n1_; clear n0_ n1_; (try clear hb); (try clear hb2); (try clear hk); (try clear hi)))
        go_ret
        exact ⟨by first | rfl | (simp [errW_none, errW_some] <;> rfl) | (simp [*, errW_none, errW_some] <;> rfl), by repeat (first | (with_reducible first | exact HB.out | apply below_alloc | apply pw_below_drewN | apply below_drew1 | refine below_set ?_ (IsS57.ge HI335.out)) | exact HB.out)⟩
      · replace c9 := Bool.eq_false_iff.mpr c9
        subst c9
        have H1 : ((calendar_Calendar_Roll.f kj4 t334 a1).bind fun bt338 => (if bt338.2 = 0 then ((calendar_Calendar_Works.f t334 bt338.1).bind fun t340 => (lombardlaw02_CalendarThere.j1 kj4 a1 a2 (!t340) t334)) else (lombardlaw02_CalendarThere.j1 kj4 a1 a2 false t334))) = some r := by rw [if_neg (show ¬ (false = true) by decide)] at H; exact H
        clear H
        have H := H1
        clear H1
        replace H := Option.bind_eq_some_iff.mp H
        obtain ⟨⟨t338, t339⟩, A120, H⟩ := H
        replace H : (if t339 = 0 then ((calendar_Calendar_Works.f t334 t338).bind fun t340 => (lombardlaw02_CalendarThere.j1 kj4 a1 a2 (!t340) t334)) else (lombardlaw02_CalendarThere.j1 kj4 a1 a2 false t334)) = some r := H
        have A12 := Aside0.mk A120
        clear A120
        have HC13 := Aside0.mk H
        clear H
        go_upto_region 5 with (first | ((with_reducible refine gate_callee (f := 31) rfl ?_); refine goesL_ (some 34) rfl rfl Try.func31 (by kernel_rfl) rfl #[.pointer (some ⟨g335, 0, none⟩), .int .i64 a1] rfl (by (try simp only [List.map_toArray, List.map_cons, List.map_nil]); first | done | rfl | (simp only [List.length_drop, List.length_take]; rfl)) ?_; (with_reducible refine (calendar_Calendar_Roll.calls kj4 g335 t334 a1 t338 t339 w _ ?side1 ?side2 A12.out).mono ?_); (case side1 => repeat (first | (with_reducible first | exact HI335.out | apply IsS57.alloc | apply IsS57.drewN | apply IsS57.drew) | exact HI335.out)); (case side2 => repeat (first | (with_reducible first | exact HB.out | apply below_alloc | apply pw_below_drewN | apply below_drew1 | refine below_set ?_ (IsS57.ge HI335.out)) | exact HB.out)); rintro e w14 ⟨rfl, hi, hb, hk⟩; (try clear A12); refine ⟨_, rfl, ?_⟩; have n0_ := Aside0.mk (hb); have n1_ := Aside0.mk (hi); clear HB; clear HI335; have HB := n0_; have HI335 := n1_; clear n0_ n1_; (try clear hb); (try clear hb2); (try clear hk); (try clear hi)))
        (try simp only [Act.put, List.setIfInBounds_toArray, List.set_cons_zero, List.set_cons_succ])
        go_cut [44] (fun v44 wc => ∃ (kq : Nat) (x44_12 : Bool), v44 = .bool x44_12 ∧ Aside0 (lombardlaw02_CalendarThere.j1 kq a1 a2 x44_12 t334 = some r) ∧ Aside0 (kq ≤ kj4) ∧ Aside0 (IsS57 w wc g335 t334) ∧ Aside0 (Below w.heap.size w wc))
        case first =>
          have H := HC13.out
          clear HC13
          by_cases c15 : t339 = 0
          · rw [if_pos c15] at H
            have c15b0 : (t339 == 0) = true := beq_iff_eq.mpr c15
            have c15b1 : (t339 != 0) = false := bne_eq_false_iff_eq.mpr c15
            clear c15
            (first | rw [c15b0] | (simp only [i64_w, i32_w]; rw [c15b0]) | skip)
            replace H := Option.bind_eq_some_iff.mp H
            obtain ⟨t340, A160, H⟩ := H
            replace H : (lombardlaw02_CalendarThere.j1 kj4 a1 a2 (!t340) t334) = some r := H
            have A16 := Aside0.mk A160
            clear A160
            have H' := Aside0.mk H
            clear H
            go_wp2_with (first | (go_at_call 22; (with_reducible refine (calendar_Calendar_Works.calls g335 t334 t338 t340 w _ ?side1 ?side2 A16.out).mono ?_); (case side1 => repeat (first | (with_reducible first | exact HI335.out | apply IsS57.alloc | apply IsS57.drewN | apply IsS57.drew) | exact HI335.out)); (case side2 => repeat (first | (with_reducible first | exact HB.out | apply below_alloc | apply pw_below_drewN | apply below_drew1 | refine below_set ?_ (IsS57.ge HI335.out)) | exact HB.out)); rintro e w17 ⟨rfl, hi, hb, hk⟩; (try clear A16); have n0_ := Aside0.mk (hb); have n1_ := Aside0.mk (hi); clear HB; clear HI335; have HB := n0_; have HI335 := n1_; clear n0_ n1_; (try clear hb); (try clear hb2); (try clear hk); (try clear hi)))
            go_meet
            case rel => exact ⟨_, (!t340), (by first | rfl | (simp; done) | (simp [*]; done)), H', ⟨by have := HJ4.out; first | omega | exact Nat.le_refl _⟩, ⟨by repeat (first | (with_reducible first | exact HI335.out | apply IsS57.alloc | apply IsS57.drewN | apply IsS57.drew) | exact HI335.out)⟩, ⟨by repeat (first | (with_reducible first | exact HB.out | apply below_alloc | apply pw_below_drewN | apply below_drew1 | refine below_set ?_ (IsS57.ge HI335.out)) | exact HB.out)⟩⟩
          · rw [if_neg c15] at H
            have c15b0 : (t339 == 0) = false := beq_eq_false_iff_ne.mpr c15
            have c15b1 : (t339 != 0) = true := bne_iff_ne.mpr c15
            (first | rw [c15b0] | (simp only [i64_w, i32_w]; rw [c15b0]) | skip)
            have H' := Aside0.mk H
            clear H
            go_wp2
            go_meet
            case rel => exact ⟨_, (false), (by first | rfl | (simp; done) | (simp [*]; done)), H', ⟨by have := HJ4.out; first | omega | exact Nat.le_refl _⟩, ⟨by repeat (first | (with_reducible first | exact HI335.out | apply IsS57.alloc | apply IsS57.drewN | apply IsS57.drew) | exact HI335.out)⟩, ⟨by repeat (first | (with_reducible first | exact HB.out | apply below_alloc | apply pw_below_drewN | apply below_drew1 | refine below_set ?_ (IsS57.ge HI335.out)) | exact HB.out)⟩⟩
        case rest =>
          clear HC13
          try clear c1
          try clear c2
          try clear p2
          try clear c3
          try clear c7
          try clear c7b0
          try clear c7b1
          try clear c8
          try clear c8b0
          try clear c9
          try clear c15
          try clear c15b0
          try clear c15b1
          try clear p2
          obtain ⟨kq, x44_12, rfl, HA, HJ12, HI335, HB⟩ := hcut
          cases kq with
          | zero => exact absurd HA.out (by simp [lombardlaw02_CalendarThere.j1])
          | succ kj12 =>
            have H := HA.out
            clear HA
            simp only [lombardlaw02_CalendarThere.j1] at H
            by_cases c18 : x44_12 = true
            · subst c18
              have H1 : (some false) = some r := by rw [if_pos rfl] at H; exact H
              clear H
              have H := H1
              clear H1
              obtain rfl := Option.some.inj H
              go_wp2
              go_ret
              exact ⟨by first | rfl | (simp [errW_none, errW_some] <;> rfl) | (simp [*, errW_none, errW_some] <;> rfl), by repeat (first | (with_reducible first | exact HB.out | apply below_alloc | apply pw_below_drewN | apply below_drew1 | refine below_set ?_ (IsS57.ge HI335.out)) | exact HB.out)⟩
            · replace c18 := Bool.eq_false_iff.mpr c18
              subst c18
              have H1 : ((calendar_Calendar_Works.f t334 a1).bind fun t341 => (if t341 = true then ((calendar_Calendar_Move.f kj12 t334 a1 a2).bind fun bt343 => (if bt343.2 = 0 then ((calendar_Calendar_Move.f kj12 t334 bt343.1 (wrap64 (-a2))).bind fun bt346 => (if bt346.2 = 0 then (if bt346.1 = a1 then ((calendar_Calendar_Count.f kj12 t334 a1 bt343.1).bind fun t348 => (if t348 = a2 then ((calendar_Calendar_Works.f t334 bt343.1).bind fun t349 => (if t349 = true then ((lombardlaw02_awake.f kj12).bind fun t350 => (some t350)) else (some false))) else (some false))) else (some false)) else (some false))) else (if bt343.2 = 6 then ((lombardlaw02_awake.f kj12).bind fun t345 => (some t345)) else (some false)))) else ((lombardlaw02_awake.f kj12).bind fun t342 => (some t342)))) = some r := by rw [if_neg (show ¬ (false = true) by decide)] at H; exact H
              clear H
              have H := H1
              clear H1
              replace H := Option.bind_eq_some_iff.mp H
              obtain ⟨t341, A190, H⟩ := H
              replace H : (if t341 = true then ((calendar_Calendar_Move.f kj12 t334 a1 a2).bind fun bt343 => (if bt343.2 = 0 then ((calendar_Calendar_Move.f kj12 t334 bt343.1 (wrap64 (-a2))).bind fun bt346 => (if bt346.2 = 0 then (if bt346.1 = a1 then ((calendar_Calendar_Count.f kj12 t334 a1 bt343.1).bind fun t348 => (if t348 = a2 then ((calendar_Calendar_Works.f t334 bt343.1).bind fun t349 => (if t349 = true then ((lombardlaw02_awake.f kj12).bind fun t350 => (some t350)) else (some false))) else (some false))) else (some false)) else (some false))) else (if bt343.2 = 6 then ((lombardlaw02_awake.f kj12).bind fun t345 => (some t345)) else (some false)))) else ((lombardlaw02_awake.f kj12).bind fun t342 => (some t342))) = some r := H
              have A19 := Aside0.mk A190
              clear A190
              by_cases c20 : t341 = true
              · subst c20
                have H1 : ((calendar_Calendar_Move.f kj12 t334 a1 a2).bind fun bt343 => (if bt343.2 = 0 then ((calendar_Calendar_Move.f kj12 t334 bt343.1 (wrap64 (-a2))).bind fun bt346 => (if bt346.2 = 0 then (if bt346.1 = a1 then ((calendar_Calendar_Count.f kj12 t334 a1 bt343.1).bind fun t348 => (if t348 = a2 then ((calendar_Calendar_Works.f t334 bt343.1).bind fun t349 => (if t349 = true then ((lombardlaw02_awake.f kj12).bind fun t350 => (some t350)) else (some false))) else (some false))) else (some false)) else (some false))) else (if bt343.2 = 6 then ((lombardlaw02_awake.f kj12).bind fun t345 => (some t345)) else (some false)))) = some r := by rw [if_pos rfl] at H; exact H
                clear H
                have H := H1
                clear H1
                replace H := Option.bind_eq_some_iff.mp H
                obtain ⟨⟨t343, t344⟩, A210, H⟩ := H
                replace H : (if t344 = 0 then ((calendar_Calendar_Move.f kj12 t334 t343 (wrap64 (-a2))).bind fun bt346 => (if bt346.2 = 0 then (if bt346.1 = a1 then ((calendar_Calendar_Count.f kj12 t334 a1 t343).bind fun t348 => (if t348 = a2 then ((calendar_Calendar_Works.f t334 t343).bind fun t349 => (if t349 = true then ((lombardlaw02_awake.f kj12).bind fun t350 => (some t350)) else (some false))) else (some false))) else (some false)) else (some false))) else (if t344 = 6 then ((lombardlaw02_awake.f kj12).bind fun t345 => (some t345)) else (some false))) = some r := H
                have A21 := Aside0.mk A210
                clear A210
                by_cases c22 : t344 = 0
                · rw [if_pos c22] at H
                  have c22b0 : (t344 == 0) = true := beq_iff_eq.mpr c22
                  have c22b1 : (t344 != 0) = false := bne_eq_false_iff_eq.mpr c22
                  clear c22
                  replace H := Option.bind_eq_some_iff.mp H
                  obtain ⟨⟨t346, t347⟩, A230, H⟩ := H
                  replace H : (if t347 = 0 then (if t346 = a1 then ((calendar_Calendar_Count.f kj12 t334 a1 t343).bind fun t348 => (if t348 = a2 then ((calendar_Calendar_Works.f t334 t343).bind fun t349 => (if t349 = true then ((lombardlaw02_awake.f kj12).bind fun t350 => (some t350)) else (some false))) else (some false))) else (some false)) else (some false)) = some r := H
                  have A23 := Aside0.mk A230
                  clear A230
                  by_cases c24 : t347 = 0
                  · rw [if_pos c24] at H
                    have c24b0 : (t347 == 0) = true := beq_iff_eq.mpr c24
                    have c24b1 : (t347 != 0) = false := bne_eq_false_iff_eq.mpr c24
                    clear c24
                    by_cases c25 : t346 = a1
                    · rw [if_pos c25] at H
                      have c25b0 : (t346 == a1) = true := beq_iff_eq.mpr c25
                      have c25b1 : (t346 != a1) = false := bne_eq_false_iff_eq.mpr c25
                      clear c25
                      replace H := Option.bind_eq_some_iff.mp H
                      obtain ⟨t348, A260, H⟩ := H
                      replace H : (if t348 = a2 then ((calendar_Calendar_Works.f t334 t343).bind fun t349 => (if t349 = true then ((lombardlaw02_awake.f kj12).bind fun t350 => (some t350)) else (some false))) else (some false)) = some r := H
                      have A26 := Aside0.mk A260
                      clear A260
                      by_cases c27 : t348 = a2
                      · rw [if_pos c27] at H
                        have c27b0 : (t348 == a2) = true := beq_iff_eq.mpr c27
                        have c27b1 : (t348 != a2) = false := bne_eq_false_iff_eq.mpr c27
                        clear c27
                        replace H := Option.bind_eq_some_iff.mp H
                        obtain ⟨t349, A280, H⟩ := H
                        replace H : (if t349 = true then ((lombardlaw02_awake.f kj12).bind fun t350 => (some t350)) else (some false)) = some r := H
                        have A28 := Aside0.mk A280
                        clear A280
                        by_cases c29 : t349 = true
                        · subst c29
                          have H1 : ((lombardlaw02_awake.f kj12).bind fun t350 => (some t350)) = some r := by rw [if_pos rfl] at H; exact H
                          clear H
                          have H := H1
                          clear H1
                          replace H := Option.bind_eq_some_iff.mp H
                          obtain ⟨t350, A300, H⟩ := H
                          replace H : (some t350) = some r := H
                          have A30 := Aside0.mk A300
                          clear A300
                          obtain rfl := Option.some.inj H
                          go_wp2_with (first | ((with_reducible refine gate_callee (f := 22) rfl ?_); refine goesL_ (some 47) rfl rfl Try.func22 (by kernel_rfl) rfl #[.pointer (some ⟨g335, 0, none⟩), .int .i64 a1] rfl (by (try simp only [List.map_toArray, List.map_cons, List.map_nil]); first | done | rfl | (simp only [List.length_drop, List.length_take]; rfl)) ?_; (with_reducible refine (calendar_Calendar_Works.calls g335 t334 a1 true w _ ?side1 ?side2 A19.out).mono ?_); (case side1 => repeat (first | (with_reducible first | exact HI335.out | apply IsS57.alloc | apply IsS57.drewN | apply IsS57.drew) | exact HI335.out)); (case side2 => repeat (first | (with_reducible first | exact HB.out | apply below_alloc | apply pw_below_drewN | apply below_drew1 | refine below_set ?_ (IsS57.ge HI335.out)) | exact HB.out)); rintro e w31 ⟨rfl, hi, hb, hk⟩; (try clear A19); refine ⟨_, rfl, ?_⟩; have n0_ := Aside0.mk (hb); have n1_ := Aside0.mk (hi); clear HB; clear HI335; have HB := n0_; have HI335 := n1_; clear n0_ n1_; (try clear hb); (try clear hb2); (try clear hk); (try clear hi)) | ((with_reducible refine gate_callee (f := 29) rfl ?_); refine goesL_ (some 54) rfl rfl Try.func29 (by kernel_rfl) rfl #[.pointer (some ⟨g335, 0, none⟩), .int .i64 a1, .int .i64 a2] rfl (by (try simp only [List.map_toArray, List.map_cons, List.map_nil]); first | done | rfl | (simp only [List.length_drop, List.length_take]; rfl)) ?_; (with_reducible refine (calendar_Calendar_Move.calls kj12 g335 t334 a1 a2 t343 t344 w _ ?side1 ?side2 A21.out).mono ?_); (case side1 => repeat (first | (with_reducible first | exact HI335.out | apply IsS57.alloc | apply IsS57.drewN | apply IsS57.drew) | exact HI335.out)); (case side2 => repeat (first | (with_reducible first | exact HB.out | apply below_alloc | apply pw_below_drewN | apply below_drew1 | refine below_set ?_ (IsS57.ge HI335.out)) | exact HB.out)); rintro e w32 ⟨rfl, hi, hb, hk⟩; (try clear A21); refine ⟨_, rfl, ?_⟩; have n0_ := Aside0.mk (hb); have n1_ := Aside0.mk (hi); clear HB; clear HI335; have HB := n0_; have HI335 := n1_; clear n0_ n1_; (try clear hb); (try clear hb2); (try clear hk); (try clear hi)) | ((with_reducible refine gate_callee (f := 29) rfl ?_); refine goesL_ (some 69) rfl rfl Try.func29 (by kernel_rfl) rfl #[.pointer (some ⟨g335, 0, none⟩), .int .i64 t343, .int .i64 (wrap64 (-a2))] rfl (by (try simp only [List.map_toArray, List.map_cons, List.map_nil]); first | done | rfl | (simp only [List.length_drop, List.length_take]; rfl)) ?_; (with_reducible refine (calendar_Calendar_Move.calls kj12 g335 t334 t343 (wrap64 (-a2)) t346 t347 w _ ?side1 ?side2 A23.out).mono ?_); (case side1 => repeat (first | (with_reducible first | exact HI335.out | apply IsS57.alloc | apply IsS57.drewN | apply IsS57.drew) | exact HI335.out)); (case side2 => repeat (first | (with_reducible first | exact HB.out | apply below_alloc | apply pw_below_drewN | apply below_drew1 | refine below_set ?_ (IsS57.ge HI335.out)) | exact HB.out)); rintro e w33 ⟨rfl, hi, hb, hk⟩; (try clear A23); refine ⟨_, rfl, ?_⟩; have n0_ := Aside0.mk (hb); have n1_ := Aside0.mk (hi); clear HB; clear HI335; have HB := n0_; have HI335 := n1_; clear n0_ n1_; (try clear hb); (try clear hb2); (try clear hk); (try clear hi)) | (go_at_call 24; (with_reducible refine (calendar_Calendar_Count.calls kj12 g335 t334 a1 t343 t348 w _ ?side1 ?side2 A26.out).mono ?_); (case side1 => repeat (first | (with_reducible first | exact HI335.out | apply IsS57.alloc | apply IsS57.drewN | apply IsS57.drew) | exact HI335.out)); (case side2 => repeat (first | (with_reducible first | exact HB.out | apply below_alloc | apply pw_below_drewN | apply below_drew1 | refine below_set ?_ (IsS57.ge HI335.out)) | exact HB.out)); rintro e w34 ⟨rfl, hi, hb, hk⟩; (try clear A26); have n0_ := Aside0.mk (hb); have n1_ := Aside0.mk (hi); clear HB; clear HI335; have HB := n0_; have HI335 := n1_; clear n0_ n1_; (try clear hb); (try clear hb2); (try clear hk); (try clear hi)) | (go_at_call 22; (with_reducible refine (calendar_Calendar_Works.calls g335 t334 t343 true w _ ?side1 ?side2 A28.out).mono ?_); (case side1 => repeat (first | (with_reducible first | exact HI335.out | apply IsS57.alloc | apply IsS57.drewN | apply IsS57.drew) | exact HI335.out)); (case side2 => repeat (first | (with_reducible first | exact HB.out | apply below_alloc | apply pw_below_drewN | apply below_drew1 | refine below_set ?_ (IsS57.ge HI335.out)) | exact HB.out)); rintro e w35 ⟨rfl, hi, hb, hk⟩; (try clear A28); have n0_ := Aside0.mk (hb); have n1_ := Aside0.mk (hi); clear HB; clear HI335; have HB := n0_; have HI335 := n1_; clear n0_ n1_; (try clear hb); (try clear hb2); (try clear hk); (try clear hi)) | (go_at_call 19; (with_reducible refine (lombardlaw02_awake.calls kj12  t350 _ A30.out).mono ?_); rintro e w36 ⟨rfl, hb⟩; (try clear A30); have n0_ := Aside0.mk (IsS57.below (by repeat (first | (with_reducible first | exact HI335.out | apply IsS57.alloc | apply IsS57.drewN | apply IsS57.drew) | exact HI335.out)) hb); have n1_ := Aside0.mk (below_step (by repeat (first | (with_reducible first | exact HB.out | apply below_alloc | apply pw_below_drewN | apply below_drew1 | refine below_set ?_ (IsS57.ge HI335.out)) | exact HB.out)) hb); clear HI335; clear HB; have HI335 := n0_; have HB := n1_; clear n0_ n1_; (try clear hb); (try clear hb2); (try clear hk); (try clear hi)))
                          go_ret
                          exact ⟨by first | rfl | (simp [errW_none, errW_some] <;> rfl) | (simp [*, errW_none, errW_some] <;> rfl), by repeat (first | (with_reducible first | exact HB.out | apply below_alloc | apply pw_below_drewN | apply below_drew1 | refine below_set ?_ (IsS57.ge HI335.out)) | exact HB.out)⟩
                        · replace c29 := Bool.eq_false_iff.mpr c29
                          subst c29
                          have H1 : (some false) = some r := by rw [if_neg (show ¬ (false = true) by decide)] at H; exact H
                          clear H
                          have H := H1
                          clear H1
                          obtain rfl := Option.some.inj H
                          go_wp2_with (first | ((with_reducible refine gate_callee (f := 22) rfl ?_); refine goesL_ (some 47) rfl rfl Try.func22 (by kernel_rfl) rfl #[.pointer (some ⟨g335, 0, none⟩), .int .i64 a1] rfl (by (try simp only [List.map_toArray, List.map_cons, List.map_nil]); first | done | rfl | (simp only [List.length_drop, List.length_take]; rfl)) ?_; (with_reducible refine (calendar_Calendar_Works.calls g335 t334 a1 true w _ ?side1 ?side2 A19.out).mono ?_); (case side1 => repeat (first | (with_reducible first | exact HI335.out | apply IsS57.alloc | apply IsS57.drewN | apply IsS57.drew) | exact HI335.out)); (case side2 => repeat (first | (with_reducible first | exact HB.out | apply below_alloc | apply pw_below_drewN | apply below_drew1 | refine below_set ?_ (IsS57.ge HI335.out)) | exact HB.out)); rintro e w37 ⟨rfl, hi, hb, hk⟩; (try clear A19); refine ⟨_, rfl, ?_⟩; have n0_ := Aside0.mk (hb); have n1_ := Aside0.mk (hi); clear HB; clear HI335; have HB := n0_; have HI335 := n1_; clear n0_ n1_; (try clear hb); (try clear hb2); (try clear hk); (try clear hi)) | ((with_reducible refine gate_callee (f := 29) rfl ?_); refine goesL_ (some 54) rfl rfl Try.func29 (by kernel_rfl) rfl #[.pointer (some ⟨g335, 0, none⟩), .int .i64 a1, .int .i64 a2] rfl (by (try simp only [List.map_toArray, List.map_cons, List.map_nil]); first | done | rfl | (simp only [List.length_drop, List.length_take]; rfl)) ?_; (with_reducible refine (calendar_Calendar_Move.calls kj12 g335 t334 a1 a2 t343 t344 w _ ?side1 ?side2 A21.out).mono ?_); (case side1 => repeat (first | (with_reducible first | exact HI335.out | apply IsS57.alloc | apply IsS57.drewN | apply IsS57.drew) | exact HI335.out)); (case side2 => repeat (first | (with_reducible first | exact HB.out | apply below_alloc | apply pw_below_drewN | apply below_drew1 | refine below_set ?_ (IsS57.ge HI335.out)) | exact HB.out)); rintro e w38 ⟨rfl, hi, hb, hk⟩; (try clear A21); refine ⟨_, rfl, ?_⟩; have n0_ := Aside0.mk (hb); have n1_ := Aside0.mk (hi); clear HB; clear HI335; have HB := n0_; have HI335 := n1_; clear n0_ n1_; (try clear hb); (try clear hb2); (try clear hk); (try clear hi)) | ((with_reducible refine gate_callee (f := 29) rfl ?_); refine goesL_ (some 69) rfl rfl Try.func29 (by kernel_rfl) rfl #[.pointer (some ⟨g335, 0, none⟩), .int .i64 t343, .int .i64 (wrap64 (-a2))] rfl (by (try simp only [List.map_toArray, List.map_cons, List.map_nil]); first | done | rfl | (simp only [List.length_drop, List.length_take]; rfl)) ?_; (with_reducible refine (calendar_Calendar_Move.calls kj12 g335 t334 t343 (wrap64 (-a2)) t346 t347 w _ ?side1 ?side2 A23.out).mono ?_); (case side1 => repeat (first | (with_reducible first | exact HI335.out | apply IsS57.alloc | apply IsS57.drewN | apply IsS57.drew) | exact HI335.out)); (case side2 => repeat (first | (with_reducible first | exact HB.out | apply below_alloc | apply pw_below_drewN | apply below_drew1 | refine below_set ?_ (IsS57.ge HI335.out)) | exact HB.out)); rintro e w39 ⟨rfl, hi, hb, hk⟩; (try clear A23); refine ⟨_, rfl, ?_⟩; have n0_ := Aside0.mk (hb); have n1_ := Aside0.mk (hi); clear HB; clear HI335; have HB := n0_; have HI335 := n1_; clear n0_ n1_; (try clear hb); (try clear hb2); (try clear hk); (try clear hi)) | (go_at_call 24; (with_reducible refine (calendar_Calendar_Count.calls kj12 g335 t334 a1 t343 t348 w _ ?side1 ?side2 A26.out).mono ?_); (case side1 => repeat (first | (with_reducible first | exact HI335.out | apply IsS57.alloc | apply IsS57.drewN | apply IsS57.drew) | exact HI335.out)); (case side2 => repeat (first | (with_reducible first | exact HB.out | apply below_alloc | apply pw_below_drewN | apply below_drew1 | refine below_set ?_ (IsS57.ge HI335.out)) | exact HB.out)); rintro e w40 ⟨rfl, hi, hb, hk⟩; (try clear A26); have n0_ := Aside0.mk (hb); have n1_ := Aside0.mk (hi); clear HB; clear HI335; have HB := n0_; have HI335 := n1_; clear n0_ n1_; (try clear hb); (try clear hb2); (try clear hk); (try clear hi)) | (go_at_call 22; (with_reducible refine (calendar_Calendar_Works.calls g335 t334 t343 false w _ ?side1 ?side2 A28.out).mono ?_); (case side1 => repeat (first | (with_reducible first | exact HI335.out | apply IsS57.alloc | apply IsS57.drewN | apply IsS57.drew) | exact HI335.out)); (case side2 => repeat (first | (with_reducible first | exact HB.out | apply below_alloc | apply pw_below_drewN | apply below_drew1 | refine below_set ?_ (IsS57.ge HI335.out)) | exact HB.out)); rintro e w41 ⟨rfl, hi, hb, hk⟩; (try clear A28); have n0_ := Aside0.mk (hb); have n1_ := Aside0.mk (hi); clear HB; clear HI335; have HB := n0_; have HI335 := n1_; clear n0_ n1_; (try clear hb); (try clear hb2); (try clear hk); (try clear hi)))
                          go_ret
                          exact ⟨by first | rfl | (simp [errW_none, errW_some] <;> rfl) | (simp [*, errW_none, errW_some] <;> rfl), by repeat (first | (with_reducible first | exact HB.out | apply below_alloc | apply pw_below_drewN | apply below_drew1 | refine below_set ?_ (IsS57.ge HI335.out)) | exact HB.out)⟩
                      · rw [if_neg c27] at H
                        have c27b0 : (t348 == a2) = false := beq_eq_false_iff_ne.mpr c27
                        have c27b1 : (t348 != a2) = true := bne_iff_ne.mpr c27
                        obtain rfl := Option.some.inj H
                        go_wp2_with (first | ((with_reducible refine gate_callee (f := 22) rfl ?_); refine goesL_ (some 47) rfl rfl Try.func22 (by kernel_rfl) rfl #[.pointer (some ⟨g335, 0, none⟩), .int .i64 a1] rfl (by (try simp only [List.map_toArray, List.map_cons, List.map_nil]); first | done | rfl | (simp only [List.length_drop, List.length_take]; rfl)) ?_; (with_reducible refine (calendar_Calendar_Works.calls g335 t334 a1 true w _ ?side1 ?side2 A19.out).mono ?_); (case side1 => repeat (first | (with_reducible first | exact HI335.out | apply IsS57.alloc | apply IsS57.drewN | apply IsS57.drew) | exact HI335.out)); (case side2 => repeat (first | (with_reducible first | exact HB.out | apply below_alloc | apply pw_below_drewN | apply below_drew1 | refine below_set ?_ (IsS57.ge HI335.out)) | exact HB.out)); rintro e w42 ⟨rfl, hi, hb, hk⟩; (try clear A19); refine ⟨_, rfl, ?_⟩; have n0_ := Aside0.mk (hb); have n1_ := Aside0.mk (hi); clear HB; clear HI335; have HB := n0_; have HI335 := n1_; clear n0_ n1_; (try clear hb); (try clear hb2); (try clear hk); (try clear hi)) | ((with_reducible refine gate_callee (f := 29) rfl ?_); refine goesL_ (some 54) rfl rfl Try.func29 (by kernel_rfl) rfl #[.pointer (some ⟨g335, 0, none⟩), .int .i64 a1, .int .i64 a2] rfl (by (try simp only [List.map_toArray, List.map_cons, List.map_nil]); first | done | rfl | (simp only [List.length_drop, List.length_take]; rfl)) ?_; (with_reducible refine (calendar_Calendar_Move.calls kj12 g335 t334 a1 a2 t343 t344 w _ ?side1 ?side2 A21.out).mono ?_); (case side1 => repeat (first | (with_reducible first | exact HI335.out | apply IsS57.alloc | apply IsS57.drewN | apply IsS57.drew) | exact HI335.out)); (case side2 => repeat (first | (with_reducible first | exact HB.out | apply below_alloc | apply pw_below_drewN | apply below_drew1 | refine below_set ?_ (IsS57.ge HI335.out)) | exact HB.out)); rintro e w43 ⟨rfl, hi, hb, hk⟩; (try clear A21); refine ⟨_, rfl, ?_⟩; have n0_ := Aside0.mk (hb); have n1_ := Aside0.mk (hi); clear HB; clear HI335; have HB := n0_; have HI335 := n1_; clear n0_ n1_; (try clear hb); (try clear hb2); (try clear hk); (try clear hi)) | ((with_reducible refine gate_callee (f := 29) rfl ?_); refine goesL_ (some 69) rfl rfl Try.func29 (by kernel_rfl) rfl #[.pointer (some ⟨g335, 0, none⟩), .int .i64 t343, .int .i64 (wrap64 (-a2))] rfl (by (try simp only [List.map_toArray, List.map_cons, List.map_nil]); first | done | rfl | (simp only [List.length_drop, List.length_take]; rfl)) ?_; (with_reducible refine (calendar_Calendar_Move.calls kj12 g335 t334 t343 (wrap64 (-a2)) t346 t347 w _ ?side1 ?side2 A23.out).mono ?_); (case side1 => repeat (first | (with_reducible first | exact HI335.out | apply IsS57.alloc | apply IsS57.drewN | apply IsS57.drew) | exact HI335.out)); (case side2 => repeat (first | (with_reducible first | exact HB.out | apply below_alloc | apply pw_below_drewN | apply below_drew1 | refine below_set ?_ (IsS57.ge HI335.out)) | exact HB.out)); rintro e w44 ⟨rfl, hi, hb, hk⟩; (try clear A23); refine ⟨_, rfl, ?_⟩; have n0_ := Aside0.mk (hb); have n1_ := Aside0.mk (hi); clear HB; clear HI335; have HB := n0_; have HI335 := n1_; clear n0_ n1_; (try clear hb); (try clear hb2); (try clear hk); (try clear hi)) | (go_at_call 24; (with_reducible refine (calendar_Calendar_Count.calls kj12 g335 t334 a1 t343 t348 w _ ?side1 ?side2 A26.out).mono ?_); (case side1 => repeat (first | (with_reducible first | exact HI335.out | apply IsS57.alloc | apply IsS57.drewN | apply IsS57.drew) | exact HI335.out)); (case side2 => repeat (first | (with_reducible first | exact HB.out | apply below_alloc | apply pw_below_drewN | apply below_drew1 | refine below_set ?_ (IsS57.ge HI335.out)) | exact HB.out)); rintro e w45 ⟨rfl, hi, hb, hk⟩; (try clear A26); have n0_ := Aside0.mk (hb); have n1_ := Aside0.mk (hi); clear HB; clear HI335; have HB := n0_; have HI335 := n1_; clear n0_ n1_; (try clear hb); (try clear hb2); (try clear hk); (try clear hi)))
                        go_ret
                        exact ⟨by first | rfl | (simp [errW_none, errW_some] <;> rfl) | (simp [*, errW_none, errW_some] <;> rfl), by repeat (first | (with_reducible first | exact HB.out | apply below_alloc | apply pw_below_drewN | apply below_drew1 | refine below_set ?_ (IsS57.ge HI335.out)) | exact HB.out)⟩
                    · rw [if_neg c25] at H
                      have c25b0 : (t346 == a1) = false := beq_eq_false_iff_ne.mpr c25
                      have c25b1 : (t346 != a1) = true := bne_iff_ne.mpr c25
                      obtain rfl := Option.some.inj H
                      go_wp2_with (first | ((with_reducible refine gate_callee (f := 22) rfl ?_); refine goesL_ (some 47) rfl rfl Try.func22 (by kernel_rfl) rfl #[.pointer (some ⟨g335, 0, none⟩), .int .i64 a1] rfl (by (try simp only [List.map_toArray, List.map_cons, List.map_nil]); first | done | rfl | (simp only [List.length_drop, List.length_take]; rfl)) ?_; (with_reducible refine (calendar_Calendar_Works.calls g335 t334 a1 true w _ ?side1 ?side2 A19.out).mono ?_); (case side1 => repeat (first | (with_reducible first | exact HI335.out | apply IsS57.alloc | apply IsS57.drewN | apply IsS57.drew) | exact HI335.out)); (case side2 => repeat (first | (with_reducible first | exact HB.out | apply below_alloc | apply pw_below_drewN | apply below_drew1 | refine below_set ?_ (IsS57.ge HI335.out)) | exact HB.out)); rintro e w46 ⟨rfl, hi, hb, hk⟩; (try clear A19); refine ⟨_, rfl, ?_⟩; have n0_ := Aside0.mk (hb); have n1_ := Aside0.mk (hi); clear HB; clear HI335; have HB := n0_; have HI335 := n1_; clear n0_ n1_; (try clear hb); (try clear hb2); (try clear hk); (try clear hi)) | ((with_reducible refine gate_callee (f := 29) rfl ?_); refine goesL_ (some 54) rfl rfl Try.func29 (by kernel_rfl) rfl #[.pointer (some ⟨g335, 0, none⟩), .int .i64 a1, .int .i64 a2] rfl (by (try simp only [List.map_toArray, List.map_cons, List.map_nil]); first | done | rfl | (simp only [List.length_drop, List.length_take]; rfl)) ?_; (with_reducible refine (calendar_Calendar_Move.calls kj12 g335 t334 a1 a2 t343 t344 w _ ?side1 ?side2 A21.out).mono ?_); (case side1 => repeat (first | (with_reducible first | exact HI335.out | apply IsS57.alloc | apply IsS57.drewN | apply IsS57.drew) | exact HI335.out)); (case side2 => repeat (first | (with_reducible first | exact HB.out | apply below_alloc | apply pw_below_drewN | apply below_drew1 | refine below_set ?_ (IsS57.ge HI335.out)) | exact HB.out)); rintro e w47 ⟨rfl, hi, hb, hk⟩; (try clear A21); refine ⟨_, rfl, ?_⟩; have n0_ := Aside0.mk (hb); have n1_ := Aside0.mk (hi); clear HB; clear HI335; have HB := n0_; have HI335 := n1_; clear n0_ n1_; (try clear hb); (try clear hb2); (try clear hk); (try clear hi)) | ((with_reducible refine gate_callee (f := 29) rfl ?_); refine goesL_ (some 69) rfl rfl Try.func29 (by kernel_rfl) rfl #[.pointer (some ⟨g335, 0, none⟩), .int .i64 t343, .int .i64 (wrap64 (-a2))] rfl (by (try simp only [List.map_toArray, List.map_cons, List.map_nil]); first | done | rfl | (simp only [List.length_drop, List.length_take]; rfl)) ?_; (with_reducible refine (calendar_Calendar_Move.calls kj12 g335 t334 t343 (wrap64 (-a2)) t346 t347 w _ ?side1 ?side2 A23.out).mono ?_); (case side1 => repeat (first | (with_reducible first | exact HI335.out | apply IsS57.alloc | apply IsS57.drewN | apply IsS57.drew) | exact HI335.out)); (case side2 => repeat (first | (with_reducible first | exact HB.out | apply below_alloc | apply pw_below_drewN | apply below_drew1 | refine below_set ?_ (IsS57.ge HI335.out)) | exact HB.out)); rintro e w48 ⟨rfl, hi, hb, hk⟩; (try clear A23); refine ⟨_, rfl, ?_⟩; have n0_ := Aside0.mk (hb); have n1_ := Aside0.mk (hi); clear HB; clear HI335; have HB := n0_; have HI335 := n1_; clear n0_ n1_; (try clear hb); (try clear hb2); (try clear hk); (try clear hi)))
                      go_ret
                      exact ⟨by first | rfl | (simp [errW_none, errW_some] <;> rfl) | (simp [*, errW_none, errW_some] <;> rfl), by repeat (first | (with_reducible first | exact HB.out | apply below_alloc | apply pw_below_drewN | apply below_drew1 | refine below_set ?_ (IsS57.ge HI335.out)) | exact HB.out)⟩
                  · rw [if_neg c24] at H
                    have c24b0 : (t347 == 0) = false := beq_eq_false_iff_ne.mpr c24
                    have c24b1 : (t347 != 0) = true := bne_iff_ne.mpr c24
                    obtain rfl := Option.some.inj H
                    go_wp2_with (first | ((with_reducible refine gate_callee (f := 22) rfl ?_); refine goesL_ (some 47) rfl rfl Try.func22 (by kernel_rfl) rfl #[.pointer (some ⟨g335, 0, none⟩), .int .i64 a1] rfl (by (try simp only [List.map_toArray, List.map_cons, List.map_nil]); first | done | rfl | (simp only [List.length_drop, List.length_take]; rfl)) ?_; (with_reducible refine (calendar_Calendar_Works.calls g335 t334 a1 true w _ ?side1 ?side2 A19.out).mono ?_); (case side1 => repeat (first | (with_reducible first | exact HI335.out | apply IsS57.alloc | apply IsS57.drewN | apply IsS57.drew) | exact HI335.out)); (case side2 => repeat (first | (with_reducible first | exact HB.out | apply below_alloc | apply pw_below_drewN | apply below_drew1 | refine below_set ?_ (IsS57.ge HI335.out)) | exact HB.out)); rintro e w49 ⟨rfl, hi, hb, hk⟩; (try clear A19); refine ⟨_, rfl, ?_⟩; have n0_ := Aside0.mk (hb); have n1_ := Aside0.mk (hi); clear HB; clear HI335; have HB := n0_; have HI335 := n1_; clear n0_ n1_; (try clear hb); (try clear hb2); (try clear hk); (try clear hi)) | ((with_reducible refine gate_callee (f := 29) rfl ?_); refine goesL_ (some 54) rfl rfl Try.func29 (by kernel_rfl) rfl #[.pointer (some ⟨g335, 0, none⟩), .int .i64 a1, .int .i64 a2] rfl (by (try simp only [List.map_toArray, List.map_cons, List.map_nil]); first | done | rfl | (simp only [List.length_drop, List.length_take]; rfl)) ?_; (with_reducible refine (calendar_Calendar_Move.calls kj12 g335 t334 a1 a2 t343 t344 w _ ?side1 ?side2 A21.out).mono ?_); (case side1 => repeat (first | (with_reducible first | exact HI335.out | apply IsS57.alloc | apply IsS57.drewN | apply IsS57.drew) | exact HI335.out)); (case side2 => repeat (first | (with_reducible first | exact HB.out | apply below_alloc | apply pw_below_drewN | apply below_drew1 | refine below_set ?_ (IsS57.ge HI335.out)) | exact HB.out)); rintro e w50 ⟨rfl, hi, hb, hk⟩; (try clear A21); refine ⟨_, rfl, ?_⟩; have n0_ := Aside0.mk (hb); have n1_ := Aside0.mk (hi); clear HB; clear HI335; have HB := n0_; have HI335 := n1_; clear n0_ n1_; (try clear hb); (try clear hb2); (try clear hk); (try clear hi)) | ((with_reducible refine gate_callee (f := 29) rfl ?_); refine goesL_ (some 69) rfl rfl Try.func29 (by kernel_rfl) rfl #[.pointer (some ⟨g335, 0, none⟩), .int .i64 t343, .int .i64 (wrap64 (-a2))] rfl (by (try simp only [List.map_toArray, List.map_cons, List.map_nil]); first | done | rfl | (simp only [List.length_drop, List.length_take]; rfl)) ?_; (with_reducible refine (calendar_Calendar_Move.calls kj12 g335 t334 t343 (wrap64 (-a2)) t346 t347 w _ ?side1 ?side2 A23.out).mono ?_); (case side1 => repeat (first | (with_reducible first | exact HI335.out | apply IsS57.alloc | apply IsS57.drewN | apply IsS57.drew) | exact HI335.out)); (case side2 => repeat (first | (with_reducible first | exact HB.out | apply below_alloc | apply pw_below_drewN | apply below_drew1 | refine below_set ?_ (IsS57.ge HI335.out)) | exact HB.out)); rintro e w51 ⟨rfl, hi, hb, hk⟩; (try clear A23); refine ⟨_, rfl, ?_⟩; have n0_ := Aside0.mk (hb); have n1_ := Aside0.mk (hi); clear HB; clear HI335; have HB := n0_; have HI335 := n1_; clear n0_ n1_; (try clear hb); (try clear hb2); (try clear hk); (try clear hi)))
                    go_ret
                    exact ⟨by first | rfl | (simp [errW_none, errW_some] <;> rfl) | (simp [*, errW_none, errW_some] <;> rfl), by repeat (first | (with_reducible first | exact HB.out | apply below_alloc | apply pw_below_drewN | apply below_drew1 | refine below_set ?_ (IsS57.ge HI335.out)) | exact HB.out)⟩
                · rw [if_neg c22] at H
                  have c22b0 : (t344 == 0) = false := beq_eq_false_iff_ne.mpr c22
                  have c22b1 : (t344 != 0) = true := bne_iff_ne.mpr c22
                  by_cases c52 : t344 = 6
                  · rw [if_pos c52] at H
                    have c52b0 : (t344 == 6) = true := beq_iff_eq.mpr c52
                    have c52b1 : (t344 != 6) = false := bne_eq_false_iff_eq.mpr c52
                    clear c52
                    replace H := Option.bind_eq_some_iff.mp H
                    obtain ⟨t345, A530, H⟩ := H
                    replace H : (some t345) = some r := H
                    have A53 := Aside0.mk A530
                    clear A530
                    obtain rfl := Option.some.inj H
                    go_wp2_with (first | ((with_reducible refine gate_callee (f := 22) rfl ?_); refine goesL_ (some 47) rfl rfl Try.func22 (by kernel_rfl) rfl #[.pointer (some ⟨g335, 0, none⟩), .int .i64 a1] rfl (by (try simp only [List.map_toArray, List.map_cons, List.map_nil]); first | done | rfl | (simp only [List.length_drop, List.length_take]; rfl)) ?_; (with_reducible refine (calendar_Calendar_Works.calls g335 t334 a1 true w _ ?side1 ?side2 A19.out).mono ?_); (case side1 => repeat (first | (with_reducible first | exact HI335.out | apply IsS57.alloc | apply IsS57.drewN | apply IsS57.drew) | exact HI335.out)); (case side2 => repeat (first | (with_reducible first | exact HB.out | apply below_alloc | apply pw_below_drewN | apply below_drew1 | refine below_set ?_ (IsS57.ge HI335.out)) | exact HB.out)); rintro e w54 ⟨rfl, hi, hb, hk⟩; (try clear A19); refine ⟨_, rfl, ?_⟩; have n0_ := Aside0.mk (hb); have n1_ := Aside0.mk (hi); clear HB; clear HI335; have HB := n0_; have HI335 := n1_; clear n0_ n1_; (try clear hb); (try clear hb2); (try clear hk); (try clear hi)) | ((with_reducible refine gate_callee (f := 29) rfl ?_); refine goesL_ (some 54) rfl rfl Try.func29 (by kernel_rfl) rfl #[.pointer (some ⟨g335, 0, none⟩), .int .i64 a1, .int .i64 a2] rfl (by (try simp only [List.map_toArray, List.map_cons, List.map_nil]); first | done | rfl | (simp only [List.length_drop, List.length_take]; rfl)) ?_; (with_reducible refine (calendar_Calendar_Move.calls kj12 g335 t334 a1 a2 t343 t344 w _ ?side1 ?side2 A21.out).mono ?_); (case side1 => repeat (first | (with_reducible first | exact HI335.out | apply IsS57.alloc | apply IsS57.drewN | apply IsS57.drew) | exact HI335.out)); (case side2 => repeat (first | (with_reducible first | exact HB.out | apply below_alloc | apply pw_below_drewN | apply below_drew1 | refine below_set ?_ (IsS57.ge HI335.out)) | exact HB.out)); rintro e w55 ⟨rfl, hi, hb, hk⟩; (try clear A21); refine ⟨_, rfl, ?_⟩; have n0_ := Aside0.mk (hb); have n1_ := Aside0.mk (hi); clear HB; clear HI335; have HB := n0_; have HI335 := n1_; clear n0_ n1_; (try clear hb); (try clear hb2); (try clear hk); (try clear hi)) | (go_at_call 19; (with_reducible refine (lombardlaw02_awake.calls kj12  t345 _ A53.out).mono ?_); rintro e w56 ⟨rfl, hb⟩; (try clear A53); have n0_ := Aside0.mk (IsS57.below (by repeat (first | (with_reducible first | exact HI335.out | apply IsS57.alloc | apply IsS57.drewN | apply IsS57.drew) | exact HI335.out)) hb); have n1_ := Aside0.mk (below_step (by repeat (first | (with_reducible first | exact HB.out | apply below_alloc | apply pw_below_drewN | apply below_drew1 | refine below_set ?_ (IsS57.ge HI335.out)) | exact HB.out)) hb); clear HI335; clear HB; have HI335 := n0_; have HB := n1_; clear n0_ n1_; (try clear hb); (try clear hb2); (try clear hk); (try clear hi)))
                    go_ret
                    exact ⟨by first | rfl | (simp [errW_none, errW_some] <;> rfl) | (simp [*, errW_none, errW_some] <;> rfl), by repeat (first | (with_reducible first | exact HB.out | apply below_alloc | apply pw_below_drewN | apply below_drew1 | refine below_set ?_ (IsS57.ge HI335.out)) | exact HB.out)⟩
                  · rw [if_neg c52] at H
                    have c52b0 : (t344 == 6) = false := beq_eq_false_iff_ne.mpr c52
                    have c52b1 : (t344 != 6) = true := bne_iff_ne.mpr c52
                    obtain rfl := Option.some.inj H
                    go_wp2_with (first | ((with_reducible refine gate_callee (f := 22) rfl ?_); refine goesL_ (some 47) rfl rfl Try.func22 (by kernel_rfl) rfl #[.pointer (some ⟨g335, 0, none⟩), .int .i64 a1] rfl (by (try simp only [List.map_toArray, List.map_cons, List.map_nil]); first | done | rfl | (simp only [List.length_drop, List.length_take]; rfl)) ?_; (with_reducible refine (calendar_Calendar_Works.calls g335 t334 a1 true w _ ?side1 ?side2 A19.out).mono ?_); (case side1 => repeat (first | (with_reducible first | exact HI335.out | apply IsS57.alloc | apply IsS57.drewN | apply IsS57.drew) | exact HI335.out)); (case side2 => repeat (first | (with_reducible first | exact HB.out | apply below_alloc | apply pw_below_drewN | apply below_drew1 | refine below_set ?_ (IsS57.ge HI335.out)) | exact HB.out)); rintro e w57 ⟨rfl, hi, hb, hk⟩; (try clear A19); refine ⟨_, rfl, ?_⟩; have n0_ := Aside0.mk (hb); have n1_ := Aside0.mk (hi); clear HB; clear HI335; have HB := n0_; have HI335 := n1_; clear n0_ n1_; (try clear hb); (try clear hb2); (try clear hk); (try clear hi)) | ((with_reducible refine gate_callee (f := 29) rfl ?_); refine goesL_ (some 54) rfl rfl Try.func29 (by kernel_rfl) rfl #[.pointer (some ⟨g335, 0, none⟩), .int .i64 a1, .int .i64 a2] rfl (by (try simp only [List.map_toArray, List.map_cons, List.map_nil]); first | done | rfl | (simp only [List.length_drop, List.length_take]; rfl)) ?_; (with_reducible refine (calendar_Calendar_Move.calls kj12 g335 t334 a1 a2 t343 t344 w _ ?side1 ?side2 A21.out).mono ?_); (case side1 => repeat (first | (with_reducible first | exact HI335.out | apply IsS57.alloc | apply IsS57.drewN | apply IsS57.drew) | exact HI335.out)); (case side2 => repeat (first | (with_reducible first | exact HB.out | apply below_alloc | apply pw_below_drewN | apply below_drew1 | refine below_set ?_ (IsS57.ge HI335.out)) | exact HB.out)); rintro e w58 ⟨rfl, hi, hb, hk⟩; (try clear A21); refine ⟨_, rfl, ?_⟩; have n0_ := Aside0.mk (hb); have n1_ := Aside0.mk (hi); clear HB; clear HI335; have HB := n0_; have HI335 := n1_; clear n0_ n1_; (try clear hb); (try clear hb2); (try clear hk); (try clear hi)))
                    go_ret
                    exact ⟨by first | rfl | (simp [errW_none, errW_some] <;> rfl) | (simp [*, errW_none, errW_some] <;> rfl), by repeat (first | (with_reducible first | exact HB.out | apply below_alloc | apply pw_below_drewN | apply below_drew1 | refine below_set ?_ (IsS57.ge HI335.out)) | exact HB.out)⟩
              · replace c20 := Bool.eq_false_iff.mpr c20
                subst c20
                have H1 : ((lombardlaw02_awake.f kj12).bind fun t342 => (some t342)) = some r := by rw [if_neg (show ¬ (false = true) by decide)] at H; exact H
                clear H
                have H := H1
                clear H1
                replace H := Option.bind_eq_some_iff.mp H
                obtain ⟨t342, A590, H⟩ := H
                replace H : (some t342) = some r := H
                have A59 := Aside0.mk A590
                clear A590
                obtain rfl := Option.some.inj H
                go_wp2_with (first | ((with_reducible refine gate_callee (f := 22) rfl ?_); refine goesL_ (some 47) rfl rfl Try.func22 (by kernel_rfl) rfl #[.pointer (some ⟨g335, 0, none⟩), .int .i64 a1] rfl (by (try simp only [List.map_toArray, List.map_cons, List.map_nil]); first | done | rfl | (simp only [List.length_drop, List.length_take]; rfl)) ?_; (with_reducible refine (calendar_Calendar_Works.calls g335 t334 a1 false w _ ?side1 ?side2 A19.out).mono ?_); (case side1 => repeat (first | (with_reducible first | exact HI335.out | apply IsS57.alloc | apply IsS57.drewN | apply IsS57.drew) | exact HI335.out)); (case side2 => repeat (first | (with_reducible first | exact HB.out | apply below_alloc | apply pw_below_drewN | apply below_drew1 | refine below_set ?_ (IsS57.ge HI335.out)) | exact HB.out)); rintro e w60 ⟨rfl, hi, hb, hk⟩; (try clear A19); refine ⟨_, rfl, ?_⟩; have n0_ := Aside0.mk (hb); have n1_ := Aside0.mk (hi); clear HB; clear HI335; have HB := n0_; have HI335 := n1_; clear n0_ n1_; (try clear hb); (try clear hb2); (try clear hk); (try clear hi)) | ((with_reducible refine gate_callee (f := 19) rfl ?_); refine goesL_ (some 49) rfl rfl Try.func19 (by kernel_rfl) rfl #[] rfl (by (try simp only [List.map_toArray, List.map_cons, List.map_nil]); first | done | rfl | (simp only [List.length_drop, List.length_take]; rfl)) ?_; (with_reducible refine (lombardlaw02_awake.calls kj12  t342 _ A59.out).mono ?_); rintro e w61 ⟨rfl, hb⟩; (try clear A59); refine ⟨_, rfl, ?_⟩; have n0_ := Aside0.mk (IsS57.below (by repeat (first | (with_reducible first | exact HI335.out | apply IsS57.alloc | apply IsS57.drewN | apply IsS57.drew) | exact HI335.out)) hb); have n1_ := Aside0.mk (below_step (by repeat (first | (with_reducible first | exact HB.out | apply below_alloc | apply pw_below_drewN | apply below_drew1 | refine below_set ?_ (IsS57.ge HI335.out)) | exact HB.out)) hb); clear HI335; clear HB; have HI335 := n0_; have HB := n1_; clear n0_ n1_; (try clear hb); (try clear hb2); (try clear hk); (try clear hi)))
                go_ret
                exact ⟨by first | rfl | (simp [errW_none, errW_some] <;> rfl) | (simp [*, errW_none, errW_some] <;> rfl), by repeat (first | (with_reducible first | exact HB.out | apply below_alloc | apply pw_below_drewN | apply below_drew1 | refine below_set ?_ (IsS57.ge HI335.out)) | exact HB.out)⟩
def lombardlaw02_CalendarThere.Pure : Prop := ∀ (l0 : List Int) (a1 : Int) (a2 : Int), l0.length ≤ maxLen → l0.length * 8 ≤ 140737488351232 → (∀ x ∈ l0, (Lit.int .i64 x).wf = true) → (Lit.int .i64 a1).wf = true → (Lit.int .i64 a2).wf = true → ∃ k, lombardlaw02_CalendarThere.f k l0 a1 a2 = some true
theorem lombardlaw02_CalendarThere.walk (P : lombardlaw02_CalendarThere.Pure) (a0 : Option Addr) (len0 cap0 : Nat) (z0 : List Int) (a1 : Int) (a2 : Int) (w : World) (w0 : (a0 = none ∧ len0 = 0 ∧ cap0 = 0 ∧ z0 = []) ∨ ∃ x, a0 = some x ∧ len0 ≤ cap0 ∧ cap0 ≤ maxLen ∧ z0.length = cap0 ∧ (∀ i, i < z0.length → w.cell? (x.add i) = some (.int .i64 (z0.getD i 0))) ∧ ∀ n ∈ z0, (Lit.int .i64 n).wf = true) (y0 : len0 * 8 ≤ 140737488351232) (w1 : (Lit.int .i64 a1).wf = true) (w2 : (Lit.int .i64 a2).wf = true) :
    Calls Try.prog 8 #[.slice a0 len0 cap0, .int .i64 a1, .int .i64 a2] w fun e w' => e = .returned (.bool true) ∧ Below w.heap.size w w' := by
  obtain ⟨l0, rfl, hr0, hm0, hw0, hc0⟩ := ReadsInt.ofRowC w0
  obtain ⟨k, h⟩ := P l0 a1 a2 hm0 y0 hw0 w1 w2
  refine (lombardlaw02_CalendarThere.calls k _ _ l0 a1 a2 true w (Kd.C_of_reads (d := (0 : Int)) (h1 := fun _ => rfl) hr0) hc0 h).mono ?_
  rintro e w' ⟨rfl, hd⟩
  exact ⟨rfl, hd⟩
end Go.Proofs.Ytkdbolhheodfkaa.X
