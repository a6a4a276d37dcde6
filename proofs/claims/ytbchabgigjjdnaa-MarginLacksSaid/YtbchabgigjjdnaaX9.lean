-- a shortened text: what this claim does not name is left out (wip/xprint/prune.py of this repo)
import Derived.Test.YtbchabgigjjdnaaX0
import Derived.Test.YtbchabgigjjdnaaX1
import Derived.Test.YtbchabgigjjdnaaX3
import Derived.Test.YtbchabgigjjdnaaX4
import Derived.Test.YtbchabgigjjdnaaX8
namespace Go.Proofs.Ytbchabgigjjdnaa.X
open Go.RowKit Go.Proofs.YtbchabgigjjdnaaW.PrintWords Go.Proofs.YtbchabgigjjdnaaW.PrintLast Go.Proofs.YtbchabgigjjdnaaW.PrintMore
attribute [local go_sem] max2_int min2_int max_two min_two max_three min_three max_four min_four
set_option linter.unusedVariables false
set_option linter.unusedSimpArgs false
mutual
def lombardlaw28_MarginLacks.j0 : Nat → List (S53) → Int → Int → List Int → Int → Bool → Option (Bool)
  | 0, _, _, _, _, _, _ => none
  | k + 1, x0, x1, x2, x3, x4, x27 => if x27 = true then ((lombardlaw28_awake.f k).bind fun t263 => (some t263)) else ((lombardlaw28_marks.f k x0).bind fun t264 => ((margin_Lack.f k t264 x4).bind fun bt267 => ((lombardref28_Lack.f k x0 x4).bind fun bt269 => ((lombardlaw28_marks.f k x0).bind fun t271 => ((margin_Calls.f k t271 x1 x2 x3).bind fun bt274 => ((lombardref28_Calls.f k x0 x1 x2 x3).bind fun bt278 => (if bt267.1 = bt269.1 then (if bt267.2 = bt269.2 then (if bt274.2 = bt278.2 then (lombardlaw28_MarginLacks.j1 k bt274.1 bt278.1 ((bt274.1.length : Int) != (bt278.1.length : Int))) else (lombardlaw28_MarginLacks.j1 k bt274.1 bt278.1 true)) else (lombardlaw28_MarginLacks.j1 k bt274.1 bt278.1 true)) else (lombardlaw28_MarginLacks.j1 k bt274.1 bt278.1 true))))))))
def lombardlaw28_MarginLacks.j1 : Nat → List (S44) → List (S46) → Bool → Option (Bool)
  | 0, _, _, _ => none
  | k + 1, x15, x17, x79 => if x79 = true then (some false) else (lombardlaw28_MarginLacks.l0 k x15 x17 0)
def lombardlaw28_MarginLacks.l0 : Nat → List (S44) → List (S46) → Int → Option (Bool)
  | 0, _, _, _ => none
  | k + 1, x15, x17, x19 => if x19 < (x17.length : Int) then (if 0 ≤ x19 then (if x19 < (x15.length : Int) then (if ((rd_T44 x15 x19).f1) = ((rd_T46 x17 x19).f0) then (if ((rd_T44 x15 x19).f3) = ((rd_T46 x17 x19).f1) then (if ((rd_T44 x15 x19).f0) = 0 then (if ((rd_T44 x15 x19).f2) = 0 then (if (((rd_T44 x15 x19).f4).length : Int) = 0 then (lombardlaw28_MarginLacks.l0 k x15 x17 (wrap64 (x19 + 1))) else (some false)) else (some false)) else (some false)) else (some false)) else (some false)) else (none)) else (none)) else ((lombardlaw28_awake.f k).bind fun t289 => (some t289))
end
def lombardlaw28_MarginLacks.f (k : Nat) (l0 : List (S53)) (a1 : Int) (a2 : Int) (l3 : List Int) (a4 : Int) : Option (Bool) := if (l0.length : Int) > 80 then (lombardlaw28_MarginLacks.j0 k l0 a1 a2 l3 a4 true) else (lombardlaw28_MarginLacks.j0 k l0 a1 a2 l3 a4 (decide ((l3.length : Int) > 60)))
theorem lombardlaw28_MarginLacks.mono_l : ∀ k, (∀ y0 y1 y2 y3 y4 y5, LeO (lombardlaw28_MarginLacks.j0 k y0 y1 y2 y3 y4 y5) (lombardlaw28_MarginLacks.j0 (k + 1) y0 y1 y2 y3 y4 y5)) ∧ (∀ y0 y1 y2, LeO (lombardlaw28_MarginLacks.j1 k y0 y1 y2) (lombardlaw28_MarginLacks.j1 (k + 1) y0 y1 y2)) ∧ (∀ y0 y1 y2, LeO (lombardlaw28_MarginLacks.l0 k y0 y1 y2) (lombardlaw28_MarginLacks.l0 (k + 1) y0 y1 y2))
  | 0 => ⟨fun _ _ _ _ _ _ r h => by simp [lombardlaw28_MarginLacks.j0] at h, fun _ _ _ r h => by simp [lombardlaw28_MarginLacks.j1] at h, fun _ _ _ r h => by simp [lombardlaw28_MarginLacks.l0] at h⟩
  | k + 1 => by
    obtain ⟨ih0, ih1, ih2⟩ := lombardlaw28_MarginLacks.mono_l k
    refine ⟨?_, ?_, ?_⟩
    · intro y0 y1 y2 y3 y4 y5
      unfold lombardlaw28_MarginLacks.j0
      repeat' first
      | (with_reducible exact ih0 _ _ _ _ _ _)
      | (with_reducible exact ih1 _ _ _)
      | (with_reducible exact ih2 _ _ _)
      | (with_reducible exact lombardlaw28_awake.mono _)
      | (with_reducible exact lombardlaw28_marks.mono _ _)
      | (with_reducible exact lombardref28_Calls.mono _ _ _ _ _)
      | (with_reducible exact lombardref28_Lack.mono _ _ _)
      | (with_reducible exact margin_Calls.mono _ _ _ _ _)
      | (with_reducible exact margin_Lack.mono _ _ _)
      | (with_reducible exact LeO.refl _)
      | (with_reducible exact LeO.none _)
      | (with_reducible refine LeO.ite ?_ ?_)
      | (with_reducible refine LeO.bind ?_ (fun _ => ?_))
      | exact ih0 _ _ _ _ _ _
      | exact ih1 _ _ _
      | exact ih2 _ _ _
      | exact lombardlaw28_awake.mono _
      | exact lombardlaw28_marks.mono _ _
      | exact lombardref28_Calls.mono _ _ _ _ _
      | exact lombardref28_Lack.mono _ _ _
      | exact margin_Calls.mono _ _ _ _ _
      | exact margin_Lack.mono _ _ _
      | exact LeO.none _
      | refine LeO.ite ?_ ?_
      | refine LeO.bind ?_ (fun _ => ?_)
    · intro y0 y1 y2
      unfold lombardlaw28_MarginLacks.j1
      repeat' first
      | (with_reducible exact ih0 _ _ _ _ _ _)
      | (with_reducible exact ih1 _ _ _)
      | (with_reducible exact ih2 _ _ _)
      | (with_reducible exact lombardlaw28_awake.mono _)
      | (with_reducible exact lombardlaw28_marks.mono _ _)
      | (with_reducible exact lombardref28_Calls.mono _ _ _ _ _)
      | (with_reducible exact lombardref28_Lack.mono _ _ _)
      | (with_reducible exact margin_Calls.mono _ _ _ _ _)
      | (with_reducible exact margin_Lack.mono _ _ _)
      | (with_reducible exact LeO.refl _)
      | (with_reducible exact LeO.none _)
      | (with_reducible refine LeO.ite ?_ ?_)
      | (with_reducible refine LeO.bind ?_ (fun _ => ?_))
      | exact ih0 _ _ _ _ _ _
      | exact ih1 _ _ _
      | exact ih2 _ _ _
      | exact lombardlaw28_awake.mono _
      | exact lombardlaw28_marks.mono _ _
      | exact lombardref28_Calls.mono _ _ _ _ _
      | exact lombardref28_Lack.mono _ _ _
      | exact margin_Calls.mono _ _ _ _ _
      | exact margin_Lack.mono _ _ _
      | exact LeO.none _
      | refine LeO.ite ?_ ?_
      | refine LeO.bind ?_ (fun _ => ?_)
    · intro y0 y1 y2
      unfold lombardlaw28_MarginLacks.l0
      repeat' first
      | (with_reducible exact ih0 _ _ _ _ _ _)
      | (with_reducible exact ih1 _ _ _)
      | (with_reducible exact ih2 _ _ _)
      | (with_reducible exact lombardlaw28_awake.mono _)
      | (with_reducible exact lombardlaw28_marks.mono _ _)
      | (with_reducible exact lombardref28_Calls.mono _ _ _ _ _)
      | (with_reducible exact lombardref28_Lack.mono _ _ _)
      | (with_reducible exact margin_Calls.mono _ _ _ _ _)
      | (with_reducible exact margin_Lack.mono _ _ _)
      | (with_reducible exact LeO.refl _)
      | (with_reducible exact LeO.none _)
      | (with_reducible refine LeO.ite ?_ ?_)
      | (with_reducible refine LeO.bind ?_ (fun _ => ?_))
      | exact ih0 _ _ _ _ _ _
      | exact ih1 _ _ _
      | exact ih2 _ _ _
      | exact lombardlaw28_awake.mono _
      | exact lombardlaw28_marks.mono _ _
      | exact lombardref28_Calls.mono _ _ _ _ _
      | exact lombardref28_Lack.mono _ _ _
      | exact margin_Calls.mono _ _ _ _ _
      | exact margin_Lack.mono _ _ _
      | exact LeO.none _
      | refine LeO.ite ?_ ?_
      | refine LeO.bind ?_ (fun _ => ?_)
theorem lombardlaw28_MarginLacks.mono : ∀ a0 a1 a2 a3 a4 k, LeO (lombardlaw28_MarginLacks.f k a0 a1 a2 a3 a4) (lombardlaw28_MarginLacks.f (k + 1) a0 a1 a2 a3 a4) := by
  intro a0 a1 a2 a3 a4 k
  obtain ⟨ih0, ih1, ih2⟩ := lombardlaw28_MarginLacks.mono_l k
  unfold lombardlaw28_MarginLacks.f
  repeat' first
      | (with_reducible exact ih0 _ _ _ _ _ _)
      | (with_reducible exact ih1 _ _ _)
      | (with_reducible exact ih2 _ _ _)
      | (with_reducible exact lombardlaw28_awake.mono _)
      | (with_reducible exact lombardlaw28_marks.mono _ _)
      | (with_reducible exact lombardref28_Calls.mono _ _ _ _ _)
      | (with_reducible exact lombardref28_Lack.mono _ _ _)
      | (with_reducible exact margin_Calls.mono _ _ _ _ _)
      | (with_reducible exact margin_Lack.mono _ _ _)
      | (with_reducible exact LeO.refl _)
      | (with_reducible exact LeO.none _)
      | (with_reducible refine LeO.ite ?_ ?_)
      | (with_reducible refine LeO.bind ?_ (fun _ => ?_))
      | exact ih0 _ _ _ _ _ _
      | exact ih1 _ _ _
      | exact ih2 _ _ _
      | exact lombardlaw28_awake.mono _
      | exact lombardlaw28_marks.mono _ _
      | exact lombardref28_Calls.mono _ _ _ _ _
      | exact lombardref28_Lack.mono _ _ _
      | exact margin_Calls.mono _ _ _ _ _
      | exact margin_Lack.mono _ _ _
      | exact LeO.none _
      | refine LeO.ite ?_ ?_
      | refine LeO.bind ?_ (fun _ => ?_)
set_option maxHeartbeats 8000000 in
set_option maxRecDepth 100000 in
theorem lombardlaw28_MarginLacks.calls (k : Nat) (A0 : Option Addr) (c0 : Nat) (l0 : List (S53)) (a1 : Int) (a2 : Int) (A3 : Option Addr) (c3 : Nat) (l3 : List Int) (a4 : Int) (r : Bool) (w : World) (hr0 : Kd.C k53 w A0 l0.length l0) (hc0 : l0.length ≤ c0) (hr3 : Kd.C (Kd.int .i64) w A3 l3.length l3) (hc3 : l3.length ≤ c3) (h : lombardlaw28_MarginLacks.f k l0 a1 a2 l3 a4 = some r) :
    Calls Try.prog 4 #[.slice A0 l0.length c0, .int .i64 a1, .int .i64 a2, .slice A3 l3.length c3, .int .i64 a4] w fun e w' => e = .returned (.bool r) ∧ Below w.heap.size w w' := by
  have hu23 := Try.underlying23
  have HR0 := Aside0.mk hr0
  have HC0 := Aside0.mk hc0
  clear hr0 hc0
  have HR3 := Aside0.mk hr3
  have HC3 := Aside0.mk hc3
  clear hr3 hc3
  have HB := Aside0.mk (Below.refl w.heap.size w)
  have H : (if (l0.length : Int) > 80 then (lombardlaw28_MarginLacks.j0 k l0 a1 a2 l3 a4 true) else (lombardlaw28_MarginLacks.j0 k l0 a1 a2 l3 a4 (decide ((l3.length : Int) > 60)))) = some r := h
  clear h
  have HC6 := Aside0.mk H
  clear H
  go_enter Try.func4, Try.ntmps4
  go_upto_region 1 with (fail)
  repeat (go_quiet (fail); go_upto_region 1 with (fail))
  go_cut [27] (fun v27 wc => ∃ (kq : Nat) (x27_5 : Bool), v27 = .bool x27_5 ∧ Aside0 (lombardlaw28_MarginLacks.j0 kq l0 a1 a2 l3 a4 x27_5 = some r) ∧ Aside0 (kq ≤ k) ∧ Aside0 (Below w.heap.size w wc))
  case first =>
    have H := HC6.out
    clear HC6
    by_cases c7 : (l0.length : Int) > 80
    · rw [if_pos c7] at H
      have c7b0 : decide (80 < (l0.length : Int)) = true := decide_eq_true c7
      have c7b1 : decide (80 < l0.length) = true := decide_eq_true (by omega)
      clear c7
      (first | rw [c7b0] | (simp only [i64_w, i32_w]; rw [c7b0]) | skip)
      have H' := Aside0.mk H
      clear H
      go_wp2
      repeat (go_quiet (fail); try go_wp2)
      go_meet
      case rel => exact ⟨_, (true), (by first | rfl | (simp; done) | (simp [*]; done)), H', ⟨by first | omega | exact Nat.le_refl _⟩, ⟨by repeat (first | (with_reducible first | exact HB.out | apply below_alloc | apply pw_below_drewN | apply below_drew1) | exact HB.out)⟩⟩
    · rw [if_neg c7] at H
      have c7b0 : decide (80 < (l0.length : Int)) = false := decide_eq_false c7
      have c7b1 : decide (80 < l0.length) = false := decide_eq_false (by omega)
      clear c7
      (first | rw [c7b0] | (simp only [i64_w, i32_w]; rw [c7b0]) | skip)
      have H' := Aside0.mk H
      clear H
      go_wp2
      repeat (go_quiet (fail); try go_wp2)
      go_meet
      case rel => exact ⟨_, (decide ((l3.length : Int) > 60)), (by first | rfl | (simp; done) | (simp [*]; done)), H', ⟨by first | omega | exact Nat.le_refl _⟩, ⟨by repeat (first | (with_reducible first | exact HB.out | apply below_alloc | apply pw_below_drewN | apply below_drew1) | exact HB.out)⟩⟩
  case rest =>
    clear HC6
    try clear p2
    try clear c3
    try clear c4
    try clear c7
    try clear c7b0
    try clear c7b1
    obtain ⟨kq, x27_5, rfl, HA, HJ5, HB⟩ := hcut
    cases kq with
    | zero => exact absurd HA.out (by simp [lombardlaw28_MarginLacks.j0])
    | succ kj5 =>
      have H := HA.out
      clear HA
      simp only [lombardlaw28_MarginLacks.j0] at H
      by_cases c8 : x27_5 = true
      · subst c8
        have H1 : ((lombardlaw28_awake.f kj5).bind fun t263 => (some t263)) = some r := by rw [if_pos rfl] at H; exact H
        clear H
        have H := H1
        clear H1
        replace H := Option.bind_eq_some_iff.mp H
        obtain ⟨t263, A90, H⟩ := H
        replace H : (some t263) = some r := H
        have A9 := Aside0.mk A90
        clear A90
        obtain rfl := Option.some.inj H
        go_wp2_with (first | (go_at_call 8; (with_reducible refine (lombardlaw28_awake.calls kj5  t263 _ A9.out).mono ?_); rintro e w10 ⟨rfl, hb⟩; (try clear A9); have n0_ := Aside0.mk (below_step (by repeat (first | (with_reducible first | exact HB.out | apply below_alloc | apply pw_below_drewN | apply below_drew1) | exact HB.out)) hb); clear HB; have HB := n0_; clear n0_; (try clear hb); (try clear hb2); (try clear hk); (try clear hi)))
        repeat (go_quiet (first | (go_at_call 8; (with_reducible refine (lombardlaw28_awake.calls kj5  t263 _ A9.out).mono ?_); rintro e w10 ⟨rfl, hb⟩; (try clear A9); have n0_ := Aside0.mk (below_step (by repeat (first | (with_reducible first | exact HB.out | apply below_alloc | apply pw_below_drewN | apply below_drew1) | exact HB.out)) hb); clear HB; have HB := n0_; clear n0_; (try clear hb); (try clear hb2); (try clear hk); (try clear hi))); try go_wp2_with (first | (go_at_call 8; (with_reducible refine (lombardlaw28_awake.calls kj5  t263 _ A9.out).mono ?_); rintro e w10 ⟨rfl, hb⟩; (try clear A9); have n0_ := Aside0.mk (below_step (by repeat (first | (with_reducible first | exact HB.out | apply below_alloc | apply pw_below_drewN | apply below_drew1) | exact HB.out)) hb); clear HB; have HB := n0_; clear n0_; (try clear hb); (try clear hb2); (try clear hk); (try clear hi))))
        go_ret
        exact ⟨by first | rfl | (simp [errW_none, errW_some] <;> rfl) | (simp [*, errW_none, errW_some] <;> rfl), by repeat (first | (with_reducible first | exact HB.out | apply below_alloc | apply pw_below_drewN | apply below_drew1) | exact HB.out)⟩
      · replace c8 := Bool.eq_false_iff.mpr c8
        subst c8
        have H1 : ((lombardlaw28_marks.f kj5 l0).bind fun t264 => ((margin_Lack.f kj5 t264 a4).bind fun bt267 => ((lombardref28_Lack.f kj5 l0 a4).bind fun bt269 => ((lombardlaw28_marks.f kj5 l0).bind fun t271 => ((margin_Calls.f kj5 t271 a1 a2 l3).bind fun bt274 => ((lombardref28_Calls.f kj5 l0 a1 a2 l3).bind fun bt278 => (if bt267.1 = bt269.1 then (if bt267.2 = bt269.2 then (if bt274.2 = bt278.2 then (lombardlaw28_MarginLacks.j1 kj5 bt274.1 bt278.1 ((bt274.1.length : Int) != (bt278.1.length : Int))) else (lombardlaw28_MarginLacks.j1 kj5 bt274.1 bt278.1 true)) else (lombardlaw28_MarginLacks.j1 kj5 bt274.1 bt278.1 true)) else (lombardlaw28_MarginLacks.j1 kj5 bt274.1 bt278.1 true)))))))) = some r := by rw [if_neg (show ¬ (false = true) by decide)] at H; exact H
        clear H
        have H := H1
        clear H1
        replace H := Option.bind_eq_some_iff.mp H
        obtain ⟨t264, A110, H⟩ := H
        replace H : ((margin_Lack.f kj5 t264 a4).bind fun bt267 => ((lombardref28_Lack.f kj5 l0 a4).bind fun bt269 => ((lombardlaw28_marks.f kj5 l0).bind fun t271 => ((margin_Calls.f kj5 t271 a1 a2 l3).bind fun bt274 => ((lombardref28_Calls.f kj5 l0 a1 a2 l3).bind fun bt278 => (if bt267.1 = bt269.1 then (if bt267.2 = bt269.2 then (if bt274.2 = bt278.2 then (lombardlaw28_MarginLacks.j1 kj5 bt274.1 bt278.1 ((bt274.1.length : Int) != (bt278.1.length : Int))) else (lombardlaw28_MarginLacks.j1 kj5 bt274.1 bt278.1 true)) else (lombardlaw28_MarginLacks.j1 kj5 bt274.1 bt278.1 true)) else (lombardlaw28_MarginLacks.j1 kj5 bt274.1 bt278.1 true))))))) = some r := H
        have A11 := Aside0.mk A110
        clear A110
        replace H := Option.bind_eq_some_iff.mp H
        obtain ⟨⟨t267, t268⟩, A120, H⟩ := H
        replace H : ((lombardref28_Lack.f kj5 l0 a4).bind fun bt269 => ((lombardlaw28_marks.f kj5 l0).bind fun t271 => ((margin_Calls.f kj5 t271 a1 a2 l3).bind fun bt274 => ((lombardref28_Calls.f kj5 l0 a1 a2 l3).bind fun bt278 => (if t267 = bt269.1 then (if t268 = bt269.2 then (if bt274.2 = bt278.2 then (lombardlaw28_MarginLacks.j1 kj5 bt274.1 bt278.1 ((bt274.1.length : Int) != (bt278.1.length : Int))) else (lombardlaw28_MarginLacks.j1 kj5 bt274.1 bt278.1 true)) else (lombardlaw28_MarginLacks.j1 kj5 bt274.1 bt278.1 true)) else (lombardlaw28_MarginLacks.j1 kj5 bt274.1 bt278.1 true)))))) = some r := H
        have A12 := Aside0.mk A120
        clear A120
        replace H := Option.bind_eq_some_iff.mp H
        obtain ⟨⟨t269, t270⟩, A130, H⟩ := H
        replace H : ((lombardlaw28_marks.f kj5 l0).bind fun t271 => ((margin_Calls.f kj5 t271 a1 a2 l3).bind fun bt274 => ((lombardref28_Calls.f kj5 l0 a1 a2 l3).bind fun bt278 => (if t267 = t269 then (if t268 = t270 then (if bt274.2 = bt278.2 then (lombardlaw28_MarginLacks.j1 kj5 bt274.1 bt278.1 ((bt274.1.length : Int) != (bt278.1.length : Int))) else (lombardlaw28_MarginLacks.j1 kj5 bt274.1 bt278.1 true)) else (lombardlaw28_MarginLacks.j1 kj5 bt274.1 bt278.1 true)) else (lombardlaw28_MarginLacks.j1 kj5 bt274.1 bt278.1 true))))) = some r := H
        have A13 := Aside0.mk A130
        clear A130
        replace H := Option.bind_eq_some_iff.mp H
        obtain ⟨t271, A140, H⟩ := H
        replace H : ((margin_Calls.f kj5 t271 a1 a2 l3).bind fun bt274 => ((lombardref28_Calls.f kj5 l0 a1 a2 l3).bind fun bt278 => (if t267 = t269 then (if t268 = t270 then (if bt274.2 = bt278.2 then (lombardlaw28_MarginLacks.j1 kj5 bt274.1 bt278.1 ((bt274.1.length : Int) != (bt278.1.length : Int))) else (lombardlaw28_MarginLacks.j1 kj5 bt274.1 bt278.1 true)) else (lombardlaw28_MarginLacks.j1 kj5 bt274.1 bt278.1 true)) else (lombardlaw28_MarginLacks.j1 kj5 bt274.1 bt278.1 true)))) = some r := H
        have A14 := Aside0.mk A140
        clear A140
        replace H := Option.bind_eq_some_iff.mp H
        obtain ⟨⟨t274, t277⟩, A150, H⟩ := H
        replace H : ((lombardref28_Calls.f kj5 l0 a1 a2 l3).bind fun bt278 => (if t267 = t269 then (if t268 = t270 then (if t277 = bt278.2 then (lombardlaw28_MarginLacks.j1 kj5 t274 bt278.1 ((t274.length : Int) != (bt278.1.length : Int))) else (lombardlaw28_MarginLacks.j1 kj5 t274 bt278.1 true)) else (lombardlaw28_MarginLacks.j1 kj5 t274 bt278.1 true)) else (lombardlaw28_MarginLacks.j1 kj5 t274 bt278.1 true))) = some r := H
        have A15 := Aside0.mk A150
        clear A150
        replace H := Option.bind_eq_some_iff.mp H
        obtain ⟨⟨t278, t279⟩, A160, H⟩ := H
        replace H : (if t267 = t269 then (if t268 = t270 then (if t277 = t279 then (lombardlaw28_MarginLacks.j1 kj5 t274 t278 ((t274.length : Int) != (t278.length : Int))) else (lombardlaw28_MarginLacks.j1 kj5 t274 t278 true)) else (lombardlaw28_MarginLacks.j1 kj5 t274 t278 true)) else (lombardlaw28_MarginLacks.j1 kj5 t274 t278 true)) = some r := H
        have A16 := Aside0.mk A160
        clear A160
        have HC17 := Aside0.mk H
        clear H
        go_upto_region 7 with (first | (go_at_call 10; (with_reducible refine (lombardlaw28_marks.calls kj5 (fun k_ => k_ < w.heap.size) _ _ l0 t264 _ ?side1 A11.out).mono ?_); (case side1 => exact Kd.V_mk HC0.out (Kd.F_below (Kd.C_F k53_heap HR0.out) (by repeat (first | (with_reducible first | exact HB.out | apply below_alloc | apply pw_below_drewN | apply below_drew1) | exact HB.out)))); rintro e w18 ⟨v265, rfl, ho0, hb⟩; (try clear A11); have n0_ := Aside0.mk (Kd.N_lower (Kd.N_mono (ok' := fun k_ => True) ho0 (fun k_ hk_ => trivial)) (below_size (by repeat (first | (with_reducible first | exact HB.out | apply below_alloc | apply pw_below_drewN | apply below_drew1) | exact HB.out)))); have n1_ := Aside0.mk (below_step (by repeat (first | (with_reducible first | exact HB.out | apply below_alloc | apply pw_below_drewN | apply below_drew1) | exact HB.out)) hb); clear HB; have HO266 := n0_; have HB := n1_; clear n0_ n1_; (try clear hb); (try clear hb2); (try clear hk); (try clear hi); (try clear ho0); obtain ⟨Ao19, co19, eo19⟩ := Kd.N_slice HO266.out; subst eo19) | (go_at_call 9; (with_reducible refine (margin_Lack.calls kj5 _ _ t264 a4 t267 t268 _ ?side1 ?side2 A12.out).mono ?_); (case side1 => repeat (first | exact (Kd.N_reads' HO266.out).2.2 | (with_reducible refine Kd.C_alloc ?_ _) | (with_reducible refine Kd.C_drewN ?_ _) | (with_reducible refine Kd.C_drew ?_))); (case side2 => exact (Kd.N_reads' HO266.out).2.1); rintro e w20 ⟨rfl, hb⟩; (try clear A12); have n0_ := Aside0.mk (Kd.N_below (by (with_reducible repeat (first | apply Kd.N_alloc | apply Kd.N_drewN | apply Kd.N_drew)); exact HO266.out) hb); have n1_ := Aside0.mk (below_step (by repeat (first | (with_reducible first | exact HB.out | apply below_alloc | apply pw_below_drewN | apply below_drew1) | exact HB.out)) hb); clear HO266; clear HB; have HO266 := n0_; have HB := n1_; clear n0_ n1_; (try clear hb); (try clear hb2); (try clear hk); (try clear hi)) | (go_at_call 11; (with_reducible refine (lombardref28_Lack.calls kj5 _ _ l0 a4 t269 t270 _ ?side1 ?side2 A13.out).mono ?_); (case side1 => repeat (first | exact (Kd.C_below HR0.out HB.out) | (with_reducible refine Kd.C_alloc ?_ _) | (with_reducible refine Kd.C_drewN ?_ _) | (with_reducible refine Kd.C_drew ?_))); (case side2 => exact HC0.out); rintro e w21 ⟨rfl, hb⟩; (try clear A13); have n0_ := Aside0.mk (Kd.N_below (by (with_reducible repeat (first | apply Kd.N_alloc | apply Kd.N_drewN | apply Kd.N_drew)); exact HO266.out) hb); have n1_ := Aside0.mk (below_step (by repeat (first | (with_reducible first | exact HB.out | apply below_alloc | apply pw_below_drewN | apply below_drew1) | exact HB.out)) hb); clear HO266; clear HB; have HO266 := n0_; have HB := n1_; clear n0_ n1_; (try clear hb); (try clear hb2); (try clear hk); (try clear hi)) | (go_at_call 10; (with_reducible refine (lombardlaw28_marks.calls kj5 (fun k_ => k_ < w.heap.size) _ _ l0 t271 _ ?side1 A14.out).mono ?_); (case side1 => exact Kd.V_mk HC0.out (Kd.F_below (Kd.C_F k53_heap HR0.out) (by repeat (first | (with_reducible first | exact HB.out | apply below_alloc | apply pw_below_drewN | apply below_drew1) | exact HB.out)))); rintro e w22 ⟨v272, rfl, ho0, hb⟩; (try clear A14); have n0_ := Aside0.mk (Kd.N_elder' (by (with_reducible repeat (first | apply Kd.N_alloc | apply Kd.N_drewN | apply Kd.N_drew)); exact HO266.out) (by first | exact Kd.N_base ho0 | exact Kd.S_base ho0 | exact Kd.R_base ho0) hb); have n1_ := Aside0.mk (Kd.N_lower (Kd.N_mono (ok' := fun k_ => some k_ ≠ (.slice Ao19 t264.length co19 : Value).ownBlock) ho0 (fun k_ hk_ => Or.elim hk_ (fun hs_ => fun e_ => Nat.not_le.2 hs_ (Kd.N_base HO266.out k_ e_.symm)) (fun hn_ => (Kd.fresh' (Kd.N_lt (by (with_reducible repeat (first | apply Kd.N_alloc | apply Kd.N_drewN | apply Kd.N_drew)); exact HO266.out)) k_ hn_)))) (below_size (by repeat (first | (with_reducible first | exact HB.out | apply below_alloc | apply pw_below_drewN | apply below_drew1) | exact HB.out)))); have n2_ := Aside0.mk (below_step (by repeat (first | (with_reducible first | exact HB.out | apply below_alloc | apply pw_below_drewN | apply below_drew1) | exact HB.out)) hb); clear HO266; clear HB; have HO266 := n0_; have HO273 := n1_; have HB := n2_; clear n0_ n1_ n2_; (try clear hb); (try clear hb2); (try clear hk); (try clear hi); (try clear ho0); obtain ⟨Ao23, co23, eo23⟩ := Kd.N_slice HO273.out; subst eo23) | (go_at_call 12; (with_reducible refine (margin_Calls.calls kj5 _ _ t271 a1 a2 _ _ l3 t274 t277 _ ?side1 ?side2 ?side3 ?side4 A15.out).mono ?_); (case side1 => repeat (first | exact (Kd.N_reads' HO273.out).2.2 | (with_reducible refine Kd.C_alloc ?_ _) | (with_reducible refine Kd.C_drewN ?_ _) | (with_reducible refine Kd.C_drew ?_))); (case side2 => exact (Kd.N_reads' HO273.out).2.1); (case side3 => repeat (first | exact (Kd.C_below HR3.out HB.out) | (with_reducible refine Kd.C_alloc ?_ _) | (with_reducible refine Kd.C_drewN ?_ _) | (with_reducible refine Kd.C_drew ?_))); (case side4 => exact HC3.out); rintro e w24 ⟨v275, rfl, ho0, hb⟩; (try clear A15); have n0_ := Aside0.mk (Kd.N_elder' (by (with_reducible repeat (first | apply Kd.N_alloc | apply Kd.N_drewN | apply Kd.N_drew)); exact HO266.out) (by first | exact Kd.N_base ho0 | exact Kd.S_base ho0 | exact Kd.R_base ho0) hb); have n1_ := Aside0.mk (Kd.N_elder' (by (with_reducible repeat (first | apply Kd.N_alloc | apply Kd.N_drewN | apply Kd.N_drew)); exact HO273.out) (by first | exact Kd.N_base ho0 | exact Kd.S_base ho0 | exact Kd.R_base ho0) hb); have n2_ := Aside0.mk (Kd.N_lower (Kd.N_mono (ok' := fun k_ => some k_ ≠ (.slice Ao19 t264.length co19 : Value).ownBlock ∧ some k_ ≠ (.slice Ao23 t271.length co23 : Value).ownBlock) (Kd.S_N (Kd.S_bound ho0)) (fun k_ hk_ => ⟨(Kd.fresh' (Kd.N_lt (by (with_reducible repeat (first | apply Kd.N_alloc | apply Kd.N_drewN | apply Kd.N_drew)); exact HO266.out)) k_ hk_.2.1), (Kd.fresh' (Kd.N_lt (by (with_reducible repeat (first | apply Kd.N_alloc | apply Kd.N_drewN | apply Kd.N_drew)); exact HO273.out)) k_ hk_.2.1)⟩)) (below_size (by repeat (first | (with_reducible first | exact HB.out | apply below_alloc | apply pw_below_drewN | apply below_drew1) | exact HB.out)))); have n3_ := Aside0.mk (below_step (by repeat (first | (with_reducible first | exact HB.out | apply below_alloc | apply pw_below_drewN | apply below_drew1) | exact HB.out)) hb); clear HO266; clear HO273; clear HB; have HO266 := n0_; have HO273 := n1_; have HO276 := n2_; have HB := n3_; clear n0_ n1_ n2_ n3_; (try clear hb); (try clear hb2); (try clear hk); (try clear hi); (try clear ho0)) | (go_at_call 13; (with_reducible refine (lombardref28_Calls.calls kj5 _ _ l0 a1 a2 _ _ l3 t278 t279 _ ?side1 ?side2 ?side3 ?side4 A16.out).mono ?_); (case side1 => repeat (first | exact (Kd.C_below HR0.out HB.out) | (with_reducible refine Kd.C_alloc ?_ _) | (with_reducible refine Kd.C_drewN ?_ _) | (with_reducible refine Kd.C_drew ?_))); (case side2 => exact HC0.out); (case side3 => repeat (first | exact (Kd.C_below HR3.out HB.out) | (with_reducible refine Kd.C_alloc ?_ _) | (with_reducible refine Kd.C_drewN ?_ _) | (with_reducible refine Kd.C_drew ?_))); (case side4 => exact HC3.out); rintro e w25 ⟨v280, rfl, ho0, hb⟩; (try clear A16); have n0_ := Aside0.mk (Kd.N_elder' (by (with_reducible repeat (first | apply Kd.N_alloc | apply Kd.N_drewN | apply Kd.N_drew)); exact HO266.out) (Kd.R_base ho0) hb); have n1_ := Aside0.mk (Kd.N_elder' (by (with_reducible repeat (first | apply Kd.N_alloc | apply Kd.N_drewN | apply Kd.N_drew)); exact HO273.out) (Kd.R_base ho0) hb); have n2_ := Aside0.mk (Kd.N_elder' (by (with_reducible repeat (first | apply Kd.N_alloc | apply Kd.N_drewN | apply Kd.N_drew)); exact HO276.out) (Kd.R_base ho0) hb); have n3_ := Aside0.mk (Kd.R_lower ho0 (below_size (by repeat (first | (with_reducible first | exact HB.out | apply below_alloc | apply pw_below_drewN | apply below_drew1) | exact HB.out)))); have n4_ := Aside0.mk (below_step (by repeat (first | (with_reducible first | exact HB.out | apply below_alloc | apply pw_below_drewN | apply below_drew1) | exact HB.out)) hb); clear HO266; clear HO273; clear HO276; clear HB; have HO266 := n0_; have HO273 := n1_; have HO276 := n2_; have HO281 := n3_; have HB := n4_; clear n0_ n1_ n2_ n3_ n4_; (try clear hb); (try clear hb2); (try clear hk); (try clear hi); (try clear ho0)))
        repeat (go_quiet (first | (go_at_call 10; (with_reducible refine (lombardlaw28_marks.calls kj5 (fun k_ => k_ < w.heap.size) _ _ l0 t264 _ ?side1 A11.out).mono ?_); (case side1 => exact Kd.V_mk HC0.out (Kd.F_below (Kd.C_F k53_heap HR0.out) (by repeat (first | (with_reducible first | exact HB.out | apply below_alloc | apply pw_below_drewN | apply below_drew1) | exact HB.out)))); rintro e w18 ⟨v265, rfl, ho0, hb⟩; (try clear A11); have n0_ := Aside0.mk (Kd.N_lower (Kd.N_mono (ok' := fun k_ => True) ho0 (fun k_ hk_ => trivial)) (below_size (by repeat (first | (with_reducible first | exact HB.out | apply below_alloc | apply pw_below_drewN | apply below_drew1) | exact HB.out)))); have n1_ := Aside0.mk (below_step (by repeat (first | (with_reducible first | exact HB.out | apply below_alloc | apply pw_below_drewN | apply below_drew1) | exact HB.out)) hb); clear HB; have HO266 := n0_; have HB := n1_; clear n0_ n1_; (try clear hb); (try clear hb2); (try clear hk); (try clear hi); (try clear ho0); obtain ⟨Ao19, co19, eo19⟩ := Kd.N_slice HO266.out; subst eo19) | (go_at_call 9; (with_reducible refine (margin_Lack.calls kj5 _ _ t264 a4 t267 t268 _ ?side1 ?side2 A12.out).mono ?_); (case side1 => repeat (first | exact (Kd.N_reads' HO266.out).2.2 | (with_reducible refine Kd.C_alloc ?_ _) | (with_reducible refine Kd.C_drewN ?_ _) | (with_reducible refine Kd.C_drew ?_))); (case side2 => exact (Kd.N_reads' HO266.out).2.1); rintro e w20 ⟨rfl, hb⟩; (try clear A12); have n0_ := Aside0.mk (Kd.N_below (by (with_reducible repeat (first | apply Kd.N_alloc | apply Kd.N_drewN | apply Kd.N_drew)); exact HO266.out) hb); have n1_ := Aside0.mk (below_step (by repeat (first | (with_reducible first | exact HB.out | apply below_alloc | apply pw_below_drewN | apply below_drew1) | exact HB.out)) hb); clear HO266; clear HB; have HO266 := n0_; have HB := n1_; clear n0_ n1_; (try clear hb); (try clear hb2); (try clear hk); (try clear hi)) | (go_at_call 11; (with_reducible refine (lombardref28_Lack.calls kj5 _ _ l0 a4 t269 t270 _ ?side1 ?side2 A13.out).mono ?_); (case side1 => repeat (first | exact (Kd.C_below HR0.out HB.out) | (with_reducible refine Kd.C_alloc ?_ _) | (with_reducible refine Kd.C_drewN ?_ _) | (with_reducible refine Kd.C_drew ?_))); (case side2 => exact HC0.out); rintro e w21 ⟨rfl, hb⟩; (try clear A13); have n0_ := Aside0.mk (Kd.N_below (by (with_reducible repeat (first | apply Kd.N_alloc | apply Kd.N_drewN | apply Kd.N_drew)); exact HO266.out) hb); have n1_ := Aside0.mk (below_step (by repeat (first | (with_reducible first | exact HB.out | apply below_alloc | apply pw_below_drewN | apply below_drew1) | exact HB.out)) hb); clear HO266; clear HB; have HO266 := n0_; have HB := n1_; clear n0_ n1_; (try clear hb); (try clear hb2); (try clear hk); (try clear hi)) | (go_at_call 10; (with_reducible refine (lombardlaw28_marks.calls kj5 (fun k_ => k_ < w.heap.size) _ _ l0 t271 _ ?side1 A14.out).mono ?_); (case side1 => exact Kd.V_mk HC0.out (Kd.F_below (Kd.C_F k53_heap HR0.out) (by repeat (first | (with_reducible first | exact HB.out | apply below_alloc | apply pw_below_drewN | apply below_drew1) | exact HB.out)))); rintro e w22 ⟨v272, rfl, ho0, hb⟩; (try clear A14); have n0_ := Aside0.mk (Kd.N_elder' (by (with_reducible repeat (first | apply Kd.N_alloc | apply Kd.N_drewN | apply Kd.N_drew)); exact HO266.out) (by first | exact Kd.N_base ho0 | exact Kd.S_base ho0 | exact Kd.R_base ho0) hb); have n1_ := Aside0.mk (Kd.N_lower (Kd.N_mono (ok' := fun k_ => some k_ ≠ (.slice Ao19 t264.length co19 : Value).ownBlock) ho0 (fun k_ hk_ => Or.elim hk_ (fun hs_ => fun e_ => Nat.not_le.2 hs_ (Kd.N_base HO266.out k_ e_.symm)) (fun hn_ => (Kd.fresh' (Kd.N_lt (by (with_reducible repeat (first | apply Kd.N_alloc | apply Kd.N_drewN | apply Kd.N_drew)); exact HO266.out)) k_ hn_)))) (below_size (by repeat (first | (with_reducible first | exact HB.out | apply below_alloc | apply pw_below_drewN | apply below_drew1) | exact HB.out)))); have n2_ := Aside0.mk (below_step (by repeat (first | (with_reducible first | exact HB.out | apply below_alloc | apply pw_below_drewN | apply below_drew1) | exact HB.out)) hb); clear HO266; clear HB; have HO266 := n0_; have HO273 := n1_; have HB := n2_; clear n0_ n1_ n2_; (try clear hb); (try clear hb2); (try clear hk); (try clear hi); (try clear ho0); obtain ⟨Ao23, co23, eo23⟩ := Kd.N_slice HO273.out; subst eo23) | (go_at_call 12; (with_reducible refine (margin_Calls.calls kj5 _ _ t271 a1 a2 _ _ l3 t274 t277 _ ?side1 ?side2 ?side3 ?side4 A15.out).mono ?_); (case side1 => repeat (first | exact (Kd.N_reads' HO273.out).2.2 | (with_reducible refine Kd.C_alloc ?_ _) | (with_reducible refine Kd.C_drewN ?_ _) | (with_reducible refine Kd.C_drew ?_))); (case side2 => exact (Kd.N_reads' HO273.out).2.1); (case side3 => repeat (first | exact (Kd.C_below HR3.out HB.out) | (with_reducible refine Kd.C_alloc ?_ _) | (with_reducible refine Kd.C_drewN ?_ _) | (with_reducible refine Kd.C_drew ?_))); (case side4 => exact HC3.out); rintro e w24 ⟨v275, rfl, ho0, hb⟩; (try clear A15); have n0_ := Aside0.mk (Kd.N_elder' (by (with_reducible repeat (first | apply Kd.N_alloc | apply Kd.N_drewN | apply Kd.N_drew)); exact HO266.out) (by first | exact Kd.N_base ho0 | exact Kd.S_base ho0 | exact Kd.R_base ho0) hb); have n1_ := Aside0.mk (Kd.N_elder' (by (with_reducible repeat (first | apply Kd.N_alloc | apply Kd.N_drewN | apply Kd.N_drew)); exact HO273.out) (by first | exact Kd.N_base ho0 | exact Kd.S_base ho0 | exact Kd.R_base ho0) hb); have n2_ := Aside0.mk (Kd.N_lower (Kd.N_mono (ok' := fun k_ => some k_ ≠ (.slice Ao19 t264.length co19 : Value).ownBlock ∧ some k_ ≠ (.slice Ao23 t271.length co23 : Value).ownBlock) (Kd.S_N (Kd.S_bound ho0)) (fun k_ hk_ => ⟨(Kd.fresh' (Kd.N_lt (by (with_reducible repeat (first | apply Kd.N_alloc | apply Kd.N_drewN | apply Kd.N_drew)); exact HO266.out)) k_ hk_.2.1), (Kd.fresh' (Kd.N_lt (by (with_reducible repeat (first | apply Kd.N_alloc | apply Kd.N_drewN | apply Kd.N_drew)); exact HO273.out)) k_ hk_.2.1)⟩)) (below_size (by repeat (first | (with_reducible first | exact HB.out | apply below_alloc | apply pw_below_drewN | apply below_drew1) | exact HB.out)))); have n3_ := Aside0.mk (below_step (by repeat (first | (with_reducible first | exact HB.out | apply below_alloc | apply pw_below_drewN | apply below_drew1) | exact HB.out)) hb); clear HO266; clear HO273; clear HB; have HO266 := n0_; have HO273 := n1_; have HO276 := n2_; have HB := n3_; clear n0_ n1_ n2_ n3_; (try clear hb); (try clear hb2); (try clear hk); (try clear hi); (try clear ho0)) | (go_at_call 13; (with_reducible refine (lombardref28_Calls.calls kj5 _ _ l0 a1 a2 _ _ l3 t278 t279 _ ?side1 ?side2 ?side3 ?side4 A16.out).mono ?_); (case side1 => repeat (first | exact (Kd.C_below HR0.out HB.out) | (with_reducible refine Kd.C_alloc ?_ _) | (with_reducible refine Kd.C_drewN ?_ _) | (with_reducible refine Kd.C_drew ?_))); (case side2 => exact HC0.out); (case side3 => repeat (first | exact (Kd.C_below HR3.out HB.out) | (with_reducible refine Kd.C_alloc ?_ _) | (with_reducible refine Kd.C_drewN ?_ _) | (with_reducible refine Kd.C_drew ?_))); (case side4 => exact HC3.out); rintro e w25 ⟨v280, rfl, ho0, hb⟩; (try clear A16); have n0_ := Aside0.mk (Kd.N_elder' (by (with_reducible repeat (first | apply Kd.N_alloc | apply Kd.N_drewN | apply Kd.N_drew)); exact HO266.out) (Kd.R_base ho0) hb); have n1_ := Aside0.mk (Kd.N_elder' (by (with_reducible repeat (first | apply Kd.N_alloc | apply Kd.N_drewN | apply Kd.N_drew)); exact HO273.out) (Kd.R_base ho0) hb); have n2_ := Aside0.mk (Kd.N_elder' (by (with_reducible repeat (first | apply Kd.N_alloc | apply Kd.N_drewN | apply Kd.N_drew)); exact HO276.out) (Kd.R_base ho0) hb); have n3_ := Aside0.mk (Kd.R_lower ho0 (below_size (by repeat (first | (with_reducible first | exact HB.out | apply below_alloc | apply pw_below_drewN | apply below_drew1) | exact HB.out)))); have n4_ := Aside0.mk (below_step (by repeat (first | (with_reducible first | exact HB.out | apply below_alloc | apply pw_below_drewN | apply below_drew1) | exact HB.out)) hb); clear HO266; clear HO273; clear HO276; clear HB; have HO266 := n0_; have HO273 := n1_; have HO276 := n2_; have HO281 := n3_; have HB := n4_; clear n0_ n1_ n2_ n3_ n4_; (try clear hb); (try clear hb2); (try clear hk); (try clear hi); (try clear ho0))); go_upto_region 7 with (first | (go_at_call 10; (with_reducible refine (lombardlaw28_marks.calls kj5 (fun k_ => k_ < w.heap.size) _ _ l0 t264 _ ?side1 A11.out).mono ?_); (case side1 => exact Kd.V_mk HC0.out (Kd.F_below (Kd.C_F k53_heap HR0.out) (by repeat (first | (with_reducible first | exact HB.out | apply below_alloc | apply pw_below_drewN | apply below_drew1) | exact HB.out)))); rintro e w18 ⟨v265, rfl, ho0, hb⟩; (try clear A11); have n0_ := Aside0.mk (Kd.N_lower (Kd.N_mono (ok' := fun k_ => True) ho0 (fun k_ hk_ => trivial)) (below_size (by repeat (first | (with_reducible first | exact HB.out | apply below_alloc | apply pw_below_drewN | apply below_drew1) | exact HB.out)))); have n1_ := Aside0.mk (below_step (by repeat (first | (with_reducible first | exact HB.out | apply below_alloc | apply pw_below_drewN | apply below_drew1) | exact HB.out)) hb); clear HB; have HO266 := n0_; have HB := n1_; clear n0_ n1_; (try clear hb); (try clear hb2); (try clear hk); (try clear hi); (try clear ho0); obtain ⟨Ao19, co19, eo19⟩ := Kd.N_slice HO266.out; subst eo19) | (go_at_call 9; (with_reducible refine (margin_Lack.calls kj5 _ _ t264 a4 t267 t268 _ ?side1 ?side2 A12.out).mono ?_); (case side1 => repeat (first | exact (Kd.N_reads' HO266.out).2.2 | (with_reducible refine Kd.C_alloc ?_ _) | (with_reducible refine Kd.C_drewN ?_ _) | (with_reducible refine Kd.C_drew ?_))); (case side2 => exact (Kd.N_reads' HO266.out).2.1); rintro e w20 ⟨rfl, hb⟩; (try clear A12); have n0_ := Aside0.mk (Kd.N_below (by (with_reducible repeat (first | apply Kd.N_alloc | apply Kd.N_drewN | apply Kd.N_drew)); exact HO266.out) hb); have n1_ := Aside0.mk (below_step (by repeat (first | (with_reducible first | exact HB.out | apply below_alloc | apply pw_below_drewN | apply below_drew1) | exact HB.out)) hb); clear HO266; clear HB; have HO266 := n0_; have HB := n1_; clear n0_ n1_; (try clear hb); (try clear hb2); (try clear hk); (try clear hi)) | (go_at_call 11; (with_reducible refine (lombardref28_Lack.calls kj5 _ _ l0 a4 t269 t270 _ ?side1 ?side2 A13.out).mono ?_); (case side1 => repeat (first | exact (Kd.C_below HR0.out HB.out) | (with_reducible refine Kd.C_alloc ?_ _) | (with_reducible refine Kd.C_drewN ?_ _) | (with_reducible refine Kd.C_drew ?_))); (case side2 => exact HC0.out); rintro e w21 ⟨rfl, hb⟩; (try clear A13); have n0_ := Aside0.mk (Kd.N_below (by (with_reducible repeat (first | apply Kd.N_alloc | apply Kd.N_drewN | apply Kd.N_drew)); exact HO266.out) hb); have n1_ := Aside0.mk (below_step (by repeat (first | (with_reducible first | exact HB.out | apply below_alloc | apply pw_below_drewN | apply below_drew1) | exact HB.out)) hb); clear HO266; clear HB; have HO266 := n0_; have HB := n1_; clear n0_ n1_; (try clear hb); (try clear hb2); (try clear hk); (try clear hi)) | (go_at_call 10; (with_reducible refine (lombardlaw28_marks.calls kj5 (fun k_ => k_ < w.heap.size) _ _ l0 t271 _ ?side1 A14.out).mono ?_); (case side1 => exact Kd.V_mk HC0.out (Kd.F_below (Kd.C_F k53_heap HR0.out) (by repeat (first | (with_reducible first | exact HB.out | apply below_alloc | apply pw_below_drewN | apply below_drew1) | exact HB.out)))); rintro e w22 ⟨v272, rfl, ho0, hb⟩; (try clear A14); have n0_ := Aside0.mk (Kd.N_elder' (by (with_reducible repeat (first | apply Kd.N_alloc | apply Kd.N_drewN | apply Kd.N_drew)); exact HO266.out) (by first | exact Kd.N_base ho0 | exact Kd.S_base ho0 | exact Kd.R_base ho0) hb); have n1_ := Aside0.mk (Kd.N_lower (Kd.N_mono (ok' := fun k_ => some k_ ≠ (.slice Ao19 t264.length co19 : Value).ownBlock) ho0 (fun k_ hk_ => Or.elim hk_ (fun hs_ => fun e_ => Nat.not_le.2 hs_ (Kd.N_base HO266.out k_ e_.symm)) (fun hn_ => (Kd.fresh' (Kd.N_lt (by (with_reducible repeat (first | apply Kd.N_alloc | apply Kd.N_drewN | apply Kd.N_drew)); exact HO266.out)) k_ hn_)))) (below_size (by repeat (first | (with_reducible first | exact HB.out | apply below_alloc | apply pw_below_drewN | apply below_drew1) | exact HB.out)))); have n2_ := Aside0.mk (below_step (by repeat (first | (with_reducible first | exact HB.out | apply below_alloc | apply pw_below_drewN | apply below_drew1) | exact HB.out)) hb); clear HO266; clear HB; have HO266 := n0_; have HO273 := n1_; have HB := n2_; clear n0_ n1_ n2_; (try clear hb); (try clear hb2); (try clear hk); (try clear hi); (try clear ho0); obtain ⟨Ao23, co23, eo23⟩ := Kd.N_slice HO273.out; subst eo23) | (go_at_call 12; (with_reducible refine (margin_Calls.calls kj5 _ _ t271 a1 a2 _ _ l3 t274 t277 _ ?side1 ?side2 ?side3 ?side4 A15.out).mono ?_); (case side1 => repeat (first | exact (Kd.N_reads' HO273.out).2.2 | (with_reducible refine Kd.C_alloc ?_ _) | (with_reducible refine Kd.C_drewN ?_ _) | (with_reducible refine Kd.C_drew ?_))); (case side2 => exact (Kd.N_reads' HO273.out).2.1); (case side3 => repeat (first | exact (Kd.C_below HR3.out HB.out) | (with_reducible refine Kd.C_alloc ?_ _) | (with_reducible refine Kd.C_drewN ?_ _) | (with_reducible refine Kd.C_drew ?_))); (case side4 => exact HC3.out); rintro e w24 ⟨v275, rfl, ho0, hb⟩; (try clear A15); have n0_ := Aside0.mk (Kd.N_elder' (by (with_reducible repeat (first | apply Kd.N_alloc | apply Kd.N_drewN | apply Kd.N_drew)); exact HO266.out) (by first | exact Kd.N_base ho0 | exact Kd.S_base ho0 | exact Kd.R_base ho0) hb); have n1_ := Aside0.mk (Kd.N_elder' (by (with_reducible repeat (first | apply Kd.N_alloc | apply Kd.N_drewN | apply Kd.N_drew)); exact HO273.out) (by first | exact Kd.N_base ho0 | exact Kd.S_base ho0 | exact Kd.R_base ho0) hb); have n2_ := Aside0.mk (Kd.N_lower (Kd.N_mono (ok' := fun k_ => some k_ ≠ (.slice Ao19 t264.length co19 : Value).ownBlock ∧ some k_ ≠ (.slice Ao23 t271.length co23 : Value).ownBlock) (Kd.S_N (Kd.S_bound ho0)) (fun k_ hk_ => ⟨(Kd.fresh' (Kd.N_lt (by (with_reducible repeat (first | apply Kd.N_alloc | apply Kd.N_drewN | apply Kd.N_drew)); exact HO266.out)) k_ hk_.2.1), (Kd.fresh' (Kd.N_lt (by (with_reducible repeat (first | apply Kd.N_alloc | apply Kd.N_drewN | apply Kd.N_drew)); exact HO273.out)) k_ hk_.2.1)⟩)) (below_size (by repeat (first | (with_reducible first | exact HB.out | apply below_alloc | apply pw_below_drewN | apply below_drew1) | exact HB.out)))); have n3_ := Aside0.mk (below_step (by repeat (first | (with_reducible first | exact HB.out | apply below_alloc | apply pw_below_drewN | apply below_drew1) | exact HB.out)) hb); clear HO266; clear HO273; clear HB; have HO266 := n0_; have HO273 := n1_; have HO276 := n2_; have HB := n3_; clear n0_ n1_ n2_ n3_; (try clear hb); (try clear hb2); (try clear hk); (try clear hi); (try clear ho0)) | (go_at_call 13; (with_reducible refine (lombardref28_Calls.calls kj5 _ _ l0 a1 a2 _ _ l3 t278 t279 _ ?side1 ?side2 ?side3 ?side4 A16.out).mono ?_); (case side1 => repeat (first | exact (Kd.C_below HR0.out HB.out) | (with_reducible refine Kd.C_alloc ?_ _) | (with_reducible refine Kd.C_drewN ?_ _) | (with_reducible refine Kd.C_drew ?_))); (case side2 => exact HC0.out); (case side3 => repeat (first | exact (Kd.C_below HR3.out HB.out) | (with_reducible refine Kd.C_alloc ?_ _) | (with_reducible refine Kd.C_drewN ?_ _) | (with_reducible refine Kd.C_drew ?_))); (case side4 => exact HC3.out); rintro e w25 ⟨v280, rfl, ho0, hb⟩; (try clear A16); have n0_ := Aside0.mk (Kd.N_elder' (by (with_reducible repeat (first | apply Kd.N_alloc | apply Kd.N_drewN | apply Kd.N_drew)); exact HO266.out) (Kd.R_base ho0) hb); have n1_ := Aside0.mk (Kd.N_elder' (by (with_reducible repeat (first | apply Kd.N_alloc | apply Kd.N_drewN | apply Kd.N_drew)); exact HO273.out) (Kd.R_base ho0) hb); have n2_ := Aside0.mk (Kd.N_elder' (by (with_reducible repeat (first | apply Kd.N_alloc | apply Kd.N_drewN | apply Kd.N_drew)); exact HO276.out) (Kd.R_base ho0) hb); have n3_ := Aside0.mk (Kd.R_lower ho0 (below_size (by repeat (first | (with_reducible first | exact HB.out | apply below_alloc | apply pw_below_drewN | apply below_drew1) | exact HB.out)))); have n4_ := Aside0.mk (below_step (by repeat (first | (with_reducible first | exact HB.out | apply below_alloc | apply pw_below_drewN | apply below_drew1) | exact HB.out)) hb); clear HO266; clear HO273; clear HO276; clear HB; have HO266 := n0_; have HO273 := n1_; have HO276 := n2_; have HO281 := n3_; have HB := n4_; clear n0_ n1_ n2_ n3_ n4_; (try clear hb); (try clear hb2); (try clear hk); (try clear hi); (try clear ho0))))
        (try simp only [Act.put, List.setIfInBounds_toArray, List.set_cons_zero, List.set_cons_succ])
        go_cut [79] (fun v79 wc => ∃ (kq : Nat) (x79_16 : Bool), v79 = .bool x79_16 ∧ Aside0 (lombardlaw28_MarginLacks.j1 kq t274 t278 x79_16 = some r) ∧ Aside0 (kq ≤ kj5) ∧ Aside0 (Kd.N k44 44 wc w.heap.size (fun k_ => some k_ ≠ (v280 : Value).ownBlock) v275 t274) ∧ Aside0 (Kd.R k46 46 wc w.heap.size (fun _ => True) v280 t278) ∧ Aside0 (Below w.heap.size w wc))
        case first =>
          have H := HC17.out
          clear HC17
          by_cases c26 : t267 = t269
          · rw [if_pos c26] at H
            have c26b0 : (t267 == t269) = true := beq_iff_eq.mpr c26
            have c26b1 : (t267 != t269) = false := bne_eq_false_iff_eq.mpr c26
            clear c26
            (first | rw [c26b0] | (simp only [i64_w, i32_w]; rw [c26b0]) | skip)
            by_cases c27 : t268 = t270
            · rw [if_pos c27] at H
              have c27b0 : (t268 == t270) = true := beq_iff_eq.mpr c27
              have c27b1 : (t268 != t270) = false := bne_eq_false_iff_eq.mpr c27
              clear c27
              by_cases c28 : t277 = t279
              · rw [if_pos c28] at H
                have c28b0 : (t277 == t279) = true := beq_iff_eq.mpr c28
                have c28b1 : (t277 != t279) = false := bne_eq_false_iff_eq.mpr c28
                clear c28
                have H' := Aside0.mk H
                clear H
                obtain ⟨Ao29, co29, eo29⟩ := Kd.N_slice HO276.out
                subst eo29
                obtain ⟨Ao30, co30, eo30⟩ := Kd.R_slice HO281.out
                subst eo30
                go_wp2
                repeat (go_quiet (fail); try go_wp2)
                go_meet
                case rel => exact ⟨_, (((t274.length : Int) != (t278.length : Int))), (by first | rfl | (simp; done) | (simp [*]; done)), H', ⟨by have := HJ5.out; first | omega | exact Nat.le_refl _⟩, ⟨by (with_reducible repeat (first | apply Kd.N_alloc | apply Kd.N_drewN | apply Kd.N_drew)); exact Kd.N_mono HO276.out (fun _ hk => hk.2)⟩, ⟨by (with_reducible repeat (first | apply Kd.R_alloc | apply Kd.R_drewN | apply Kd.R_drew)); exact HO281.out⟩, ⟨by repeat (first | (with_reducible first | exact HB.out | apply below_alloc | apply pw_below_drewN | apply below_drew1) | exact HB.out)⟩⟩
              · rw [if_neg c28] at H
                have c28b0 : (t277 == t279) = false := beq_eq_false_iff_ne.mpr c28
                have c28b1 : (t277 != t279) = true := bne_iff_ne.mpr c28
                have H' := Aside0.mk H
                clear H
                go_wp2
                repeat (go_quiet (fail); try go_wp2)
                go_meet
                case rel => exact ⟨_, (true), (by first | rfl | (simp; done) | (simp [*]; done)), H', ⟨by have := HJ5.out; first | omega | exact Nat.le_refl _⟩, ⟨by (with_reducible repeat (first | apply Kd.N_alloc | apply Kd.N_drewN | apply Kd.N_drew)); exact Kd.N_mono HO276.out (fun _ hk => hk.2)⟩, ⟨by (with_reducible repeat (first | apply Kd.R_alloc | apply Kd.R_drewN | apply Kd.R_drew)); exact HO281.out⟩, ⟨by repeat (first | (with_reducible first | exact HB.out | apply below_alloc | apply pw_below_drewN | apply below_drew1) | exact HB.out)⟩⟩
            · rw [if_neg c27] at H
              have c27b0 : (t268 == t270) = false := beq_eq_false_iff_ne.mpr c27
              have c27b1 : (t268 != t270) = true := bne_iff_ne.mpr c27
              have H' := Aside0.mk H
              clear H
              go_wp2
              repeat (go_quiet (fail); try go_wp2)
              go_meet
              case rel => exact ⟨_, (true), (by first | rfl | (simp; done) | (simp [*]; done)), H', ⟨by have := HJ5.out; first | omega | exact Nat.le_refl _⟩, ⟨by (with_reducible repeat (first | apply Kd.N_alloc | apply Kd.N_drewN | apply Kd.N_drew)); exact Kd.N_mono HO276.out (fun _ hk => hk.2)⟩, ⟨by (with_reducible repeat (first | apply Kd.R_alloc | apply Kd.R_drewN | apply Kd.R_drew)); exact HO281.out⟩, ⟨by repeat (first | (with_reducible first | exact HB.out | apply below_alloc | apply pw_below_drewN | apply below_drew1) | exact HB.out)⟩⟩
          · rw [if_neg c26] at H
            have c26b0 : (t267 == t269) = false := beq_eq_false_iff_ne.mpr c26
            have c26b1 : (t267 != t269) = true := bne_iff_ne.mpr c26
            (first | rw [c26b0] | (simp only [i64_w, i32_w]; rw [c26b0]) | skip)
            have H' := Aside0.mk H
            clear H
            go_wp2
            repeat (go_quiet (fail); try go_wp2)
            go_meet
            case rel => exact ⟨_, (true), (by first | rfl | (simp; done) | (simp [*]; done)), H', ⟨by have := HJ5.out; first | omega | exact Nat.le_refl _⟩, ⟨by (with_reducible repeat (first | apply Kd.N_alloc | apply Kd.N_drewN | apply Kd.N_drew)); exact Kd.N_mono HO276.out (fun _ hk => hk.2)⟩, ⟨by (with_reducible repeat (first | apply Kd.R_alloc | apply Kd.R_drewN | apply Kd.R_drew)); exact HO281.out⟩, ⟨by repeat (first | (with_reducible first | exact HB.out | apply below_alloc | apply pw_below_drewN | apply below_drew1) | exact HB.out)⟩⟩
        case rest =>
          clear HC17
          try clear c2
          try clear p2
          try clear c3
          try clear c4
          try clear c7
          try clear c7b0
          try clear c7b1
          try clear c8
          try clear c26
          try clear c26b0
          try clear c26b1
          try clear c27
          try clear c27b0
          try clear c27b1
          try clear c28
          try clear c28b0
          try clear c28b1
          try clear p2
          obtain ⟨kq, x79_16, rfl, HA, HJ16, HO_15, HO_17, HB⟩ := hcut
          cases kq with
          | zero => exact absurd HA.out (by simp [lombardlaw28_MarginLacks.j1])
          | succ kj16 =>
            have H := HA.out
            clear HA
            simp only [lombardlaw28_MarginLacks.j1] at H
            by_cases c31 : x79_16 = true
            · subst c31
              have H1 : (some false) = some r := by rw [if_pos rfl] at H; exact H
              clear H
              have H := H1
              clear H1
              obtain rfl := Option.some.inj H
              go_wp2
              repeat (go_quiet (fail); try go_wp2)
              go_ret
              exact ⟨by first | rfl | (simp [errW_none, errW_some] <;> rfl) | (simp [*, errW_none, errW_some] <;> rfl), by repeat (first | (with_reducible first | exact HB.out | apply below_alloc | apply pw_below_drewN | apply below_drew1) | exact HB.out)⟩
            · replace c31 := Bool.eq_false_iff.mpr c31
              subst c31
              have H1 : (lombardlaw28_MarginLacks.l0 kj16 t274 t278 0) = some r := by rw [if_neg (show ¬ (false = true) by decide)] at H; exact H
              clear H
              have H := H1
              clear H1
              have H' := Aside0.mk H
              clear H
              go_wp2
              repeat (go_quiet (fail); try go_wp2)
              go_loopg [19] kj16 (fun kq v19 w' => ∃ (x19_3 : Int), v19 = .int .i64 x19_3 ∧ Aside0 (lombardlaw28_MarginLacks.l0 kq t274 t278 x19_3 = some r) ∧ Aside0 (kq ≤ kj16) ∧ Aside0 (Kd.N k44 44 w' w.heap.size (fun k_ => some k_ ≠ (v280 : Value).ownBlock) v275 t274) ∧ Aside0 (Kd.R k46 46 w' w.heap.size (fun _ => True) v280 t278) ∧ Aside0 (Below w.heap.size w w'))
              case atStart => exact ⟨(0), (by first | rfl | (simp; done) | (simp [*]; done)), H', ⟨Nat.le_refl _⟩, ⟨by (with_reducible repeat (first | apply Kd.N_alloc | apply Kd.N_drewN | apply Kd.N_drew)); exact HO_15.out⟩, ⟨by (with_reducible repeat (first | apply Kd.R_alloc | apply Kd.R_drewN | apply Kd.R_drew)); exact HO_17.out⟩, ⟨by repeat (first | (with_reducible first | exact HB.out | apply below_alloc | apply pw_below_drewN | apply below_drew1) | exact HB.out)⟩⟩
              case round =>
                clear H'
                try clear c2
                try clear p2
                try clear c3
                try clear c4
                try clear c7
                try clear c7b0
                try clear c7b1
                try clear c8
                try clear c26
                try clear c26b0
                try clear c26b1
                try clear c27
                try clear c27b0
                try clear c27b1
                try clear c28
                try clear c28b0
                try clear c28b1
                try clear c31
                try clear p2
                obtain ⟨x19_3, rfl, HA, HK3, HO_15, HO_17, HB⟩ := hrel
                cases gk with
                | zero => exact absurd HA.out (by simp [lombardlaw28_MarginLacks.l0])
                | succ k3 =>
                  have H := HA.out
                  clear HA
                  simp only [lombardlaw28_MarginLacks.l0] at H
                  by_cases c32 : x19_3 < (t278.length : Int)
                  · rw [if_pos c32] at H
                    have c32b0 : decide (x19_3 < (t278.length : Int)) = true := decide_eq_true c32
                    clear c32
                    by_cases c33 : 0 ≤ x19_3
                    · rw [if_pos c33] at H
                      have c33b0 : decide (0 ≤ x19_3) = true := decide_eq_true c33
                      clear c33
                      by_cases c34 : x19_3 < (t274.length : Int)
                      · rw [if_pos c34] at H
                        have c34b0 : decide (x19_3 < (t274.length : Int)) = true := decide_eq_true c34
                        clear c34
                        by_cases c35 : ((rd_T44 t274 x19_3).f1) = ((rd_T46 t278 x19_3).f0)
                        · rw [if_pos c35] at H
                          have c35b0 : (((rd_T44 t274 x19_3).f1) == ((rd_T46 t278 x19_3).f0)) = true := beq_iff_eq.mpr c35
                          have c35b1 : (((rd_T44 t274 x19_3).f1) != ((rd_T46 t278 x19_3).f0)) = false := bne_eq_false_iff_eq.mpr c35
                          clear c35
                          by_cases c36 : ((rd_T44 t274 x19_3).f3) = ((rd_T46 t278 x19_3).f1)
                          · rw [if_pos c36] at H
                            have c36b0 : (((rd_T44 t274 x19_3).f3) == ((rd_T46 t278 x19_3).f1)) = true := beq_iff_eq.mpr c36
                            have c36b1 : (((rd_T44 t274 x19_3).f3) != ((rd_T46 t278 x19_3).f1)) = false := bne_eq_false_iff_eq.mpr c36
                            clear c36
                            by_cases c37 : ((rd_T44 t274 x19_3).f0) = 0
                            · rw [if_pos c37] at H
                              have c37b0 : (((rd_T44 t274 x19_3).f0) == 0) = true := beq_iff_eq.mpr c37
                              have c37b1 : (((rd_T44 t274 x19_3).f0) != 0) = false := bne_eq_false_iff_eq.mpr c37
                              clear c37
                              by_cases c38 : ((rd_T44 t274 x19_3).f2) = 0
                              · rw [if_pos c38] at H
                                have c38b0 : (((rd_T44 t274 x19_3).f2) == 0) = true := beq_iff_eq.mpr c38
                                have c38b1 : (((rd_T44 t274 x19_3).f2) != 0) = false := bne_eq_false_iff_eq.mpr c38
                                clear c38
                                by_cases c39 : (((rd_T44 t274 x19_3).f4).length : Int) = 0
                                · rw [if_pos c39] at H
                                  have c39b0 : ((((rd_T44 t274 x19_3).f4).length : Int) == 0) = true := beq_iff_eq.mpr c39
                                  have c39b1 : ((((rd_T44 t274 x19_3).f4).length : Int) != 0) = false := bne_eq_false_iff_eq.mpr c39
                                  clear c39
                                  have H' := Aside0.mk H
                                  clear H
                                  obtain ⟨Ao40, co40, eo40⟩ := Kd.R_slice HO_17.out
                                  subst eo40
                                  obtain ⟨Ao41, co41, eo41⟩ := Kd.N_slice HO_15.out
                                  subst eo41
                                  have p282 : 0 ≤ (x19_3 : Int) := of_decide_eq_true (by first | (with_reducible assumption) | assumption)
                                  have q282 : x19_3 < (t274.length : Int) := of_decide_eq_true (by first | (with_reducible assumption) | assumption)
                                  obtain ⟨ad282, A282_4, c282_4, e282, hx282_0, hx282_1, hx282_2, hx282_3, hx282_4, hl282_4, hi282_4⟩ := at_T44 (Kd.N_reads' HO_15.out).2.2 x19_3 p282 q282
                                  cases e282
                                  obtain ⟨ce282, hce282, hMe282, hcc282⟩ := Kd.N_get HO_15.out z44 x19_3 p282 (by first | exact q282 | exact of_decide_eq_true (by first | (with_reducible assumption) | assumption) | (have e_ := (Kd.N_reads' HO_15.out).1; omega))
                                  obtain ⟨ua282_4, uc282_4, rfl, ul282_4, ge282_4⟩ := k44_openF hMe282
                                  have hv282_4 := hcc282 4 _ rfl
                                  rw [add_field _ _ 4 (by omega)] at hv282_4
                                  replace hv282_4 := Option.some.inj (hv282_4.symm.trans hx282_4)
                                  injection hv282_4 with hva_ hvn_ hvc_
                                  rw [hva_] at ge282_4
                                  rw [hvc_] at ul282_4
                                  have HL282_4 := Aside0.mk (show Kd.V k102 102 _ w.heap.size _ _ ((rd_T44 t274 x19_3).f4) from Kd.V_mk ul282_4 ge282_4)
                                  clear hva_ hvn_ hvc_ ge282_4 ul282_4
                                  clear hcc282 hce282
                                  have HR282_4 := Aside0.mk hi282_4
                                  have HC282_4 := Aside0.mk hl282_4
                                  clear hi282_4 hl282_4
                                  replace p282 := eq_true p282
                                  replace q282 := eq_true q282
                                  have p283 : 0 ≤ (x19_3 : Int) := of_decide_eq_true (by first | (with_reducible assumption) | assumption)
                                  have q283 : x19_3 < (t278.length : Int) := of_decide_eq_true (by first | (with_reducible assumption) | assumption)
                                  obtain ⟨ad283, e283, hx283_0, hx283_1⟩ := at_T46 (Kd.R_reads' HO_17.out).2.2 x19_3 p283 q283
                                  cases e283
                                  replace p283 := eq_true p283
                                  replace q283 := eq_true q283
                                  have p284 : 0 ≤ (x19_3 : Int) := of_decide_eq_true (by first | (with_reducible assumption) | assumption)
                                  have q284 : x19_3 < (t274.length : Int) := of_decide_eq_true (by first | (with_reducible assumption) | assumption)
                                  obtain ⟨ad284, A284_4, c284_4, e284, hx284_0, hx284_1, hx284_2, hx284_3, hx284_4, hl284_4, hi284_4⟩ := at_T44 (Kd.N_reads' HO_15.out).2.2 x19_3 p284 q284
                                  obtain rfl : ad282 = ad284 := (by injection e284)
                                  obtain ⟨ce284, hce284, hMe284, hcc284⟩ := Kd.N_get HO_15.out z44 x19_3 p284 (by first | exact q284 | exact of_decide_eq_true (by first | (with_reducible assumption) | assumption) | (have e_ := (Kd.N_reads' HO_15.out).1; omega))
                                  obtain ⟨ua284_4, uc284_4, rfl, ul284_4, ge284_4⟩ := k44_openF hMe284
                                  have hv284_4 := hcc284 4 _ rfl
                                  rw [add_field _ _ 4 (by omega)] at hv284_4
                                  replace hv284_4 := Option.some.inj (hv284_4.symm.trans hx284_4)
                                  injection hv284_4 with hva_ hvn_ hvc_
                                  rw [hva_] at ge284_4
                                  rw [hvc_] at ul284_4
                                  have HL284_4 := Aside0.mk (show Kd.V k102 102 _ w.heap.size _ _ ((rd_T44 t274 x19_3).f4) from Kd.V_mk ul284_4 ge284_4)
                                  clear hva_ hvn_ hvc_ ge284_4 ul284_4
                                  clear hcc284 hce284
                                  have HR284_4 := Aside0.mk hi284_4
                                  have HC284_4 := Aside0.mk hl284_4
                                  clear hi284_4 hl284_4
                                  replace p284 := eq_true p284
                                  replace q284 := eq_true q284
                                  have ea_ := Option.some.inj (hx282_4.symm.trans hx284_4)
                                  injection ea_ with ea_ en_ ec_
                                  subst ea_
                                  subst ec_
                                  clear en_
                                  have p285 : 0 ≤ (x19_3 : Int) := of_decide_eq_true (by first | (with_reducible assumption) | assumption)
                                  have q285 : x19_3 < (t278.length : Int) := of_decide_eq_true (by first | (with_reducible assumption) | assumption)
                                  obtain ⟨ad285, e285, hx285_0, hx285_1⟩ := at_T46 (Kd.R_reads' HO_17.out).2.2 x19_3 p285 q285
                                  obtain rfl : ad283 = ad285 := (by injection e285)
                                  replace p285 := eq_true p285
                                  replace q285 := eq_true q285
                                  have p286 : 0 ≤ (x19_3 : Int) := of_decide_eq_true (by first | (with_reducible assumption) | assumption)
                                  have q286 : x19_3 < (t274.length : Int) := of_decide_eq_true (by first | (with_reducible assumption) | assumption)
                                  obtain ⟨ad286, A286_4, c286_4, e286, hx286_0, hx286_1, hx286_2, hx286_3, hx286_4, hl286_4, hi286_4⟩ := at_T44 (Kd.N_reads' HO_15.out).2.2 x19_3 p286 q286
                                  obtain rfl : ad282 = ad286 := (by injection e286)
                                  obtain ⟨ce286, hce286, hMe286, hcc286⟩ := Kd.N_get HO_15.out z44 x19_3 p286 (by first | exact q286 | exact of_decide_eq_true (by first | (with_reducible assumption) | assumption) | (have e_ := (Kd.N_reads' HO_15.out).1; omega))
                                  obtain ⟨ua286_4, uc286_4, rfl, ul286_4, ge286_4⟩ := k44_openF hMe286
                                  have hv286_4 := hcc286 4 _ rfl
                                  rw [add_field _ _ 4 (by omega)] at hv286_4
                                  replace hv286_4 := Option.some.inj (hv286_4.symm.trans hx286_4)
                                  injection hv286_4 with hva_ hvn_ hvc_
                                  rw [hva_] at ge286_4
                                  rw [hvc_] at ul286_4
                                  have HL286_4 := Aside0.mk (show Kd.V k102 102 _ w.heap.size _ _ ((rd_T44 t274 x19_3).f4) from Kd.V_mk ul286_4 ge286_4)
                                  clear hva_ hvn_ hvc_ ge286_4 ul286_4
                                  clear hcc286 hce286
                                  have HR286_4 := Aside0.mk hi286_4
                                  have HC286_4 := Aside0.mk hl286_4
                                  clear hi286_4 hl286_4
                                  replace p286 := eq_true p286
                                  replace q286 := eq_true q286
                                  have ea_ := Option.some.inj (hx282_4.symm.trans hx286_4)
                                  injection ea_ with ea_ en_ ec_
                                  subst ea_
                                  subst ec_
                                  clear en_
                                  have p287 : 0 ≤ (x19_3 : Int) := of_decide_eq_true (by first | (with_reducible assumption) | assumption)
                                  have q287 : x19_3 < (t274.length : Int) := of_decide_eq_true (by first | (with_reducible assumption) | assumption)
                                  obtain ⟨ad287, A287_4, c287_4, e287, hx287_0, hx287_1, hx287_2, hx287_3, hx287_4, hl287_4, hi287_4⟩ := at_T44 (Kd.N_reads' HO_15.out).2.2 x19_3 p287 q287
                                  obtain rfl : ad282 = ad287 := (by injection e287)
                                  obtain ⟨ce287, hce287, hMe287, hcc287⟩ := Kd.N_get HO_15.out z44 x19_3 p287 (by first | exact q287 | exact of_decide_eq_true (by first | (with_reducible assumption) | assumption) | (have e_ := (Kd.N_reads' HO_15.out).1; omega))
                                  obtain ⟨ua287_4, uc287_4, rfl, ul287_4, ge287_4⟩ := k44_openF hMe287
                                  have hv287_4 := hcc287 4 _ rfl
                                  rw [add_field _ _ 4 (by omega)] at hv287_4
                                  replace hv287_4 := Option.some.inj (hv287_4.symm.trans hx287_4)
                                  injection hv287_4 with hva_ hvn_ hvc_
                                  rw [hva_] at ge287_4
                                  rw [hvc_] at ul287_4
                                  have HL287_4 := Aside0.mk (show Kd.V k102 102 _ w.heap.size _ _ ((rd_T44 t274 x19_3).f4) from Kd.V_mk ul287_4 ge287_4)
                                  clear hva_ hvn_ hvc_ ge287_4 ul287_4
                                  clear hcc287 hce287
                                  have HR287_4 := Aside0.mk hi287_4
                                  have HC287_4 := Aside0.mk hl287_4
                                  clear hi287_4 hl287_4
                                  replace p287 := eq_true p287
                                  replace q287 := eq_true q287
                                  have ea_ := Option.some.inj (hx282_4.symm.trans hx287_4)
                                  injection ea_ with ea_ en_ ec_
                                  subst ea_
                                  subst ec_
                                  clear en_
                                  have p288 : 0 ≤ (x19_3 : Int) := of_decide_eq_true (by first | (with_reducible assumption) | assumption)
                                  have q288 : x19_3 < (t274.length : Int) := of_decide_eq_true (by first | (with_reducible assumption) | assumption)
                                  obtain ⟨ad288, A288_4, c288_4, e288, hx288_0, hx288_1, hx288_2, hx288_3, hx288_4, hl288_4, hi288_4⟩ := at_T44 (Kd.N_reads' HO_15.out).2.2 x19_3 p288 q288
                                  obtain rfl : ad282 = ad288 := (by injection e288)
                                  obtain ⟨ce288, hce288, hMe288, hcc288⟩ := Kd.N_get HO_15.out z44 x19_3 p288 (by first | exact q288 | exact of_decide_eq_true (by first | (with_reducible assumption) | assumption) | (have e_ := (Kd.N_reads' HO_15.out).1; omega))
                                  obtain ⟨ua288_4, uc288_4, rfl, ul288_4, ge288_4⟩ := k44_openF hMe288
                                  have hv288_4 := hcc288 4 _ rfl
                                  rw [add_field _ _ 4 (by omega)] at hv288_4
                                  replace hv288_4 := Option.some.inj (hv288_4.symm.trans hx288_4)
                                  injection hv288_4 with hva_ hvn_ hvc_
                                  rw [hva_] at ge288_4
                                  rw [hvc_] at ul288_4
                                  have HL288_4 := Aside0.mk (show Kd.V k102 102 _ w.heap.size _ _ ((rd_T44 t274 x19_3).f4) from Kd.V_mk ul288_4 ge288_4)
                                  clear hva_ hvn_ hvc_ ge288_4 ul288_4
                                  clear hcc288 hce288
                                  have HR288_4 := Aside0.mk hi288_4
                                  have HC288_4 := Aside0.mk hl288_4
                                  clear hi288_4 hl288_4
                                  replace p288 := eq_true p288
                                  replace q288 := eq_true q288
                                  have ea_ := Option.some.inj (hx282_4.symm.trans hx288_4)
                                  injection ea_ with ea_ en_ ec_
                                  subst ea_
                                  subst ec_
                                  clear en_
                                  go_wp2
                                  repeat (go_quiet (fail); try go_wp2)
                                  go_roundg k3
                                  case measure => have := HJ5.out; have := HJ16.out; have := HK3.out; omega
                                  case rel => exact ⟨(wrap64 (x19_3 + 1)), (by first | rfl | (simp; done) | (simp [*]; done)), H', ⟨by have := HJ5.out; have := HJ16.out; have := HK3.out; omega⟩, ⟨by (with_reducible repeat (first | apply Kd.N_alloc | apply Kd.N_drewN | apply Kd.N_drew)); exact HO_15.out⟩, ⟨by (with_reducible repeat (first | apply Kd.R_alloc | apply Kd.R_drewN | apply Kd.R_drew)); exact HO_17.out⟩, ⟨by repeat (first | (with_reducible first | exact HB.out | apply below_alloc | apply pw_below_drewN | apply below_drew1) | exact HB.out)⟩⟩
                                · rw [if_neg c39] at H
                                  have c39b0 : ((((rd_T44 t274 x19_3).f4).length : Int) == 0) = false := beq_eq_false_iff_ne.mpr c39
                                  have c39b1 : ((((rd_T44 t274 x19_3).f4).length : Int) != 0) = true := bne_iff_ne.mpr c39
                                  have c39b2 : ¬ (((rd_T44 t274 x19_3).f4) = []) := fun h_ => c39 (by rw [h_]; rfl)
                                  obtain rfl := Option.some.inj H
                                  obtain ⟨Ao42, co42, eo42⟩ := Kd.R_slice HO_17.out
                                  subst eo42
                                  obtain ⟨Ao43, co43, eo43⟩ := Kd.N_slice HO_15.out
                                  subst eo43
                                  have p282 : 0 ≤ (x19_3 : Int) := of_decide_eq_true (by first | (with_reducible assumption) | assumption)
                                  have q282 : x19_3 < (t274.length : Int) := of_decide_eq_true (by first | (with_reducible assumption) | assumption)
                                  obtain ⟨ad282, A282_4, c282_4, e282, hx282_0, hx282_1, hx282_2, hx282_3, hx282_4, hl282_4, hi282_4⟩ := at_T44 (Kd.N_reads' HO_15.out).2.2 x19_3 p282 q282
                                  cases e282
                                  obtain ⟨ce282, hce282, hMe282, hcc282⟩ := Kd.N_get HO_15.out z44 x19_3 p282 (by first | exact q282 | exact of_decide_eq_true (by first | (with_reducible assumption) | assumption) | (have e_ := (Kd.N_reads' HO_15.out).1; omega))
                                  obtain ⟨ua282_4, uc282_4, rfl, ul282_4, ge282_4⟩ := k44_openF hMe282
                                  have hv282_4 := hcc282 4 _ rfl
                                  rw [add_field _ _ 4 (by omega)] at hv282_4
                                  replace hv282_4 := Option.some.inj (hv282_4.symm.trans hx282_4)
                                  injection hv282_4 with hva_ hvn_ hvc_
                                  rw [hva_] at ge282_4
                                  rw [hvc_] at ul282_4
                                  have HL282_4 := Aside0.mk (show Kd.V k102 102 _ w.heap.size _ _ ((rd_T44 t274 x19_3).f4) from Kd.V_mk ul282_4 ge282_4)
                                  clear hva_ hvn_ hvc_ ge282_4 ul282_4
                                  clear hcc282 hce282
                                  have HR282_4 := Aside0.mk hi282_4
                                  have HC282_4 := Aside0.mk hl282_4
                                  clear hi282_4 hl282_4
                                  replace p282 := eq_true p282
                                  replace q282 := eq_true q282
                                  have p283 : 0 ≤ (x19_3 : Int) := of_decide_eq_true (by first | (with_reducible assumption) | assumption)
                                  have q283 : x19_3 < (t278.length : Int) := of_decide_eq_true (by first | (with_reducible assumption) | assumption)
                                  obtain ⟨ad283, e283, hx283_0, hx283_1⟩ := at_T46 (Kd.R_reads' HO_17.out).2.2 x19_3 p283 q283
                                  cases e283
                                  replace p283 := eq_true p283
                                  replace q283 := eq_true q283
                                  have p284 : 0 ≤ (x19_3 : Int) := of_decide_eq_true (by first | (with_reducible assumption) | assumption)
                                  have q284 : x19_3 < (t274.length : Int) := of_decide_eq_true (by first | (with_reducible assumption) | assumption)
                                  obtain ⟨ad284, A284_4, c284_4, e284, hx284_0, hx284_1, hx284_2, hx284_3, hx284_4, hl284_4, hi284_4⟩ := at_T44 (Kd.N_reads' HO_15.out).2.2 x19_3 p284 q284
                                  obtain rfl : ad282 = ad284 := (by injection e284)
                                  obtain ⟨ce284, hce284, hMe284, hcc284⟩ := Kd.N_get HO_15.out z44 x19_3 p284 (by first | exact q284 | exact of_decide_eq_true (by first | (with_reducible assumption) | assumption) | (have e_ := (Kd.N_reads' HO_15.out).1; omega))
                                  obtain ⟨ua284_4, uc284_4, rfl, ul284_4, ge284_4⟩ := k44_openF hMe284
                                  have hv284_4 := hcc284 4 _ rfl
                                  rw [add_field _ _ 4 (by omega)] at hv284_4
                                  replace hv284_4 := Option.some.inj (hv284_4.symm.trans hx284_4)
                                  injection hv284_4 with hva_ hvn_ hvc_
                                  rw [hva_] at ge284_4
                                  rw [hvc_] at ul284_4
                                  have HL284_4 := Aside0.mk (show Kd.V k102 102 _ w.heap.size _ _ ((rd_T44 t274 x19_3).f4) from Kd.V_mk ul284_4 ge284_4)
                                  clear hva_ hvn_ hvc_ ge284_4 ul284_4
                                  clear hcc284 hce284
                                  have HR284_4 := Aside0.mk hi284_4
                                  have HC284_4 := Aside0.mk hl284_4
                                  clear hi284_4 hl284_4
                                  replace p284 := eq_true p284
                                  replace q284 := eq_true q284
                                  have ea_ := Option.some.inj (hx282_4.symm.trans hx284_4)
                                  injection ea_ with ea_ en_ ec_
                                  subst ea_
                                  subst ec_
                                  clear en_
                                  have p285 : 0 ≤ (x19_3 : Int) := of_decide_eq_true (by first | (with_reducible assumption) | assumption)
                                  have q285 : x19_3 < (t278.length : Int) := of_decide_eq_true (by first | (with_reducible assumption) | assumption)
                                  obtain ⟨ad285, e285, hx285_0, hx285_1⟩ := at_T46 (Kd.R_reads' HO_17.out).2.2 x19_3 p285 q285
                                  obtain rfl : ad283 = ad285 := (by injection e285)
                                  replace p285 := eq_true p285
                                  replace q285 := eq_true q285
                                  have p286 : 0 ≤ (x19_3 : Int) := of_decide_eq_true (by first | (with_reducible assumption) | assumption)
                                  have q286 : x19_3 < (t274.length : Int) := of_decide_eq_true (by first | (with_reducible assumption) | assumption)
                                  obtain ⟨ad286, A286_4, c286_4, e286, hx286_0, hx286_1, hx286_2, hx286_3, hx286_4, hl286_4, hi286_4⟩ := at_T44 (Kd.N_reads' HO_15.out).2.2 x19_3 p286 q286
                                  obtain rfl : ad282 = ad286 := (by injection e286)
                                  obtain ⟨ce286, hce286, hMe286, hcc286⟩ := Kd.N_get HO_15.out z44 x19_3 p286 (by first | exact q286 | exact of_decide_eq_true (by first | (with_reducible assumption) | assumption) | (have e_ := (Kd.N_reads' HO_15.out).1; omega))
                                  obtain ⟨ua286_4, uc286_4, rfl, ul286_4, ge286_4⟩ := k44_openF hMe286
                                  have hv286_4 := hcc286 4 _ rfl
                                  rw [add_field _ _ 4 (by omega)] at hv286_4
                                  replace hv286_4 := Option.some.inj (hv286_4.symm.trans hx286_4)
                                  injection hv286_4 with hva_ hvn_ hvc_
                                  rw [hva_] at ge286_4
                                  rw [hvc_] at ul286_4
                                  have HL286_4 := Aside0.mk (show Kd.V k102 102 _ w.heap.size _ _ ((rd_T44 t274 x19_3).f4) from Kd.V_mk ul286_4 ge286_4)
                                  clear hva_ hvn_ hvc_ ge286_4 ul286_4
                                  clear hcc286 hce286
                                  have HR286_4 := Aside0.mk hi286_4
                                  have HC286_4 := Aside0.mk hl286_4
                                  clear hi286_4 hl286_4
                                  replace p286 := eq_true p286
                                  replace q286 := eq_true q286
                                  have ea_ := Option.some.inj (hx282_4.symm.trans hx286_4)
                                  injection ea_ with ea_ en_ ec_
                                  subst ea_
                                  subst ec_
                                  clear en_
                                  have p287 : 0 ≤ (x19_3 : Int) := of_decide_eq_true (by first | (with_reducible assumption) | assumption)
                                  have q287 : x19_3 < (t274.length : Int) := of_decide_eq_true (by first | (with_reducible assumption) | assumption)
                                  obtain ⟨ad287, A287_4, c287_4, e287, hx287_0, hx287_1, hx287_2, hx287_3, hx287_4, hl287_4, hi287_4⟩ := at_T44 (Kd.N_reads' HO_15.out).2.2 x19_3 p287 q287
                                  obtain rfl : ad282 = ad287 := (by injection e287)
                                  obtain ⟨ce287, hce287, hMe287, hcc287⟩ := Kd.N_get HO_15.out z44 x19_3 p287 (by first | exact q287 | exact of_decide_eq_true (by first | (with_reducible assumption) | assumption) | (have e_ := (Kd.N_reads' HO_15.out).1; omega))
                                  obtain ⟨ua287_4, uc287_4, rfl, ul287_4, ge287_4⟩ := k44_openF hMe287
                                  have hv287_4 := hcc287 4 _ rfl
                                  rw [add_field _ _ 4 (by omega)] at hv287_4
                                  replace hv287_4 := Option.some.inj (hv287_4.symm.trans hx287_4)
                                  injection hv287_4 with hva_ hvn_ hvc_
                                  rw [hva_] at ge287_4
                                  rw [hvc_] at ul287_4
                                  have HL287_4 := Aside0.mk (show Kd.V k102 102 _ w.heap.size _ _ ((rd_T44 t274 x19_3).f4) from Kd.V_mk ul287_4 ge287_4)
                                  clear hva_ hvn_ hvc_ ge287_4 ul287_4
                                  clear hcc287 hce287
                                  have HR287_4 := Aside0.mk hi287_4
                                  have HC287_4 := Aside0.mk hl287_4
                                  clear hi287_4 hl287_4
                                  replace p287 := eq_true p287
                                  replace q287 := eq_true q287
                                  have ea_ := Option.some.inj (hx282_4.symm.trans hx287_4)
                                  injection ea_ with ea_ en_ ec_
                                  subst ea_
                                  subst ec_
                                  clear en_
                                  have p288 : 0 ≤ (x19_3 : Int) := of_decide_eq_true (by first | (with_reducible assumption) | assumption)
                                  have q288 : x19_3 < (t274.length : Int) := of_decide_eq_true (by first | (with_reducible assumption) | assumption)
                                  obtain ⟨ad288, A288_4, c288_4, e288, hx288_0, hx288_1, hx288_2, hx288_3, hx288_4, hl288_4, hi288_4⟩ := at_T44 (Kd.N_reads' HO_15.out).2.2 x19_3 p288 q288
                                  obtain rfl : ad282 = ad288 := (by injection e288)
                                  obtain ⟨ce288, hce288, hMe288, hcc288⟩ := Kd.N_get HO_15.out z44 x19_3 p288 (by first | exact q288 | exact of_decide_eq_true (by first | (with_reducible assumption) | assumption) | (have e_ := (Kd.N_reads' HO_15.out).1; omega))
                                  obtain ⟨ua288_4, uc288_4, rfl, ul288_4, ge288_4⟩ := k44_openF hMe288
                                  have hv288_4 := hcc288 4 _ rfl
                                  rw [add_field _ _ 4 (by omega)] at hv288_4
                                  replace hv288_4 := Option.some.inj (hv288_4.symm.trans hx288_4)
                                  injection hv288_4 with hva_ hvn_ hvc_
                                  rw [hva_] at ge288_4
                                  rw [hvc_] at ul288_4
                                  have HL288_4 := Aside0.mk (show Kd.V k102 102 _ w.heap.size _ _ ((rd_T44 t274 x19_3).f4) from Kd.V_mk ul288_4 ge288_4)
                                  clear hva_ hvn_ hvc_ ge288_4 ul288_4
                                  clear hcc288 hce288
                                  have HR288_4 := Aside0.mk hi288_4
                                  have HC288_4 := Aside0.mk hl288_4
                                  clear hi288_4 hl288_4
                                  replace p288 := eq_true p288
                                  replace q288 := eq_true q288
                                  have ea_ := Option.some.inj (hx282_4.symm.trans hx288_4)
                                  injection ea_ with ea_ en_ ec_
                                  subst ea_
                                  subst ec_
                                  clear en_
                                  go_wp2
                                  repeat (go_quiet (fail); try go_wp2)
                                  go_ret
                                  exact ⟨by first | rfl | (simp [errW_none, errW_some] <;> rfl) | (simp [*, errW_none, errW_some] <;> rfl), by repeat (first | (with_reducible first | exact HB.out | apply below_alloc | apply pw_below_drewN | apply below_drew1) | exact HB.out)⟩
                              · rw [if_neg c38] at H
                                have c38b0 : (((rd_T44 t274 x19_3).f2) == 0) = false := beq_eq_false_iff_ne.mpr c38
                                have c38b1 : (((rd_T44 t274 x19_3).f2) != 0) = true := bne_iff_ne.mpr c38
                                obtain rfl := Option.some.inj H
                                obtain ⟨Ao44, co44, eo44⟩ := Kd.R_slice HO_17.out
                                subst eo44
                                obtain ⟨Ao45, co45, eo45⟩ := Kd.N_slice HO_15.out
                                subst eo45
                                have p282 : 0 ≤ (x19_3 : Int) := of_decide_eq_true (by first | (with_reducible assumption) | assumption)
                                have q282 : x19_3 < (t274.length : Int) := of_decide_eq_true (by first | (with_reducible assumption) | assumption)
                                obtain ⟨ad282, A282_4, c282_4, e282, hx282_0, hx282_1, hx282_2, hx282_3, hx282_4, hl282_4, hi282_4⟩ := at_T44 (Kd.N_reads' HO_15.out).2.2 x19_3 p282 q282
                                cases e282
                                obtain ⟨ce282, hce282, hMe282, hcc282⟩ := Kd.N_get HO_15.out z44 x19_3 p282 (by first | exact q282 | exact of_decide_eq_true (by first | (with_reducible assumption) | assumption) | (have e_ := (Kd.N_reads' HO_15.out).1; omega))
                                obtain ⟨ua282_4, uc282_4, rfl, ul282_4, ge282_4⟩ := k44_openF hMe282
                                have hv282_4 := hcc282 4 _ rfl
                                rw [add_field _ _ 4 (by omega)] at hv282_4
                                replace hv282_4 := Option.some.inj (hv282_4.symm.trans hx282_4)
                                injection hv282_4 with hva_ hvn_ hvc_
                                rw [hva_] at ge282_4
                                rw [hvc_] at ul282_4
                                have HL282_4 := Aside0.mk (show Kd.V k102 102 _ w.heap.size _ _ ((rd_T44 t274 x19_3).f4) from Kd.V_mk ul282_4 ge282_4)
                                clear hva_ hvn_ hvc_ ge282_4 ul282_4
                                clear hcc282 hce282
                                have HR282_4 := Aside0.mk hi282_4
                                have HC282_4 := Aside0.mk hl282_4
                                clear hi282_4 hl282_4
                                replace p282 := eq_true p282
                                replace q282 := eq_true q282
                                have p283 : 0 ≤ (x19_3 : Int) := of_decide_eq_true (by first | (with_reducible assumption) | assumption)
                                have q283 : x19_3 < (t278.length : Int) := of_decide_eq_true (by first | (with_reducible assumption) | assumption)
                                obtain ⟨ad283, e283, hx283_0, hx283_1⟩ := at_T46 (Kd.R_reads' HO_17.out).2.2 x19_3 p283 q283
                                cases e283
                                replace p283 := eq_true p283
                                replace q283 := eq_true q283
                                have p284 : 0 ≤ (x19_3 : Int) := of_decide_eq_true (by first | (with_reducible assumption) | assumption)
                                have q284 : x19_3 < (t274.length : Int) := of_decide_eq_true (by first | (with_reducible assumption) | assumption)
                                obtain ⟨ad284, A284_4, c284_4, e284, hx284_0, hx284_1, hx284_2, hx284_3, hx284_4, hl284_4, hi284_4⟩ := at_T44 (Kd.N_reads' HO_15.out).2.2 x19_3 p284 q284
                                obtain rfl : ad282 = ad284 := (by injection e284)
                                obtain ⟨ce284, hce284, hMe284, hcc284⟩ := Kd.N_get HO_15.out z44 x19_3 p284 (by first | exact q284 | exact of_decide_eq_true (by first | (with_reducible assumption) | assumption) | (have e_ := (Kd.N_reads' HO_15.out).1; omega))
                                obtain ⟨ua284_4, uc284_4, rfl, ul284_4, ge284_4⟩ := k44_openF hMe284
                                have hv284_4 := hcc284 4 _ rfl
                                rw [add_field _ _ 4 (by omega)] at hv284_4
                                replace hv284_4 := Option.some.inj (hv284_4.symm.trans hx284_4)
                                injection hv284_4 with hva_ hvn_ hvc_
                                rw [hva_] at ge284_4
                                rw [hvc_] at ul284_4
                                have HL284_4 := Aside0.mk (show Kd.V k102 102 _ w.heap.size _ _ ((rd_T44 t274 x19_3).f4) from Kd.V_mk ul284_4 ge284_4)
                                clear hva_ hvn_ hvc_ ge284_4 ul284_4
                                clear hcc284 hce284
                                have HR284_4 := Aside0.mk hi284_4
                                have HC284_4 := Aside0.mk hl284_4
                                clear hi284_4 hl284_4
                                replace p284 := eq_true p284
                                replace q284 := eq_true q284
                                have ea_ := Option.some.inj (hx282_4.symm.trans hx284_4)
                                injection ea_ with ea_ en_ ec_
                                subst ea_
                                subst ec_
                                clear en_
                                have p285 : 0 ≤ (x19_3 : Int) := of_decide_eq_true (by first | (with_reducible assumption) | assumption)
                                have q285 : x19_3 < (t278.length : Int) := of_decide_eq_true (by first | (with_reducible assumption) | assumption)
                                obtain ⟨ad285, e285, hx285_0, hx285_1⟩ := at_T46 (Kd.R_reads' HO_17.out).2.2 x19_3 p285 q285
                                obtain rfl : ad283 = ad285 := (by injection e285)
                                replace p285 := eq_true p285
                                replace q285 := eq_true q285
                                have p286 : 0 ≤ (x19_3 : Int) := of_decide_eq_true (by first | (with_reducible assumption) | assumption)
                                have q286 : x19_3 < (t274.length : Int) := of_decide_eq_true (by first | (with_reducible assumption) | assumption)
                                obtain ⟨ad286, A286_4, c286_4, e286, hx286_0, hx286_1, hx286_2, hx286_3, hx286_4, hl286_4, hi286_4⟩ := at_T44 (Kd.N_reads' HO_15.out).2.2 x19_3 p286 q286
                                obtain rfl : ad282 = ad286 := (by injection e286)
                                obtain ⟨ce286, hce286, hMe286, hcc286⟩ := Kd.N_get HO_15.out z44 x19_3 p286 (by first | exact q286 | exact of_decide_eq_true (by first | (with_reducible assumption) | assumption) | (have e_ := (Kd.N_reads' HO_15.out).1; omega))
                                obtain ⟨ua286_4, uc286_4, rfl, ul286_4, ge286_4⟩ := k44_openF hMe286
                                have hv286_4 := hcc286 4 _ rfl
                                rw [add_field _ _ 4 (by omega)] at hv286_4
                                replace hv286_4 := Option.some.inj (hv286_4.symm.trans hx286_4)
                                injection hv286_4 with hva_ hvn_ hvc_
                                rw [hva_] at ge286_4
                                rw [hvc_] at ul286_4
                                have HL286_4 := Aside0.mk (show Kd.V k102 102 _ w.heap.size _ _ ((rd_T44 t274 x19_3).f4) from Kd.V_mk ul286_4 ge286_4)
                                clear hva_ hvn_ hvc_ ge286_4 ul286_4
                                clear hcc286 hce286
                                have HR286_4 := Aside0.mk hi286_4
                                have HC286_4 := Aside0.mk hl286_4
                                clear hi286_4 hl286_4
                                replace p286 := eq_true p286
                                replace q286 := eq_true q286
                                have ea_ := Option.some.inj (hx282_4.symm.trans hx286_4)
                                injection ea_ with ea_ en_ ec_
                                subst ea_
                                subst ec_
                                clear en_
                                have p287 : 0 ≤ (x19_3 : Int) := of_decide_eq_true (by first | (with_reducible assumption) | assumption)
                                have q287 : x19_3 < (t274.length : Int) := of_decide_eq_true (by first | (with_reducible assumption) | assumption)
                                obtain ⟨ad287, A287_4, c287_4, e287, hx287_0, hx287_1, hx287_2, hx287_3, hx287_4, hl287_4, hi287_4⟩ := at_T44 (Kd.N_reads' HO_15.out).2.2 x19_3 p287 q287
                                obtain rfl : ad282 = ad287 := (by injection e287)
                                obtain ⟨ce287, hce287, hMe287, hcc287⟩ := Kd.N_get HO_15.out z44 x19_3 p287 (by first | exact q287 | exact of_decide_eq_true (by first | (with_reducible assumption) | assumption) | (have e_ := (Kd.N_reads' HO_15.out).1; omega))
                                obtain ⟨ua287_4, uc287_4, rfl, ul287_4, ge287_4⟩ := k44_openF hMe287
                                have hv287_4 := hcc287 4 _ rfl
                                rw [add_field _ _ 4 (by omega)] at hv287_4
                                replace hv287_4 := Option.some.inj (hv287_4.symm.trans hx287_4)
                                injection hv287_4 with hva_ hvn_ hvc_
                                rw [hva_] at ge287_4
                                rw [hvc_] at ul287_4
                                have HL287_4 := Aside0.mk (show Kd.V k102 102 _ w.heap.size _ _ ((rd_T44 t274 x19_3).f4) from Kd.V_mk ul287_4 ge287_4)
                                clear hva_ hvn_ hvc_ ge287_4 ul287_4
                                clear hcc287 hce287
                                have HR287_4 := Aside0.mk hi287_4
                                have HC287_4 := Aside0.mk hl287_4
                                clear hi287_4 hl287_4
                                replace p287 := eq_true p287
                                replace q287 := eq_true q287
                                have ea_ := Option.some.inj (hx282_4.symm.trans hx287_4)
                                injection ea_ with ea_ en_ ec_
                                subst ea_
                                subst ec_
                                clear en_
                                go_wp2
                                repeat (go_quiet (fail); try go_wp2)
                                go_ret
                                exact ⟨by first | rfl | (simp [errW_none, errW_some] <;> rfl) | (simp [*, errW_none, errW_some] <;> rfl), by repeat (first | (with_reducible first | exact HB.out | apply below_alloc | apply pw_below_drewN | apply below_drew1) | exact HB.out)⟩
                            · rw [if_neg c37] at H
                              have c37b0 : (((rd_T44 t274 x19_3).f0) == 0) = false := beq_eq_false_iff_ne.mpr c37
                              have c37b1 : (((rd_T44 t274 x19_3).f0) != 0) = true := bne_iff_ne.mpr c37
                              obtain rfl := Option.some.inj H
                              obtain ⟨Ao46, co46, eo46⟩ := Kd.R_slice HO_17.out
                              subst eo46
                              obtain ⟨Ao47, co47, eo47⟩ := Kd.N_slice HO_15.out
                              subst eo47
                              have p282 : 0 ≤ (x19_3 : Int) := of_decide_eq_true (by first | (with_reducible assumption) | assumption)
                              have q282 : x19_3 < (t274.length : Int) := of_decide_eq_true (by first | (with_reducible assumption) | assumption)
                              obtain ⟨ad282, A282_4, c282_4, e282, hx282_0, hx282_1, hx282_2, hx282_3, hx282_4, hl282_4, hi282_4⟩ := at_T44 (Kd.N_reads' HO_15.out).2.2 x19_3 p282 q282
                              cases e282
                              obtain ⟨ce282, hce282, hMe282, hcc282⟩ := Kd.N_get HO_15.out z44 x19_3 p282 (by first | exact q282 | exact of_decide_eq_true (by first | (with_reducible assumption) | assumption) | (have e_ := (Kd.N_reads' HO_15.out).1; omega))
                              obtain ⟨ua282_4, uc282_4, rfl, ul282_4, ge282_4⟩ := k44_openF hMe282
                              have hv282_4 := hcc282 4 _ rfl
                              rw [add_field _ _ 4 (by omega)] at hv282_4
                              replace hv282_4 := Option.some.inj (hv282_4.symm.trans hx282_4)
                              injection hv282_4 with hva_ hvn_ hvc_
                              rw [hva_] at ge282_4
                              rw [hvc_] at ul282_4
                              have HL282_4 := Aside0.mk (show Kd.V k102 102 _ w.heap.size _ _ ((rd_T44 t274 x19_3).f4) from Kd.V_mk ul282_4 ge282_4)
                              clear hva_ hvn_ hvc_ ge282_4 ul282_4
                              clear hcc282 hce282
                              have HR282_4 := Aside0.mk hi282_4
                              have HC282_4 := Aside0.mk hl282_4
                              clear hi282_4 hl282_4
                              replace p282 := eq_true p282
                              replace q282 := eq_true q282
                              have p283 : 0 ≤ (x19_3 : Int) := of_decide_eq_true (by first | (with_reducible assumption) | assumption)
                              have q283 : x19_3 < (t278.length : Int) := of_decide_eq_true (by first | (with_reducible assumption) | assumption)
                              obtain ⟨ad283, e283, hx283_0, hx283_1⟩ := at_T46 (Kd.R_reads' HO_17.out).2.2 x19_3 p283 q283
                              cases e283
                              replace p283 := eq_true p283
                              replace q283 := eq_true q283
                              have p284 : 0 ≤ (x19_3 : Int) := of_decide_eq_true (by first | (with_reducible assumption) | assumption)
                              have q284 : x19_3 < (t274.length : Int) := of_decide_eq_true (by first | (with_reducible assumption) | assumption)
                              obtain ⟨ad284, A284_4, c284_4, e284, hx284_0, hx284_1, hx284_2, hx284_3, hx284_4, hl284_4, hi284_4⟩ := at_T44 (Kd.N_reads' HO_15.out).2.2 x19_3 p284 q284
                              obtain rfl : ad282 = ad284 := (by injection e284)
                              obtain ⟨ce284, hce284, hMe284, hcc284⟩ := Kd.N_get HO_15.out z44 x19_3 p284 (by first | exact q284 | exact of_decide_eq_true (by first | (with_reducible assumption) | assumption) | (have e_ := (Kd.N_reads' HO_15.out).1; omega))
                              obtain ⟨ua284_4, uc284_4, rfl, ul284_4, ge284_4⟩ := k44_openF hMe284
                              have hv284_4 := hcc284 4 _ rfl
                              rw [add_field _ _ 4 (by omega)] at hv284_4
                              replace hv284_4 := Option.some.inj (hv284_4.symm.trans hx284_4)
                              injection hv284_4 with hva_ hvn_ hvc_
                              rw [hva_] at ge284_4
                              rw [hvc_] at ul284_4
                              have HL284_4 := Aside0.mk (show Kd.V k102 102 _ w.heap.size _ _ ((rd_T44 t274 x19_3).f4) from Kd.V_mk ul284_4 ge284_4)
                              clear hva_ hvn_ hvc_ ge284_4 ul284_4
                              clear hcc284 hce284
                              have HR284_4 := Aside0.mk hi284_4
                              have HC284_4 := Aside0.mk hl284_4
                              clear hi284_4 hl284_4
                              replace p284 := eq_true p284
                              replace q284 := eq_true q284
                              have ea_ := Option.some.inj (hx282_4.symm.trans hx284_4)
                              injection ea_ with ea_ en_ ec_
                              subst ea_
                              subst ec_
                              clear en_
                              have p285 : 0 ≤ (x19_3 : Int) := of_decide_eq_true (by first | (with_reducible assumption) | assumption)
                              have q285 : x19_3 < (t278.length : Int) := of_decide_eq_true (by first | (with_reducible assumption) | assumption)
                              obtain ⟨ad285, e285, hx285_0, hx285_1⟩ := at_T46 (Kd.R_reads' HO_17.out).2.2 x19_3 p285 q285
                              obtain rfl : ad283 = ad285 := (by injection e285)
                              replace p285 := eq_true p285
                              replace q285 := eq_true q285
                              have p286 : 0 ≤ (x19_3 : Int) := of_decide_eq_true (by first | (with_reducible assumption) | assumption)
                              have q286 : x19_3 < (t274.length : Int) := of_decide_eq_true (by first | (with_reducible assumption) | assumption)
                              obtain ⟨ad286, A286_4, c286_4, e286, hx286_0, hx286_1, hx286_2, hx286_3, hx286_4, hl286_4, hi286_4⟩ := at_T44 (Kd.N_reads' HO_15.out).2.2 x19_3 p286 q286
                              obtain rfl : ad282 = ad286 := (by injection e286)
                              obtain ⟨ce286, hce286, hMe286, hcc286⟩ := Kd.N_get HO_15.out z44 x19_3 p286 (by first | exact q286 | exact of_decide_eq_true (by first | (with_reducible assumption) | assumption) | (have e_ := (Kd.N_reads' HO_15.out).1; omega))
                              obtain ⟨ua286_4, uc286_4, rfl, ul286_4, ge286_4⟩ := k44_openF hMe286
                              have hv286_4 := hcc286 4 _ rfl
                              rw [add_field _ _ 4 (by omega)] at hv286_4
                              replace hv286_4 := Option.some.inj (hv286_4.symm.trans hx286_4)
                              injection hv286_4 with hva_ hvn_ hvc_
                              rw [hva_] at ge286_4
                              rw [hvc_] at ul286_4
                              have HL286_4 := Aside0.mk (show Kd.V k102 102 _ w.heap.size _ _ ((rd_T44 t274 x19_3).f4) from Kd.V_mk ul286_4 ge286_4)
                              clear hva_ hvn_ hvc_ ge286_4 ul286_4
                              clear hcc286 hce286
                              have HR286_4 := Aside0.mk hi286_4
                              have HC286_4 := Aside0.mk hl286_4
                              clear hi286_4 hl286_4
                              replace p286 := eq_true p286
                              replace q286 := eq_true q286
                              have ea_ := Option.some.inj (hx282_4.symm.trans hx286_4)
                              injection ea_ with ea_ en_ ec_
                              subst ea_
                              subst ec_
                              clear en_
                              go_wp2
                              repeat (go_quiet (fail); try go_wp2)
                              go_ret
                              exact ⟨by first | rfl | (simp [errW_none, errW_some] <;> rfl) | (simp [*, errW_none, errW_some] <;> rfl), by repeat (first | (with_reducible first | exact HB.out | apply below_alloc | apply pw_below_drewN | apply below_drew1) | exact HB.out)⟩
                          · rw [if_neg c36] at H
                            have c36b0 : (((rd_T44 t274 x19_3).f3) == ((rd_T46 t278 x19_3).f1)) = false := beq_eq_false_iff_ne.mpr c36
                            have c36b1 : (((rd_T44 t274 x19_3).f3) != ((rd_T46 t278 x19_3).f1)) = true := bne_iff_ne.mpr c36
                            obtain rfl := Option.some.inj H
                            obtain ⟨Ao48, co48, eo48⟩ := Kd.R_slice HO_17.out
                            subst eo48
                            obtain ⟨Ao49, co49, eo49⟩ := Kd.N_slice HO_15.out
                            subst eo49
                            have p282 : 0 ≤ (x19_3 : Int) := of_decide_eq_true (by first | (with_reducible assumption) | assumption)
                            have q282 : x19_3 < (t274.length : Int) := of_decide_eq_true (by first | (with_reducible assumption) | assumption)
                            obtain ⟨ad282, A282_4, c282_4, e282, hx282_0, hx282_1, hx282_2, hx282_3, hx282_4, hl282_4, hi282_4⟩ := at_T44 (Kd.N_reads' HO_15.out).2.2 x19_3 p282 q282
                            cases e282
                            obtain ⟨ce282, hce282, hMe282, hcc282⟩ := Kd.N_get HO_15.out z44 x19_3 p282 (by first | exact q282 | exact of_decide_eq_true (by first | (with_reducible assumption) | assumption) | (have e_ := (Kd.N_reads' HO_15.out).1; omega))
                            obtain ⟨ua282_4, uc282_4, rfl, ul282_4, ge282_4⟩ := k44_openF hMe282
                            have hv282_4 := hcc282 4 _ rfl
                            rw [add_field _ _ 4 (by omega)] at hv282_4
                            replace hv282_4 := Option.some.inj (hv282_4.symm.trans hx282_4)
                            injection hv282_4 with hva_ hvn_ hvc_
                            rw [hva_] at ge282_4
                            rw [hvc_] at ul282_4
                            have HL282_4 := Aside0.mk (show Kd.V k102 102 _ w.heap.size _ _ ((rd_T44 t274 x19_3).f4) from Kd.V_mk ul282_4 ge282_4)
                            clear hva_ hvn_ hvc_ ge282_4 ul282_4
                            clear hcc282 hce282
                            have HR282_4 := Aside0.mk hi282_4
                            have HC282_4 := Aside0.mk hl282_4
                            clear hi282_4 hl282_4
                            replace p282 := eq_true p282
                            replace q282 := eq_true q282
                            have p283 : 0 ≤ (x19_3 : Int) := of_decide_eq_true (by first | (with_reducible assumption) | assumption)
                            have q283 : x19_3 < (t278.length : Int) := of_decide_eq_true (by first | (with_reducible assumption) | assumption)
                            obtain ⟨ad283, e283, hx283_0, hx283_1⟩ := at_T46 (Kd.R_reads' HO_17.out).2.2 x19_3 p283 q283
                            cases e283
                            replace p283 := eq_true p283
                            replace q283 := eq_true q283
                            have p284 : 0 ≤ (x19_3 : Int) := of_decide_eq_true (by first | (with_reducible assumption) | assumption)
                            have q284 : x19_3 < (t274.length : Int) := of_decide_eq_true (by first | (with_reducible assumption) | assumption)
                            obtain ⟨ad284, A284_4, c284_4, e284, hx284_0, hx284_1, hx284_2, hx284_3, hx284_4, hl284_4, hi284_4⟩ := at_T44 (Kd.N_reads' HO_15.out).2.2 x19_3 p284 q284
                            obtain rfl : ad282 = ad284 := (by injection e284)
                            obtain ⟨ce284, hce284, hMe284, hcc284⟩ := Kd.N_get HO_15.out z44 x19_3 p284 (by first | exact q284 | exact of_decide_eq_true (by first | (with_reducible assumption) | assumption) | (have e_ := (Kd.N_reads' HO_15.out).1; omega))
                            obtain ⟨ua284_4, uc284_4, rfl, ul284_4, ge284_4⟩ := k44_openF hMe284
                            have hv284_4 := hcc284 4 _ rfl
                            rw [add_field _ _ 4 (by omega)] at hv284_4
                            replace hv284_4 := Option.some.inj (hv284_4.symm.trans hx284_4)
                            injection hv284_4 with hva_ hvn_ hvc_
                            rw [hva_] at ge284_4
                            rw [hvc_] at ul284_4
                            have HL284_4 := Aside0.mk (show Kd.V k102 102 _ w.heap.size _ _ ((rd_T44 t274 x19_3).f4) from Kd.V_mk ul284_4 ge284_4)
                            clear hva_ hvn_ hvc_ ge284_4 ul284_4
                            clear hcc284 hce284
                            have HR284_4 := Aside0.mk hi284_4
                            have HC284_4 := Aside0.mk hl284_4
                            clear hi284_4 hl284_4
                            replace p284 := eq_true p284
                            replace q284 := eq_true q284
                            have ea_ := Option.some.inj (hx282_4.symm.trans hx284_4)
                            injection ea_ with ea_ en_ ec_
                            subst ea_
                            subst ec_
                            clear en_
                            have p285 : 0 ≤ (x19_3 : Int) := of_decide_eq_true (by first | (with_reducible assumption) | assumption)
                            have q285 : x19_3 < (t278.length : Int) := of_decide_eq_true (by first | (with_reducible assumption) | assumption)
                            obtain ⟨ad285, e285, hx285_0, hx285_1⟩ := at_T46 (Kd.R_reads' HO_17.out).2.2 x19_3 p285 q285
                            obtain rfl : ad283 = ad285 := (by injection e285)
                            replace p285 := eq_true p285
                            replace q285 := eq_true q285
                            go_wp2
                            repeat (go_quiet (fail); try go_wp2)
                            go_ret
                            exact ⟨by first | rfl | (simp [errW_none, errW_some] <;> rfl) | (simp [*, errW_none, errW_some] <;> rfl), by repeat (first | (with_reducible first | exact HB.out | apply below_alloc | apply pw_below_drewN | apply below_drew1) | exact HB.out)⟩
                        · rw [if_neg c35] at H
                          have c35b0 : (((rd_T44 t274 x19_3).f1) == ((rd_T46 t278 x19_3).f0)) = false := beq_eq_false_iff_ne.mpr c35
                          have c35b1 : (((rd_T44 t274 x19_3).f1) != ((rd_T46 t278 x19_3).f0)) = true := bne_iff_ne.mpr c35
                          obtain rfl := Option.some.inj H
                          obtain ⟨Ao50, co50, eo50⟩ := Kd.R_slice HO_17.out
                          subst eo50
                          obtain ⟨Ao51, co51, eo51⟩ := Kd.N_slice HO_15.out
                          subst eo51
                          have p282 : 0 ≤ (x19_3 : Int) := of_decide_eq_true (by first | (with_reducible assumption) | assumption)
                          have q282 : x19_3 < (t274.length : Int) := of_decide_eq_true (by first | (with_reducible assumption) | assumption)
                          obtain ⟨ad282, A282_4, c282_4, e282, hx282_0, hx282_1, hx282_2, hx282_3, hx282_4, hl282_4, hi282_4⟩ := at_T44 (Kd.N_reads' HO_15.out).2.2 x19_3 p282 q282
                          cases e282
                          obtain ⟨ce282, hce282, hMe282, hcc282⟩ := Kd.N_get HO_15.out z44 x19_3 p282 (by first | exact q282 | exact of_decide_eq_true (by first | (with_reducible assumption) | assumption) | (have e_ := (Kd.N_reads' HO_15.out).1; omega))
                          obtain ⟨ua282_4, uc282_4, rfl, ul282_4, ge282_4⟩ := k44_openF hMe282
                          have hv282_4 := hcc282 4 _ rfl
                          rw [add_field _ _ 4 (by omega)] at hv282_4
                          replace hv282_4 := Option.some.inj (hv282_4.symm.trans hx282_4)
                          injection hv282_4 with hva_ hvn_ hvc_
                          rw [hva_] at ge282_4
                          rw [hvc_] at ul282_4
                          have HL282_4 := Aside0.mk (show Kd.V k102 102 _ w.heap.size _ _ ((rd_T44 t274 x19_3).f4) from Kd.V_mk ul282_4 ge282_4)
                          clear hva_ hvn_ hvc_ ge282_4 ul282_4
                          clear hcc282 hce282
                          have HR282_4 := Aside0.mk hi282_4
                          have HC282_4 := Aside0.mk hl282_4
                          clear hi282_4 hl282_4
                          replace p282 := eq_true p282
                          replace q282 := eq_true q282
                          have p283 : 0 ≤ (x19_3 : Int) := of_decide_eq_true (by first | (with_reducible assumption) | assumption)
                          have q283 : x19_3 < (t278.length : Int) := of_decide_eq_true (by first | (with_reducible assumption) | assumption)
                          obtain ⟨ad283, e283, hx283_0, hx283_1⟩ := at_T46 (Kd.R_reads' HO_17.out).2.2 x19_3 p283 q283
                          cases e283
                          replace p283 := eq_true p283
                          replace q283 := eq_true q283
                          go_wp2
                          repeat (go_quiet (fail); try go_wp2)
                          go_ret
                          exact ⟨by first | rfl | (simp [errW_none, errW_some] <;> rfl) | (simp [*, errW_none, errW_some] <;> rfl), by repeat (first | (with_reducible first | exact HB.out | apply below_alloc | apply pw_below_drewN | apply below_drew1) | exact HB.out)⟩
                      · rw [if_neg c34] at H
                        exact absurd H (by simp)
                    · rw [if_neg c33] at H
                      exact absurd H (by simp)
                  · rw [if_neg c32] at H
                    have c32b0 : decide (x19_3 < (t278.length : Int)) = false := decide_eq_false c32
                    clear c32
                    replace H := Option.bind_eq_some_iff.mp H
                    obtain ⟨t289, A520, H⟩ := H
                    replace H : (some t289) = some r := H
                    have A52 := Aside0.mk A520
                    clear A520
                    obtain rfl := Option.some.inj H
                    obtain ⟨Ao53, co53, eo53⟩ := Kd.R_slice HO_17.out
                    subst eo53
                    go_wp2_with (first | (go_at_call 8; (with_reducible refine (lombardlaw28_awake.calls k3  t289 _ A52.out).mono ?_); rintro e w54 ⟨rfl, hb⟩; (try clear A52); have n0_ := Aside0.mk (Kd.N_below (by (with_reducible repeat (first | apply Kd.N_alloc | apply Kd.N_drewN | apply Kd.N_drew)); exact HO_15.out) hb); have n1_ := Aside0.mk (Kd.R_below (by (with_reducible repeat (first | apply Kd.R_alloc | apply Kd.R_drewN | apply Kd.R_drew)); exact HO_17.out) hb); have n2_ := Aside0.mk (below_step (by repeat (first | (with_reducible first | exact HB.out | apply below_alloc | apply pw_below_drewN | apply below_drew1) | exact HB.out)) hb); clear HO_15; clear HO_17; clear HB; have HO_15 := n0_; have HO_17 := n1_; have HB := n2_; clear n0_ n1_ n2_; (try clear hb); (try clear hb2); (try clear hk); (try clear hi)))
                    repeat (go_quiet (first | (go_at_call 8; (with_reducible refine (lombardlaw28_awake.calls k3  t289 _ A52.out).mono ?_); rintro e w54 ⟨rfl, hb⟩; (try clear A52); have n0_ := Aside0.mk (Kd.N_below (by (with_reducible repeat (first | apply Kd.N_alloc | apply Kd.N_drewN | apply Kd.N_drew)); exact HO_15.out) hb); have n1_ := Aside0.mk (Kd.R_below (by (with_reducible repeat (first | apply Kd.R_alloc | apply Kd.R_drewN | apply Kd.R_drew)); exact HO_17.out) hb); have n2_ := Aside0.mk (below_step (by repeat (first | (with_reducible first | exact HB.out | apply below_alloc | apply pw_below_drewN | apply below_drew1) | exact HB.out)) hb); clear HO_15; clear HO_17; clear HB; have HO_15 := n0_; have HO_17 := n1_; have HB := n2_; clear n0_ n1_ n2_; (try clear hb); (try clear hb2); (try clear hk); (try clear hi))); try go_wp2_with (first | (go_at_call 8; (with_reducible refine (lombardlaw28_awake.calls k3  t289 _ A52.out).mono ?_); rintro e w54 ⟨rfl, hb⟩; (try clear A52); have n0_ := Aside0.mk (Kd.N_below (by (with_reducible repeat (first | apply Kd.N_alloc | apply Kd.N_drewN | apply Kd.N_drew)); exact HO_15.out) hb); have n1_ := Aside0.mk (Kd.R_below (by (with_reducible repeat (first | apply Kd.R_alloc | apply Kd.R_drewN | apply Kd.R_drew)); exact HO_17.out) hb); have n2_ := Aside0.mk (below_step (by repeat (first | (with_reducible first | exact HB.out | apply below_alloc | apply pw_below_drewN | apply below_drew1) | exact HB.out)) hb); clear HO_15; clear HO_17; clear HB; have HO_15 := n0_; have HO_17 := n1_; have HB := n2_; clear n0_ n1_ n2_; (try clear hb); (try clear hb2); (try clear hk); (try clear hi))))
                    go_ret
                    exact ⟨by first | rfl | (simp [errW_none, errW_some] <;> rfl) | (simp [*, errW_none, errW_some] <;> rfl), by repeat (first | (with_reducible first | exact HB.out | apply below_alloc | apply pw_below_drewN | apply below_drew1) | exact HB.out)⟩
end Go.Proofs.Ytbchabgigjjdnaa.X
