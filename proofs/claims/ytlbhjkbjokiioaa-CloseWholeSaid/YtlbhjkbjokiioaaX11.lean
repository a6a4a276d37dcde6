-- a shortened text: what this claim does not name is left out (wip/xprint/prune.py of this repo)
import Derived.Test.YtlbhjkbjokiioaaX0
import Derived.Test.YtlbhjkbjokiioaaX3
import Derived.Test.YtlbhjkbjokiioaaX4
namespace Go.Proofs.Ytlbhjkbjokiioaa.X
open Go.RowKit Go.Proofs.YtlbhjkbjokiioaaW.PrintWords Go.Proofs.YtlbhjkbjokiioaaW.PrintLast Go.Proofs.YtlbhjkbjokiioaaW.PrintMore
attribute [local go_sem] max2_int min2_int max_two min_two max_three min_three max_four min_four
set_option linter.unusedVariables false
set_option linter.unusedSimpArgs false
mutual
def lombardlaw29_CloseWhole.l0 : Nat → Int → List (S35) → List (S34) → Int → Int → Bool → Int → Option (Bool)
  | 0, _, _, _, _, _, _, _ => none
  | k + 1, x0, x1, x5, x6, x8, x9, x10 => if x10 < (x1.length : Int) then (if 0 ≤ x10 then (if x10 < (x5.length : Int) then (if (((rd_T34 x5 x10).f1).length : Int) = (((rd_T35 x1 x10).f1).length : Int) then (lombardlaw29_CloseWhole.l1 k x0 x1 x5 x6 x8 x9 x10 0 0) else (some false)) else (none)) else (none)) else (if x8 = x0 then (if x6 = 0 then ((lombardlaw29_awake.f k).bind fun t375 => (some t375)) else (if x9 = true then ((lombardlaw29_awake.f k).bind fun t376 => (some t376)) else (some false))) else (some false))
def lombardlaw29_CloseWhole.l1 : Nat → Int → List (S35) → List (S34) → Int → Int → Bool → Int → Int → Int → Option (Bool)
  | 0, _, _, _, _, _, _, _, _, _ => none
  | k + 1, x0, x1, x5, x6, x8, x9, x10, x11, x12 => if 0 ≤ x10 then (if x10 < (x1.length : Int) then (if x12 < (((rd_T35 x1 x10).f1).length : Int) then (if x10 < (x5.length : Int) then (if 0 ≤ x12 then (if x12 < (((rd_T34 x5 x10).f1).length : Int) then (if (rd ((rd_T34 x5 x10).f1) x12) < 0 then (some false) else (if (rd ((rd_T34 x5 x10).f1) x12) > (rd ((rd_T35 x1 x10).f1) x12) then (some false) else (if (rd ((rd_T34 x5 x10).f1) x12) > 0 then (if x9 = true then (lombardlaw29_CloseWhole.l1 k x0 x1 x5 x6 (wrap64 (x8 + (rd ((rd_T34 x5 x10).f1) x12))) x9 x10 (wrap64 ((wrap64 (x11 + (rd ((rd_T35 x1 x10).f1) x12))) - (rd ((rd_T34 x5 x10).f1) x12))) (wrap64 (x12 + 1))) else (some false)) else (lombardlaw29_CloseWhole.l1 k x0 x1 x5 x6 (wrap64 (x8 + (rd ((rd_T34 x5 x10).f1) x12))) x9 x10 (wrap64 ((wrap64 (x11 + (rd ((rd_T35 x1 x10).f1) x12))) - (rd ((rd_T34 x5 x10).f1) x12))) (wrap64 (x12 + 1)))))) else (none)) else (none)) else (none)) else (if x9 = true then (lombardlaw29_CloseWhole.l0 k x0 x1 x5 x6 x8 (x11 == 0) (wrap64 (x10 + 1))) else (lombardlaw29_CloseWhole.l0 k x0 x1 x5 x6 x8 false (wrap64 (x10 + 1))))) else (none)) else (none)
end
def lombardlaw29_CloseWhole.f (k : Nat) (a0 : Int) (l1 : List (S35)) : Option (Bool) := (lombardlaw29_layers.f k l1).bind fun t366 => ((close_Fall.f k a0 t366).bind fun bt369 => (if bt369.2.2 = 0 then (if (bt369.1.length : Int) = (l1.length : Int) then (lombardlaw29_CloseWhole.l0 k a0 l1 bt369.1 bt369.2.1 bt369.2.1 true 0) else (some false)) else (if (bt369.1.length : Int) = 0 then (if bt369.2.1 = 0 then ((lombardlaw29_awake.f k).bind fun t374 => (some t374)) else (some false)) else (some false))))
theorem lombardlaw29_CloseWhole.mono_l : ∀ k, (∀ y0 y1 y2 y3 y4 y5 y6, LeO (lombardlaw29_CloseWhole.l0 k y0 y1 y2 y3 y4 y5 y6) (lombardlaw29_CloseWhole.l0 (k + 1) y0 y1 y2 y3 y4 y5 y6)) ∧ (∀ y0 y1 y2 y3 y4 y5 y6 y7 y8, LeO (lombardlaw29_CloseWhole.l1 k y0 y1 y2 y3 y4 y5 y6 y7 y8) (lombardlaw29_CloseWhole.l1 (k + 1) y0 y1 y2 y3 y4 y5 y6 y7 y8))
  | 0 => ⟨fun _ _ _ _ _ _ _ r h => by simp [lombardlaw29_CloseWhole.l0] at h, fun _ _ _ _ _ _ _ _ _ r h => by simp [lombardlaw29_CloseWhole.l1] at h⟩
  | k + 1 => by
    obtain ⟨ih0, ih1⟩ := lombardlaw29_CloseWhole.mono_l k
    refine ⟨?_, ?_⟩
    · intro y0 y1 y2 y3 y4 y5 y6
      unfold lombardlaw29_CloseWhole.l0
      repeat' first
      | (with_reducible exact ih0 _ _ _ _ _ _ _)
      | (with_reducible exact ih1 _ _ _ _ _ _ _ _ _)
      | (with_reducible exact close_Fall.mono _ _ _)
      | (with_reducible exact lombardlaw29_awake.mono _)
      | (with_reducible exact lombardlaw29_layers.mono _ _)
      | (with_reducible exact LeO.refl _)
      | (with_reducible exact LeO.none _)
      | (with_reducible refine LeO.ite ?_ ?_)
      | (with_reducible refine LeO.bind ?_ (fun _ => ?_))
      | exact ih0 _ _ _ _ _ _ _
      | exact ih1 _ _ _ _ _ _ _ _ _
      | exact close_Fall.mono _ _ _
      | exact lombardlaw29_awake.mono _
      | exact lombardlaw29_layers.mono _ _
      | exact LeO.none _
      | refine LeO.ite ?_ ?_
      | refine LeO.bind ?_ (fun _ => ?_)
    · intro y0 y1 y2 y3 y4 y5 y6 y7 y8
      unfold lombardlaw29_CloseWhole.l1
      repeat' first
      | (with_reducible exact ih0 _ _ _ _ _ _ _)
      | (with_reducible exact ih1 _ _ _ _ _ _ _ _ _)
      | (with_reducible exact close_Fall.mono _ _ _)
      | (with_reducible exact lombardlaw29_awake.mono _)
      | (with_reducible exact lombardlaw29_layers.mono _ _)
      | (with_reducible exact LeO.refl _)
      | (with_reducible exact LeO.none _)
      | (with_reducible refine LeO.ite ?_ ?_)
      | (with_reducible refine LeO.bind ?_ (fun _ => ?_))
      | exact ih0 _ _ _ _ _ _ _
      | exact ih1 _ _ _ _ _ _ _ _ _
      | exact close_Fall.mono _ _ _
      | exact lombardlaw29_awake.mono _
      | exact lombardlaw29_layers.mono _ _
      | exact LeO.none _
      | refine LeO.ite ?_ ?_
      | refine LeO.bind ?_ (fun _ => ?_)
theorem lombardlaw29_CloseWhole.mono : ∀ a0 a1 k, LeO (lombardlaw29_CloseWhole.f k a0 a1) (lombardlaw29_CloseWhole.f (k + 1) a0 a1) := by
  intro a0 a1 k
  obtain ⟨ih0, ih1⟩ := lombardlaw29_CloseWhole.mono_l k
  unfold lombardlaw29_CloseWhole.f
  repeat' first
      | (with_reducible exact ih0 _ _ _ _ _ _ _)
      | (with_reducible exact ih1 _ _ _ _ _ _ _ _ _)
      | (with_reducible exact close_Fall.mono _ _ _)
      | (with_reducible exact lombardlaw29_awake.mono _)
      | (with_reducible exact lombardlaw29_layers.mono _ _)
      | (with_reducible exact LeO.refl _)
      | (with_reducible exact LeO.none _)
      | (with_reducible refine LeO.ite ?_ ?_)
      | (with_reducible refine LeO.bind ?_ (fun _ => ?_))
      | exact ih0 _ _ _ _ _ _ _
      | exact ih1 _ _ _ _ _ _ _ _ _
      | exact close_Fall.mono _ _ _
      | exact lombardlaw29_awake.mono _
      | exact lombardlaw29_layers.mono _ _
      | exact LeO.none _
      | refine LeO.ite ?_ ?_
      | refine LeO.bind ?_ (fun _ => ?_)
set_option maxHeartbeats 8000000 in
set_option maxRecDepth 100000 in
theorem lombardlaw29_CloseWhole.calls (k : Nat) (a0 : Int) (A1 : Option Addr) (c1 : Nat) (l1 : List (S35)) (r : Bool) (w : World) (hr1 : Kd.C k35 w A1 l1.length l1) (hc1 : l1.length ≤ c1) (h : lombardlaw29_CloseWhole.f k a0 l1 = some r) :
    Calls Try.prog 4 #[.int .i64 a0, .slice A1 l1.length c1] w fun e w' => e = .returned (.bool r) ∧ Below w.heap.size w w' := by
  have HR1 := Aside0.mk hr1
  have HC1 := Aside0.mk hc1
  clear hr1 hc1
  have HB := Aside0.mk (Below.refl w.heap.size w)
  have H : ((lombardlaw29_layers.f k l1).bind fun t366 => ((close_Fall.f k a0 t366).bind fun bt369 => (if bt369.2.2 = 0 then (if (bt369.1.length : Int) = (l1.length : Int) then (lombardlaw29_CloseWhole.l0 k a0 l1 bt369.1 bt369.2.1 bt369.2.1 true 0) else (some false)) else (if (bt369.1.length : Int) = 0 then (if bt369.2.1 = 0 then ((lombardlaw29_awake.f k).bind fun t374 => (some t374)) else (some false)) else (some false))))) = some r := h
  clear h
  replace H := Option.bind_eq_some_iff.mp H
  obtain ⟨t366, A30, H⟩ := H
  replace H : ((close_Fall.f k a0 t366).bind fun bt369 => (if bt369.2.2 = 0 then (if (bt369.1.length : Int) = (l1.length : Int) then (lombardlaw29_CloseWhole.l0 k a0 l1 bt369.1 bt369.2.1 bt369.2.1 true 0) else (some false)) else (if (bt369.1.length : Int) = 0 then (if bt369.2.1 = 0 then ((lombardlaw29_awake.f k).bind fun t374 => (some t374)) else (some false)) else (some false)))) = some r := H
  have A3 := Aside0.mk A30
  clear A30
  replace H := Option.bind_eq_some_iff.mp H
  obtain ⟨⟨t369, t370, t371⟩, A40, H⟩ := H
  replace H : (if t371 = 0 then (if (t369.length : Int) = (l1.length : Int) then (lombardlaw29_CloseWhole.l0 k a0 l1 t369 t370 t370 true 0) else (some false)) else (if (t369.length : Int) = 0 then (if t370 = 0 then ((lombardlaw29_awake.f k).bind fun t374 => (some t374)) else (some false)) else (some false))) = some r := H
  have A4 := Aside0.mk A40
  clear A40
  by_cases c5 : t371 = 0
  · rw [if_pos c5] at H
    have c5b0 : (t371 == 0) = true := beq_iff_eq.mpr c5
    have c5b1 : (t371 != 0) = false := bne_eq_false_iff_eq.mpr c5
    clear c5
    by_cases c6 : (t369.length : Int) = (l1.length : Int)
    · rw [if_pos c6] at H
      have c6b0 : ((t369.length : Int) == (l1.length : Int)) = true := beq_iff_eq.mpr c6
      have c6b1 : ((t369.length : Int) != (l1.length : Int)) = false := bne_eq_false_iff_eq.mpr c6
      have c6b2 : (t369.length == l1.length) = true := by first | simpa using c6 | (simp at c6 ⊢; omega)
      clear c6
      have H' := Aside0.mk H
      clear H
      go_enter Try.func4, Try.ntmps4
      go_wp2_with (first | (go_at_call 10; (with_reducible refine (lombardlaw29_layers.calls k (fun k_ => k_ < w.heap.size) _ _ l1 t366 _ ?side1 A3.out).mono ?_); (case side1 => exact Kd.V_mk HC1.out (Kd.F_below (Kd.C_F k35_heap HR1.out) (by repeat (first | (with_reducible first | exact HB.out | apply below_alloc | apply pw_below_drewN | apply below_drew1) | exact HB.out)))); rintro e w7 ⟨v367, rfl, ho0, hb⟩; (try clear A3); have n0_ := Aside0.mk (Kd.N_lower (Kd.N_mono (ok' := fun k_ => True) ho0 (fun k_ hk_ => trivial)) (below_size (by repeat (first | (with_reducible first | exact HB.out | apply below_alloc | apply pw_below_drewN | apply below_drew1) | exact HB.out)))); have n1_ := Aside0.mk (below_step (by repeat (first | (with_reducible first | exact HB.out | apply below_alloc | apply pw_below_drewN | apply below_drew1) | exact HB.out)) hb); clear HB; have HO368 := n0_; have HB := n1_; clear n0_ n1_; (try clear hb); (try clear hb2); (try clear hk); (try clear hi); (try clear ho0); obtain ⟨Ao8, co8, eo8⟩ := Kd.N_slice HO368.out; subst eo8) | (go_at_call 9; (with_reducible refine (close_Fall.calls k a0 _ _ t366 t369 t370 t371 _ ?side1 ?side2 A4.out).mono ?_); (case side1 => repeat (first | exact (Kd.N_reads' HO368.out).2.2 | (with_reducible refine Kd.C_alloc ?_ _) | (with_reducible refine Kd.C_drewN ?_ _) | (with_reducible refine Kd.C_drew ?_))); (case side2 => exact (Kd.N_reads' HO368.out).2.1); rintro e w9 ⟨v372, rfl, ho0, hb⟩; (try clear A4); have n0_ := Aside0.mk (Kd.N_elder' (by (with_reducible repeat (first | apply Kd.N_alloc | apply Kd.N_drewN | apply Kd.N_drew)); exact HO368.out) (by first | exact Kd.N_base ho0 | exact Kd.S_base ho0 | exact Kd.R_base ho0) hb); have n1_ := Aside0.mk (Kd.N_lower (Kd.N_mono (ok' := fun k_ => some k_ ≠ (.slice Ao8 t366.length co8 : Value).ownBlock) (Kd.S_N (Kd.S_bound ho0)) (fun k_ hk_ => (Kd.fresh' (Kd.N_lt (by (with_reducible repeat (first | apply Kd.N_alloc | apply Kd.N_drewN | apply Kd.N_drew)); exact HO368.out)) k_ hk_.2.1))) (below_size (by repeat (first | (with_reducible first | exact HB.out | apply below_alloc | apply pw_below_drewN | apply below_drew1) | exact HB.out)))); have n2_ := Aside0.mk (below_step (by repeat (first | (with_reducible first | exact HB.out | apply below_alloc | apply pw_below_drewN | apply below_drew1) | exact HB.out)) hb); clear HO368; clear HB; have HO368 := n0_; have HO373 := n1_; have HB := n2_; clear n0_ n1_ n2_; (try clear hb); (try clear hb2); (try clear hk); (try clear hi); (try clear ho0); obtain ⟨Ao10, co10, eo10⟩ := Kd.N_slice HO373.out; subst eo10))
      repeat (go_quiet (first | (go_at_call 10; (with_reducible refine (lombardlaw29_layers.calls k (fun k_ => k_ < w.heap.size) _ _ l1 t366 _ ?side1 A3.out).mono ?_); (case side1 => exact Kd.V_mk HC1.out (Kd.F_below (Kd.C_F k35_heap HR1.out) (by repeat (first | (with_reducible first | exact HB.out | apply below_alloc | apply pw_below_drewN | apply below_drew1) | exact HB.out)))); rintro e w7 ⟨v367, rfl, ho0, hb⟩; (try clear A3); have n0_ := Aside0.mk (Kd.N_lower (Kd.N_mono (ok' := fun k_ => True) ho0 (fun k_ hk_ => trivial)) (below_size (by repeat (first | (with_reducible first | exact HB.out | apply below_alloc | apply pw_below_drewN | apply below_drew1) | exact HB.out)))); have n1_ := Aside0.mk (below_step (by repeat (first | (with_reducible first | exact HB.out | apply below_alloc | apply pw_below_drewN | apply below_drew1) | exact HB.out)) hb); clear HB; have HO368 := n0_; have HB := n1_; clear n0_ n1_; (try clear hb); (try clear hb2); (try clear hk); (try clear hi); (try clear ho0); obtain ⟨Ao8, co8, eo8⟩ := Kd.N_slice HO368.out; subst eo8) | (go_at_call 9; (with_reducible refine (close_Fall.calls k a0 _ _ t366 t369 t370 t371 _ ?side1 ?side2 A4.out).mono ?_); (case side1 => repeat (first | exact (Kd.N_reads' HO368.out).2.2 | (with_reducible refine Kd.C_alloc ?_ _) | (with_reducible refine Kd.C_drewN ?_ _) | (with_reducible refine Kd.C_drew ?_))); (case side2 => exact (Kd.N_reads' HO368.out).2.1); rintro e w9 ⟨v372, rfl, ho0, hb⟩; (try clear A4); have n0_ := Aside0.mk (Kd.N_elder' (by (with_reducible repeat (first | apply Kd.N_alloc | apply Kd.N_drewN | apply Kd.N_drew)); exact HO368.out) (by first | exact Kd.N_base ho0 | exact Kd.S_base ho0 | exact Kd.R_base ho0) hb); have n1_ := Aside0.mk (Kd.N_lower (Kd.N_mono (ok' := fun k_ => some k_ ≠ (.slice Ao8 t366.length co8 : Value).ownBlock) (Kd.S_N (Kd.S_bound ho0)) (fun k_ hk_ => (Kd.fresh' (Kd.N_lt (by (with_reducible repeat (first | apply Kd.N_alloc | apply Kd.N_drewN | apply Kd.N_drew)); exact HO368.out)) k_ hk_.2.1))) (below_size (by repeat (first | (with_reducible first | exact HB.out | apply below_alloc | apply pw_below_drewN | apply below_drew1) | exact HB.out)))); have n2_ := Aside0.mk (below_step (by repeat (first | (with_reducible first | exact HB.out | apply below_alloc | apply pw_below_drewN | apply below_drew1) | exact HB.out)) hb); clear HO368; clear HB; have HO368 := n0_; have HO373 := n1_; have HB := n2_; clear n0_ n1_ n2_; (try clear hb); (try clear hb2); (try clear hk); (try clear hi); (try clear ho0); obtain ⟨Ao10, co10, eo10⟩ := Kd.N_slice HO373.out; subst eo10)); try go_wp2_with (first | (go_at_call 10; (with_reducible refine (lombardlaw29_layers.calls k (fun k_ => k_ < w.heap.size) _ _ l1 t366 _ ?side1 A3.out).mono ?_); (case side1 => exact Kd.V_mk HC1.out (Kd.F_below (Kd.C_F k35_heap HR1.out) (by repeat (first | (with_reducible first | exact HB.out | apply below_alloc | apply pw_below_drewN | apply below_drew1) | exact HB.out)))); rintro e w7 ⟨v367, rfl, ho0, hb⟩; (try clear A3); have n0_ := Aside0.mk (Kd.N_lower (Kd.N_mono (ok' := fun k_ => True) ho0 (fun k_ hk_ => trivial)) (below_size (by repeat (first | (with_reducible first | exact HB.out | apply below_alloc | apply pw_below_drewN | apply below_drew1) | exact HB.out)))); have n1_ := Aside0.mk (below_step (by repeat (first | (with_reducible first | exact HB.out | apply below_alloc | apply pw_below_drewN | apply below_drew1) | exact HB.out)) hb); clear HB; have HO368 := n0_; have HB := n1_; clear n0_ n1_; (try clear hb); (try clear hb2); (try clear hk); (try clear hi); (try clear ho0); obtain ⟨Ao8, co8, eo8⟩ := Kd.N_slice HO368.out; subst eo8) | (go_at_call 9; (with_reducible refine (close_Fall.calls k a0 _ _ t366 t369 t370 t371 _ ?side1 ?side2 A4.out).mono ?_); (case side1 => repeat (first | exact (Kd.N_reads' HO368.out).2.2 | (with_reducible refine Kd.C_alloc ?_ _) | (with_reducible refine Kd.C_drewN ?_ _) | (with_reducible refine Kd.C_drew ?_))); (case side2 => exact (Kd.N_reads' HO368.out).2.1); rintro e w9 ⟨v372, rfl, ho0, hb⟩; (try clear A4); have n0_ := Aside0.mk (Kd.N_elder' (by (with_reducible repeat (first | apply Kd.N_alloc | apply Kd.N_drewN | apply Kd.N_drew)); exact HO368.out) (by first | exact Kd.N_base ho0 | exact Kd.S_base ho0 | exact Kd.R_base ho0) hb); have n1_ := Aside0.mk (Kd.N_lower (Kd.N_mono (ok' := fun k_ => some k_ ≠ (.slice Ao8 t366.length co8 : Value).ownBlock) (Kd.S_N (Kd.S_bound ho0)) (fun k_ hk_ => (Kd.fresh' (Kd.N_lt (by (with_reducible repeat (first | apply Kd.N_alloc | apply Kd.N_drewN | apply Kd.N_drew)); exact HO368.out)) k_ hk_.2.1))) (below_size (by repeat (first | (with_reducible first | exact HB.out | apply below_alloc | apply pw_below_drewN | apply below_drew1) | exact HB.out)))); have n2_ := Aside0.mk (below_step (by repeat (first | (with_reducible first | exact HB.out | apply below_alloc | apply pw_below_drewN | apply below_drew1) | exact HB.out)) hb); clear HO368; clear HB; have HO368 := n0_; have HO373 := n1_; have HB := n2_; clear n0_ n1_ n2_; (try clear hb); (try clear hb2); (try clear hk); (try clear hi); (try clear ho0); obtain ⟨Ao10, co10, eo10⟩ := Kd.N_slice HO373.out; subst eo10)))
      go_loopg [8, 9, 10] k (fun kq v8 v9 v10 w' => ∃ (x8_1 : Int) (x9_1 : Bool) (x10_1 : Int), v8 = .int .i64 x8_1 ∧ v9 = .bool x9_1 ∧ v10 = .int .i64 x10_1 ∧ Aside0 (lombardlaw29_CloseWhole.l0 kq a0 l1 t369 t370 x8_1 x9_1 x10_1 = some r) ∧ Aside0 (kq ≤ k) ∧ Aside0 (Kd.N k34 34 w' w.heap.size (fun _ => True) (.slice Ao10 t369.length co10) t369) ∧ Aside0 (Below w.heap.size w w'))
      case atStart => exact ⟨(t370), (true), (0), (by first | rfl | (simp; done) | (simp [*]; done)), (by first | rfl | (simp; done) | (simp [*]; done)), (by first | rfl | (simp; done) | (simp [*]; done)), H', ⟨Nat.le_refl _⟩, ⟨by (with_reducible repeat (first | apply Kd.N_alloc | apply Kd.N_drewN | apply Kd.N_drew)); exact Kd.N_mono HO373.out (fun _ hk => trivial)⟩, ⟨by repeat (first | (with_reducible first | exact HB.out | apply below_alloc | apply pw_below_drewN | apply below_drew1) | exact HB.out)⟩⟩
      case round =>
        clear H'
        try clear c1
        try clear p2
        try clear c4
        try clear c5
        try clear c5b0
        try clear c5b1
        try clear c6
        try clear c6b0
        try clear c6b1
        try clear c6b2
        obtain ⟨x8_1, x9_1, x10_1, rfl, rfl, rfl, HA, HK1, HO_5, HB⟩ := hrel
        cases gk with
        | zero => exact absurd HA.out (by simp [lombardlaw29_CloseWhole.l0])
        | succ k1 =>
          have H := HA.out
          clear HA
          simp only [lombardlaw29_CloseWhole.l0] at H
          by_cases c11 : x10_1 < (l1.length : Int)
          · rw [if_pos c11] at H
            have c11b0 : decide (x10_1 < (l1.length : Int)) = true := decide_eq_true c11
            clear c11
            by_cases c12 : 0 ≤ x10_1
            · rw [if_pos c12] at H
              have c12b0 : decide (0 ≤ x10_1) = true := decide_eq_true c12
              clear c12
              by_cases c13 : x10_1 < (t369.length : Int)
              · rw [if_pos c13] at H
                have c13b0 : decide (x10_1 < (t369.length : Int)) = true := decide_eq_true c13
                clear c13
                by_cases c14 : (((rd_T34 t369 x10_1).f1).length : Int) = (((rd_T35 l1 x10_1).f1).length : Int)
                · rw [if_pos c14] at H
                  have c14b0 : ((((rd_T34 t369 x10_1).f1).length : Int) == (((rd_T35 l1 x10_1).f1).length : Int)) = true := beq_iff_eq.mpr c14
                  have c14b1 : ((((rd_T34 t369 x10_1).f1).length : Int) != (((rd_T35 l1 x10_1).f1).length : Int)) = false := bne_eq_false_iff_eq.mpr c14
                  have c14b2 : (((rd_T34 t369 x10_1).f1).length == ((rd_T35 l1 x10_1).f1).length) = true := by first | simpa using c14 | (simp at c14 ⊢; omega)
                  clear c14
                  have H' := Aside0.mk H
                  clear H
                  have p377 : 0 ≤ (x10_1 : Int) := of_decide_eq_true (by first | (with_reducible assumption) | assumption)
                  have q377 : x10_1 < (t369.length : Int) := of_decide_eq_true (by first | (with_reducible assumption) | assumption)
                  obtain ⟨ad377, A377_1, c377_1, e377, hx377_0, hx377_1, hl377_1, hi377_1⟩ := at_T34 (Kd.N_reads' HO_5.out).2.2 x10_1 p377 q377
                  cases e377
                  obtain ⟨ce377, hce377, hMe377, hcc377⟩ := Kd.N_get HO_5.out z34 x10_1 p377 (by first | exact q377 | exact of_decide_eq_true (by first | (with_reducible assumption) | assumption) | (have e_ := (Kd.N_reads' HO_5.out).1; omega))
                  obtain ⟨ua377_1, uc377_1, rfl, ul377_1, ge377_1⟩ := k34_openF hMe377
                  have hv377_1 := hcc377 1 _ rfl
                  rw [add_field _ _ 1 (by omega)] at hv377_1
                  replace hv377_1 := Option.some.inj (hv377_1.symm.trans hx377_1)
                  injection hv377_1 with hva_ hvn_ hvc_
                  rw [hva_] at ge377_1
                  rw [hvc_] at ul377_1
                  have HL377_1 := Aside0.mk (show Kd.V (Kd.int .i64) 3 _ w.heap.size _ _ ((rd_T34 t369 x10_1).f1) from Kd.V_mk ul377_1 ge377_1)
                  clear hva_ hvn_ hvc_ ge377_1 ul377_1
                  clear hcc377 hce377
                  have HR377_1 := Aside0.mk hi377_1
                  have HC377_1 := Aside0.mk hl377_1
                  clear hi377_1 hl377_1
                  replace p377 := eq_true p377
                  replace q377 := eq_true q377
                  have p378 : 0 ≤ (x10_1 : Int) := of_decide_eq_true (by first | (with_reducible assumption) | assumption)
                  have q378 : x10_1 < (l1.length : Int) := of_decide_eq_true (by first | (with_reducible assumption) | assumption)
                  obtain ⟨ad378, A378_1, c378_1, e378, hx378_0, hx378_1, hl378_1, hi378_1⟩ := at_T35 HR1.out x10_1 p378 q378
                  cases e378
                  replace hx378_0 := (HB.out.cell (World.block_lt_of_cell? w _ hx378_0)).trans hx378_0
                  replace hx378_1 := (HB.out.cell (World.block_lt_of_cell? w _ hx378_1)).trans hx378_1
                  have HR378_1 := Aside0.mk hi378_1
                  have HC378_1 := Aside0.mk hl378_1
                  clear hi378_1 hl378_1
                  replace p378 := eq_true p378
                  replace q378 := eq_true q378
                  go_wp2
                  repeat (go_quiet (fail); try go_wp2)
                  go_loopg [8, 11, 12] k1 (fun kq v8 v11 v12 w' => ∃ (x8_2 : Int) (x11_2 : Int) (x12_2 : Int), v8 = .int .i64 x8_2 ∧ v11 = .int .i64 x11_2 ∧ v12 = .int .i64 x12_2 ∧ Aside0 (lombardlaw29_CloseWhole.l1 kq a0 l1 t369 t370 x8_2 x9_1 x10_1 x11_2 x12_2 = some r) ∧ Aside0 (kq ≤ k1) ∧ Aside0 (Kd.N k34 34 w' w.heap.size (fun _ => True) (.slice (some ad377) t369.length co10) t369) ∧ Aside0 (Kd.C (Kd.int .i64) w' A377_1 ((rd_T34 t369 x10_1).f1).length ((rd_T34 t369 x10_1).f1)) ∧ Aside0 (Below w.heap.size w w'))
                  case atStart => exact ⟨(x8_1), (0), (0), (by first | rfl | (simp; done) | (simp [*]; done)), (by first | rfl | (simp; done) | (simp [*]; done)), (by first | rfl | (simp; done) | (simp [*]; done)), H', ⟨Nat.le_refl _⟩, ⟨by (with_reducible repeat (first | apply Kd.N_alloc | apply Kd.N_drewN | apply Kd.N_drew)); exact HO_5.out⟩, ⟨by repeat (first | (with_reducible exact HR377_1.out) | (with_reducible refine Kd.C_alloc ?_ _) | (with_reducible refine Kd.C_drewN ?_ _) | (with_reducible refine Kd.C_drew ?_) | exact HR377_1.out | exact (Kd.V_reads' HL377_1.out).2.2)⟩, ⟨by repeat (first | (with_reducible first | exact HB.out | apply below_alloc | apply pw_below_drewN | apply below_drew1) | exact HB.out)⟩⟩
                  case round =>
                    clear H'
                    try clear c1
                    try clear p2
                    try clear c3
                    try clear p3
                    try clear q3
                    try clear hx3
                    try clear c4
                    try clear c5
                    try clear c5b0
                    try clear c5b1
                    try clear c6
                    try clear c6b0
                    try clear c6b1
                    try clear c6b2
                    try clear c11
                    try clear c11b0
                    try clear c12
                    try clear c12b0
                    try clear c13
                    try clear c13b0
                    try clear c14
                    try clear c14b0
                    try clear c14b1
                    try clear c14b2
                    try clear hx377_0
                    try clear hx377_1
                    try clear hx378_0
                    try clear hx378_1
                    try clear p2
                    try clear p377
                    try clear p378
                    try clear q377
                    try clear q378
                    obtain ⟨x8_2, x11_2, x12_2, rfl, rfl, rfl, HA, HK2, HO_5, HR377_1, HB⟩ := hrel
                    cases gk with
                    | zero => exact absurd HA.out (by simp [lombardlaw29_CloseWhole.l1])
                    | succ k2 =>
                      have H := HA.out
                      clear HA
                      simp only [lombardlaw29_CloseWhole.l1] at H
                      by_cases c15 : 0 ≤ x10_1
                      · rw [if_pos c15] at H
                        have c15b0 : decide (0 ≤ x10_1) = true := decide_eq_true c15
                        clear c15
                        by_cases c16 : x10_1 < (l1.length : Int)
                        · rw [if_pos c16] at H
                          have c16b0 : decide (x10_1 < (l1.length : Int)) = true := decide_eq_true c16
                          clear c16
                          by_cases c17 : x12_2 < (((rd_T35 l1 x10_1).f1).length : Int)
                          · rw [if_pos c17] at H
                            have c17b0 : decide (x12_2 < (((rd_T35 l1 x10_1).f1).length : Int)) = true := decide_eq_true c17
                            clear c17
                            by_cases c18 : x10_1 < (t369.length : Int)
                            · rw [if_pos c18] at H
                              have c18b0 : decide (x10_1 < (t369.length : Int)) = true := decide_eq_true c18
                              clear c18
                              by_cases c19 : 0 ≤ x12_2
                              · rw [if_pos c19] at H
                                have c19b0 : decide (0 ≤ x12_2) = true := decide_eq_true c19
                                clear c19
                                by_cases c20 : x12_2 < (((rd_T34 t369 x10_1).f1).length : Int)
                                · rw [if_pos c20] at H
                                  have c20b0 : decide (x12_2 < (((rd_T34 t369 x10_1).f1).length : Int)) = true := decide_eq_true c20
                                  clear c20
                                  by_cases c21 : (rd ((rd_T34 t369 x10_1).f1) x12_2) < 0
                                  · rw [if_pos c21] at H
                                    have c21b0 : decide ((rd ((rd_T34 t369 x10_1).f1) x12_2) < 0) = true := decide_eq_true c21
                                    clear c21
                                    obtain rfl := Option.some.inj H
                                    have p379 : 0 ≤ (x10_1 : Int) := of_decide_eq_true (by first | (with_reducible assumption) | assumption)
                                    have q379 : x10_1 < (l1.length : Int) := of_decide_eq_true (by first | (with_reducible assumption) | assumption)
                                    obtain ⟨ad379, A379_1, c379_1, e379, hx379_0, hx379_1, hl379_1, hi379_1⟩ := at_T35 HR1.out x10_1 p379 q379
                                    obtain rfl : ad378 = ad379 := (by injection e379)
                                    replace hx379_0 := (HB.out.cell (World.block_lt_of_cell? w _ hx379_0)).trans hx379_0
                                    replace hx379_1 := (HB.out.cell (World.block_lt_of_cell? w _ hx379_1)).trans hx379_1
                                    have HR379_1 := Aside0.mk hi379_1
                                    have HC379_1 := Aside0.mk hl379_1
                                    clear hi379_1 hl379_1
                                    replace p379 := eq_true p379
                                    replace q379 := eq_true q379
                                    have p380 : 0 ≤ (x10_1 : Int) := of_decide_eq_true (by first | (with_reducible assumption) | assumption)
                                    have q380 : x10_1 < (t369.length : Int) := of_decide_eq_true (by first | (with_reducible assumption) | assumption)
                                    obtain ⟨ad380, A380_1, c380_1, e380, hx380_0, hx380_1, hl380_1, hi380_1⟩ := at_T34 (Kd.N_reads' HO_5.out).2.2 x10_1 p380 q380
                                    obtain rfl : ad377 = ad380 := (by injection e380)
                                    obtain ⟨ce380, hce380, hMe380, hcc380⟩ := Kd.N_get HO_5.out z34 x10_1 p380 (by first | exact q380 | exact of_decide_eq_true (by first | (with_reducible assumption) | assumption) | (have e_ := (Kd.N_reads' HO_5.out).1; omega))
                                    obtain ⟨ua380_1, uc380_1, rfl, ul380_1, ge380_1⟩ := k34_openF hMe380
                                    have hv380_1 := hcc380 1 _ rfl
                                    rw [add_field _ _ 1 (by omega)] at hv380_1
                                    replace hv380_1 := Option.some.inj (hv380_1.symm.trans hx380_1)
                                    injection hv380_1 with hva_ hvn_ hvc_
                                    rw [hva_] at ge380_1
                                    rw [hvc_] at ul380_1
                                    have HL380_1 := Aside0.mk (show Kd.V (Kd.int .i64) 3 _ w.heap.size _ _ ((rd_T34 t369 x10_1).f1) from Kd.V_mk ul380_1 ge380_1)
                                    clear hva_ hvn_ hvc_ ge380_1 ul380_1
                                    clear hcc380 hce380
                                    have HR380_1 := Aside0.mk hi380_1
                                    have HC380_1 := Aside0.mk hl380_1
                                    clear hi380_1 hl380_1
                                    replace p380 := eq_true p380
                                    replace q380 := eq_true q380
                                    have p381 : 0 ≤ (x12_2 : Int) := of_decide_eq_true (by first | (with_reducible assumption) | assumption)
                                    have q381 : x12_2 < (((rd_T34 t369 x10_1).f1).length : Int) := of_decide_eq_true (by first | (with_reducible assumption) | assumption)
                                    obtain ⟨ad381, e381, hx381_0⟩ := Kd.at_int (by repeat (first | (with_reducible exact HR380_1.out) | (with_reducible refine Kd.C_alloc ?_ _) | (with_reducible refine Kd.C_drewN ?_ _) | (with_reducible refine Kd.C_drew ?_) | exact HR380_1.out | exact (Kd.V_reads' HL380_1.out).2.2)) x12_2 p381 q381
                                    cases e381
                                    replace p381 := eq_true p381
                                    replace q381 := eq_true q381
                                    go_wp2
                                    repeat (go_quiet (fail); try go_wp2)
                                    go_ret
                                    exact ⟨by first | rfl | (simp [errW_none, errW_some] <;> rfl) | (simp [*, errW_none, errW_some] <;> rfl), by repeat (first | (with_reducible first | exact HB.out | apply below_alloc | apply pw_below_drewN | apply below_drew1) | exact HB.out)⟩
                                  · rw [if_neg c21] at H
                                    have c21b0 : decide ((rd ((rd_T34 t369 x10_1).f1) x12_2) < 0) = false := decide_eq_false c21
                                    clear c21
                                    by_cases c22 : (rd ((rd_T34 t369 x10_1).f1) x12_2) > (rd ((rd_T35 l1 x10_1).f1) x12_2)
                                    · rw [if_pos c22] at H
                                      have c22b0 : decide ((rd ((rd_T35 l1 x10_1).f1) x12_2) < (rd ((rd_T34 t369 x10_1).f1) x12_2)) = true := decide_eq_true c22
                                      clear c22
                                      obtain rfl := Option.some.inj H
                                      have p379 : 0 ≤ (x10_1 : Int) := of_decide_eq_true (by first | (with_reducible assumption) | assumption)
                                      have q379 : x10_1 < (l1.length : Int) := of_decide_eq_true (by first | (with_reducible assumption) | assumption)
                                      obtain ⟨ad379, A379_1, c379_1, e379, hx379_0, hx379_1, hl379_1, hi379_1⟩ := at_T35 HR1.out x10_1 p379 q379
                                      obtain rfl : ad378 = ad379 := (by injection e379)
                                      replace hx379_0 := (HB.out.cell (World.block_lt_of_cell? w _ hx379_0)).trans hx379_0
                                      replace hx379_1 := (HB.out.cell (World.block_lt_of_cell? w _ hx379_1)).trans hx379_1
                                      have HR379_1 := Aside0.mk hi379_1
                                      have HC379_1 := Aside0.mk hl379_1
                                      clear hi379_1 hl379_1
                                      replace p379 := eq_true p379
                                      replace q379 := eq_true q379
                                      have p380 : 0 ≤ (x10_1 : Int) := of_decide_eq_true (by first | (with_reducible assumption) | assumption)
                                      have q380 : x10_1 < (t369.length : Int) := of_decide_eq_true (by first | (with_reducible assumption) | assumption)
                                      obtain ⟨ad380, A380_1, c380_1, e380, hx380_0, hx380_1, hl380_1, hi380_1⟩ := at_T34 (Kd.N_reads' HO_5.out).2.2 x10_1 p380 q380
                                      obtain rfl : ad377 = ad380 := (by injection e380)
                                      obtain ⟨ce380, hce380, hMe380, hcc380⟩ := Kd.N_get HO_5.out z34 x10_1 p380 (by first | exact q380 | exact of_decide_eq_true (by first | (with_reducible assumption) | assumption) | (have e_ := (Kd.N_reads' HO_5.out).1; omega))
                                      obtain ⟨ua380_1, uc380_1, rfl, ul380_1, ge380_1⟩ := k34_openF hMe380
                                      have hv380_1 := hcc380 1 _ rfl
                                      rw [add_field _ _ 1 (by omega)] at hv380_1
                                      replace hv380_1 := Option.some.inj (hv380_1.symm.trans hx380_1)
                                      injection hv380_1 with hva_ hvn_ hvc_
                                      rw [hva_] at ge380_1
                                      rw [hvc_] at ul380_1
                                      have HL380_1 := Aside0.mk (show Kd.V (Kd.int .i64) 3 _ w.heap.size _ _ ((rd_T34 t369 x10_1).f1) from Kd.V_mk ul380_1 ge380_1)
                                      clear hva_ hvn_ hvc_ ge380_1 ul380_1
                                      clear hcc380 hce380
                                      have HR380_1 := Aside0.mk hi380_1
                                      have HC380_1 := Aside0.mk hl380_1
                                      clear hi380_1 hl380_1
                                      replace p380 := eq_true p380
                                      replace q380 := eq_true q380
                                      have p381 : 0 ≤ (x12_2 : Int) := of_decide_eq_true (by first | (with_reducible assumption) | assumption)
                                      have q381 : x12_2 < (((rd_T34 t369 x10_1).f1).length : Int) := of_decide_eq_true (by first | (with_reducible assumption) | assumption)
                                      obtain ⟨ad381, e381, hx381_0⟩ := Kd.at_int (by repeat (first | (with_reducible exact HR380_1.out) | (with_reducible refine Kd.C_alloc ?_ _) | (with_reducible refine Kd.C_drewN ?_ _) | (with_reducible refine Kd.C_drew ?_) | exact HR380_1.out | exact (Kd.V_reads' HL380_1.out).2.2)) x12_2 p381 q381
                                      cases e381
                                      replace p381 := eq_true p381
                                      replace q381 := eq_true q381
                                      have p382 : 0 ≤ (x10_1 : Int) := of_decide_eq_true (by first | (with_reducible assumption) | assumption)
                                      have q382 : x10_1 < (t369.length : Int) := of_decide_eq_true (by first | (with_reducible assumption) | assumption)
                                      obtain ⟨ad382, A382_1, c382_1, e382, hx382_0, hx382_1, hl382_1, hi382_1⟩ := at_T34 (Kd.N_reads' HO_5.out).2.2 x10_1 p382 q382
                                      obtain rfl : ad377 = ad382 := (by injection e382)
                                      obtain ⟨ce382, hce382, hMe382, hcc382⟩ := Kd.N_get HO_5.out z34 x10_1 p382 (by first | exact q382 | exact of_decide_eq_true (by first | (with_reducible assumption) | assumption) | (have e_ := (Kd.N_reads' HO_5.out).1; omega))
                                      obtain ⟨ua382_1, uc382_1, rfl, ul382_1, ge382_1⟩ := k34_openF hMe382
                                      have hv382_1 := hcc382 1 _ rfl
                                      rw [add_field _ _ 1 (by omega)] at hv382_1
                                      replace hv382_1 := Option.some.inj (hv382_1.symm.trans hx382_1)
                                      injection hv382_1 with hva_ hvn_ hvc_
                                      rw [hva_] at ge382_1
                                      rw [hvc_] at ul382_1
                                      have HL382_1 := Aside0.mk (show Kd.V (Kd.int .i64) 3 _ w.heap.size _ _ ((rd_T34 t369 x10_1).f1) from Kd.V_mk ul382_1 ge382_1)
                                      clear hva_ hvn_ hvc_ ge382_1 ul382_1
                                      clear hcc382 hce382
                                      have HR382_1 := Aside0.mk hi382_1
                                      have HC382_1 := Aside0.mk hl382_1
                                      clear hi382_1 hl382_1
                                      replace p382 := eq_true p382
                                      replace q382 := eq_true q382
                                      have ea_ := Option.some.inj (hx380_1.symm.trans hx382_1)
                                      injection ea_ with ea_ en_ ec_
                                      subst ea_
                                      subst ec_
                                      clear en_
                                      have p383 : 0 ≤ (x12_2 : Int) := of_decide_eq_true (by first | (with_reducible assumption) | assumption)
                                      have q383 : x12_2 < (((rd_T34 t369 x10_1).f1).length : Int) := of_decide_eq_true (by first | (with_reducible assumption) | assumption)
                                      obtain ⟨ad383, e383, hx383_0⟩ := Kd.at_int (by repeat (first | (with_reducible exact HR382_1.out) | (with_reducible refine Kd.C_alloc ?_ _) | (with_reducible refine Kd.C_drewN ?_ _) | (with_reducible refine Kd.C_drew ?_) | exact HR382_1.out | exact (Kd.V_reads' HL382_1.out).2.2)) x12_2 p383 q383
                                      cases e383
                                      replace p383 := eq_true p383
                                      replace q383 := eq_true q383
                                      have p384 : 0 ≤ (x10_1 : Int) := of_decide_eq_true (by first | (with_reducible assumption) | assumption)
                                      have q384 : x10_1 < (l1.length : Int) := of_decide_eq_true (by first | (with_reducible assumption) | assumption)
                                      obtain ⟨ad384, A384_1, c384_1, e384, hx384_0, hx384_1, hl384_1, hi384_1⟩ := at_T35 HR1.out x10_1 p384 q384
                                      obtain rfl : ad378 = ad384 := (by injection e384)
                                      replace hx384_0 := (HB.out.cell (World.block_lt_of_cell? w _ hx384_0)).trans hx384_0
                                      replace hx384_1 := (HB.out.cell (World.block_lt_of_cell? w _ hx384_1)).trans hx384_1
                                      have HR384_1 := Aside0.mk hi384_1
                                      have HC384_1 := Aside0.mk hl384_1
                                      clear hi384_1 hl384_1
                                      replace p384 := eq_true p384
                                      replace q384 := eq_true q384
                                      have ea_ := Option.some.inj (hx379_1.symm.trans hx384_1)
                                      injection ea_ with ea_ en_ ec_
                                      subst ea_
                                      subst ec_
                                      clear en_
                                      have p385 : 0 ≤ (x12_2 : Int) := of_decide_eq_true (by first | (with_reducible assumption) | assumption)
                                      have q385 : x12_2 < (((rd_T35 l1 x10_1).f1).length : Int) := of_decide_eq_true (by first | (with_reducible assumption) | assumption)
                                      obtain ⟨ad385, e385, hx385_0⟩ := Kd.at_int HR384_1.out x12_2 p385 q385
                                      cases e385
                                      replace hx385_0 := (HB.out.cell (World.block_lt_of_cell? w _ hx385_0)).trans hx385_0
                                      replace p385 := eq_true p385
                                      replace q385 := eq_true q385
                                      go_wp2
                                      repeat (go_quiet (fail); try go_wp2)
                                      go_ret
                                      exact ⟨by first | rfl | (simp [errW_none, errW_some] <;> rfl) | (simp [*, errW_none, errW_some] <;> rfl), by repeat (first | (with_reducible first | exact HB.out | apply below_alloc | apply pw_below_drewN | apply below_drew1) | exact HB.out)⟩
                                    · rw [if_neg c22] at H
                                      have c22b0 : decide ((rd ((rd_T35 l1 x10_1).f1) x12_2) < (rd ((rd_T34 t369 x10_1).f1) x12_2)) = false := decide_eq_false c22
                                      clear c22
                                      by_cases c23 : (rd ((rd_T34 t369 x10_1).f1) x12_2) > 0
                                      · rw [if_pos c23] at H
                                        have c23b0 : decide (0 < (rd ((rd_T34 t369 x10_1).f1) x12_2)) = true := decide_eq_true c23
                                        clear c23
                                        by_cases c24 : x9_1 = true
                                        · subst c24
                                          have H1 : (lombardlaw29_CloseWhole.l1 k2 a0 l1 t369 t370 (wrap64 (x8_2 + (rd ((rd_T34 t369 x10_1).f1) x12_2))) true x10_1 (wrap64 ((wrap64 (x11_2 + (rd ((rd_T35 l1 x10_1).f1) x12_2))) - (rd ((rd_T34 t369 x10_1).f1) x12_2))) (wrap64 (x12_2 + 1))) = some r := by rw [if_pos rfl] at H; exact H
                                          clear H
                                          have H := H1
                                          clear H1
                                          have H' := Aside0.mk H
                                          clear H
                                          have p379 : 0 ≤ (x10_1 : Int) := of_decide_eq_true (by first | (with_reducible assumption) | assumption)
                                          have q379 : x10_1 < (l1.length : Int) := of_decide_eq_true (by first | (with_reducible assumption) | assumption)
                                          obtain ⟨ad379, A379_1, c379_1, e379, hx379_0, hx379_1, hl379_1, hi379_1⟩ := at_T35 HR1.out x10_1 p379 q379
                                          obtain rfl : ad378 = ad379 := (by injection e379)
                                          replace hx379_0 := (HB.out.cell (World.block_lt_of_cell? w _ hx379_0)).trans hx379_0
                                          replace hx379_1 := (HB.out.cell (World.block_lt_of_cell? w _ hx379_1)).trans hx379_1
                                          have HR379_1 := Aside0.mk hi379_1
                                          have HC379_1 := Aside0.mk hl379_1
                                          clear hi379_1 hl379_1
                                          replace p379 := eq_true p379
                                          replace q379 := eq_true q379
                                          have p380 : 0 ≤ (x10_1 : Int) := of_decide_eq_true (by first | (with_reducible assumption) | assumption)
                                          have q380 : x10_1 < (t369.length : Int) := of_decide_eq_true (by first | (with_reducible assumption) | assumption)
                                          obtain ⟨ad380, A380_1, c380_1, e380, hx380_0, hx380_1, hl380_1, hi380_1⟩ := at_T34 (Kd.N_reads' HO_5.out).2.2 x10_1 p380 q380
                                          obtain rfl : ad377 = ad380 := (by injection e380)
                                          obtain ⟨ce380, hce380, hMe380, hcc380⟩ := Kd.N_get HO_5.out z34 x10_1 p380 (by first | exact q380 | exact of_decide_eq_true (by first | (with_reducible assumption) | assumption) | (have e_ := (Kd.N_reads' HO_5.out).1; omega))
                                          obtain ⟨ua380_1, uc380_1, rfl, ul380_1, ge380_1⟩ := k34_openF hMe380
                                          have hv380_1 := hcc380 1 _ rfl
                                          rw [add_field _ _ 1 (by omega)] at hv380_1
                                          replace hv380_1 := Option.some.inj (hv380_1.symm.trans hx380_1)
                                          injection hv380_1 with hva_ hvn_ hvc_
                                          rw [hva_] at ge380_1
                                          rw [hvc_] at ul380_1
                                          have HL380_1 := Aside0.mk (show Kd.V (Kd.int .i64) 3 _ w.heap.size _ _ ((rd_T34 t369 x10_1).f1) from Kd.V_mk ul380_1 ge380_1)
                                          clear hva_ hvn_ hvc_ ge380_1 ul380_1
                                          clear hcc380 hce380
                                          have HR380_1 := Aside0.mk hi380_1
                                          have HC380_1 := Aside0.mk hl380_1
                                          clear hi380_1 hl380_1
                                          replace p380 := eq_true p380
                                          replace q380 := eq_true q380
                                          have p381 : 0 ≤ (x12_2 : Int) := of_decide_eq_true (by first | (with_reducible assumption) | assumption)
                                          have q381 : x12_2 < (((rd_T34 t369 x10_1).f1).length : Int) := of_decide_eq_true (by first | (with_reducible assumption) | assumption)
                                          obtain ⟨ad381, e381, hx381_0⟩ := Kd.at_int (by repeat (first | (with_reducible exact HR380_1.out) | (with_reducible refine Kd.C_alloc ?_ _) | (with_reducible refine Kd.C_drewN ?_ _) | (with_reducible refine Kd.C_drew ?_) | exact HR380_1.out | exact (Kd.V_reads' HL380_1.out).2.2)) x12_2 p381 q381
                                          cases e381
                                          replace p381 := eq_true p381
                                          replace q381 := eq_true q381
                                          have p382 : 0 ≤ (x10_1 : Int) := of_decide_eq_true (by first | (with_reducible assumption) | assumption)
                                          have q382 : x10_1 < (t369.length : Int) := of_decide_eq_true (by first | (with_reducible assumption) | assumption)
                                          obtain ⟨ad382, A382_1, c382_1, e382, hx382_0, hx382_1, hl382_1, hi382_1⟩ := at_T34 (Kd.N_reads' HO_5.out).2.2 x10_1 p382 q382
                                          obtain rfl : ad377 = ad382 := (by injection e382)
                                          obtain ⟨ce382, hce382, hMe382, hcc382⟩ := Kd.N_get HO_5.out z34 x10_1 p382 (by first | exact q382 | exact of_decide_eq_true (by first | (with_reducible assumption) | assumption) | (have e_ := (Kd.N_reads' HO_5.out).1; omega))
                                          obtain ⟨ua382_1, uc382_1, rfl, ul382_1, ge382_1⟩ := k34_openF hMe382
                                          have hv382_1 := hcc382 1 _ rfl
                                          rw [add_field _ _ 1 (by omega)] at hv382_1
                                          replace hv382_1 := Option.some.inj (hv382_1.symm.trans hx382_1)
                                          injection hv382_1 with hva_ hvn_ hvc_
                                          rw [hva_] at ge382_1
                                          rw [hvc_] at ul382_1
                                          have HL382_1 := Aside0.mk (show Kd.V (Kd.int .i64) 3 _ w.heap.size _ _ ((rd_T34 t369 x10_1).f1) from Kd.V_mk ul382_1 ge382_1)
                                          clear hva_ hvn_ hvc_ ge382_1 ul382_1
                                          clear hcc382 hce382
                                          have HR382_1 := Aside0.mk hi382_1
                                          have HC382_1 := Aside0.mk hl382_1
                                          clear hi382_1 hl382_1
                                          replace p382 := eq_true p382
                                          replace q382 := eq_true q382
                                          have ea_ := Option.some.inj (hx380_1.symm.trans hx382_1)
                                          injection ea_ with ea_ en_ ec_
                                          subst ea_
                                          subst ec_
                                          clear en_
                                          have p383 : 0 ≤ (x12_2 : Int) := of_decide_eq_true (by first | (with_reducible assumption) | assumption)
                                          have q383 : x12_2 < (((rd_T34 t369 x10_1).f1).length : Int) := of_decide_eq_true (by first | (with_reducible assumption) | assumption)
                                          obtain ⟨ad383, e383, hx383_0⟩ := Kd.at_int (by repeat (first | (with_reducible exact HR382_1.out) | (with_reducible refine Kd.C_alloc ?_ _) | (with_reducible refine Kd.C_drewN ?_ _) | (with_reducible refine Kd.C_drew ?_) | exact HR382_1.out | exact (Kd.V_reads' HL382_1.out).2.2)) x12_2 p383 q383
                                          cases e383
                                          replace p383 := eq_true p383
                                          replace q383 := eq_true q383
                                          have p384 : 0 ≤ (x10_1 : Int) := of_decide_eq_true (by first | (with_reducible assumption) | assumption)
                                          have q384 : x10_1 < (l1.length : Int) := of_decide_eq_true (by first | (with_reducible assumption) | assumption)
                                          obtain ⟨ad384, A384_1, c384_1, e384, hx384_0, hx384_1, hl384_1, hi384_1⟩ := at_T35 HR1.out x10_1 p384 q384
                                          obtain rfl : ad378 = ad384 := (by injection e384)
                                          replace hx384_0 := (HB.out.cell (World.block_lt_of_cell? w _ hx384_0)).trans hx384_0
                                          replace hx384_1 := (HB.out.cell (World.block_lt_of_cell? w _ hx384_1)).trans hx384_1
                                          have HR384_1 := Aside0.mk hi384_1
                                          have HC384_1 := Aside0.mk hl384_1
                                          clear hi384_1 hl384_1
                                          replace p384 := eq_true p384
                                          replace q384 := eq_true q384
                                          have ea_ := Option.some.inj (hx379_1.symm.trans hx384_1)
                                          injection ea_ with ea_ en_ ec_
                                          subst ea_
                                          subst ec_
                                          clear en_
                                          have p385 : 0 ≤ (x12_2 : Int) := of_decide_eq_true (by first | (with_reducible assumption) | assumption)
                                          have q385 : x12_2 < (((rd_T35 l1 x10_1).f1).length : Int) := of_decide_eq_true (by first | (with_reducible assumption) | assumption)
                                          obtain ⟨ad385, e385, hx385_0⟩ := Kd.at_int HR384_1.out x12_2 p385 q385
                                          cases e385
                                          replace hx385_0 := (HB.out.cell (World.block_lt_of_cell? w _ hx385_0)).trans hx385_0
                                          replace p385 := eq_true p385
                                          replace q385 := eq_true q385
                                          have p386 : 0 ≤ (x10_1 : Int) := of_decide_eq_true (by first | (with_reducible assumption) | assumption)
                                          have q386 : x10_1 < (t369.length : Int) := of_decide_eq_true (by first | (with_reducible assumption) | assumption)
                                          obtain ⟨ad386, A386_1, c386_1, e386, hx386_0, hx386_1, hl386_1, hi386_1⟩ := at_T34 (Kd.N_reads' HO_5.out).2.2 x10_1 p386 q386
                                          obtain rfl : ad377 = ad386 := (by injection e386)
                                          obtain ⟨ce386, hce386, hMe386, hcc386⟩ := Kd.N_get HO_5.out z34 x10_1 p386 (by first | exact q386 | exact of_decide_eq_true (by first | (with_reducible assumption) | assumption) | (have e_ := (Kd.N_reads' HO_5.out).1; omega))
                                          obtain ⟨ua386_1, uc386_1, rfl, ul386_1, ge386_1⟩ := k34_openF hMe386
                                          have hv386_1 := hcc386 1 _ rfl
                                          rw [add_field _ _ 1 (by omega)] at hv386_1
                                          replace hv386_1 := Option.some.inj (hv386_1.symm.trans hx386_1)
                                          injection hv386_1 with hva_ hvn_ hvc_
                                          rw [hva_] at ge386_1
                                          rw [hvc_] at ul386_1
                                          have HL386_1 := Aside0.mk (show Kd.V (Kd.int .i64) 3 _ w.heap.size _ _ ((rd_T34 t369 x10_1).f1) from Kd.V_mk ul386_1 ge386_1)
                                          clear hva_ hvn_ hvc_ ge386_1 ul386_1
                                          clear hcc386 hce386
                                          have HR386_1 := Aside0.mk hi386_1
                                          have HC386_1 := Aside0.mk hl386_1
                                          clear hi386_1 hl386_1
                                          replace p386 := eq_true p386
                                          replace q386 := eq_true q386
                                          have ea_ := Option.some.inj (hx380_1.symm.trans hx386_1)
                                          injection ea_ with ea_ en_ ec_
                                          subst ea_
                                          subst ec_
                                          clear en_
                                          have p387 : 0 ≤ (x12_2 : Int) := of_decide_eq_true (by first | (with_reducible assumption) | assumption)
                                          have q387 : x12_2 < (((rd_T34 t369 x10_1).f1).length : Int) := of_decide_eq_true (by first | (with_reducible assumption) | assumption)
                                          obtain ⟨ad387, e387, hx387_0⟩ := Kd.at_int (by repeat (first | (with_reducible exact HR386_1.out) | (with_reducible refine Kd.C_alloc ?_ _) | (with_reducible refine Kd.C_drewN ?_ _) | (with_reducible refine Kd.C_drew ?_) | exact HR386_1.out | exact (Kd.V_reads' HL386_1.out).2.2)) x12_2 p387 q387
                                          cases e387
                                          replace p387 := eq_true p387
                                          replace q387 := eq_true q387
                                          have p388 : 0 ≤ (x10_1 : Int) := of_decide_eq_true (by first | (with_reducible assumption) | assumption)
                                          have q388 : x10_1 < (l1.length : Int) := of_decide_eq_true (by first | (with_reducible assumption) | assumption)
                                          obtain ⟨ad388, A388_1, c388_1, e388, hx388_0, hx388_1, hl388_1, hi388_1⟩ := at_T35 HR1.out x10_1 p388 q388
                                          obtain rfl : ad378 = ad388 := (by injection e388)
                                          replace hx388_0 := (HB.out.cell (World.block_lt_of_cell? w _ hx388_0)).trans hx388_0
                                          replace hx388_1 := (HB.out.cell (World.block_lt_of_cell? w _ hx388_1)).trans hx388_1
                                          have HR388_1 := Aside0.mk hi388_1
                                          have HC388_1 := Aside0.mk hl388_1
                                          clear hi388_1 hl388_1
                                          replace p388 := eq_true p388
                                          replace q388 := eq_true q388
                                          have ea_ := Option.some.inj (hx379_1.symm.trans hx388_1)
                                          injection ea_ with ea_ en_ ec_
                                          subst ea_
                                          subst ec_
                                          clear en_
                                          have p389 : 0 ≤ (x12_2 : Int) := of_decide_eq_true (by first | (with_reducible assumption) | assumption)
                                          have q389 : x12_2 < (((rd_T35 l1 x10_1).f1).length : Int) := of_decide_eq_true (by first | (with_reducible assumption) | assumption)
                                          obtain ⟨ad389, e389, hx389_0⟩ := Kd.at_int HR388_1.out x12_2 p389 q389
                                          cases e389
                                          replace hx389_0 := (HB.out.cell (World.block_lt_of_cell? w _ hx389_0)).trans hx389_0
                                          replace p389 := eq_true p389
                                          replace q389 := eq_true q389
                                          have p390 : 0 ≤ (x10_1 : Int) := of_decide_eq_true (by first | (with_reducible assumption) | assumption)
                                          have q390 : x10_1 < (t369.length : Int) := of_decide_eq_true (by first | (with_reducible assumption) | assumption)
                                          obtain ⟨ad390, A390_1, c390_1, e390, hx390_0, hx390_1, hl390_1, hi390_1⟩ := at_T34 (Kd.N_reads' HO_5.out).2.2 x10_1 p390 q390
                                          obtain rfl : ad377 = ad390 := (by injection e390)
                                          obtain ⟨ce390, hce390, hMe390, hcc390⟩ := Kd.N_get HO_5.out z34 x10_1 p390 (by first | exact q390 | exact of_decide_eq_true (by first | (with_reducible assumption) | assumption) | (have e_ := (Kd.N_reads' HO_5.out).1; omega))
                                          obtain ⟨ua390_1, uc390_1, rfl, ul390_1, ge390_1⟩ := k34_openF hMe390
                                          have hv390_1 := hcc390 1 _ rfl
                                          rw [add_field _ _ 1 (by omega)] at hv390_1
                                          replace hv390_1 := Option.some.inj (hv390_1.symm.trans hx390_1)
                                          injection hv390_1 with hva_ hvn_ hvc_
                                          rw [hva_] at ge390_1
                                          rw [hvc_] at ul390_1
                                          have HL390_1 := Aside0.mk (show Kd.V (Kd.int .i64) 3 _ w.heap.size _ _ ((rd_T34 t369 x10_1).f1) from Kd.V_mk ul390_1 ge390_1)
                                          clear hva_ hvn_ hvc_ ge390_1 ul390_1
                                          clear hcc390 hce390
                                          have HR390_1 := Aside0.mk hi390_1
                                          have HC390_1 := Aside0.mk hl390_1
                                          clear hi390_1 hl390_1
                                          replace p390 := eq_true p390
                                          replace q390 := eq_true q390
                                          have ea_ := Option.some.inj (hx380_1.symm.trans hx390_1)
                                          injection ea_ with ea_ en_ ec_
                                          subst ea_
                                          subst ec_
                                          clear en_
                                          have p391 : 0 ≤ (x12_2 : Int) := of_decide_eq_true (by first | (with_reducible assumption) | assumption)
                                          have q391 : x12_2 < (((rd_T34 t369 x10_1).f1).length : Int) := of_decide_eq_true (by first | (with_reducible assumption) | assumption)
                                          obtain ⟨ad391, e391, hx391_0⟩ := Kd.at_int (by repeat (first | (with_reducible exact HR390_1.out) | (with_reducible refine Kd.C_alloc ?_ _) | (with_reducible refine Kd.C_drewN ?_ _) | (with_reducible refine Kd.C_drew ?_) | exact HR390_1.out | exact (Kd.V_reads' HL390_1.out).2.2)) x12_2 p391 q391
                                          cases e391
                                          replace p391 := eq_true p391
                                          replace q391 := eq_true q391
                                          have p392 : 0 ≤ (x10_1 : Int) := of_decide_eq_true (by first | (with_reducible assumption) | assumption)
                                          have q392 : x10_1 < (t369.length : Int) := of_decide_eq_true (by first | (with_reducible assumption) | assumption)
                                          obtain ⟨ad392, A392_1, c392_1, e392, hx392_0, hx392_1, hl392_1, hi392_1⟩ := at_T34 (Kd.N_reads' HO_5.out).2.2 x10_1 p392 q392
                                          obtain rfl : ad377 = ad392 := (by injection e392)
                                          obtain ⟨ce392, hce392, hMe392, hcc392⟩ := Kd.N_get HO_5.out z34 x10_1 p392 (by first | exact q392 | exact of_decide_eq_true (by first | (with_reducible assumption) | assumption) | (have e_ := (Kd.N_reads' HO_5.out).1; omega))
                                          obtain ⟨ua392_1, uc392_1, rfl, ul392_1, ge392_1⟩ := k34_openF hMe392
                                          have hv392_1 := hcc392 1 _ rfl
                                          rw [add_field _ _ 1 (by omega)] at hv392_1
                                          replace hv392_1 := Option.some.inj (hv392_1.symm.trans hx392_1)
                                          injection hv392_1 with hva_ hvn_ hvc_
                                          rw [hva_] at ge392_1
                                          rw [hvc_] at ul392_1
                                          have HL392_1 := Aside0.mk (show Kd.V (Kd.int .i64) 3 _ w.heap.size _ _ ((rd_T34 t369 x10_1).f1) from Kd.V_mk ul392_1 ge392_1)
                                          clear hva_ hvn_ hvc_ ge392_1 ul392_1
                                          clear hcc392 hce392
                                          have HR392_1 := Aside0.mk hi392_1
                                          have HC392_1 := Aside0.mk hl392_1
                                          clear hi392_1 hl392_1
                                          replace p392 := eq_true p392
                                          replace q392 := eq_true q392
                                          have ea_ := Option.some.inj (hx380_1.symm.trans hx392_1)
                                          injection ea_ with ea_ en_ ec_
                                          subst ea_
                                          subst ec_
                                          clear en_
                                          have p393 : 0 ≤ (x12_2 : Int) := of_decide_eq_true (by first | (with_reducible assumption) | assumption)
                                          have q393 : x12_2 < (((rd_T34 t369 x10_1).f1).length : Int) := of_decide_eq_true (by first | (with_reducible assumption) | assumption)
                                          obtain ⟨ad393, e393, hx393_0⟩ := Kd.at_int (by repeat (first | (with_reducible exact HR392_1.out) | (with_reducible refine Kd.C_alloc ?_ _) | (with_reducible refine Kd.C_drewN ?_ _) | (with_reducible refine Kd.C_drew ?_) | exact HR392_1.out | exact (Kd.V_reads' HL392_1.out).2.2)) x12_2 p393 q393
                                          cases e393
                                          replace p393 := eq_true p393
                                          replace q393 := eq_true q393
                                          go_wp2
                                          repeat (go_quiet (fail); try go_wp2)
                                          go_roundg k2
                                          case measure => have := HK1.out; have := HK2.out; omega
                                          case rel => exact ⟨(wrap64 (x8_2 + (rd ((rd_T34 t369 x10_1).f1) x12_2))), (wrap64 ((wrap64 (x11_2 + (rd ((rd_T35 l1 x10_1).f1) x12_2))) - (rd ((rd_T34 t369 x10_1).f1) x12_2))), (wrap64 (x12_2 + 1)), (by first | rfl | (simp; done) | (simp [*]; done)), (by first | rfl | (simp; done) | (simp [*]; done)), (by first | rfl | (simp; done) | (simp [*]; done)), H', ⟨by have := HK1.out; have := HK2.out; omega⟩, ⟨by (with_reducible repeat (first | apply Kd.N_alloc | apply Kd.N_drewN | apply Kd.N_drew)); exact HO_5.out⟩, ⟨by repeat (first | (with_reducible exact HR377_1.out) | (with_reducible refine Kd.C_alloc ?_ _) | (with_reducible refine Kd.C_drewN ?_ _) | (with_reducible refine Kd.C_drew ?_) | exact HR377_1.out | exact (Kd.V_reads' HL377_1.out).2.2)⟩, ⟨by repeat (first | (with_reducible first | exact HB.out | apply below_alloc | apply pw_below_drewN | apply below_drew1) | exact HB.out)⟩⟩
                                        · replace c24 := Bool.eq_false_iff.mpr c24
                                          subst c24
                                          have H1 : (some false) = some r := by rw [if_neg (show ¬ (false = true) by decide)] at H; exact H
                                          clear H
                                          have H := H1
                                          clear H1
                                          obtain rfl := Option.some.inj H
                                          have p379 : 0 ≤ (x10_1 : Int) := of_decide_eq_true (by first | (with_reducible assumption) | assumption)
                                          have q379 : x10_1 < (l1.length : Int) := of_decide_eq_true (by first | (with_reducible assumption) | assumption)
                                          obtain ⟨ad379, A379_1, c379_1, e379, hx379_0, hx379_1, hl379_1, hi379_1⟩ := at_T35 HR1.out x10_1 p379 q379
                                          obtain rfl : ad378 = ad379 := (by injection e379)
                                          replace hx379_0 := (HB.out.cell (World.block_lt_of_cell? w _ hx379_0)).trans hx379_0
                                          replace hx379_1 := (HB.out.cell (World.block_lt_of_cell? w _ hx379_1)).trans hx379_1
                                          have HR379_1 := Aside0.mk hi379_1
                                          have HC379_1 := Aside0.mk hl379_1
                                          clear hi379_1 hl379_1
                                          replace p379 := eq_true p379
                                          replace q379 := eq_true q379
                                          have p380 : 0 ≤ (x10_1 : Int) := of_decide_eq_true (by first | (with_reducible assumption) | assumption)
                                          have q380 : x10_1 < (t369.length : Int) := of_decide_eq_true (by first | (with_reducible assumption) | assumption)
                                          obtain ⟨ad380, A380_1, c380_1, e380, hx380_0, hx380_1, hl380_1, hi380_1⟩ := at_T34 (Kd.N_reads' HO_5.out).2.2 x10_1 p380 q380
                                          obtain rfl : ad377 = ad380 := (by injection e380)
                                          obtain ⟨ce380, hce380, hMe380, hcc380⟩ := Kd.N_get HO_5.out z34 x10_1 p380 (by first | exact q380 | exact of_decide_eq_true (by first | (with_reducible assumption) | assumption) | (have e_ := (Kd.N_reads' HO_5.out).1; omega))
                                          obtain ⟨ua380_1, uc380_1, rfl, ul380_1, ge380_1⟩ := k34_openF hMe380
                                          have hv380_1 := hcc380 1 _ rfl
                                          rw [add_field _ _ 1 (by omega)] at hv380_1
                                          replace hv380_1 := Option.some.inj (hv380_1.symm.trans hx380_1)
                                          injection hv380_1 with hva_ hvn_ hvc_
                                          rw [hva_] at ge380_1
                                          rw [hvc_] at ul380_1
                                          have HL380_1 := Aside0.mk (show Kd.V (Kd.int .i64) 3 _ w.heap.size _ _ ((rd_T34 t369 x10_1).f1) from Kd.V_mk ul380_1 ge380_1)
                                          clear hva_ hvn_ hvc_ ge380_1 ul380_1
                                          clear hcc380 hce380
                                          have HR380_1 := Aside0.mk hi380_1
                                          have HC380_1 := Aside0.mk hl380_1
                                          clear hi380_1 hl380_1
                                          replace p380 := eq_true p380
                                          replace q380 := eq_true q380
                                          have p381 : 0 ≤ (x12_2 : Int) := of_decide_eq_true (by first | (with_reducible assumption) | assumption)
                                          have q381 : x12_2 < (((rd_T34 t369 x10_1).f1).length : Int) := of_decide_eq_true (by first | (with_reducible assumption) | assumption)
                                          obtain ⟨ad381, e381, hx381_0⟩ := Kd.at_int (by repeat (first | (with_reducible exact HR380_1.out) | (with_reducible refine Kd.C_alloc ?_ _) | (with_reducible refine Kd.C_drewN ?_ _) | (with_reducible refine Kd.C_drew ?_) | exact HR380_1.out | exact (Kd.V_reads' HL380_1.out).2.2)) x12_2 p381 q381
                                          cases e381
                                          replace p381 := eq_true p381
                                          replace q381 := eq_true q381
                                          have p382 : 0 ≤ (x10_1 : Int) := of_decide_eq_true (by first | (with_reducible assumption) | assumption)
                                          have q382 : x10_1 < (t369.length : Int) := of_decide_eq_true (by first | (with_reducible assumption) | assumption)
                                          obtain ⟨ad382, A382_1, c382_1, e382, hx382_0, hx382_1, hl382_1, hi382_1⟩ := at_T34 (Kd.N_reads' HO_5.out).2.2 x10_1 p382 q382
                                          obtain rfl : ad377 = ad382 := (by injection e382)
                                          obtain ⟨ce382, hce382, hMe382, hcc382⟩ := Kd.N_get HO_5.out z34 x10_1 p382 (by first | exact q382 | exact of_decide_eq_true (by first | (with_reducible assumption) | assumption) | (have e_ := (Kd.N_reads' HO_5.out).1; omega))
                                          obtain ⟨ua382_1, uc382_1, rfl, ul382_1, ge382_1⟩ := k34_openF hMe382
                                          have hv382_1 := hcc382 1 _ rfl
                                          rw [add_field _ _ 1 (by omega)] at hv382_1
                                          replace hv382_1 := Option.some.inj (hv382_1.symm.trans hx382_1)
                                          injection hv382_1 with hva_ hvn_ hvc_
                                          rw [hva_] at ge382_1
                                          rw [hvc_] at ul382_1
                                          have HL382_1 := Aside0.mk (show Kd.V (Kd.int .i64) 3 _ w.heap.size _ _ ((rd_T34 t369 x10_1).f1) from Kd.V_mk ul382_1 ge382_1)
                                          clear hva_ hvn_ hvc_ ge382_1 ul382_1
                                          clear hcc382 hce382
                                          have HR382_1 := Aside0.mk hi382_1
                                          have HC382_1 := Aside0.mk hl382_1
                                          clear hi382_1 hl382_1
                                          replace p382 := eq_true p382
                                          replace q382 := eq_true q382
                                          have ea_ := Option.some.inj (hx380_1.symm.trans hx382_1)
                                          injection ea_ with ea_ en_ ec_
                                          subst ea_
                                          subst ec_
                                          clear en_
                                          have p383 : 0 ≤ (x12_2 : Int) := of_decide_eq_true (by first | (with_reducible assumption) | assumption)
                                          have q383 : x12_2 < (((rd_T34 t369 x10_1).f1).length : Int) := of_decide_eq_true (by first | (with_reducible assumption) | assumption)
                                          obtain ⟨ad383, e383, hx383_0⟩ := Kd.at_int (by repeat (first | (with_reducible exact HR382_1.out) | (with_reducible refine Kd.C_alloc ?_ _) | (with_reducible refine Kd.C_drewN ?_ _) | (with_reducible refine Kd.C_drew ?_) | exact HR382_1.out | exact (Kd.V_reads' HL382_1.out).2.2)) x12_2 p383 q383
                                          cases e383
                                          replace p383 := eq_true p383
                                          replace q383 := eq_true q383
                                          have p384 : 0 ≤ (x10_1 : Int) := of_decide_eq_true (by first | (with_reducible assumption) | assumption)
                                          have q384 : x10_1 < (l1.length : Int) := of_decide_eq_true (by first | (with_reducible assumption) | assumption)
                                          obtain ⟨ad384, A384_1, c384_1, e384, hx384_0, hx384_1, hl384_1, hi384_1⟩ := at_T35 HR1.out x10_1 p384 q384
                                          obtain rfl : ad378 = ad384 := (by injection e384)
                                          replace hx384_0 := (HB.out.cell (World.block_lt_of_cell? w _ hx384_0)).trans hx384_0
                                          replace hx384_1 := (HB.out.cell (World.block_lt_of_cell? w _ hx384_1)).trans hx384_1
                                          have HR384_1 := Aside0.mk hi384_1
                                          have HC384_1 := Aside0.mk hl384_1
                                          clear hi384_1 hl384_1
                                          replace p384 := eq_true p384
                                          replace q384 := eq_true q384
                                          have ea_ := Option.some.inj (hx379_1.symm.trans hx384_1)
                                          injection ea_ with ea_ en_ ec_
                                          subst ea_
                                          subst ec_
                                          clear en_
                                          have p385 : 0 ≤ (x12_2 : Int) := of_decide_eq_true (by first | (with_reducible assumption) | assumption)
                                          have q385 : x12_2 < (((rd_T35 l1 x10_1).f1).length : Int) := of_decide_eq_true (by first | (with_reducible assumption) | assumption)
                                          obtain ⟨ad385, e385, hx385_0⟩ := Kd.at_int HR384_1.out x12_2 p385 q385
                                          cases e385
                                          replace hx385_0 := (HB.out.cell (World.block_lt_of_cell? w _ hx385_0)).trans hx385_0
                                          replace p385 := eq_true p385
                                          replace q385 := eq_true q385
                                          have p386 : 0 ≤ (x10_1 : Int) := of_decide_eq_true (by first | (with_reducible assumption) | assumption)
                                          have q386 : x10_1 < (t369.length : Int) := of_decide_eq_true (by first | (with_reducible assumption) | assumption)
                                          obtain ⟨ad386, A386_1, c386_1, e386, hx386_0, hx386_1, hl386_1, hi386_1⟩ := at_T34 (Kd.N_reads' HO_5.out).2.2 x10_1 p386 q386
                                          obtain rfl : ad377 = ad386 := (by injection e386)
                                          obtain ⟨ce386, hce386, hMe386, hcc386⟩ := Kd.N_get HO_5.out z34 x10_1 p386 (by first | exact q386 | exact of_decide_eq_true (by first | (with_reducible assumption) | assumption) | (have e_ := (Kd.N_reads' HO_5.out).1; omega))
                                          obtain ⟨ua386_1, uc386_1, rfl, ul386_1, ge386_1⟩ := k34_openF hMe386
                                          have hv386_1 := hcc386 1 _ rfl
                                          rw [add_field _ _ 1 (by omega)] at hv386_1
                                          replace hv386_1 := Option.some.inj (hv386_1.symm.trans hx386_1)
                                          injection hv386_1 with hva_ hvn_ hvc_
                                          rw [hva_] at ge386_1
                                          rw [hvc_] at ul386_1
                                          have HL386_1 := Aside0.mk (show Kd.V (Kd.int .i64) 3 _ w.heap.size _ _ ((rd_T34 t369 x10_1).f1) from Kd.V_mk ul386_1 ge386_1)
                                          clear hva_ hvn_ hvc_ ge386_1 ul386_1
                                          clear hcc386 hce386
                                          have HR386_1 := Aside0.mk hi386_1
                                          have HC386_1 := Aside0.mk hl386_1
                                          clear hi386_1 hl386_1
                                          replace p386 := eq_true p386
                                          replace q386 := eq_true q386
                                          have ea_ := Option.some.inj (hx380_1.symm.trans hx386_1)
                                          injection ea_ with ea_ en_ ec_
                                          subst ea_
                                          subst ec_
                                          clear en_
                                          have p387 : 0 ≤ (x12_2 : Int) := of_decide_eq_true (by first | (with_reducible assumption) | assumption)
                                          have q387 : x12_2 < (((rd_T34 t369 x10_1).f1).length : Int) := of_decide_eq_true (by first | (with_reducible assumption) | assumption)
                                          obtain ⟨ad387, e387, hx387_0⟩ := Kd.at_int (by repeat (first | (with_reducible exact HR386_1.out) | (with_reducible refine Kd.C_alloc ?_ _) | (with_reducible refine Kd.C_drewN ?_ _) | (with_reducible refine Kd.C_drew ?_) | exact HR386_1.out | exact (Kd.V_reads' HL386_1.out).2.2)) x12_2 p387 q387
                                          cases e387
                                          replace p387 := eq_true p387
                                          replace q387 := eq_true q387
                                          go_wp2
                                          repeat (go_quiet (fail); try go_wp2)
                                          go_ret
                                          exact ⟨by first | rfl | (simp [errW_none, errW_some] <;> rfl) | (simp [*, errW_none, errW_some] <;> rfl), by repeat (first | (with_reducible first | exact HB.out | apply below_alloc | apply pw_below_drewN | apply below_drew1) | exact HB.out)⟩
                                      · rw [if_neg c23] at H
                                        have c23b0 : decide (0 < (rd ((rd_T34 t369 x10_1).f1) x12_2)) = false := decide_eq_false c23
                                        clear c23
                                        have H' := Aside0.mk H
                                        clear H
                                        have p379 : 0 ≤ (x10_1 : Int) := of_decide_eq_true (by first | (with_reducible assumption) | assumption)
                                        have q379 : x10_1 < (l1.length : Int) := of_decide_eq_true (by first | (with_reducible assumption) | assumption)
                                        obtain ⟨ad379, A379_1, c379_1, e379, hx379_0, hx379_1, hl379_1, hi379_1⟩ := at_T35 HR1.out x10_1 p379 q379
                                        obtain rfl : ad378 = ad379 := (by injection e379)
                                        replace hx379_0 := (HB.out.cell (World.block_lt_of_cell? w _ hx379_0)).trans hx379_0
                                        replace hx379_1 := (HB.out.cell (World.block_lt_of_cell? w _ hx379_1)).trans hx379_1
                                        have HR379_1 := Aside0.mk hi379_1
                                        have HC379_1 := Aside0.mk hl379_1
                                        clear hi379_1 hl379_1
                                        replace p379 := eq_true p379
                                        replace q379 := eq_true q379
                                        have p380 : 0 ≤ (x10_1 : Int) := of_decide_eq_true (by first | (with_reducible assumption) | assumption)
                                        have q380 : x10_1 < (t369.length : Int) := of_decide_eq_true (by first | (with_reducible assumption) | assumption)
                                        obtain ⟨ad380, A380_1, c380_1, e380, hx380_0, hx380_1, hl380_1, hi380_1⟩ := at_T34 (Kd.N_reads' HO_5.out).2.2 x10_1 p380 q380
                                        obtain rfl : ad377 = ad380 := (by injection e380)
                                        obtain ⟨ce380, hce380, hMe380, hcc380⟩ := Kd.N_get HO_5.out z34 x10_1 p380 (by first | exact q380 | exact of_decide_eq_true (by first | (with_reducible assumption) | assumption) | (have e_ := (Kd.N_reads' HO_5.out).1; omega))
                                        obtain ⟨ua380_1, uc380_1, rfl, ul380_1, ge380_1⟩ := k34_openF hMe380
                                        have hv380_1 := hcc380 1 _ rfl
                                        rw [add_field _ _ 1 (by omega)] at hv380_1
                                        replace hv380_1 := Option.some.inj (hv380_1.symm.trans hx380_1)
                                        injection hv380_1 with hva_ hvn_ hvc_
                                        rw [hva_] at ge380_1
                                        rw [hvc_] at ul380_1
                                        have HL380_1 := Aside0.mk (show Kd.V (Kd.int .i64) 3 _ w.heap.size _ _ ((rd_T34 t369 x10_1).f1) from Kd.V_mk ul380_1 ge380_1)
                                        clear hva_ hvn_ hvc_ ge380_1 ul380_1
                                        clear hcc380 hce380
                                        have HR380_1 := Aside0.mk hi380_1
                                        have HC380_1 := Aside0.mk hl380_1
                                        clear hi380_1 hl380_1
                                        replace p380 := eq_true p380
                                        replace q380 := eq_true q380
                                        have p381 : 0 ≤ (x12_2 : Int) := of_decide_eq_true (by first | (with_reducible assumption) | assumption)
                                        have q381 : x12_2 < (((rd_T34 t369 x10_1).f1).length : Int) := of_decide_eq_true (by first | (with_reducible assumption) | assumption)
                                        obtain ⟨ad381, e381, hx381_0⟩ := Kd.at_int (by repeat (first | (with_reducible exact HR380_1.out) | (with_reducible refine Kd.C_alloc ?_ _) | (with_reducible refine Kd.C_drewN ?_ _) | (with_reducible refine Kd.C_drew ?_) | exact HR380_1.out | exact (Kd.V_reads' HL380_1.out).2.2)) x12_2 p381 q381
                                        cases e381
                                        replace p381 := eq_true p381
                                        replace q381 := eq_true q381
                                        have p382 : 0 ≤ (x10_1 : Int) := of_decide_eq_true (by first | (with_reducible assumption) | assumption)
                                        have q382 : x10_1 < (t369.length : Int) := of_decide_eq_true (by first | (with_reducible assumption) | assumption)
                                        obtain ⟨ad382, A382_1, c382_1, e382, hx382_0, hx382_1, hl382_1, hi382_1⟩ := at_T34 (Kd.N_reads' HO_5.out).2.2 x10_1 p382 q382
                                        obtain rfl : ad377 = ad382 := (by injection e382)
                                        obtain ⟨ce382, hce382, hMe382, hcc382⟩ := Kd.N_get HO_5.out z34 x10_1 p382 (by first | exact q382 | exact of_decide_eq_true (by first | (with_reducible assumption) | assumption) | (have e_ := (Kd.N_reads' HO_5.out).1; omega))
                                        obtain ⟨ua382_1, uc382_1, rfl, ul382_1, ge382_1⟩ := k34_openF hMe382
                                        have hv382_1 := hcc382 1 _ rfl
                                        rw [add_field _ _ 1 (by omega)] at hv382_1
                                        replace hv382_1 := Option.some.inj (hv382_1.symm.trans hx382_1)
                                        injection hv382_1 with hva_ hvn_ hvc_
                                        rw [hva_] at ge382_1
                                        rw [hvc_] at ul382_1
                                        have HL382_1 := Aside0.mk (show Kd.V (Kd.int .i64) 3 _ w.heap.size _ _ ((rd_T34 t369 x10_1).f1) from Kd.V_mk ul382_1 ge382_1)
                                        clear hva_ hvn_ hvc_ ge382_1 ul382_1
                                        clear hcc382 hce382
                                        have HR382_1 := Aside0.mk hi382_1
                                        have HC382_1 := Aside0.mk hl382_1
                                        clear hi382_1 hl382_1
                                        replace p382 := eq_true p382
                                        replace q382 := eq_true q382
                                        have ea_ := Option.some.inj (hx380_1.symm.trans hx382_1)
                                        injection ea_ with ea_ en_ ec_
                                        subst ea_
                                        subst ec_
                                        clear en_
                                        have p383 : 0 ≤ (x12_2 : Int) := of_decide_eq_true (by first | (with_reducible assumption) | assumption)
                                        have q383 : x12_2 < (((rd_T34 t369 x10_1).f1).length : Int) := of_decide_eq_true (by first | (with_reducible assumption) | assumption)
                                        obtain ⟨ad383, e383, hx383_0⟩ := Kd.at_int (by repeat (first | (with_reducible exact HR382_1.out) | (with_reducible refine Kd.C_alloc ?_ _) | (with_reducible refine Kd.C_drewN ?_ _) | (with_reducible refine Kd.C_drew ?_) | exact HR382_1.out | exact (Kd.V_reads' HL382_1.out).2.2)) x12_2 p383 q383
                                        cases e383
                                        replace p383 := eq_true p383
                                        replace q383 := eq_true q383
                                        have p384 : 0 ≤ (x10_1 : Int) := of_decide_eq_true (by first | (with_reducible assumption) | assumption)
                                        have q384 : x10_1 < (l1.length : Int) := of_decide_eq_true (by first | (with_reducible assumption) | assumption)
                                        obtain ⟨ad384, A384_1, c384_1, e384, hx384_0, hx384_1, hl384_1, hi384_1⟩ := at_T35 HR1.out x10_1 p384 q384
                                        obtain rfl : ad378 = ad384 := (by injection e384)
                                        replace hx384_0 := (HB.out.cell (World.block_lt_of_cell? w _ hx384_0)).trans hx384_0
                                        replace hx384_1 := (HB.out.cell (World.block_lt_of_cell? w _ hx384_1)).trans hx384_1
                                        have HR384_1 := Aside0.mk hi384_1
                                        have HC384_1 := Aside0.mk hl384_1
                                        clear hi384_1 hl384_1
                                        replace p384 := eq_true p384
                                        replace q384 := eq_true q384
                                        have ea_ := Option.some.inj (hx379_1.symm.trans hx384_1)
                                        injection ea_ with ea_ en_ ec_
                                        subst ea_
                                        subst ec_
                                        clear en_
                                        have p385 : 0 ≤ (x12_2 : Int) := of_decide_eq_true (by first | (with_reducible assumption) | assumption)
                                        have q385 : x12_2 < (((rd_T35 l1 x10_1).f1).length : Int) := of_decide_eq_true (by first | (with_reducible assumption) | assumption)
                                        obtain ⟨ad385, e385, hx385_0⟩ := Kd.at_int HR384_1.out x12_2 p385 q385
                                        cases e385
                                        replace hx385_0 := (HB.out.cell (World.block_lt_of_cell? w _ hx385_0)).trans hx385_0
                                        replace p385 := eq_true p385
                                        replace q385 := eq_true q385
                                        have p386 : 0 ≤ (x10_1 : Int) := of_decide_eq_true (by first | (with_reducible assumption) | assumption)
                                        have q386 : x10_1 < (t369.length : Int) := of_decide_eq_true (by first | (with_reducible assumption) | assumption)
                                        obtain ⟨ad386, A386_1, c386_1, e386, hx386_0, hx386_1, hl386_1, hi386_1⟩ := at_T34 (Kd.N_reads' HO_5.out).2.2 x10_1 p386 q386
                                        obtain rfl : ad377 = ad386 := (by injection e386)
                                        obtain ⟨ce386, hce386, hMe386, hcc386⟩ := Kd.N_get HO_5.out z34 x10_1 p386 (by first | exact q386 | exact of_decide_eq_true (by first | (with_reducible assumption) | assumption) | (have e_ := (Kd.N_reads' HO_5.out).1; omega))
                                        obtain ⟨ua386_1, uc386_1, rfl, ul386_1, ge386_1⟩ := k34_openF hMe386
                                        have hv386_1 := hcc386 1 _ rfl
                                        rw [add_field _ _ 1 (by omega)] at hv386_1
                                        replace hv386_1 := Option.some.inj (hv386_1.symm.trans hx386_1)
                                        injection hv386_1 with hva_ hvn_ hvc_
                                        rw [hva_] at ge386_1
                                        rw [hvc_] at ul386_1
                                        have HL386_1 := Aside0.mk (show Kd.V (Kd.int .i64) 3 _ w.heap.size _ _ ((rd_T34 t369 x10_1).f1) from Kd.V_mk ul386_1 ge386_1)
                                        clear hva_ hvn_ hvc_ ge386_1 ul386_1
                                        clear hcc386 hce386
                                        have HR386_1 := Aside0.mk hi386_1
                                        have HC386_1 := Aside0.mk hl386_1
                                        clear hi386_1 hl386_1
                                        replace p386 := eq_true p386
                                        replace q386 := eq_true q386
                                        have ea_ := Option.some.inj (hx380_1.symm.trans hx386_1)
                                        injection ea_ with ea_ en_ ec_
                                        subst ea_
                                        subst ec_
                                        clear en_
                                        have p387 : 0 ≤ (x12_2 : Int) := of_decide_eq_true (by first | (with_reducible assumption) | assumption)
                                        have q387 : x12_2 < (((rd_T34 t369 x10_1).f1).length : Int) := of_decide_eq_true (by first | (with_reducible assumption) | assumption)
                                        obtain ⟨ad387, e387, hx387_0⟩ := Kd.at_int (by repeat (first | (with_reducible exact HR386_1.out) | (with_reducible refine Kd.C_alloc ?_ _) | (with_reducible refine Kd.C_drewN ?_ _) | (with_reducible refine Kd.C_drew ?_) | exact HR386_1.out | exact (Kd.V_reads' HL386_1.out).2.2)) x12_2 p387 q387
                                        cases e387
                                        replace p387 := eq_true p387
                                        replace q387 := eq_true q387
                                        have p394 : 0 ≤ (x10_1 : Int) := of_decide_eq_true (by first | (with_reducible assumption) | assumption)
                                        have q394 : x10_1 < (l1.length : Int) := of_decide_eq_true (by first | (with_reducible assumption) | assumption)
                                        obtain ⟨ad394, A394_1, c394_1, e394, hx394_0, hx394_1, hl394_1, hi394_1⟩ := at_T35 HR1.out x10_1 p394 q394
                                        obtain rfl : ad378 = ad394 := (by injection e394)
                                        replace hx394_0 := (HB.out.cell (World.block_lt_of_cell? w _ hx394_0)).trans hx394_0
                                        replace hx394_1 := (HB.out.cell (World.block_lt_of_cell? w _ hx394_1)).trans hx394_1
                                        have HR394_1 := Aside0.mk hi394_1
                                        have HC394_1 := Aside0.mk hl394_1
                                        clear hi394_1 hl394_1
                                        replace p394 := eq_true p394
                                        replace q394 := eq_true q394
                                        have ea_ := Option.some.inj (hx379_1.symm.trans hx394_1)
                                        injection ea_ with ea_ en_ ec_
                                        subst ea_
                                        subst ec_
                                        clear en_
                                        have p395 : 0 ≤ (x12_2 : Int) := of_decide_eq_true (by first | (with_reducible assumption) | assumption)
                                        have q395 : x12_2 < (((rd_T35 l1 x10_1).f1).length : Int) := of_decide_eq_true (by first | (with_reducible assumption) | assumption)
                                        obtain ⟨ad395, e395, hx395_0⟩ := Kd.at_int HR394_1.out x12_2 p395 q395
                                        cases e395
                                        replace hx395_0 := (HB.out.cell (World.block_lt_of_cell? w _ hx395_0)).trans hx395_0
                                        replace p395 := eq_true p395
                                        replace q395 := eq_true q395
                                        have p396 : 0 ≤ (x10_1 : Int) := of_decide_eq_true (by first | (with_reducible assumption) | assumption)
                                        have q396 : x10_1 < (t369.length : Int) := of_decide_eq_true (by first | (with_reducible assumption) | assumption)
                                        obtain ⟨ad396, A396_1, c396_1, e396, hx396_0, hx396_1, hl396_1, hi396_1⟩ := at_T34 (Kd.N_reads' HO_5.out).2.2 x10_1 p396 q396
                                        obtain rfl : ad377 = ad396 := (by injection e396)
                                        obtain ⟨ce396, hce396, hMe396, hcc396⟩ := Kd.N_get HO_5.out z34 x10_1 p396 (by first | exact q396 | exact of_decide_eq_true (by first | (with_reducible assumption) | assumption) | (have e_ := (Kd.N_reads' HO_5.out).1; omega))
                                        obtain ⟨ua396_1, uc396_1, rfl, ul396_1, ge396_1⟩ := k34_openF hMe396
                                        have hv396_1 := hcc396 1 _ rfl
                                        rw [add_field _ _ 1 (by omega)] at hv396_1
                                        replace hv396_1 := Option.some.inj (hv396_1.symm.trans hx396_1)
                                        injection hv396_1 with hva_ hvn_ hvc_
                                        rw [hva_] at ge396_1
                                        rw [hvc_] at ul396_1
                                        have HL396_1 := Aside0.mk (show Kd.V (Kd.int .i64) 3 _ w.heap.size _ _ ((rd_T34 t369 x10_1).f1) from Kd.V_mk ul396_1 ge396_1)
                                        clear hva_ hvn_ hvc_ ge396_1 ul396_1
                                        clear hcc396 hce396
                                        have HR396_1 := Aside0.mk hi396_1
                                        have HC396_1 := Aside0.mk hl396_1
                                        clear hi396_1 hl396_1
                                        replace p396 := eq_true p396
                                        replace q396 := eq_true q396
                                        have ea_ := Option.some.inj (hx380_1.symm.trans hx396_1)
                                        injection ea_ with ea_ en_ ec_
                                        subst ea_
                                        subst ec_
                                        clear en_
                                        have p397 : 0 ≤ (x12_2 : Int) := of_decide_eq_true (by first | (with_reducible assumption) | assumption)
                                        have q397 : x12_2 < (((rd_T34 t369 x10_1).f1).length : Int) := of_decide_eq_true (by first | (with_reducible assumption) | assumption)
                                        obtain ⟨ad397, e397, hx397_0⟩ := Kd.at_int (by repeat (first | (with_reducible exact HR396_1.out) | (with_reducible refine Kd.C_alloc ?_ _) | (with_reducible refine Kd.C_drewN ?_ _) | (with_reducible refine Kd.C_drew ?_) | exact HR396_1.out | exact (Kd.V_reads' HL396_1.out).2.2)) x12_2 p397 q397
                                        cases e397
                                        replace p397 := eq_true p397
                                        replace q397 := eq_true q397
                                        have p398 : 0 ≤ (x10_1 : Int) := of_decide_eq_true (by first | (with_reducible assumption) | assumption)
                                        have q398 : x10_1 < (t369.length : Int) := of_decide_eq_true (by first | (with_reducible assumption) | assumption)
                                        obtain ⟨ad398, A398_1, c398_1, e398, hx398_0, hx398_1, hl398_1, hi398_1⟩ := at_T34 (Kd.N_reads' HO_5.out).2.2 x10_1 p398 q398
                                        obtain rfl : ad377 = ad398 := (by injection e398)
                                        obtain ⟨ce398, hce398, hMe398, hcc398⟩ := Kd.N_get HO_5.out z34 x10_1 p398 (by first | exact q398 | exact of_decide_eq_true (by first | (with_reducible assumption) | assumption) | (have e_ := (Kd.N_reads' HO_5.out).1; omega))
                                        obtain ⟨ua398_1, uc398_1, rfl, ul398_1, ge398_1⟩ := k34_openF hMe398
                                        have hv398_1 := hcc398 1 _ rfl
                                        rw [add_field _ _ 1 (by omega)] at hv398_1
                                        replace hv398_1 := Option.some.inj (hv398_1.symm.trans hx398_1)
                                        injection hv398_1 with hva_ hvn_ hvc_
                                        rw [hva_] at ge398_1
                                        rw [hvc_] at ul398_1
                                        have HL398_1 := Aside0.mk (show Kd.V (Kd.int .i64) 3 _ w.heap.size _ _ ((rd_T34 t369 x10_1).f1) from Kd.V_mk ul398_1 ge398_1)
                                        clear hva_ hvn_ hvc_ ge398_1 ul398_1
                                        clear hcc398 hce398
                                        have HR398_1 := Aside0.mk hi398_1
                                        have HC398_1 := Aside0.mk hl398_1
                                        clear hi398_1 hl398_1
                                        replace p398 := eq_true p398
                                        replace q398 := eq_true q398
                                        have ea_ := Option.some.inj (hx380_1.symm.trans hx398_1)
                                        injection ea_ with ea_ en_ ec_
                                        subst ea_
                                        subst ec_
                                        clear en_
                                        have p399 : 0 ≤ (x12_2 : Int) := of_decide_eq_true (by first | (with_reducible assumption) | assumption)
                                        have q399 : x12_2 < (((rd_T34 t369 x10_1).f1).length : Int) := of_decide_eq_true (by first | (with_reducible assumption) | assumption)
                                        obtain ⟨ad399, e399, hx399_0⟩ := Kd.at_int (by repeat (first | (with_reducible exact HR398_1.out) | (with_reducible refine Kd.C_alloc ?_ _) | (with_reducible refine Kd.C_drewN ?_ _) | (with_reducible refine Kd.C_drew ?_) | exact HR398_1.out | exact (Kd.V_reads' HL398_1.out).2.2)) x12_2 p399 q399
                                        cases e399
                                        replace p399 := eq_true p399
                                        replace q399 := eq_true q399
                                        go_wp2
                                        repeat (go_quiet (fail); try go_wp2)
                                        go_roundg k2
                                        case measure => have := HK1.out; have := HK2.out; omega
                                        case rel => exact ⟨(wrap64 (x8_2 + (rd ((rd_T34 t369 x10_1).f1) x12_2))), (wrap64 ((wrap64 (x11_2 + (rd ((rd_T35 l1 x10_1).f1) x12_2))) - (rd ((rd_T34 t369 x10_1).f1) x12_2))), (wrap64 (x12_2 + 1)), (by first | rfl | (simp; done) | (simp [*]; done)), (by first | rfl | (simp; done) | (simp [*]; done)), (by first | rfl | (simp; done) | (simp [*]; done)), H', ⟨by have := HK1.out; have := HK2.out; omega⟩, ⟨by (with_reducible repeat (first | apply Kd.N_alloc | apply Kd.N_drewN | apply Kd.N_drew)); exact HO_5.out⟩, ⟨by repeat (first | (with_reducible exact HR377_1.out) | (with_reducible refine Kd.C_alloc ?_ _) | (with_reducible refine Kd.C_drewN ?_ _) | (with_reducible refine Kd.C_drew ?_) | exact HR377_1.out | exact (Kd.V_reads' HL377_1.out).2.2)⟩, ⟨by repeat (first | (with_reducible first | exact HB.out | apply below_alloc | apply pw_below_drewN | apply below_drew1) | exact HB.out)⟩⟩
                                · rw [if_neg c20] at H
                                  exact absurd H (by simp)
                              · rw [if_neg c19] at H
                                exact absurd H (by simp)
                            · rw [if_neg c18] at H
                              exact absurd H (by simp)
                          · rw [if_neg c17] at H
                            have c17b0 : decide (x12_2 < (((rd_T35 l1 x10_1).f1).length : Int)) = false := decide_eq_false c17
                            clear c17
                            by_cases c25 : x9_1 = true
                            · subst c25
                              have H1 : (lombardlaw29_CloseWhole.l0 k2 a0 l1 t369 t370 x8_2 (x11_2 == 0) (wrap64 (x10_1 + 1))) = some r := by rw [if_pos rfl] at H; exact H
                              clear H
                              have H := H1
                              clear H1
                              have H' := Aside0.mk H
                              clear H
                              have p379 : 0 ≤ (x10_1 : Int) := of_decide_eq_true (by first | (with_reducible assumption) | assumption)
                              have q379 : x10_1 < (l1.length : Int) := of_decide_eq_true (by first | (with_reducible assumption) | assumption)
                              obtain ⟨ad379, A379_1, c379_1, e379, hx379_0, hx379_1, hl379_1, hi379_1⟩ := at_T35 HR1.out x10_1 p379 q379
                              obtain rfl : ad378 = ad379 := (by injection e379)
                              replace hx379_0 := (HB.out.cell (World.block_lt_of_cell? w _ hx379_0)).trans hx379_0
                              replace hx379_1 := (HB.out.cell (World.block_lt_of_cell? w _ hx379_1)).trans hx379_1
                              have HR379_1 := Aside0.mk hi379_1
                              have HC379_1 := Aside0.mk hl379_1
                              clear hi379_1 hl379_1
                              replace p379 := eq_true p379
                              replace q379 := eq_true q379
                              go_wp2
                              repeat (go_quiet (fail); try go_wp2)
                              go_roundg k2
                              case measure => have := HK1.out; have := HK2.out; omega
                              case rel => exact ⟨(x8_2), ((x11_2 == 0)), (wrap64 (x10_1 + 1)), (by first | rfl | (simp; done) | (simp [*]; done)), (by first | rfl | (simp; done) | (simp [*]; done)), (by first | rfl | (simp; done) | (simp [*]; done)), H', ⟨by have := HK1.out; have := HK2.out; omega⟩, ⟨by (with_reducible repeat (first | apply Kd.N_alloc | apply Kd.N_drewN | apply Kd.N_drew)); exact HO_5.out⟩, ⟨by repeat (first | (with_reducible first | exact HB.out | apply below_alloc | apply pw_below_drewN | apply below_drew1) | exact HB.out)⟩⟩
                            · replace c25 := Bool.eq_false_iff.mpr c25
                              subst c25
                              have H1 : (lombardlaw29_CloseWhole.l0 k2 a0 l1 t369 t370 x8_2 false (wrap64 (x10_1 + 1))) = some r := by rw [if_neg (show ¬ (false = true) by decide)] at H; exact H
                              clear H
                              have H := H1
                              clear H1
                              have H' := Aside0.mk H
                              clear H
                              have p379 : 0 ≤ (x10_1 : Int) := of_decide_eq_true (by first | (with_reducible assumption) | assumption)
                              have q379 : x10_1 < (l1.length : Int) := of_decide_eq_true (by first | (with_reducible assumption) | assumption)
                              obtain ⟨ad379, A379_1, c379_1, e379, hx379_0, hx379_1, hl379_1, hi379_1⟩ := at_T35 HR1.out x10_1 p379 q379
                              obtain rfl : ad378 = ad379 := (by injection e379)
                              replace hx379_0 := (HB.out.cell (World.block_lt_of_cell? w _ hx379_0)).trans hx379_0
                              replace hx379_1 := (HB.out.cell (World.block_lt_of_cell? w _ hx379_1)).trans hx379_1
                              have HR379_1 := Aside0.mk hi379_1
                              have HC379_1 := Aside0.mk hl379_1
                              clear hi379_1 hl379_1
                              replace p379 := eq_true p379
                              replace q379 := eq_true q379
                              go_wp2
                              repeat (go_quiet (fail); try go_wp2)
                              go_roundg k2
                              case measure => have := HK1.out; have := HK2.out; omega
                              case rel => exact ⟨(x8_2), (false), (wrap64 (x10_1 + 1)), (by first | rfl | (simp; done) | (simp [*]; done)), (by first | rfl | (simp; done) | (simp [*]; done)), (by first | rfl | (simp; done) | (simp [*]; done)), H', ⟨by have := HK1.out; have := HK2.out; omega⟩, ⟨by (with_reducible repeat (first | apply Kd.N_alloc | apply Kd.N_drewN | apply Kd.N_drew)); exact HO_5.out⟩, ⟨by repeat (first | (with_reducible first | exact HB.out | apply below_alloc | apply pw_below_drewN | apply below_drew1) | exact HB.out)⟩⟩
                        · rw [if_neg c16] at H
                          exact absurd H (by simp)
                      · rw [if_neg c15] at H
                        exact absurd H (by simp)
                · rw [if_neg c14] at H
                  have c14b0 : ((((rd_T34 t369 x10_1).f1).length : Int) == (((rd_T35 l1 x10_1).f1).length : Int)) = false := beq_eq_false_iff_ne.mpr c14
                  have c14b1 : ((((rd_T34 t369 x10_1).f1).length : Int) != (((rd_T35 l1 x10_1).f1).length : Int)) = true := bne_iff_ne.mpr c14
                  have c14b2 : (((rd_T34 t369 x10_1).f1).length == ((rd_T35 l1 x10_1).f1).length) = false := by first | simpa using c14 | (simp at c14 ⊢; omega)
                  obtain rfl := Option.some.inj H
                  have p377 : 0 ≤ (x10_1 : Int) := of_decide_eq_true (by first | (with_reducible assumption) | assumption)
                  have q377 : x10_1 < (t369.length : Int) := of_decide_eq_true (by first | (with_reducible assumption) | assumption)
                  obtain ⟨ad377, A377_1, c377_1, e377, hx377_0, hx377_1, hl377_1, hi377_1⟩ := at_T34 (Kd.N_reads' HO_5.out).2.2 x10_1 p377 q377
                  cases e377
                  obtain ⟨ce377, hce377, hMe377, hcc377⟩ := Kd.N_get HO_5.out z34 x10_1 p377 (by first | exact q377 | exact of_decide_eq_true (by first | (with_reducible assumption) | assumption) | (have e_ := (Kd.N_reads' HO_5.out).1; omega))
                  obtain ⟨ua377_1, uc377_1, rfl, ul377_1, ge377_1⟩ := k34_openF hMe377
                  have hv377_1 := hcc377 1 _ rfl
                  rw [add_field _ _ 1 (by omega)] at hv377_1
                  replace hv377_1 := Option.some.inj (hv377_1.symm.trans hx377_1)
                  injection hv377_1 with hva_ hvn_ hvc_
                  rw [hva_] at ge377_1
                  rw [hvc_] at ul377_1
                  have HL377_1 := Aside0.mk (show Kd.V (Kd.int .i64) 3 _ w.heap.size _ _ ((rd_T34 t369 x10_1).f1) from Kd.V_mk ul377_1 ge377_1)
                  clear hva_ hvn_ hvc_ ge377_1 ul377_1
                  clear hcc377 hce377
                  have HR377_1 := Aside0.mk hi377_1
                  have HC377_1 := Aside0.mk hl377_1
                  clear hi377_1 hl377_1
                  replace p377 := eq_true p377
                  replace q377 := eq_true q377
                  have p378 : 0 ≤ (x10_1 : Int) := of_decide_eq_true (by first | (with_reducible assumption) | assumption)
                  have q378 : x10_1 < (l1.length : Int) := of_decide_eq_true (by first | (with_reducible assumption) | assumption)
                  obtain ⟨ad378, A378_1, c378_1, e378, hx378_0, hx378_1, hl378_1, hi378_1⟩ := at_T35 HR1.out x10_1 p378 q378
                  cases e378
                  replace hx378_0 := (HB.out.cell (World.block_lt_of_cell? w _ hx378_0)).trans hx378_0
                  replace hx378_1 := (HB.out.cell (World.block_lt_of_cell? w _ hx378_1)).trans hx378_1
                  have HR378_1 := Aside0.mk hi378_1
                  have HC378_1 := Aside0.mk hl378_1
                  clear hi378_1 hl378_1
                  replace p378 := eq_true p378
                  replace q378 := eq_true q378
                  go_wp2
                  repeat (go_quiet (fail); try go_wp2)
                  go_ret
                  exact ⟨by first | rfl | (simp [errW_none, errW_some] <;> rfl) | (simp [*, errW_none, errW_some] <;> rfl), by repeat (first | (with_reducible first | exact HB.out | apply below_alloc | apply pw_below_drewN | apply below_drew1) | exact HB.out)⟩
              · rw [if_neg c13] at H
                exact absurd H (by simp)
            · rw [if_neg c12] at H
              exact absurd H (by simp)
          · rw [if_neg c11] at H
            have c11b0 : decide (x10_1 < (l1.length : Int)) = false := decide_eq_false c11
            clear c11
            by_cases c26 : x8_1 = a0
            · rw [if_pos c26] at H
              have c26b0 : (x8_1 == a0) = true := beq_iff_eq.mpr c26
              have c26b1 : (x8_1 != a0) = false := bne_eq_false_iff_eq.mpr c26
              clear c26
              by_cases c27 : t370 = 0
              · rw [if_pos c27] at H
                have c27b0 : (t370 == 0) = true := beq_iff_eq.mpr c27
                have c27b1 : (t370 != 0) = false := bne_eq_false_iff_eq.mpr c27
                clear c27
                replace H := Option.bind_eq_some_iff.mp H
                obtain ⟨t375, A280, H⟩ := H
                replace H : (some t375) = some r := H
                have A28 := Aside0.mk A280
                clear A280
                obtain rfl := Option.some.inj H
                go_wp2_with (first | (go_at_call 8; (with_reducible refine (lombardlaw29_awake.calls k1  t375 _ A28.out).mono ?_); rintro e w29 ⟨rfl, hb⟩; (try clear A28); have n0_ := Aside0.mk (Kd.N_below (by (with_reducible repeat (first | apply Kd.N_alloc | apply Kd.N_drewN | apply Kd.N_drew)); exact HO_5.out) hb); have n1_ := Aside0.mk (below_step (by repeat (first | (with_reducible first | exact HB.out | apply below_alloc | apply pw_below_drewN | apply below_drew1) | exact HB.out)) hb); clear HO_5; clear HB; have HO_5 := n0_; have HB := n1_; clear n0_ n1_; (try clear hb); (try clear hb2); (try clear hk); (try clear hi)))
                repeat (go_quiet (first | (go_at_call 8; (with_reducible refine (lombardlaw29_awake.calls k1  t375 _ A28.out).mono ?_); rintro e w29 ⟨rfl, hb⟩; (try clear A28); have n0_ := Aside0.mk (Kd.N_below (by (with_reducible repeat (first | apply Kd.N_alloc | apply Kd.N_drewN | apply Kd.N_drew)); exact HO_5.out) hb); have n1_ := Aside0.mk (below_step (by repeat (first | (with_reducible first | exact HB.out | apply below_alloc | apply pw_below_drewN | apply below_drew1) | exact HB.out)) hb); clear HO_5; clear HB; have HO_5 := n0_; have HB := n1_; clear n0_ n1_; (try clear hb); (try clear hb2); (try clear hk); (try clear hi))); try go_wp2_with (first | (go_at_call 8; (with_reducible refine (lombardlaw29_awake.calls k1  t375 _ A28.out).mono ?_); rintro e w29 ⟨rfl, hb⟩; (try clear A28); have n0_ := Aside0.mk (Kd.N_below (by (with_reducible repeat (first | apply Kd.N_alloc | apply Kd.N_drewN | apply Kd.N_drew)); exact HO_5.out) hb); have n1_ := Aside0.mk (below_step (by repeat (first | (with_reducible first | exact HB.out | apply below_alloc | apply pw_below_drewN | apply below_drew1) | exact HB.out)) hb); clear HO_5; clear HB; have HO_5 := n0_; have HB := n1_; clear n0_ n1_; (try clear hb); (try clear hb2); (try clear hk); (try clear hi))))
                go_ret
                exact ⟨by first | rfl | (simp [errW_none, errW_some] <;> rfl) | (simp [*, errW_none, errW_some] <;> rfl), by repeat (first | (with_reducible first | exact HB.out | apply below_alloc | apply pw_below_drewN | apply below_drew1) | exact HB.out)⟩
              · rw [if_neg c27] at H
                have c27b0 : (t370 == 0) = false := beq_eq_false_iff_ne.mpr c27
                have c27b1 : (t370 != 0) = true := bne_iff_ne.mpr c27
                by_cases c30 : x9_1 = true
                · subst c30
                  have H1 : ((lombardlaw29_awake.f k1).bind fun t376 => (some t376)) = some r := by rw [if_pos rfl] at H; exact H
                  clear H
                  have H := H1
                  clear H1
                  replace H := Option.bind_eq_some_iff.mp H
                  obtain ⟨t376, A310, H⟩ := H
                  replace H : (some t376) = some r := H
                  have A31 := Aside0.mk A310
                  clear A310
                  obtain rfl := Option.some.inj H
                  go_wp2_with (first | (go_at_call 8; (with_reducible refine (lombardlaw29_awake.calls k1  t376 _ A31.out).mono ?_); rintro e w32 ⟨rfl, hb⟩; (try clear A31); have n0_ := Aside0.mk (Kd.N_below (by (with_reducible repeat (first | apply Kd.N_alloc | apply Kd.N_drewN | apply Kd.N_drew)); exact HO_5.out) hb); have n1_ := Aside0.mk (below_step (by repeat (first | (with_reducible first | exact HB.out | apply below_alloc | apply pw_below_drewN | apply below_drew1) | exact HB.out)) hb); clear HO_5; clear HB; have HO_5 := n0_; have HB := n1_; clear n0_ n1_; (try clear hb); (try clear hb2); (try clear hk); (try clear hi)))
                  repeat (go_quiet (first | (go_at_call 8; (with_reducible refine (lombardlaw29_awake.calls k1  t376 _ A31.out).mono ?_); rintro e w32 ⟨rfl, hb⟩; (try clear A31); have n0_ := Aside0.mk (Kd.N_below (by (with_reducible repeat (first | apply Kd.N_alloc | apply Kd.N_drewN | apply Kd.N_drew)); exact HO_5.out) hb); have n1_ := Aside0.mk (below_step (by repeat (first | (with_reducible first | exact HB.out | apply below_alloc | apply pw_below_drewN | apply below_drew1) | exact HB.out)) hb); clear HO_5; clear HB; have HO_5 := n0_; have HB := n1_; clear n0_ n1_; (try clear hb); (try clear hb2); (try clear hk); (try clear hi))); try go_wp2_with (first | (go_at_call 8; (with_reducible refine (lombardlaw29_awake.calls k1  t376 _ A31.out).mono ?_); rintro e w32 ⟨rfl, hb⟩; (try clear A31); have n0_ := Aside0.mk (Kd.N_below (by (with_reducible repeat (first | apply Kd.N_alloc | apply Kd.N_drewN | apply Kd.N_drew)); exact HO_5.out) hb); have n1_ := Aside0.mk (below_step (by repeat (first | (with_reducible first | exact HB.out | apply below_alloc | apply pw_below_drewN | apply below_drew1) | exact HB.out)) hb); clear HO_5; clear HB; have HO_5 := n0_; have HB := n1_; clear n0_ n1_; (try clear hb); (try clear hb2); (try clear hk); (try clear hi))))
                  go_ret
                  exact ⟨by first | rfl | (simp [errW_none, errW_some] <;> rfl) | (simp [*, errW_none, errW_some] <;> rfl), by repeat (first | (with_reducible first | exact HB.out | apply below_alloc | apply pw_below_drewN | apply below_drew1) | exact HB.out)⟩
                · replace c30 := Bool.eq_false_iff.mpr c30
                  subst c30
                  have H1 : (some false) = some r := by rw [if_neg (show ¬ (false = true) by decide)] at H; exact H
                  clear H
                  have H := H1
                  clear H1
                  obtain rfl := Option.some.inj H
                  go_wp2
                  repeat (go_quiet (fail); try go_wp2)
                  go_ret
                  exact ⟨by first | rfl | (simp [errW_none, errW_some] <;> rfl) | (simp [*, errW_none, errW_some] <;> rfl), by repeat (first | (with_reducible first | exact HB.out | apply below_alloc | apply pw_below_drewN | apply below_drew1) | exact HB.out)⟩
            · rw [if_neg c26] at H
              have c26b0 : (x8_1 == a0) = false := beq_eq_false_iff_ne.mpr c26
              have c26b1 : (x8_1 != a0) = true := bne_iff_ne.mpr c26
              obtain rfl := Option.some.inj H
              go_wp2
              repeat (go_quiet (fail); try go_wp2)
              go_ret
              exact ⟨by first | rfl | (simp [errW_none, errW_some] <;> rfl) | (simp [*, errW_none, errW_some] <;> rfl), by repeat (first | (with_reducible first | exact HB.out | apply below_alloc | apply pw_below_drewN | apply below_drew1) | exact HB.out)⟩
    · rw [if_neg c6] at H
      have c6b0 : ((t369.length : Int) == (l1.length : Int)) = false := beq_eq_false_iff_ne.mpr c6
      have c6b1 : ((t369.length : Int) != (l1.length : Int)) = true := bne_iff_ne.mpr c6
      have c6b2 : (t369.length == l1.length) = false := by first | simpa using c6 | (simp at c6 ⊢; omega)
      obtain rfl := Option.some.inj H
      go_enter Try.func4, Try.ntmps4
      go_wp2_with (first | (go_at_call 10; (with_reducible refine (lombardlaw29_layers.calls k (fun k_ => k_ < w.heap.size) _ _ l1 t366 _ ?side1 A3.out).mono ?_); (case side1 => exact Kd.V_mk HC1.out (Kd.F_below (Kd.C_F k35_heap HR1.out) (by repeat (first | (with_reducible first | exact HB.out | apply below_alloc | apply pw_below_drewN | apply below_drew1) | exact HB.out)))); rintro e w33 ⟨v367, rfl, ho0, hb⟩; (try clear A3); have n0_ := Aside0.mk (Kd.N_lower (Kd.N_mono (ok' := fun k_ => True) ho0 (fun k_ hk_ => trivial)) (below_size (by repeat (first | (with_reducible first | exact HB.out | apply below_alloc | apply pw_below_drewN | apply below_drew1) | exact HB.out)))); have n1_ := Aside0.mk (below_step (by repeat (first | (with_reducible first | exact HB.out | apply below_alloc | apply pw_below_drewN | apply below_drew1) | exact HB.out)) hb); clear HB; have HO368 := n0_; have HB := n1_; clear n0_ n1_; (try clear hb); (try clear hb2); (try clear hk); (try clear hi); (try clear ho0); obtain ⟨Ao34, co34, eo34⟩ := Kd.N_slice HO368.out; subst eo34) | (go_at_call 9; (with_reducible refine (close_Fall.calls k a0 _ _ t366 t369 t370 t371 _ ?side1 ?side2 A4.out).mono ?_); (case side1 => repeat (first | exact (Kd.N_reads' HO368.out).2.2 | (with_reducible refine Kd.C_alloc ?_ _) | (with_reducible refine Kd.C_drewN ?_ _) | (with_reducible refine Kd.C_drew ?_))); (case side2 => exact (Kd.N_reads' HO368.out).2.1); rintro e w35 ⟨v372, rfl, ho0, hb⟩; (try clear A4); have n0_ := Aside0.mk (Kd.N_elder' (by (with_reducible repeat (first | apply Kd.N_alloc | apply Kd.N_drewN | apply Kd.N_drew)); exact HO368.out) (by first | exact Kd.N_base ho0 | exact Kd.S_base ho0 | exact Kd.R_base ho0) hb); have n1_ := Aside0.mk (Kd.N_lower (Kd.N_mono (ok' := fun k_ => some k_ ≠ (.slice Ao34 t366.length co34 : Value).ownBlock) (Kd.S_N (Kd.S_bound ho0)) (fun k_ hk_ => (Kd.fresh' (Kd.N_lt (by (with_reducible repeat (first | apply Kd.N_alloc | apply Kd.N_drewN | apply Kd.N_drew)); exact HO368.out)) k_ hk_.2.1))) (below_size (by repeat (first | (with_reducible first | exact HB.out | apply below_alloc | apply pw_below_drewN | apply below_drew1) | exact HB.out)))); have n2_ := Aside0.mk (below_step (by repeat (first | (with_reducible first | exact HB.out | apply below_alloc | apply pw_below_drewN | apply below_drew1) | exact HB.out)) hb); clear HO368; clear HB; have HO368 := n0_; have HO373 := n1_; have HB := n2_; clear n0_ n1_ n2_; (try clear hb); (try clear hb2); (try clear hk); (try clear hi); (try clear ho0); obtain ⟨Ao36, co36, eo36⟩ := Kd.N_slice HO373.out; subst eo36))
      repeat (go_quiet (first | (go_at_call 10; (with_reducible refine (lombardlaw29_layers.calls k (fun k_ => k_ < w.heap.size) _ _ l1 t366 _ ?side1 A3.out).mono ?_); (case side1 => exact Kd.V_mk HC1.out (Kd.F_below (Kd.C_F k35_heap HR1.out) (by repeat (first | (with_reducible first | exact HB.out | apply below_alloc | apply pw_below_drewN | apply below_drew1) | exact HB.out)))); rintro e w33 ⟨v367, rfl, ho0, hb⟩; (try clear A3); have n0_ := Aside0.mk (Kd.N_lower (Kd.N_mono (ok' := fun k_ => True) ho0 (fun k_ hk_ => trivial)) (below_size (by repeat (first | (with_reducible first | exact HB.out | apply below_alloc | apply pw_below_drewN | apply below_drew1) | exact HB.out)))); have n1_ := Aside0.mk (below_step (by repeat (first | (with_reducible first | exact HB.out | apply below_alloc | apply pw_below_drewN | apply below_drew1) | exact HB.out)) hb); clear HB; have HO368 := n0_; have HB := n1_; clear n0_ n1_; (try clear hb); (try clear hb2); (try clear hk); (try clear hi); (try clear ho0); obtain ⟨Ao34, co34, eo34⟩ := Kd.N_slice HO368.out; subst eo34) | (go_at_call 9; (with_reducible refine (close_Fall.calls k a0 _ _ t366 t369 t370 t371 _ ?side1 ?side2 A4.out).mono ?_); (case side1 => repeat (first | exact (Kd.N_reads' HO368.out).2.2 | (with_reducible refine Kd.C_alloc ?_ _) | (with_reducible refine Kd.C_drewN ?_ _) | (with_reducible refine Kd.C_drew ?_))); (case side2 => exact (Kd.N_reads' HO368.out).2.1); rintro e w35 ⟨v372, rfl, ho0, hb⟩; (try clear A4); have n0_ := Aside0.mk (Kd.N_elder' (by (with_reducible repeat (first | apply Kd.N_alloc | apply Kd.N_drewN | apply Kd.N_drew)); exact HO368.out) (by first | exact Kd.N_base ho0 | exact Kd.S_base ho0 | exact Kd.R_base ho0) hb); have n1_ := Aside0.mk (Kd.N_lower (Kd.N_mono (ok' := fun k_ => some k_ ≠ (.slice Ao34 t366.length co34 : Value).ownBlock) (Kd.S_N (Kd.S_bound ho0)) (fun k_ hk_ => (Kd.fresh' (Kd.N_lt (by (with_reducible repeat (first | apply Kd.N_alloc | apply Kd.N_drewN | apply Kd.N_drew)); exact HO368.out)) k_ hk_.2.1))) (below_size (by repeat (first | (with_reducible first | exact HB.out | apply below_alloc | apply pw_below_drewN | apply below_drew1) | exact HB.out)))); have n2_ := Aside0.mk (below_step (by repeat (first | (with_reducible first | exact HB.out | apply below_alloc | apply pw_below_drewN | apply below_drew1) | exact HB.out)) hb); clear HO368; clear HB; have HO368 := n0_; have HO373 := n1_; have HB := n2_; clear n0_ n1_ n2_; (try clear hb); (try clear hb2); (try clear hk); (try clear hi); (try clear ho0); obtain ⟨Ao36, co36, eo36⟩ := Kd.N_slice HO373.out; subst eo36)); try go_wp2_with (first | (go_at_call 10; (with_reducible refine (lombardlaw29_layers.calls k (fun k_ => k_ < w.heap.size) _ _ l1 t366 _ ?side1 A3.out).mono ?_); (case side1 => exact Kd.V_mk HC1.out (Kd.F_below (Kd.C_F k35_heap HR1.out) (by repeat (first | (with_reducible first | exact HB.out | apply below_alloc | apply pw_below_drewN | apply below_drew1) | exact HB.out)))); rintro e w33 ⟨v367, rfl, ho0, hb⟩; (try clear A3); have n0_ := Aside0.mk (Kd.N_lower (Kd.N_mono (ok' := fun k_ => True) ho0 (fun k_ hk_ => trivial)) (below_size (by repeat (first | (with_reducible first | exact HB.out | apply below_alloc | apply pw_below_drewN | apply below_drew1) | exact HB.out)))); have n1_ := Aside0.mk (below_step (by repeat (first | (with_reducible first | exact HB.out | apply below_alloc | apply pw_below_drewN | apply below_drew1) | exact HB.out)) hb); clear HB; have HO368 := n0_; have HB := n1_; clear n0_ n1_; (try clear hb); (try clear hb2); (try clear hk); (try clear hi); (try clear ho0); obtain ⟨Ao34, co34, eo34⟩ := Kd.N_slice HO368.out; subst eo34) | (go_at_call 9; (with_reducible refine (close_Fall.calls k a0 _ _ t366 t369 t370 t371 _ ?side1 ?side2 A4.out).mono ?_); (case side1 => repeat (first | exact (Kd.N_reads' HO368.out).2.2 | (with_reducible refine Kd.C_alloc ?_ _) | (with_reducible refine Kd.C_drewN ?_ _) | (with_reducible refine Kd.C_drew ?_))); (case side2 => exact (Kd.N_reads' HO368.out).2.1); rintro e w35 ⟨v372, rfl, ho0, hb⟩; (try clear A4); have n0_ := Aside0.mk (Kd.N_elder' (by (with_reducible repeat (first | apply Kd.N_alloc | apply Kd.N_drewN | apply Kd.N_drew)); exact HO368.out) (by first | exact Kd.N_base ho0 | exact Kd.S_base ho0 | exact Kd.R_base ho0) hb); have n1_ := Aside0.mk (Kd.N_lower (Kd.N_mono (ok' := fun k_ => some k_ ≠ (.slice Ao34 t366.length co34 : Value).ownBlock) (Kd.S_N (Kd.S_bound ho0)) (fun k_ hk_ => (Kd.fresh' (Kd.N_lt (by (with_reducible repeat (first | apply Kd.N_alloc | apply Kd.N_drewN | apply Kd.N_drew)); exact HO368.out)) k_ hk_.2.1))) (below_size (by repeat (first | (with_reducible first | exact HB.out | apply below_alloc | apply pw_below_drewN | apply below_drew1) | exact HB.out)))); have n2_ := Aside0.mk (below_step (by repeat (first | (with_reducible first | exact HB.out | apply below_alloc | apply pw_below_drewN | apply below_drew1) | exact HB.out)) hb); clear HO368; clear HB; have HO368 := n0_; have HO373 := n1_; have HB := n2_; clear n0_ n1_ n2_; (try clear hb); (try clear hb2); (try clear hk); (try clear hi); (try clear ho0); obtain ⟨Ao36, co36, eo36⟩ := Kd.N_slice HO373.out; subst eo36)))
      go_ret
      exact ⟨by first | rfl | (simp [errW_none, errW_some] <;> rfl) | (simp [*, errW_none, errW_some] <;> rfl), by repeat (first | (with_reducible first | exact HB.out | apply below_alloc | apply pw_below_drewN | apply below_drew1) | exact HB.out)⟩
  · rw [if_neg c5] at H
    have c5b0 : (t371 == 0) = false := beq_eq_false_iff_ne.mpr c5
    have c5b1 : (t371 != 0) = true := bne_iff_ne.mpr c5
    by_cases c37 : (t369.length : Int) = 0
    · rw [if_pos c37] at H
      have c37b0 : ((t369.length : Int) == 0) = true := beq_iff_eq.mpr c37
      have c37b1 : ((t369.length : Int) != 0) = false := bne_eq_false_iff_eq.mpr c37
      clear c37
      by_cases c38 : t370 = 0
      · rw [if_pos c38] at H
        have c38b0 : (t370 == 0) = true := beq_iff_eq.mpr c38
        have c38b1 : (t370 != 0) = false := bne_eq_false_iff_eq.mpr c38
        clear c38
        replace H := Option.bind_eq_some_iff.mp H
        obtain ⟨t374, A390, H⟩ := H
        replace H : (some t374) = some r := H
        have A39 := Aside0.mk A390
        clear A390
        obtain rfl := Option.some.inj H
        go_enter Try.func4, Try.ntmps4
        go_wp2_with (first | (go_at_call 10; (with_reducible refine (lombardlaw29_layers.calls k (fun k_ => k_ < w.heap.size) _ _ l1 t366 _ ?side1 A3.out).mono ?_); (case side1 => exact Kd.V_mk HC1.out (Kd.F_below (Kd.C_F k35_heap HR1.out) (by repeat (first | (with_reducible first | exact HB.out | apply below_alloc | apply pw_below_drewN | apply below_drew1) | exact HB.out)))); rintro e w40 ⟨v367, rfl, ho0, hb⟩; (try clear A3); have n0_ := Aside0.mk (Kd.N_lower (Kd.N_mono (ok' := fun k_ => True) ho0 (fun k_ hk_ => trivial)) (below_size (by repeat (first | (with_reducible first | exact HB.out | apply below_alloc | apply pw_below_drewN | apply below_drew1) | exact HB.out)))); have n1_ := Aside0.mk (below_step (by repeat (first | (with_reducible first | exact HB.out | apply below_alloc | apply pw_below_drewN | apply below_drew1) | exact HB.out)) hb); clear HB; have HO368 := n0_; have HB := n1_; clear n0_ n1_; (try clear hb); (try clear hb2); (try clear hk); (try clear hi); (try clear ho0); obtain ⟨Ao41, co41, eo41⟩ := Kd.N_slice HO368.out; subst eo41) | (go_at_call 9; (with_reducible refine (close_Fall.calls k a0 _ _ t366 t369 t370 t371 _ ?side1 ?side2 A4.out).mono ?_); (case side1 => repeat (first | exact (Kd.N_reads' HO368.out).2.2 | (with_reducible refine Kd.C_alloc ?_ _) | (with_reducible refine Kd.C_drewN ?_ _) | (with_reducible refine Kd.C_drew ?_))); (case side2 => exact (Kd.N_reads' HO368.out).2.1); rintro e w42 ⟨v372, rfl, ho0, hb⟩; (try clear A4); have n0_ := Aside0.mk (Kd.N_elder' (by (with_reducible repeat (first | apply Kd.N_alloc | apply Kd.N_drewN | apply Kd.N_drew)); exact HO368.out) (by first | exact Kd.N_base ho0 | exact Kd.S_base ho0 | exact Kd.R_base ho0) hb); have n1_ := Aside0.mk (Kd.N_lower (Kd.N_mono (ok' := fun k_ => some k_ ≠ (.slice Ao41 t366.length co41 : Value).ownBlock) (Kd.S_N (Kd.S_bound ho0)) (fun k_ hk_ => (Kd.fresh' (Kd.N_lt (by (with_reducible repeat (first | apply Kd.N_alloc | apply Kd.N_drewN | apply Kd.N_drew)); exact HO368.out)) k_ hk_.2.1))) (below_size (by repeat (first | (with_reducible first | exact HB.out | apply below_alloc | apply pw_below_drewN | apply below_drew1) | exact HB.out)))); have n2_ := Aside0.mk (below_step (by repeat (first | (with_reducible first | exact HB.out | apply below_alloc | apply pw_below_drewN | apply below_drew1) | exact HB.out)) hb); clear HO368; clear HB; have HO368 := n0_; have HO373 := n1_; have HB := n2_; clear n0_ n1_ n2_; (try clear hb); (try clear hb2); (try clear hk); (try clear hi); (try clear ho0); obtain ⟨Ao43, co43, eo43⟩ := Kd.N_slice HO373.out; subst eo43) | (go_at_call 8; (with_reducible refine (lombardlaw29_awake.calls k  t374 _ A39.out).mono ?_); rintro e w44 ⟨rfl, hb⟩; (try clear A39); have n0_ := Aside0.mk (Kd.N_below (by (with_reducible repeat (first | apply Kd.N_alloc | apply Kd.N_drewN | apply Kd.N_drew)); exact HO368.out) hb); have n1_ := Aside0.mk (Kd.N_below (by (with_reducible repeat (first | apply Kd.N_alloc | apply Kd.N_drewN | apply Kd.N_drew)); exact HO373.out) hb); have n2_ := Aside0.mk (below_step (by repeat (first | (with_reducible first | exact HB.out | apply below_alloc | apply pw_below_drewN | apply below_drew1) | exact HB.out)) hb); clear HO368; clear HO373; clear HB; have HO368 := n0_; have HO373 := n1_; have HB := n2_; clear n0_ n1_ n2_; (try clear hb); (try clear hb2); (try clear hk); (try clear hi)))
        repeat (go_quiet (first | (go_at_call 10; (with_reducible refine (lombardlaw29_layers.calls k (fun k_ => k_ < w.heap.size) _ _ l1 t366 _ ?side1 A3.out).mono ?_); (case side1 => exact Kd.V_mk HC1.out (Kd.F_below (Kd.C_F k35_heap HR1.out) (by repeat (first | (with_reducible first | exact HB.out | apply below_alloc | apply pw_below_drewN | apply below_drew1) | exact HB.out)))); rintro e w40 ⟨v367, rfl, ho0, hb⟩; (try clear A3); have n0_ := Aside0.mk (Kd.N_lower (Kd.N_mono (ok' := fun k_ => True) ho0 (fun k_ hk_ => trivial)) (below_size (by repeat (first | (with_reducible first | exact HB.out | apply below_alloc | apply pw_below_drewN | apply below_drew1) | exact HB.out)))); have n1_ := Aside0.mk (below_step (by repeat (first | (with_reducible first | exact HB.out | apply below_alloc | apply pw_below_drewN | apply below_drew1) | exact HB.out)) hb); clear HB; have HO368 := n0_; have HB := n1_; clear n0_ n1_; (try clear hb); (try clear hb2); (try clear hk); (try clear hi); (try clear ho0); obtain ⟨Ao41, co41, eo41⟩ := Kd.N_slice HO368.out; subst eo41) | (go_at_call 9; (with_reducible refine (close_Fall.calls k a0 _ _ t366 t369 t370 t371 _ ?side1 ?side2 A4.out).mono ?_); (case side1 => repeat (first | exact (Kd.N_reads' HO368.out).2.2 | (with_reducible refine Kd.C_alloc ?_ _) | (with_reducible refine Kd.C_drewN ?_ _) | (with_reducible refine Kd.C_drew ?_))); (case side2 => exact (Kd.N_reads' HO368.out).2.1); rintro e w42 ⟨v372, rfl, ho0, hb⟩; (try clear A4); have n0_ := Aside0.mk (Kd.N_elder' (by (with_reducible repeat (first | apply Kd.N_alloc | apply Kd.N_drewN | apply Kd.N_drew)); exact HO368.out) (by first | exact Kd.N_base ho0 | exact Kd.S_base ho0 | exact Kd.R_base ho0) hb); have n1_ := Aside0.mk (Kd.N_lower (Kd.N_mono (ok' := fun k_ => some k_ ≠ (.slice Ao41 t366.length co41 : Value).ownBlock) (Kd.S_N (Kd.S_bound ho0)) (fun k_ hk_ => (Kd.fresh' (Kd.N_lt (by (with_reducible repeat (first | apply Kd.N_alloc | apply Kd.N_drewN | apply Kd.N_drew)); exact HO368.out)) k_ hk_.2.1))) (below_size (by repeat (first | (with_reducible first | exact HB.out | apply below_alloc | apply pw_below_drewN | apply below_drew1) | exact HB.out)))); have n2_ := Aside0.mk (below_step (by repeat (first | (with_reducible first | exact HB.out | apply below_alloc | apply pw_below_drewN | apply below_drew1) | exact HB.out)) hb); clear HO368; clear HB; have HO368 := n0_; have HO373 := n1_; have HB := n2_; clear n0_ n1_ n2_; (try clear hb); (try clear hb2); (try clear hk); (try clear hi); (try clear ho0); obtain ⟨Ao43, co43, eo43⟩ := Kd.N_slice HO373.out; subst eo43) | (go_at_call 8; (with_reducible refine (lombardlaw29_awake.calls k  t374 _ A39.out).mono ?_); rintro e w44 ⟨rfl, hb⟩; (try clear A39); have n0_ := Aside0.mk (Kd.N_below (by (with_reducible repeat (first | apply Kd.N_alloc | apply Kd.N_drewN | apply Kd.N_drew)); exact HO368.out) hb); have n1_ := Aside0.mk (Kd.N_below (by (with_reducible repeat (first | apply Kd.N_alloc | apply Kd.N_drewN | apply Kd.N_drew)); exact HO373.out) hb); have n2_ := Aside0.mk (below_step (by repeat (first | (with_reducible first | exact HB.out | apply below_alloc | apply pw_below_drewN | apply below_drew1) | exact HB.out)) hb); clear HO368; clear HO373; clear HB; have HO368 := n0_; have HO373 := n1_; have HB := n2_; clear n0_ n1_ n2_; (try clear hb); (try clear hb2); (try clear hk); (try clear hi))); try go_wp2_with (first | (go_at_call 10; (with_reducible refine (lombardlaw29_layers.calls k (fun k_ => k_ < w.heap.size) _ _ l1 t366 _ ?side1 A3.out).mono ?_); (case side1 => exact Kd.V_mk HC1.out (Kd.F_below (Kd.C_F k35_heap HR1.out) (by repeat (first | (with_reducible first | exact HB.out | apply below_alloc | apply pw_below_drewN | apply below_drew1) | exact HB.out)))); rintro e w40 ⟨v367, rfl, ho0, hb⟩; (try clear A3); have n0_ := Aside0.mk (Kd.N_lower (Kd.N_mono (ok' := fun k_ => True) ho0 (fun k_ hk_ => trivial)) (below_size (by repeat (first | (with_reducible first | exact HB.out | apply below_alloc | apply pw_below_drewN | apply below_drew1) | exact HB.out)))); have n1_ := Aside0.mk (below_step (by repeat (first | (with_reducible first | exact HB.out | apply below_alloc | apply pw_below_drewN | apply below_drew1) | exact HB.out)) hb); clear HB; have HO368 := n0_; have HB := n1_; clear n0_ n1_; (try clear hb); (try clear hb2); (try clear hk); (try clear hi); (try clear ho0); obtain ⟨Ao41, co41, eo41⟩ := Kd.N_slice HO368.out; subst eo41) | (go_at_call 9; (with_reducible refine (close_Fall.calls k a0 _ _ t366 t369 t370 t371 _ ?side1 ?side2 A4.out).mono ?_); (case side1 => repeat (first | exact (Kd.N_reads' HO368.out).2.2 | (with_reducible refine Kd.C_alloc ?_ _) | (with_reducible refine Kd.C_drewN ?_ _) | (with_reducible refine Kd.C_drew ?_))); (case side2 => exact (Kd.N_reads' HO368.out).2.1); rintro e w42 ⟨v372, rfl, ho0, hb⟩; (try clear A4); have n0_ := Aside0.mk (Kd.N_elder' (by (with_reducible repeat (first | apply Kd.N_alloc | apply Kd.N_drewN | apply Kd.N_drew)); exact HO368.out) (by first | exact Kd.N_base ho0 | exact Kd.S_base ho0 | exact Kd.R_base ho0) hb); have n1_ := Aside0.mk (Kd.N_lower (Kd.N_mono (ok' := fun k_ => some k_ ≠ (.slice Ao41 t366.length co41 : Value).ownBlock) (Kd.S_N (Kd.S_bound ho0)) (fun k_ hk_ => (Kd.fresh' (Kd.N_lt (by (with_reducible repeat (first | apply Kd.N_alloc | apply Kd.N_drewN | apply Kd.N_drew)); exact HO368.out)) k_ hk_.2.1))) (below_size (by repeat (first | (with_reducible first | exact HB.out | apply below_alloc | apply pw_below_drewN | apply below_drew1) | exact HB.out)))); have n2_ := Aside0.mk (below_step (by repeat (first | (with_reducible first | exact HB.out | apply below_alloc | apply pw_below_drewN | apply below_drew1) | exact HB.out)) hb); clear HO368; clear HB; have HO368 := n0_; have HO373 := n1_; have HB := n2_; clear n0_ n1_ n2_; (try clear hb); (try clear hb2); (try clear hk); (try clear hi); (try clear ho0); obtain ⟨Ao43, co43, eo43⟩ := Kd.N_slice HO373.out; subst eo43) | (go_at_call 8; (with_reducible refine (lombardlaw29_awake.calls k  t374 _ A39.out).mono ?_); rintro e w44 ⟨rfl, hb⟩; (try clear A39); have n0_ := Aside0.mk (Kd.N_below (by (with_reducible repeat (first | apply Kd.N_alloc | apply Kd.N_drewN | apply Kd.N_drew)); exact HO368.out) hb); have n1_ := Aside0.mk (Kd.N_below (by (with_reducible repeat (first | apply Kd.N_alloc | apply Kd.N_drewN | apply Kd.N_drew)); exact HO373.out) hb); have n2_ := Aside0.mk (below_step (by repeat (first | (with_reducible first | exact HB.out | apply below_alloc | apply pw_below_drewN | apply below_drew1) | exact HB.out)) hb); clear HO368; clear HO373; clear HB; have HO368 := n0_; have HO373 := n1_; have HB := n2_; clear n0_ n1_ n2_; (try clear hb); (try clear hb2); (try clear hk); (try clear hi))))
        go_ret
        exact ⟨by first | rfl | (simp [errW_none, errW_some] <;> rfl) | (simp [*, errW_none, errW_some] <;> rfl), by repeat (first | (with_reducible first | exact HB.out | apply below_alloc | apply pw_below_drewN | apply below_drew1) | exact HB.out)⟩
      · rw [if_neg c38] at H
        have c38b0 : (t370 == 0) = false := beq_eq_false_iff_ne.mpr c38
        have c38b1 : (t370 != 0) = true := bne_iff_ne.mpr c38
        obtain rfl := Option.some.inj H
        go_enter Try.func4, Try.ntmps4
        go_wp2_with (first | (go_at_call 10; (with_reducible refine (lombardlaw29_layers.calls k (fun k_ => k_ < w.heap.size) _ _ l1 t366 _ ?side1 A3.out).mono ?_); (case side1 => exact Kd.V_mk HC1.out (Kd.F_below (Kd.C_F k35_heap HR1.out) (by repeat (first | (with_reducible first | exact HB.out | apply below_alloc | apply pw_below_drewN | apply below_drew1) | exact HB.out)))); rintro e w45 ⟨v367, rfl, ho0, hb⟩; (try clear A3); have n0_ := Aside0.mk (Kd.N_lower (Kd.N_mono (ok' := fun k_ => True) ho0 (fun k_ hk_ => trivial)) (below_size (by repeat (first | (with_reducible first | exact HB.out | apply below_alloc | apply pw_below_drewN | apply below_drew1) | exact HB.out)))); have n1_ := Aside0.mk (below_step (by repeat (first | (with_reducible first | exact HB.out | apply below_alloc | apply pw_below_drewN | apply below_drew1) | exact HB.out)) hb); clear HB; have HO368 := n0_; have HB := n1_; clear n0_ n1_; (try clear hb); (try clear hb2); (try clear hk); (try clear hi); (try clear ho0); obtain ⟨Ao46, co46, eo46⟩ := Kd.N_slice HO368.out; subst eo46) | (go_at_call 9; (with_reducible refine (close_Fall.calls k a0 _ _ t366 t369 t370 t371 _ ?side1 ?side2 A4.out).mono ?_); (case side1 => repeat (first | exact (Kd.N_reads' HO368.out).2.2 | (with_reducible refine Kd.C_alloc ?_ _) | (with_reducible refine Kd.C_drewN ?_ _) | (with_reducible refine Kd.C_drew ?_))); (case side2 => exact (Kd.N_reads' HO368.out).2.1); rintro e w47 ⟨v372, rfl, ho0, hb⟩; (try clear A4); have n0_ := Aside0.mk (Kd.N_elder' (by (with_reducible repeat (first | apply Kd.N_alloc | apply Kd.N_drewN | apply Kd.N_drew)); exact HO368.out) (by first | exact Kd.N_base ho0 | exact Kd.S_base ho0 | exact Kd.R_base ho0) hb); have n1_ := Aside0.mk (Kd.N_lower (Kd.N_mono (ok' := fun k_ => some k_ ≠ (.slice Ao46 t366.length co46 : Value).ownBlock) (Kd.S_N (Kd.S_bound ho0)) (fun k_ hk_ => (Kd.fresh' (Kd.N_lt (by (with_reducible repeat (first | apply Kd.N_alloc | apply Kd.N_drewN | apply Kd.N_drew)); exact HO368.out)) k_ hk_.2.1))) (below_size (by repeat (first | (with_reducible first | exact HB.out | apply below_alloc | apply pw_below_drewN | apply below_drew1) | exact HB.out)))); have n2_ := Aside0.mk (below_step (by repeat (first | (with_reducible first | exact HB.out | apply below_alloc | apply pw_below_drewN | apply below_drew1) | exact HB.out)) hb); clear HO368; clear HB; have HO368 := n0_; have HO373 := n1_; have HB := n2_; clear n0_ n1_ n2_; (try clear hb); (try clear hb2); (try clear hk); (try clear hi); (try clear ho0); obtain ⟨Ao48, co48, eo48⟩ := Kd.N_slice HO373.out; subst eo48))
        repeat (go_quiet (first | (go_at_call 10; (with_reducible refine (lombardlaw29_layers.calls k (fun k_ => k_ < w.heap.size) _ _ l1 t366 _ ?side1 A3.out).mono ?_); (case side1 => exact Kd.V_mk HC1.out (Kd.F_below (Kd.C_F k35_heap HR1.out) (by repeat (first | (with_reducible first | exact HB.out | apply below_alloc | apply pw_below_drewN | apply below_drew1) | exact HB.out)))); rintro e w45 ⟨v367, rfl, ho0, hb⟩; (try clear A3); have n0_ := Aside0.mk (Kd.N_lower (Kd.N_mono (ok' := fun k_ => True) ho0 (fun k_ hk_ => trivial)) (below_size (by repeat (first | (with_reducible first | exact HB.out | apply below_alloc | apply pw_below_drewN | apply below_drew1) | exact HB.out)))); have n1_ := Aside0.mk (below_step (by repeat (first | (with_reducible first | exact HB.out | apply below_alloc | apply pw_below_drewN | apply below_drew1) | exact HB.out)) hb); clear HB; have HO368 := n0_; have HB := n1_; clear n0_ n1_; (try clear hb); (try clear hb2); (try clear hk); (try clear hi); (try clear ho0); obtain ⟨Ao46, co46, eo46⟩ := Kd.N_slice HO368.out; subst eo46) | (go_at_call 9; (with_reducible refine (close_Fall.calls k a0 _ _ t366 t369 t370 t371 _ ?side1 ?side2 A4.out).mono ?_); (case side1 => repeat (first | exact (Kd.N_reads' HO368.out).2.2 | (with_reducible refine Kd.C_alloc ?_ _) | (with_reducible refine Kd.C_drewN ?_ _) | (with_reducible refine Kd.C_drew ?_))); (case side2 => exact (Kd.N_reads' HO368.out).2.1); rintro e w47 ⟨v372, rfl, ho0, hb⟩; (try clear A4); have n0_ := Aside0.mk (Kd.N_elder' (by (with_reducible repeat (first | apply Kd.N_alloc | apply Kd.N_drewN | apply Kd.N_drew)); exact HO368.out) (by first | exact Kd.N_base ho0 | exact Kd.S_base ho0 | exact Kd.R_base ho0) hb); have n1_ := Aside0.mk (Kd.N_lower (Kd.N_mono (ok' := fun k_ => some k_ ≠ (.slice Ao46 t366.length co46 : Value).ownBlock) (Kd.S_N (Kd.S_bound ho0)) (fun k_ hk_ => (Kd.fresh' (Kd.N_lt (by (with_reducible repeat (first | apply Kd.N_alloc | apply Kd.N_drewN | apply Kd.N_drew)); exact HO368.out)) k_ hk_.2.1))) (below_size (by repeat (first | (with_reducible first | exact HB.out | apply below_alloc | apply pw_below_drewN | apply below_drew1) | exact HB.out)))); have n2_ := Aside0.mk (below_step (by repeat (first | (with_reducible first | exact HB.out | apply below_alloc | apply pw_below_drewN | apply below_drew1) | exact HB.out)) hb); clear HO368; clear HB; have HO368 := n0_; have HO373 := n1_; have HB := n2_; clear n0_ n1_ n2_; (try clear hb); (try clear hb2); (try clear hk); (try clear hi); (try clear ho0); obtain ⟨Ao48, co48, eo48⟩ := Kd.N_slice HO373.out; subst eo48)); try go_wp2_with (first | (go_at_call 10; (with_reducible refine (lombardlaw29_layers.calls k (fun k_ => k_ < w.heap.size) _ _ l1 t366 _ ?side1 A3.out).mono ?_); (case side1 => exact Kd.V_mk HC1.out (Kd.F_below (Kd.C_F k35_heap HR1.out) (by repeat (first | (with_reducible first | exact HB.out | apply below_alloc | apply pw_below_drewN | apply below_drew1) | exact HB.out)))); rintro e w45 ⟨v367, rfl, ho0, hb⟩; (try clear A3); have n0_ := Aside0.mk (Kd.N_lower (Kd.N_mono (ok' := fun k_ => True) ho0 (fun k_ hk_ => trivial)) (below_size (by repeat (first | (with_reducible first | exact HB.out | apply below_alloc | apply pw_below_drewN | apply below_drew1) | exact HB.out)))); have n1_ := Aside0.mk (below_step (by repeat (first | (with_reducible first | exact HB.out | apply below_alloc | apply pw_below_drewN | apply below_drew1) | exact HB.out)) hb); clear HB; have HO368 := n0_; have HB := n1_; clear n0_ n1_; (try clear hb); (try clear hb2); (try clear hk); (try clear hi); (try clear ho0); obtain ⟨Ao46, co46, eo46⟩ := Kd.N_slice HO368.out; subst eo46) | (go_at_call 9; (with_reducible refine (close_Fall.calls k a0 _ _ t366 t369 t370 t371 _ ?side1 ?side2 A4.out).mono ?_); (case side1 => repeat (first | exact (Kd.N_reads' HO368.out).2.2 | (with_reducible refine Kd.C_alloc ?_ _) | (with_reducible refine Kd.C_drewN ?_ _) | (with_reducible refine Kd.C_drew ?_))); (case side2 => exact (Kd.N_reads' HO368.out).2.1); rintro e w47 ⟨v372, rfl, ho0, hb⟩; (try clear A4); have n0_ := Aside0.mk (Kd.N_elder' (by (with_reducible repeat (first | apply Kd.N_alloc | apply Kd.N_drewN | apply Kd.N_drew)); exact HO368.out) (by first | exact Kd.N_base ho0 | exact Kd.S_base ho0 | exact Kd.R_base ho0) hb); have n1_ := Aside0.mk (Kd.N_lower (Kd.N_mono (ok' := fun k_ => some k_ ≠ (.slice Ao46 t366.length co46 : Value).ownBlock) (Kd.S_N (Kd.S_bound ho0)) (fun k_ hk_ => (Kd.fresh' (Kd.N_lt (by (with_reducible repeat (first | apply Kd.N_alloc | apply Kd.N_drewN | apply Kd.N_drew)); exact HO368.out)) k_ hk_.2.1))) (below_size (by repeat (first | (with_reducible first | exact HB.out | apply below_alloc | apply pw_below_drewN | apply below_drew1) | exact HB.out)))); have n2_ := Aside0.mk (below_step (by repeat (first | (with_reducible first | exact HB.out | apply below_alloc | apply pw_below_drewN | apply below_drew1) | exact HB.out)) hb); clear HO368; clear HB; have HO368 := n0_; have HO373 := n1_; have HB := n2_; clear n0_ n1_ n2_; (try clear hb); (try clear hb2); (try clear hk); (try clear hi); (try clear ho0); obtain ⟨Ao48, co48, eo48⟩ := Kd.N_slice HO373.out; subst eo48)))
        go_ret
        exact ⟨by first | rfl | (simp [errW_none, errW_some] <;> rfl) | (simp [*, errW_none, errW_some] <;> rfl), by repeat (first | (with_reducible first | exact HB.out | apply below_alloc | apply pw_below_drewN | apply below_drew1) | exact HB.out)⟩
    · rw [if_neg c37] at H
      have c37b0 : ((t369.length : Int) == 0) = false := beq_eq_false_iff_ne.mpr c37
      have c37b1 : ((t369.length : Int) != 0) = true := bne_iff_ne.mpr c37
      have c37b2 : ¬ (t369 = []) := fun h_ => c37 (by rw [h_]; rfl)
      obtain rfl := Option.some.inj H
      go_enter Try.func4, Try.ntmps4
      go_wp2_with (first | (go_at_call 10; (with_reducible refine (lombardlaw29_layers.calls k (fun k_ => k_ < w.heap.size) _ _ l1 t366 _ ?side1 A3.out).mono ?_); (case side1 => exact Kd.V_mk HC1.out (Kd.F_below (Kd.C_F k35_heap HR1.out) (by repeat (first | (with_reducible first | exact HB.out | apply below_alloc | apply pw_below_drewN | apply below_drew1) | exact HB.out)))); rintro e w49 ⟨v367, rfl, ho0, hb⟩; (try clear A3); have n0_ := Aside0.mk (Kd.N_lower (Kd.N_mono (ok' := fun k_ => True) ho0 (fun k_ hk_ => trivial)) (below_size (by repeat (first | (with_reducible first | exact HB.out | apply below_alloc | apply pw_below_drewN | apply below_drew1) | exact HB.out)))); have n1_ := Aside0.mk (below_step (by repeat (first | (with_reducible first | exact HB.out | apply below_alloc | apply pw_below_drewN | apply below_drew1) | exact HB.out)) hb); clear HB; have HO368 := n0_; have HB := n1_; clear n0_ n1_; (try clear hb); (try clear hb2); (try clear hk); (try clear hi); (try clear ho0); obtain ⟨Ao50, co50, eo50⟩ := Kd.N_slice HO368.out; subst eo50) | (go_at_call 9; (with_reducible refine (close_Fall.calls k a0 _ _ t366 t369 t370 t371 _ ?side1 ?side2 A4.out).mono ?_); (case side1 => repeat (first | exact (Kd.N_reads' HO368.out).2.2 | (with_reducible refine Kd.C_alloc ?_ _) | (with_reducible refine Kd.C_drewN ?_ _) | (with_reducible refine Kd.C_drew ?_))); (case side2 => exact (Kd.N_reads' HO368.out).2.1); rintro e w51 ⟨v372, rfl, ho0, hb⟩; (try clear A4); have n0_ := Aside0.mk (Kd.N_elder' (by (with_reducible repeat (first | apply Kd.N_alloc | apply Kd.N_drewN | apply Kd.N_drew)); exact HO368.out) (by first | exact Kd.N_base ho0 | exact Kd.S_base ho0 | exact Kd.R_base ho0) hb); have n1_ := Aside0.mk (Kd.N_lower (Kd.N_mono (ok' := fun k_ => some k_ ≠ (.slice Ao50 t366.length co50 : Value).ownBlock) (Kd.S_N (Kd.S_bound ho0)) (fun k_ hk_ => (Kd.fresh' (Kd.N_lt (by (with_reducible repeat (first | apply Kd.N_alloc | apply Kd.N_drewN | apply Kd.N_drew)); exact HO368.out)) k_ hk_.2.1))) (below_size (by repeat (first | (with_reducible first | exact HB.out | apply below_alloc | apply pw_below_drewN | apply below_drew1) | exact HB.out)))); have n2_ := Aside0.mk (below_step (by repeat (first | (with_reducible first | exact HB.out | apply below_alloc | apply pw_below_drewN | apply below_drew1) | exact HB.out)) hb); clear HO368; clear HB; have HO368 := n0_; have HO373 := n1_; have HB := n2_; clear n0_ n1_ n2_; (try clear hb); (try clear hb2); (try clear hk); (try clear hi); (try clear ho0); obtain ⟨Ao52, co52, eo52⟩ := Kd.N_slice HO373.out; subst eo52))
      repeat (go_quiet (first | (go_at_call 10; (with_reducible refine (lombardlaw29_layers.calls k (fun k_ => k_ < w.heap.size) _ _ l1 t366 _ ?side1 A3.out).mono ?_); (case side1 => exact Kd.V_mk HC1.out (Kd.F_below (Kd.C_F k35_heap HR1.out) (by repeat (first | (with_reducible first | exact HB.out | apply below_alloc | apply pw_below_drewN | apply below_drew1) | exact HB.out)))); rintro e w49 ⟨v367, rfl, ho0, hb⟩; (try clear A3); have n0_ := Aside0.mk (Kd.N_lower (Kd.N_mono (ok' := fun k_ => True) ho0 (fun k_ hk_ => trivial)) (below_size (by repeat (first | (with_reducible first | exact HB.out | apply below_alloc | apply pw_below_drewN | apply below_drew1) | exact HB.out)))); have n1_ := Aside0.mk (below_step (by repeat (first | (with_reducible first | exact HB.out | apply below_alloc | apply pw_below_drewN | apply below_drew1) | exact HB.out)) hb); clear HB; have HO368 := n0_; have HB := n1_; clear n0_ n1_; (try clear hb); (try clear hb2); (try clear hk); (try clear hi); (try clear ho0); obtain ⟨Ao50, co50, eo50⟩ := Kd.N_slice HO368.out; subst eo50) | (go_at_call 9; (with_reducible refine (close_Fall.calls k a0 _ _ t366 t369 t370 t371 _ ?side1 ?side2 A4.out).mono ?_); (case side1 => repeat (first | exact (Kd.N_reads' HO368.out).2.2 | (with_reducible refine Kd.C_alloc ?_ _) | (with_reducible refine Kd.C_drewN ?_ _) | (with_reducible refine Kd.C_drew ?_))); (case side2 => exact (Kd.N_reads' HO368.out).2.1); rintro e w51 ⟨v372, rfl, ho0, hb⟩; (try clear A4); have n0_ := Aside0.mk (Kd.N_elder' (by (with_reducible repeat (first | apply Kd.N_alloc | apply Kd.N_drewN | apply Kd.N_drew)); exact HO368.out) (by first | exact Kd.N_base ho0 | exact Kd.S_base ho0 | exact Kd.R_base ho0) hb); have n1_ := Aside0.mk (Kd.N_lower (Kd.N_mono (ok' := fun k_ => some k_ ≠ (.slice Ao50 t366.length co50 : Value).ownBlock) (Kd.S_N (Kd.S_bound ho0)) (fun k_ hk_ => (Kd.fresh' (Kd.N_lt (by (with_reducible repeat (first | apply Kd.N_alloc | apply Kd.N_drewN | apply Kd.N_drew)); exact HO368.out)) k_ hk_.2.1))) (below_size (by repeat (first | (with_reducible first | exact HB.out | apply below_alloc | apply pw_below_drewN | apply below_drew1) | exact HB.out)))); have n2_ := Aside0.mk (below_step (by repeat (first | (with_reducible first | exact HB.out | apply below_alloc | apply pw_below_drewN | apply below_drew1) | exact HB.out)) hb); clear HO368; clear HB; have HO368 := n0_; have HO373 := n1_; have HB := n2_; clear n0_ n1_ n2_; (try clear hb); (try clear hb2); (try clear hk); (try clear hi); (try clear ho0); obtain ⟨Ao52, co52, eo52⟩ := Kd.N_slice HO373.out; subst eo52)); try go_wp2_with (first | (go_at_call 10; (with_reducible refine (lombardlaw29_layers.calls k (fun k_ => k_ < w.heap.size) _ _ l1 t366 _ ?side1 A3.out).mono ?_); (case side1 => exact Kd.V_mk HC1.out (Kd.F_below (Kd.C_F k35_heap HR1.out) (by repeat (first | (with_reducible first | exact HB.out | apply below_alloc | apply pw_below_drewN | apply below_drew1) | exact HB.out)))); rintro e w49 ⟨v367, rfl, ho0, hb⟩; (try clear A3); have n0_ := Aside0.mk (Kd.N_lower (Kd.N_mono (ok' := fun k_ => True) ho0 (fun k_ hk_ => trivial)) (below_size (by repeat (first | (with_reducible first | exact HB.out | apply below_alloc | apply pw_below_drewN | apply below_drew1) | exact HB.out)))); have n1_ := Aside0.mk (below_step (by repeat (first | (with_reducible first | exact HB.out | apply below_alloc | apply pw_below_drewN | apply below_drew1) | exact HB.out)) hb); clear HB; have HO368 := n0_; have HB := n1_; clear n0_ n1_; (try clear hb); (try clear hb2); (try clear hk); (try clear hi); (try clear ho0); obtain ⟨Ao50, co50, eo50⟩ := Kd.N_slice HO368.out; subst eo50) | (go_at_call 9; (with_reducible refine (close_Fall.calls k a0 _ _ t366 t369 t370 t371 _ ?side1 ?side2 A4.out).mono ?_); (case side1 => repeat (first | exact (Kd.N_reads' HO368.out).2.2 | (with_reducible refine Kd.C_alloc ?_ _) | (with_reducible refine Kd.C_drewN ?_ _) | (with_reducible refine Kd.C_drew ?_))); (case side2 => exact (Kd.N_reads' HO368.out).2.1); rintro e w51 ⟨v372, rfl, ho0, hb⟩; (try clear A4); have n0_ := Aside0.mk (Kd.N_elder' (by (with_reducible repeat (first | apply Kd.N_alloc | apply Kd.N_drewN | apply Kd.N_drew)); exact HO368.out) (by first | exact Kd.N_base ho0 | exact Kd.S_base ho0 | exact Kd.R_base ho0) hb); have n1_ := Aside0.mk (Kd.N_lower (Kd.N_mono (ok' := fun k_ => some k_ ≠ (.slice Ao50 t366.length co50 : Value).ownBlock) (Kd.S_N (Kd.S_bound ho0)) (fun k_ hk_ => (Kd.fresh' (Kd.N_lt (by (with_reducible repeat (first | apply Kd.N_alloc | apply Kd.N_drewN | apply Kd.N_drew)); exact HO368.out)) k_ hk_.2.1))) (below_size (by repeat (first | (with_reducible first | exact HB.out | apply below_alloc | apply pw_below_drewN | apply below_drew1) | exact HB.out)))); have n2_ := Aside0.mk (below_step (by repeat (first | (with_reducible first | exact HB.out | apply below_alloc | apply pw_below_drewN | apply below_drew1) | exact HB.out)) hb); clear HO368; clear HB; have HO368 := n0_; have HO373 := n1_; have HB := n2_; clear n0_ n1_ n2_; (try clear hb); (try clear hb2); (try clear hk); (try clear hi); (try clear ho0); obtain ⟨Ao52, co52, eo52⟩ := Kd.N_slice HO373.out; subst eo52)))
      go_ret
      exact ⟨by first | rfl | (simp [errW_none, errW_some] <;> rfl) | (simp [*, errW_none, errW_some] <;> rfl), by repeat (first | (with_reducible first | exact HB.out | apply below_alloc | apply pw_below_drewN | apply below_drew1) | exact HB.out)⟩
end Go.Proofs.Ytlbhjkbjokiioaa.X
