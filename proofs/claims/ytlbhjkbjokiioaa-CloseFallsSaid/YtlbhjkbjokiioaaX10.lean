-- a shortened text: what this claim does not name is left out (wip/xprint/prune.py of this repo)
import Derived.Test.YtlbhjkbjokiioaaX0
import Derived.Test.YtlbhjkbjokiioaaX3
import Derived.Test.YtlbhjkbjokiioaaX4
import Derived.Test.YtlbhjkbjokiioaaX9
namespace Go.Proofs.Ytlbhjkbjokiioaa.X
open Go.RowKit Go.Proofs.YtlbhjkbjokiioaaW.PrintWords Go.Proofs.YtlbhjkbjokiioaaW.PrintLast Go.Proofs.YtlbhjkbjokiioaaW.PrintMore
attribute [local go_sem] max2_int min2_int max_two min_two max_three min_three max_four min_four
set_option linter.unusedVariables false
set_option linter.unusedSimpArgs false
mutual
def lombardlaw29_CloseFalls.j0 : Nat → List (S34) → List (S35) → Bool → Option (Bool)
  | 0, _, _, _ => none
  | k + 1, x5, x8, x45 => if x45 = true then (some false) else (lombardlaw29_CloseFalls.l0 k x5 x8 0)
def lombardlaw29_CloseFalls.l0 : Nat → List (S34) → List (S35) → Int → Option (Bool)
  | 0, _, _, _ => none
  | k + 1, x5, x8, x11 => if x11 < (x8.length : Int) then (if 0 ≤ x11 then (if x11 < (x5.length : Int) then (if ((rd_T34 x5 x11).f0).toList = ((rd_T35 x8 x11).f0).toList then ((lombardref01_Ints.f k ((rd_T34 x5 x11).f1) ((rd_T35 x8 x11).f1)).bind fun t364 => (if t364 = true then (lombardlaw29_CloseFalls.l0 k x5 x8 (wrap64 (x11 + 1))) else (some false))) else (some false)) else (none)) else (none)) else ((lombardlaw29_awake.f k).bind fun t365 => (some t365))
end
def lombardlaw29_CloseFalls.f (k : Nat) (a0 : Int) (l1 : List (S35)) : Option (Bool) := if (l1.length : Int) > 80 then ((lombardlaw29_awake.f k).bind fun t346 => (some t346)) else ((lombardlaw29_layers.f k l1).bind fun t347 => ((close_Fall.f k a0 t347).bind fun bt350 => ((lombardref29_Fall.f k a0 l1).bind fun bt355 => (if (bt350.1.length : Int) = (bt355.1.length : Int) then (if bt350.2.1 = bt355.2.1 then (lombardlaw29_CloseFalls.j0 k bt350.1 bt355.1 (bt350.2.2 != bt355.2.2)) else (lombardlaw29_CloseFalls.j0 k bt350.1 bt355.1 true)) else (lombardlaw29_CloseFalls.j0 k bt350.1 bt355.1 true)))))
theorem lombardlaw29_CloseFalls.mono_l : ∀ k, (∀ y0 y1 y2, LeO (lombardlaw29_CloseFalls.j0 k y0 y1 y2) (lombardlaw29_CloseFalls.j0 (k + 1) y0 y1 y2)) ∧ (∀ y0 y1 y2, LeO (lombardlaw29_CloseFalls.l0 k y0 y1 y2) (lombardlaw29_CloseFalls.l0 (k + 1) y0 y1 y2))
  | 0 => ⟨fun _ _ _ r h => by simp [lombardlaw29_CloseFalls.j0] at h, fun _ _ _ r h => by simp [lombardlaw29_CloseFalls.l0] at h⟩
  | k + 1 => by
    obtain ⟨ih0, ih1⟩ := lombardlaw29_CloseFalls.mono_l k
    refine ⟨?_, ?_⟩
    · intro y0 y1 y2
      unfold lombardlaw29_CloseFalls.j0
      repeat' first
      | (with_reducible exact ih0 _ _ _)
      | (with_reducible exact ih1 _ _ _)
      | (with_reducible exact close_Fall.mono _ _ _)
      | (with_reducible exact lombardlaw29_awake.mono _)
      | (with_reducible exact lombardlaw29_layers.mono _ _)
      | (with_reducible exact lombardref01_Ints.mono _ _ _)
      | (with_reducible exact lombardref29_Fall.mono _ _ _)
      | (with_reducible exact LeO.refl _)
      | (with_reducible exact LeO.none _)
      | (with_reducible refine LeO.ite ?_ ?_)
      | (with_reducible refine LeO.bind ?_ (fun _ => ?_))
      | exact ih0 _ _ _
      | exact ih1 _ _ _
      | exact close_Fall.mono _ _ _
      | exact lombardlaw29_awake.mono _
      | exact lombardlaw29_layers.mono _ _
      | exact lombardref01_Ints.mono _ _ _
      | exact lombardref29_Fall.mono _ _ _
      | exact LeO.none _
      | refine LeO.ite ?_ ?_
      | refine LeO.bind ?_ (fun _ => ?_)
    · intro y0 y1 y2
      unfold lombardlaw29_CloseFalls.l0
      repeat' first
      | (with_reducible exact ih0 _ _ _)
      | (with_reducible exact ih1 _ _ _)
      | (with_reducible exact close_Fall.mono _ _ _)
      | (with_reducible exact lombardlaw29_awake.mono _)
      | (with_reducible exact lombardlaw29_layers.mono _ _)
      | (with_reducible exact lombardref01_Ints.mono _ _ _)
      | (with_reducible exact lombardref29_Fall.mono _ _ _)
      | (with_reducible exact LeO.refl _)
      | (with_reducible exact LeO.none _)
      | (with_reducible refine LeO.ite ?_ ?_)
      | (with_reducible refine LeO.bind ?_ (fun _ => ?_))
      | exact ih0 _ _ _
      | exact ih1 _ _ _
      | exact close_Fall.mono _ _ _
      | exact lombardlaw29_awake.mono _
      | exact lombardlaw29_layers.mono _ _
      | exact lombardref01_Ints.mono _ _ _
      | exact lombardref29_Fall.mono _ _ _
      | exact LeO.none _
      | refine LeO.ite ?_ ?_
      | refine LeO.bind ?_ (fun _ => ?_)
theorem lombardlaw29_CloseFalls.mono : ∀ a0 a1 k, LeO (lombardlaw29_CloseFalls.f k a0 a1) (lombardlaw29_CloseFalls.f (k + 1) a0 a1) := by
  intro a0 a1 k
  obtain ⟨ih0, ih1⟩ := lombardlaw29_CloseFalls.mono_l k
  unfold lombardlaw29_CloseFalls.f
  repeat' first
      | (with_reducible exact ih0 _ _ _)
      | (with_reducible exact ih1 _ _ _)
      | (with_reducible exact close_Fall.mono _ _ _)
      | (with_reducible exact lombardlaw29_awake.mono _)
      | (with_reducible exact lombardlaw29_layers.mono _ _)
      | (with_reducible exact lombardref01_Ints.mono _ _ _)
      | (with_reducible exact lombardref29_Fall.mono _ _ _)
      | (with_reducible exact LeO.refl _)
      | (with_reducible exact LeO.none _)
      | (with_reducible refine LeO.ite ?_ ?_)
      | (with_reducible refine LeO.bind ?_ (fun _ => ?_))
      | exact ih0 _ _ _
      | exact ih1 _ _ _
      | exact close_Fall.mono _ _ _
      | exact lombardlaw29_awake.mono _
      | exact lombardlaw29_layers.mono _ _
      | exact lombardref01_Ints.mono _ _ _
      | exact lombardref29_Fall.mono _ _ _
      | exact LeO.none _
      | refine LeO.ite ?_ ?_
      | refine LeO.bind ?_ (fun _ => ?_)
set_option maxHeartbeats 8000000 in
set_option maxRecDepth 100000 in
theorem lombardlaw29_CloseFalls.calls (k : Nat) (a0 : Int) (A1 : Option Addr) (c1 : Nat) (l1 : List (S35)) (r : Bool) (w : World) (hr1 : Kd.C k35 w A1 l1.length l1) (hc1 : l1.length ≤ c1) (h : lombardlaw29_CloseFalls.f k a0 l1 = some r) :
    Calls Try.prog 3 #[.int .i64 a0, .slice A1 l1.length c1] w fun e w' => e = .returned (.bool r) ∧ Below w.heap.size w w' := by
  have HR1 := Aside0.mk hr1
  have HC1 := Aside0.mk hc1
  clear hr1 hc1
  have HB := Aside0.mk (Below.refl w.heap.size w)
  have H : (if (l1.length : Int) > 80 then ((lombardlaw29_awake.f k).bind fun t346 => (some t346)) else ((lombardlaw29_layers.f k l1).bind fun t347 => ((close_Fall.f k a0 t347).bind fun bt350 => ((lombardref29_Fall.f k a0 l1).bind fun bt355 => (if (bt350.1.length : Int) = (bt355.1.length : Int) then (if bt350.2.1 = bt355.2.1 then (lombardlaw29_CloseFalls.j0 k bt350.1 bt355.1 (bt350.2.2 != bt355.2.2)) else (lombardlaw29_CloseFalls.j0 k bt350.1 bt355.1 true)) else (lombardlaw29_CloseFalls.j0 k bt350.1 bt355.1 true)))))) = some r := h
  clear h
  by_cases c3 : (l1.length : Int) > 80
  · rw [if_pos c3] at H
    have c3b0 : decide (80 < (l1.length : Int)) = true := decide_eq_true c3
    have c3b1 : decide (80 < l1.length) = true := decide_eq_true (by omega)
    clear c3
    replace H := Option.bind_eq_some_iff.mp H
    obtain ⟨t346, A40, H⟩ := H
    replace H : (some t346) = some r := H
    have A4 := Aside0.mk A40
    clear A40
    obtain rfl := Option.some.inj H
    go_enter Try.func3, Try.ntmps3
    go_wp2_with (first | (go_at_call 8; (with_reducible refine (lombardlaw29_awake.calls k  t346 _ A4.out).mono ?_); rintro e w5 ⟨rfl, hb⟩; (try clear A4); have n0_ := Aside0.mk (below_step (by repeat (first | (with_reducible first | exact HB.out | apply below_alloc | apply pw_below_drewN | apply below_drew1) | exact HB.out)) hb); clear HB; have HB := n0_; clear n0_; (try clear hb); (try clear hb2); (try clear hk); (try clear hi)))
    repeat (go_quiet (first | (go_at_call 8; (with_reducible refine (lombardlaw29_awake.calls k  t346 _ A4.out).mono ?_); rintro e w5 ⟨rfl, hb⟩; (try clear A4); have n0_ := Aside0.mk (below_step (by repeat (first | (with_reducible first | exact HB.out | apply below_alloc | apply pw_below_drewN | apply below_drew1) | exact HB.out)) hb); clear HB; have HB := n0_; clear n0_; (try clear hb); (try clear hb2); (try clear hk); (try clear hi))); try go_wp2_with (first | (go_at_call 8; (with_reducible refine (lombardlaw29_awake.calls k  t346 _ A4.out).mono ?_); rintro e w5 ⟨rfl, hb⟩; (try clear A4); have n0_ := Aside0.mk (below_step (by repeat (first | (with_reducible first | exact HB.out | apply below_alloc | apply pw_below_drewN | apply below_drew1) | exact HB.out)) hb); clear HB; have HB := n0_; clear n0_; (try clear hb); (try clear hb2); (try clear hk); (try clear hi))))
    go_ret
    exact ⟨by first | rfl | (simp [errW_none, errW_some] <;> rfl) | (simp [*, errW_none, errW_some] <;> rfl), by repeat (first | (with_reducible first | exact HB.out | apply below_alloc | apply pw_below_drewN | apply below_drew1) | exact HB.out)⟩
  · rw [if_neg c3] at H
    have c3b0 : decide (80 < (l1.length : Int)) = false := decide_eq_false c3
    have c3b1 : decide (80 < l1.length) = false := decide_eq_false (by omega)
    clear c3
    replace H := Option.bind_eq_some_iff.mp H
    obtain ⟨t347, A60, H⟩ := H
    replace H : ((close_Fall.f k a0 t347).bind fun bt350 => ((lombardref29_Fall.f k a0 l1).bind fun bt355 => (if (bt350.1.length : Int) = (bt355.1.length : Int) then (if bt350.2.1 = bt355.2.1 then (lombardlaw29_CloseFalls.j0 k bt350.1 bt355.1 (bt350.2.2 != bt355.2.2)) else (lombardlaw29_CloseFalls.j0 k bt350.1 bt355.1 true)) else (lombardlaw29_CloseFalls.j0 k bt350.1 bt355.1 true)))) = some r := H
    have A6 := Aside0.mk A60
    clear A60
    replace H := Option.bind_eq_some_iff.mp H
    obtain ⟨⟨t350, t351, t352⟩, A70, H⟩ := H
    replace H : ((lombardref29_Fall.f k a0 l1).bind fun bt355 => (if (t350.length : Int) = (bt355.1.length : Int) then (if t351 = bt355.2.1 then (lombardlaw29_CloseFalls.j0 k t350 bt355.1 (t352 != bt355.2.2)) else (lombardlaw29_CloseFalls.j0 k t350 bt355.1 true)) else (lombardlaw29_CloseFalls.j0 k t350 bt355.1 true))) = some r := H
    have A7 := Aside0.mk A70
    clear A70
    replace H := Option.bind_eq_some_iff.mp H
    obtain ⟨⟨t355, t358, t359⟩, A80, H⟩ := H
    replace H : (if (t350.length : Int) = (t355.length : Int) then (if t351 = t358 then (lombardlaw29_CloseFalls.j0 k t350 t355 (t352 != t359)) else (lombardlaw29_CloseFalls.j0 k t350 t355 true)) else (lombardlaw29_CloseFalls.j0 k t350 t355 true)) = some r := H
    have A8 := Aside0.mk A80
    clear A80
    have HC9 := Aside0.mk H
    clear H
    go_enter Try.func3, Try.ntmps3
    go_upto_region 5 with (first | (go_at_call 10; (with_reducible refine (lombardlaw29_layers.calls k (fun k_ => k_ < w.heap.size) _ _ l1 t347 _ ?side1 A6.out).mono ?_); (case side1 => exact Kd.V_mk HC1.out (Kd.F_below (Kd.C_F k35_heap HR1.out) (by repeat (first | (with_reducible first | exact HB.out | apply below_alloc | apply pw_below_drewN | apply below_drew1) | exact HB.out)))); rintro e w10 ⟨v348, rfl, ho0, hb⟩; (try clear A6); have n0_ := Aside0.mk (Kd.N_lower (Kd.N_mono (ok' := fun k_ => True) ho0 (fun k_ hk_ => trivial)) (below_size (by repeat (first | (with_reducible first | exact HB.out | apply below_alloc | apply pw_below_drewN | apply below_drew1) | exact HB.out)))); have n1_ := Aside0.mk (below_step (by repeat (first | (with_reducible first | exact HB.out | apply below_alloc | apply pw_below_drewN | apply below_drew1) | exact HB.out)) hb); clear HB; have HO349 := n0_; have HB := n1_; clear n0_ n1_; (try clear hb); (try clear hb2); (try clear hk); (try clear hi); (try clear ho0); obtain ⟨Ao11, co11, eo11⟩ := Kd.N_slice HO349.out; subst eo11) | (go_at_call 9; (with_reducible refine (close_Fall.calls k a0 _ _ t347 t350 t351 t352 _ ?side1 ?side2 A7.out).mono ?_); (case side1 => repeat (first | exact (Kd.N_reads' HO349.out).2.2 | (with_reducible refine Kd.C_alloc ?_ _) | (with_reducible refine Kd.C_drewN ?_ _) | (with_reducible refine Kd.C_drew ?_))); (case side2 => exact (Kd.N_reads' HO349.out).2.1); rintro e w12 ⟨v353, rfl, ho0, hb⟩; (try clear A7); have n0_ := Aside0.mk (Kd.N_elder' (by (with_reducible repeat (first | apply Kd.N_alloc | apply Kd.N_drewN | apply Kd.N_drew)); exact HO349.out) (by first | exact Kd.N_base ho0 | exact Kd.S_base ho0 | exact Kd.R_base ho0) hb); have n1_ := Aside0.mk (Kd.N_lower (Kd.N_mono (ok' := fun k_ => some k_ ≠ (.slice Ao11 t347.length co11 : Value).ownBlock) (Kd.S_N (Kd.S_bound ho0)) (fun k_ hk_ => (Kd.fresh' (Kd.N_lt (by (with_reducible repeat (first | apply Kd.N_alloc | apply Kd.N_drewN | apply Kd.N_drew)); exact HO349.out)) k_ hk_.2.1))) (below_size (by repeat (first | (with_reducible first | exact HB.out | apply below_alloc | apply pw_below_drewN | apply below_drew1) | exact HB.out)))); have n2_ := Aside0.mk (below_step (by repeat (first | (with_reducible first | exact HB.out | apply below_alloc | apply pw_below_drewN | apply below_drew1) | exact HB.out)) hb); clear HO349; clear HB; have HO349 := n0_; have HO354 := n1_; have HB := n2_; clear n0_ n1_ n2_; (try clear hb); (try clear hb2); (try clear hk); (try clear hi); (try clear ho0)) | (go_at_call 11; (with_reducible refine (lombardref29_Fall.calls k a0 (fun k_ => k_ < w.heap.size) _ _ l1 t355 t358 t359 _ ?side1 A8.out).mono ?_); (case side1 => exact Kd.V_mk HC1.out (Kd.F_below (Kd.C_F k35_heap HR1.out) (by repeat (first | (with_reducible first | exact HB.out | apply below_alloc | apply pw_below_drewN | apply below_drew1) | exact HB.out)))); rintro e w13 ⟨v356, rfl, ho0, hb⟩; (try clear A8); have n0_ := Aside0.mk (Kd.N_elder' (by (with_reducible repeat (first | apply Kd.N_alloc | apply Kd.N_drewN | apply Kd.N_drew)); exact HO349.out) (by first | exact Kd.N_base ho0 | exact Kd.S_base ho0 | exact Kd.R_base ho0) hb); have n1_ := Aside0.mk (Kd.N_elder' (by (with_reducible repeat (first | apply Kd.N_alloc | apply Kd.N_drewN | apply Kd.N_drew)); exact HO354.out) (by first | exact Kd.N_base ho0 | exact Kd.S_base ho0 | exact Kd.R_base ho0) hb); have n2_ := Aside0.mk (Kd.N_lower (Kd.N_mono (ok' := fun k_ => some k_ ≠ (.slice Ao11 t347.length co11 : Value).ownBlock ∧ some k_ ≠ (v353 : Value).ownBlock) ho0 (fun k_ hk_ => ⟨Or.elim hk_ (fun hs_ => fun e_ => Nat.not_le.2 hs_ (Kd.N_base HO349.out k_ e_.symm)) (fun hn_ => (Kd.fresh' (Kd.N_lt (by (with_reducible repeat (first | apply Kd.N_alloc | apply Kd.N_drewN | apply Kd.N_drew)); exact HO349.out)) k_ hn_)), Or.elim hk_ (fun hs_ => fun e_ => Nat.not_le.2 hs_ (Kd.N_base HO354.out k_ e_.symm)) (fun hn_ => (Kd.fresh' (Kd.N_lt (by (with_reducible repeat (first | apply Kd.N_alloc | apply Kd.N_drewN | apply Kd.N_drew)); exact HO354.out)) k_ hn_))⟩)) (below_size (by repeat (first | (with_reducible first | exact HB.out | apply below_alloc | apply pw_below_drewN | apply below_drew1) | exact HB.out)))); have n3_ := Aside0.mk (below_step (by repeat (first | (with_reducible first | exact HB.out | apply below_alloc | apply pw_below_drewN | apply below_drew1) | exact HB.out)) hb); clear HO349; clear HO354; clear HB; have HO349 := n0_; have HO354 := n1_; have HO357 := n2_; have HB := n3_; clear n0_ n1_ n2_ n3_; (try clear hb); (try clear hb2); (try clear hk); (try clear hi); (try clear ho0)))
    repeat (go_quiet (first | (go_at_call 10; (with_reducible refine (lombardlaw29_layers.calls k (fun k_ => k_ < w.heap.size) _ _ l1 t347 _ ?side1 A6.out).mono ?_); (case side1 => exact Kd.V_mk HC1.out (Kd.F_below (Kd.C_F k35_heap HR1.out) (by repeat (first | (with_reducible first | exact HB.out | apply below_alloc | apply pw_below_drewN | apply below_drew1) | exact HB.out)))); rintro e w10 ⟨v348, rfl, ho0, hb⟩; (try clear A6); have n0_ := Aside0.mk (Kd.N_lower (Kd.N_mono (ok' := fun k_ => True) ho0 (fun k_ hk_ => trivial)) (below_size (by repeat (first | (with_reducible first | exact HB.out | apply below_alloc | apply pw_below_drewN | apply below_drew1) | exact HB.out)))); have n1_ := Aside0.mk (below_step (by repeat (first | (with_reducible first | exact HB.out | apply below_alloc | apply pw_below_drewN | apply below_drew1) | exact HB.out)) hb); clear HB; have HO349 := n0_; have HB := n1_; clear n0_ n1_; (try clear hb); (try clear hb2); (try clear hk); (try clear hi); (try clear ho0); obtain ⟨Ao11, co11, eo11⟩ := Kd.N_slice HO349.out; subst eo11) | (go_at_call 9; (with_reducible refine (close_Fall.calls k a0 _ _ t347 t350 t351 t352 _ ?side1 ?side2 A7.out).mono ?_); (case side1 => repeat (first | exact (Kd.N_reads' HO349.out).2.2 | (with_reducible refine Kd.C_alloc ?_ _) | (with_reducible refine Kd.C_drewN ?_ _) | (with_reducible refine Kd.C_drew ?_))); (case side2 => exact (Kd.N_reads' HO349.out).2.1); rintro e w12 ⟨v353, rfl, ho0, hb⟩; (try clear A7); have n0_ := Aside0.mk (Kd.N_elder' (by (with_reducible repeat (first | apply Kd.N_alloc | apply Kd.N_drewN | apply Kd.N_drew)); exact HO349.out) (by first | exact Kd.N_base ho0 | exact Kd.S_base ho0 | exact Kd.R_base ho0) hb); have n1_ := Aside0.mk (Kd.N_lower (Kd.N_mono (ok' := fun k_ => some k_ ≠ (.slice Ao11 t347.length co11 : Value).ownBlock) (Kd.S_N (Kd.S_bound ho0)) (fun k_ hk_ => (Kd.fresh' (Kd.N_lt (by (with_reducible repeat (first | apply Kd.N_alloc | apply Kd.N_drewN | apply Kd.N_drew)); exact HO349.out)) k_ hk_.2.1))) (below_size (by repeat (first | (with_reducible first | exact HB.out | apply below_alloc | apply pw_below_drewN | apply below_drew1) | exact HB.out)))); have n2_ := Aside0.mk (below_step (by repeat (first | (with_reducible first | exact HB.out | apply below_alloc | apply pw_below_drewN | apply below_drew1) | exact HB.out)) hb); clear HO349; clear HB; have HO349 := n0_; have HO354 := n1_; have HB := n2_; clear n0_ n1_ n2_; (try clear hb); (try clear hb2); (try clear hk); (try clear hi); (try clear ho0)) | (go_at_call 11; (with_reducible refine (lombardref29_Fall.calls k a0 (fun k_ => k_ < w.heap.size) _ _ l1 t355 t358 t359 _ ?side1 A8.out).mono ?_); (case side1 => exact Kd.V_mk HC1.out (Kd.F_below (Kd.C_F k35_heap HR1.out) (by repeat (first | (with_reducible first | exact HB.out | apply below_alloc | apply pw_below_drewN | apply below_drew1) | exact HB.out)))); rintro e w13 ⟨v356, rfl, ho0, hb⟩; (try clear A8); have n0_ := Aside0.mk (Kd.N_elder' (by (with_reducible repeat (first | apply Kd.N_alloc | apply Kd.N_drewN | apply Kd.N_drew)); exact HO349.out) (by first | exact Kd.N_base ho0 | exact Kd.S_base ho0 | exact Kd.R_base ho0) hb); have n1_ := Aside0.mk (Kd.N_elder' (by (with_reducible repeat (first | apply Kd.N_alloc | apply Kd.N_drewN | apply Kd.N_drew)); exact HO354.out) (by first | exact Kd.N_base ho0 | exact Kd.S_base ho0 | exact Kd.R_base ho0) hb); have n2_ := Aside0.mk (Kd.N_lower (Kd.N_mono (ok' := fun k_ => some k_ ≠ (.slice Ao11 t347.length co11 : Value).ownBlock ∧ some k_ ≠ (v353 : Value).ownBlock) ho0 (fun k_ hk_ => ⟨Or.elim hk_ (fun hs_ => fun e_ => Nat.not_le.2 hs_ (Kd.N_base HO349.out k_ e_.symm)) (fun hn_ => (Kd.fresh' (Kd.N_lt (by (with_reducible repeat (first | apply Kd.N_alloc | apply Kd.N_drewN | apply Kd.N_drew)); exact HO349.out)) k_ hn_)), Or.elim hk_ (fun hs_ => fun e_ => Nat.not_le.2 hs_ (Kd.N_base HO354.out k_ e_.symm)) (fun hn_ => (Kd.fresh' (Kd.N_lt (by (with_reducible repeat (first | apply Kd.N_alloc | apply Kd.N_drewN | apply Kd.N_drew)); exact HO354.out)) k_ hn_))⟩)) (below_size (by repeat (first | (with_reducible first | exact HB.out | apply below_alloc | apply pw_below_drewN | apply below_drew1) | exact HB.out)))); have n3_ := Aside0.mk (below_step (by repeat (first | (with_reducible first | exact HB.out | apply below_alloc | apply pw_below_drewN | apply below_drew1) | exact HB.out)) hb); clear HO349; clear HO354; clear HB; have HO349 := n0_; have HO354 := n1_; have HO357 := n2_; have HB := n3_; clear n0_ n1_ n2_ n3_; (try clear hb); (try clear hb2); (try clear hk); (try clear hi); (try clear ho0))); go_upto_region 5 with (first | (go_at_call 10; (with_reducible refine (lombardlaw29_layers.calls k (fun k_ => k_ < w.heap.size) _ _ l1 t347 _ ?side1 A6.out).mono ?_); (case side1 => exact Kd.V_mk HC1.out (Kd.F_below (Kd.C_F k35_heap HR1.out) (by repeat (first | (with_reducible first | exact HB.out | apply below_alloc | apply pw_below_drewN | apply below_drew1) | exact HB.out)))); rintro e w10 ⟨v348, rfl, ho0, hb⟩; (try clear A6); have n0_ := Aside0.mk (Kd.N_lower (Kd.N_mono (ok' := fun k_ => True) ho0 (fun k_ hk_ => trivial)) (below_size (by repeat (first | (with_reducible first | exact HB.out | apply below_alloc | apply pw_below_drewN | apply below_drew1) | exact HB.out)))); have n1_ := Aside0.mk (below_step (by repeat (first | (with_reducible first | exact HB.out | apply below_alloc | apply pw_below_drewN | apply below_drew1) | exact HB.out)) hb); clear HB; have HO349 := n0_; have HB := n1_; clear n0_ n1_; (try clear hb); (try clear hb2); (try clear hk); (try clear hi); (try clear ho0); obtain ⟨Ao11, co11, eo11⟩ := Kd.N_slice HO349.out; subst eo11) | (go_at_call 9; (with_reducible refine (close_Fall.calls k a0 _ _ t347 t350 t351 t352 _ ?side1 ?side2 A7.out).mono ?_); (case side1 => repeat (first | exact (Kd.N_reads' HO349.out).2.2 | (with_reducible refine Kd.C_alloc ?_ _) | (with_reducible refine Kd.C_drewN ?_ _) | (with_reducible refine Kd.C_drew ?_))); (case side2 => exact (Kd.N_reads' HO349.out).2.1); rintro e w12 ⟨v353, rfl, ho0, hb⟩; (try clear A7); have n0_ := Aside0.mk (Kd.N_elder' (by (with_reducible repeat (first | apply Kd.N_alloc | apply Kd.N_drewN | apply Kd.N_drew)); exact HO349.out) (by first | exact Kd.N_base ho0 | exact Kd.S_base ho0 | exact Kd.R_base ho0) hb); have n1_ := Aside0.mk (Kd.N_lower (Kd.N_mono (ok' := fun k_ => some k_ ≠ (.slice Ao11 t347.length co11 : Value).ownBlock) (Kd.S_N (Kd.S_bound ho0)) (fun k_ hk_ => (Kd.fresh' (Kd.N_lt (by (with_reducible repeat (first | apply Kd.N_alloc | apply Kd.N_drewN | apply Kd.N_drew)); exact HO349.out)) k_ hk_.2.1))) (below_size (by repeat (first | (with_reducible first | exact HB.out | apply below_alloc | apply pw_below_drewN | apply below_drew1) | exact HB.out)))); have n2_ := Aside0.mk (below_step (by repeat (first | (with_reducible first | exact HB.out | apply below_alloc | apply pw_below_drewN | apply below_drew1) | exact HB.out)) hb); clear HO349; clear HB; have HO349 := n0_; have HO354 := n1_; have HB := n2_; clear n0_ n1_ n2_; (try clear hb); (try clear hb2); (try clear hk); (try clear hi); (try clear ho0)) | (go_at_call 11; (with_reducible refine (lombardref29_Fall.calls k a0 (fun k_ => k_ < w.heap.size) _ _ l1 t355 t358 t359 _ ?side1 A8.out).mono ?_); (case side1 => exact Kd.V_mk HC1.out (Kd.F_below (Kd.C_F k35_heap HR1.out) (by repeat (first | (with_reducible first | exact HB.out | apply below_alloc | apply pw_below_drewN | apply below_drew1) | exact HB.out)))); rintro e w13 ⟨v356, rfl, ho0, hb⟩; (try clear A8); have n0_ := Aside0.mk (Kd.N_elder' (by (with_reducible repeat (first | apply Kd.N_alloc | apply Kd.N_drewN | apply Kd.N_drew)); exact HO349.out) (by first | exact Kd.N_base ho0 | exact Kd.S_base ho0 | exact Kd.R_base ho0) hb); have n1_ := Aside0.mk (Kd.N_elder' (by (with_reducible repeat (first | apply Kd.N_alloc | apply Kd.N_drewN | apply Kd.N_drew)); exact HO354.out) (by first | exact Kd.N_base ho0 | exact Kd.S_base ho0 | exact Kd.R_base ho0) hb); have n2_ := Aside0.mk (Kd.N_lower (Kd.N_mono (ok' := fun k_ => some k_ ≠ (.slice Ao11 t347.length co11 : Value).ownBlock ∧ some k_ ≠ (v353 : Value).ownBlock) ho0 (fun k_ hk_ => ⟨Or.elim hk_ (fun hs_ => fun e_ => Nat.not_le.2 hs_ (Kd.N_base HO349.out k_ e_.symm)) (fun hn_ => (Kd.fresh' (Kd.N_lt (by (with_reducible repeat (first | apply Kd.N_alloc | apply Kd.N_drewN | apply Kd.N_drew)); exact HO349.out)) k_ hn_)), Or.elim hk_ (fun hs_ => fun e_ => Nat.not_le.2 hs_ (Kd.N_base HO354.out k_ e_.symm)) (fun hn_ => (Kd.fresh' (Kd.N_lt (by (with_reducible repeat (first | apply Kd.N_alloc | apply Kd.N_drewN | apply Kd.N_drew)); exact HO354.out)) k_ hn_))⟩)) (below_size (by repeat (first | (with_reducible first | exact HB.out | apply below_alloc | apply pw_below_drewN | apply below_drew1) | exact HB.out)))); have n3_ := Aside0.mk (below_step (by repeat (first | (with_reducible first | exact HB.out | apply below_alloc | apply pw_below_drewN | apply below_drew1) | exact HB.out)) hb); clear HO349; clear HO354; clear HB; have HO349 := n0_; have HO354 := n1_; have HO357 := n2_; have HB := n3_; clear n0_ n1_ n2_ n3_; (try clear hb); (try clear hb2); (try clear hk); (try clear hi); (try clear ho0))))
    (try simp only [Act.put, List.setIfInBounds_toArray, List.set_cons_zero, List.set_cons_succ])
    go_cut [45] (fun v45 wc => ∃ (kq : Nat) (x45_8 : Bool), v45 = .bool x45_8 ∧ Aside0 (lombardlaw29_CloseFalls.j0 kq t350 t355 x45_8 = some r) ∧ Aside0 (kq ≤ k) ∧ Aside0 (Kd.N k34 34 wc w.heap.size (fun k_ => some k_ ≠ (v356 : Value).ownBlock) v353 t350) ∧ Aside0 (Kd.N k35 35 wc w.heap.size (fun k_ => some k_ ≠ (v353 : Value).ownBlock) v356 t355) ∧ Aside0 (Below w.heap.size w wc))
    case first =>
      have H := HC9.out
      clear HC9
      by_cases c14 : (t350.length : Int) = (t355.length : Int)
      · rw [if_pos c14] at H
        have c14b0 : ((t350.length : Int) == (t355.length : Int)) = true := beq_iff_eq.mpr c14
        have c14b1 : ((t350.length : Int) != (t355.length : Int)) = false := bne_eq_false_iff_eq.mpr c14
        have c14b2 : (t350.length == t355.length) = true := by first | simpa using c14 | (simp at c14 ⊢; omega)
        clear c14
        (first | rw [c14b0] | (simp only [i64_w, i32_w]; rw [c14b0]) | skip)
        by_cases c15 : t351 = t358
        · rw [if_pos c15] at H
          have c15b0 : (t351 == t358) = true := beq_iff_eq.mpr c15
          have c15b1 : (t351 != t358) = false := bne_eq_false_iff_eq.mpr c15
          clear c15
          have H' := Aside0.mk H
          clear H
          obtain ⟨Ao16, co16, eo16⟩ := Kd.N_slice HO354.out
          subst eo16
          obtain ⟨Ao17, co17, eo17⟩ := Kd.N_slice HO357.out
          subst eo17
          go_wp2
          repeat (go_quiet (fail); try go_wp2)
          go_meet
          case rel => exact ⟨_, ((t352 != t359)), (by first | rfl | (simp; done) | (simp [*]; done)), H', ⟨by first | omega | exact Nat.le_refl _⟩, ⟨by (with_reducible repeat (first | apply Kd.N_alloc | apply Kd.N_drewN | apply Kd.N_drew)); exact Kd.N_mono HO354.out (fun _ hk => hk.2)⟩, ⟨by (with_reducible repeat (first | apply Kd.N_alloc | apply Kd.N_drewN | apply Kd.N_drew)); exact Kd.N_mono HO357.out (fun _ hk => hk.2)⟩, ⟨by repeat (first | (with_reducible first | exact HB.out | apply below_alloc | apply pw_below_drewN | apply below_drew1) | exact HB.out)⟩⟩
        · rw [if_neg c15] at H
          have c15b0 : (t351 == t358) = false := beq_eq_false_iff_ne.mpr c15
          have c15b1 : (t351 != t358) = true := bne_iff_ne.mpr c15
          have H' := Aside0.mk H
          clear H
          obtain ⟨Ao18, co18, eo18⟩ := Kd.N_slice HO354.out
          subst eo18
          obtain ⟨Ao19, co19, eo19⟩ := Kd.N_slice HO357.out
          subst eo19
          go_wp2
          repeat (go_quiet (fail); try go_wp2)
          go_meet
          case rel => exact ⟨_, (true), (by first | rfl | (simp; done) | (simp [*]; done)), H', ⟨by first | omega | exact Nat.le_refl _⟩, ⟨by (with_reducible repeat (first | apply Kd.N_alloc | apply Kd.N_drewN | apply Kd.N_drew)); exact Kd.N_mono HO354.out (fun _ hk => hk.2)⟩, ⟨by (with_reducible repeat (first | apply Kd.N_alloc | apply Kd.N_drewN | apply Kd.N_drew)); exact Kd.N_mono HO357.out (fun _ hk => hk.2)⟩, ⟨by repeat (first | (with_reducible first | exact HB.out | apply below_alloc | apply pw_below_drewN | apply below_drew1) | exact HB.out)⟩⟩
      · rw [if_neg c14] at H
        have c14b0 : ((t350.length : Int) == (t355.length : Int)) = false := beq_eq_false_iff_ne.mpr c14
        have c14b1 : ((t350.length : Int) != (t355.length : Int)) = true := bne_iff_ne.mpr c14
        have c14b2 : (t350.length == t355.length) = false := by first | simpa using c14 | (simp at c14 ⊢; omega)
        (first | rw [c14b0] | (simp only [i64_w, i32_w]; rw [c14b0]) | skip)
        have H' := Aside0.mk H
        clear H
        obtain ⟨Ao20, co20, eo20⟩ := Kd.N_slice HO354.out
        subst eo20
        obtain ⟨Ao21, co21, eo21⟩ := Kd.N_slice HO357.out
        subst eo21
        go_wp2
        repeat (go_quiet (fail); try go_wp2)
        go_meet
        case rel => exact ⟨_, (true), (by first | rfl | (simp; done) | (simp [*]; done)), H', ⟨by first | omega | exact Nat.le_refl _⟩, ⟨by (with_reducible repeat (first | apply Kd.N_alloc | apply Kd.N_drewN | apply Kd.N_drew)); exact Kd.N_mono HO354.out (fun _ hk => hk.2)⟩, ⟨by (with_reducible repeat (first | apply Kd.N_alloc | apply Kd.N_drewN | apply Kd.N_drew)); exact Kd.N_mono HO357.out (fun _ hk => hk.2)⟩, ⟨by repeat (first | (with_reducible first | exact HB.out | apply below_alloc | apply pw_below_drewN | apply below_drew1) | exact HB.out)⟩⟩
    case rest =>
      clear HC9
      try clear c1
      try clear p2
      try clear c3
      try clear c3b0
      try clear c3b1
      try clear c14
      try clear c14b0
      try clear c14b1
      try clear c14b2
      try clear c15
      try clear c15b0
      try clear c15b1
      obtain ⟨kq, x45_8, rfl, HA, HJ8, HO_5, HO_8, HB⟩ := hcut
      cases kq with
      | zero => exact absurd HA.out (by simp [lombardlaw29_CloseFalls.j0])
      | succ kj8 =>
        have H := HA.out
        clear HA
        simp only [lombardlaw29_CloseFalls.j0] at H
        by_cases c22 : x45_8 = true
        · subst c22
          have H1 : (some false) = some r := by rw [if_pos rfl] at H; exact H
          clear H
          have H := H1
          clear H1
          obtain rfl := Option.some.inj H
          go_wp2
          repeat (go_quiet (fail); try go_wp2)
          go_ret
          exact ⟨by first | rfl | (simp [errW_none, errW_some] <;> rfl) | (simp [*, errW_none, errW_some] <;> rfl), by repeat (first | (with_reducible first | exact HB.out | apply below_alloc | apply pw_below_drewN | apply below_drew1) | exact HB.out)⟩
        · replace c22 := Bool.eq_false_iff.mpr c22
          subst c22
          have H1 : (lombardlaw29_CloseFalls.l0 kj8 t350 t355 0) = some r := by rw [if_neg (show ¬ (false = true) by decide)] at H; exact H
          clear H
          have H := H1
          clear H1
          have H' := Aside0.mk H
          clear H
          go_wp2
          repeat (go_quiet (fail); try go_wp2)
          go_loopg [11] kj8 (fun kq v11 w' => ∃ (x11_2 : Int), v11 = .int .i64 x11_2 ∧ Aside0 (lombardlaw29_CloseFalls.l0 kq t350 t355 x11_2 = some r) ∧ Aside0 (kq ≤ kj8) ∧ Aside0 (Kd.N k34 34 w' w.heap.size (fun k_ => some k_ ≠ (v356 : Value).ownBlock) v353 t350) ∧ Aside0 (Kd.N k35 35 w' w.heap.size (fun k_ => some k_ ≠ (v353 : Value).ownBlock) v356 t355) ∧ Aside0 (Below w.heap.size w w'))
          case atStart => exact ⟨(0), (by first | rfl | (simp; done) | (simp [*]; done)), H', ⟨Nat.le_refl _⟩, ⟨by (with_reducible repeat (first | apply Kd.N_alloc | apply Kd.N_drewN | apply Kd.N_drew)); exact HO_5.out⟩, ⟨by (with_reducible repeat (first | apply Kd.N_alloc | apply Kd.N_drewN | apply Kd.N_drew)); exact HO_8.out⟩, ⟨by repeat (first | (with_reducible first | exact HB.out | apply below_alloc | apply pw_below_drewN | apply below_drew1) | exact HB.out)⟩⟩
          case round =>
            clear H'
            try clear c1
            try clear c2
            try clear p2
            try clear c3
            try clear c3b0
            try clear c3b1
            try clear c14
            try clear c14b0
            try clear c14b1
            try clear c14b2
            try clear c15
            try clear c15b0
            try clear c15b1
            try clear c22
            try clear p2
            obtain ⟨x11_2, rfl, HA, HK2, HO_5, HO_8, HB⟩ := hrel
            cases gk with
            | zero => exact absurd HA.out (by simp [lombardlaw29_CloseFalls.l0])
            | succ k2 =>
              have H := HA.out
              clear HA
              simp only [lombardlaw29_CloseFalls.l0] at H
              by_cases c23 : x11_2 < (t355.length : Int)
              · rw [if_pos c23] at H
                have c23b0 : decide (x11_2 < (t355.length : Int)) = true := decide_eq_true c23
                clear c23
                by_cases c24 : 0 ≤ x11_2
                · rw [if_pos c24] at H
                  have c24b0 : decide (0 ≤ x11_2) = true := decide_eq_true c24
                  clear c24
                  by_cases c25 : x11_2 < (t350.length : Int)
                  · rw [if_pos c25] at H
                    have c25b0 : decide (x11_2 < (t350.length : Int)) = true := decide_eq_true c25
                    clear c25
                    by_cases c26 : ((rd_T34 t350 x11_2).f0).toList = ((rd_T35 t355 x11_2).f0).toList
                    · rw [if_pos c26] at H
                      have c26b0 : (((rd_T34 t350 x11_2).f0).toList == ((rd_T35 t355 x11_2).f0).toList) = true := beq_iff_eq.mpr c26
                      have c26b1 : (((rd_T34 t350 x11_2).f0).toList != ((rd_T35 t355 x11_2).f0).toList) = false := bne_eq_false_iff_eq.mpr c26
                      clear c26
                      replace H := Option.bind_eq_some_iff.mp H
                      obtain ⟨t364, A270, H⟩ := H
                      replace H : (if t364 = true then (lombardlaw29_CloseFalls.l0 k2 t350 t355 (wrap64 (x11_2 + 1))) else (some false)) = some r := H
                      have A27 := Aside0.mk A270
                      clear A270
                      by_cases c28 : t364 = true
                      · subst c28
                        have H1 : (lombardlaw29_CloseFalls.l0 k2 t350 t355 (wrap64 (x11_2 + 1))) = some r := by rw [if_pos rfl] at H; exact H
                        clear H
                        have H := H1
                        clear H1
                        have H' := Aside0.mk H
                        clear H
                        obtain ⟨Ao29, co29, eo29⟩ := Kd.N_slice HO_8.out
                        subst eo29
                        obtain ⟨Ao30, co30, eo30⟩ := Kd.N_slice HO_5.out
                        subst eo30
                        have p360 : 0 ≤ (x11_2 : Int) := of_decide_eq_true (by first | (with_reducible assumption) | assumption)
                        have q360 : x11_2 < (t350.length : Int) := of_decide_eq_true (by first | (with_reducible assumption) | assumption)
                        obtain ⟨ad360, A360_1, c360_1, e360, hx360_0, hx360_1, hl360_1, hi360_1⟩ := at_T34 (Kd.N_reads' HO_5.out).2.2 x11_2 p360 q360
                        cases e360
                        obtain ⟨ce360, hce360, hMe360, hcc360⟩ := Kd.N_get HO_5.out z34 x11_2 p360 (by first | exact q360 | exact of_decide_eq_true (by first | (with_reducible assumption) | assumption) | (have e_ := (Kd.N_reads' HO_5.out).1; omega))
                        obtain ⟨ua360_1, uc360_1, rfl, ul360_1, ge360_1⟩ := k34_openF hMe360
                        have hv360_1 := hcc360 1 _ rfl
                        rw [add_field _ _ 1 (by omega)] at hv360_1
                        replace hv360_1 := Option.some.inj (hv360_1.symm.trans hx360_1)
                        injection hv360_1 with hva_ hvn_ hvc_
                        rw [hva_] at ge360_1
                        rw [hvc_] at ul360_1
                        have HL360_1 := Aside0.mk (show Kd.V (Kd.int .i64) 3 _ w.heap.size _ _ ((rd_T34 t350 x11_2).f1) from Kd.V_mk ul360_1 ge360_1)
                        clear hva_ hvn_ hvc_ ge360_1 ul360_1
                        clear hcc360 hce360
                        have HR360_1 := Aside0.mk hi360_1
                        have HC360_1 := Aside0.mk hl360_1
                        clear hi360_1 hl360_1
                        replace p360 := eq_true p360
                        replace q360 := eq_true q360
                        have p361 : 0 ≤ (x11_2 : Int) := of_decide_eq_true (by first | (with_reducible assumption) | assumption)
                        have q361 : x11_2 < (t355.length : Int) := of_decide_eq_true (by first | (with_reducible assumption) | assumption)
                        obtain ⟨ad361, A361_1, c361_1, e361, hx361_0, hx361_1, hl361_1, hi361_1⟩ := at_T35 (Kd.N_reads' HO_8.out).2.2 x11_2 p361 q361
                        cases e361
                        obtain ⟨ce361, hce361, hMe361, hcc361⟩ := Kd.N_get HO_8.out z35 x11_2 p361 (by first | exact q361 | exact of_decide_eq_true (by first | (with_reducible assumption) | assumption) | (have e_ := (Kd.N_reads' HO_8.out).1; omega))
                        obtain ⟨ua361_1, uc361_1, rfl, ul361_1, ge361_1⟩ := k35_openF hMe361
                        have hv361_1 := hcc361 1 _ rfl
                        rw [add_field _ _ 1 (by omega)] at hv361_1
                        replace hv361_1 := Option.some.inj (hv361_1.symm.trans hx361_1)
                        injection hv361_1 with hva_ hvn_ hvc_
                        rw [hva_] at ge361_1
                        rw [hvc_] at ul361_1
                        have HL361_1 := Aside0.mk (show Kd.V (Kd.int .i64) 3 _ w.heap.size _ _ ((rd_T35 t355 x11_2).f1) from Kd.V_mk ul361_1 ge361_1)
                        clear hva_ hvn_ hvc_ ge361_1 ul361_1
                        clear hcc361 hce361
                        have HR361_1 := Aside0.mk hi361_1
                        have HC361_1 := Aside0.mk hl361_1
                        clear hi361_1 hl361_1
                        replace p361 := eq_true p361
                        replace q361 := eq_true q361
                        have p362 : 0 ≤ (x11_2 : Int) := of_decide_eq_true (by first | (with_reducible assumption) | assumption)
                        have q362 : x11_2 < (t350.length : Int) := of_decide_eq_true (by first | (with_reducible assumption) | assumption)
                        obtain ⟨ad362, A362_1, c362_1, e362, hx362_0, hx362_1, hl362_1, hi362_1⟩ := at_T34 (Kd.N_reads' HO_5.out).2.2 x11_2 p362 q362
                        obtain rfl : ad360 = ad362 := (by injection e362)
                        obtain ⟨ce362, hce362, hMe362, hcc362⟩ := Kd.N_get HO_5.out z34 x11_2 p362 (by first | exact q362 | exact of_decide_eq_true (by first | (with_reducible assumption) | assumption) | (have e_ := (Kd.N_reads' HO_5.out).1; omega))
                        obtain ⟨ua362_1, uc362_1, rfl, ul362_1, ge362_1⟩ := k34_openF hMe362
                        have hv362_1 := hcc362 1 _ rfl
                        rw [add_field _ _ 1 (by omega)] at hv362_1
                        replace hv362_1 := Option.some.inj (hv362_1.symm.trans hx362_1)
                        injection hv362_1 with hva_ hvn_ hvc_
                        rw [hva_] at ge362_1
                        rw [hvc_] at ul362_1
                        have HL362_1 := Aside0.mk (show Kd.V (Kd.int .i64) 3 _ w.heap.size _ _ ((rd_T34 t350 x11_2).f1) from Kd.V_mk ul362_1 ge362_1)
                        clear hva_ hvn_ hvc_ ge362_1 ul362_1
                        clear hcc362 hce362
                        have HR362_1 := Aside0.mk hi362_1
                        have HC362_1 := Aside0.mk hl362_1
                        clear hi362_1 hl362_1
                        replace p362 := eq_true p362
                        replace q362 := eq_true q362
                        have ea_ := Option.some.inj (hx360_1.symm.trans hx362_1)
                        injection ea_ with ea_ en_ ec_
                        subst ea_
                        subst ec_
                        clear en_
                        have p363 : 0 ≤ (x11_2 : Int) := of_decide_eq_true (by first | (with_reducible assumption) | assumption)
                        have q363 : x11_2 < (t355.length : Int) := of_decide_eq_true (by first | (with_reducible assumption) | assumption)
                        obtain ⟨ad363, A363_1, c363_1, e363, hx363_0, hx363_1, hl363_1, hi363_1⟩ := at_T35 (Kd.N_reads' HO_8.out).2.2 x11_2 p363 q363
                        obtain rfl : ad361 = ad363 := (by injection e363)
                        obtain ⟨ce363, hce363, hMe363, hcc363⟩ := Kd.N_get HO_8.out z35 x11_2 p363 (by first | exact q363 | exact of_decide_eq_true (by first | (with_reducible assumption) | assumption) | (have e_ := (Kd.N_reads' HO_8.out).1; omega))
                        obtain ⟨ua363_1, uc363_1, rfl, ul363_1, ge363_1⟩ := k35_openF hMe363
                        have hv363_1 := hcc363 1 _ rfl
                        rw [add_field _ _ 1 (by omega)] at hv363_1
                        replace hv363_1 := Option.some.inj (hv363_1.symm.trans hx363_1)
                        injection hv363_1 with hva_ hvn_ hvc_
                        rw [hva_] at ge363_1
                        rw [hvc_] at ul363_1
                        have HL363_1 := Aside0.mk (show Kd.V (Kd.int .i64) 3 _ w.heap.size _ _ ((rd_T35 t355 x11_2).f1) from Kd.V_mk ul363_1 ge363_1)
                        clear hva_ hvn_ hvc_ ge363_1 ul363_1
                        clear hcc363 hce363
                        have HR363_1 := Aside0.mk hi363_1
                        have HC363_1 := Aside0.mk hl363_1
                        clear hi363_1 hl363_1
                        replace p363 := eq_true p363
                        replace q363 := eq_true q363
                        have ea_ := Option.some.inj (hx361_1.symm.trans hx363_1)
                        injection ea_ with ea_ en_ ec_
                        subst ea_
                        subst ec_
                        clear en_
                        go_wp2_with (first | (go_at_call 12; (with_reducible refine (lombardref01_Ints.calls k2 _ _ ((rd_T34 t350 x11_2).f1) _ _ ((rd_T35 t355 x11_2).f1) true _ ?side1 ?side2 ?side3 ?side4 A27.out).mono ?_); (case side1 => repeat (first | exact (by repeat (first | (with_reducible exact HR362_1.out) | (with_reducible refine Kd.C_alloc ?_ _) | (with_reducible refine Kd.C_drewN ?_ _) | (with_reducible refine Kd.C_drew ?_) | exact HR362_1.out | exact (Kd.V_reads' HL362_1.out).2.2)) | (with_reducible refine Kd.C_alloc ?_ _) | (with_reducible refine Kd.C_drewN ?_ _) | (with_reducible refine Kd.C_drew ?_))); (case side2 => exact HC362_1.out); (case side3 => repeat (first | exact (by repeat (first | (with_reducible exact HR363_1.out) | (with_reducible refine Kd.C_alloc ?_ _) | (with_reducible refine Kd.C_drewN ?_ _) | (with_reducible refine Kd.C_drew ?_) | exact HR363_1.out | exact (Kd.V_reads' HL363_1.out).2.2)) | (with_reducible refine Kd.C_alloc ?_ _) | (with_reducible refine Kd.C_drewN ?_ _) | (with_reducible refine Kd.C_drew ?_))); (case side4 => exact HC363_1.out); rintro e w' ⟨rfl, ⟨nd, rfl⟩⟩; (try clear A27); (try first | exact ⟨rfl, _, World.drewN_drewN _ _ _⟩ | exact ⟨rfl, _, Eq.trans (World.drewN_drewN _ _ _) (congrArg (World.drewN _) (Nat.add_assoc _ _ _))⟩)))
                        repeat (go_quiet (first | (go_at_call 12; (with_reducible refine (lombardref01_Ints.calls k2 _ _ ((rd_T34 t350 x11_2).f1) _ _ ((rd_T35 t355 x11_2).f1) true _ ?side1 ?side2 ?side3 ?side4 A27.out).mono ?_); (case side1 => repeat (first | exact (by repeat (first | (with_reducible exact HR362_1.out) | (with_reducible refine Kd.C_alloc ?_ _) | (with_reducible refine Kd.C_drewN ?_ _) | (with_reducible refine Kd.C_drew ?_) | exact HR362_1.out | exact (Kd.V_reads' HL362_1.out).2.2)) | (with_reducible refine Kd.C_alloc ?_ _) | (with_reducible refine Kd.C_drewN ?_ _) | (with_reducible refine Kd.C_drew ?_))); (case side2 => exact HC362_1.out); (case side3 => repeat (first | exact (by repeat (first | (with_reducible exact HR363_1.out) | (with_reducible refine Kd.C_alloc ?_ _) | (with_reducible refine Kd.C_drewN ?_ _) | (with_reducible refine Kd.C_drew ?_) | exact HR363_1.out | exact (Kd.V_reads' HL363_1.out).2.2)) | (with_reducible refine Kd.C_alloc ?_ _) | (with_reducible refine Kd.C_drewN ?_ _) | (with_reducible refine Kd.C_drew ?_))); (case side4 => exact HC363_1.out); rintro e w' ⟨rfl, ⟨nd, rfl⟩⟩; (try clear A27); (try first | exact ⟨rfl, _, World.drewN_drewN _ _ _⟩ | exact ⟨rfl, _, Eq.trans (World.drewN_drewN _ _ _) (congrArg (World.drewN _) (Nat.add_assoc _ _ _))⟩))); try go_wp2_with (first | (go_at_call 12; (with_reducible refine (lombardref01_Ints.calls k2 _ _ ((rd_T34 t350 x11_2).f1) _ _ ((rd_T35 t355 x11_2).f1) true _ ?side1 ?side2 ?side3 ?side4 A27.out).mono ?_); (case side1 => repeat (first | exact (by repeat (first | (with_reducible exact HR362_1.out) | (with_reducible refine Kd.C_alloc ?_ _) | (with_reducible refine Kd.C_drewN ?_ _) | (with_reducible refine Kd.C_drew ?_) | exact HR362_1.out | exact (Kd.V_reads' HL362_1.out).2.2)) | (with_reducible refine Kd.C_alloc ?_ _) | (with_reducible refine Kd.C_drewN ?_ _) | (with_reducible refine Kd.C_drew ?_))); (case side2 => exact HC362_1.out); (case side3 => repeat (first | exact (by repeat (first | (with_reducible exact HR363_1.out) | (with_reducible refine Kd.C_alloc ?_ _) | (with_reducible refine Kd.C_drewN ?_ _) | (with_reducible refine Kd.C_drew ?_) | exact HR363_1.out | exact (Kd.V_reads' HL363_1.out).2.2)) | (with_reducible refine Kd.C_alloc ?_ _) | (with_reducible refine Kd.C_drewN ?_ _) | (with_reducible refine Kd.C_drew ?_))); (case side4 => exact HC363_1.out); rintro e w' ⟨rfl, ⟨nd, rfl⟩⟩; (try clear A27); (try first | exact ⟨rfl, _, World.drewN_drewN _ _ _⟩ | exact ⟨rfl, _, Eq.trans (World.drewN_drewN _ _ _) (congrArg (World.drewN _) (Nat.add_assoc _ _ _))⟩))))
                        go_roundg k2
                        case measure => have := HJ8.out; have := HK2.out; omega
                        case rel => exact ⟨(wrap64 (x11_2 + 1)), (by first | rfl | (simp; done) | (simp [*]; done)), H', ⟨by have := HJ8.out; have := HK2.out; omega⟩, ⟨by (with_reducible repeat (first | apply Kd.N_alloc | apply Kd.N_drewN | apply Kd.N_drew)); exact HO_5.out⟩, ⟨by (with_reducible repeat (first | apply Kd.N_alloc | apply Kd.N_drewN | apply Kd.N_drew)); exact HO_8.out⟩, ⟨by repeat (first | (with_reducible first | exact HB.out | apply below_alloc | apply pw_below_drewN | apply below_drew1) | exact HB.out)⟩⟩
                      · replace c28 := Bool.eq_false_iff.mpr c28
                        subst c28
                        have H1 : (some false) = some r := by rw [if_neg (show ¬ (false = true) by decide)] at H; exact H
                        clear H
                        have H := H1
                        clear H1
                        obtain rfl := Option.some.inj H
                        obtain ⟨Ao31, co31, eo31⟩ := Kd.N_slice HO_8.out
                        subst eo31
                        obtain ⟨Ao32, co32, eo32⟩ := Kd.N_slice HO_5.out
                        subst eo32
                        have p360 : 0 ≤ (x11_2 : Int) := of_decide_eq_true (by first | (with_reducible assumption) | assumption)
                        have q360 : x11_2 < (t350.length : Int) := of_decide_eq_true (by first | (with_reducible assumption) | assumption)
                        obtain ⟨ad360, A360_1, c360_1, e360, hx360_0, hx360_1, hl360_1, hi360_1⟩ := at_T34 (Kd.N_reads' HO_5.out).2.2 x11_2 p360 q360
                        cases e360
                        obtain ⟨ce360, hce360, hMe360, hcc360⟩ := Kd.N_get HO_5.out z34 x11_2 p360 (by first | exact q360 | exact of_decide_eq_true (by first | (with_reducible assumption) | assumption) | (have e_ := (Kd.N_reads' HO_5.out).1; omega))
                        obtain ⟨ua360_1, uc360_1, rfl, ul360_1, ge360_1⟩ := k34_openF hMe360
                        have hv360_1 := hcc360 1 _ rfl
                        rw [add_field _ _ 1 (by omega)] at hv360_1
                        replace hv360_1 := Option.some.inj (hv360_1.symm.trans hx360_1)
                        injection hv360_1 with hva_ hvn_ hvc_
                        rw [hva_] at ge360_1
                        rw [hvc_] at ul360_1
                        have HL360_1 := Aside0.mk (show Kd.V (Kd.int .i64) 3 _ w.heap.size _ _ ((rd_T34 t350 x11_2).f1) from Kd.V_mk ul360_1 ge360_1)
                        clear hva_ hvn_ hvc_ ge360_1 ul360_1
                        clear hcc360 hce360
                        have HR360_1 := Aside0.mk hi360_1
                        have HC360_1 := Aside0.mk hl360_1
                        clear hi360_1 hl360_1
                        replace p360 := eq_true p360
                        replace q360 := eq_true q360
                        have p361 : 0 ≤ (x11_2 : Int) := of_decide_eq_true (by first | (with_reducible assumption) | assumption)
                        have q361 : x11_2 < (t355.length : Int) := of_decide_eq_true (by first | (with_reducible assumption) | assumption)
                        obtain ⟨ad361, A361_1, c361_1, e361, hx361_0, hx361_1, hl361_1, hi361_1⟩ := at_T35 (Kd.N_reads' HO_8.out).2.2 x11_2 p361 q361
                        cases e361
                        obtain ⟨ce361, hce361, hMe361, hcc361⟩ := Kd.N_get HO_8.out z35 x11_2 p361 (by first | exact q361 | exact of_decide_eq_true (by first | (with_reducible assumption) | assumption) | (have e_ := (Kd.N_reads' HO_8.out).1; omega))
                        obtain ⟨ua361_1, uc361_1, rfl, ul361_1, ge361_1⟩ := k35_openF hMe361
                        have hv361_1 := hcc361 1 _ rfl
                        rw [add_field _ _ 1 (by omega)] at hv361_1
                        replace hv361_1 := Option.some.inj (hv361_1.symm.trans hx361_1)
                        injection hv361_1 with hva_ hvn_ hvc_
                        rw [hva_] at ge361_1
                        rw [hvc_] at ul361_1
                        have HL361_1 := Aside0.mk (show Kd.V (Kd.int .i64) 3 _ w.heap.size _ _ ((rd_T35 t355 x11_2).f1) from Kd.V_mk ul361_1 ge361_1)
                        clear hva_ hvn_ hvc_ ge361_1 ul361_1
                        clear hcc361 hce361
                        have HR361_1 := Aside0.mk hi361_1
                        have HC361_1 := Aside0.mk hl361_1
                        clear hi361_1 hl361_1
                        replace p361 := eq_true p361
                        replace q361 := eq_true q361
                        have p362 : 0 ≤ (x11_2 : Int) := of_decide_eq_true (by first | (with_reducible assumption) | assumption)
                        have q362 : x11_2 < (t350.length : Int) := of_decide_eq_true (by first | (with_reducible assumption) | assumption)
                        obtain ⟨ad362, A362_1, c362_1, e362, hx362_0, hx362_1, hl362_1, hi362_1⟩ := at_T34 (Kd.N_reads' HO_5.out).2.2 x11_2 p362 q362
                        obtain rfl : ad360 = ad362 := (by injection e362)
                        obtain ⟨ce362, hce362, hMe362, hcc362⟩ := Kd.N_get HO_5.out z34 x11_2 p362 (by first | exact q362 | exact of_decide_eq_true (by first | (with_reducible assumption) | assumption) | (have e_ := (Kd.N_reads' HO_5.out).1; omega))
                        obtain ⟨ua362_1, uc362_1, rfl, ul362_1, ge362_1⟩ := k34_openF hMe362
                        have hv362_1 := hcc362 1 _ rfl
                        rw [add_field _ _ 1 (by omega)] at hv362_1
                        replace hv362_1 := Option.some.inj (hv362_1.symm.trans hx362_1)
                        injection hv362_1 with hva_ hvn_ hvc_
                        rw [hva_] at ge362_1
                        rw [hvc_] at ul362_1
                        have HL362_1 := Aside0.mk (show Kd.V (Kd.int .i64) 3 _ w.heap.size _ _ ((rd_T34 t350 x11_2).f1) from Kd.V_mk ul362_1 ge362_1)
                        clear hva_ hvn_ hvc_ ge362_1 ul362_1
                        clear hcc362 hce362
                        have HR362_1 := Aside0.mk hi362_1
                        have HC362_1 := Aside0.mk hl362_1
                        clear hi362_1 hl362_1
                        replace p362 := eq_true p362
                        replace q362 := eq_true q362
                        have ea_ := Option.some.inj (hx360_1.symm.trans hx362_1)
                        injection ea_ with ea_ en_ ec_
                        subst ea_
                        subst ec_
                        clear en_
                        have p363 : 0 ≤ (x11_2 : Int) := of_decide_eq_true (by first | (with_reducible assumption) | assumption)
                        have q363 : x11_2 < (t355.length : Int) := of_decide_eq_true (by first | (with_reducible assumption) | assumption)
                        obtain ⟨ad363, A363_1, c363_1, e363, hx363_0, hx363_1, hl363_1, hi363_1⟩ := at_T35 (Kd.N_reads' HO_8.out).2.2 x11_2 p363 q363
                        obtain rfl : ad361 = ad363 := (by injection e363)
                        obtain ⟨ce363, hce363, hMe363, hcc363⟩ := Kd.N_get HO_8.out z35 x11_2 p363 (by first | exact q363 | exact of_decide_eq_true (by first | (with_reducible assumption) | assumption) | (have e_ := (Kd.N_reads' HO_8.out).1; omega))
                        obtain ⟨ua363_1, uc363_1, rfl, ul363_1, ge363_1⟩ := k35_openF hMe363
                        have hv363_1 := hcc363 1 _ rfl
                        rw [add_field _ _ 1 (by omega)] at hv363_1
                        replace hv363_1 := Option.some.inj (hv363_1.symm.trans hx363_1)
                        injection hv363_1 with hva_ hvn_ hvc_
                        rw [hva_] at ge363_1
                        rw [hvc_] at ul363_1
                        have HL363_1 := Aside0.mk (show Kd.V (Kd.int .i64) 3 _ w.heap.size _ _ ((rd_T35 t355 x11_2).f1) from Kd.V_mk ul363_1 ge363_1)
                        clear hva_ hvn_ hvc_ ge363_1 ul363_1
                        clear hcc363 hce363
                        have HR363_1 := Aside0.mk hi363_1
                        have HC363_1 := Aside0.mk hl363_1
                        clear hi363_1 hl363_1
                        replace p363 := eq_true p363
                        replace q363 := eq_true q363
                        have ea_ := Option.some.inj (hx361_1.symm.trans hx363_1)
                        injection ea_ with ea_ en_ ec_
                        subst ea_
                        subst ec_
                        clear en_
                        go_wp2_with (first | (go_at_call 12; (with_reducible refine (lombardref01_Ints.calls k2 _ _ ((rd_T34 t350 x11_2).f1) _ _ ((rd_T35 t355 x11_2).f1) false _ ?side1 ?side2 ?side3 ?side4 A27.out).mono ?_); (case side1 => repeat (first | exact (by repeat (first | (with_reducible exact HR362_1.out) | (with_reducible refine Kd.C_alloc ?_ _) | (with_reducible refine Kd.C_drewN ?_ _) | (with_reducible refine Kd.C_drew ?_) | exact HR362_1.out | exact (Kd.V_reads' HL362_1.out).2.2)) | (with_reducible refine Kd.C_alloc ?_ _) | (with_reducible refine Kd.C_drewN ?_ _) | (with_reducible refine Kd.C_drew ?_))); (case side2 => exact HC362_1.out); (case side3 => repeat (first | exact (by repeat (first | (with_reducible exact HR363_1.out) | (with_reducible refine Kd.C_alloc ?_ _) | (with_reducible refine Kd.C_drewN ?_ _) | (with_reducible refine Kd.C_drew ?_) | exact HR363_1.out | exact (Kd.V_reads' HL363_1.out).2.2)) | (with_reducible refine Kd.C_alloc ?_ _) | (with_reducible refine Kd.C_drewN ?_ _) | (with_reducible refine Kd.C_drew ?_))); (case side4 => exact HC363_1.out); rintro e w' ⟨rfl, ⟨nd, rfl⟩⟩; (try clear A27); (try first | exact ⟨rfl, _, World.drewN_drewN _ _ _⟩ | exact ⟨rfl, _, Eq.trans (World.drewN_drewN _ _ _) (congrArg (World.drewN _) (Nat.add_assoc _ _ _))⟩)))
                        repeat (go_quiet (first | (go_at_call 12; (with_reducible refine (lombardref01_Ints.calls k2 _ _ ((rd_T34 t350 x11_2).f1) _ _ ((rd_T35 t355 x11_2).f1) false _ ?side1 ?side2 ?side3 ?side4 A27.out).mono ?_); (case side1 => repeat (first | exact (by repeat (first | (with_reducible exact HR362_1.out) | (with_reducible refine Kd.C_alloc ?_ _) | (with_reducible refine Kd.C_drewN ?_ _) | (with_reducible refine Kd.C_drew ?_) | exact HR362_1.out | exact (Kd.V_reads' HL362_1.out).2.2)) | (with_reducible refine Kd.C_alloc ?_ _) | (with_reducible refine Kd.C_drewN ?_ _) | (with_reducible refine Kd.C_drew ?_))); (case side2 => exact HC362_1.out); (case side3 => repeat (first | exact (by repeat (first | (with_reducible exact HR363_1.out) | (with_reducible refine Kd.C_alloc ?_ _) | (with_reducible refine Kd.C_drewN ?_ _) | (with_reducible refine Kd.C_drew ?_) | exact HR363_1.out | exact (Kd.V_reads' HL363_1.out).2.2)) | (with_reducible refine Kd.C_alloc ?_ _) | (with_reducible refine Kd.C_drewN ?_ _) | (with_reducible refine Kd.C_drew ?_))); (case side4 => exact HC363_1.out); rintro e w' ⟨rfl, ⟨nd, rfl⟩⟩; (try clear A27); (try first | exact ⟨rfl, _, World.drewN_drewN _ _ _⟩ | exact ⟨rfl, _, Eq.trans (World.drewN_drewN _ _ _) (congrArg (World.drewN _) (Nat.add_assoc _ _ _))⟩))); try go_wp2_with (first | (go_at_call 12; (with_reducible refine (lombardref01_Ints.calls k2 _ _ ((rd_T34 t350 x11_2).f1) _ _ ((rd_T35 t355 x11_2).f1) false _ ?side1 ?side2 ?side3 ?side4 A27.out).mono ?_); (case side1 => repeat (first | exact (by repeat (first | (with_reducible exact HR362_1.out) | (with_reducible refine Kd.C_alloc ?_ _) | (with_reducible refine Kd.C_drewN ?_ _) | (with_reducible refine Kd.C_drew ?_) | exact HR362_1.out | exact (Kd.V_reads' HL362_1.out).2.2)) | (with_reducible refine Kd.C_alloc ?_ _) | (with_reducible refine Kd.C_drewN ?_ _) | (with_reducible refine Kd.C_drew ?_))); (case side2 => exact HC362_1.out); (case side3 => repeat (first | exact (by repeat (first | (with_reducible exact HR363_1.out) | (with_reducible refine Kd.C_alloc ?_ _) | (with_reducible refine Kd.C_drewN ?_ _) | (with_reducible refine Kd.C_drew ?_) | exact HR363_1.out | exact (Kd.V_reads' HL363_1.out).2.2)) | (with_reducible refine Kd.C_alloc ?_ _) | (with_reducible refine Kd.C_drewN ?_ _) | (with_reducible refine Kd.C_drew ?_))); (case side4 => exact HC363_1.out); rintro e w' ⟨rfl, ⟨nd, rfl⟩⟩; (try clear A27); (try first | exact ⟨rfl, _, World.drewN_drewN _ _ _⟩ | exact ⟨rfl, _, Eq.trans (World.drewN_drewN _ _ _) (congrArg (World.drewN _) (Nat.add_assoc _ _ _))⟩))))
                        go_ret
                        exact ⟨by first | rfl | (simp [errW_none, errW_some] <;> rfl) | (simp [*, errW_none, errW_some] <;> rfl), by repeat (first | (with_reducible first | exact HB.out | apply below_alloc | apply pw_below_drewN | apply below_drew1) | exact HB.out)⟩
                    · rw [if_neg c26] at H
                      have c26b0 : (((rd_T34 t350 x11_2).f0).toList == ((rd_T35 t355 x11_2).f0).toList) = false := beq_eq_false_iff_ne.mpr c26
                      have c26b1 : (((rd_T34 t350 x11_2).f0).toList != ((rd_T35 t355 x11_2).f0).toList) = true := bne_iff_ne.mpr c26
                      obtain rfl := Option.some.inj H
                      obtain ⟨Ao33, co33, eo33⟩ := Kd.N_slice HO_8.out
                      subst eo33
                      obtain ⟨Ao34, co34, eo34⟩ := Kd.N_slice HO_5.out
                      subst eo34
                      have p360 : 0 ≤ (x11_2 : Int) := of_decide_eq_true (by first | (with_reducible assumption) | assumption)
                      have q360 : x11_2 < (t350.length : Int) := of_decide_eq_true (by first | (with_reducible assumption) | assumption)
                      obtain ⟨ad360, A360_1, c360_1, e360, hx360_0, hx360_1, hl360_1, hi360_1⟩ := at_T34 (Kd.N_reads' HO_5.out).2.2 x11_2 p360 q360
                      cases e360
                      obtain ⟨ce360, hce360, hMe360, hcc360⟩ := Kd.N_get HO_5.out z34 x11_2 p360 (by first | exact q360 | exact of_decide_eq_true (by first | (with_reducible assumption) | assumption) | (have e_ := (Kd.N_reads' HO_5.out).1; omega))
                      obtain ⟨ua360_1, uc360_1, rfl, ul360_1, ge360_1⟩ := k34_openF hMe360
                      have hv360_1 := hcc360 1 _ rfl
                      rw [add_field _ _ 1 (by omega)] at hv360_1
                      replace hv360_1 := Option.some.inj (hv360_1.symm.trans hx360_1)
                      injection hv360_1 with hva_ hvn_ hvc_
                      rw [hva_] at ge360_1
                      rw [hvc_] at ul360_1
                      have HL360_1 := Aside0.mk (show Kd.V (Kd.int .i64) 3 _ w.heap.size _ _ ((rd_T34 t350 x11_2).f1) from Kd.V_mk ul360_1 ge360_1)
                      clear hva_ hvn_ hvc_ ge360_1 ul360_1
                      clear hcc360 hce360
                      have HR360_1 := Aside0.mk hi360_1
                      have HC360_1 := Aside0.mk hl360_1
                      clear hi360_1 hl360_1
                      replace p360 := eq_true p360
                      replace q360 := eq_true q360
                      have p361 : 0 ≤ (x11_2 : Int) := of_decide_eq_true (by first | (with_reducible assumption) | assumption)
                      have q361 : x11_2 < (t355.length : Int) := of_decide_eq_true (by first | (with_reducible assumption) | assumption)
                      obtain ⟨ad361, A361_1, c361_1, e361, hx361_0, hx361_1, hl361_1, hi361_1⟩ := at_T35 (Kd.N_reads' HO_8.out).2.2 x11_2 p361 q361
                      cases e361
                      obtain ⟨ce361, hce361, hMe361, hcc361⟩ := Kd.N_get HO_8.out z35 x11_2 p361 (by first | exact q361 | exact of_decide_eq_true (by first | (with_reducible assumption) | assumption) | (have e_ := (Kd.N_reads' HO_8.out).1; omega))
                      obtain ⟨ua361_1, uc361_1, rfl, ul361_1, ge361_1⟩ := k35_openF hMe361
                      have hv361_1 := hcc361 1 _ rfl
                      rw [add_field _ _ 1 (by omega)] at hv361_1
                      replace hv361_1 := Option.some.inj (hv361_1.symm.trans hx361_1)
                      injection hv361_1 with hva_ hvn_ hvc_
                      rw [hva_] at ge361_1
                      rw [hvc_] at ul361_1
                      have HL361_1 := Aside0.mk (show Kd.V (Kd.int .i64) 3 _ w.heap.size _ _ ((rd_T35 t355 x11_2).f1) from Kd.V_mk ul361_1 ge361_1)
                      clear hva_ hvn_ hvc_ ge361_1 ul361_1
                      clear hcc361 hce361
                      have HR361_1 := Aside0.mk hi361_1
                      have HC361_1 := Aside0.mk hl361_1
                      clear hi361_1 hl361_1
                      replace p361 := eq_true p361
                      replace q361 := eq_true q361
                      go_wp2
                      repeat (go_quiet (fail); try go_wp2)
                      go_ret
                      exact ⟨by first | rfl | (simp [errW_none, errW_some] <;> rfl) | (simp [*, errW_none, errW_some] <;> rfl), by repeat (first | (with_reducible first | exact HB.out | apply below_alloc | apply pw_below_drewN | apply below_drew1) | exact HB.out)⟩
                  · rw [if_neg c25] at H
                    exact absurd H (by simp)
                · rw [if_neg c24] at H
                  exact absurd H (by simp)
              · rw [if_neg c23] at H
                have c23b0 : decide (x11_2 < (t355.length : Int)) = false := decide_eq_false c23
                clear c23
                replace H := Option.bind_eq_some_iff.mp H
                obtain ⟨t365, A350, H⟩ := H
                replace H : (some t365) = some r := H
                have A35 := Aside0.mk A350
                clear A350
                obtain rfl := Option.some.inj H
                obtain ⟨Ao36, co36, eo36⟩ := Kd.N_slice HO_8.out
                subst eo36
                go_wp2_with (first | (go_at_call 8; (with_reducible refine (lombardlaw29_awake.calls k2  t365 _ A35.out).mono ?_); rintro e w37 ⟨rfl, hb⟩; (try clear A35); have n0_ := Aside0.mk (Kd.N_below (by (with_reducible repeat (first | apply Kd.N_alloc | apply Kd.N_drewN | apply Kd.N_drew)); exact HO_5.out) hb); have n1_ := Aside0.mk (Kd.N_below (by (with_reducible repeat (first | apply Kd.N_alloc | apply Kd.N_drewN | apply Kd.N_drew)); exact HO_8.out) hb); have n2_ := Aside0.mk (below_step (by repeat (first | (with_reducible first | exact HB.out | apply below_alloc | apply pw_below_drewN | apply below_drew1) | exact HB.out)) hb); clear HO_5; clear HO_8; clear HB; have HO_5 := n0_; have HO_8 := n1_; have HB := n2_; clear n0_ n1_ n2_; (try clear hb); (try clear hb2); (try clear hk); (try clear hi)))
                repeat (go_quiet (first | (go_at_call 8; (with_reducible refine (lombardlaw29_awake.calls k2  t365 _ A35.out).mono ?_); rintro e w37 ⟨rfl, hb⟩; (try clear A35); have n0_ := Aside0.mk (Kd.N_below (by (with_reducible repeat (first | apply Kd.N_alloc | apply Kd.N_drewN | apply Kd.N_drew)); exact HO_5.out) hb); have n1_ := Aside0.mk (Kd.N_below (by (with_reducible repeat (first | apply Kd.N_alloc | apply Kd.N_drewN | apply Kd.N_drew)); exact HO_8.out) hb); have n2_ := Aside0.mk (below_step (by repeat (first | (with_reducible first | exact HB.out | apply below_alloc | apply pw_below_drewN | apply below_drew1) | exact HB.out)) hb); clear HO_5; clear HO_8; clear HB; have HO_5 := n0_; have HO_8 := n1_; have HB := n2_; clear n0_ n1_ n2_; (try clear hb); (try clear hb2); (try clear hk); (try clear hi))); try go_wp2_with (first | (go_at_call 8; (with_reducible refine (lombardlaw29_awake.calls k2  t365 _ A35.out).mono ?_); rintro e w37 ⟨rfl, hb⟩; (try clear A35); have n0_ := Aside0.mk (Kd.N_below (by (with_reducible repeat (first | apply Kd.N_alloc | apply Kd.N_drewN | apply Kd.N_drew)); exact HO_5.out) hb); have n1_ := Aside0.mk (Kd.N_below (by (with_reducible repeat (first | apply Kd.N_alloc | apply Kd.N_drewN | apply Kd.N_drew)); exact HO_8.out) hb); have n2_ := Aside0.mk (below_step (by repeat (first | (with_reducible first | exact HB.out | apply below_alloc | apply pw_below_drewN | apply below_drew1) | exact HB.out)) hb); clear HO_5; clear HO_8; clear HB; have HO_5 := n0_; have HO_8 := n1_; have HB := n2_; clear n0_ n1_ n2_; (try clear hb); (try clear hb2); (try clear hk); (try clear hi))))
                go_ret
                exact ⟨by first | rfl | (simp [errW_none, errW_some] <;> rfl) | (simp [*, errW_none, errW_some] <;> rfl), by repeat (first | (with_reducible first | exact HB.out | apply below_alloc | apply pw_below_drewN | apply below_drew1) | exact HB.out)⟩
end Go.Proofs.Ytlbhjkbjokiioaa.X
