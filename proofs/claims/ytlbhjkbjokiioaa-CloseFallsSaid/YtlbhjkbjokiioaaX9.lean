-- a shortened text: what this claim does not name is left out (wip/xprint/prune.py of this repo)
import Derived.Test.YtlbhjkbjokiioaaX0
import Derived.Test.YtlbhjkbjokiioaaX4
import Derived.Test.YtlbhjkbjokiioaaX8
namespace Go.Proofs.Ytlbhjkbjokiioaa.X
open Go.RowKit Go.Proofs.YtlbhjkbjokiioaaW.PrintWords Go.Proofs.YtlbhjkbjokiioaaW.PrintLast Go.Proofs.YtlbhjkbjokiioaaW.PrintMore
attribute [local go_sem] max2_int min2_int max_two min_two max_three min_three max_four min_four
set_option linter.unusedVariables false
set_option linter.unusedSimpArgs false
mutual
def lombardref29_Fall.j0 : Nat → Int → List (S35) → Bool → Option ((List (S35)) × Int × Int)
  | 0, _, _, _ => none
  | k + 1, x0, x1, x25 => if x25 = true then (some (([] : List (S35)), 0, 1)) else (lombardref29_Fall.l0 k x0 x1 0)
def lombardref29_Fall.l0 : Nat → Int → List (S35) → Int → Option ((List (S35)) × Int × Int)
  | 0, _, _, _ => none
  | k + 1, x0, x1, x7 => if x7 < (x1.length : Int) then (if 0 ≤ x7 then (if (((rd_T35 x1 x7).f1).length : Int) > 64 then (some (([] : List (S35)), 0, 2)) else (lombardref29_Fall.l1 k x0 x1 x7 0)) else (none)) else (lombardref29_Fall.l2 k x0 x1 ([] : List (S35)) 0)
def lombardref29_Fall.l1 : Nat → Int → List (S35) → Int → Int → Option ((List (S35)) × Int × Int)
  | 0, _, _, _, _ => none
  | k + 1, x0, x1, x7, x8 => if 0 ≤ x7 then (if x7 < (x1.length : Int) then (if x8 < (((rd_T35 x1 x7).f1).length : Int) then (if 0 ≤ x8 then (if (rd ((rd_T35 x1 x7).f1) x8) < 0 then (some (([] : List (S35)), 0, 1)) else (if (rd ((rd_T35 x1 x7).f1) x8) > 1125899906842624 then (some (([] : List (S35)), 0, 1)) else (lombardref29_Fall.l1 k x0 x1 x7 (wrap64 (x8 + 1))))) else (none)) else (lombardref29_Fall.l0 k x0 x1 (wrap64 (x7 + 1)))) else (none)) else (none)
def lombardref29_Fall.l2 : Nat → Int → List (S35) → List (S35) → Int → Option ((List (S35)) × Int × Int)
  | 0, _, _, _, _ => none
  | k + 1, x0, x1, x9, x10 => if x10 < (x1.length : Int) then (if 0 ≤ x10 then ((lombardref01_Sum.f k ((rd_T35 x1 x10).f1)).bind fun bt331 => (if x0 ≥ bt331.1 then (if x9.length < 3518437208883 then (lombardref29_Fall.l2 k (wrap64 (x0 - bt331.1)) x1 (x9 ++ [(⟨(rd_T35 x1 x10).f0, (rd_T35 x1 x10).f1⟩ : S35)]) (wrap64 (x10 + 1))) else (none)) else ((lombardref01_Share.f k x0 ((rd_T35 x1 x10).f1)).bind fun bt338 => (if x9.length < 3518437208883 then (lombardref29_Fall.l2 k 0 x1 (x9 ++ [(⟨(rd_T35 x1 x10).f0, bt338.1⟩ : S35)]) (wrap64 (x10 + 1))) else (none))))) else (none)) else (some (x9, x0, 0))
end
def lombardref29_Fall.f (k : Nat) (a0 : Int) (l1 : List (S35)) : Option ((List (S35)) × Int × Int) := if a0 < 0 then (lombardref29_Fall.j0 k a0 l1 true) else (if a0 > 1125899906842624 then (lombardref29_Fall.j0 k a0 l1 true) else (lombardref29_Fall.j0 k a0 l1 (decide ((l1.length : Int) > 64))))
theorem lombardref29_Fall.mono_l : ∀ k, (∀ y0 y1 y2, LeO (lombardref29_Fall.j0 k y0 y1 y2) (lombardref29_Fall.j0 (k + 1) y0 y1 y2)) ∧ (∀ y0 y1 y2, LeO (lombardref29_Fall.l0 k y0 y1 y2) (lombardref29_Fall.l0 (k + 1) y0 y1 y2)) ∧ (∀ y0 y1 y2 y3, LeO (lombardref29_Fall.l1 k y0 y1 y2 y3) (lombardref29_Fall.l1 (k + 1) y0 y1 y2 y3)) ∧ (∀ y0 y1 y2 y3, LeO (lombardref29_Fall.l2 k y0 y1 y2 y3) (lombardref29_Fall.l2 (k + 1) y0 y1 y2 y3))
  | 0 => ⟨fun _ _ _ r h => by simp [lombardref29_Fall.j0] at h, fun _ _ _ r h => by simp [lombardref29_Fall.l0] at h, fun _ _ _ _ r h => by simp [lombardref29_Fall.l1] at h, fun _ _ _ _ r h => by simp [lombardref29_Fall.l2] at h⟩
  | k + 1 => by
    obtain ⟨ih0, ih1, ih2, ih3⟩ := lombardref29_Fall.mono_l k
    refine ⟨?_, ?_, ?_, ?_⟩
    · intro y0 y1 y2
      unfold lombardref29_Fall.j0
      repeat' first
      | (with_reducible exact ih0 _ _ _)
      | (with_reducible exact ih1 _ _ _)
      | (with_reducible exact ih2 _ _ _ _)
      | (with_reducible exact ih3 _ _ _ _)
      | (with_reducible exact lombardref01_Share.mono _ _ _)
      | (with_reducible exact lombardref01_Sum.mono _ _)
      | (with_reducible exact LeO.refl _)
      | (with_reducible exact LeO.none _)
      | (with_reducible refine LeO.ite ?_ ?_)
      | (with_reducible refine LeO.bind ?_ (fun _ => ?_))
      | exact ih0 _ _ _
      | exact ih1 _ _ _
      | exact ih2 _ _ _ _
      | exact ih3 _ _ _ _
      | exact lombardref01_Share.mono _ _ _
      | exact lombardref01_Sum.mono _ _
      | exact LeO.none _
      | refine LeO.ite ?_ ?_
      | refine LeO.bind ?_ (fun _ => ?_)
    · intro y0 y1 y2
      unfold lombardref29_Fall.l0
      repeat' first
      | (with_reducible exact ih0 _ _ _)
      | (with_reducible exact ih1 _ _ _)
      | (with_reducible exact ih2 _ _ _ _)
      | (with_reducible exact ih3 _ _ _ _)
      | (with_reducible exact lombardref01_Share.mono _ _ _)
      | (with_reducible exact lombardref01_Sum.mono _ _)
      | (with_reducible exact LeO.refl _)
      | (with_reducible exact LeO.none _)
      | (with_reducible refine LeO.ite ?_ ?_)
      | (with_reducible refine LeO.bind ?_ (fun _ => ?_))
      | exact ih0 _ _ _
      | exact ih1 _ _ _
      | exact ih2 _ _ _ _
      | exact ih3 _ _ _ _
      | exact lombardref01_Share.mono _ _ _
      | exact lombardref01_Sum.mono _ _
      | exact LeO.none _
      | refine LeO.ite ?_ ?_
      | refine LeO.bind ?_ (fun _ => ?_)
    · intro y0 y1 y2 y3
      unfold lombardref29_Fall.l1
      repeat' first
      | (with_reducible exact ih0 _ _ _)
      | (with_reducible exact ih1 _ _ _)
      | (with_reducible exact ih2 _ _ _ _)
      | (with_reducible exact ih3 _ _ _ _)
      | (with_reducible exact lombardref01_Share.mono _ _ _)
      | (with_reducible exact lombardref01_Sum.mono _ _)
      | (with_reducible exact LeO.refl _)
      | (with_reducible exact LeO.none _)
      | (with_reducible refine LeO.ite ?_ ?_)
      | (with_reducible refine LeO.bind ?_ (fun _ => ?_))
      | exact ih0 _ _ _
      | exact ih1 _ _ _
      | exact ih2 _ _ _ _
      | exact ih3 _ _ _ _
      | exact lombardref01_Share.mono _ _ _
      | exact lombardref01_Sum.mono _ _
      | exact LeO.none _
      | refine LeO.ite ?_ ?_
      | refine LeO.bind ?_ (fun _ => ?_)
    · intro y0 y1 y2 y3
      unfold lombardref29_Fall.l2
      repeat' first
      | (with_reducible exact ih0 _ _ _)
      | (with_reducible exact ih1 _ _ _)
      | (with_reducible exact ih2 _ _ _ _)
      | (with_reducible exact ih3 _ _ _ _)
      | (with_reducible exact lombardref01_Share.mono _ _ _)
      | (with_reducible exact lombardref01_Sum.mono _ _)
      | (with_reducible exact LeO.refl _)
      | (with_reducible exact LeO.none _)
      | (with_reducible refine LeO.ite ?_ ?_)
      | (with_reducible refine LeO.bind ?_ (fun _ => ?_))
      | exact ih0 _ _ _
      | exact ih1 _ _ _
      | exact ih2 _ _ _ _
      | exact ih3 _ _ _ _
      | exact lombardref01_Share.mono _ _ _
      | exact lombardref01_Sum.mono _ _
      | exact LeO.none _
      | refine LeO.ite ?_ ?_
      | refine LeO.bind ?_ (fun _ => ?_)
theorem lombardref29_Fall.mono : ∀ a0 a1 k, LeO (lombardref29_Fall.f k a0 a1) (lombardref29_Fall.f (k + 1) a0 a1) := by
  intro a0 a1 k
  obtain ⟨ih0, ih1, ih2, ih3⟩ := lombardref29_Fall.mono_l k
  unfold lombardref29_Fall.f
  repeat' first
      | (with_reducible exact ih0 _ _ _)
      | (with_reducible exact ih1 _ _ _)
      | (with_reducible exact ih2 _ _ _ _)
      | (with_reducible exact ih3 _ _ _ _)
      | (with_reducible exact lombardref01_Share.mono _ _ _)
      | (with_reducible exact lombardref01_Sum.mono _ _)
      | (with_reducible exact LeO.refl _)
      | (with_reducible exact LeO.none _)
      | (with_reducible refine LeO.ite ?_ ?_)
      | (with_reducible refine LeO.bind ?_ (fun _ => ?_))
      | exact ih0 _ _ _
      | exact ih1 _ _ _
      | exact ih2 _ _ _ _
      | exact ih3 _ _ _ _
      | exact lombardref01_Share.mono _ _ _
      | exact lombardref01_Sum.mono _ _
      | exact LeO.none _
      | refine LeO.ite ?_ ?_
      | refine LeO.bind ?_ (fun _ => ?_)
set_option maxHeartbeats 8000000 in
set_option maxRecDepth 100000 in
theorem lombardref29_Fall.calls (k : Nat) (a0 : Int) (P1_ : Nat → Prop) (A1 : Option Addr) (c1 : Nat) (l1 : List (S35)) (r1 : List (S35)) (r2 : Int) (r3 : Int) (w : World) (hs1 : Kd.V k35 35 w w.heap.size (fun k_ => P1_ k_) (.slice A1 l1.length c1) l1) (h : lombardref29_Fall.f k a0 l1 = some (r1, r2, r3)) :
    Calls Try.prog 11 #[.int .i64 a0, .slice A1 l1.length c1] w fun e w' => ∃ v0_ : Value, e = .returned (.tuple #[v0_, .int .i64 r2, .int .i64 r3]) ∧ Kd.N k35 35 w' w.heap.size (fun k_ => (P1_ k_ ∨ w.heap.size ≤ k_)) v0_ r1 ∧ Below w.heap.size w w' := by
  have hu35 := Try.underlying35
  have HO1 := Aside0.mk (show Kd.V k35 35 w w.heap.size (fun k_ => (P1_ k_ ∨ w.heap.size ≤ k_)) (.slice A1 l1.length c1) l1 from Kd.V_mono hs1 (fun k_ hk => .inl hk))
  have HB := Aside0.mk (Below.refl w.heap.size w)
  have H : (if a0 < 0 then (lombardref29_Fall.j0 k a0 l1 true) else (if a0 > 1125899906842624 then (lombardref29_Fall.j0 k a0 l1 true) else (lombardref29_Fall.j0 k a0 l1 (decide ((l1.length : Int) > 64))))) = some (r1, r2, r3) := h
  clear h
  have HC3 := Aside0.mk H
  clear H
  go_enter Try.func11, Try.ntmps11
  go_upto_region 1 with (fail)
  go_cut [25] (fun v25 wc => ∃ (kq : Nat) (x25_2 : Bool), v25 = .bool x25_2 ∧ Aside0 (lombardref29_Fall.j0 kq a0 l1 x25_2 = some (r1, r2, r3)) ∧ Aside0 (kq ≤ k) ∧ Aside0 (Kd.V k35 35 wc w.heap.size (fun k_ => (P1_ k_ ∨ w.heap.size ≤ k_)) (.slice A1 l1.length c1) l1) ∧ Aside0 (Below w.heap.size w wc))
  case first =>
    have H := HC3.out
    clear HC3
    by_cases c4 : a0 < 0
    · rw [if_pos c4] at H
      have c4b0 : decide (a0 < 0) = true := decide_eq_true c4
      clear c4
      (first | rw [c4b0] | (simp only [i64_w, i32_w]; rw [c4b0]) | skip)
      have H' := Aside0.mk H
      clear H
      go_wp2
      go_meet
      case rel => exact ⟨_, (true), (by first | rfl | (simp; done) | (simp [*]; done)), H', ⟨by first | omega | exact Nat.le_refl _⟩, ⟨by (with_reducible repeat (first | apply Kd.V_alloc | apply Kd.V_drewN | apply Kd.V_drew)); exact HO1.out⟩, ⟨by repeat (first | (with_reducible first | exact HB.out | apply below_alloc | apply pw_below_drewN | apply below_drew1) | exact HB.out)⟩⟩
    · rw [if_neg c4] at H
      have c4b0 : decide (a0 < 0) = false := decide_eq_false c4
      clear c4
      (first | rw [c4b0] | (simp only [i64_w, i32_w]; rw [c4b0]) | skip)
      by_cases c5 : a0 > 1125899906842624
      · rw [if_pos c5] at H
        have c5b0 : decide (1125899906842624 < a0) = true := decide_eq_true c5
        clear c5
        have H' := Aside0.mk H
        clear H
        go_wp2
        go_meet
        case rel => exact ⟨_, (true), (by first | rfl | (simp; done) | (simp [*]; done)), H', ⟨by first | omega | exact Nat.le_refl _⟩, ⟨by (with_reducible repeat (first | apply Kd.V_alloc | apply Kd.V_drewN | apply Kd.V_drew)); exact HO1.out⟩, ⟨by repeat (first | (with_reducible first | exact HB.out | apply below_alloc | apply pw_below_drewN | apply below_drew1) | exact HB.out)⟩⟩
      · rw [if_neg c5] at H
        have c5b0 : decide (1125899906842624 < a0) = false := decide_eq_false c5
        clear c5
        have H' := Aside0.mk H
        clear H
        go_wp2
        go_meet
        case rel => exact ⟨_, (decide ((l1.length : Int) > 64)), (by first | rfl | (simp; done) | (simp [*]; done)), H', ⟨by first | omega | exact Nat.le_refl _⟩, ⟨by (with_reducible repeat (first | apply Kd.V_alloc | apply Kd.V_drewN | apply Kd.V_drew)); exact HO1.out⟩, ⟨by repeat (first | (with_reducible first | exact HB.out | apply below_alloc | apply pw_below_drewN | apply below_drew1) | exact HB.out)⟩⟩
  case rest =>
    clear HC3
    try clear c1
    try clear p2
    try clear c4
    try clear c4b0
    try clear c5
    try clear c5b0
    obtain ⟨kq, x25_2, rfl, HA, HJ2, HO_1, HB⟩ := hcut
    cases kq with
    | zero => exact absurd HA.out (by simp [lombardref29_Fall.j0])
    | succ kj2 =>
      have H := HA.out
      clear HA
      simp only [lombardref29_Fall.j0] at H
      by_cases c6 : x25_2 = true
      · subst c6
        have H1 : (some (([] : List (S35)), 0, 1)) = some (r1, r2, r3) := by rw [if_pos rfl] at H; exact H
        clear H
        have H := H1
        clear H1
        simp only [Option.some.injEq, Prod.mk.injEq] at H
        obtain ⟨rfl, rfl, rfl⟩ := H
        go_wp2
        go_ret3
        exact ⟨_, by first | rfl | (simp [errW_none, errW_some] <;> rfl) | (simp [*, errW_none, errW_some] <;> rfl), by first | exact Kd.S_nil _ _ _ _ _ | exact Kd.N_nil _ _ _ _ _ | exact Kd.V_nil _ _ _ _ _ | exact Kd.Q_nil _ _ _ _ _ | exact Kd.R_nil _ _ _ _ _, by repeat (first | (with_reducible first | exact HB.out | apply below_alloc | apply pw_below_drewN | apply below_drew1) | exact HB.out)⟩
      · replace c6 := Bool.eq_false_iff.mpr c6
        subst c6
        have H1 : (lombardref29_Fall.l0 kj2 a0 l1 0) = some (r1, r2, r3) := by rw [if_neg (show ¬ (false = true) by decide)] at H; exact H
        clear H
        have H := H1
        clear H1
        have H' := Aside0.mk H
        clear H
        go_wp2
        go_loopg [7] kj2 (fun kq v7 w' => ∃ (x7_2 : Int), v7 = .int .i64 x7_2 ∧ Aside0 (lombardref29_Fall.l0 kq a0 l1 x7_2 = some (r1, r2, r3)) ∧ Aside0 (kq ≤ kj2) ∧ Aside0 (Kd.V k35 35 w' w.heap.size (fun k_ => (P1_ k_ ∨ w.heap.size ≤ k_)) (.slice A1 l1.length c1) l1) ∧ Aside0 (Below w.heap.size w w'))
        case atStart => exact ⟨(0), (by first | rfl | (simp; done) | (simp [*]; done)), H', ⟨Nat.le_refl _⟩, ⟨by (with_reducible repeat (first | apply Kd.V_alloc | apply Kd.V_drewN | apply Kd.V_drew)); exact HO_1.out⟩, ⟨by repeat (first | (with_reducible first | exact HB.out | apply below_alloc | apply pw_below_drewN | apply below_drew1) | exact HB.out)⟩⟩
        case round =>
          clear H'
          try clear c1
          try clear p2
          try clear c4
          try clear c4b0
          try clear c5
          try clear c5b0
          try clear c6
          try clear p2
          obtain ⟨x7_2, rfl, HA, HK2, HO_1, HB⟩ := hrel
          cases gk with
          | zero => exact absurd HA.out (by simp [lombardref29_Fall.l0])
          | succ k2 =>
            have H := HA.out
            clear HA
            simp only [lombardref29_Fall.l0] at H
            by_cases c7 : x7_2 < (l1.length : Int)
            · rw [if_pos c7] at H
              have c7b0 : decide (x7_2 < (l1.length : Int)) = true := decide_eq_true c7
              clear c7
              by_cases c8 : 0 ≤ x7_2
              · rw [if_pos c8] at H
                have c8b0 : decide (0 ≤ x7_2) = true := decide_eq_true c8
                clear c8
                by_cases c9 : (((rd_T35 l1 x7_2).f1).length : Int) > 64
                · rw [if_pos c9] at H
                  have c9b0 : decide (64 < (((rd_T35 l1 x7_2).f1).length : Int)) = true := decide_eq_true c9
                  have c9b1 : decide (64 < ((rd_T35 l1 x7_2).f1).length) = true := decide_eq_true (by omega)
                  clear c9
                  simp only [Option.some.injEq, Prod.mk.injEq] at H
                  obtain ⟨rfl, rfl, rfl⟩ := H
                  have p324 : 0 ≤ (x7_2 : Int) := of_decide_eq_true (by first | (with_reducible assumption) | assumption)
                  have q324 : x7_2 < (l1.length : Int) := of_decide_eq_true (by first | (with_reducible assumption) | assumption)
                  obtain ⟨ad324, A324_1, c324_1, e324, hx324_0, hx324_1, hl324_1, hi324_1⟩ := at_T35 (Kd.V_reads' HO_1.out).2.2 x7_2 p324 q324
                  cases e324
                  obtain ⟨ce324, hce324, hMe324, hcc324⟩ := Kd.V_get HO_1.out z35 x7_2 p324 (by first | exact q324 | exact of_decide_eq_true (by first | (with_reducible assumption) | assumption) | (have e_ := (Kd.V_reads' HO_1.out).1; omega))
                  obtain ⟨ua324_1, uc324_1, rfl, ul324_1, ge324_1⟩ := k35_openF hMe324
                  have hv324_1 := hcc324 1 _ rfl
                  rw [add_field _ _ 1 (by omega)] at hv324_1
                  replace hv324_1 := Option.some.inj (hv324_1.symm.trans hx324_1)
                  injection hv324_1 with hva_ hvn_ hvc_
                  rw [hva_] at ge324_1
                  rw [hvc_] at ul324_1
                  have HL324_1 := Aside0.mk (show Kd.V (Kd.int .i64) 3 _ w.heap.size _ _ ((rd_T35 l1 x7_2).f1) from Kd.V_mk ul324_1 ge324_1)
                  clear hva_ hvn_ hvc_ ge324_1 ul324_1
                  clear hcc324 hce324
                  have HR324_1 := Aside0.mk hi324_1
                  have HC324_1 := Aside0.mk hl324_1
                  clear hi324_1 hl324_1
                  replace p324 := eq_true p324
                  replace q324 := eq_true q324
                  go_wp2
                  go_ret3
                  exact ⟨_, by first | rfl | (simp [errW_none, errW_some] <;> rfl) | (simp [*, errW_none, errW_some] <;> rfl), by first | exact Kd.S_nil _ _ _ _ _ | exact Kd.N_nil _ _ _ _ _ | exact Kd.V_nil _ _ _ _ _ | exact Kd.Q_nil _ _ _ _ _ | exact Kd.R_nil _ _ _ _ _, by repeat (first | (with_reducible first | exact HB.out | apply below_alloc | apply pw_below_drewN | apply below_drew1) | exact HB.out)⟩
                · rw [if_neg c9] at H
                  have c9b0 : decide (64 < (((rd_T35 l1 x7_2).f1).length : Int)) = false := decide_eq_false c9
                  have c9b1 : decide (64 < ((rd_T35 l1 x7_2).f1).length) = false := decide_eq_false (by omega)
                  clear c9
                  have H' := Aside0.mk H
                  clear H
                  have p324 : 0 ≤ (x7_2 : Int) := of_decide_eq_true (by first | (with_reducible assumption) | assumption)
                  have q324 : x7_2 < (l1.length : Int) := of_decide_eq_true (by first | (with_reducible assumption) | assumption)
                  obtain ⟨ad324, A324_1, c324_1, e324, hx324_0, hx324_1, hl324_1, hi324_1⟩ := at_T35 (Kd.V_reads' HO_1.out).2.2 x7_2 p324 q324
                  cases e324
                  obtain ⟨ce324, hce324, hMe324, hcc324⟩ := Kd.V_get HO_1.out z35 x7_2 p324 (by first | exact q324 | exact of_decide_eq_true (by first | (with_reducible assumption) | assumption) | (have e_ := (Kd.V_reads' HO_1.out).1; omega))
                  obtain ⟨ua324_1, uc324_1, rfl, ul324_1, ge324_1⟩ := k35_openF hMe324
                  have hv324_1 := hcc324 1 _ rfl
                  rw [add_field _ _ 1 (by omega)] at hv324_1
                  replace hv324_1 := Option.some.inj (hv324_1.symm.trans hx324_1)
                  injection hv324_1 with hva_ hvn_ hvc_
                  rw [hva_] at ge324_1
                  rw [hvc_] at ul324_1
                  have HL324_1 := Aside0.mk (show Kd.V (Kd.int .i64) 3 _ w.heap.size _ _ ((rd_T35 l1 x7_2).f1) from Kd.V_mk ul324_1 ge324_1)
                  clear hva_ hvn_ hvc_ ge324_1 ul324_1
                  clear hcc324 hce324
                  have HR324_1 := Aside0.mk hi324_1
                  have HC324_1 := Aside0.mk hl324_1
                  clear hi324_1 hl324_1
                  replace p324 := eq_true p324
                  replace q324 := eq_true q324
                  go_wp2
                  go_loopg [8] k2 (fun kq v8 w' => ∃ (x8_3 : Int), v8 = .int .i64 x8_3 ∧ Aside0 (lombardref29_Fall.l1 kq a0 l1 x7_2 x8_3 = some (r1, r2, r3)) ∧ Aside0 (kq ≤ k2) ∧ Aside0 (Kd.V k35 35 w' w.heap.size (fun k_ => (P1_ k_ ∨ w.heap.size ≤ k_)) (.slice (some ad324) l1.length c1) l1) ∧ Aside0 (Kd.C (Kd.int .i64) w' A324_1 ((rd_T35 l1 x7_2).f1).length ((rd_T35 l1 x7_2).f1)) ∧ Aside0 (Below w.heap.size w w'))
                  case atStart => exact ⟨(0), (by first | rfl | (simp; done) | (simp [*]; done)), H', ⟨Nat.le_refl _⟩, ⟨by (with_reducible repeat (first | apply Kd.V_alloc | apply Kd.V_drewN | apply Kd.V_drew)); exact HO_1.out⟩, ⟨by repeat (first | (with_reducible exact HR324_1.out) | (with_reducible refine Kd.C_alloc ?_ _) | (with_reducible refine Kd.C_drewN ?_ _) | (with_reducible refine Kd.C_drew ?_) | exact HR324_1.out | exact (Kd.V_reads' HL324_1.out).2.2)⟩, ⟨by repeat (first | (with_reducible first | exact HB.out | apply below_alloc | apply pw_below_drewN | apply below_drew1) | exact HB.out)⟩⟩
                  case round =>
                    clear H'
                    try clear c1
                    try clear p2
                    try clear c3
                    try clear p3
                    try clear q3
                    try clear hx3
                    try clear c4
                    try clear c4b0
                    try clear c5
                    try clear c5b0
                    try clear c6
                    try clear c7
                    try clear c7b0
                    try clear c8
                    try clear c8b0
                    try clear c9
                    try clear c9b0
                    try clear c9b1
                    try clear hx324_0
                    try clear hx324_1
                    try clear p2
                    try clear p324
                    try clear q324
                    obtain ⟨x8_3, rfl, HA, HK3, HO_1, HR324_1, HB⟩ := hrel
                    cases gk with
                    | zero => exact absurd HA.out (by simp [lombardref29_Fall.l1])
                    | succ k3 =>
                      have H := HA.out
                      clear HA
                      simp only [lombardref29_Fall.l1] at H
                      by_cases c10 : 0 ≤ x7_2
                      · rw [if_pos c10] at H
                        have c10b0 : decide (0 ≤ x7_2) = true := decide_eq_true c10
                        clear c10
                        by_cases c11 : x7_2 < (l1.length : Int)
                        · rw [if_pos c11] at H
                          have c11b0 : decide (x7_2 < (l1.length : Int)) = true := decide_eq_true c11
                          clear c11
                          by_cases c12 : x8_3 < (((rd_T35 l1 x7_2).f1).length : Int)
                          · rw [if_pos c12] at H
                            have c12b0 : decide (x8_3 < (((rd_T35 l1 x7_2).f1).length : Int)) = true := decide_eq_true c12
                            clear c12
                            by_cases c13 : 0 ≤ x8_3
                            · rw [if_pos c13] at H
                              have c13b0 : decide (0 ≤ x8_3) = true := decide_eq_true c13
                              clear c13
                              by_cases c14 : (rd ((rd_T35 l1 x7_2).f1) x8_3) < 0
                              · rw [if_pos c14] at H
                                have c14b0 : decide ((rd ((rd_T35 l1 x7_2).f1) x8_3) < 0) = true := decide_eq_true c14
                                clear c14
                                simp only [Option.some.injEq, Prod.mk.injEq] at H
                                obtain ⟨rfl, rfl, rfl⟩ := H
                                have p325 : 0 ≤ (x7_2 : Int) := of_decide_eq_true (by first | (with_reducible assumption) | assumption)
                                have q325 : x7_2 < (l1.length : Int) := of_decide_eq_true (by first | (with_reducible assumption) | assumption)
                                obtain ⟨ad325, A325_1, c325_1, e325, hx325_0, hx325_1, hl325_1, hi325_1⟩ := at_T35 (Kd.V_reads' HO_1.out).2.2 x7_2 p325 q325
                                obtain rfl : ad324 = ad325 := (by injection e325)
                                obtain ⟨ce325, hce325, hMe325, hcc325⟩ := Kd.V_get HO_1.out z35 x7_2 p325 (by first | exact q325 | exact of_decide_eq_true (by first | (with_reducible assumption) | assumption) | (have e_ := (Kd.V_reads' HO_1.out).1; omega))
                                obtain ⟨ua325_1, uc325_1, rfl, ul325_1, ge325_1⟩ := k35_openF hMe325
                                have hv325_1 := hcc325 1 _ rfl
                                rw [add_field _ _ 1 (by omega)] at hv325_1
                                replace hv325_1 := Option.some.inj (hv325_1.symm.trans hx325_1)
                                injection hv325_1 with hva_ hvn_ hvc_
                                rw [hva_] at ge325_1
                                rw [hvc_] at ul325_1
                                have HL325_1 := Aside0.mk (show Kd.V (Kd.int .i64) 3 _ w.heap.size _ _ ((rd_T35 l1 x7_2).f1) from Kd.V_mk ul325_1 ge325_1)
                                clear hva_ hvn_ hvc_ ge325_1 ul325_1
                                clear hcc325 hce325
                                have HR325_1 := Aside0.mk hi325_1
                                have HC325_1 := Aside0.mk hl325_1
                                clear hi325_1 hl325_1
                                replace p325 := eq_true p325
                                replace q325 := eq_true q325
                                have p326 : 0 ≤ (x7_2 : Int) := of_decide_eq_true (by first | (with_reducible assumption) | assumption)
                                have q326 : x7_2 < (l1.length : Int) := of_decide_eq_true (by first | (with_reducible assumption) | assumption)
                                obtain ⟨ad326, A326_1, c326_1, e326, hx326_0, hx326_1, hl326_1, hi326_1⟩ := at_T35 (Kd.V_reads' HO_1.out).2.2 x7_2 p326 q326
                                obtain rfl : ad324 = ad326 := (by injection e326)
                                obtain ⟨ce326, hce326, hMe326, hcc326⟩ := Kd.V_get HO_1.out z35 x7_2 p326 (by first | exact q326 | exact of_decide_eq_true (by first | (with_reducible assumption) | assumption) | (have e_ := (Kd.V_reads' HO_1.out).1; omega))
                                obtain ⟨ua326_1, uc326_1, rfl, ul326_1, ge326_1⟩ := k35_openF hMe326
                                have hv326_1 := hcc326 1 _ rfl
                                rw [add_field _ _ 1 (by omega)] at hv326_1
                                replace hv326_1 := Option.some.inj (hv326_1.symm.trans hx326_1)
                                injection hv326_1 with hva_ hvn_ hvc_
                                rw [hva_] at ge326_1
                                rw [hvc_] at ul326_1
                                have HL326_1 := Aside0.mk (show Kd.V (Kd.int .i64) 3 _ w.heap.size _ _ ((rd_T35 l1 x7_2).f1) from Kd.V_mk ul326_1 ge326_1)
                                clear hva_ hvn_ hvc_ ge326_1 ul326_1
                                clear hcc326 hce326
                                have HR326_1 := Aside0.mk hi326_1
                                have HC326_1 := Aside0.mk hl326_1
                                clear hi326_1 hl326_1
                                replace p326 := eq_true p326
                                replace q326 := eq_true q326
                                have ea_ := Option.some.inj (hx325_1.symm.trans hx326_1)
                                injection ea_ with ea_ en_ ec_
                                subst ea_
                                subst ec_
                                clear en_
                                have p327 : 0 ≤ (x8_3 : Int) := of_decide_eq_true (by first | (with_reducible assumption) | assumption)
                                have q327 : x8_3 < (((rd_T35 l1 x7_2).f1).length : Int) := of_decide_eq_true (by first | (with_reducible assumption) | assumption)
                                obtain ⟨ad327, e327, hx327_0⟩ := Kd.at_int (by repeat (first | (with_reducible exact HR326_1.out) | (with_reducible refine Kd.C_alloc ?_ _) | (with_reducible refine Kd.C_drewN ?_ _) | (with_reducible refine Kd.C_drew ?_) | exact HR326_1.out | exact (Kd.V_reads' HL326_1.out).2.2)) x8_3 p327 q327
                                cases e327
                                replace p327 := eq_true p327
                                replace q327 := eq_true q327
                                go_wp2
                                go_ret3
                                exact ⟨_, by first | rfl | (simp [errW_none, errW_some] <;> rfl) | (simp [*, errW_none, errW_some] <;> rfl), by first | exact Kd.S_nil _ _ _ _ _ | exact Kd.N_nil _ _ _ _ _ | exact Kd.V_nil _ _ _ _ _ | exact Kd.Q_nil _ _ _ _ _ | exact Kd.R_nil _ _ _ _ _, by repeat (first | (with_reducible first | exact HB.out | apply below_alloc | apply pw_below_drewN | apply below_drew1) | exact HB.out)⟩
                              · rw [if_neg c14] at H
                                have c14b0 : decide ((rd ((rd_T35 l1 x7_2).f1) x8_3) < 0) = false := decide_eq_false c14
                                clear c14
                                by_cases c15 : (rd ((rd_T35 l1 x7_2).f1) x8_3) > 1125899906842624
                                · rw [if_pos c15] at H
                                  have c15b0 : decide (1125899906842624 < (rd ((rd_T35 l1 x7_2).f1) x8_3)) = true := decide_eq_true c15
                                  clear c15
                                  simp only [Option.some.injEq, Prod.mk.injEq] at H
                                  obtain ⟨rfl, rfl, rfl⟩ := H
                                  have p325 : 0 ≤ (x7_2 : Int) := of_decide_eq_true (by first | (with_reducible assumption) | assumption)
                                  have q325 : x7_2 < (l1.length : Int) := of_decide_eq_true (by first | (with_reducible assumption) | assumption)
                                  obtain ⟨ad325, A325_1, c325_1, e325, hx325_0, hx325_1, hl325_1, hi325_1⟩ := at_T35 (Kd.V_reads' HO_1.out).2.2 x7_2 p325 q325
                                  obtain rfl : ad324 = ad325 := (by injection e325)
                                  obtain ⟨ce325, hce325, hMe325, hcc325⟩ := Kd.V_get HO_1.out z35 x7_2 p325 (by first | exact q325 | exact of_decide_eq_true (by first | (with_reducible assumption) | assumption) | (have e_ := (Kd.V_reads' HO_1.out).1; omega))
                                  obtain ⟨ua325_1, uc325_1, rfl, ul325_1, ge325_1⟩ := k35_openF hMe325
                                  have hv325_1 := hcc325 1 _ rfl
                                  rw [add_field _ _ 1 (by omega)] at hv325_1
                                  replace hv325_1 := Option.some.inj (hv325_1.symm.trans hx325_1)
                                  injection hv325_1 with hva_ hvn_ hvc_
                                  rw [hva_] at ge325_1
                                  rw [hvc_] at ul325_1
                                  have HL325_1 := Aside0.mk (show Kd.V (Kd.int .i64) 3 _ w.heap.size _ _ ((rd_T35 l1 x7_2).f1) from Kd.V_mk ul325_1 ge325_1)
                                  clear hva_ hvn_ hvc_ ge325_1 ul325_1
                                  clear hcc325 hce325
                                  have HR325_1 := Aside0.mk hi325_1
                                  have HC325_1 := Aside0.mk hl325_1
                                  clear hi325_1 hl325_1
                                  replace p325 := eq_true p325
                                  replace q325 := eq_true q325
                                  have p326 : 0 ≤ (x7_2 : Int) := of_decide_eq_true (by first | (with_reducible assumption) | assumption)
                                  have q326 : x7_2 < (l1.length : Int) := of_decide_eq_true (by first | (with_reducible assumption) | assumption)
                                  obtain ⟨ad326, A326_1, c326_1, e326, hx326_0, hx326_1, hl326_1, hi326_1⟩ := at_T35 (Kd.V_reads' HO_1.out).2.2 x7_2 p326 q326
                                  obtain rfl : ad324 = ad326 := (by injection e326)
                                  obtain ⟨ce326, hce326, hMe326, hcc326⟩ := Kd.V_get HO_1.out z35 x7_2 p326 (by first | exact q326 | exact of_decide_eq_true (by first | (with_reducible assumption) | assumption) | (have e_ := (Kd.V_reads' HO_1.out).1; omega))
                                  obtain ⟨ua326_1, uc326_1, rfl, ul326_1, ge326_1⟩ := k35_openF hMe326
                                  have hv326_1 := hcc326 1 _ rfl
                                  rw [add_field _ _ 1 (by omega)] at hv326_1
                                  replace hv326_1 := Option.some.inj (hv326_1.symm.trans hx326_1)
                                  injection hv326_1 with hva_ hvn_ hvc_
                                  rw [hva_] at ge326_1
                                  rw [hvc_] at ul326_1
                                  have HL326_1 := Aside0.mk (show Kd.V (Kd.int .i64) 3 _ w.heap.size _ _ ((rd_T35 l1 x7_2).f1) from Kd.V_mk ul326_1 ge326_1)
                                  clear hva_ hvn_ hvc_ ge326_1 ul326_1
                                  clear hcc326 hce326
                                  have HR326_1 := Aside0.mk hi326_1
                                  have HC326_1 := Aside0.mk hl326_1
                                  clear hi326_1 hl326_1
                                  replace p326 := eq_true p326
                                  replace q326 := eq_true q326
                                  have ea_ := Option.some.inj (hx325_1.symm.trans hx326_1)
                                  injection ea_ with ea_ en_ ec_
                                  subst ea_
                                  subst ec_
                                  clear en_
                                  have p327 : 0 ≤ (x8_3 : Int) := of_decide_eq_true (by first | (with_reducible assumption) | assumption)
                                  have q327 : x8_3 < (((rd_T35 l1 x7_2).f1).length : Int) := of_decide_eq_true (by first | (with_reducible assumption) | assumption)
                                  obtain ⟨ad327, e327, hx327_0⟩ := Kd.at_int (by repeat (first | (with_reducible exact HR326_1.out) | (with_reducible refine Kd.C_alloc ?_ _) | (with_reducible refine Kd.C_drewN ?_ _) | (with_reducible refine Kd.C_drew ?_) | exact HR326_1.out | exact (Kd.V_reads' HL326_1.out).2.2)) x8_3 p327 q327
                                  cases e327
                                  replace p327 := eq_true p327
                                  replace q327 := eq_true q327
                                  have p328 : 0 ≤ (x7_2 : Int) := of_decide_eq_true (by first | (with_reducible assumption) | assumption)
                                  have q328 : x7_2 < (l1.length : Int) := of_decide_eq_true (by first | (with_reducible assumption) | assumption)
                                  obtain ⟨ad328, A328_1, c328_1, e328, hx328_0, hx328_1, hl328_1, hi328_1⟩ := at_T35 (Kd.V_reads' HO_1.out).2.2 x7_2 p328 q328
                                  obtain rfl : ad324 = ad328 := (by injection e328)
                                  obtain ⟨ce328, hce328, hMe328, hcc328⟩ := Kd.V_get HO_1.out z35 x7_2 p328 (by first | exact q328 | exact of_decide_eq_true (by first | (with_reducible assumption) | assumption) | (have e_ := (Kd.V_reads' HO_1.out).1; omega))
                                  obtain ⟨ua328_1, uc328_1, rfl, ul328_1, ge328_1⟩ := k35_openF hMe328
                                  have hv328_1 := hcc328 1 _ rfl
                                  rw [add_field _ _ 1 (by omega)] at hv328_1
                                  replace hv328_1 := Option.some.inj (hv328_1.symm.trans hx328_1)
                                  injection hv328_1 with hva_ hvn_ hvc_
                                  rw [hva_] at ge328_1
                                  rw [hvc_] at ul328_1
                                  have HL328_1 := Aside0.mk (show Kd.V (Kd.int .i64) 3 _ w.heap.size _ _ ((rd_T35 l1 x7_2).f1) from Kd.V_mk ul328_1 ge328_1)
                                  clear hva_ hvn_ hvc_ ge328_1 ul328_1
                                  clear hcc328 hce328
                                  have HR328_1 := Aside0.mk hi328_1
                                  have HC328_1 := Aside0.mk hl328_1
                                  clear hi328_1 hl328_1
                                  replace p328 := eq_true p328
                                  replace q328 := eq_true q328
                                  have ea_ := Option.some.inj (hx325_1.symm.trans hx328_1)
                                  injection ea_ with ea_ en_ ec_
                                  subst ea_
                                  subst ec_
                                  clear en_
                                  have p329 : 0 ≤ (x8_3 : Int) := of_decide_eq_true (by first | (with_reducible assumption) | assumption)
                                  have q329 : x8_3 < (((rd_T35 l1 x7_2).f1).length : Int) := of_decide_eq_true (by first | (with_reducible assumption) | assumption)
                                  obtain ⟨ad329, e329, hx329_0⟩ := Kd.at_int (by repeat (first | (with_reducible exact HR328_1.out) | (with_reducible refine Kd.C_alloc ?_ _) | (with_reducible refine Kd.C_drewN ?_ _) | (with_reducible refine Kd.C_drew ?_) | exact HR328_1.out | exact (Kd.V_reads' HL328_1.out).2.2)) x8_3 p329 q329
                                  cases e329
                                  replace p329 := eq_true p329
                                  replace q329 := eq_true q329
                                  go_wp2
                                  go_ret3
                                  exact ⟨_, by first | rfl | (simp [errW_none, errW_some] <;> rfl) | (simp [*, errW_none, errW_some] <;> rfl), by first | exact Kd.S_nil _ _ _ _ _ | exact Kd.N_nil _ _ _ _ _ | exact Kd.V_nil _ _ _ _ _ | exact Kd.Q_nil _ _ _ _ _ | exact Kd.R_nil _ _ _ _ _, by repeat (first | (with_reducible first | exact HB.out | apply below_alloc | apply pw_below_drewN | apply below_drew1) | exact HB.out)⟩
                                · rw [if_neg c15] at H
                                  have c15b0 : decide (1125899906842624 < (rd ((rd_T35 l1 x7_2).f1) x8_3)) = false := decide_eq_false c15
                                  clear c15
                                  have H' := Aside0.mk H
                                  clear H
                                  have p325 : 0 ≤ (x7_2 : Int) := of_decide_eq_true (by first | (with_reducible assumption) | assumption)
                                  have q325 : x7_2 < (l1.length : Int) := of_decide_eq_true (by first | (with_reducible assumption) | assumption)
                                  obtain ⟨ad325, A325_1, c325_1, e325, hx325_0, hx325_1, hl325_1, hi325_1⟩ := at_T35 (Kd.V_reads' HO_1.out).2.2 x7_2 p325 q325
                                  obtain rfl : ad324 = ad325 := (by injection e325)
                                  obtain ⟨ce325, hce325, hMe325, hcc325⟩ := Kd.V_get HO_1.out z35 x7_2 p325 (by first | exact q325 | exact of_decide_eq_true (by first | (with_reducible assumption) | assumption) | (have e_ := (Kd.V_reads' HO_1.out).1; omega))
                                  obtain ⟨ua325_1, uc325_1, rfl, ul325_1, ge325_1⟩ := k35_openF hMe325
                                  have hv325_1 := hcc325 1 _ rfl
                                  rw [add_field _ _ 1 (by omega)] at hv325_1
                                  replace hv325_1 := Option.some.inj (hv325_1.symm.trans hx325_1)
                                  injection hv325_1 with hva_ hvn_ hvc_
                                  rw [hva_] at ge325_1
                                  rw [hvc_] at ul325_1
                                  have HL325_1 := Aside0.mk (show Kd.V (Kd.int .i64) 3 _ w.heap.size _ _ ((rd_T35 l1 x7_2).f1) from Kd.V_mk ul325_1 ge325_1)
                                  clear hva_ hvn_ hvc_ ge325_1 ul325_1
                                  clear hcc325 hce325
                                  have HR325_1 := Aside0.mk hi325_1
                                  have HC325_1 := Aside0.mk hl325_1
                                  clear hi325_1 hl325_1
                                  replace p325 := eq_true p325
                                  replace q325 := eq_true q325
                                  have p326 : 0 ≤ (x7_2 : Int) := of_decide_eq_true (by first | (with_reducible assumption) | assumption)
                                  have q326 : x7_2 < (l1.length : Int) := of_decide_eq_true (by first | (with_reducible assumption) | assumption)
                                  obtain ⟨ad326, A326_1, c326_1, e326, hx326_0, hx326_1, hl326_1, hi326_1⟩ := at_T35 (Kd.V_reads' HO_1.out).2.2 x7_2 p326 q326
                                  obtain rfl : ad324 = ad326 := (by injection e326)
                                  obtain ⟨ce326, hce326, hMe326, hcc326⟩ := Kd.V_get HO_1.out z35 x7_2 p326 (by first | exact q326 | exact of_decide_eq_true (by first | (with_reducible assumption) | assumption) | (have e_ := (Kd.V_reads' HO_1.out).1; omega))
                                  obtain ⟨ua326_1, uc326_1, rfl, ul326_1, ge326_1⟩ := k35_openF hMe326
                                  have hv326_1 := hcc326 1 _ rfl
                                  rw [add_field _ _ 1 (by omega)] at hv326_1
                                  replace hv326_1 := Option.some.inj (hv326_1.symm.trans hx326_1)
                                  injection hv326_1 with hva_ hvn_ hvc_
                                  rw [hva_] at ge326_1
                                  rw [hvc_] at ul326_1
                                  have HL326_1 := Aside0.mk (show Kd.V (Kd.int .i64) 3 _ w.heap.size _ _ ((rd_T35 l1 x7_2).f1) from Kd.V_mk ul326_1 ge326_1)
                                  clear hva_ hvn_ hvc_ ge326_1 ul326_1
                                  clear hcc326 hce326
                                  have HR326_1 := Aside0.mk hi326_1
                                  have HC326_1 := Aside0.mk hl326_1
                                  clear hi326_1 hl326_1
                                  replace p326 := eq_true p326
                                  replace q326 := eq_true q326
                                  have ea_ := Option.some.inj (hx325_1.symm.trans hx326_1)
                                  injection ea_ with ea_ en_ ec_
                                  subst ea_
                                  subst ec_
                                  clear en_
                                  have p327 : 0 ≤ (x8_3 : Int) := of_decide_eq_true (by first | (with_reducible assumption) | assumption)
                                  have q327 : x8_3 < (((rd_T35 l1 x7_2).f1).length : Int) := of_decide_eq_true (by first | (with_reducible assumption) | assumption)
                                  obtain ⟨ad327, e327, hx327_0⟩ := Kd.at_int (by repeat (first | (with_reducible exact HR326_1.out) | (with_reducible refine Kd.C_alloc ?_ _) | (with_reducible refine Kd.C_drewN ?_ _) | (with_reducible refine Kd.C_drew ?_) | exact HR326_1.out | exact (Kd.V_reads' HL326_1.out).2.2)) x8_3 p327 q327
                                  cases e327
                                  replace p327 := eq_true p327
                                  replace q327 := eq_true q327
                                  have p328 : 0 ≤ (x7_2 : Int) := of_decide_eq_true (by first | (with_reducible assumption) | assumption)
                                  have q328 : x7_2 < (l1.length : Int) := of_decide_eq_true (by first | (with_reducible assumption) | assumption)
                                  obtain ⟨ad328, A328_1, c328_1, e328, hx328_0, hx328_1, hl328_1, hi328_1⟩ := at_T35 (Kd.V_reads' HO_1.out).2.2 x7_2 p328 q328
                                  obtain rfl : ad324 = ad328 := (by injection e328)
                                  obtain ⟨ce328, hce328, hMe328, hcc328⟩ := Kd.V_get HO_1.out z35 x7_2 p328 (by first | exact q328 | exact of_decide_eq_true (by first | (with_reducible assumption) | assumption) | (have e_ := (Kd.V_reads' HO_1.out).1; omega))
                                  obtain ⟨ua328_1, uc328_1, rfl, ul328_1, ge328_1⟩ := k35_openF hMe328
                                  have hv328_1 := hcc328 1 _ rfl
                                  rw [add_field _ _ 1 (by omega)] at hv328_1
                                  replace hv328_1 := Option.some.inj (hv328_1.symm.trans hx328_1)
                                  injection hv328_1 with hva_ hvn_ hvc_
                                  rw [hva_] at ge328_1
                                  rw [hvc_] at ul328_1
                                  have HL328_1 := Aside0.mk (show Kd.V (Kd.int .i64) 3 _ w.heap.size _ _ ((rd_T35 l1 x7_2).f1) from Kd.V_mk ul328_1 ge328_1)
                                  clear hva_ hvn_ hvc_ ge328_1 ul328_1
                                  clear hcc328 hce328
                                  have HR328_1 := Aside0.mk hi328_1
                                  have HC328_1 := Aside0.mk hl328_1
                                  clear hi328_1 hl328_1
                                  replace p328 := eq_true p328
                                  replace q328 := eq_true q328
                                  have ea_ := Option.some.inj (hx325_1.symm.trans hx328_1)
                                  injection ea_ with ea_ en_ ec_
                                  subst ea_
                                  subst ec_
                                  clear en_
                                  have p329 : 0 ≤ (x8_3 : Int) := of_decide_eq_true (by first | (with_reducible assumption) | assumption)
                                  have q329 : x8_3 < (((rd_T35 l1 x7_2).f1).length : Int) := of_decide_eq_true (by first | (with_reducible assumption) | assumption)
                                  obtain ⟨ad329, e329, hx329_0⟩ := Kd.at_int (by repeat (first | (with_reducible exact HR328_1.out) | (with_reducible refine Kd.C_alloc ?_ _) | (with_reducible refine Kd.C_drewN ?_ _) | (with_reducible refine Kd.C_drew ?_) | exact HR328_1.out | exact (Kd.V_reads' HL328_1.out).2.2)) x8_3 p329 q329
                                  cases e329
                                  replace p329 := eq_true p329
                                  replace q329 := eq_true q329
                                  go_wp2
                                  go_roundg k3
                                  case measure => have := HJ2.out; have := HK2.out; have := HK3.out; omega
                                  case rel => exact ⟨(wrap64 (x8_3 + 1)), (by first | rfl | (simp; done) | (simp [*]; done)), H', ⟨by have := HJ2.out; have := HK2.out; have := HK3.out; omega⟩, ⟨by (with_reducible repeat (first | apply Kd.V_alloc | apply Kd.V_drewN | apply Kd.V_drew)); exact HO_1.out⟩, ⟨by repeat (first | (with_reducible exact HR324_1.out) | (with_reducible refine Kd.C_alloc ?_ _) | (with_reducible refine Kd.C_drewN ?_ _) | (with_reducible refine Kd.C_drew ?_) | exact HR324_1.out | exact (Kd.V_reads' HL324_1.out).2.2)⟩, ⟨by repeat (first | (with_reducible first | exact HB.out | apply below_alloc | apply pw_below_drewN | apply below_drew1) | exact HB.out)⟩⟩
                            · rw [if_neg c13] at H
                              exact absurd H (by simp)
                          · rw [if_neg c12] at H
                            have c12b0 : decide (x8_3 < (((rd_T35 l1 x7_2).f1).length : Int)) = false := decide_eq_false c12
                            clear c12
                            have H' := Aside0.mk H
                            clear H
                            have p325 : 0 ≤ (x7_2 : Int) := of_decide_eq_true (by first | (with_reducible assumption) | assumption)
                            have q325 : x7_2 < (l1.length : Int) := of_decide_eq_true (by first | (with_reducible assumption) | assumption)
                            obtain ⟨ad325, A325_1, c325_1, e325, hx325_0, hx325_1, hl325_1, hi325_1⟩ := at_T35 (Kd.V_reads' HO_1.out).2.2 x7_2 p325 q325
                            obtain rfl : ad324 = ad325 := (by injection e325)
                            obtain ⟨ce325, hce325, hMe325, hcc325⟩ := Kd.V_get HO_1.out z35 x7_2 p325 (by first | exact q325 | exact of_decide_eq_true (by first | (with_reducible assumption) | assumption) | (have e_ := (Kd.V_reads' HO_1.out).1; omega))
                            obtain ⟨ua325_1, uc325_1, rfl, ul325_1, ge325_1⟩ := k35_openF hMe325
                            have hv325_1 := hcc325 1 _ rfl
                            rw [add_field _ _ 1 (by omega)] at hv325_1
                            replace hv325_1 := Option.some.inj (hv325_1.symm.trans hx325_1)
                            injection hv325_1 with hva_ hvn_ hvc_
                            rw [hva_] at ge325_1
                            rw [hvc_] at ul325_1
                            have HL325_1 := Aside0.mk (show Kd.V (Kd.int .i64) 3 _ w.heap.size _ _ ((rd_T35 l1 x7_2).f1) from Kd.V_mk ul325_1 ge325_1)
                            clear hva_ hvn_ hvc_ ge325_1 ul325_1
                            clear hcc325 hce325
                            have HR325_1 := Aside0.mk hi325_1
                            have HC325_1 := Aside0.mk hl325_1
                            clear hi325_1 hl325_1
                            replace p325 := eq_true p325
                            replace q325 := eq_true q325
                            go_wp2
                            go_roundg k3
                            case measure => have := HJ2.out; have := HK2.out; have := HK3.out; omega
                            case rel => exact ⟨(wrap64 (x7_2 + 1)), (by first | rfl | (simp; done) | (simp [*]; done)), H', ⟨by have := HJ2.out; have := HK2.out; have := HK3.out; omega⟩, ⟨by (with_reducible repeat (first | apply Kd.V_alloc | apply Kd.V_drewN | apply Kd.V_drew)); exact HO_1.out⟩, ⟨by repeat (first | (with_reducible first | exact HB.out | apply below_alloc | apply pw_below_drewN | apply below_drew1) | exact HB.out)⟩⟩
                        · rw [if_neg c11] at H
                          exact absurd H (by simp)
                      · rw [if_neg c10] at H
                        exact absurd H (by simp)
              · rw [if_neg c8] at H
                exact absurd H (by simp)
            · rw [if_neg c7] at H
              have c7b0 : decide (x7_2 < (l1.length : Int)) = false := decide_eq_false c7
              clear c7
              have H' := Aside0.mk H
              clear H
              go_wp2
              go_loopg [0, 9, 10] k2 (fun kq v0 v9 v10 w' => ∃ (x0_3 : Int) (x9_3 : List (S35)) (x10_3 : Int), v0 = .int .i64 x0_3 ∧ v10 = .int .i64 x10_3 ∧ Aside0 (lombardref29_Fall.l2 kq x0_3 l1 x9_3 x10_3 = some (r1, r2, r3)) ∧ Aside0 (kq ≤ k2) ∧ Aside0 (Kd.V k35 35 w' w.heap.size (fun k_ => (P1_ k_ ∨ w.heap.size ≤ k_) ∧ some k_ ≠ (v9 : Value).ownBlock) (.slice A1 l1.length c1) l1) ∧ Aside0 (Kd.N k35 35 w' w.heap.size (fun k_ => (P1_ k_ ∨ w.heap.size ≤ k_)) v9 x9_3) ∧ Aside0 (Below w.heap.size w w'))
              case atStart => exact ⟨(a0), (([] : List (S35))), (0), (by first | rfl | (simp; done) | (simp [*]; done)), (by first | rfl | (simp; done) | (simp [*]; done)), H', ⟨Nat.le_refl _⟩, ⟨by (with_reducible repeat (first | apply Kd.V_alloc | apply Kd.V_drewN | apply Kd.V_drew)); exact Kd.V_mono HO_1.out (fun _ hk => ⟨hk, (by simp [Value.ownBlock])⟩)⟩, ⟨by first | exact Kd.S_nil _ _ _ _ _ | exact Kd.N_nil _ _ _ _ _ | exact Kd.V_nil _ _ _ _ _ | exact Kd.Q_nil _ _ _ _ _ | exact Kd.R_nil _ _ _ _ _⟩, ⟨by repeat (first | (with_reducible first | exact HB.out | apply below_alloc | apply pw_below_drewN | apply below_drew1) | exact HB.out)⟩⟩
              case round =>
                clear H'
                try clear c1
                try clear p2
                try clear c3
                try clear p3
                try clear q3
                try clear hx3
                try clear c4
                try clear c4b0
                try clear c5
                try clear c5b0
                try clear c6
                try clear p6
                try clear c7
                try clear c7b0
                try clear c8
                try clear c8b0
                try clear c9
                try clear c9b0
                try clear c9b1
                try clear c10
                try clear c10b0
                try clear c11
                try clear c11b0
                try clear c12
                try clear c12b0
                try clear c13
                try clear c13b0
                try clear c14
                try clear c14b0
                try clear c15
                try clear c15b0
                try clear hx324_0
                try clear hx324_1
                try clear hx325_0
                try clear hx325_1
                try clear hx326_0
                try clear hx326_1
                try clear hx327_0
                try clear hx328_0
                try clear hx328_1
                try clear hx329_0
                try clear p2
                try clear p3
                try clear p324
                try clear p325
                try clear p326
                try clear p327
                try clear p328
                try clear p329
                try clear q3
                try clear q324
                try clear q325
                try clear q326
                try clear q327
                try clear q328
                try clear q329
                obtain ⟨x0_3, x9_3, x10_3, rfl, rfl, HA, HK3, HO_1, HO_9, HB⟩ := hrel
                cases gk with
                | zero => exact absurd HA.out (by simp [lombardref29_Fall.l2])
                | succ k3 =>
                  have H := HA.out
                  clear HA
                  simp only [lombardref29_Fall.l2] at H
                  by_cases c16 : x10_3 < (l1.length : Int)
                  · rw [if_pos c16] at H
                    have c16b0 : decide (x10_3 < (l1.length : Int)) = true := decide_eq_true c16
                    clear c16
                    by_cases c17 : 0 ≤ x10_3
                    · rw [if_pos c17] at H
                      have c17b0 : decide (0 ≤ x10_3) = true := decide_eq_true c17
                      clear c17
                      replace H := Option.bind_eq_some_iff.mp H
                      obtain ⟨⟨t331, t332⟩, A180, H⟩ := H
                      replace H : (if x0_3 ≥ t331 then (if x9_3.length < 3518437208883 then (lombardref29_Fall.l2 k3 (wrap64 (x0_3 - t331)) l1 (x9_3 ++ [(⟨(rd_T35 l1 x10_3).f0, (rd_T35 l1 x10_3).f1⟩ : S35)]) (wrap64 (x10_3 + 1))) else (none)) else ((lombardref01_Share.f k3 x0_3 ((rd_T35 l1 x10_3).f1)).bind fun bt338 => (if x9_3.length < 3518437208883 then (lombardref29_Fall.l2 k3 0 l1 (x9_3 ++ [(⟨(rd_T35 l1 x10_3).f0, bt338.1⟩ : S35)]) (wrap64 (x10_3 + 1))) else (none)))) = some (r1, r2, r3) := H
                      have A18 := Aside0.mk A180
                      clear A180
                      by_cases c19 : x0_3 ≥ t331
                      · rw [if_pos c19] at H
                        have c19b0 : decide (t331 ≤ x0_3) = true := decide_eq_true c19
                        clear c19
                        by_cases c20 : x9_3.length < 3518437208883
                        · rw [if_pos c20] at H
                          have LMc20 := Aside0.mk c20
                          clear c20
                          obtain ⟨y334, hy334⟩ : ∃ y_ : List (S35), y_ = (x9_3 ++ [(⟨(rd_T35 l1 x10_3).f0, (rd_T35 l1 x10_3).f1⟩ : S35)]) := ⟨_, rfl⟩
                          replace H : (lombardref29_Fall.l2 k3 (wrap64 (x0_3 - t331)) l1 y334 (wrap64 (x10_3 + 1))) = some (r1, r2, r3) := by first | (rw [hy334]; with_reducible exact H) | (have H2_ := (Option.bind_some _ _).symm.trans H; rw [hy334]; with_reducible exact H2_) | (have H2_ := (Option.bind_some _ _).symm.trans H; with_reducible exact H2_) | with_reducible exact H | (rw [hy334]; exact H) | exact H
                          have Ny334 := Aside0.mk hy334
                          clear hy334
                          have H' := Aside0.mk H
                          clear H
                          have p330 : 0 ≤ (x10_3 : Int) := of_decide_eq_true (by first | (with_reducible assumption) | assumption)
                          have q330 : x10_3 < (l1.length : Int) := of_decide_eq_true (by first | (with_reducible assumption) | assumption)
                          obtain ⟨ad330, A330_1, c330_1, e330, hx330_0, hx330_1, hl330_1, hi330_1⟩ := at_T35 (Kd.V_reads' HO_1.out).2.2 x10_3 p330 q330
                          cases e330
                          obtain ⟨ce330, hce330, hMe330, hcc330⟩ := Kd.V_get HO_1.out z35 x10_3 p330 (by first | exact q330 | exact of_decide_eq_true (by first | (with_reducible assumption) | assumption) | (have e_ := (Kd.V_reads' HO_1.out).1; omega))
                          obtain ⟨ua330_1, uc330_1, rfl, ul330_1, ge330_1⟩ := k35_openF hMe330
                          have hv330_1 := hcc330 1 _ rfl
                          rw [add_field _ _ 1 (by omega)] at hv330_1
                          replace hv330_1 := Option.some.inj (hv330_1.symm.trans hx330_1)
                          injection hv330_1 with hva_ hvn_ hvc_
                          rw [hva_] at ge330_1
                          rw [hvc_] at ul330_1
                          have HL330_1 := Aside0.mk (show Kd.V (Kd.int .i64) 3 _ w.heap.size _ _ ((rd_T35 l1 x10_3).f1) from Kd.V_mk ul330_1 ge330_1)
                          clear hva_ hvn_ hvc_ ge330_1 ul330_1
                          clear hcc330 hce330
                          have HR330_1 := Aside0.mk hi330_1
                          have HC330_1 := Aside0.mk hl330_1
                          clear hi330_1 hl330_1
                          replace p330 := eq_true p330
                          replace q330 := eq_true q330
                          go_wp2_with (first | ((with_reducible refine gate_callee (f := 25) rfl ?_); refine goesL_ (some 81) rfl rfl Try.func25 (by kernel_rfl) rfl #[.slice A330_1 ((rd_T35 l1 x10_3).f1).length c330_1] rfl (by (try simp only [List.map_toArray, List.map_cons, List.map_nil]); first | done | rfl | (simp only [List.length_drop, List.length_take]; rfl)) ?_; (with_reducible refine (lombardref01_Sum.calls k3 _ _ ((rd_T35 l1 x10_3).f1) t331 t332 _ ?side1 ?side2 A18.out).mono ?_); (case side1 => repeat (first | exact (by repeat (first | (with_reducible exact HR330_1.out) | (with_reducible refine Kd.C_alloc ?_ _) | (with_reducible refine Kd.C_drewN ?_ _) | (with_reducible refine Kd.C_drew ?_) | exact HR330_1.out | exact (Kd.V_reads' HL330_1.out).2.2)) | (with_reducible refine Kd.C_alloc ?_ _) | (with_reducible refine Kd.C_drewN ?_ _) | (with_reducible refine Kd.C_drew ?_))); (case side2 => exact HC330_1.out); rintro e w' ⟨rfl, ⟨nd, rfl⟩⟩; refine ⟨_, rfl, ?_⟩; have p333 : 0 ≤ (x10_3 : Int) := of_decide_eq_true (by first | (with_reducible assumption) | assumption); have q333 : x10_3 < (l1.length : Int) := of_decide_eq_true (by first | (with_reducible assumption) | assumption); obtain ⟨ad333, A333_1, c333_1, e333, hx333_0, hx333_1, hl333_1, hi333_1⟩ := at_T35 (Kd.V_reads' HO_1.out).2.2 x10_3 p333 q333; obtain rfl : ad330 = ad333 := (by injection e333); obtain ⟨ce333, hce333, hMe333, hcc333⟩ := Kd.V_get HO_1.out z35 x10_3 p333 (by first | exact q333 | exact of_decide_eq_true (by first | (with_reducible assumption) | assumption) | (have e_ := (Kd.V_reads' HO_1.out).1; omega)); obtain ⟨ua333_1, uc333_1, rfl, ul333_1, ge333_1⟩ := k35_openF hMe333; have hv333_1 := hcc333 1 _ rfl; rw [add_field _ _ 1 (by omega)] at hv333_1; replace hv333_1 := Option.some.inj (hv333_1.symm.trans hx333_1); injection hv333_1 with hva_ hvn_ hvc_; rw [hva_] at ge333_1; rw [hvc_] at ul333_1; have HL333_1 := Aside0.mk (show Kd.V (Kd.int .i64) 3 _ w.heap.size _ _ ((rd_T35 l1 x10_3).f1) from Kd.V_mk ul333_1 ge333_1); clear hva_ hvn_ hvc_ ge333_1 ul333_1; clear hcc333 hce333; have HR333_1 := Aside0.mk hi333_1; have HC333_1 := Aside0.mk hl333_1; clear hi333_1 hl333_1; replace p333 := eq_true p333; replace q333 := eq_true q333; have ea_ := Option.some.inj (hx330_1.symm.trans hx333_1); injection ea_ with ea_ en_ ec_; subst ea_; subst ec_; clear en_) | ((with_reducible refine gate_builtin (b := .append) (xs := #[.tmp 87, .tmp 92]) rfl ?_); (try (refine gate_guard (by rfl) ?_; dsimp only)); at_builtin; refine Kd.N_append k35 (w0 := w) w.heap.size rfl (.tmp 87) (.tmp 92) 22 35 (.agg #[(.string ⟨#[]⟩), (.slice none 0 0)]) 40 rfl Try.underlying22 info35 rfl (by decide) (by omega) u9 x9_3 (⟨(rd_T35 l1 x10_3).f0, (rd_T35 l1 x10_3).f1⟩ : S35) [.string ((rd_T35 l1 x10_3).f0), .slice A330_1 ((rd_T35 l1 x10_3).f1).length c330_1] (fun k_ => (P1_ k_ ∨ w.heap.size ≤ k_)) (fun k_ => ((fun k_ => (P1_ k_ ∨ w.heap.size ≤ k_))) k_ ∧ some k_ ≠ (u9 : Value).ownBlock) rfl rfl ?aP (fun _ hk => hk) ?aF ?aO ?aB ?aS ?aL ?_; (case aP => exact (k35_mkF _ _ (⟨(rd_T35 l1 x10_3).f0, (rd_T35 l1 x10_3).f1⟩ : S35) (Kd.V_reads' (Kd.V_mono (ok' := (fun k_ => ((fun k_ => (P1_ k_ ∨ w.heap.size ≤ k_))) k_ ∧ some k_ ≠ (u9 : Value).ownBlock)) (HL333_1.out) (fun k_ hk => ⟨hk.1, hk.2⟩))).2.1 (by first | exact Kd.V_F (Kd.V_mono (ok' := (fun k_ => ((fun k_ => (P1_ k_ ∨ w.heap.size ≤ k_))) k_ ∧ some k_ ≠ (u9 : Value).ownBlock)) (HL333_1.out) (fun k_ hk => ⟨hk.1, hk.2⟩)) | exact Kd.V_F (Kd.V_mono (ok' := (fun k_ => ((fun k_ => (P1_ k_ ∨ w.heap.size ≤ k_))) k_ ∧ some k_ ≠ (u9 : Value).ownBlock)) (Kd.V_drewN HL333_1.out _) (fun k_ hk => ⟨hk.1, hk.2⟩)) | exact Kd.V_F (Kd.V_mono (ok' := (fun k_ => ((fun k_ => (P1_ k_ ∨ w.heap.size ≤ k_))) k_ ∧ some k_ ≠ (u9 : Value).ownBlock)) (Kd.V_drew HL333_1.out) (fun k_ hk => ⟨hk.1, hk.2⟩)) | exact Kd.V_F (Kd.V_mono (ok' := (fun k_ => ((fun k_ => (P1_ k_ ∨ w.heap.size ≤ k_))) k_ ∧ some k_ ≠ (u9 : Value).ownBlock)) (Kd.V_alloc HL333_1.out _) (fun k_ hk => ⟨hk.1, hk.2⟩))))); (case aB => exact (by repeat (first | (with_reducible first | exact HB.out | apply below_alloc | apply pw_below_drewN | apply below_drew1) | exact HB.out))); (case aF => exact (fun k_ hk => (.inr (Nat.le_trans (below_size (by repeat (first | (with_reducible first | exact HB.out | apply below_alloc | apply pw_below_drewN | apply below_drew1) | exact HB.out))) hk)))); (case aO => exact (by (with_reducible repeat (first | apply Kd.N_alloc | apply Kd.N_drewN | apply Kd.N_drew)); exact HO_9.out)); (case aS => exact (below_size (by repeat (first | (with_reducible first | exact HB.out | apply below_alloc | apply pw_below_drewN | apply below_drew1) | exact HB.out)))); (case aL => have := LMc20.out; omega); intro v335 w21 ho hb hg hat; rw [← Ny334.out] at ho; have n0_ := Aside0.mk (Kd.V_afterv (ok := (fun k_ => (P1_ k_ ∨ w.heap.size ≤ k_))) (by (with_reducible repeat (first | apply Kd.V_alloc | apply Kd.V_drewN | apply Kd.V_drew)); exact HO_1.out) hg hat); have n1_ := Aside0.mk (Kd.V_afterv (ok := (fun k_ => (P1_ k_ ∨ w.heap.size ≤ k_))) (by (with_reducible repeat (first | apply Kd.V_alloc | apply Kd.V_drewN | apply Kd.V_drew)); exact HL330_1.out) hg hat); have n2_ := Aside0.mk (Kd.V_afterv (ok := (fun k_ => (P1_ k_ ∨ w.heap.size ≤ k_))) (by (with_reducible repeat (first | apply Kd.V_alloc | apply Kd.V_drewN | apply Kd.V_drew)); exact HL333_1.out) hg hat); have n3_ := Aside0.mk (hb); have n4_ := Aside0.mk (ho); clear HO_1; clear HL330_1; clear HL333_1; clear HB; clear HO_9; have HO_1 := n0_; have HL330_1 := n1_; have HL333_1 := n2_; have HB := n3_; have HO336 := n4_; clear n0_ n1_ n2_ n3_ n4_; clear ho hb hg hat))
                          go_roundg k3
                          case measure => have := HJ2.out; have := HK2.out; have := HK3.out; omega
                          case rel => exact ⟨(wrap64 (x0_3 - t331)), (y334), (wrap64 (x10_3 + 1)), (by first | rfl | (simp; done) | (simp [*]; done)), (by first | rfl | (simp; done) | (simp [*]; done)), H', ⟨by have := HJ2.out; have := HK2.out; have := HK3.out; omega⟩, ⟨by (with_reducible repeat (first | apply Kd.V_alloc | apply Kd.V_drewN | apply Kd.V_drew)); exact HO_1.out⟩, ⟨by (with_reducible repeat (first | apply Kd.N_alloc | apply Kd.N_drewN | apply Kd.N_drew)); exact HO336.out⟩, ⟨by repeat (first | (with_reducible first | exact HB.out | apply below_alloc | apply pw_below_drewN | apply below_drew1) | exact HB.out)⟩⟩
                        · rw [if_neg c20] at H
                          exact absurd H (by simp)
                      · rw [if_neg c19] at H
                        have c19b0 : decide (t331 ≤ x0_3) = false := decide_eq_false c19
                        clear c19
                        replace H := Option.bind_eq_some_iff.mp H
                        obtain ⟨⟨t338, t339⟩, A220, H⟩ := H
                        replace H : (if x9_3.length < 3518437208883 then (lombardref29_Fall.l2 k3 0 l1 (x9_3 ++ [(⟨(rd_T35 l1 x10_3).f0, t338⟩ : S35)]) (wrap64 (x10_3 + 1))) else (none)) = some (r1, r2, r3) := H
                        have A22 := Aside0.mk A220
                        clear A220
                        by_cases c23 : x9_3.length < 3518437208883
                        · rw [if_pos c23] at H
                          have LMc23 := Aside0.mk c23
                          clear c23
                          obtain ⟨y343, hy343⟩ : ∃ y_ : List (S35), y_ = (x9_3 ++ [(⟨(rd_T35 l1 x10_3).f0, t338⟩ : S35)]) := ⟨_, rfl⟩
                          replace H : (lombardref29_Fall.l2 k3 0 l1 y343 (wrap64 (x10_3 + 1))) = some (r1, r2, r3) := by first | (rw [hy343]; with_reducible exact H) | (have H2_ := (Option.bind_some _ _).symm.trans H; rw [hy343]; with_reducible exact H2_) | (have H2_ := (Option.bind_some _ _).symm.trans H; with_reducible exact H2_) | with_reducible exact H | (rw [hy343]; exact H) | exact H
                          have Ny343 := Aside0.mk hy343
                          clear hy343
                          have H' := Aside0.mk H
                          clear H
                          have p330 : 0 ≤ (x10_3 : Int) := of_decide_eq_true (by first | (with_reducible assumption) | assumption)
                          have q330 : x10_3 < (l1.length : Int) := of_decide_eq_true (by first | (with_reducible assumption) | assumption)
                          obtain ⟨ad330, A330_1, c330_1, e330, hx330_0, hx330_1, hl330_1, hi330_1⟩ := at_T35 (Kd.V_reads' HO_1.out).2.2 x10_3 p330 q330
                          cases e330
                          obtain ⟨ce330, hce330, hMe330, hcc330⟩ := Kd.V_get HO_1.out z35 x10_3 p330 (by first | exact q330 | exact of_decide_eq_true (by first | (with_reducible assumption) | assumption) | (have e_ := (Kd.V_reads' HO_1.out).1; omega))
                          obtain ⟨ua330_1, uc330_1, rfl, ul330_1, ge330_1⟩ := k35_openF hMe330
                          have hv330_1 := hcc330 1 _ rfl
                          rw [add_field _ _ 1 (by omega)] at hv330_1
                          replace hv330_1 := Option.some.inj (hv330_1.symm.trans hx330_1)
                          injection hv330_1 with hva_ hvn_ hvc_
                          rw [hva_] at ge330_1
                          rw [hvc_] at ul330_1
                          have HL330_1 := Aside0.mk (show Kd.V (Kd.int .i64) 3 _ w.heap.size _ _ ((rd_T35 l1 x10_3).f1) from Kd.V_mk ul330_1 ge330_1)
                          clear hva_ hvn_ hvc_ ge330_1 ul330_1
                          clear hcc330 hce330
                          have HR330_1 := Aside0.mk hi330_1
                          have HC330_1 := Aside0.mk hl330_1
                          clear hi330_1 hl330_1
                          replace p330 := eq_true p330
                          replace q330 := eq_true q330
                          go_wp2_with (first | ((with_reducible refine gate_callee (f := 25) rfl ?_); refine goesL_ (some 81) rfl rfl Try.func25 (by kernel_rfl) rfl #[.slice A330_1 ((rd_T35 l1 x10_3).f1).length c330_1] rfl (by (try simp only [List.map_toArray, List.map_cons, List.map_nil]); first | done | rfl | (simp only [List.length_drop, List.length_take]; rfl)) ?_; (with_reducible refine (lombardref01_Sum.calls k3 _ _ ((rd_T35 l1 x10_3).f1) t331 t332 _ ?side1 ?side2 A18.out).mono ?_); (case side1 => repeat (first | exact (by repeat (first | (with_reducible exact HR330_1.out) | (with_reducible refine Kd.C_alloc ?_ _) | (with_reducible refine Kd.C_drewN ?_ _) | (with_reducible refine Kd.C_drew ?_) | exact HR330_1.out | exact (Kd.V_reads' HL330_1.out).2.2)) | (with_reducible refine Kd.C_alloc ?_ _) | (with_reducible refine Kd.C_drewN ?_ _) | (with_reducible refine Kd.C_drew ?_))); (case side2 => exact HC330_1.out); rintro e w' ⟨rfl, ⟨nd, rfl⟩⟩; refine ⟨_, rfl, ?_⟩; have p337 : 0 ≤ (x10_3 : Int) := of_decide_eq_true (by first | (with_reducible assumption) | assumption); have q337 : x10_3 < (l1.length : Int) := of_decide_eq_true (by first | (with_reducible assumption) | assumption); obtain ⟨ad337, A337_1, c337_1, e337, hx337_0, hx337_1, hl337_1, hi337_1⟩ := at_T35 (Kd.V_reads' HO_1.out).2.2 x10_3 p337 q337; obtain rfl : ad330 = ad337 := (by injection e337); obtain ⟨ce337, hce337, hMe337, hcc337⟩ := Kd.V_get HO_1.out z35 x10_3 p337 (by first | exact q337 | exact of_decide_eq_true (by first | (with_reducible assumption) | assumption) | (have e_ := (Kd.V_reads' HO_1.out).1; omega)); obtain ⟨ua337_1, uc337_1, rfl, ul337_1, ge337_1⟩ := k35_openF hMe337; have hv337_1 := hcc337 1 _ rfl; rw [add_field _ _ 1 (by omega)] at hv337_1; replace hv337_1 := Option.some.inj (hv337_1.symm.trans hx337_1); injection hv337_1 with hva_ hvn_ hvc_; rw [hva_] at ge337_1; rw [hvc_] at ul337_1; have HL337_1 := Aside0.mk (show Kd.V (Kd.int .i64) 3 _ w.heap.size _ _ ((rd_T35 l1 x10_3).f1) from Kd.V_mk ul337_1 ge337_1); clear hva_ hvn_ hvc_ ge337_1 ul337_1; clear hcc337 hce337; have HR337_1 := Aside0.mk hi337_1; have HC337_1 := Aside0.mk hl337_1; clear hi337_1 hl337_1; replace p337 := eq_true p337; replace q337 := eq_true q337; have ea_ := Option.some.inj (hx330_1.symm.trans hx337_1); injection ea_ with ea_ en_ ec_; subst ea_; subst ec_; clear en_) | ((with_reducible refine gate_callee (f := 26) rfl ?_); refine goesL_ (some 104) rfl rfl Try.func26 (by kernel_rfl) rfl #[.int .i64 x0_3, .slice A330_1 ((rd_T35 l1 x10_3).f1).length c330_1] rfl (by (try simp only [List.map_toArray, List.map_cons, List.map_nil]); first | done | rfl | (simp only [List.length_drop, List.length_take]; rfl)) ?_; (with_reducible refine (lombardref01_Share.calls k3 x0_3 _ _ ((rd_T35 l1 x10_3).f1) t338 t339 _ ?side1 ?side2 A22.out).mono ?_); (case side1 => repeat (first | exact (by repeat (first | (with_reducible exact HR337_1.out) | (with_reducible refine Kd.C_alloc ?_ _) | (with_reducible refine Kd.C_drewN ?_ _) | (with_reducible refine Kd.C_drew ?_) | exact HR337_1.out | exact (Kd.V_reads' HL337_1.out).2.2)) | (with_reducible refine Kd.C_alloc ?_ _) | (with_reducible refine Kd.C_drewN ?_ _) | (with_reducible refine Kd.C_drew ?_))); (case side2 => exact HC337_1.out); rintro e w24 ⟨v340, rfl, ho0, hb⟩; refine ⟨_, rfl, ?_⟩; have n0_ := Aside0.mk (Kd.V_elder' (by (with_reducible repeat (first | apply Kd.V_alloc | apply Kd.V_drewN | apply Kd.V_drew)); exact HO_1.out) (Kd.R_base ho0) hb); have n1_ := Aside0.mk (Kd.N_elder' (by (with_reducible repeat (first | apply Kd.N_alloc | apply Kd.N_drewN | apply Kd.N_drew)); exact HO_9.out) (Kd.R_base ho0) hb); have n2_ := Aside0.mk (Kd.V_elder' (by (with_reducible repeat (first | apply Kd.V_alloc | apply Kd.V_drewN | apply Kd.V_drew)); exact HL330_1.out) (Kd.R_base ho0) hb); have n3_ := Aside0.mk (Kd.V_elder' (by (with_reducible repeat (first | apply Kd.V_alloc | apply Kd.V_drewN | apply Kd.V_drew)); exact HL337_1.out) (Kd.R_base ho0) hb); have n4_ := Aside0.mk (Kd.R_lower (Kd.R_newM (M := fun k_ => (w.heap.size ≤ k_)) ho0 (below_size (by repeat (first | (with_reducible first | exact HB.out | apply below_alloc | apply pw_below_drewN | apply below_drew1) | exact HB.out))) (fun k_ h_ => h_)) (below_size (by repeat (first | (with_reducible first | exact HB.out | apply below_alloc | apply pw_below_drewN | apply below_drew1) | exact HB.out)))); have n5_ := Aside0.mk (Kd.C_below (by repeat (first | (with_reducible exact HR330_1.out) | (with_reducible refine Kd.C_alloc ?_ _) | (with_reducible refine Kd.C_drewN ?_ _) | (with_reducible refine Kd.C_drew ?_) | exact HR330_1.out | exact (Kd.V_reads' HL330_1.out).2.2)) hb); have n6_ := Aside0.mk (Kd.C_below (by repeat (first | (with_reducible exact HR337_1.out) | (with_reducible refine Kd.C_alloc ?_ _) | (with_reducible refine Kd.C_drewN ?_ _) | (with_reducible refine Kd.C_drew ?_) | exact HR337_1.out | exact (Kd.V_reads' HL337_1.out).2.2)) hb); have n7_ := Aside0.mk (below_step (by repeat (first | (with_reducible first | exact HB.out | apply below_alloc | apply pw_below_drewN | apply below_drew1) | exact HB.out)) hb); clear HO_1; clear HO_9; clear HL330_1; clear HL337_1; clear HR330_1; clear HR337_1; clear HB; have HO_1 := n0_; have HO_9 := n1_; have HL330_1 := n2_; have HL337_1 := n3_; have HO341 := n4_; have HR330_1 := n5_; have HR337_1 := n6_; have HB := n7_; clear n0_ n1_ n2_ n3_ n4_ n5_ n6_ n7_; (try clear hb); (try clear hb2); (try clear hk); (try clear hi); (try clear ho0); have p342 : 0 ≤ (x10_3 : Int) := of_decide_eq_true (by first | (with_reducible assumption) | assumption); have q342 : x10_3 < (l1.length : Int) := of_decide_eq_true (by first | (with_reducible assumption) | assumption); obtain ⟨ad342, A342_1, c342_1, e342, hx342_0, hx342_1, hl342_1, hi342_1⟩ := at_T35 (Kd.V_reads' HO_1.out).2.2 x10_3 p342 q342; obtain rfl : ad330 = ad342 := (by injection e342); obtain ⟨ce342, hce342, hMe342, hcc342⟩ := Kd.V_get HO_1.out z35 x10_3 p342 (by first | exact q342 | exact of_decide_eq_true (by first | (with_reducible assumption) | assumption) | (have e_ := (Kd.V_reads' HO_1.out).1; omega)); obtain ⟨ua342_1, uc342_1, rfl, ul342_1, ge342_1⟩ := k35_openF hMe342; have hv342_1 := hcc342 1 _ rfl; rw [add_field _ _ 1 (by omega)] at hv342_1; replace hv342_1 := Option.some.inj (hv342_1.symm.trans hx342_1); injection hv342_1 with hva_ hvn_ hvc_; rw [hva_] at ge342_1; rw [hvc_] at ul342_1; have HL342_1 := Aside0.mk (show Kd.V (Kd.int .i64) 3 _ w.heap.size _ _ ((rd_T35 l1 x10_3).f1) from Kd.V_mk ul342_1 ge342_1); clear hva_ hvn_ hvc_ ge342_1 ul342_1; clear hcc342 hce342; have HR342_1 := Aside0.mk hi342_1; have HC342_1 := Aside0.mk hl342_1; clear hi342_1 hl342_1; replace p342 := eq_true p342; replace q342 := eq_true q342; obtain ⟨Ao25, co25, eo25⟩ := Kd.R_slice HO341.out; subst eo25) | ((with_reducible refine gate_builtin (b := .append) (xs := #[.tmp 107, .tmp 115]) rfl ?_); (try (refine gate_guard (by rfl) ?_; dsimp only)); at_builtin; refine Kd.N_append k35 (w0 := w) w.heap.size rfl (.tmp 107) (.tmp 115) 22 35 (.agg #[(.string ⟨#[]⟩), (.slice none 0 0)]) 40 rfl Try.underlying22 info35 rfl (by decide) (by omega) u9 x9_3 (⟨(rd_T35 l1 x10_3).f0, t338⟩ : S35) [.string ((rd_T35 l1 x10_3).f0), .slice Ao25 t338.length co25] (fun k_ => (P1_ k_ ∨ w.heap.size ≤ k_)) (fun k_ => ((fun k_ => (P1_ k_ ∨ w.heap.size ≤ k_))) k_ ∧ some k_ ≠ (u9 : Value).ownBlock) rfl rfl ?aP (fun _ hk => hk) ?aF ?aO ?aB ?aS ?aL ?_; (case aP => exact (k35_mkF _ _ (⟨(rd_T35 l1 x10_3).f0, t338⟩ : S35) (Kd.R_reads' (Kd.R_mono (ok' := (fun k_ => ((fun k_ => (P1_ k_ ∨ w.heap.size ≤ k_))) k_ ∧ some k_ ≠ (u9 : Value).ownBlock)) (Kd.R_apart' (HO341.out) (Kd.N_typed HO_9.out) (by decide)) (fun k_ hk => ⟨(.inr (hk.1.1)), hk.2⟩))).2.1 (Kd.R_F (Kd.R_mono (ok' := (fun k_ => ((fun k_ => (P1_ k_ ∨ w.heap.size ≤ k_))) k_ ∧ some k_ ≠ (u9 : Value).ownBlock)) (Kd.R_apart' (HO341.out) (Kd.N_typed HO_9.out) (by decide)) (fun k_ hk => ⟨(.inr (hk.1.1)), hk.2⟩))))); (case aB => exact (by repeat (first | (with_reducible first | exact HB.out | apply below_alloc | apply pw_below_drewN | apply below_drew1) | exact HB.out))); (case aF => exact (fun k_ hk => (.inr (Nat.le_trans (below_size (by repeat (first | (with_reducible first | exact HB.out | apply below_alloc | apply pw_below_drewN | apply below_drew1) | exact HB.out))) hk)))); (case aO => exact (by (with_reducible repeat (first | apply Kd.N_alloc | apply Kd.N_drewN | apply Kd.N_drew)); exact Kd.N_mono HO_9.out (fun _ hk => hk.1))); (case aS => exact (below_size (by repeat (first | (with_reducible first | exact HB.out | apply below_alloc | apply pw_below_drewN | apply below_drew1) | exact HB.out)))); (case aL => have := LMc23.out; omega); intro v344 w26 ho hb hg hat; rw [← Ny343.out] at ho; have n0_ := Aside0.mk (Kd.V_afterv (ok := (fun k_ => (P1_ k_ ∨ w.heap.size ≤ k_) ∧ some k_ ≠ (.slice Ao25 t338.length co25 : Value).ownBlock)) (by (with_reducible repeat (first | apply Kd.V_alloc | apply Kd.V_drewN | apply Kd.V_drew)); exact Kd.V_mono HO_1.out (fun _ hk => ⟨⟨hk.1.1, hk.2⟩, hk.1.2⟩)) hg hat); have n1_ := Aside0.mk (Kd.V_afterv (ok := (fun k_ => (P1_ k_ ∨ w.heap.size ≤ k_) ∧ some k_ ≠ (.slice Ao25 t338.length co25 : Value).ownBlock)) (by (with_reducible repeat (first | apply Kd.V_alloc | apply Kd.V_drewN | apply Kd.V_drew)); exact Kd.V_mono HL330_1.out (fun _ hk => ⟨⟨hk.1.1, hk.2⟩, hk.1.2⟩)) hg hat); have n2_ := Aside0.mk (Kd.V_afterv (ok := (fun k_ => (P1_ k_ ∨ w.heap.size ≤ k_) ∧ some k_ ≠ (.slice Ao25 t338.length co25 : Value).ownBlock)) (by (with_reducible repeat (first | apply Kd.V_alloc | apply Kd.V_drewN | apply Kd.V_drew)); exact Kd.V_mono HL337_1.out (fun _ hk => ⟨⟨hk.1.1, hk.2⟩, hk.1.2⟩)) hg hat); have n3_ := Aside0.mk (Kd.V_afterv (ok := (fun k_ => (P1_ k_ ∨ w.heap.size ≤ k_) ∧ some k_ ≠ (.slice Ao25 t338.length co25 : Value).ownBlock)) (by (with_reducible repeat (first | apply Kd.V_alloc | apply Kd.V_drewN | apply Kd.V_drew)); exact Kd.V_mono HL342_1.out (fun _ hk => ⟨⟨hk.1.1, hk.2⟩, hk.1.2⟩)) hg hat); have n4_ := Aside0.mk (hb); have n5_ := Aside0.mk (ho); clear HO_1; clear HL330_1; clear HL337_1; clear HL342_1; clear HB; clear HO_9; clear HO341; have HO_1 := n0_; have HL330_1 := n1_; have HL337_1 := n2_; have HL342_1 := n3_; have HB := n4_; have HO345 := n5_; clear n0_ n1_ n2_ n3_ n4_ n5_; clear ho hb hg hat))
                          go_roundg k3
                          case measure => have := HJ2.out; have := HK2.out; have := HK3.out; omega
                          case rel => exact ⟨(0), (y343), (wrap64 (x10_3 + 1)), (by first | rfl | (simp; done) | (simp [*]; done)), (by first | rfl | (simp; done) | (simp [*]; done)), H', ⟨by have := HJ2.out; have := HK2.out; have := HK3.out; omega⟩, ⟨by (with_reducible repeat (first | apply Kd.V_alloc | apply Kd.V_drewN | apply Kd.V_drew)); exact Kd.V_mono HO_1.out (fun _ hk => ⟨hk.1.1, hk.2⟩)⟩, ⟨by (with_reducible repeat (first | apply Kd.N_alloc | apply Kd.N_drewN | apply Kd.N_drew)); exact HO345.out⟩, ⟨by repeat (first | (with_reducible first | exact HB.out | apply below_alloc | apply pw_below_drewN | apply below_drew1) | exact HB.out)⟩⟩
                        · rw [if_neg c23] at H
                          exact absurd H (by simp)
                    · rw [if_neg c17] at H
                      exact absurd H (by simp)
                  · rw [if_neg c16] at H
                    have c16b0 : decide (x10_3 < (l1.length : Int)) = false := decide_eq_false c16
                    clear c16
                    simp only [Option.some.injEq, Prod.mk.injEq] at H
                    obtain ⟨rfl, rfl, rfl⟩ := H
                    go_wp2
                    go_ret3
                    exact ⟨_, by first | rfl | (simp [errW_none, errW_some] <;> rfl) | (simp [*, errW_none, errW_some] <;> rfl), by (with_reducible repeat (first | apply Kd.N_alloc | apply Kd.N_drewN | apply Kd.N_drew)); exact HO_9.out, by repeat (first | (with_reducible first | exact HB.out | apply below_alloc | apply pw_below_drewN | apply below_drew1) | exact HB.out)⟩
end Go.Proofs.Ytlbhjkbjokiioaa.X
