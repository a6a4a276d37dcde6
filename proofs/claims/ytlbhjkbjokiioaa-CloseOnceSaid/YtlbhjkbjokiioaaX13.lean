-- a shortened text: what this claim does not name is left out (wip/xprint/prune.py of this repo)
import Derived.Test.YtlbhjkbjokiioaaXMin
import Derived.Test.YtlbhjkbjokiioaaX0
namespace Go.Proofs.Ytlbhjkbjokiioaa.X
open Go.RowKit Go.Proofs.YtlbhjkbjokiioaaW.PrintWords Go.Proofs.YtlbhjkbjokiioaaW.PrintLast Go.Proofs.YtlbhjkbjokiioaaW.PrintMore
attribute [local go_sem] max2_int min2_int max_two min_two max_three min_three max_four min_four
set_option linter.unusedVariables false
set_option linter.unusedSimpArgs false
def q7q.l0 : Nat → List Int → Int → Option (List Int)
 | 0, _, _ => none
 | k + 1, x0, x3 => if x3 > 0 then (if 0 ≤ (wrap64 (x3 - 1)) then (if (wrap64 (x3 - 1)) < (x0.length : Int) then (if (rd x0 (wrap64 (x3 - 1))) = 0 then (q7q.l0 k x0 (wrap64 (x3 - 1))) else (if 0 ≤ x3 then (if x3 ≤ (x0.length : Int) then (some (x0.take (x3 : Int).toNat)) else (none)) else (none))) else (none)) else (none)) else (if 0 ≤ x3 then (if x3 ≤ (x0.length : Int) then (some (x0.take (x3 : Int).toNat)) else (none)) else (none))
def q7q.f (k : Nat) (l0 : List Int) : Option (List Int) := q7q.l0 k l0 (l0.length : Int)
theorem q7q.mono_l : ∀ k, (∀ y0 y1, LeO (q7q.l0 k y0 y1) (q7q.l0 (k + 1) y0 y1))
 | 0 => fun _ _ r h => by simp [q7q.l0] at h
 | k + 1 => by
  have ih0 := q7q.mono_l k
  · intro y0 y1
    unfold q7q.l0
    repeat' first
    | (with_reducible exact ih0 _ _)
    | (with_reducible exact LeO.refl _)
    | (with_reducible exact LeO.none _)
    | (with_reducible refine LeO.ite ?_ ?_)
    | (with_reducible refine LeO.bind ?_ (fun _ => ?_))
    | exact ih0 _ _
    | exact LeO.none _
    | refine LeO.ite ?_ ?_
    | refine LeO.bind ?_ (fun _ => ?_)
theorem q7q.mono : ∀ a0 k, LeO (q7q.f k a0) (q7q.f (k + 1) a0) := by
 intro a0 k
 have ih0 := q7q.mono_l k
 unfold q7q.f
 repeat' first
  | (with_reducible exact ih0 _ _)
  | (with_reducible exact LeO.refl _)
  | (with_reducible exact LeO.none _)
  | (with_reducible refine LeO.ite ?_ ?_)
  | (with_reducible refine LeO.bind ?_ (fun _ => ?_))
  | exact ih0 _ _
  | exact LeO.none _
  | refine LeO.ite ?_ ?_
  | refine LeO.bind ?_ (fun _ => ?_)
set_option maxHeartbeats 8000000 in
set_option maxRecDepth 100000 in
theorem q7q.calls (k : Nat) (P0_ : Nat → Prop) (u9000_ : Value) (l0 : List Int) (r : List Int) (w0 w : World) (hB : Below w0.heap.size w0 w) (ho0 : Kd.R (Kd.int .u64) 93 w w0.heap.size P0_ u9000_ l0) (h : q7q.f k l0 = some r) :
 Calls Try.prog 51 #[u9000_] w fun e w' => ∃ v0_ : Value, e = .returned (v0_) ∧ Kd.R (Kd.int .u64) 93 w' w0.heap.size (fun k_ => (P0_ k_ ∨ w.heap.size ≤ k_)) v0_ r ∧ Below w0.heap.size w0 w' ∧ Kept w w' (fun k_ => P0_ k_) := by
 have HO0 := aK (show Kd.R (Kd.int .u64) 93 w w0.heap.size (fun k_ => (P0_ k_ ∨ w.heap.size ≤ k_)) u9000_ l0 from Kd.R_mono ho0 (fun k_ hk => (.inl hk)))
 have HK := aK (Kept.refl w (fun k_ => P0_ k_))
 have HW0 := Aside0.mk hB.size
 have HB := Aside0.mk hB; clear hB
 have H : (q7q.l0 k l0 (l0.length : Int)) = some r := h
 clear h
 have H' := Aside0.mk H
 clear H
 obtain ⟨Ao2, co2, eo2⟩ := Kd.R_slice HO0.out
 subst eo2
 go_enter Try.func51, Try.ntmps51
 go_wp2
 go_loopg [3] k (fun kq v3 w' => ∃ (x3_1 : Int), v3 = .int .i64 x3_1 ∧ Aside0 (q7q.l0 kq l0 x3_1 = some r) ∧ Aside0 (kq ≤ k) ∧ Aside0 (Kd.R (Kd.int .u64) 93 w' w0.heap.size (fun k_ => (P0_ k_ ∨ w.heap.size ≤ k_)) (.slice Ao2 l0.length co2) l0) ∧ Aside0 (Kept w w' (fun k_ => P0_ k_)) ∧ Aside0 (Below w0.heap.size w0 w'))
 case atStart => exact ⟨((l0.length : Int)), ac, H', ⟨Nat.le_refl _⟩, ⟨gR HO0⟩, ⟨gP HK⟩, ⟨gB HB⟩⟩
 case round =>
  clear H'
  obtain ⟨x3_1, rfl, HA, HK1, HO_0, HK, HB⟩ := hrel
  cases gk with
  | zero => exact absurd HA.out (by simp [q7q.l0])
  | succ k1 =>
   have H := HA.out
   clear HA
   simp only [q7q.l0] at H
   by_cases c3 : x3_1 > 0
   · rw [if_pos c3] at H
     have c3b0 : decide (0 < x3_1) = true := decide_eq_true c3
     clear c3
     obtain ⟨ji4, hji4⟩ : ∃ j_ : Int, (wrap64 (x3_1 - 1)) = j_ := ⟨_, rfl⟩
     replace H : (if 0 ≤ (ji4) then (if (ji4) < (l0.length : Int) then (if (rd l0 (ji4)) = 0 then (q7q.l0 k1 l0 ji4) else (if 0 ≤ x3_1 then (if x3_1 ≤ (l0.length : Int) then (some (l0.take (x3_1 : Int).toNat)) else (none)) else (none))) else (none)) else (none)) = some r := by first | (rw [hji4] at H; exact H) | (simp only [hji4] at H ⊢; exact H)
     have hji4w : (IntKind.i64.wrap (x3_1 - 1)) = ji4 := (i64_w _).trans hji4
     by_cases c5 : 0 ≤ (ji4)
     · rw [if_pos c5] at H
       have c5b0 := dT c5
       clear c5
       by_cases c6 : (ji4) < (l0.length : Int)
       · rw [if_pos c6] at H
         have c6b0 := dT c6
         clear c6
         by_cases c7 : (rd l0 (ji4)) = 0
         · rw [if_pos c7] at H
           have c7b0 : ((rd l0 (ji4)) == 0) = true := beq_iff_eq.mpr c7
           have c7b1 : ((rd l0 (ji4)) != 0) = false := bne_eq_false_iff_eq.mpr c7
           clear c7
           have H' := Aside0.mk H
           clear H
           obtain ⟨⟨p345, q345⟩, ad345, rfl, hx345_0⟩ := za (Kd.at_int (Kd.R_reads' HO_0.out).2.2) (ji4)
           go_wp2
           go_roundg k1
           case measure => have := HK1.out; omega
           case rel => exact ⟨(ji4), (by first | rfl | (simp; done) | (simp only [← hji4] <;> (first | rfl | simp)) | (simp [*]; done)), H', ⟨by have := HK1.out; omega⟩, ⟨gR HO_0⟩, ⟨gP HK⟩, ⟨gB HB⟩⟩
         · rw [if_neg c7] at H
           have c7b0 : ((rd l0 (ji4)) == 0) = false := beq_eq_false_iff_ne.mpr c7
           have c7b1 : ((rd l0 (ji4)) != 0) = true := bne_iff_ne.mpr c7
           by_cases c8 : 0 ≤ x3_1
           · rw [if_pos c8] at H
             have c8b0 := eq_true c8
             have c8b1 : decide (0 ≤ x3_1) = true := decide_eq_true c8
             clear c8
             by_cases c9 : x3_1 ≤ (l0.length : Int)
             · rw [if_pos c9] at H
               have c9b0 := eq_true c9
               have c9b1 : decide (x3_1 ≤ (l0.length : Int)) = true := decide_eq_true c9
               clear c9
               obtain ⟨y346, hy_⟩ : ∃ y_ : List Int, y_ = (l0.take (x3_1 : Int).toNat) := ⟨_, rfl⟩
               replace H : (some y346) = some r := h2
               have Ny346 := Aside0.mk hy_; clear hy_
               obtain rfl := Option.some.inj H
               obtain ⟨⟨p345, q345⟩, ad345, rfl, hx345_0⟩ := za (Kd.at_int (Kd.R_reads' HO_0.out).2.2) (ji4)
               have q10 : (x3_1 : Int) ≤ ((l0.length : Int) : Int) := od
               obtain ⟨i010, hi010, _, hsz10, _⟩ := info_parts info93
               have hcut10 := cut_to (P := Try.prog) 87 93 .i64 Try.underlying87 hi010 (some ad345) l0.length co2 x3_1 (od) q10 (Kd.R_reads' HO_0.out).2.1
               have hr10 := Kd.R_take (m := (x3_1 : Int).toNat) HO_0.out (by omega)
               have hy_ : y346.length = (x3_1 : Int).toNat := (by rw [Ny346.out, List.length_take]; omega)
               rw [← Ny346.out] at hr10
               rw [← hy_] at hr10 hcut10
               clear hy_ hi010 hsz10 HO_0; have HO348 := Aside0.mk hr10; clear hr10; replace q10 := eq_true q10
               go_wp2
               go_ret
               exact ⟨_, by first | rfl | (simp [errW_none, errW_some] <;> rfl) | (simp only [← hji4]; first | rfl | (simp [errW_none, errW_some] <;> rfl)) | (simp [*, errW_none, errW_some] <;> rfl), gR HO348, gB HB, gP HK⟩
             · rw [if_neg c9] at H
               exact absurd H (by simp)
           · rw [if_neg c8] at H
             exact absurd H (by simp)
       · rw [if_neg c6] at H
         exact absurd H (by simp)
     · rw [if_neg c5] at H
       exact absurd H (by simp)
   · rw [if_neg c3] at H
     have c3b0 : decide (0 < x3_1) = false := decide_eq_false c3
     clear c3
     by_cases c11 : 0 ≤ x3_1
     · rw [if_pos c11] at H
       have c11b0 := eq_true c11
       have c11b1 : decide (0 ≤ x3_1) = true := decide_eq_true c11
       clear c11
       by_cases c12 : x3_1 ≤ (l0.length : Int)
       · rw [if_pos c12] at H
         have c12b0 := eq_true c12
         have c12b1 : decide (x3_1 ≤ (l0.length : Int)) = true := decide_eq_true c12
         clear c12
         obtain ⟨y349, hy_⟩ : ∃ y_ : List Int, y_ = (l0.take (x3_1 : Int).toNat) := ⟨_, rfl⟩
         replace H : (some y349) = some r := h2
         have Ny349 := Aside0.mk hy_; clear hy_
         obtain rfl := Option.some.inj H
         have q13 : (x3_1 : Int) ≤ ((l0.length : Int) : Int) := od
         obtain ⟨i013, hi013, _, hsz13, _⟩ := info_parts info93
         have hcut13 := cut_to (P := Try.prog) 87 93 .i64 Try.underlying87 hi013 Ao2 l0.length co2 x3_1 (od) q13 (Kd.R_reads' HO_0.out).2.1
         have hr13 := Kd.R_take (m := (x3_1 : Int).toNat) HO_0.out (by omega)
         have hy_ : y349.length = (x3_1 : Int).toNat := (by rw [Ny349.out, List.length_take]; omega)
         rw [← Ny349.out] at hr13
         rw [← hy_] at hr13 hcut13
         clear hy_ hi013 hsz13 HO_0; have HO351 := Aside0.mk hr13; clear hr13; replace q13 := eq_true q13
         go_wp2
         go_ret
         exact ⟨_, by first | rfl | (simp [errW_none, errW_some] <;> rfl) | (simp [*, errW_none, errW_some] <;> rfl), gR HO351, gB HB, gP HK⟩
       · rw [if_neg c12] at H
         exact absurd H (by simp)
     · rw [if_neg c11] at H
       exact absurd H (by simp)
mutual
def q4q.l0 : Nat → List Int → List Int → List Int → Int → Option (List Int)
 | 0, _, _, _, _ => none
 | k + 1, x0, x1, x5, x6 => if x6 < (x0.length : Int) then (q4q.l1 k x0 x1 x5 x6 0 0) else ((q7q.f k x5).bind fun t355 => (some t355))
def q4q.l1 : Nat → List Int → List Int → List Int → Int → Int → Int → Option (List Int)
 | 0, _, _, _, _, _, _ => none
 | k + 1, x0, x1, x5, x6, x7, x8 => if x8 < (x1.length : Int) then (q4q.j2 k x0 x1 x5 x6 x7 x8 true) else (q4q.j2 k x0 x1 x5 x6 x7 x8 (decide (x7 > 0)))
def q4q.j2 : Nat → List Int → List Int → List Int → Int → Int → Int → Bool → Option (List Int)
 | 0, _, _, _, _, _, _, _ => none
 | k + 1, x0, x1, x5, x6, x7, x8, x30 => if x30 = true then (if 0 ≤ (wrap64 (x6 + x8)) then (if (wrap64 (x6 + x8)) < (x5.length : Int) then (if x8 < (x1.length : Int) then (if 0 ≤ x6 then (if x6 < (x0.length : Int) then (if 0 ≤ x8 then (q4q.l1 k x0 x1 (x5.set ((wrap64 (x6 + x8)) : Int).toNat (Int.tmod (IntKind.u64.wrap ((IntKind.u64.wrap ((rd x5 (wrap64 (x6 + x8))) + x7)) + (IntKind.u64.wrap ((rd x0 x6) * (rd x1 x8))))) 65536)) x6 (IntKind.u64.wrap (Int.tdiv (IntKind.u64.wrap ((IntKind.u64.wrap ((rd x5 (wrap64 (x6 + x8))) + x7)) + (IntKind.u64.wrap ((rd x0 x6) * (rd x1 x8))))) 65536)) (wrap64 (x8 + 1))) else (none)) else (none)) else (none)) else (q4q.l1 k x0 x1 (x5.set ((wrap64 (x6 + x8)) : Int).toNat (Int.tmod (IntKind.u64.wrap ((rd x5 (wrap64 (x6 + x8))) + x7)) 65536)) x6 (IntKind.u64.wrap (Int.tdiv (IntKind.u64.wrap ((rd x5 (wrap64 (x6 + x8))) + x7)) 65536)) (wrap64 (x8 + 1)))) else (none)) else (none)) else (q4q.l0 k x0 x1 x5 (wrap64 (x6 + 1)))
end
def q4q.f (k : Nat) (l0 : List Int) (l1 : List Int) : Option (List Int) := if 0 ≤ (wrap64 ((wrap64 ((l0.length : Int) + (l1.length : Int))) + 1)) then (if (wrap64 ((wrap64 ((l0.length : Int) + (l1.length : Int))) + 1) : Int).toNat ≤ 35184372088832 then (q4q.l0 k l0 l1 (List.replicate (wrap64 ((wrap64 ((l0.length : Int) + (l1.length : Int))) + 1) : Int).toNat 0) 0) else (none)) else (none)
theorem q4q.mono_l : ∀ k, (∀ y0 y1 y2 y3, LeO (q4q.l0 k y0 y1 y2 y3) (q4q.l0 (k + 1) y0 y1 y2 y3)) ∧ (∀ y0 y1 y2 y3 y4 y5, LeO (q4q.l1 k y0 y1 y2 y3 y4 y5) (q4q.l1 (k + 1) y0 y1 y2 y3 y4 y5)) ∧ (∀ y0 y1 y2 y3 y4 y5 y6, LeO (q4q.j2 k y0 y1 y2 y3 y4 y5 y6) (q4q.j2 (k + 1) y0 y1 y2 y3 y4 y5 y6))
 | 0 => ⟨fun _ _ _ _ r h => by simp [q4q.l0] at h, fun _ _ _ _ _ _ r h => by simp [q4q.l1] at h, fun _ _ _ _ _ _ _ r h => by simp [q4q.j2] at h⟩
 | k + 1 => by
  obtain ⟨ih0, ih1, ih2⟩ := q4q.mono_l k
  refine ⟨?_, ?_, ?_⟩
  intro y0 y1 y2 y3; unfold q4q.l0; rotate_left
  intro y0 y1 y2 y3 y4 y5; unfold q4q.l1; rotate_left
  intro y0 y1 y2 y3 y4 y5 y6; unfold q4q.j2; rotate_left
  all_goals repeat' first
  | (with_reducible exact ih0 _ _ _ _)
  | (with_reducible exact ih1 _ _ _ _ _ _)
  | (with_reducible exact ih2 _ _ _ _ _ _ _)
  | (with_reducible exact q7q.mono _ _)
  | (with_reducible exact LeO.refl _)
  | (with_reducible exact LeO.none _)
  | (with_reducible refine LeO.ite ?_ ?_)
  | (with_reducible refine LeO.bind ?_ (fun _ => ?_))
  | exact ih0 _ _ _ _
  | exact ih1 _ _ _ _ _ _
  | exact ih2 _ _ _ _ _ _ _
  | exact q7q.mono _ _
  | exact LeO.none _
  | refine LeO.ite ?_ ?_
  | refine LeO.bind ?_ (fun _ => ?_)
theorem q4q.mono : ∀ a0 a1 k, LeO (q4q.f k a0 a1) (q4q.f (k + 1) a0 a1) := by
 intro a0 a1 k
 obtain ⟨ih0, ih1, ih2⟩ := q4q.mono_l k
 unfold q4q.f
 repeat' first
  | (with_reducible exact ih0 _ _ _ _)
  | (with_reducible exact ih1 _ _ _ _ _ _)
  | (with_reducible exact ih2 _ _ _ _ _ _ _)
  | (with_reducible exact q7q.mono _ _)
  | (with_reducible exact LeO.refl _)
  | (with_reducible exact LeO.none _)
  | (with_reducible refine LeO.ite ?_ ?_)
  | (with_reducible refine LeO.bind ?_ (fun _ => ?_))
  | exact ih0 _ _ _ _
  | exact ih1 _ _ _ _ _ _
  | exact ih2 _ _ _ _ _ _ _
  | exact q7q.mono _ _
  | exact LeO.none _
  | refine LeO.ite ?_ ?_
  | refine LeO.bind ?_ (fun _ => ?_)
set_option maxHeartbeats 8000000 in
set_option maxRecDepth 100000 in
theorem q4q.calls (k : Nat) (A0 : Option Addr) (c0 : Nat) (l0 : List Int) (A1 : Option Addr) (c1 : Nat) (l1 : List Int) (r : List Int) (w : World) (hr0 : Kd.C (Kd.int .u64) w A0 l0.length l0) (hc0 : l0.length ≤ c0) (hr1 : Kd.C (Kd.int .u64) w A1 l1.length l1) (hc1 : l1.length ≤ c1) (h : q4q.f k l0 l1 = some r) :
 Calls Try.prog 41 #[.slice A0 l0.length c0, .slice A1 l1.length c1] w fun e w' => ∃ v0_ : Value, e = .returned (v0_) ∧ Kd.R (Kd.int .u64) 93 w' w.heap.size (fun _ => True) v0_ r ∧ Below w.heap.size w w' := by
 have HR0 := Aside0.mk hr0; have HC0 := Aside0.mk hc0; clear hr0 hc0; have HR1 := Aside0.mk hr1; have HC1 := Aside0.mk hc1; clear hr1 hc1
 have HB := aK (Below.refl w.heap.size w)
 have H : (if 0 ≤ (wrap64 ((wrap64 ((l0.length : Int) + (l1.length : Int))) + 1)) then (if (wrap64 ((wrap64 ((l0.length : Int) + (l1.length : Int))) + 1) : Int).toNat ≤ 35184372088832 then (q4q.l0 k l0 l1 (List.replicate (wrap64 ((wrap64 ((l0.length : Int) + (l1.length : Int))) + 1) : Int).toNat 0) 0) else (none)) else (none)) = some r := h
 clear h
 obtain ⟨ji3, hji3⟩ : ∃ j_ : Int, (wrap64 ((wrap64 ((l0.length : Int) + (l1.length : Int))) + 1)) = j_ := ⟨_, rfl⟩
 replace H : (if 0 ≤ (ji3) then (if (ji3 : Int).toNat ≤ 35184372088832 then (q4q.l0 k l0 l1 (List.replicate (ji3 : Int).toNat 0) 0) else (none)) else (none)) = some r := by first | (rw [hji3] at H; exact H) | (simp only [hji3] at H ⊢; exact H)
 have hji3w : (IntKind.i64.wrap ((wrap64 ((l0.length : Int) + (l1.length : Int))) + 1)) = ji3 := (i64_w _).trans hji3
 by_cases c4 : 0 ≤ (ji3)
 · rw [if_pos c4] at H
   have c4b0 := eq_true c4
   have c4b1 : decide (0 ≤ (ji3)) = true := decide_eq_true c4
   clear c4
   by_cases c5 : (ji3 : Int).toNat ≤ 35184372088832
   · rw [if_pos c5] at H
     have c5b0 := eq_true c5
     have c5b1 : decide ((ji3 : Int).toNat ≤ 35184372088832) = true := decide_eq_true c5
     clear c5
     obtain ⟨y352, hy_⟩ : ∃ y_ : List Int, y_ = (List.replicate (ji3 : Int).toNat 0) := ⟨_, rfl⟩
     replace H : (q4q.l0 k l0 l1 y352 0) = some r := h2
     have Ny352 := Aside0.mk hy_; clear hy_
     have H' := Aside0.mk H
     clear H
     go_enter Try.func41, Try.ntmps41
     go_wp2_with (first | ((with_reducible refine gate_dst (N := 16) rfl ?_); refine Kd.R_make (Kd.int .u64) _ 93 rfl (N := 16) rfl 87 _ _ rfl ji3 rfl rfl Try.underlying87 (.int .u64 0) 8 info93 rfl (by decide) (by omega) 0 (ok := fun _ => True) (okp := fun _ => True) rfl (fun _ hk => hk) trivial (od) (Nat.le_trans (Nat.mul_le_mul_right _ (od : ji3.toNat ≤ 35184372088832)) (by omega)) (Below.refl _ _) (Nat.le_refl _) ?_; intro v353 w6 ho7 hb hg_ hnew_; clear hg_ hnew_; (first | rw [← Ny352.out] at ho7 | (simp only [Int.reduceToNat] at ho7; rw [← Ny352.out] at ho7)); have HO354 := aK (Kd.R_lower ho7 (below_size (gB HB))); replace HB := aK (below_step (gB HB) hb); clear hb ho7))
     repeat (go_quiet (fail); try go_wp2_with (first | ((with_reducible refine gate_dst (N := 16) rfl ?_); refine Kd.R_make (Kd.int .u64) _ 93 rfl (N := 16) rfl 87 _ _ rfl ji3 rfl rfl Try.underlying87 (.int .u64 0) 8 info93 rfl (by decide) (by omega) 0 (ok := fun _ => True) (okp := fun _ => True) rfl (fun _ hk => hk) trivial (od) (Nat.le_trans (Nat.mul_le_mul_right _ (od : ji3.toNat ≤ 35184372088832)) (by omega)) (Below.refl _ _) (Nat.le_refl _) ?_; intro v353 w6 ho7 hb hg_ hnew_; clear hg_ hnew_; (first | rw [← Ny352.out] at ho7 | (simp only [Int.reduceToNat] at ho7; rw [← Ny352.out] at ho7)); have HO354 := aK (Kd.R_lower ho7 (below_size (gB HB))); replace HB := aK (below_step (gB HB) hb); clear hb ho7)))
     go_loopg [6] k (fun kq v6 w' => ∃ (x5_1 : List Int) (x6_1 : Int), v6 = .int .i64 x6_1 ∧ Aside0 (q4q.l0 kq l0 l1 x5_1 x6_1 = some r) ∧ Aside0 (kq ≤ k) ∧ Aside0 (Kd.R (Kd.int .u64) 93 w' w.heap.size (fun _ => True) v353 x5_1) ∧ Aside0 (Below w.heap.size w w'))
     case atStart => exact ⟨(y352), (0), ac, H', ⟨Nat.le_refl _⟩, ⟨gR HO354⟩, ⟨gB HB⟩⟩
     case round =>
      clear H'; (try clear c1); (try clear c4); (try clear c4b0); (try clear c4b1); (try clear c5); (try clear c5b0); (try clear c5b1)
      obtain ⟨x5_1, x6_1, rfl, HA, HK1, HO_5, HB⟩ := hrel
      cases gk with
      | zero => exact absurd HA.out (by simp [q4q.l0])
      | succ k1 =>
       have H := HA.out
       clear HA
       simp only [q4q.l0] at H
       by_cases c8 : x6_1 < (l0.length : Int)
       · rw [if_pos c8] at H
         have c8b0 := dT c8
         clear c8
         have H' := Aside0.mk H
         clear H
         go_wp2
         repeat (go_quiet (fail); try go_wp2)
         go_loopg [7, 8] k1 (fun kq v7 v8 w' => ∃ (x5_2 : List Int) (x7_2 : Int) (x8_2 : Int), v7 = .int .u64 x7_2 ∧ v8 = .int .i64 x8_2 ∧ Aside0 (q4q.l1 kq l0 l1 x5_2 x6_1 x7_2 x8_2 = some r) ∧ Aside0 (kq ≤ k1) ∧ Aside0 (Kd.R (Kd.int .u64) 93 w' w.heap.size (fun _ => True) v353 x5_2) ∧ Aside0 (Below w.heap.size w w'))
         case atStart => exact ⟨(x5_1), (0), (0), ac, ac, H', ⟨Nat.le_refl _⟩, ⟨gR HO_5⟩, ⟨gB HB⟩⟩
         case round =>
          clear H'; (try clear c1); (try clear c4); (try clear c4b0); (try clear c4b1); (try clear c5); (try clear c5b0); (try clear c5b1); (try clear c8); (try clear c8b0)
          obtain ⟨x5_2, x7_2, x8_2, rfl, rfl, HA, HK2, HO_5, HB⟩ := hrel
          cases gk with
          | zero => exact absurd HA.out (by simp [q4q.l1])
          | succ k2 =>
           have H := HA.out
           clear HA
           simp only [q4q.l1] at H
           have HC9 := Aside0.mk H; clear H
           go_upto_region 7 with (fail)
           repeat (go_quiet (fail); go_upto_region 7 with (fail))
           go_cut [30] (fun v30 wc => ∃ (kq : Nat) (x30_8 : Bool), v30 = .bool x30_8 ∧ Aside0 (q4q.j2 kq l0 l1 x5_2 x6_1 x7_2 x8_2 x30_8 = some r) ∧ Aside0 (kq ≤ k2) ∧ Aside0 (Kd.R (Kd.int .u64) 93 wc w.heap.size (fun _ => True) v353 x5_2) ∧ Aside0 (Below w.heap.size w wc))
           case first =>
            have H := HC9.out
            clear HC9
            by_cases c10 : x8_2 < (l1.length : Int)
            · rw [if_pos c10] at H
              have c10b0 := dT c10
              clear c10
              (first | rw [c10b0] | (simp only [i64_w, i32_w]; rw [c10b0]) | skip)
              have H' := Aside0.mk H
              clear H
              go_wp2
              repeat (go_quiet (fail); try go_wp2)
              go_meet
              case rel => exact ⟨_, (true), ac, H', ⟨by have := HK1.out; have := HK2.out; first | omega | exact Nat.le_refl _⟩, ⟨gR HO_5⟩, ⟨gB HB⟩⟩
            · rw [if_neg c10] at H
              have c10b0 := dF c10
              clear c10
              (first | rw [c10b0] | (simp only [i64_w, i32_w]; rw [c10b0]) | skip)
              have H' := Aside0.mk H
              clear H
              go_wp2
              repeat (go_quiet (fail); try go_wp2)
              go_meet
              case rel => exact ⟨_, (decide (x7_2 > 0)), ac, H', ⟨by have := HK1.out; have := HK2.out; first | omega | exact Nat.le_refl _⟩, ⟨gR HO_5⟩, ⟨gB HB⟩⟩
           case rest =>
            clear HC9; (try clear c1); (try clear c4); (try clear c4b0); (try clear c4b1); (try clear c5); (try clear c5b0); (try clear c5b1); (try clear c8); (try clear c8b0)
            obtain ⟨kq, x30_8, rfl, HA, HJ8, HO_5, HB⟩ := hcut
            cases kq with
            | zero => exact absurd HA.out (by simp [q4q.j2])
            | succ kj8 =>
             have H := HA.out
             clear HA
             simp only [q4q.j2] at H
             by_cases c11 : x30_8 = true
             · subst c11
               replace H : (if 0 ≤ (wrap64 (x6_1 + x8_2)) then (if (wrap64 (x6_1 + x8_2)) < (x5_2.length : Int) then (if x8_2 < (l1.length : Int) then (if 0 ≤ x6_1 then (if x6_1 < (l0.length : Int) then (if 0 ≤ x8_2 then (q4q.l1 kj8 l0 l1 (x5_2.set ((wrap64 (x6_1 + x8_2)) : Int).toNat (Int.tmod (IntKind.u64.wrap ((IntKind.u64.wrap ((rd x5_2 (wrap64 (x6_1 + x8_2))) + x7_2)) + (IntKind.u64.wrap ((rd l0 x6_1) * (rd l1 x8_2))))) 65536)) x6_1 (IntKind.u64.wrap (Int.tdiv (IntKind.u64.wrap ((IntKind.u64.wrap ((rd x5_2 (wrap64 (x6_1 + x8_2))) + x7_2)) + (IntKind.u64.wrap ((rd l0 x6_1) * (rd l1 x8_2))))) 65536)) (wrap64 (x8_2 + 1))) else (none)) else (none)) else (none)) else (q4q.l1 kj8 l0 l1 (x5_2.set ((wrap64 (x6_1 + x8_2)) : Int).toNat (Int.tmod (IntKind.u64.wrap ((rd x5_2 (wrap64 (x6_1 + x8_2))) + x7_2)) 65536)) x6_1 (IntKind.u64.wrap (Int.tdiv (IntKind.u64.wrap ((rd x5_2 (wrap64 (x6_1 + x8_2))) + x7_2)) 65536)) (wrap64 (x8_2 + 1)))) else (none)) else (none)) = some r := by rw [if_pos rfl] at H; exact H
               obtain ⟨ji12, hji12⟩ : ∃ j_ : Int, (wrap64 (x6_1 + x8_2)) = j_ := ⟨_, rfl⟩
               replace H : (if 0 ≤ (ji12) then (if (ji12) < (x5_2.length : Int) then (if x8_2 < (l1.length : Int) then (if 0 ≤ x6_1 then (if x6_1 < (l0.length : Int) then (if 0 ≤ x8_2 then (q4q.l1 kj8 l0 l1 (x5_2.set ((ji12) : Int).toNat (Int.tmod (IntKind.u64.wrap ((IntKind.u64.wrap ((rd x5_2 (ji12)) + x7_2)) + (IntKind.u64.wrap ((rd l0 x6_1) * (rd l1 x8_2))))) 65536)) x6_1 (IntKind.u64.wrap (Int.tdiv (IntKind.u64.wrap ((IntKind.u64.wrap ((rd x5_2 (ji12)) + x7_2)) + (IntKind.u64.wrap ((rd l0 x6_1) * (rd l1 x8_2))))) 65536)) (wrap64 (x8_2 + 1))) else (none)) else (none)) else (none)) else (q4q.l1 kj8 l0 l1 (x5_2.set ((ji12) : Int).toNat (Int.tmod (IntKind.u64.wrap ((rd x5_2 (ji12)) + x7_2)) 65536)) x6_1 (IntKind.u64.wrap (Int.tdiv (IntKind.u64.wrap ((rd x5_2 (ji12)) + x7_2)) 65536)) (wrap64 (x8_2 + 1)))) else (none)) else (none)) = some r := by first | (rw [hji12] at H; exact H) | (simp only [hji12] at H ⊢; exact H)
               have hji12w : (IntKind.i64.wrap (x6_1 + x8_2)) = ji12 := (i64_w _).trans hji12
               by_cases c13 : 0 ≤ (ji12)
               · rw [if_pos c13] at H
                 have c13b0 := dT c13
                 clear c13
                 by_cases c14 : (ji12) < (x5_2.length : Int)
                 · rw [if_pos c14] at H
                   have c14b0 := dT c14
                   clear c14
                   by_cases c15 : x8_2 < (l1.length : Int)
                   · rw [if_pos c15] at H
                     have c15b0 := dT c15
                     clear c15
                     by_cases c16 : 0 ≤ x6_1
                     · rw [if_pos c16] at H
                       have c16b0 := dT c16
                       clear c16
                       by_cases c17 : x6_1 < (l0.length : Int)
                       · rw [if_pos c17] at H
                         have c17b0 := dT c17
                         clear c17
                         by_cases c18 : 0 ≤ x8_2
                         · rw [if_pos c18] at H
                           have c18b0 := dT c18
                           clear c18
                           obtain ⟨y361, hy_⟩ : ∃ y_ : List Int, y_ = (x5_2.set ((ji12) : Int).toNat (Int.tmod (IntKind.u64.wrap ((IntKind.u64.wrap ((rd x5_2 (ji12)) + x7_2)) + (IntKind.u64.wrap ((rd l0 x6_1) * (rd l1 x8_2))))) 65536)) := ⟨_, rfl⟩
                           replace H : (q4q.l1 kj8 l0 l1 y361 x6_1 (IntKind.u64.wrap (Int.tdiv (IntKind.u64.wrap ((IntKind.u64.wrap ((rd x5_2 (ji12)) + x7_2)) + (IntKind.u64.wrap ((rd l0 x6_1) * (rd l1 x8_2))))) 65536)) (wrap64 (x8_2 + 1))) = some r := h2
                           have Ny361 := Aside0.mk hy_; clear hy_
                           have H' := Aside0.mk H
                           clear H
                           obtain ⟨Ao20, co20, eo20⟩ := Kd.R_slice HO_5.out
                           subst eo20
                           obtain ⟨⟨p358, q358⟩, ad358, rfl, hx358_0⟩ := za (Kd.at_int (Kd.R_reads' HO_5.out).2.2) (ji12)
                           obtain ⟨⟨p359, q359⟩, ad359, rfl, hx359_0⟩ := za (Kd.at_int HR0.out) x6_1
                           replace hx359_0 := gc HB hx359_0
                           obtain ⟨⟨p360, q360⟩, ad360, rfl, hx360_0⟩ := za (Kd.at_int HR1.out) x8_2
                           replace hx360_0 := gc HB hx360_0
                           have p19 : 0 ≤ ((ji12) : Int) := od
                           have q19 : ((ji12) : Int) < ((x5_2.length : Int) : Int) := od
                           obtain ⟨go19, co19, eo19, gb19, gl19, cl19, HG19⟩ := Kd.R_form HO_5.out (by omega)
                           (first | cases eo19 | (injection eo19 with ea_ en_ ec_; (first | subst ea_ | (injection ea_ with ea_; subst ea_)); subst ec_; clear en_))
                           have GB19 := Aside0.mk gb19; have GG19 := Aside0.mk HG19; clear gb19 gl19 HG19
                           (first | simp only [add_plain] at hx358_0 | skip)
                           obtain ⟨hx19_0, hf19_0⟩ := Kd.R_celln 0 HO_5.out ((ji12) : Int) p19 q19
                           replace p19 := eq_true p19; replace q19 := eq_true q19
                           have HP21 := Kd.R_putg HO_5.out ((ji12) : Int) (Int.tmod (IntKind.u64.wrap ((IntKind.u64.wrap ((rd x5_2 (ji12)) + x7_2)) + (IntKind.u64.wrap ((rd l0 x6_1) * (rd l1 x8_2))))) 65536)
                           go_wp2_with (first | ((with_reducible refine gate_store (t := 93) (p := 62) rfl ?_); (try (rw [drewN_self wc]; generalize hq_ : World.drewN wc _ = wc; have hcq_ := aK (XWords.cell_at hq_); have hfq_ := aK (XWords.frozen_at hq_); have n0_ := aK (Kd.R_at hq_ HO_5.out); have n1_ := aK (below_at hq_ HB.out); clear hq_ HO_5 HB; have HO_5 := n0_; have HB := n1_; clear n0_ n1_; (try (have HP21 := Kd.R_putg HO_5.out ((ji12) : Int) (Int.tmod (IntKind.u64.wrap ((IntKind.u64.wrap ((rd x5_2 (ji12)) + x7_2)) + (IntKind.u64.wrap ((rd l0 x6_1) * (rd l1 x8_2))))) 65536))))); refine se (t := 93) (p := 62) (w1 := (wc.setCell ⟨go19, ((ji12) : Int).toNat, none⟩ (.int .u64 (Int.tmod (IntKind.u64.wrap ((IntKind.u64.wrap ((rd x5_2 (ji12)) + x7_2)) + (IntKind.u64.wrap ((rd l0 x6_1) * (rd l1 x8_2))))) 65536)))) ?_; intro w22 hw; have hg : wc.grownBy w22 (some go19) := (by rw [hw]; exact HP21.2); have hp_ : Kd.R (Kd.int .u64) 93 w22 w.heap.size (fun _ => True) (.slice (some ⟨go19, 0, none⟩) x5_2.length co20) y361 := (by rw [hw, Ny361.out]; exact HP21.1); clear HP21; replace HO_5 := aK (hp_); replace HB := aK ((by rw [hw]; exact below_set (HB.out) GB19.out : Below w.heap.size w w22)); clear hg hw hp_))
                           repeat (go_quiet (fail); try go_wp2_with (first | ((with_reducible refine gate_store (t := 93) (p := 62) rfl ?_); (try (rw [drewN_self wc]; generalize hq_ : World.drewN wc _ = wc; have hcq_ := aK (XWords.cell_at hq_); have hfq_ := aK (XWords.frozen_at hq_); have n0_ := aK (Kd.R_at hq_ HO_5.out); have n1_ := aK (below_at hq_ HB.out); clear hq_ HO_5 HB; have HO_5 := n0_; have HB := n1_; clear n0_ n1_; (try (have HP21 := Kd.R_putg HO_5.out ((ji12) : Int) (Int.tmod (IntKind.u64.wrap ((IntKind.u64.wrap ((rd x5_2 (ji12)) + x7_2)) + (IntKind.u64.wrap ((rd l0 x6_1) * (rd l1 x8_2))))) 65536))))); refine se (t := 93) (p := 62) (w1 := (wc.setCell ⟨go19, ((ji12) : Int).toNat, none⟩ (.int .u64 (Int.tmod (IntKind.u64.wrap ((IntKind.u64.wrap ((rd x5_2 (ji12)) + x7_2)) + (IntKind.u64.wrap ((rd l0 x6_1) * (rd l1 x8_2))))) 65536)))) ?_; intro w22 hw; have hg : wc.grownBy w22 (some go19) := (by rw [hw]; exact HP21.2); have hp_ : Kd.R (Kd.int .u64) 93 w22 w.heap.size (fun _ => True) (.slice (some ⟨go19, 0, none⟩) x5_2.length co20) y361 := (by rw [hw, Ny361.out]; exact HP21.1); clear HP21; replace HO_5 := aK (hp_); replace HB := aK ((by rw [hw]; exact below_set (HB.out) GB19.out : Below w.heap.size w w22)); clear hg hw hp_)))
                           go_roundg kj8
                           case measure => have := HK1.out; have := HK2.out; have := HJ8.out; omega
                           case rel => exact ⟨(y361), (IntKind.u64.wrap (Int.tdiv (IntKind.u64.wrap ((IntKind.u64.wrap ((rd x5_2 (ji12)) + x7_2)) + (IntKind.u64.wrap ((rd l0 x6_1) * (rd l1 x8_2))))) 65536)), (wrap64 (x8_2 + 1)), (by first | rfl | (simp; done) | (simp only [← hji12] <;> (first | rfl | simp)) | (simp [*]; done)), ac, H', ⟨by have := HK1.out; have := HK2.out; have := HJ8.out; omega⟩, ⟨gR HO_5⟩, ⟨gB HB⟩⟩
                         · rw [if_neg c18] at H
                           exact absurd H (by simp)
                       · rw [if_neg c17] at H
                         exact absurd H (by simp)
                     · rw [if_neg c16] at H
                       exact absurd H (by simp)
                   · rw [if_neg c15] at H
                     have c15b0 := dF c15
                     clear c15
                     obtain ⟨y362, hy_⟩ : ∃ y_ : List Int, y_ = (x5_2.set ((ji12) : Int).toNat (Int.tmod (IntKind.u64.wrap ((rd x5_2 (ji12)) + x7_2)) 65536)) := ⟨_, rfl⟩
                     replace H : (q4q.l1 kj8 l0 l1 y362 x6_1 (IntKind.u64.wrap (Int.tdiv (IntKind.u64.wrap ((rd x5_2 (ji12)) + x7_2)) 65536)) (wrap64 (x8_2 + 1))) = some r := h2
                     have Ny362 := Aside0.mk hy_; clear hy_
                     have H' := Aside0.mk H
                     clear H
                     obtain ⟨Ao24, co24, eo24⟩ := Kd.R_slice HO_5.out
                     subst eo24
                     obtain ⟨⟨p358, q358⟩, ad358, rfl, hx358_0⟩ := za (Kd.at_int (Kd.R_reads' HO_5.out).2.2) (ji12)
                     have p23 : 0 ≤ ((ji12) : Int) := od
                     have q23 : ((ji12) : Int) < ((x5_2.length : Int) : Int) := od
                     obtain ⟨go23, co23, eo23, gb23, gl23, cl23, HG23⟩ := Kd.R_form HO_5.out (by omega)
                     (first | cases eo23 | (injection eo23 with ea_ en_ ec_; (first | subst ea_ | (injection ea_ with ea_; subst ea_)); subst ec_; clear en_))
                     have GB23 := Aside0.mk gb23; have GG23 := Aside0.mk HG23; clear gb23 gl23 HG23
                     (first | simp only [add_plain] at hx358_0 | skip)
                     obtain ⟨hx23_0, hf23_0⟩ := Kd.R_celln 0 HO_5.out ((ji12) : Int) p23 q23
                     replace p23 := eq_true p23; replace q23 := eq_true q23
                     have HP25 := Kd.R_putg HO_5.out ((ji12) : Int) (Int.tmod (IntKind.u64.wrap ((rd x5_2 (ji12)) + x7_2)) 65536)
                     go_wp2_with (first | ((with_reducible refine gate_store (t := 93) (p := 62) rfl ?_); (try (rw [drewN_self wc]; generalize hq_ : World.drewN wc _ = wc; have hcq_ := aK (XWords.cell_at hq_); have hfq_ := aK (XWords.frozen_at hq_); have n0_ := aK (Kd.R_at hq_ HO_5.out); have n1_ := aK (below_at hq_ HB.out); clear hq_ HO_5 HB; have HO_5 := n0_; have HB := n1_; clear n0_ n1_; (try (have HP25 := Kd.R_putg HO_5.out ((ji12) : Int) (Int.tmod (IntKind.u64.wrap ((rd x5_2 (ji12)) + x7_2)) 65536))))); refine se (t := 93) (p := 62) (w1 := (wc.setCell ⟨go23, ((ji12) : Int).toNat, none⟩ (.int .u64 (Int.tmod (IntKind.u64.wrap ((rd x5_2 (ji12)) + x7_2)) 65536)))) ?_; intro w26 hw; have hg : wc.grownBy w26 (some go23) := (by rw [hw]; exact HP25.2); have hp_ : Kd.R (Kd.int .u64) 93 w26 w.heap.size (fun _ => True) (.slice (some ⟨go23, 0, none⟩) x5_2.length co24) y362 := (by rw [hw, Ny362.out]; exact HP25.1); clear HP25; replace HO_5 := aK (hp_); replace HB := aK ((by rw [hw]; exact below_set (HB.out) GB23.out : Below w.heap.size w w26)); clear hg hw hp_))
                     repeat (go_quiet (fail); try go_wp2_with (first | ((with_reducible refine gate_store (t := 93) (p := 62) rfl ?_); (try (rw [drewN_self wc]; generalize hq_ : World.drewN wc _ = wc; have hcq_ := aK (XWords.cell_at hq_); have hfq_ := aK (XWords.frozen_at hq_); have n0_ := aK (Kd.R_at hq_ HO_5.out); have n1_ := aK (below_at hq_ HB.out); clear hq_ HO_5 HB; have HO_5 := n0_; have HB := n1_; clear n0_ n1_; (try (have HP25 := Kd.R_putg HO_5.out ((ji12) : Int) (Int.tmod (IntKind.u64.wrap ((rd x5_2 (ji12)) + x7_2)) 65536))))); refine se (t := 93) (p := 62) (w1 := (wc.setCell ⟨go23, ((ji12) : Int).toNat, none⟩ (.int .u64 (Int.tmod (IntKind.u64.wrap ((rd x5_2 (ji12)) + x7_2)) 65536)))) ?_; intro w26 hw; have hg : wc.grownBy w26 (some go23) := (by rw [hw]; exact HP25.2); have hp_ : Kd.R (Kd.int .u64) 93 w26 w.heap.size (fun _ => True) (.slice (some ⟨go23, 0, none⟩) x5_2.length co24) y362 := (by rw [hw, Ny362.out]; exact HP25.1); clear HP25; replace HO_5 := aK (hp_); replace HB := aK ((by rw [hw]; exact below_set (HB.out) GB23.out : Below w.heap.size w w26)); clear hg hw hp_)))
                     go_roundg kj8
                     case measure => have := HK1.out; have := HK2.out; have := HJ8.out; omega
                     case rel => exact ⟨(y362), (IntKind.u64.wrap (Int.tdiv (IntKind.u64.wrap ((rd x5_2 (ji12)) + x7_2)) 65536)), (wrap64 (x8_2 + 1)), (by first | rfl | (simp; done) | (simp only [← hji12] <;> (first | rfl | simp)) | (simp [*]; done)), ac, H', ⟨by have := HK1.out; have := HK2.out; have := HJ8.out; omega⟩, ⟨gR HO_5⟩, ⟨gB HB⟩⟩
                 · rw [if_neg c14] at H
                   exact absurd H (by simp)
               · rw [if_neg c13] at H
                 exact absurd H (by simp)
             · replace c11 := Bool.eq_false_iff.mpr c11
               subst c11
               replace H : (q4q.l0 kj8 l0 l1 x5_2 (wrap64 (x6_1 + 1))) = some r := by rw [if_neg (show ¬ (false = true) by decide)] at H; exact H
               have H' := Aside0.mk H
               clear H
               go_wp2
               repeat (go_quiet (fail); try go_wp2)
               go_roundg kj8
               case measure => have := HK1.out; have := HK2.out; have := HJ8.out; omega
               case rel => exact ⟨(x5_2), (wrap64 (x6_1 + 1)), ac, H', ⟨by have := HK1.out; have := HK2.out; have := HJ8.out; omega⟩, ⟨gR HO_5⟩, ⟨gB HB⟩⟩
       · rw [if_neg c8] at H
         have c8b0 := dF c8
         clear c8
         replace H := Option.bind_eq_some_iff.mp H
         obtain ⟨t355, A270, H⟩ := H
         replace H : (some t355) = some r := H
         have A27 := Aside0.mk A270; clear A270
         obtain rfl := Option.some.inj H
         obtain ⟨Ao28, co28, eo28⟩ := Kd.R_slice HO_5.out
         subst eo28
         go_wp2_with (first | (go_at_call 51; (with_reducible refine (q7q.calls k1 (fun k_ => some k_ = (.slice Ao28 x5_1.length co28 : Value).ownBlock) (.slice Ao28 x5_1.length co28) x5_1 t355 w _ ?side1 ?side2 A27.out).mono ?_); (case side1 => exact gB HB); (case side2 => exact Kd.R_tight rfl HO_5.out); rintro e w29 ⟨v356, rfl, ho0, hb, hkp⟩; have HO357 := aK (Kd.R_mono (ok' := fun k_ => True) ho0 (fun k_ hk_ => trivial)); replace HB := aK (hb); clear HO_5; (try clear hb); (try clear hkp); (try clear ho0)))
         repeat (go_quiet (fail); try go_wp2_with (first | (go_at_call 51; (with_reducible refine (q7q.calls k1 (fun k_ => some k_ = (.slice Ao28 x5_1.length co28 : Value).ownBlock) (.slice Ao28 x5_1.length co28) x5_1 t355 w _ ?side1 ?side2 A27.out).mono ?_); (case side1 => exact gB HB); (case side2 => exact Kd.R_tight rfl HO_5.out); rintro e w29 ⟨v356, rfl, ho0, hb, hkp⟩; have HO357 := aK (Kd.R_mono (ok' := fun k_ => True) ho0 (fun k_ hk_ => trivial)); replace HB := aK (hb); clear HO_5; (try clear hb); (try clear hkp); (try clear ho0))))
         go_ret
         exact ⟨_, by first | rfl | (simp [errW_none, errW_some] <;> rfl) | (simp only [← hji3]; first | rfl | (simp [errW_none, errW_some] <;> rfl)) | (simp [*, errW_none, errW_some] <;> rfl), gR HO357, gB HB⟩
   · rw [if_neg c5] at H
     exact absurd H (by simp)
 · rw [if_neg c4] at H
   exact absurd H (by simp)
def q11q.l0 : Nat → List Int → List Int → Int → Option (Int)
 | 0, _, _, _ => none
 | k + 1, x0, x1, x5 => if x5 ≥ 0 then (if 0 ≤ x5 then (if x5 < (x0.length : Int) then (if x5 < (x1.length : Int) then (if (rd x0 x5) < (rd x1 x5) then (some (-1)) else (if (rd x0 x5) > (rd x1 x5) then (some 1) else (q11q.l0 k x0 x1 (wrap64 (x5 - 1))))) else (none)) else (none)) else (none)) else (some 0)
def q11q.f (k : Nat) (l0 : List Int) (l1 : List Int) : Option (Int) := if (l0.length : Int) = (l1.length : Int) then (q11q.l0 k l0 l1 (wrap64 ((l0.length : Int) - 1))) else (some (wrap64 ((l0.length : Int) - (l1.length : Int))))
theorem q11q.mono_l : ∀ k, (∀ y0 y1 y2, LeO (q11q.l0 k y0 y1 y2) (q11q.l0 (k + 1) y0 y1 y2))
 | 0 => fun _ _ _ r h => by simp [q11q.l0] at h
 | k + 1 => by
  have ih0 := q11q.mono_l k
  · intro y0 y1 y2
    unfold q11q.l0
    repeat' first
    | (with_reducible exact ih0 _ _ _)
    | (with_reducible exact LeO.refl _)
    | (with_reducible exact LeO.none _)
    | (with_reducible refine LeO.ite ?_ ?_)
    | (with_reducible refine LeO.bind ?_ (fun _ => ?_))
    | exact ih0 _ _ _
    | exact LeO.none _
    | refine LeO.ite ?_ ?_
    | refine LeO.bind ?_ (fun _ => ?_)
theorem q11q.mono : ∀ a0 a1 k, LeO (q11q.f k a0 a1) (q11q.f (k + 1) a0 a1) := by
 intro a0 a1 k
 have ih0 := q11q.mono_l k
 unfold q11q.f
 repeat' first
  | (with_reducible exact ih0 _ _ _)
  | (with_reducible exact LeO.refl _)
  | (with_reducible exact LeO.none _)
  | (with_reducible refine LeO.ite ?_ ?_)
  | (with_reducible refine LeO.bind ?_ (fun _ => ?_))
  | exact ih0 _ _ _
  | exact LeO.none _
  | refine LeO.ite ?_ ?_
  | refine LeO.bind ?_ (fun _ => ?_)
set_option maxHeartbeats 8000000 in
set_option maxRecDepth 100000 in
theorem q11q.calls (k : Nat) (A0 : Option Addr) (c0 : Nat) (l0 : List Int) (A1 : Option Addr) (c1 : Nat) (l1 : List Int) (r : Int) (w : World) (hr0 : Kd.C (Kd.int .u64) w A0 l0.length l0) (hc0 : l0.length ≤ c0) (hr1 : Kd.C (Kd.int .u64) w A1 l1.length l1) (hc1 : l1.length ≤ c1) (h : q11q.f k l0 l1 = some r) :
 Calls Try.prog 43 #[.slice A0 l0.length c0, .slice A1 l1.length c1] w fun e w' => e = .returned (.int .i64 r) ∧ Drawn0 w w' := by
 have HR0 := Aside0.mk hr0; have HC0 := Aside0.mk hc0; clear hr0 hc0; have HR1 := Aside0.mk hr1; have HC1 := Aside0.mk hc1; clear hr1 hc1
 have H : (if (l0.length : Int) = (l1.length : Int) then (q11q.l0 k l0 l1 (wrap64 ((l0.length : Int) - 1))) else (some (wrap64 ((l0.length : Int) - (l1.length : Int))))) = some r := h
 clear h
 by_cases c3 : (l0.length : Int) = (l1.length : Int)
 · rw [if_pos c3] at H
   have c3b0 : ((l0.length : Int) == (l1.length : Int)) = true := beq_iff_eq.mpr c3
   have c3b1 : ((l0.length : Int) != (l1.length : Int)) = false := bne_eq_false_iff_eq.mpr c3
   have c3b2 : (l0.length == l1.length) = true := by first | simpa using c3 | (simp at c3 ⊢; omega)
   clear c3
   have H' := Aside0.mk H
   clear H
   go_enter Try.func43, Try.ntmps43
   go_wp2
   repeat (go_quiet (fail); try go_wp2)
   go_loopg [5] k (fun kq v5 w' => ∃ (x5_1 : Int), v5 = .int .i64 x5_1 ∧ Aside0 (q11q.l0 kq l0 l1 x5_1 = some r) ∧ Aside0 (kq ≤ k) ∧ Drawn0 w w')
   case atStart => exact ⟨(wrap64 ((l0.length : Int) - 1)), ac, H', ⟨Nat.le_refl _⟩, dr⟩
   case round =>
    clear H'; (try clear c1); (try clear c3); (try clear c3b0); (try clear c3b1); (try clear c3b2)
    obtain ⟨x5_1, rfl, HA, HK1, ⟨m1, rfl⟩⟩ := hrel
    cases gk with
    | zero => exact absurd HA.out (by simp [q11q.l0])
    | succ k1 =>
     have H := HA.out
     clear HA
     simp only [q11q.l0] at H
     by_cases c4 : x5_1 ≥ 0
     · rw [if_pos c4] at H
       have c4b0 : decide (0 ≤ x5_1) = true := decide_eq_true c4
       clear c4
       by_cases c5 : 0 ≤ x5_1
       · rw [if_pos c5] at H
         have c5b0 := dT c5
         clear c5
         by_cases c6 : x5_1 < (l0.length : Int)
         · rw [if_pos c6] at H
           have c6b0 := dT c6
           clear c6
           by_cases c7 : x5_1 < (l1.length : Int)
           · rw [if_pos c7] at H
             have c7b0 := dT c7
             clear c7
             by_cases c8 : (rd l0 x5_1) < (rd l1 x5_1)
             · rw [if_pos c8] at H
               have c8b0 := dT c8
               clear c8
               obtain rfl := Option.some.inj H
               obtain ⟨⟨p363, q363⟩, ad363, rfl, hx363_0⟩ := za (Kd.at_int HR0.out) x5_1
               obtain ⟨⟨p364, q364⟩, ad364, rfl, hx364_0⟩ := za (Kd.at_int HR1.out) x5_1
               go_wp2
               repeat (go_quiet (fail); try go_wp2)
               go_ret
               exact dn
             · rw [if_neg c8] at H
               have c8b0 := dF c8
               clear c8
               by_cases c9 : (rd l0 x5_1) > (rd l1 x5_1)
               · rw [if_pos c9] at H
                 have c9b0 : decide ((rd l1 x5_1) < (rd l0 x5_1)) = true := decide_eq_true c9
                 clear c9
                 obtain rfl := Option.some.inj H
                 obtain ⟨⟨p363, q363⟩, ad363, rfl, hx363_0⟩ := za (Kd.at_int HR0.out) x5_1
                 obtain ⟨⟨p364, q364⟩, ad364, rfl, hx364_0⟩ := za (Kd.at_int HR1.out) x5_1
                 obtain ⟨⟨p365, q365⟩, ad365, e365, hx365_0⟩ := za (Kd.at_int HR0.out) x5_1
                 obtain rfl : ad363 = ad365 := (by injection e365)
                 obtain ⟨⟨p366, q366⟩, ad366, e366, hx366_0⟩ := za (Kd.at_int HR1.out) x5_1
                 obtain rfl : ad364 = ad366 := (by injection e366)
                 go_wp2
                 repeat (go_quiet (fail); try go_wp2)
                 go_ret
                 exact dn
               · rw [if_neg c9] at H
                 have c9b0 : decide ((rd l1 x5_1) < (rd l0 x5_1)) = false := decide_eq_false c9
                 clear c9
                 have H' := Aside0.mk H
                 clear H
                 obtain ⟨⟨p363, q363⟩, ad363, rfl, hx363_0⟩ := za (Kd.at_int HR0.out) x5_1
                 obtain ⟨⟨p364, q364⟩, ad364, rfl, hx364_0⟩ := za (Kd.at_int HR1.out) x5_1
                 obtain ⟨⟨p365, q365⟩, ad365, e365, hx365_0⟩ := za (Kd.at_int HR0.out) x5_1
                 obtain rfl : ad363 = ad365 := (by injection e365)
                 obtain ⟨⟨p366, q366⟩, ad366, e366, hx366_0⟩ := za (Kd.at_int HR1.out) x5_1
                 obtain rfl : ad364 = ad366 := (by injection e366)
                 go_wp2
                 repeat (go_quiet (fail); try go_wp2)
                 go_roundg k1
                 case measure => have := HK1.out; omega
                 case rel => exact ⟨(wrap64 (x5_1 - 1)), ac, H', ⟨by have := HK1.out; omega⟩, dr⟩
           · rw [if_neg c7] at H
             exact absurd H (by simp)
         · rw [if_neg c6] at H
           exact absurd H (by simp)
       · rw [if_neg c5] at H
         exact absurd H (by simp)
     · rw [if_neg c4] at H
       have c4b0 : decide (0 ≤ x5_1) = false := decide_eq_false c4
       clear c4
       obtain rfl := Option.some.inj H
       go_wp2
       repeat (go_quiet (fail); try go_wp2)
       go_ret
       exact dn
 · rw [if_neg c3] at H
   have c3b0 : ((l0.length : Int) == (l1.length : Int)) = false := beq_eq_false_iff_ne.mpr c3
   have c3b1 : ((l0.length : Int) != (l1.length : Int)) = true := bne_iff_ne.mpr c3
   have c3b2 : (l0.length == l1.length) = false := by first | simpa using c3 | (simp at c3 ⊢; omega)
   obtain rfl := Option.some.inj H
   go_enter Try.func43, Try.ntmps43
   go_wp2
   repeat (go_quiet (fail); try go_wp2)
   go_ret
   exact dn
def q13q.l0 : Nat → Int → List Int → Option (List Int)
 | 0, _, _ => none
 | k + 1, x0, x3 => if x0 > 0 then (if x3.length < 17592186044416 then (q13q.l0 k (IntKind.u64.wrap (Int.tdiv x0 65536)) (x3 ++ [Int.tmod x0 65536])) else (none)) else (some x3)
def q13q.f (k : Nat) (a0 : Int) : Option (List Int) := q13q.l0 k a0 ([] : List Int)
theorem q13q.mono_l : ∀ k, (∀ y0 y1, LeO (q13q.l0 k y0 y1) (q13q.l0 (k + 1) y0 y1))
 | 0 => fun _ _ r h => by simp [q13q.l0] at h
 | k + 1 => by
  have ih0 := q13q.mono_l k
  · intro y0 y1
    unfold q13q.l0
    repeat' first
    | (with_reducible exact ih0 _ _)
    | (with_reducible exact LeO.refl _)
    | (with_reducible exact LeO.none _)
    | (with_reducible refine LeO.ite ?_ ?_)
    | (with_reducible refine LeO.bind ?_ (fun _ => ?_))
    | exact ih0 _ _
    | exact LeO.none _
    | refine LeO.ite ?_ ?_
    | refine LeO.bind ?_ (fun _ => ?_)
theorem q13q.mono : ∀ a0 k, LeO (q13q.f k a0) (q13q.f (k + 1) a0) := by
 intro a0 k
 have ih0 := q13q.mono_l k
 unfold q13q.f
 repeat' first
  | (with_reducible exact ih0 _ _)
  | (with_reducible exact LeO.refl _)
  | (with_reducible exact LeO.none _)
  | (with_reducible refine LeO.ite ?_ ?_)
  | (with_reducible refine LeO.bind ?_ (fun _ => ?_))
  | exact ih0 _ _
  | exact LeO.none _
  | refine LeO.ite ?_ ?_
  | refine LeO.bind ?_ (fun _ => ?_)
set_option maxHeartbeats 8000000 in
set_option maxRecDepth 100000 in
theorem q13q.calls (k : Nat) (a0 : Int) (r : List Int) (w : World) (h : q13q.f k a0 = some r) :
 Calls Try.prog 45 #[.int .u64 a0] w fun e w' => ∃ v0_ : Value, e = .returned (v0_) ∧ Kd.R (Kd.int .u64) 93 w' w.heap.size (fun _ => True) v0_ r ∧ Below w.heap.size w w' := by
 have HB := aK (Below.refl w.heap.size w)
 have H : (q13q.l0 k a0 ([] : List Int)) = some r := h
 clear h
 have H' := Aside0.mk H
 clear H
 go_enter Try.func45, Try.ntmps45
 go_wp2
 go_loopg [0, 3] k (fun kq v0 v3 w' => ∃ (x0_1 : Int) (x3_1 : List Int), v0 = .int .u64 x0_1 ∧ Aside0 (q13q.l0 kq x0_1 x3_1 = some r) ∧ Aside0 (kq ≤ k) ∧ Aside0 (Kd.R (Kd.int .u64) 93 w' w.heap.size (fun _ => True) v3 x3_1) ∧ Aside0 (Below w.heap.size w w'))
 case atStart => exact ⟨(a0), (([] : List Int)), ac, H', ⟨Nat.le_refl _⟩, ⟨by first | exact Kd.R_nil _ _ _ _ _ | exact Kd.N_nil _ _ _ _ _ | exact Kd.V_nil _ _ _ _ _ | exact Kd.Q_nil _ _ _ _ _ | exact Kd.S_nil _ _ _ _ _⟩, ⟨gB HB⟩⟩
 case round =>
  clear H'
  obtain ⟨x0_1, x3_1, rfl, HA, HK1, HO_3, HB⟩ := hrel
  cases gk with
  | zero => exact absurd HA.out (by simp [q13q.l0])
  | succ k1 =>
   have H := HA.out
   clear HA
   simp only [q13q.l0] at H
   by_cases c2 : x0_1 > 0
   · rw [if_pos c2] at H
     have c2b0 : decide (0 < x0_1) = true := decide_eq_true c2
     clear c2
     by_cases c3 : x3_1.length < 17592186044416
     · rw [if_pos c3] at H
       have LMc3 := Aside0.mk c3; clear c3
       obtain ⟨y367, hy_⟩ : ∃ y_ : List Int, y_ = (x3_1 ++ [Int.tmod x0_1 65536]) := ⟨_, rfl⟩
       replace H : (q13q.l0 k1 (IntKind.u64.wrap (Int.tdiv x0_1 65536)) y367) = some r := h2
       have Ny367 := Aside0.mk hy_; clear hy_
       have H' := Aside0.mk H
       clear H
       go_wp2_with (first | ((with_reducible refine q28q (b := .append) (xs := #[.tmp 6, .tmp 9]) rfl ?_); at_builtin; refine Kd.R_append (Kd.int .u64) (w0 := w) w.heap.size rfl (.tmp 6) (.tmp 9) 87 93 (.int .u64 0) 8 rfl Try.underlying87 info93 rfl (by decide) (by omega) u3 x3_1 (Int.tmod x0_1 65536) [.int .u64 (Int.tmod x0_1 65536)] (fun _ => True) (fun _ => False) rfl rfl ?aP (fun _ hk => hk.elim) ?aF ?aO ?aB ?aS ?aL ?_; (case aP => exact rfl); (case aB => exact (gB HB)); (case aF => exact (fun _ _ => trivial)); (case aO => exact (gR HO_3)); (case aS => exact (below_size (gB HB))); (case aL => have := LMc3.out; omega); intro v368 w4 ho hb hg hat; rw [← Ny367.out] at ho; replace HB := aK (hb); have HO369 := aK (ho); clear HO_3; clear ho hb hg hat))
       go_roundg k1
       case measure => have := HK1.out; omega
       case rel => exact ⟨(IntKind.u64.wrap (Int.tdiv x0_1 65536)), (y367), ac, H', ⟨by have := HK1.out; omega⟩, ⟨gR HO369⟩, ⟨gB HB⟩⟩
     · rw [if_neg c3] at H
       exact absurd H (by simp)
   · rw [if_neg c2] at H
     have c2b0 : decide (0 < x0_1) = false := decide_eq_false c2
     clear c2
     obtain rfl := Option.some.inj H
     go_wp2
     go_ret
     exact ⟨_, by first | rfl | (simp [errW_none, errW_some] <;> rfl) | (simp [*, errW_none, errW_some] <;> rfl), gR HO_3, gB HB⟩
end Go.Proofs.Ytlbhjkbjokiioaa.X
