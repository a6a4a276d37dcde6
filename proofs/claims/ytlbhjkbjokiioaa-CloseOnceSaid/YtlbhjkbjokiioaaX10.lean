-- a shortened text: what this claim does not name is left out (wip/xprint/prune.py of this repo)
import Derived.Test.YtlbhjkbjokiioaaXMin
import Derived.Test.YtlbhjkbjokiioaaX0
import Derived.Test.YtlbhjkbjokiioaaX2
import Derived.Test.YtlbhjkbjokiioaaX5
import Derived.Test.YtlbhjkbjokiioaaX6
import Derived.Test.YtlbhjkbjokiioaaX7
import Derived.Test.YtlbhjkbjokiioaaX9
namespace Go.Proofs.Ytlbhjkbjokiioaa.X
open Go.RowKit Go.Proofs.YtlbhjkbjokiioaaW.PrintWords Go.Proofs.YtlbhjkbjokiioaaW.PrintLast Go.Proofs.YtlbhjkbjokiioaaW.PrintMore
attribute [local go_sem] max2_int min2_int max_two min_two max_three min_three max_four min_four
set_option linter.unusedVariables false
set_option linter.unusedSimpArgs false
mutual
def q2q.l0 : Nat → List (S79) → Int → Int → Int → Int → Option ((List (S79)))
 | 0, _, _, _, _, _ => none
 | k + 1, x0, x1, x6, x7, x8 => if x8 ≤ x1 then ((q1q.f k x0 x7 x8).bind fun t257 => (q2q.l0 k t257 x1 x6 x8 (wrap64 (x8 + x6)))) else ((q1q.f k x0 x7 x1).bind fun t258 => (q2q.l1 k t258 x1 x6))
def q2q.l1 : Nat → List (S79) → Int → Int → Option ((List (S79)))
 | 0, _, _, _ => none
 | k + 1, x0, x1, x6 => if x6 < x1 then (q2q.l2 k x0 x1 x6 0 (wrap64 (2 * x6))) else (some x0)
def q2q.l2 : Nat → List (S79) → Int → Int → Int → Int → Option ((List (S79)))
 | 0, _, _, _, _, _ => none
 | k + 1, x0, x1, x6, x7, x8 => if x8 ≤ x1 then ((q0q.f k x0 x7 (wrap64 (x7 + x6)) x8).bind fun t259 => (q2q.l2 k t259 x1 x6 x8 (wrap64 (x8 + (wrap64 (2 * x6)))))) else (if (wrap64 (x7 + x6)) < x1 then ((q0q.f k x0 x7 (wrap64 (x7 + x6)) x1).bind fun t260 => (q2q.l1 k t260 x1 (wrap64 (x6 * 2)))) else (q2q.l1 k x0 x1 (wrap64 (x6 * 2))))
end
def q2q.f (k : Nat) (l0 : List (S79)) (a1 : Int)  : Option ((List (S79))) := q2q.l0 k l0 a1 20 0 20
theorem q2q.mono_l : ∀ k, (∀ y0 y1 y2 y3 y4, LeO (q2q.l0 k y0 y1 y2 y3 y4) (q2q.l0 (k + 1) y0 y1 y2 y3 y4)) ∧ (∀ y0 y1 y2, LeO (q2q.l1 k y0 y1 y2) (q2q.l1 (k + 1) y0 y1 y2)) ∧ (∀ y0 y1 y2 y3 y4, LeO (q2q.l2 k y0 y1 y2 y3 y4) (q2q.l2 (k + 1) y0 y1 y2 y3 y4))
 | 0 => ⟨fun _ _ _ _ _ r h => by simp [q2q.l0] at h, fun _ _ _ r h => by simp [q2q.l1] at h, fun _ _ _ _ _ r h => by simp [q2q.l2] at h⟩
 | k + 1 => by
  obtain ⟨ih0, ih1, ih2⟩ := q2q.mono_l k
  refine ⟨?_, ?_, ?_⟩
  intro y0 y1 y2 y3 y4; unfold q2q.l0; rotate_left
  intro y0 y1 y2; unfold q2q.l1; rotate_left
  intro y0 y1 y2 y3 y4; unfold q2q.l2; rotate_left
  all_goals repeat' first
  | (with_reducible exact ih0 _ _ _ _ _)
  | (with_reducible exact ih1 _ _ _)
  | (with_reducible exact ih2 _ _ _ _ _)
  | (with_reducible exact q1q.mono _ _ _ _)
  | (with_reducible exact q0q.mono _ _ _ _ _)
  | (with_reducible exact LeO.refl _)
  | (with_reducible exact LeO.none _)
  | (with_reducible refine LeO.ite ?_ ?_)
  | (with_reducible refine LeO.bind ?_ (fun _ => ?_))
  | exact ih0 _ _ _ _ _
  | exact ih1 _ _ _
  | exact ih2 _ _ _ _ _
  | exact q1q.mono _ _ _ _
  | exact q0q.mono _ _ _ _ _
  | exact LeO.none _
  | refine LeO.ite ?_ ?_
  | refine LeO.bind ?_ (fun _ => ?_)
theorem q2q.mono : ∀ a0 a1 k, LeO (q2q.f k a0 a1) (q2q.f (k + 1) a0 a1) := by
 intro a0 a1 k
 obtain ⟨ih0, ih1, ih2⟩ := q2q.mono_l k
 unfold q2q.f
 repeat' first
  | (with_reducible exact ih0 _ _ _ _ _)
  | (with_reducible exact ih1 _ _ _)
  | (with_reducible exact ih2 _ _ _ _ _)
  | (with_reducible exact q1q.mono _ _ _ _)
  | (with_reducible exact q0q.mono _ _ _ _ _)
  | (with_reducible exact LeO.refl _)
  | (with_reducible exact LeO.none _)
  | (with_reducible refine LeO.ite ?_ ?_)
  | (with_reducible refine LeO.bind ?_ (fun _ => ?_))
  | exact ih0 _ _ _ _ _
  | exact ih1 _ _ _
  | exact ih2 _ _ _ _ _
  | exact q1q.mono _ _ _ _
  | exact q0q.mono _ _ _ _ _
  | exact LeO.none _
  | refine LeO.ite ?_ ?_
  | refine LeO.bind ?_ (fun _ => ?_)
set_option maxHeartbeats 8000000 in
set_option maxRecDepth 100000 in
theorem q2q.calls (k : Nat) (P0_ : Nat → Prop) (u9000_ : Value) (l0 : List (S79)) (a1 : Int)  (r : List (S79)) (w0 w : World) (hB : Below w0.heap.size w0 w) (ho0 : Kd.R k79 79 w w0.heap.size P0_ u9000_ l0) (h : q2q.f k l0 a1 = some r) :
 Calls Try.prog 48 #[u9000_, .int .i64 a1, .func (.func 33) #[] #[]] w fun e w' => e = .returned (.tuple #[]) ∧ Kd.R k79 79 w' w0.heap.size (fun k_ => (P0_ k_ ∨ w.heap.size ≤ k_)) u9000_ r ∧ Below w0.heap.size w0 w' ∧ Kept w w' (fun k_ => P0_ k_) := by
 have HO0 := aK (show Kd.R k79 79 w w0.heap.size (fun k_ => (P0_ k_ ∨ w.heap.size ≤ k_)) u9000_ l0 from Kd.R_mono ho0 (fun k_ hk => (.inl hk)))
 have HK := aK (Kept.refl w (fun k_ => P0_ k_))
 have HW0 := Aside0.mk hB.size
 have HB := Aside0.mk hB; clear hB
 have H : (q2q.l0 k l0 a1 20 0 20) = some r := h
 clear h
 have H' := Aside0.mk H
 clear H
 go_enter Try.func48, Try.ntmps48
 go_wp2
 (try simp only [Act.put, sA, sB, sC])
 go_loopg [7, 8] k (fun kq v7 v8 w' => ∃ (x0_1 : List (S79)) (x7_1 : Int) (x8_1 : Int), v7 = .int .i64 x7_1 ∧ v8 = .int .i64 x8_1 ∧ Aside0 (q2q.l0 kq x0_1 a1 20 x7_1 x8_1 = some r) ∧ Aside0 (kq ≤ k) ∧ Aside0 (Kd.R k79 79 w' w0.heap.size (fun k_ => (P0_ k_ ∨ w.heap.size ≤ k_)) u9000_ x0_1) ∧ Aside0 (Kept w w' (fun k_ => P0_ k_)) ∧ Aside0 (Below w0.heap.size w0 w'))
 case atStart => exact ⟨(l0), (0), (20), ac, ac, H', ⟨Nat.le_refl _⟩, ⟨gR HO0⟩, ⟨gP HK⟩, ⟨gB HB⟩⟩
 case round =>
  clear H'
  obtain ⟨x0_1, x7_1, x8_1, rfl, rfl, HA, HK1, HO_0, HK, HB⟩ := hrel
  cases gk with
  | zero => exact absurd HA.out (by simp [q2q.l0])
  | succ k1 =>
   have H := HA.out
   clear HA
   simp only [q2q.l0] at H
   by_cases c4 : x8_1 ≤ a1
   · rw [if_pos c4] at H
     have c4b0 := dT c4
     clear c4
     replace H := Option.bind_eq_some_iff.mp H
     obtain ⟨t257, A50, H⟩ := H
     replace H : (q2q.l0 k1 t257 a1 20 x8_1 (wrap64 (x8_1 + 20))) = some r := H
     have A5 := Aside0.mk A50; clear A50
     have H' := Aside0.mk H
     clear H
     obtain ⟨Ao6, co6, eo6⟩ := Kd.R_slice HO_0.out
     subst eo6
     go_wp2_with (first | ((with_reducible refine gate_callee (f := 58) rfl ?_); refine goesL_ (some 18) rfl rfl Try.func58 (by kernel_rfl) rfl #[.slice Ao6 x0_1.length co6, .int .i64 x7_1, .int .i64 x8_1, .func (.func 33) #[] #[]] rfl am ?_; (with_reducible refine (q1q.calls k1 (fun k_ => some k_ = (.slice Ao6 x0_1.length co6 : Value).ownBlock) (.slice Ao6 x0_1.length co6) x0_1 x7_1 x8_1  t257 w0 _ ?side1 ?side2 A5.out).mono ?_); (case side1 => exact gB HB); (case side2 => exact Kd.R_tight rfl HO_0.out); rintro e w7 ⟨rfl, hy_, hb, hkp⟩; refine ⟨_, rfl, ?_⟩; replace HK := aK (Kept.then_ (S := (fun k_ => P0_ k_)) (gP HK) hkp (fun k_ hs_ => (fun e_ => (HO_0.out.1 k_ e_.symm)) hs_)); replace HO_0 := aK (Kd.R_reok rfl hy_ (fun k_ e_ => HO_0.out.1 k_ e_)); replace HB := aK (hb); (try clear hb); (try clear hkp); (try clear hy_)))
     go_roundg k1
     case measure => have := HK1.out; omega
     case rel => exact ⟨(t257), (x8_1), (wrap64 (x8_1 + 20)), ac, ac, H', ⟨by have := HK1.out; omega⟩, ⟨gR HO_0⟩, ⟨gP HK⟩, ⟨gB HB⟩⟩
   · rw [if_neg c4] at H
     have c4b0 := dF c4
     clear c4
     replace H := Option.bind_eq_some_iff.mp H
     obtain ⟨t258, A80, H⟩ := H
     replace H : (q2q.l1 k1 t258 a1 20) = some r := H
     have A8 := Aside0.mk A80; clear A80
     have H' := Aside0.mk H
     clear H
     obtain ⟨Ao9, co9, eo9⟩ := Kd.R_slice HO_0.out
     subst eo9
     go_wp2_with (first | ((with_reducible refine gate_callee (f := 58) rfl ?_); refine goesL_ (some 27) rfl rfl Try.func58 (by kernel_rfl) rfl #[.slice Ao9 x0_1.length co9, .int .i64 x7_1, .int .i64 a1, .func (.func 33) #[] #[]] rfl am ?_; (with_reducible refine (q1q.calls k1 (fun k_ => some k_ = (.slice Ao9 x0_1.length co9 : Value).ownBlock) (.slice Ao9 x0_1.length co9) x0_1 x7_1 a1  t258 w0 _ ?side1 ?side2 A8.out).mono ?_); (case side1 => exact gB HB); (case side2 => exact Kd.R_tight rfl HO_0.out); rintro e w10 ⟨rfl, hy_, hb, hkp⟩; refine ⟨_, rfl, ?_⟩; replace HK := aK (Kept.then_ (S := (fun k_ => P0_ k_)) (gP HK) hkp (fun k_ hs_ => (fun e_ => (HO_0.out.1 k_ e_.symm)) hs_)); replace HO_0 := aK (Kd.R_reok rfl hy_ (fun k_ e_ => HO_0.out.1 k_ e_)); replace HB := aK (hb); (try clear hb); (try clear hkp); (try clear hy_)))
     (try simp only [Act.put, sA, sB, sC])
     go_loopg [6] k1 (fun kq v6 w' => ∃ (x0_2 : List (S79)) (x6_2 : Int), v6 = .int .i64 x6_2 ∧ Aside0 (q2q.l1 kq x0_2 a1 x6_2 = some r) ∧ Aside0 (kq ≤ k1) ∧ Aside0 (Kd.R k79 79 w' w0.heap.size (fun k_ => (P0_ k_ ∨ w.heap.size ≤ k_)) (.slice Ao9 x0_1.length co9) x0_2) ∧ Aside0 (Kept w w' (fun k_ => P0_ k_)) ∧ Aside0 (Below w0.heap.size w0 w'))
     case atStart => exact ⟨(t258), (20), ac, H', ⟨Nat.le_refl _⟩, ⟨gR HO_0⟩, ⟨gP HK⟩, ⟨gB HB⟩⟩
     case round =>
      clear H'; (try clear c4); (try clear c4b0)
      obtain ⟨x0_2, x6_2, rfl, HA, HK2, HO_0, HK, HB⟩ := hrel
      have hl0_2 := (Kd.R_reads' HO_0.out).1
      rw [hl0_2] at HO_0
      (try simp only [hl0_2])
      cases gk with
      | zero => exact absurd HA.out (by simp [q2q.l1])
      | succ k2 =>
       have H := HA.out
       clear HA
       simp only [q2q.l1] at H
       by_cases c11 : x6_2 < a1
       · rw [if_pos c11] at H
         have c11b0 := dT c11
         clear c11
         have H' := Aside0.mk H
         clear H
         go_wp2
         (try simp only [Act.put, sA, sB, sC])
         go_loopg [7, 8] k2 (fun kq v7 v8 w' => ∃ (x0_3 : List (S79)) (x7_3 : Int) (x8_3 : Int), v7 = .int .i64 x7_3 ∧ v8 = .int .i64 x8_3 ∧ Aside0 (q2q.l2 kq x0_3 a1 x6_2 x7_3 x8_3 = some r) ∧ Aside0 (kq ≤ k2) ∧ Aside0 (Kd.R k79 79 w' w0.heap.size (fun k_ => (P0_ k_ ∨ w.heap.size ≤ k_)) (.slice Ao9 x0_2.length co9) x0_3) ∧ Aside0 (Kept w w' (fun k_ => P0_ k_)) ∧ Aside0 (Below w0.heap.size w0 w'))
         case atStart => exact ⟨(x0_2), (0), (wrap64 (2 * x6_2)), ac, ac, H', ⟨Nat.le_refl _⟩, ⟨by (try simp only [hl0_2]); (with_reducible repeat (first | apply Kd.R_alloc | apply Kd.R_drewN | apply Kd.R_drew)); exact HO_0.out⟩, ⟨gP HK⟩, ⟨gB HB⟩⟩
         case round =>
          clear H'; (try clear c4); (try clear c4b0); (try clear c11); (try clear c11b0)
          obtain ⟨x0_3, x7_3, x8_3, rfl, rfl, HA, HK3, HO_0, HK, HB⟩ := hrel
          have hl0_3 := (Kd.R_reads' HO_0.out).1
          rw [hl0_3] at HO_0
          (try simp only [hl0_3])
          cases gk with
          | zero => exact absurd HA.out (by simp [q2q.l2])
          | succ k3 =>
           have H := HA.out
           clear HA
           simp only [q2q.l2] at H
           by_cases c12 : x8_3 ≤ a1
           · rw [if_pos c12] at H
             have c12b0 := dT c12
             clear c12
             replace H := Option.bind_eq_some_iff.mp H
             obtain ⟨t259, A130, H⟩ := H
             replace H : (q2q.l2 k3 t259 a1 x6_2 x8_3 (wrap64 (x8_3 + (wrap64 (2 * x6_2))))) = some r := H
             have A13 := Aside0.mk A130; clear A130
             have H' := Aside0.mk H
             clear H
             go_wp2_with (first | ((with_reducible refine gate_callee (f := 59) rfl ?_); refine goesL_ (some 43) rfl rfl Try.func59 (by kernel_rfl) rfl #[.slice Ao9 x0_3.length co9, .int .i64 x7_3, .int .i64 (wrap64 (x7_3 + x6_2)), .int .i64 x8_3, .func (.func 33) #[] #[]] rfl am ?_; (with_reducible refine (q0q.calls k3 (fun k_ => some k_ = (.slice Ao9 x0_3.length co9 : Value).ownBlock) (.slice Ao9 x0_3.length co9) x0_3 x7_3 (wrap64 (x7_3 + x6_2)) x8_3  t259 w0 _ ?side1 ?side2 A13.out).mono ?_); (case side1 => exact gB HB); (case side2 => exact Kd.R_tight rfl HO_0.out); rintro e w14 ⟨rfl, hy_, hb, hkp⟩; refine ⟨_, rfl, ?_⟩; replace HK := aK (Kept.then_ (S := (fun k_ => P0_ k_)) (gP HK) hkp (fun k_ hs_ => (fun e_ => (HO_0.out.1 k_ e_.symm)) hs_)); replace HO_0 := aK (Kd.R_reok rfl hy_ (fun k_ e_ => HO_0.out.1 k_ e_)); replace HB := aK (hb); (try clear hb); (try clear hkp); (try clear hy_)))
             (try simp only [← hl0_3])
             go_roundg k3
             case measure => have := HK1.out; have := HK2.out; have := HK3.out; omega
             case rel => exact ⟨(t259), (x8_3), (wrap64 (x8_3 + (wrap64 (2 * x6_2)))), ac, ac, H', ⟨by have := HK1.out; have := HK2.out; have := HK3.out; omega⟩, ⟨by (try simp only [hl0_2]); (try simp only [hl0_3]); (with_reducible repeat (first | apply Kd.R_alloc | apply Kd.R_drewN | apply Kd.R_drew)); exact HO_0.out⟩, ⟨gP HK⟩, ⟨gB HB⟩⟩
           · rw [if_neg c12] at H
             have c12b0 := dF c12
             clear c12
             by_cases c15 : (wrap64 (x7_3 + x6_2)) < a1
             · rw [if_pos c15] at H
               have c15b0 := dT c15
               clear c15
               replace H := Option.bind_eq_some_iff.mp H
               obtain ⟨t260, A160, H⟩ := H
               replace H : (q2q.l1 k3 t260 a1 (wrap64 (x6_2 * 2))) = some r := H
               have A16 := Aside0.mk A160; clear A160
               have H' := Aside0.mk H
               clear H
               go_wp2_with (first | ((with_reducible refine gate_callee (f := 59) rfl ?_); refine goesL_ (some 60) rfl rfl Try.func59 (by kernel_rfl) rfl #[.slice Ao9 x0_3.length co9, .int .i64 x7_3, .int .i64 (wrap64 (x7_3 + x6_2)), .int .i64 a1, .func (.func 33) #[] #[]] rfl am ?_; (with_reducible refine (q0q.calls k3 (fun k_ => some k_ = (.slice Ao9 x0_3.length co9 : Value).ownBlock) (.slice Ao9 x0_3.length co9) x0_3 x7_3 (wrap64 (x7_3 + x6_2)) a1  t260 w0 _ ?side1 ?side2 A16.out).mono ?_); (case side1 => exact gB HB); (case side2 => exact Kd.R_tight rfl HO_0.out); rintro e w17 ⟨rfl, hy_, hb, hkp⟩; refine ⟨_, rfl, ?_⟩; replace HK := aK (Kept.then_ (S := (fun k_ => P0_ k_)) (gP HK) hkp (fun k_ hs_ => (fun e_ => (HO_0.out.1 k_ e_.symm)) hs_)); replace HO_0 := aK (Kd.R_reok rfl hy_ (fun k_ e_ => HO_0.out.1 k_ e_)); replace HB := aK (hb); (try clear hb); (try clear hkp); (try clear hy_)))
               (try simp only [← hl0_2, ← hl0_3])
               go_roundg k3
               case measure => have := HK1.out; have := HK2.out; have := HK3.out; omega
               case rel => exact ⟨(t260), (wrap64 (x6_2 * 2)), ac, H', ⟨by have := HK1.out; have := HK2.out; have := HK3.out; omega⟩, ⟨by (try simp only [hl0_2]); (try simp only [hl0_3]); (with_reducible repeat (first | apply Kd.R_alloc | apply Kd.R_drewN | apply Kd.R_drew)); exact HO_0.out⟩, ⟨gP HK⟩, ⟨gB HB⟩⟩
             · rw [if_neg c15] at H
               have c15b0 := dF c15
               clear c15
               have H' := Aside0.mk H
               clear H
               go_wp2
               (try simp only [← hl0_2, ← hl0_3])
               go_roundg k3
               case measure => have := HK1.out; have := HK2.out; have := HK3.out; omega
               case rel => exact ⟨(x0_3), (wrap64 (x6_2 * 2)), ac, H', ⟨by have := HK1.out; have := HK2.out; have := HK3.out; omega⟩, ⟨by (try simp only [hl0_2]); (try simp only [hl0_3]); (with_reducible repeat (first | apply Kd.R_alloc | apply Kd.R_drewN | apply Kd.R_drew)); exact HO_0.out⟩, ⟨gP HK⟩, ⟨gB HB⟩⟩
       · rw [if_neg c11] at H
         have c11b0 := dF c11
         clear c11
         obtain rfl := Option.some.inj H
         go_wp2
         first | go_end0 | ((try simp only [Exit.inBlock, Exit.then]); refine bodyPost_ret (results_none rfl _ _ _) rfl ?_)
         exact ⟨by first | rfl | (simp [errW_none, errW_some] <;> rfl) | (simp [*, errW_none, errW_some] <;> rfl), (by first | exact (gR HO_0) | (simp only [hl0_2]; exact (gR HO_0))), gB HB, gP HK⟩
def q15q.f (k : Nat) (l0 : List (S79))  : Option ((List (S79))) := (q2q.f k l0 (l0.length : Int)).bind fun t261 => (some t261)
theorem q15q.mono : ∀ a0 k, LeO (q15q.f k a0) (q15q.f (k + 1) a0) := by
 intro a0 k
 unfold q15q.f
 repeat' first
  | (with_reducible exact q2q.mono _ _ _)
  | (with_reducible exact LeO.refl _)
  | (with_reducible exact LeO.none _)
  | (with_reducible refine LeO.ite ?_ ?_)
  | (with_reducible refine LeO.bind ?_ (fun _ => ?_))
  | exact q2q.mono _ _ _
  | exact LeO.none _
  | refine LeO.ite ?_ ?_
  | refine LeO.bind ?_ (fun _ => ?_)
set_option maxHeartbeats 8000000 in
set_option maxRecDepth 100000 in
theorem q15q.calls (k : Nat) (P0_ : Nat → Prop) (u9000_ : Value) (l0 : List (S79))  (r : List (S79)) (w0 w : World) (hB : Below w0.heap.size w0 w) (ho0 : Kd.R k79 79 w w0.heap.size P0_ u9000_ l0) (h : q15q.f k l0 = some r) :
 Calls Try.prog 32 #[u9000_, .func (.func 33) #[] #[]] w fun e w' => e = .returned (.tuple #[]) ∧ Kd.R k79 79 w' w0.heap.size (fun k_ => (P0_ k_ ∨ w.heap.size ≤ k_)) u9000_ r ∧ Below w0.heap.size w0 w' ∧ Kept w w' (fun k_ => P0_ k_) := by
 have HO0 := aK (show Kd.R k79 79 w w0.heap.size (fun k_ => (P0_ k_ ∨ w.heap.size ≤ k_)) u9000_ l0 from Kd.R_mono ho0 (fun k_ hk => (.inl hk)))
 have HK := aK (Kept.refl w (fun k_ => P0_ k_))
 have HW0 := Aside0.mk hB.size
 have HB := Aside0.mk hB; clear hB
 have H : ((q2q.f k l0 (l0.length : Int)).bind fun t261 => (some t261)) = some r := h
 clear h
 replace H := Option.bind_eq_some_iff.mp H
 obtain ⟨t261, A30, H⟩ := H
 replace H : (some t261) = some r := H
 have A3 := Aside0.mk A30; clear A30
 obtain rfl := Option.some.inj H
 obtain ⟨Ao4, co4, eo4⟩ := Kd.R_slice HO0.out
 subst eo4
 go_enter Try.func32, Try.ntmps32
 go_wp2_with (first | ((with_reducible refine gate_callee (f := 48) rfl ?_); refine goesL_ (some 8) rfl rfl Try.func48 (by kernel_rfl) rfl #[.slice Ao4 l0.length co4, .int .i64 (l0.length : Int), .func (.func 33) #[] #[]] rfl am ?_; (with_reducible refine (q2q.calls k (fun k_ => some k_ = (.slice Ao4 l0.length co4 : Value).ownBlock) (.slice Ao4 l0.length co4) l0 (l0.length : Int)  t261 w0 _ ?side1 ?side2 A3.out).mono ?_); (case side1 => exact gB HB); (case side2 => exact Kd.R_tight rfl HO0.out); rintro e w5 ⟨rfl, hy_, hb, hkp⟩; refine ⟨_, rfl, ?_⟩; replace HK := aK (Kept.then_ (S := (fun k_ => P0_ k_)) (gP HK) hkp (fun k_ hs_ => (fun e_ => (HO0.out.1 k_ e_.symm)) hs_)); replace HO0 := aK (Kd.R_reok rfl hy_ (fun k_ e_ => HO0.out.1 k_ e_)); replace HB := aK (hb); (try clear hb); (try clear hkp); (try clear hy_)))
 first | go_end0 | ((try simp only [Exit.inBlock, Exit.then]); refine bodyPost_ret (results_none rfl _ _ _) rfl ?_)
 exact ⟨by first | rfl | (simp [errW_none, errW_some] <;> rfl) | (simp [*, errW_none, errW_some] <;> rfl), gR HO0, gB HB, gP HK⟩
mutual
def close_Auction.l0 : Nat → List (S79) → List (S58) → List (S63) → Int → List (S63) → Int → Int → Option ((List (S58)) × Int × (List (S63)) × Int)
 | 0, _, _, _, _, _, _, _ => none
 | k + 1, x11, x12, x13, x14, x41, x42, x43 => if x43 < x42 then (if 0 ≤ x43 then (if x43 < (x41.length : Int) then (close_Auction.l1 k x11 x12 x13 x14 x41 x42 x43 x11 (x11.length : Int) 0 ((rd_T63 x41 x43).f0) ((rd_T63 x41 x43).f1)) else (none)) else (none)) else (some (x12, x14, x13, 0))
def close_Auction.l1 : Nat → List (S79) → List (S58) → List (S63) → Int → List (S63) → Int → Int → List (S79) → Int → Int → ByteArray → Int → Option ((List (S58)) × Int × (List (S63)) × Int)
 | 0, _, _, _, _, _, _, _, _, _, _, _, _ => none
 | k + 1, x11, x12, x13, x14, x41, x42, x43, x47, x48, x49, x271000, x271001 => if x49 < x48 then (if 0 ≤ x49 then (if x49 < (x47.length : Int) then (if ((rd_T79 x47 x49).f1).toList = x271000.toList then (close_Auction.j2 k x11 x12 x13 x14 x41 x42 x43 x47 x48 x49 (x271001 == 0) x271000 x271001 ((rd_T79 x47 x49).f0) ((rd_T79 x47 x49).f1) ((rd_T79 x47 x49).f2) ((rd_T79 x47 x49).f3)) else (close_Auction.j2 k x11 x12 x13 x14 x41 x42 x43 x47 x48 x49 true x271000 x271001 ((rd_T79 x47 x49).f0) ((rd_T79 x47 x49).f1) ((rd_T79 x47 x49).f2) ((rd_T79 x47 x49).f3))) else (none)) else (none)) else (if x271001 > 0 then (if x13.length < 5864062014805 then (close_Auction.l0 k x11 x12 (x13 ++ [(⟨x271000, x271001⟩ : S63)]) x14 x41 x42 (wrap64 (x43 + 1))) else (none)) else (close_Auction.l0 k x11 x12 x13 x14 x41 x42 (wrap64 (x43 + 1))))
def close_Auction.j2 : Nat → List (S79) → List (S58) → List (S63) → Int → List (S63) → Int → Int → List (S79) → Int → Int → Bool → ByteArray → Int → Int → ByteArray → Int → Int → Option ((List (S58)) × Int × (List (S63)) × Int)
 | 0, _, _, _, _, _, _, _, _, _, _, _, _, _, _, _, _, _ => none
 | k + 1, x11, x12, x13, x14, x41, x42, x43, x47, x48, x49, x62, x271000, x271001, x276000, x276001, x276002, x276003 => if x62 = true then (close_Auction.l1 k x11 x12 x13 x14 x41 x42 x43 x47 x48 (wrap64 (x49 + 1)) x271000 x271001) else ((asset_Worth.f k (mn x276002 x271001) x276003).bind fun bt276 => ((fixnum_Plus.f x14 bt276.1).bind fun bt278 => (if bt278.2 = 0 then (if x12.length < 3518437208883 then (close_Auction.l1 k x11 (x12 ++ [(⟨x276000, x271000, mn x276002 x271001, bt276.1⟩ : S58)]) x13 bt278.1 x41 x42 x43 x47 x48 (wrap64 (x49 + 1)) x271000 (wrap64 (x271001 - (mn x276002 x271001)))) else (none)) else (some (([] : List (S58)), 0, ([] : List (S63)), bt278.2)))))
end
def close_Auction.f (k : Nat) (l0 : List (S63)) (l1 : List (S79)) : Option ((List (S58)) × Int × (List (S63)) × Int) := (lots_Check.f k l0).bind fun bt262 => (if bt262.2 = 0 then ((close_check.f k l1).bind fun t264 => (if t264 = 0 then ((q22q.f l1).bind fun t265 => ((q15q.f k t265).bind fun t268 => (close_Auction.l0 k t268 ([] : List (S58)) ([] : List (S63)) 0 l0 (l0.length : Int) 0))) else (some (([] : List (S58)), 0, ([] : List (S63)), t264)))) else (some (([] : List (S58)), 0, ([] : List (S63)), bt262.2)))
theorem close_Auction.mono_l : ∀ k, (∀ y0 y1 y2 y3 y4 y5 y6, LeO (close_Auction.l0 k y0 y1 y2 y3 y4 y5 y6) (close_Auction.l0 (k + 1) y0 y1 y2 y3 y4 y5 y6)) ∧ (∀ y0 y1 y2 y3 y4 y5 y6 y7 y8 y9 y10 y11, LeO (close_Auction.l1 k y0 y1 y2 y3 y4 y5 y6 y7 y8 y9 y10 y11) (close_Auction.l1 (k + 1) y0 y1 y2 y3 y4 y5 y6 y7 y8 y9 y10 y11)) ∧ (∀ y0 y1 y2 y3 y4 y5 y6 y7 y8 y9 y10 y11 y12 y13 y14 y15 y16, LeO (close_Auction.j2 k y0 y1 y2 y3 y4 y5 y6 y7 y8 y9 y10 y11 y12 y13 y14 y15 y16) (close_Auction.j2 (k + 1) y0 y1 y2 y3 y4 y5 y6 y7 y8 y9 y10 y11 y12 y13 y14 y15 y16))
 | 0 => ⟨fun _ _ _ _ _ _ _ r h => by simp [close_Auction.l0] at h, fun _ _ _ _ _ _ _ _ _ _ _ _ r h => by simp [close_Auction.l1] at h, fun _ _ _ _ _ _ _ _ _ _ _ _ _ _ _ _ _ r h => by simp [close_Auction.j2] at h⟩
 | k + 1 => by
  obtain ⟨ih0, ih1, ih2⟩ := close_Auction.mono_l k
  refine ⟨?_, ?_, ?_⟩
  intro y0 y1 y2 y3 y4 y5 y6; unfold close_Auction.l0; rotate_left
  intro y0 y1 y2 y3 y4 y5 y6 y7 y8 y9 y10 y11; unfold close_Auction.l1; rotate_left
  intro y0 y1 y2 y3 y4 y5 y6 y7 y8 y9 y10 y11 y12 y13 y14 y15 y16; unfold close_Auction.j2; rotate_left
  all_goals repeat' first
  | (with_reducible exact ih0 _ _ _ _ _ _ _)
  | (with_reducible exact ih1 _ _ _ _ _ _ _ _ _ _ _ _)
  | (with_reducible exact ih2 _ _ _ _ _ _ _ _ _ _ _ _ _ _ _ _ _)
  | (with_reducible exact asset_Worth.mono _ _ _)
  | (with_reducible exact close_check.mono _ _)
  | (with_reducible exact lots_Check.mono _ _)
  | (with_reducible exact q15q.mono _ _)
  | (with_reducible exact LeO.refl _)
  | (with_reducible exact LeO.none _)
  | (with_reducible refine LeO.ite ?_ ?_)
  | (with_reducible refine LeO.bind ?_ (fun _ => ?_))
  | exact ih0 _ _ _ _ _ _ _
  | exact ih1 _ _ _ _ _ _ _ _ _ _ _ _
  | exact ih2 _ _ _ _ _ _ _ _ _ _ _ _ _ _ _ _ _
  | exact asset_Worth.mono _ _ _
  | exact close_check.mono _ _
  | exact lots_Check.mono _ _
  | exact q15q.mono _ _
  | exact LeO.none _
  | refine LeO.ite ?_ ?_
  | refine LeO.bind ?_ (fun _ => ?_)
theorem close_Auction.mono : ∀ a0 a1 k, LeO (close_Auction.f k a0 a1) (close_Auction.f (k + 1) a0 a1) := by
 intro a0 a1 k
 obtain ⟨ih0, ih1, ih2⟩ := close_Auction.mono_l k
 unfold close_Auction.f
 repeat' first
  | (with_reducible exact ih0 _ _ _ _ _ _ _)
  | (with_reducible exact ih1 _ _ _ _ _ _ _ _ _ _ _ _)
  | (with_reducible exact ih2 _ _ _ _ _ _ _ _ _ _ _ _ _ _ _ _ _)
  | (with_reducible exact asset_Worth.mono _ _ _)
  | (with_reducible exact close_check.mono _ _)
  | (with_reducible exact lots_Check.mono _ _)
  | (with_reducible exact q15q.mono _ _)
  | (with_reducible exact LeO.refl _)
  | (with_reducible exact LeO.none _)
  | (with_reducible refine LeO.ite ?_ ?_)
  | (with_reducible refine LeO.bind ?_ (fun _ => ?_))
  | exact ih0 _ _ _ _ _ _ _
  | exact ih1 _ _ _ _ _ _ _ _ _ _ _ _
  | exact ih2 _ _ _ _ _ _ _ _ _ _ _ _ _ _ _ _ _
  | exact asset_Worth.mono _ _ _
  | exact close_check.mono _ _
  | exact lots_Check.mono _ _
  | exact q15q.mono _ _
  | exact LeO.none _
  | refine LeO.ite ?_ ?_
  | refine LeO.bind ?_ (fun _ => ?_)
set_option maxHeartbeats 8000000 in
set_option maxRecDepth 100000 in
theorem close_Auction.calls (k : Nat) (A0 : Option Addr) (c0 : Nat) (l0 : List (S63)) (A1 : Option Addr) (c1 : Nat) (l1 : List (S79)) (r1 : List (S58)) (r2 : Int) (r3 : List (S63)) (r4 : Int) (w : World) (hr0 : Kd.C k63 w A0 l0.length l0) (hc0 : l0.length ≤ c0) (hr1 : Kd.C k79 w A1 l1.length l1) (hc1 : l1.length ≤ c1) (h : close_Auction.f k l0 l1 = some (r1, r2, r3, r4)) :
 Calls Try.prog 16 #[.slice A0 l0.length c0, .slice A1 l1.length c1] w fun e w' => ∃ v0_ v2_ : Value, e = .returned (.tuple #[v0_, .int .i64 r2, v2_, .int .i64 r4]) ∧ Kd.R k58 58 w' w.heap.size (fun _ => True) v0_ r1 ∧ Kd.R k63 63 w' w.heap.size (fun _ => True) v2_ r3 ∧ Below w.heap.size w w' := by
 have hu63 := Try.underlying63
 have hu79 := Try.underlying79
 have hu58 := Try.underlying58
 have HR0 := Aside0.mk hr0; have HC0 := Aside0.mk hc0; clear hr0 hc0; have HR1 := Aside0.mk hr1; have HC1 := Aside0.mk hc1; clear hr1 hc1
 have HB := aK (Below.refl w.heap.size w)
 have H : ((lots_Check.f k l0).bind fun bt262 => (if bt262.2 = 0 then ((close_check.f k l1).bind fun t264 => (if t264 = 0 then ((q22q.f l1).bind fun t265 => ((q15q.f k t265).bind fun t268 => (close_Auction.l0 k t268 ([] : List (S58)) ([] : List (S63)) 0 l0 (l0.length : Int) 0))) else (some (([] : List (S58)), 0, ([] : List (S63)), t264)))) else (some (([] : List (S58)), 0, ([] : List (S63)), bt262.2)))) = some (r1, r2, r3, r4) := h
 clear h
 replace H := Option.bind_eq_some_iff.mp H
 obtain ⟨⟨t262, t263⟩, A30, H⟩ := H
 replace H : (if t263 = 0 then ((close_check.f k l1).bind fun t264 => (if t264 = 0 then ((q22q.f l1).bind fun t265 => ((q15q.f k t265).bind fun t268 => (close_Auction.l0 k t268 ([] : List (S58)) ([] : List (S63)) 0 l0 (l0.length : Int) 0))) else (some (([] : List (S58)), 0, ([] : List (S63)), t264)))) else (some (([] : List (S58)), 0, ([] : List (S63)), t263))) = some (r1, r2, r3, r4) := H
 have A3 := Aside0.mk A30; clear A30
 by_cases c4 : t263 = 0
 · rw [if_pos c4] at H
   have c4b0 : (t263 == 0) = true := beq_iff_eq.mpr c4
   have c4b1 : (t263 != 0) = false := bne_eq_false_iff_eq.mpr c4
   clear c4
   replace H := Option.bind_eq_some_iff.mp H
   obtain ⟨t264, A50, H⟩ := H
   replace H : (if t264 = 0 then ((q22q.f l1).bind fun t265 => ((q15q.f k t265).bind fun t268 => (close_Auction.l0 k t268 ([] : List (S58)) ([] : List (S63)) 0 l0 (l0.length : Int) 0))) else (some (([] : List (S58)), 0, ([] : List (S63)), t264))) = some (r1, r2, r3, r4) := H
   have A5 := Aside0.mk A50; clear A50
   by_cases c6 : t264 = 0
   · rw [if_pos c6] at H
     have c6b0 : (t264 == 0) = true := beq_iff_eq.mpr c6
     have c6b1 : (t264 != 0) = false := bne_eq_false_iff_eq.mpr c6
     clear c6
     replace H := Option.bind_eq_some_iff.mp H
     obtain ⟨t265, A70, H⟩ := H
     replace H : ((q15q.f k t265).bind fun t268 => (close_Auction.l0 k t268 ([] : List (S58)) ([] : List (S63)) 0 l0 (l0.length : Int) 0)) = some (r1, r2, r3, r4) := H
     have A7 := Aside0.mk A70; clear A70
     replace H := Option.bind_eq_some_iff.mp H
     obtain ⟨t268, A80, H⟩ := H
     replace H : (close_Auction.l0 k t268 ([] : List (S58)) ([] : List (S63)) 0 l0 (l0.length : Int) 0) = some (r1, r2, r3, r4) := H
     have A8 := Aside0.mk A80; clear A80
     have H' := Aside0.mk H
     clear H
     go_enter Try.func16, Try.ntmps16
     go_wp2_with (first | ((with_reducible refine gate_callee (f := 29) rfl ?_); refine goesL_ (some 26) rfl rfl Try.func29 (by kernel_rfl) rfl #[.slice A0 l0.length c0] rfl am ?_; (with_reducible refine (lots_Check.calls k _ _ l0 t262 t263 _ ?side1 ?side2 A3.out).mono ?_); (case side1 => repeat (first | exact HR0.out | (with_reducible refine Kd.C_alloc ?_ _) | (with_reducible refine Kd.C_drewN ?_ _) | (with_reducible refine Kd.C_drew ?_))); (case side2 => exact HC0.out); rintro e w9 ⟨rfl, hb⟩; refine ⟨_, rfl, ?_⟩; replace HB := aK (below_step (gB HB) hb); (try clear hb); (try clear hb2); (try clear hk); (try clear hi)) | ((with_reducible refine gate_callee (f := 30) rfl ?_); refine goesL_ (some 33) rfl rfl Try.func30 (by kernel_rfl) rfl #[.slice A1 l1.length c1] rfl am ?_; (with_reducible refine (close_check.calls k _ _ l1 t264 _ ?side1 ?side2 A5.out).mono ?_); (case side1 => exact gC HR1 HB); (case side2 => exact HC1.out); rintro e w10 ⟨rfl, hb⟩; refine ⟨_, rfl, ?_⟩; replace HB := aK (below_step (gB HB) hb); (try clear hb); (try clear hb2); (try clear hk); (try clear hi)) | ((with_reducible refine gate_callee (f := 31) rfl ?_); refine goesL_ (some 38) rfl rfl Try.func31 (by kernel_rfl) rfl #[.slice A1 l1.length c1] rfl am ?_; (with_reducible refine (q22q.calls _ _ l1 t265 _ ?side1 ?side2 A7.out).mono ?_); (case side1 => exact gC HR1 HB); (case side2 => exact HC1.out); rintro e w11 ⟨v266, rfl, ho0, hb⟩; refine ⟨_, rfl, ?_⟩; have HO267 := aK (Kd.R_lower ho0 (below_size (gB HB))); replace HB := aK (below_step (gB HB) hb); (try clear hb); (try clear hb2); (try clear hk); (try clear hi); (try clear ho0); obtain ⟨Ao12, co12, eo12⟩ := Kd.R_slice HO267.out; subst eo12) | ((with_reducible refine gate_callee (f := 32) rfl ?_); refine goesL_ (some 40) rfl rfl Try.func32 (by kernel_rfl) rfl #[.slice Ao12 t265.length co12, .func (.func 33) #[] #[]] rfl am ?_; (with_reducible refine (q15q.calls k (fun k_ => some k_ = (.slice Ao12 t265.length co12 : Value).ownBlock) (.slice Ao12 t265.length co12) t265  t268 w _ ?side1 ?side2 A8.out).mono ?_); (case side1 => exact gB HB); (case side2 => exact Kd.R_tight rfl HO267.out); rintro e w13 ⟨rfl, hy_, hb, hkp⟩; refine ⟨_, rfl, ?_⟩; replace HO267 := aK (Kd.R_reok rfl hy_ (fun k_ e_ => HO267.out.1 k_ e_)); replace HB := aK (hb); (try clear hb); (try clear hkp); (try clear hy_)))
     go_loopg [12, 13, 14, 43] k (fun kq v12 v13 v14 v43 w' => ∃ (x12_1 : List (S58)) (x13_1 : List (S63)) (x14_1 : Int) (x43_1 : Int), v14 = .int .i64 x14_1 ∧ v43 = .int .i64 x43_1 ∧ Aside0 (close_Auction.l0 kq t268 x12_1 x13_1 x14_1 l0 (l0.length : Int) x43_1 = some (r1, r2, r3, r4)) ∧ Aside0 (kq ≤ k) ∧ Aside0 (Kd.R k79 79 w' w.heap.size (fun _ => True) (.slice Ao12 t265.length co12) t268) ∧ Aside0 (Kd.R k58 58 w' w.heap.size (fun _ => True) v12 x12_1) ∧ Aside0 (Kd.R k63 63 w' w.heap.size (fun _ => True) v13 x13_1) ∧ Aside0 (Below w.heap.size w w'))
     case atStart => exact ⟨(([] : List (S58))), (([] : List (S63))), (0), (0), ac, ac, H', ⟨Nat.le_refl _⟩, ⟨gR HO267⟩, ⟨by first | exact Kd.R_nil _ _ _ _ _ | exact Kd.N_nil _ _ _ _ _ | exact Kd.V_nil _ _ _ _ _ | exact Kd.Q_nil _ _ _ _ _ | exact Kd.S_nil _ _ _ _ _⟩, ⟨by first | exact Kd.R_nil _ _ _ _ _ | exact Kd.N_nil _ _ _ _ _ | exact Kd.V_nil _ _ _ _ _ | exact Kd.Q_nil _ _ _ _ _ | exact Kd.S_nil _ _ _ _ _⟩, ⟨gB HB⟩⟩
     case round =>
      clear H'; (try clear c1); (try clear c4); (try clear c4b0); (try clear c4b1); (try clear c6); (try clear c6b0); (try clear c6b1)
      obtain ⟨x12_1, x13_1, x14_1, x43_1, rfl, rfl, HA, HK1, HO_11, HO_12, HO_13, HB⟩ := hrel
      have hl11_1 := (Kd.R_reads' HO_11.out).1
      rw [hl11_1] at HO_11
      (try simp only [hl11_1])
      (try simp only [hl11_1] at HO_12)
      (try simp only [hl11_1] at HO_13)
      cases gk with
      | zero => exact absurd HA.out (by simp [close_Auction.l0])
      | succ k1 =>
       have H := HA.out
       clear HA
       simp only [close_Auction.l0] at H
       by_cases c14 : x43_1 < (l0.length : Int)
       · rw [if_pos c14] at H
         have c14b0 := dT c14
         clear c14
         by_cases c15 : 0 ≤ x43_1
         · rw [if_pos c15] at H
           have c15b0 := dT c15
           clear c15
           by_cases c16 : x43_1 < (l0.length : Int)
           · rw [if_pos c16] at H
             have c16b0 := dT c16
             clear c16
             have H' := Aside0.mk H
             clear H
             obtain ⟨⟨p269, q269⟩, ad269, rfl, hx269_0, hx269_1⟩ := za (at_T63 HR0.out) x43_1
             replace hx269_0 := gc HB hx269_0
             replace hx269_1 := gc HB hx269_1
             go_wp2_with (first | ((with_reducible refine gate_dst (N := 16) rfl ?_); refine box_event ?hg (N := 16) ?hd (cs := #[.string (⟨#[]⟩ : ByteArray), .int .i64 0]) (t := 63) ?hr ?_; (case hd => rfl); (case hg => rfl); (case hr => first | (go_simp; done) | (go_simp; rfl) | (have hcq := hcq_.out; have hfq := hfq_.out; go_simp; done)); intro gb270 hg w17 hbox hb; replace HO_11 := aK (Kd.R_below (gR HO_11) hb); replace HO_12 := aK (Kd.R_below (gR HO_12) hb); replace HO_13 := aK (Kd.R_below (Kd.R_elderB (gR HO_13) gb270 (Nat.le_of_eq hg.symm)) hb); have BK270 := aK (hbox); have GW270 := aK ((by rw [hg]; exact (below_size (gB HB)) : w.heap.size ≤ gb270)); have GE270 := aK ((by rw [hg]; exact (below_size (gB HB)) : w.heap.size ≤ gb270)); replace HB := aK (below_step (gB HB) hb); clear hb hbox hg; have hcz18_0 : w17.cell? ⟨gb270, 0, none⟩ = some (.string (⟨#[]⟩ : ByteArray)) := (blk_cell BK270.out 0).trans rfl; have hcz18_1 : w17.cell? ⟨gb270, 1, none⟩ = some (.int .i64 0) := (blk_cell BK270.out 1).trans rfl; have hfz18_0 := blk_frozen BK270.out 0; have hfz18_1 := blk_frozen BK270.out 1))
             go_loopg [12, 14, 49] k1 (fun kq v12 v14 v49 w' => ∃ (x12_2 : List (S58)) (x14_2 : Int) (x49_2 : Int) (x271001_2 : Int), v14 = .int .i64 x14_2 ∧ v49 = .int .i64 x49_2 ∧ Aside0 (close_Auction.l1 kq t268 x12_2 x13_1 x14_2 l0 (l0.length : Int) x43_1 t268 (t268.length : Int) x49_2 ((rd_T63 l0 x43_1).f0) x271001_2 = some (r1, r2, r3, r4)) ∧ Aside0 (kq ≤ k1) ∧ Aside0 (Kd.R k79 79 w' w.heap.size (fun _ => True) (.slice Ao12 t268.length co12) t268) ∧ Aside0 (Kd.R k58 58 w' w.heap.size (fun _ => True) v12 x12_2) ∧ Aside0 (Kd.R k63 63 w' w.heap.size (fun k_ => k_ ≠ gb270) u13 x13_1) ∧ Aside0 (Kd.R k79 79 w' w.heap.size (fun _ => True) (.slice Ao12 t268.length co12) t268) ∧ Aside0 (w'.heap[gb270]? = some (.cells #[.string ((rd_T63 l0 x43_1).f0), .int .i64 x271001_2] 63 (0, 0))) ∧ Aside0 (Below w.heap.size w w'))
             case atStart => exact ⟨(x12_1), (x14_1), (0), ((rd_T63 l0 x43_1).f1), ac, ac, H', ⟨Nat.le_refl _⟩, ⟨by (try simp only [hl11_1]); (with_reducible repeat (first | apply Kd.R_alloc | apply Kd.R_drewN | apply Kd.R_drew)); exact Kd.R_mono (Kd.R_far (p := ⟨gb270, 1, none⟩) (Kd.R_far (p := ⟨gb270, 0, none⟩) (Kd.R_types HO_11.out BK270.out (by decide)) (fun _ hk => hk.2) (.string ((rd_T63 l0 x43_1).f0))) (fun _ hk => hk.2) (.int .i64 ((rd_T63 l0 x43_1).f1))) (fun _ hk => trivial)⟩, ⟨by (try simp only [hl11_1]); (with_reducible repeat (first | apply Kd.R_alloc | apply Kd.R_drewN | apply Kd.R_drew)); exact Kd.R_mono (Kd.R_far (p := ⟨gb270, 1, none⟩) (Kd.R_far (p := ⟨gb270, 0, none⟩) (Kd.R_types HO_12.out BK270.out (by decide)) (fun _ hk => hk.2) (.string ((rd_T63 l0 x43_1).f0))) (fun _ hk => hk.2) (.int .i64 ((rd_T63 l0 x43_1).f1))) (fun _ hk => trivial)⟩, ⟨by (try simp only [hl11_1]); (with_reducible repeat (first | apply Kd.R_alloc | apply Kd.R_drewN | apply Kd.R_drew)); exact Kd.R_mono (Kd.R_far (p := ⟨gb270, 1, none⟩) (Kd.R_far (p := ⟨gb270, 0, none⟩) (Kd.R_mono HO_13.out (fun k_ hk => (⟨hk, hk.2⟩ : _ ∧ k_ ≠ gb270))) (fun _ hk => hk.2) (.string ((rd_T63 l0 x43_1).f0))) (fun _ hk => hk.2) (.int .i64 ((rd_T63 l0 x43_1).f1))) (fun _ hk => hk.1.2)⟩, ⟨by (try simp only [hl11_1]); (with_reducible repeat (first | apply Kd.R_alloc | apply Kd.R_drewN | apply Kd.R_drew)); exact Kd.R_mono (Kd.R_far (p := ⟨gb270, 1, none⟩) (Kd.R_far (p := ⟨gb270, 0, none⟩) (Kd.R_types HO_11.out BK270.out (by decide)) (fun _ hk => hk.2) (.string ((rd_T63 l0 x43_1).f0))) (fun _ hk => hk.2) (.int .i64 ((rd_T63 l0 x43_1).f1))) (fun _ hk => trivial)⟩, ⟨by (try simp only [hl11_1]); (with_reducible repeat (first | refine blk_drewN ?_ _ | refine blk_drew ?_ | refine blk_alloc ?_ _)); refine blk_put (cs := #[.string ((rd_T63 l0 x43_1).f0), .int .i64 0]) ?_ 1 _ rfl; (with_reducible repeat (first | refine blk_drewN ?_ _ | refine blk_drew ?_ | refine blk_alloc ?_ _)); refine blk_put (cs := #[.string (⟨#[]⟩ : ByteArray), .int .i64 0]) ?_ 0 _ rfl; (with_reducible repeat (first | refine blk_drewN ?_ _ | refine blk_drew ?_ | refine blk_alloc ?_ _)); exact BK270.out⟩, ⟨gS HB⟩⟩
             case round =>
              clear H'; (try clear c1); (try clear c4); (try clear c4b0); (try clear c4b1); (try clear c6); (try clear c6b0); (try clear c6b1); (try clear c14); (try clear c14b0); (try clear c15); (try clear c15b0); (try clear c16); (try clear c16b0); (try clear hcz18_0); (try clear hcz18_1); (try clear hfz18_0); (try clear hfz18_1); (try clear hx269_0); (try clear hx269_1); (try clear p269); (try clear q269)
              obtain ⟨x12_2, x14_2, x49_2, x271001_2, rfl, rfl, HA, HK2, HO_11, HO_12, HO_13, HO_47, BK270, HB⟩ := hrel
              cases gk with
              | zero => exact absurd HA.out (by simp [close_Auction.l1])
              | succ k2 =>
               have H := HA.out
               clear HA
               simp only [close_Auction.l1] at H
               by_cases c19 : x49_2 < (t268.length : Int)
               · rw [if_pos c19] at H
                 have c19b0 := dT c19
                 clear c19
                 by_cases c20 : 0 ≤ x49_2
                 · rw [if_pos c20] at H
                   have c20b0 := dT c20
                   clear c20
                   by_cases c21 : x49_2 < (t268.length : Int)
                   · rw [if_pos c21] at H
                     have c21b0 := dT c21
                     clear c21; have HC22 := Aside0.mk H; clear H
                     obtain ⟨⟨p274, q274⟩, ad274, rfl, hx274_0, hx274_1, hx274_2, hx274_3⟩ := za (at_T79 (Kd.R_reads' HO_47.out).2.2) x49_2
                     go_upto_region 18 with (first | ((with_reducible refine gate_dst (N := 18) rfl ?_); refine box_event ?hg (N := 18) ?hd (cs := #[.int .i64 0, .string (⟨#[]⟩ : ByteArray), .int .i64 0, .int .i64 0]) (t := 79) ?hr ?_; (case hd => rfl); (case hg => rfl); (case hr => first | (go_simp; done) | (go_simp; rfl) | (have hcq := hcq_.out; have hfq := hfq_.out; go_simp; done)); intro gb275 hg w23 hbox hb; replace HO_11 := aK (Kd.R_below (Kd.R_elderB (gR HO_11) gb275 (Nat.le_of_eq hg.symm)) hb); replace HO_12 := aK (Kd.R_below (gR HO_12) hb); replace HO_13 := aK (Kd.R_below (gR HO_13) hb); replace HO_47 := aK (Kd.R_below (Kd.R_elderB (gR HO_47) gb275 (Nat.le_of_eq hg.symm)) hb); have BK275 := aK (hbox); have GW275 := aK ((by rw [hg]; exact (below_size (gS HB)) : w.heap.size ≤ gb275)); have GE275 := aK ((by rw [hg]; exact (below_size (gS HB)) : w.heap.size ≤ gb275)); replace HB := aK (below_step (gS HB) hb); have NB270_275 := aK ((by rw [hg]; exact Nat.ne_of_lt (blk_lt (g := gb270) (o := .cells #[.string ((rd_T63 l0 x43_1).f0), .int .i64 x271001_2] 63 (0, 0)) (gK BK270)) : gb270 ≠ gb275)); have NB275_270 := aK ((by rw [hg]; exact Nat.ne_of_gt (blk_lt (g := gb270) (o := .cells #[.string ((rd_T63 l0 x43_1).f0), .int .i64 x271001_2] 63 (0, 0)) (gK BK270)) : gb275 ≠ gb270)); replace BK270 := aK (blk_below (g := gb270) (o := .cells #[.string ((rd_T63 l0 x43_1).f0), .int .i64 x271001_2] 63 (0, 0)) (gK BK270) hb); clear hb hbox hg; have hnb24 := NB275_270.out; have hnc24 := NB270_275.out; have hcz25_0 : w23.cell? ⟨gb275, 0, none⟩ = some (.int .i64 0) := (blk_cell BK275.out 0).trans rfl; have hcz25_1 : w23.cell? ⟨gb275, 1, none⟩ = some (.string (⟨#[]⟩ : ByteArray)) := (blk_cell BK275.out 1).trans rfl; have hcz25_2 : w23.cell? ⟨gb275, 2, none⟩ = some (.int .i64 0) := (blk_cell BK275.out 2).trans rfl; have hcz25_3 : w23.cell? ⟨gb275, 3, none⟩ = some (.int .i64 0) := (blk_cell BK275.out 3).trans rfl; have hfz25_0 := blk_frozen BK275.out 0; have hfz25_1 := blk_frozen BK275.out 1; have hfz25_2 := blk_frozen BK275.out 2; have hfz25_3 := blk_frozen BK275.out 3))
                     (try simp only [Act.put, sA, sB, sC])
                     go_cut [62] (fun v62 wc => ∃ (kq : Nat) (x62_21 : Bool), v62 = .bool x62_21 ∧ Aside0 (close_Auction.j2 kq t268 x12_2 x13_1 x14_2 l0 (l0.length : Int) x43_1 t268 (t268.length : Int) x49_2 x62_21 ((rd_T63 l0 x43_1).f0) x271001_2 ((rd_T79 t268 x49_2).f0) ((rd_T79 t268 x49_2).f1) ((rd_T79 t268 x49_2).f2) ((rd_T79 t268 x49_2).f3) = some (r1, r2, r3, r4)) ∧ Aside0 (kq ≤ k2) ∧ Aside0 (Kd.R k79 79 wc w.heap.size (fun k_ => k_ ≠ gb275) (.slice (some ad274) t268.length co12) t268) ∧ Aside0 (Kd.R k58 58 wc w.heap.size (fun _ => True) u12 x12_2) ∧ Aside0 (Kd.R k63 63 wc w.heap.size (fun k_ => k_ ≠ gb270) u13 x13_1) ∧ Aside0 (Kd.R k79 79 wc w.heap.size (fun k_ => k_ ≠ gb275) (.slice (some ad274) t268.length co12) t268) ∧ Aside0 (wc.heap[gb270]? = some (.cells #[.string ((rd_T63 l0 x43_1).f0), .int .i64 x271001_2] 63 (0, 0))) ∧ Aside0 (wc.heap[gb275]? = some (.cells #[.int .i64 ((rd_T79 t268 x49_2).f0), .string ((rd_T79 t268 x49_2).f1), .int .i64 ((rd_T79 t268 x49_2).f2), .int .i64 ((rd_T79 t268 x49_2).f3)] 79 (0, 0))) ∧ Aside0 (Below w.heap.size w wc))
                     case first =>
                      have H := HC22.out
                      clear HC22
                      by_cases c26 : ((rd_T79 t268 x49_2).f1).toList = ((rd_T63 l0 x43_1).f0).toList
                      · rw [if_pos c26] at H
                        have c26b0 : (((rd_T79 t268 x49_2).f1).toList == ((rd_T63 l0 x43_1).f0).toList) = true := beq_iff_eq.mpr c26
                        have c26b1 : (((rd_T79 t268 x49_2).f1).toList != ((rd_T63 l0 x43_1).f0).toList) = false := bne_eq_false_iff_eq.mpr c26
                        clear c26
                        (first | rw [c26b0] | (simp only [i64_w, i32_w]; rw [c26b0]) | skip)
                        have H' := Aside0.mk H
                        clear H
                        have hnb27 := NB275_270.out
                        have hnc27 := NB270_275.out
                        have hcz28_0 : w23.cell? ⟨gb275, 0, none⟩ = some (.int .i64 0) := (blk_cell BK275.out 0).trans rfl
                        have hcz28_1 : w23.cell? ⟨gb275, 1, none⟩ = some (.string (⟨#[]⟩ : ByteArray)) := (blk_cell BK275.out 1).trans rfl
                        have hcz28_2 : w23.cell? ⟨gb275, 2, none⟩ = some (.int .i64 0) := (blk_cell BK275.out 2).trans rfl
                        have hcz28_3 : w23.cell? ⟨gb275, 3, none⟩ = some (.int .i64 0) := (blk_cell BK275.out 3).trans rfl
                        have hfz28_0 := blk_frozen BK275.out 0
                        have hfz28_1 := blk_frozen BK275.out 1
                        have hfz28_2 := blk_frozen BK275.out 2
                        have hfz28_3 := blk_frozen BK275.out 3
                        have hcz29_0 : w23.cell? ⟨gb270, 0, none⟩ = some (.string ((rd_T63 l0 x43_1).f0)) := (blk_cell BK270.out 0).trans rfl
                        have hcz29_1 : w23.cell? ⟨gb270, 1, none⟩ = some (.int .i64 x271001_2) := (blk_cell BK270.out 1).trans rfl
                        have hfz29_0 := blk_frozen BK270.out 0
                        have hfz29_1 := blk_frozen BK270.out 1
                        go_wp2
                        go_meet
                        case rel => exact ⟨_, ((x271001_2 == 0)), ac, H', ⟨by have := HK1.out; have := HK2.out; first | omega | exact Nat.le_refl _⟩, ⟨by (try simp only [hl11_1]); (with_reducible repeat (first | apply Kd.R_alloc | apply Kd.R_drewN | apply Kd.R_drew)); exact Kd.R_mono (Kd.R_far (p := ⟨gb275, 3, none⟩) (Kd.R_far (p := ⟨gb275, 2, none⟩) (Kd.R_far (p := ⟨gb275, 1, none⟩) (Kd.R_far (p := ⟨gb275, 0, none⟩) (Kd.R_mono HO_11.out (fun k_ hk => (⟨hk, hk.2⟩ : _ ∧ k_ ≠ gb275))) (fun _ hk => hk.2) (.int .i64 ((rd_T79 t268 x49_2).f0))) (fun _ hk => hk.2) (.string ((rd_T79 t268 x49_2).f1))) (fun _ hk => hk.2) (.int .i64 ((rd_T79 t268 x49_2).f2))) (fun _ hk => hk.2) (.int .i64 ((rd_T79 t268 x49_2).f3))) (fun _ hk => hk.1.2)⟩, ⟨by (try simp only [hl11_1]); (with_reducible repeat (first | apply Kd.R_alloc | apply Kd.R_drewN | apply Kd.R_drew)); exact Kd.R_mono (Kd.R_far (p := ⟨gb275, 3, none⟩) (Kd.R_far (p := ⟨gb275, 2, none⟩) (Kd.R_far (p := ⟨gb275, 1, none⟩) (Kd.R_far (p := ⟨gb275, 0, none⟩) (Kd.R_types HO_12.out BK275.out (by decide)) (fun _ hk => hk.2) (.int .i64 ((rd_T79 t268 x49_2).f0))) (fun _ hk => hk.2) (.string ((rd_T79 t268 x49_2).f1))) (fun _ hk => hk.2) (.int .i64 ((rd_T79 t268 x49_2).f2))) (fun _ hk => hk.2) (.int .i64 ((rd_T79 t268 x49_2).f3))) (fun _ hk => trivial)⟩, ⟨by (try simp only [hl11_1]); (with_reducible repeat (first | apply Kd.R_alloc | apply Kd.R_drewN | apply Kd.R_drew)); exact Kd.R_mono (Kd.R_far (p := ⟨gb275, 3, none⟩) (Kd.R_far (p := ⟨gb275, 2, none⟩) (Kd.R_far (p := ⟨gb275, 1, none⟩) (Kd.R_far (p := ⟨gb275, 0, none⟩) (Kd.R_types HO_13.out BK275.out (by decide)) (fun _ hk => hk.2) (.int .i64 ((rd_T79 t268 x49_2).f0))) (fun _ hk => hk.2) (.string ((rd_T79 t268 x49_2).f1))) (fun _ hk => hk.2) (.int .i64 ((rd_T79 t268 x49_2).f2))) (fun _ hk => hk.2) (.int .i64 ((rd_T79 t268 x49_2).f3))) (fun _ hk => hk.1)⟩, ⟨by (try simp only [hl11_1]); (with_reducible repeat (first | apply Kd.R_alloc | apply Kd.R_drewN | apply Kd.R_drew)); exact Kd.R_mono (Kd.R_far (p := ⟨gb275, 3, none⟩) (Kd.R_far (p := ⟨gb275, 2, none⟩) (Kd.R_far (p := ⟨gb275, 1, none⟩) (Kd.R_far (p := ⟨gb275, 0, none⟩) (Kd.R_mono HO_47.out (fun k_ hk => (⟨hk, hk.2⟩ : _ ∧ k_ ≠ gb275))) (fun _ hk => hk.2) (.int .i64 ((rd_T79 t268 x49_2).f0))) (fun _ hk => hk.2) (.string ((rd_T79 t268 x49_2).f1))) (fun _ hk => hk.2) (.int .i64 ((rd_T79 t268 x49_2).f2))) (fun _ hk => hk.2) (.int .i64 ((rd_T79 t268 x49_2).f3))) (fun _ hk => hk.1.2)⟩, ⟨by (try simp only [hl11_1]); (with_reducible repeat (first | refine blk_drewN ?_ _ | refine blk_drew ?_ | refine blk_alloc ?_ _)); refine blk_far ?_ NB270_275.out _; (with_reducible repeat (first | refine blk_drewN ?_ _ | refine blk_drew ?_ | refine blk_alloc ?_ _)); refine blk_far ?_ NB270_275.out _; (with_reducible repeat (first | refine blk_drewN ?_ _ | refine blk_drew ?_ | refine blk_alloc ?_ _)); refine blk_far ?_ NB270_275.out _; (with_reducible repeat (first | refine blk_drewN ?_ _ | refine blk_drew ?_ | refine blk_alloc ?_ _)); refine blk_far ?_ NB270_275.out _; (with_reducible repeat (first | refine blk_drewN ?_ _ | refine blk_drew ?_ | refine blk_alloc ?_ _)); exact BK270.out⟩, ⟨by (try simp only [hl11_1]); (with_reducible repeat (first | refine blk_drewN ?_ _ | refine blk_drew ?_ | refine blk_alloc ?_ _)); refine blk_put (cs := #[.int .i64 ((rd_T79 t268 x49_2).f0), .string ((rd_T79 t268 x49_2).f1), .int .i64 ((rd_T79 t268 x49_2).f2), .int .i64 0]) ?_ 3 _ rfl; (with_reducible repeat (first | refine blk_drewN ?_ _ | refine blk_drew ?_ | refine blk_alloc ?_ _)); refine blk_put (cs := #[.int .i64 ((rd_T79 t268 x49_2).f0), .string ((rd_T79 t268 x49_2).f1), .int .i64 0, .int .i64 0]) ?_ 2 _ rfl; (with_reducible repeat (first | refine blk_drewN ?_ _ | refine blk_drew ?_ | refine blk_alloc ?_ _)); refine blk_put (cs := #[.int .i64 ((rd_T79 t268 x49_2).f0), .string (⟨#[]⟩ : ByteArray), .int .i64 0, .int .i64 0]) ?_ 1 _ rfl; (with_reducible repeat (first | refine blk_drewN ?_ _ | refine blk_drew ?_ | refine blk_alloc ?_ _)); refine blk_put (cs := #[.int .i64 0, .string (⟨#[]⟩ : ByteArray), .int .i64 0, .int .i64 0]) ?_ 0 _ rfl; (with_reducible repeat (first | refine blk_drewN ?_ _ | refine blk_drew ?_ | refine blk_alloc ?_ _)); exact BK275.out⟩, ⟨gS HB⟩⟩
                      · rw [if_neg c26] at H
                        have c26b0 : (((rd_T79 t268 x49_2).f1).toList == ((rd_T63 l0 x43_1).f0).toList) = false := beq_eq_false_iff_ne.mpr c26
                        have c26b1 : (((rd_T79 t268 x49_2).f1).toList != ((rd_T63 l0 x43_1).f0).toList) = true := bne_iff_ne.mpr c26
                        (first | rw [c26b0] | (simp only [i64_w, i32_w]; rw [c26b0]) | skip)
                        have H' := Aside0.mk H
                        clear H
                        have hnb30 := NB275_270.out
                        have hnc30 := NB270_275.out
                        have hcz31_0 : w23.cell? ⟨gb275, 0, none⟩ = some (.int .i64 0) := (blk_cell BK275.out 0).trans rfl
                        have hcz31_1 : w23.cell? ⟨gb275, 1, none⟩ = some (.string (⟨#[]⟩ : ByteArray)) := (blk_cell BK275.out 1).trans rfl
                        have hcz31_2 : w23.cell? ⟨gb275, 2, none⟩ = some (.int .i64 0) := (blk_cell BK275.out 2).trans rfl
                        have hcz31_3 : w23.cell? ⟨gb275, 3, none⟩ = some (.int .i64 0) := (blk_cell BK275.out 3).trans rfl
                        have hfz31_0 := blk_frozen BK275.out 0
                        have hfz31_1 := blk_frozen BK275.out 1
                        have hfz31_2 := blk_frozen BK275.out 2
                        have hfz31_3 := blk_frozen BK275.out 3
                        have hcz32_0 : w23.cell? ⟨gb270, 0, none⟩ = some (.string ((rd_T63 l0 x43_1).f0)) := (blk_cell BK270.out 0).trans rfl
                        have hcz32_1 : w23.cell? ⟨gb270, 1, none⟩ = some (.int .i64 x271001_2) := (blk_cell BK270.out 1).trans rfl
                        have hfz32_0 := blk_frozen BK270.out 0
                        have hfz32_1 := blk_frozen BK270.out 1
                        go_wp2
                        go_meet
                        case rel => exact ⟨_, (true), ac, H', ⟨by have := HK1.out; have := HK2.out; first | omega | exact Nat.le_refl _⟩, ⟨by (try simp only [hl11_1]); (with_reducible repeat (first | apply Kd.R_alloc | apply Kd.R_drewN | apply Kd.R_drew)); exact Kd.R_mono (Kd.R_far (p := ⟨gb275, 3, none⟩) (Kd.R_far (p := ⟨gb275, 2, none⟩) (Kd.R_far (p := ⟨gb275, 1, none⟩) (Kd.R_far (p := ⟨gb275, 0, none⟩) (Kd.R_mono HO_11.out (fun k_ hk => (⟨hk, hk.2⟩ : _ ∧ k_ ≠ gb275))) (fun _ hk => hk.2) (.int .i64 ((rd_T79 t268 x49_2).f0))) (fun _ hk => hk.2) (.string ((rd_T79 t268 x49_2).f1))) (fun _ hk => hk.2) (.int .i64 ((rd_T79 t268 x49_2).f2))) (fun _ hk => hk.2) (.int .i64 ((rd_T79 t268 x49_2).f3))) (fun _ hk => hk.1.2)⟩, ⟨by (try simp only [hl11_1]); (with_reducible repeat (first | apply Kd.R_alloc | apply Kd.R_drewN | apply Kd.R_drew)); exact Kd.R_mono (Kd.R_far (p := ⟨gb275, 3, none⟩) (Kd.R_far (p := ⟨gb275, 2, none⟩) (Kd.R_far (p := ⟨gb275, 1, none⟩) (Kd.R_far (p := ⟨gb275, 0, none⟩) (Kd.R_types HO_12.out BK275.out (by decide)) (fun _ hk => hk.2) (.int .i64 ((rd_T79 t268 x49_2).f0))) (fun _ hk => hk.2) (.string ((rd_T79 t268 x49_2).f1))) (fun _ hk => hk.2) (.int .i64 ((rd_T79 t268 x49_2).f2))) (fun _ hk => hk.2) (.int .i64 ((rd_T79 t268 x49_2).f3))) (fun _ hk => trivial)⟩, ⟨by (try simp only [hl11_1]); (with_reducible repeat (first | apply Kd.R_alloc | apply Kd.R_drewN | apply Kd.R_drew)); exact Kd.R_mono (Kd.R_far (p := ⟨gb275, 3, none⟩) (Kd.R_far (p := ⟨gb275, 2, none⟩) (Kd.R_far (p := ⟨gb275, 1, none⟩) (Kd.R_far (p := ⟨gb275, 0, none⟩) (Kd.R_types HO_13.out BK275.out (by decide)) (fun _ hk => hk.2) (.int .i64 ((rd_T79 t268 x49_2).f0))) (fun _ hk => hk.2) (.string ((rd_T79 t268 x49_2).f1))) (fun _ hk => hk.2) (.int .i64 ((rd_T79 t268 x49_2).f2))) (fun _ hk => hk.2) (.int .i64 ((rd_T79 t268 x49_2).f3))) (fun _ hk => hk.1)⟩, ⟨by (try simp only [hl11_1]); (with_reducible repeat (first | apply Kd.R_alloc | apply Kd.R_drewN | apply Kd.R_drew)); exact Kd.R_mono (Kd.R_far (p := ⟨gb275, 3, none⟩) (Kd.R_far (p := ⟨gb275, 2, none⟩) (Kd.R_far (p := ⟨gb275, 1, none⟩) (Kd.R_far (p := ⟨gb275, 0, none⟩) (Kd.R_mono HO_47.out (fun k_ hk => (⟨hk, hk.2⟩ : _ ∧ k_ ≠ gb275))) (fun _ hk => hk.2) (.int .i64 ((rd_T79 t268 x49_2).f0))) (fun _ hk => hk.2) (.string ((rd_T79 t268 x49_2).f1))) (fun _ hk => hk.2) (.int .i64 ((rd_T79 t268 x49_2).f2))) (fun _ hk => hk.2) (.int .i64 ((rd_T79 t268 x49_2).f3))) (fun _ hk => hk.1.2)⟩, ⟨by (try simp only [hl11_1]); (with_reducible repeat (first | refine blk_drewN ?_ _ | refine blk_drew ?_ | refine blk_alloc ?_ _)); refine blk_far ?_ NB270_275.out _; (with_reducible repeat (first | refine blk_drewN ?_ _ | refine blk_drew ?_ | refine blk_alloc ?_ _)); refine blk_far ?_ NB270_275.out _; (with_reducible repeat (first | refine blk_drewN ?_ _ | refine blk_drew ?_ | refine blk_alloc ?_ _)); refine blk_far ?_ NB270_275.out _; (with_reducible repeat (first | refine blk_drewN ?_ _ | refine blk_drew ?_ | refine blk_alloc ?_ _)); refine blk_far ?_ NB270_275.out _; (with_reducible repeat (first | refine blk_drewN ?_ _ | refine blk_drew ?_ | refine blk_alloc ?_ _)); exact BK270.out⟩, ⟨by (try simp only [hl11_1]); (with_reducible repeat (first | refine blk_drewN ?_ _ | refine blk_drew ?_ | refine blk_alloc ?_ _)); refine blk_put (cs := #[.int .i64 ((rd_T79 t268 x49_2).f0), .string ((rd_T79 t268 x49_2).f1), .int .i64 ((rd_T79 t268 x49_2).f2), .int .i64 0]) ?_ 3 _ rfl; (with_reducible repeat (first | refine blk_drewN ?_ _ | refine blk_drew ?_ | refine blk_alloc ?_ _)); refine blk_put (cs := #[.int .i64 ((rd_T79 t268 x49_2).f0), .string ((rd_T79 t268 x49_2).f1), .int .i64 0, .int .i64 0]) ?_ 2 _ rfl; (with_reducible repeat (first | refine blk_drewN ?_ _ | refine blk_drew ?_ | refine blk_alloc ?_ _)); refine blk_put (cs := #[.int .i64 ((rd_T79 t268 x49_2).f0), .string (⟨#[]⟩ : ByteArray), .int .i64 0, .int .i64 0]) ?_ 1 _ rfl; (with_reducible repeat (first | refine blk_drewN ?_ _ | refine blk_drew ?_ | refine blk_alloc ?_ _)); refine blk_put (cs := #[.int .i64 0, .string (⟨#[]⟩ : ByteArray), .int .i64 0, .int .i64 0]) ?_ 0 _ rfl; (with_reducible repeat (first | refine blk_drewN ?_ _ | refine blk_drew ?_ | refine blk_alloc ?_ _)); exact BK275.out⟩, ⟨gS HB⟩⟩
                     case rest =>
                      clear HC22; (try clear c1); (try clear c4); (try clear c4b0); (try clear c4b1); (try clear c6); (try clear c6b0); (try clear c6b1); (try clear c14); (try clear c14b0); (try clear c15); (try clear c15b0); (try clear c16); (try clear c16b0); (try clear c19); (try clear c19b0); (try clear c20); (try clear c20b0); (try clear c21); (try clear c21b0); (try clear hcz18_0); (try clear hcz18_1); (try clear hcz25_0); (try clear hcz25_1); (try clear hcz25_2); (try clear hcz25_3); (try clear hfz18_0); (try clear hfz18_1); (try clear hfz25_0); (try clear hfz25_1); (try clear hfz25_2); (try clear hfz25_3); (try clear hx269_0); (try clear hx269_1); (try clear hx274_0); (try clear hx274_1); (try clear hx274_2); (try clear hx274_3); (try clear p269); (try clear p274); (try clear q269); (try clear q274)
                      obtain ⟨kq, x62_21, rfl, HA, HJ21, HO_11, HO_12, HO_13, HO_47, BK270, BK275, HB⟩ := hcut
                      cases kq with
                      | zero => exact absurd HA.out (by simp [close_Auction.j2])
                      | succ kj21 =>
                       have H := HA.out
                       clear HA
                       simp only [close_Auction.j2] at H
                       by_cases c33 : x62_21 = true
                       · subst c33
                         replace H : (close_Auction.l1 kj21 t268 x12_2 x13_1 x14_2 l0 (l0.length : Int) x43_1 t268 (t268.length : Int) (wrap64 (x49_2 + 1)) ((rd_T63 l0 x43_1).f0) x271001_2) = some (r1, r2, r3, r4) := by rw [if_pos rfl] at H; exact H
                         have H' := Aside0.mk H
                         clear H
                         go_wp2
                         go_roundg kj21
                         case measure => have := HK1.out; have := HK2.out; have := HJ21.out; omega
                         case rel => exact ⟨(x12_2), (x14_2), (wrap64 (x49_2 + 1)), (x271001_2), ac, ac, H', ⟨by have := HK1.out; have := HK2.out; have := HJ21.out; omega⟩, ⟨by (try simp only [hl11_1]); (with_reducible repeat (first | apply Kd.R_alloc | apply Kd.R_drewN | apply Kd.R_drew)); exact Kd.R_mono HO_11.out (fun _ hk => trivial)⟩, ⟨by (try simp only [hl11_1]); (with_reducible repeat (first | apply Kd.R_alloc | apply Kd.R_drewN | apply Kd.R_drew)); exact HO_12.out⟩, ⟨by (try simp only [hl11_1]); (with_reducible repeat (first | apply Kd.R_alloc | apply Kd.R_drewN | apply Kd.R_drew)); exact HO_13.out⟩, ⟨by (try simp only [hl11_1]); (with_reducible repeat (first | apply Kd.R_alloc | apply Kd.R_drewN | apply Kd.R_drew)); exact Kd.R_mono HO_47.out (fun _ hk => trivial)⟩, ⟨by (try simp only [hl11_1]); (with_reducible repeat (first | refine blk_drewN ?_ _ | refine blk_drew ?_ | refine blk_alloc ?_ _)); exact BK270.out⟩, ⟨gS HB⟩⟩
                       · replace c33 := Bool.eq_false_iff.mpr c33
                         subst c33
                         replace H : ((asset_Worth.f kj21 (mn ((rd_T79 t268 x49_2).f2) x271001_2) ((rd_T79 t268 x49_2).f3)).bind fun bt276 => ((fixnum_Plus.f x14_2 bt276.1).bind fun bt278 => (if bt278.2 = 0 then (if x12_2.length < 3518437208883 then (close_Auction.l1 kj21 t268 (x12_2 ++ [(⟨((rd_T79 t268 x49_2).f0), ((rd_T63 l0 x43_1).f0), mn ((rd_T79 t268 x49_2).f2) x271001_2, bt276.1⟩ : S58)]) x13_1 bt278.1 l0 (l0.length : Int) x43_1 t268 (t268.length : Int) (wrap64 (x49_2 + 1)) ((rd_T63 l0 x43_1).f0) (wrap64 (x271001_2 - (mn ((rd_T79 t268 x49_2).f2) x271001_2)))) else (none)) else (some (([] : List (S58)), 0, ([] : List (S63)), bt278.2))))) = some (r1, r2, r3, r4) := by rw [if_neg (show ¬ (false = true) by decide)] at H; exact H
                         obtain ⟨ji34, hji34⟩ : ∃ j_ : Int, (mn ((rd_T79 t268 x49_2).f2) x271001_2) = j_ := ⟨_, rfl⟩
                         replace H : ((asset_Worth.f kj21 (ji34) ((rd_T79 t268 x49_2).f3)).bind fun bt276 => ((fixnum_Plus.f x14_2 bt276.1).bind fun bt278 => (if bt278.2 = 0 then (if x12_2.length < 3518437208883 then (close_Auction.l1 kj21 t268 (x12_2 ++ [(⟨((rd_T79 t268 x49_2).f0), ((rd_T63 l0 x43_1).f0), ji34, bt276.1⟩ : S58)]) x13_1 bt278.1 l0 (l0.length : Int) x43_1 t268 (t268.length : Int) (wrap64 (x49_2 + 1)) ((rd_T63 l0 x43_1).f0) (wrap64 (x271001_2 - (ji34)))) else (none)) else (some (([] : List (S58)), 0, ([] : List (S63)), bt278.2))))) = some (r1, r2, r3, r4) := by first | (rw [hji34] at H; exact H) | (simp only [hji34] at H ⊢; exact H)
                         have hji34_ : (if x271001_2 < ((rd_T79 t268 x49_2).f2) then x271001_2 else ((rd_T79 t268 x49_2).f2)) = ji34 := hji34
                         replace H := Option.bind_eq_some_iff.mp H
                         obtain ⟨⟨t276, t277⟩, A350, H⟩ := H
                         replace H : ((fixnum_Plus.f x14_2 t276).bind fun bt278 => (if bt278.2 = 0 then (if x12_2.length < 3518437208883 then (close_Auction.l1 kj21 t268 (x12_2 ++ [(⟨((rd_T79 t268 x49_2).f0), ((rd_T63 l0 x43_1).f0), ji34, t276⟩ : S58)]) x13_1 bt278.1 l0 (l0.length : Int) x43_1 t268 (t268.length : Int) (wrap64 (x49_2 + 1)) ((rd_T63 l0 x43_1).f0) (wrap64 (x271001_2 - (ji34)))) else (none)) else (some (([] : List (S58)), 0, ([] : List (S63)), bt278.2)))) = some (r1, r2, r3, r4) := H
                         have A35 := Aside0.mk A350; clear A350
                         replace H := Option.bind_eq_some_iff.mp H
                         obtain ⟨⟨t278, t279⟩, A360, H⟩ := H
                         replace H : (if t279 = 0 then (if x12_2.length < 3518437208883 then (close_Auction.l1 kj21 t268 (x12_2 ++ [(⟨((rd_T79 t268 x49_2).f0), ((rd_T63 l0 x43_1).f0), ji34, t276⟩ : S58)]) x13_1 t278 l0 (l0.length : Int) x43_1 t268 (t268.length : Int) (wrap64 (x49_2 + 1)) ((rd_T63 l0 x43_1).f0) (wrap64 (x271001_2 - (ji34)))) else (none)) else (some (([] : List (S58)), 0, ([] : List (S63)), t279))) = some (r1, r2, r3, r4) := H
                         have A36 := Aside0.mk A360; clear A360
                         by_cases c37 : t279 = 0
                         · rw [if_pos c37] at H
                           have c37b0 : (t279 == 0) = true := beq_iff_eq.mpr c37
                           have c37b1 : (t279 != 0) = false := bne_eq_false_iff_eq.mpr c37
                           clear c37
                           by_cases c38 : x12_2.length < 3518437208883
                           · rw [if_pos c38] at H
                             have LMc38 := Aside0.mk c38; clear c38
                             obtain ⟨y280, hy_⟩ : ∃ y_ : List (S58), y_ = (x12_2 ++ [(⟨((rd_T79 t268 x49_2).f0), ((rd_T63 l0 x43_1).f0), ji34, t276⟩ : S58)]) := ⟨_, rfl⟩
                             replace H : (close_Auction.l1 kj21 t268 y280 x13_1 t278 l0 (l0.length : Int) x43_1 t268 (t268.length : Int) (wrap64 (x49_2 + 1)) ((rd_T63 l0 x43_1).f0) (wrap64 (x271001_2 - (ji34)))) = some (r1, r2, r3, r4) := h2
                             have Ny280 := Aside0.mk hy_; clear hy_
                             have H' := Aside0.mk H
                             clear H
                             have hnb39 := NB275_270.out
                             have hnc39 := NB270_275.out
                             have hcz40_0 : wc.cell? ⟨gb275, 0, none⟩ = some (.int .i64 ((rd_T79 t268 x49_2).f0)) := (blk_cell BK275.out 0).trans rfl
                             have hcz40_1 : wc.cell? ⟨gb275, 1, none⟩ = some (.string ((rd_T79 t268 x49_2).f1)) := (blk_cell BK275.out 1).trans rfl
                             have hcz40_2 : wc.cell? ⟨gb275, 2, none⟩ = some (.int .i64 ((rd_T79 t268 x49_2).f2)) := (blk_cell BK275.out 2).trans rfl
                             have hcz40_3 : wc.cell? ⟨gb275, 3, none⟩ = some (.int .i64 ((rd_T79 t268 x49_2).f3)) := (blk_cell BK275.out 3).trans rfl
                             have hfz40_0 := blk_frozen BK275.out 0
                             have hfz40_1 := blk_frozen BK275.out 1
                             have hfz40_2 := blk_frozen BK275.out 2
                             have hfz40_3 := blk_frozen BK275.out 3
                             have hcz41_0 : wc.cell? ⟨gb270, 0, none⟩ = some (.string ((rd_T63 l0 x43_1).f0)) := (blk_cell BK270.out 0).trans rfl
                             have hcz41_1 : wc.cell? ⟨gb270, 1, none⟩ = some (.int .i64 x271001_2) := (blk_cell BK270.out 1).trans rfl
                             have hfz41_0 := blk_frozen BK270.out 0
                             have hfz41_1 := blk_frozen BK270.out 1
                             go_wp2_with (first | ((with_reducible refine gate_callee (f := 35) rfl ?_); refine goesL_ (some 72) rfl rfl Try.func35 (by kernel_rfl) rfl #[.int .i64 ji34, .int .i64 ((rd_T79 t268 x49_2).f3)] rfl (by (try simp only [List.map_toArray, List.map_cons, List.map_nil]); first | done | (simp only [hji34]; rfl) | rfl | (simp only [List.length_drop, List.length_take]; rfl)) ?_; (with_reducible refine (asset_Worth.calls kj21 ji34 ((rd_T79 t268 x49_2).f3) t276 t277 _ A35.out).mono ?_); rintro e w42 ⟨rfl, hb⟩; refine ⟨_, rfl, ?_⟩; replace HO_11 := aK (Kd.R_below (gR HO_11) hb); replace HO_12 := aK (Kd.R_below (gR HO_12) hb); replace HO_13 := aK (Kd.R_below (gR HO_13) hb); replace HO_47 := aK (Kd.R_below (gR HO_47) hb); replace BK270 := aK (blk_below (g := gb270) (o := .cells #[.string ((rd_T63 l0 x43_1).f0), .int .i64 x271001_2] 63 (0, 0)) (gK BK270) hb); replace BK275 := aK (blk_below (g := gb275) (o := .cells #[.int .i64 ((rd_T79 t268 x49_2).f0), .string ((rd_T79 t268 x49_2).f1), .int .i64 ((rd_T79 t268 x49_2).f2), .int .i64 ((rd_T79 t268 x49_2).f3)] 79 (0, 0)) (gK BK275) hb); replace HB := aK (below_step (gS HB) hb); (try clear hb); (try clear hb2); (try clear hk); (try clear hi)) | ((with_reducible refine gate_callee (f := 28) rfl ?_); refine goesL_ (some 78) rfl rfl Try.func28 (by kernel_rfl) rfl #[.int .i64 x14_2, .int .i64 t276] rfl am ?_; (with_reducible refine (fixnum_Plus.calls x14_2 t276 t278 t279 _ A36.out).mono ?_); rintro e w' ⟨rfl, ⟨nd, rfl⟩⟩; refine ⟨_, rfl, ?_⟩; (try (rw [drewN_self w42]; generalize hq_ : World.drewN w42 _ = w42; have n0_ : Aside0 (Kd.R k79 79 w42 w.heap.size (fun k_ => k_ ≠ gb275) (.slice (some ad274) t268.length co12) t268) := ⟨by rw [← hq_]; exact (gR HO_11)⟩; have n1_ : Aside0 (Kd.R k58 58 w42 w.heap.size (fun _ => True) u12 x12_2) := ⟨by rw [← hq_]; exact (gR HO_12)⟩; have n2_ : Aside0 (Kd.R k63 63 w42 w.heap.size (fun k_ => k_ ≠ gb270) u13 x13_1) := ⟨by rw [← hq_]; exact (gR HO_13)⟩; have n3_ : Aside0 (Kd.R k79 79 w42 w.heap.size (fun k_ => k_ ≠ gb275) (.slice (some ad274) t268.length co12) t268) := ⟨by rw [← hq_]; exact (gR HO_47)⟩; have n4_ : Aside0 (w42.heap[gb270]? = some (.cells #[.string ((rd_T63 l0 x43_1).f0), .int .i64 x271001_2] 63 (0, 0))) := ⟨by rw [← hq_]; exact (gK BK270)⟩; have n5_ : Aside0 (w42.heap[gb275]? = some (.cells #[.int .i64 ((rd_T79 t268 x49_2).f0), .string ((rd_T79 t268 x49_2).f1), .int .i64 ((rd_T79 t268 x49_2).f2), .int .i64 ((rd_T79 t268 x49_2).f3)] 79 (0, 0))) := ⟨by rw [← hq_]; exact (gK BK275)⟩; have n6_ : Aside0 (Below w.heap.size w w42) := ⟨by rw [← hq_]; exact (gS HB)⟩; clear HO_11 HO_12 HO_13 HO_47 BK270 BK275 HB hq_; have HO_11 := n0_; have HO_12 := n1_; have HO_13 := n2_; have HO_47 := n3_; have BK270 := n4_; have BK275 := n5_; have HB := n6_; clear n0_ n1_ n2_ n3_ n4_ n5_ n6_)); have hcz43_0 : w42.cell? ⟨gb275, 0, none⟩ = some (.int .i64 ((rd_T79 t268 x49_2).f0)) := (blk_cell BK275.out 0).trans rfl; have hcz43_1 : w42.cell? ⟨gb275, 1, none⟩ = some (.string ((rd_T79 t268 x49_2).f1)) := (blk_cell BK275.out 1).trans rfl; have hcz43_2 : w42.cell? ⟨gb275, 2, none⟩ = some (.int .i64 ((rd_T79 t268 x49_2).f2)) := (blk_cell BK275.out 2).trans rfl; have hcz43_3 : w42.cell? ⟨gb275, 3, none⟩ = some (.int .i64 ((rd_T79 t268 x49_2).f3)) := (blk_cell BK275.out 3).trans rfl; have hfz43_0 := blk_frozen BK275.out 0; have hfz43_1 := blk_frozen BK275.out 1; have hfz43_2 := blk_frozen BK275.out 2; have hfz43_3 := blk_frozen BK275.out 3; have hcz44_0 : w42.cell? ⟨gb270, 0, none⟩ = some (.string ((rd_T63 l0 x43_1).f0)) := (blk_cell BK270.out 0).trans rfl; have hcz44_1 : w42.cell? ⟨gb270, 1, none⟩ = some (.int .i64 x271001_2) := (blk_cell BK270.out 1).trans rfl; have hfz44_0 := blk_frozen BK270.out 0; have hfz44_1 := blk_frozen BK270.out 1) | ((with_reducible refine q28q (b := .append) (xs := #[.tmp 85, .tmp 93]) rfl ?_); at_builtin; refine Kd.R_append k58 (w0 := w) w.heap.size rfl (.tmp 85) (.tmp 93) 47 58 (.agg #[(.int .i64 0), (.string ⟨#[]⟩), (.int .i64 0), (.int .i64 0)]) 40 rfl Try.underlying47 info58 rfl (by decide) (by omega) u12 x12_2 (⟨((rd_T79 t268 x49_2).f0), ((rd_T63 l0 x43_1).f0), ji34, t276⟩ : S58) [.int .i64 ((rd_T79 t268 x49_2).f0), .string ((rd_T63 l0 x43_1).f0), .int .i64 ji34, .int .i64 t276] (fun _ => True) (fun _ => False) rfl rfl ?aP (fun _ hk => hk.elim) ?aF ?aO ?aB ?aS ?aL ?_; (case aP => exact k58_mkM _ _ _ (⟨((rd_T79 t268 x49_2).f0), ((rd_T63 l0 x43_1).f0), ji34, t276⟩ : S58)); (case aB => exact (gS HB)); (case aF => exact (fun _ _ => trivial)); (case aO => exact (gR HO_12)); (case aS => exact (below_size (gS HB))); (case aL => have := LMc38.out; omega); intro v281 w45 ho hb hg hat; rw [← Ny280.out] at ho; replace HO_11 := aK (Kd.R_over' (gR HO_11) (Kd.R_typed (gR HO_12)) (by decide) hg); replace HO_13 := aK (Kd.R_over' (gR HO_13) (Kd.R_typed (gR HO_12)) (by decide) hg); replace HO_47 := aK (Kd.R_over' (gR HO_47) (Kd.R_typed (gR HO_12)) (by decide) hg); replace BK270 := aK (blk_grown (g := gb270) (o := .cells #[.string ((rd_T63 l0 x43_1).f0), .int .i64 x271001_2] 63 (0, 0)) (gK BK270) hg (Kd.R_ne HO_12.out BK270.out (by decide))); replace BK275 := aK (blk_grown (g := gb275) (o := .cells #[.int .i64 ((rd_T79 t268 x49_2).f0), .string ((rd_T79 t268 x49_2).f1), .int .i64 ((rd_T79 t268 x49_2).f2), .int .i64 ((rd_T79 t268 x49_2).f3)] 79 (0, 0)) (gK BK275) hg (Kd.R_ne HO_12.out BK275.out (by decide))); replace HB := aK (hb); have HO282 := aK (ho); clear HO_12; clear ho hb hg hat; have hcz46_0 : w45.cell? ⟨gb270, 0, none⟩ = some (.string ((rd_T63 l0 x43_1).f0)) := (blk_cell BK270.out 0).trans rfl; have hcz46_1 : w45.cell? ⟨gb270, 1, none⟩ = some (.int .i64 x271001_2) := (blk_cell BK270.out 1).trans rfl; have hfz46_0 := blk_frozen BK270.out 0; have hfz46_1 := blk_frozen BK270.out 1))
                             go_roundg kj21
                             case measure => have := HK1.out; have := HK2.out; have := HJ21.out; omega
                             case rel => exact ⟨(y280), (t278), (wrap64 (x49_2 + 1)), (wrap64 (x271001_2 - (ji34))), ac, ac, H', ⟨by have := HK1.out; have := HK2.out; have := HJ21.out; omega⟩, ⟨by (try simp only [hl11_1]); (with_reducible repeat (first | apply Kd.R_alloc | apply Kd.R_drewN | apply Kd.R_drew)); exact Kd.R_mono (Kd.R_far (p := ⟨gb270, 1, none⟩) (Kd.R_types HO_11.out BK270.out (by decide)) (fun _ hk => hk.2) (.int .i64 (wrap64 (x271001_2 - (ji34))))) (fun _ hk => trivial)⟩, ⟨by (try simp only [hl11_1]); (with_reducible repeat (first | apply Kd.R_alloc | apply Kd.R_drewN | apply Kd.R_drew)); exact Kd.R_mono (Kd.R_far (p := ⟨gb270, 1, none⟩) (Kd.R_types HO282.out BK270.out (by decide)) (fun _ hk => hk.2) (.int .i64 (wrap64 (x271001_2 - (ji34))))) (fun _ hk => trivial)⟩, ⟨by (try simp only [hl11_1]); (with_reducible repeat (first | apply Kd.R_alloc | apply Kd.R_drewN | apply Kd.R_drew)); exact Kd.R_mono (Kd.R_far (p := ⟨gb270, 1, none⟩) (Kd.R_mono HO_13.out (fun k_ hk => (⟨hk, hk⟩ : _ ∧ k_ ≠ gb270))) (fun _ hk => hk.2) (.int .i64 (wrap64 (x271001_2 - (ji34))))) (fun _ hk => hk.1)⟩, ⟨by (try simp only [hl11_1]); (with_reducible repeat (first | apply Kd.R_alloc | apply Kd.R_drewN | apply Kd.R_drew)); exact Kd.R_mono (Kd.R_far (p := ⟨gb270, 1, none⟩) (Kd.R_types HO_47.out BK270.out (by decide)) (fun _ hk => hk.2) (.int .i64 (wrap64 (x271001_2 - (ji34))))) (fun _ hk => trivial)⟩, ⟨by (try simp only [hl11_1]); (with_reducible repeat (first | refine blk_drewN ?_ _ | refine blk_drew ?_ | refine blk_alloc ?_ _)); refine blk_put (cs := #[.string ((rd_T63 l0 x43_1).f0), .int .i64 x271001_2]) ?_ 1 _ rfl; (with_reducible repeat (first | refine blk_drewN ?_ _ | refine blk_drew ?_ | refine blk_alloc ?_ _)); exact BK270.out⟩, ⟨gS HB⟩⟩
                           · rw [if_neg c38] at H
                             exact absurd H (by simp)
                         · rw [if_neg c37] at H
                           have c37b0 : (t279 == 0) = false := beq_eq_false_iff_ne.mpr c37
                           have c37b1 : (t279 != 0) = true := bne_iff_ne.mpr c37
                           simp only [Option.some.injEq, Prod.mk.injEq] at H
                           obtain ⟨rfl, rfl, rfl, rfl⟩ := H
                           have hnb47 := NB275_270.out
                           have hnc47 := NB270_275.out
                           have hcz48_0 : wc.cell? ⟨gb275, 0, none⟩ = some (.int .i64 ((rd_T79 t268 x49_2).f0)) := (blk_cell BK275.out 0).trans rfl
                           have hcz48_1 : wc.cell? ⟨gb275, 1, none⟩ = some (.string ((rd_T79 t268 x49_2).f1)) := (blk_cell BK275.out 1).trans rfl
                           have hcz48_2 : wc.cell? ⟨gb275, 2, none⟩ = some (.int .i64 ((rd_T79 t268 x49_2).f2)) := (blk_cell BK275.out 2).trans rfl
                           have hcz48_3 : wc.cell? ⟨gb275, 3, none⟩ = some (.int .i64 ((rd_T79 t268 x49_2).f3)) := (blk_cell BK275.out 3).trans rfl
                           have hfz48_0 := blk_frozen BK275.out 0
                           have hfz48_1 := blk_frozen BK275.out 1
                           have hfz48_2 := blk_frozen BK275.out 2
                           have hfz48_3 := blk_frozen BK275.out 3
                           have hcz49_0 : wc.cell? ⟨gb270, 0, none⟩ = some (.string ((rd_T63 l0 x43_1).f0)) := (blk_cell BK270.out 0).trans rfl
                           have hcz49_1 : wc.cell? ⟨gb270, 1, none⟩ = some (.int .i64 x271001_2) := (blk_cell BK270.out 1).trans rfl
                           have hfz49_0 := blk_frozen BK270.out 0
                           have hfz49_1 := blk_frozen BK270.out 1
                           go_wp2_with (first | ((with_reducible refine gate_callee (f := 35) rfl ?_); refine goesL_ (some 72) rfl rfl Try.func35 (by kernel_rfl) rfl #[.int .i64 ji34, .int .i64 ((rd_T79 t268 x49_2).f3)] rfl (by (try simp only [List.map_toArray, List.map_cons, List.map_nil]); first | done | (simp only [hji34]; rfl) | rfl | (simp only [List.length_drop, List.length_take]; rfl)) ?_; (with_reducible refine (asset_Worth.calls kj21 ji34 ((rd_T79 t268 x49_2).f3) t276 t277 _ A35.out).mono ?_); rintro e w50 ⟨rfl, hb⟩; refine ⟨_, rfl, ?_⟩; replace HO_11 := aK (Kd.R_below (gR HO_11) hb); replace HO_12 := aK (Kd.R_below (gR HO_12) hb); replace HO_13 := aK (Kd.R_below (gR HO_13) hb); replace HO_47 := aK (Kd.R_below (gR HO_47) hb); replace BK270 := aK (blk_below (g := gb270) (o := .cells #[.string ((rd_T63 l0 x43_1).f0), .int .i64 x271001_2] 63 (0, 0)) (gK BK270) hb); replace BK275 := aK (blk_below (g := gb275) (o := .cells #[.int .i64 ((rd_T79 t268 x49_2).f0), .string ((rd_T79 t268 x49_2).f1), .int .i64 ((rd_T79 t268 x49_2).f2), .int .i64 ((rd_T79 t268 x49_2).f3)] 79 (0, 0)) (gK BK275) hb); replace HB := aK (below_step (gS HB) hb); (try clear hb); (try clear hb2); (try clear hk); (try clear hi)) | ((with_reducible refine gate_callee (f := 28) rfl ?_); refine goesL_ (some 78) rfl rfl Try.func28 (by kernel_rfl) rfl #[.int .i64 x14_2, .int .i64 t276] rfl am ?_; (with_reducible refine (fixnum_Plus.calls x14_2 t276 t278 t279 _ A36.out).mono ?_); rintro e w' ⟨rfl, ⟨nd, rfl⟩⟩; refine ⟨_, rfl, ?_⟩))
                           refine bodyPost_ret (results_list (rs := [.tmp 4, .tmp 5, .tmp 6, .tmp 7]) rfl (by simp) (.tmp (.tmp (.tmp (.tmp .nil))))) rfl ?_
                           exact ⟨_, _, by first | rfl | (simp [errW_none, errW_some] <;> rfl) | (simp only [← hji34]; first | rfl | (simp [errW_none, errW_some] <;> rfl)) | (simp [*, errW_none, errW_some] <;> rfl), by first | exact Kd.R_nil _ _ _ _ _ | exact Kd.N_nil _ _ _ _ _ | exact Kd.V_nil _ _ _ _ _ | exact Kd.Q_nil _ _ _ _ _ | exact Kd.S_nil _ _ _ _ _, by first | exact Kd.R_nil _ _ _ _ _ | exact Kd.N_nil _ _ _ _ _ | exact Kd.V_nil _ _ _ _ _ | exact Kd.Q_nil _ _ _ _ _ | exact Kd.S_nil _ _ _ _ _, gS HB⟩
                   · rw [if_neg c21] at H
                     exact absurd H (by simp)
                 · rw [if_neg c20] at H
                   exact absurd H (by simp)
               · rw [if_neg c19] at H
                 have c19b0 := dF c19
                 clear c19
                 by_cases c51 : x271001_2 > 0
                 · rw [if_pos c51] at H
                   have c51b0 : decide (0 < x271001_2) = true := decide_eq_true c51
                   clear c51
                   by_cases c52 : x13_1.length < 5864062014805
                   · rw [if_pos c52] at H
                     have LMc52 := Aside0.mk c52; clear c52
                     obtain ⟨y271, hy_⟩ : ∃ y_ : List (S63), y_ = (x13_1 ++ [(⟨((rd_T63 l0 x43_1).f0), x271001_2⟩ : S63)]) := ⟨_, rfl⟩
                     replace H : (close_Auction.l0 k2 t268 x12_2 y271 x14_2 l0 (l0.length : Int) (wrap64 (x43_1 + 1))) = some (r1, r2, r3, r4) := h2
                     have Ny271 := Aside0.mk hy_; clear hy_
                     have H' := Aside0.mk H
                     clear H
                     have hcz53_0 : wr.cell? ⟨gb270, 0, none⟩ = some (.string ((rd_T63 l0 x43_1).f0)) := (blk_cell BK270.out 0).trans rfl
                     have hcz53_1 : wr.cell? ⟨gb270, 1, none⟩ = some (.int .i64 x271001_2) := (blk_cell BK270.out 1).trans rfl
                     have hfz53_0 := blk_frozen BK270.out 0
                     have hfz53_1 := blk_frozen BK270.out 1
                     go_wp2_with (first | ((with_reducible refine q28q (b := .append) (xs := #[.tmp 104, .tmp 106]) rfl ?_); at_builtin; refine Kd.R_append k63 (w0 := w) w.heap.size rfl (.tmp 104) (.tmp 106) 40 63 (.agg #[(.string ⟨#[]⟩), (.int .i64 0)]) 24 rfl Try.underlying40 info63 rfl (by decide) (by omega) u13 x13_1 (⟨((rd_T63 l0 x43_1).f0), x271001_2⟩ : S63) [.string ((rd_T63 l0 x43_1).f0), .int .i64 x271001_2] (fun k_ => k_ ≠ gb270) (fun _ => False) rfl rfl ?aP (fun _ hk => hk.elim) ?aF ?aO ?aB ?aS ?aL ?_; (case aP => exact k63_mkM _ _ _ (⟨((rd_T63 l0 x43_1).f0), x271001_2⟩ : S63)); (case aB => exact (gS HB)); (case aF => exact (fun k_ hk => Kd.freshB (g := gb270) (o := .cells #[.string ((rd_T63 l0 x43_1).f0), .int .i64 x271001_2] 63 (0, 0)) (gK BK270) k_ hk)); (case aO => exact (gR HO_13)); (case aS => exact (below_size (gS HB))); (case aL => have := LMc52.out; omega); intro v272 w54 ho hb hg hat; rw [← Ny271.out] at ho; replace HO_11 := aK (Kd.R_over' (gR HO_11) (Kd.R_typed (gR HO_13)) (by decide) hg); replace HO_12 := aK (Kd.R_over' (gR HO_12) (Kd.R_typed (gR HO_13)) (by decide) hg); replace HO_47 := aK (Kd.R_over' (gR HO_47) (Kd.R_typed (gR HO_13)) (by decide) hg); replace BK270 := aK (blk_grown (g := gb270) (o := .cells #[.string ((rd_T63 l0 x43_1).f0), .int .i64 x271001_2] 63 (0, 0)) (gK BK270) hg (Kd.R_away HO_13.out (fun _ hk => hk))); replace HB := aK (hb); have HO273 := aK (ho); clear HO_13; clear ho hb hg hat))
                     (try simp only [← hl11_1])
                     go_roundg k2
                     case measure => have := HK1.out; have := HK2.out; omega
                     case rel => exact ⟨(x12_2), (y271), (x14_2), (wrap64 (x43_1 + 1)), ac, ac, H', ⟨by have := HK1.out; have := HK2.out; omega⟩, ⟨by (try simp only [hl11_1]); (with_reducible repeat (first | apply Kd.R_alloc | apply Kd.R_drewN | apply Kd.R_drew)); exact HO_11.out⟩, ⟨by (try simp only [hl11_1]); (with_reducible repeat (first | apply Kd.R_alloc | apply Kd.R_drewN | apply Kd.R_drew)); exact HO_12.out⟩, ⟨by (try simp only [hl11_1]); (with_reducible repeat (first | apply Kd.R_alloc | apply Kd.R_drewN | apply Kd.R_drew)); exact Kd.R_mono HO273.out (fun _ hk => trivial)⟩, ⟨gS HB⟩⟩
                   · rw [if_neg c52] at H
                     exact absurd H (by simp)
                 · rw [if_neg c51] at H
                   have c51b0 : decide (0 < x271001_2) = false := decide_eq_false c51
                   clear c51
                   have H' := Aside0.mk H
                   clear H
                   have hcz55_0 : wr.cell? ⟨gb270, 0, none⟩ = some (.string ((rd_T63 l0 x43_1).f0)) := (blk_cell BK270.out 0).trans rfl
                   have hcz55_1 : wr.cell? ⟨gb270, 1, none⟩ = some (.int .i64 x271001_2) := (blk_cell BK270.out 1).trans rfl
                   have hfz55_0 := blk_frozen BK270.out 0
                   have hfz55_1 := blk_frozen BK270.out 1
                   go_wp2
                   (try simp only [← hl11_1])
                   go_roundg k2
                   case measure => have := HK1.out; have := HK2.out; omega
                   case rel => exact ⟨(x12_2), (x13_1), (x14_2), (wrap64 (x43_1 + 1)), ac, ac, H', ⟨by have := HK1.out; have := HK2.out; omega⟩, ⟨by (try simp only [hl11_1]); (with_reducible repeat (first | apply Kd.R_alloc | apply Kd.R_drewN | apply Kd.R_drew)); exact HO_11.out⟩, ⟨by (try simp only [hl11_1]); (with_reducible repeat (first | apply Kd.R_alloc | apply Kd.R_drewN | apply Kd.R_drew)); exact HO_12.out⟩, ⟨by (try simp only [hl11_1]); (with_reducible repeat (first | apply Kd.R_alloc | apply Kd.R_drewN | apply Kd.R_drew)); exact Kd.R_mono HO_13.out (fun _ hk => trivial)⟩, ⟨gS HB⟩⟩
           · rw [if_neg c16] at H
             exact absurd H (by simp)
         · rw [if_neg c15] at H
           exact absurd H (by simp)
       · rw [if_neg c14] at H
         have c14b0 := dF c14
         clear c14
         simp only [Option.some.injEq, Prod.mk.injEq] at H
         obtain ⟨rfl, rfl, rfl, rfl⟩ := H
         go_wp2
         refine bodyPost_ret (results_list (rs := [.tmp 4, .tmp 5, .tmp 6, .tmp 7]) rfl (by simp) (.tmp (.tmp (.tmp (.tmp .nil))))) rfl ?_
         exact ⟨_, _, by first | rfl | (simp [errW_none, errW_some] <;> rfl) | (simp [*, errW_none, errW_some] <;> rfl), gR HO_12, gR HO_13, gB HB⟩
   · rw [if_neg c6] at H
     have c6b0 : (t264 == 0) = false := beq_eq_false_iff_ne.mpr c6
     have c6b1 : (t264 != 0) = true := bne_iff_ne.mpr c6
     simp only [Option.some.injEq, Prod.mk.injEq] at H
     obtain ⟨rfl, rfl, rfl, rfl⟩ := H
     go_enter Try.func16, Try.ntmps16
     go_wp2_with (first | ((with_reducible refine gate_callee (f := 29) rfl ?_); refine goesL_ (some 26) rfl rfl Try.func29 (by kernel_rfl) rfl #[.slice A0 l0.length c0] rfl am ?_; (with_reducible refine (lots_Check.calls k _ _ l0 t262 t263 _ ?side1 ?side2 A3.out).mono ?_); (case side1 => repeat (first | exact HR0.out | (with_reducible refine Kd.C_alloc ?_ _) | (with_reducible refine Kd.C_drewN ?_ _) | (with_reducible refine Kd.C_drew ?_))); (case side2 => exact HC0.out); rintro e w56 ⟨rfl, hb⟩; refine ⟨_, rfl, ?_⟩; replace HB := aK (below_step (gB HB) hb); (try clear hb); (try clear hb2); (try clear hk); (try clear hi)) | ((with_reducible refine gate_callee (f := 30) rfl ?_); refine goesL_ (some 33) rfl rfl Try.func30 (by kernel_rfl) rfl #[.slice A1 l1.length c1] rfl am ?_; (with_reducible refine (close_check.calls k _ _ l1 t264 _ ?side1 ?side2 A5.out).mono ?_); (case side1 => exact gC HR1 HB); (case side2 => exact HC1.out); rintro e w57 ⟨rfl, hb⟩; refine ⟨_, rfl, ?_⟩; replace HB := aK (below_step (gB HB) hb); (try clear hb); (try clear hb2); (try clear hk); (try clear hi)))
     refine bodyPost_ret (results_list (rs := [.tmp 4, .tmp 5, .tmp 6, .tmp 7]) rfl (by simp) (.tmp (.tmp (.tmp (.tmp .nil))))) rfl ?_
     exact ⟨_, _, by first | rfl | (simp [errW_none, errW_some] <;> rfl) | (simp [*, errW_none, errW_some] <;> rfl), by first | exact Kd.R_nil _ _ _ _ _ | exact Kd.N_nil _ _ _ _ _ | exact Kd.V_nil _ _ _ _ _ | exact Kd.Q_nil _ _ _ _ _ | exact Kd.S_nil _ _ _ _ _, by first | exact Kd.R_nil _ _ _ _ _ | exact Kd.N_nil _ _ _ _ _ | exact Kd.V_nil _ _ _ _ _ | exact Kd.Q_nil _ _ _ _ _ | exact Kd.S_nil _ _ _ _ _, gB HB⟩
 · rw [if_neg c4] at H
   have c4b0 : (t263 == 0) = false := beq_eq_false_iff_ne.mpr c4
   have c4b1 : (t263 != 0) = true := bne_iff_ne.mpr c4
   simp only [Option.some.injEq, Prod.mk.injEq] at H
   obtain ⟨rfl, rfl, rfl, rfl⟩ := H
   go_enter Try.func16, Try.ntmps16
   go_wp2_with (first | ((with_reducible refine gate_callee (f := 29) rfl ?_); refine goesL_ (some 26) rfl rfl Try.func29 (by kernel_rfl) rfl #[.slice A0 l0.length c0] rfl am ?_; (with_reducible refine (lots_Check.calls k _ _ l0 t262 t263 _ ?side1 ?side2 A3.out).mono ?_); (case side1 => repeat (first | exact HR0.out | (with_reducible refine Kd.C_alloc ?_ _) | (with_reducible refine Kd.C_drewN ?_ _) | (with_reducible refine Kd.C_drew ?_))); (case side2 => exact HC0.out); rintro e w58 ⟨rfl, hb⟩; refine ⟨_, rfl, ?_⟩; replace HB := aK (below_step (gB HB) hb); (try clear hb); (try clear hb2); (try clear hk); (try clear hi)))
   refine bodyPost_ret (results_list (rs := [.tmp 4, .tmp 5, .tmp 6, .tmp 7]) rfl (by simp) (.tmp (.tmp (.tmp (.tmp .nil))))) rfl ?_
   exact ⟨_, _, by first | rfl | (simp [errW_none, errW_some] <;> rfl) | (simp [*, errW_none, errW_some] <;> rfl), by first | exact Kd.R_nil _ _ _ _ _ | exact Kd.N_nil _ _ _ _ _ | exact Kd.V_nil _ _ _ _ _ | exact Kd.Q_nil _ _ _ _ _ | exact Kd.S_nil _ _ _ _ _, by first | exact Kd.R_nil _ _ _ _ _ | exact Kd.N_nil _ _ _ _ _ | exact Kd.V_nil _ _ _ _ _ | exact Kd.Q_nil _ _ _ _ _ | exact Kd.S_nil _ _ _ _ _, gB HB⟩
end Go.Proofs.Ytlbhjkbjokiioaa.X
