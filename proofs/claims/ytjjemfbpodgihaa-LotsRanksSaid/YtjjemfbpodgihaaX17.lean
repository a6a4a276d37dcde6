-- a shortened text: what this claim does not name is left out (wip/xprint/prune.py of this repo)
import Derived.Test.YtjjemfbpodgihaaXMin
import Derived.Test.YtjjemfbpodgihaaX0
import Derived.Test.YtjjemfbpodgihaaX12
import Derived.Test.YtjjemfbpodgihaaX14
import Derived.Test.YtjjemfbpodgihaaX16
namespace Go.Proofs.Ytjjemfbpodgihaa.X
open Go.RowKit Go.Proofs.YtjjemfbpodgihaaW.PrintWords Go.Proofs.YtjjemfbpodgihaaW.PrintLast Go.Proofs.YtjjemfbpodgihaaW.PrintMore
attribute [local go_sem] max2_int min2_int max_two min_two max_three min_three max_four min_four
set_option linter.unusedVariables false
set_option linter.unusedSimpArgs false
mutual
def slices_stableCmpFunc_haircut_Item.l0 : Nat → List (S47) → Int → Int → Int → Int → Option ((List (S47)))
 | 0, _, _, _, _, _ => none
 | k + 1, x0, x1, x6, x7, x8 => if x8 ≤ x1 then ((slices_insertionSortCmpFunc_haircut_Item.f k x0 x7 x8).bind fun t419 => (slices_stableCmpFunc_haircut_Item.l0 k t419 x1 x6 x8 (wrap64 (x8 + x6)))) else ((slices_insertionSortCmpFunc_haircut_Item.f k x0 x7 x1).bind fun t420 => (slices_stableCmpFunc_haircut_Item.l1 k t420 x1 x6))
def slices_stableCmpFunc_haircut_Item.l1 : Nat → List (S47) → Int → Int → Option ((List (S47)))
 | 0, _, _, _ => none
 | k + 1, x0, x1, x6 => if x6 < x1 then (slices_stableCmpFunc_haircut_Item.l2 k x0 x1 x6 0 (wrap64 (2 * x6))) else (some x0)
def slices_stableCmpFunc_haircut_Item.l2 : Nat → List (S47) → Int → Int → Int → Int → Option ((List (S47)))
 | 0, _, _, _, _, _ => none
 | k + 1, x0, x1, x6, x7, x8 => if x8 ≤ x1 then ((slices_symMergeCmpFunc_haircut_Item.f k x0 x7 (wrap64 (x7 + x6)) x8).bind fun t421 => (slices_stableCmpFunc_haircut_Item.l2 k t421 x1 x6 x8 (wrap64 (x8 + (wrap64 (2 * x6)))))) else (if (wrap64 (x7 + x6)) < x1 then ((slices_symMergeCmpFunc_haircut_Item.f k x0 x7 (wrap64 (x7 + x6)) x1).bind fun t422 => (slices_stableCmpFunc_haircut_Item.l1 k t422 x1 (wrap64 (x6 * 2)))) else (slices_stableCmpFunc_haircut_Item.l1 k x0 x1 (wrap64 (x6 * 2))))
end
def slices_stableCmpFunc_haircut_Item.f (k : Nat) (l0 : List (S47)) (a1 : Int)  : Option ((List (S47))) := slices_stableCmpFunc_haircut_Item.l0 k l0 a1 20 0 20
theorem slices_stableCmpFunc_haircut_Item.mono_l : ∀ k, (∀ y0 y1 y2 y3 y4, LeO (slices_stableCmpFunc_haircut_Item.l0 k y0 y1 y2 y3 y4) (slices_stableCmpFunc_haircut_Item.l0 (k + 1) y0 y1 y2 y3 y4)) ∧ (∀ y0 y1 y2, LeO (slices_stableCmpFunc_haircut_Item.l1 k y0 y1 y2) (slices_stableCmpFunc_haircut_Item.l1 (k + 1) y0 y1 y2)) ∧ (∀ y0 y1 y2 y3 y4, LeO (slices_stableCmpFunc_haircut_Item.l2 k y0 y1 y2 y3 y4) (slices_stableCmpFunc_haircut_Item.l2 (k + 1) y0 y1 y2 y3 y4))
 | 0 => ⟨fun _ _ _ _ _ r h => by simp [slices_stableCmpFunc_haircut_Item.l0] at h, fun _ _ _ r h => by simp [slices_stableCmpFunc_haircut_Item.l1] at h, fun _ _ _ _ _ r h => by simp [slices_stableCmpFunc_haircut_Item.l2] at h⟩
 | k + 1 => by
  obtain ⟨ih0, ih1, ih2⟩ := slices_stableCmpFunc_haircut_Item.mono_l k
  refine ⟨?_, ?_, ?_⟩
  intro y0 y1 y2 y3 y4; unfold slices_stableCmpFunc_haircut_Item.l0; rotate_left
  intro y0 y1 y2; unfold slices_stableCmpFunc_haircut_Item.l1; rotate_left
  intro y0 y1 y2 y3 y4; unfold slices_stableCmpFunc_haircut_Item.l2; rotate_left
  all_goals repeat' first
  | (with_reducible exact ih0 _ _ _ _ _)
  | (with_reducible exact ih1 _ _ _)
  | (with_reducible exact ih2 _ _ _ _ _)
  | (with_reducible exact slices_insertionSortCmpFunc_haircut_Item.mono _ _ _ _)
  | (with_reducible exact slices_symMergeCmpFunc_haircut_Item.mono _ _ _ _ _)
  | (with_reducible exact LeO.refl _)
  | (with_reducible exact LeO.none _)
  | (with_reducible refine LeO.ite ?_ ?_)
  | (with_reducible refine LeO.bind ?_ (fun _ => ?_))
  | exact ih0 _ _ _ _ _
  | exact ih1 _ _ _
  | exact ih2 _ _ _ _ _
  | exact slices_insertionSortCmpFunc_haircut_Item.mono _ _ _ _
  | exact slices_symMergeCmpFunc_haircut_Item.mono _ _ _ _ _
  | exact LeO.none _
  | refine LeO.ite ?_ ?_
  | refine LeO.bind ?_ (fun _ => ?_)
theorem slices_stableCmpFunc_haircut_Item.mono : ∀ a0 a1 k, LeO (slices_stableCmpFunc_haircut_Item.f k a0 a1) (slices_stableCmpFunc_haircut_Item.f (k + 1) a0 a1) := by
 intro a0 a1 k
 obtain ⟨ih0, ih1, ih2⟩ := slices_stableCmpFunc_haircut_Item.mono_l k
 unfold slices_stableCmpFunc_haircut_Item.f
 repeat' first
  | (with_reducible exact ih0 _ _ _ _ _)
  | (with_reducible exact ih1 _ _ _)
  | (with_reducible exact ih2 _ _ _ _ _)
  | (with_reducible exact slices_insertionSortCmpFunc_haircut_Item.mono _ _ _ _)
  | (with_reducible exact slices_symMergeCmpFunc_haircut_Item.mono _ _ _ _ _)
  | (with_reducible exact LeO.refl _)
  | (with_reducible exact LeO.none _)
  | (with_reducible refine LeO.ite ?_ ?_)
  | (with_reducible refine LeO.bind ?_ (fun _ => ?_))
  | exact ih0 _ _ _ _ _
  | exact ih1 _ _ _
  | exact ih2 _ _ _ _ _
  | exact slices_insertionSortCmpFunc_haircut_Item.mono _ _ _ _
  | exact slices_symMergeCmpFunc_haircut_Item.mono _ _ _ _ _
  | exact LeO.none _
  | refine LeO.ite ?_ ?_
  | refine LeO.bind ?_ (fun _ => ?_)
set_option maxHeartbeats 8000000 in
set_option maxRecDepth 100000 in
theorem slices_stableCmpFunc_haircut_Item.calls (k : Nat) (P0_ : Nat → Prop) (u9000_ : Value) (l0 : List (S47)) (a1 : Int)  (r : List (S47)) (w0 w : World) (hB : Below w0.heap.size w0 w) (ho0 : Kd.R k47 47 w w0.heap.size P0_ u9000_ l0) (h : slices_stableCmpFunc_haircut_Item.f k l0 a1 = some r) :
 Calls Try.prog 44 #[u9000_, .int .i64 a1, .func (.func 39) #[] #[]] w fun e w' => e = .returned (.tuple #[]) ∧ Kd.R k47 47 w' w0.heap.size (fun k_ => (P0_ k_ ∨ w.heap.size ≤ k_)) u9000_ r ∧ Below w0.heap.size w0 w' ∧ Kept w w' (fun k_ => P0_ k_) := by
 have HO0 := Aside0.mk (show Kd.R k47 47 w w0.heap.size (fun k_ => (P0_ k_ ∨ w.heap.size ≤ k_)) u9000_ l0 from Kd.R_mono ho0 (fun k_ hk => (.inl hk)))
 have HK := Aside0.mk (Kept.refl w (fun k_ => P0_ k_))
 have HW0 := Aside0.mk hB.size
 have HB := Aside0.mk hB; clear hB
 have H : (slices_stableCmpFunc_haircut_Item.l0 k l0 a1 20 0 20) = some r := h
 clear h
 have H' := Aside0.mk H
 clear H
 go_enter Try.func44, Try.ntmps44
 go_wp2
 (try simp only [Act.put, sA, sB, sC])
 go_loopg [7, 8] k (fun kq v7 v8 w' => ∃ (x0_1 : List (S47)) (x7_1 : Int) (x8_1 : Int), v7 = .int .i64 x7_1 ∧ v8 = .int .i64 x8_1 ∧ Aside0 (slices_stableCmpFunc_haircut_Item.l0 kq x0_1 a1 20 x7_1 x8_1 = some r) ∧ Aside0 (kq ≤ k) ∧ Aside0 (Kd.R k47 47 w' w0.heap.size (fun k_ => (P0_ k_ ∨ w.heap.size ≤ k_)) u9000_ x0_1) ∧ Aside0 (Kept w w' (fun k_ => P0_ k_)) ∧ Aside0 (Below w0.heap.size w0 w'))
 case atStart => exact ⟨(l0), (0), (20), ac, ac, H', ⟨Nat.le_refl _⟩, ⟨gR HO0⟩, ⟨gP HK⟩, ⟨gB HB⟩⟩
 case round =>
  clear H'; (try clear p2)
  obtain ⟨x0_1, x7_1, x8_1, rfl, rfl, HA, HK1, HO_0, HK, HB⟩ := hrel
  cases gk with
  | zero => exact absurd HA.out (by simp [slices_stableCmpFunc_haircut_Item.l0])
  | succ k1 =>
   have H := HA.out
   clear HA
   simp only [slices_stableCmpFunc_haircut_Item.l0] at H
   by_cases c4 : x8_1 ≤ a1
   · rw [if_pos c4] at H
     have c4b0 : decide (x8_1 ≤ a1) = true := decide_eq_true c4
     clear c4
     replace H := Option.bind_eq_some_iff.mp H
     obtain ⟨t419, A50, H⟩ := H
     replace H : (slices_stableCmpFunc_haircut_Item.l0 k1 t419 a1 20 x8_1 (wrap64 (x8_1 + 20))) = some r := H
     have A5 := Aside0.mk A50; clear A50
     have H' := Aside0.mk H
     clear H
     obtain ⟨Ao6, co6, eo6⟩ := Kd.R_slice HO_0.out
     subst eo6
     go_wp2_with (first | ((with_reducible refine gate_callee (f := 50) rfl ?_); refine goesL_ (some 18) rfl rfl Try.func50 (by kernel_rfl) rfl #[.slice Ao6 x0_1.length co6, .int .i64 x7_1, .int .i64 x8_1, .func (.func 39) #[] #[]] rfl am ?_; (with_reducible refine (slices_insertionSortCmpFunc_haircut_Item.calls k1 (fun k_ => some k_ = (.slice Ao6 x0_1.length co6 : Value).ownBlock) (.slice Ao6 x0_1.length co6) x0_1 x7_1 x8_1  t419 w0 _ ?side1 ?side2 A5.out).mono ?_); (case side1 => exact gB HB); (case side2 => exact Kd.R_tight rfl HO_0.out); rintro e w7 ⟨rfl, hy0, hb, hkp⟩; refine ⟨_, rfl, ?_⟩; have n0_ := Aside0.mk (Kd.R_reok rfl hy0 (fun k_ e_ => HO_0.out.1 k_ e_)); have n1_ := Aside0.mk (Kept.then_ (S := (fun k_ => P0_ k_)) (gP HK) hkp (fun k_ hs_ => (fun e_ => (HO_0.out.1 k_ e_.symm)) hs_)); have n2_ := Aside0.mk (hb); clear HO_0; clear HK; clear HB; have HO_0 := n0_; have HK := n1_; have HB := n2_; clear n0_ n1_ n2_; (try clear hb); (try clear hkp); (try clear hy0)))
     go_roundg k1
     case measure => have := HK1.out; omega
     case rel => exact ⟨(t419), (x8_1), (wrap64 (x8_1 + 20)), ac, ac, H', ⟨by have := HK1.out; omega⟩, ⟨gR HO_0⟩, ⟨gP HK⟩, ⟨gB HB⟩⟩
   · rw [if_neg c4] at H
     have c4b0 : decide (x8_1 ≤ a1) = false := decide_eq_false c4
     clear c4
     replace H := Option.bind_eq_some_iff.mp H
     obtain ⟨t420, A80, H⟩ := H
     replace H : (slices_stableCmpFunc_haircut_Item.l1 k1 t420 a1 20) = some r := H
     have A8 := Aside0.mk A80; clear A80
     have H' := Aside0.mk H
     clear H
     obtain ⟨Ao9, co9, eo9⟩ := Kd.R_slice HO_0.out
     subst eo9
     go_wp2_with (first | ((with_reducible refine gate_callee (f := 50) rfl ?_); refine goesL_ (some 27) rfl rfl Try.func50 (by kernel_rfl) rfl #[.slice Ao9 x0_1.length co9, .int .i64 x7_1, .int .i64 a1, .func (.func 39) #[] #[]] rfl am ?_; (with_reducible refine (slices_insertionSortCmpFunc_haircut_Item.calls k1 (fun k_ => some k_ = (.slice Ao9 x0_1.length co9 : Value).ownBlock) (.slice Ao9 x0_1.length co9) x0_1 x7_1 a1  t420 w0 _ ?side1 ?side2 A8.out).mono ?_); (case side1 => exact gB HB); (case side2 => exact Kd.R_tight rfl HO_0.out); rintro e w10 ⟨rfl, hy0, hb, hkp⟩; refine ⟨_, rfl, ?_⟩; have n0_ := Aside0.mk (Kd.R_reok rfl hy0 (fun k_ e_ => HO_0.out.1 k_ e_)); have n1_ := Aside0.mk (Kept.then_ (S := (fun k_ => P0_ k_)) (gP HK) hkp (fun k_ hs_ => (fun e_ => (HO_0.out.1 k_ e_.symm)) hs_)); have n2_ := Aside0.mk (hb); clear HO_0; clear HK; clear HB; have HO_0 := n0_; have HK := n1_; have HB := n2_; clear n0_ n1_ n2_; (try clear hb); (try clear hkp); (try clear hy0)))
     (try simp only [Act.put, sA, sB, sC])
     go_loopg [6] k1 (fun kq v6 w' => ∃ (x0_2 : List (S47)) (x6_2 : Int), v6 = .int .i64 x6_2 ∧ Aside0 (slices_stableCmpFunc_haircut_Item.l1 kq x0_2 a1 x6_2 = some r) ∧ Aside0 (kq ≤ k1) ∧ Aside0 (Kd.R k47 47 w' w0.heap.size (fun k_ => (P0_ k_ ∨ w.heap.size ≤ k_)) (.slice Ao9 x0_1.length co9) x0_2) ∧ Aside0 (Kept w w' (fun k_ => P0_ k_)) ∧ Aside0 (Below w0.heap.size w0 w'))
     case atStart => exact ⟨(t420), (20), ac, H', ⟨Nat.le_refl _⟩, ⟨gR HO_0⟩, ⟨gP HK⟩, ⟨gB HB⟩⟩
     case round =>
      clear H'; (try clear p2); (try clear c4); (try clear c4b0); (try clear c5); (try clear p6); (try clear p2)
      obtain ⟨x0_2, x6_2, rfl, HA, HK2, HO_0, HK, HB⟩ := hrel
      have hl0_2 := (Kd.R_reads' HO_0.out).1
      rw [hl0_2] at HO_0
      (try simp only [hl0_2])
      cases gk with
      | zero => exact absurd HA.out (by simp [slices_stableCmpFunc_haircut_Item.l1])
      | succ k2 =>
       have H := HA.out
       clear HA
       simp only [slices_stableCmpFunc_haircut_Item.l1] at H
       by_cases c11 : x6_2 < a1
       · rw [if_pos c11] at H
         have c11b0 : decide (x6_2 < a1) = true := decide_eq_true c11
         clear c11
         have H' := Aside0.mk H
         clear H
         go_wp2
         (try simp only [Act.put, sA, sB, sC])
         go_loopg [7, 8] k2 (fun kq v7 v8 w' => ∃ (x0_3 : List (S47)) (x7_3 : Int) (x8_3 : Int), v7 = .int .i64 x7_3 ∧ v8 = .int .i64 x8_3 ∧ Aside0 (slices_stableCmpFunc_haircut_Item.l2 kq x0_3 a1 x6_2 x7_3 x8_3 = some r) ∧ Aside0 (kq ≤ k2) ∧ Aside0 (Kd.R k47 47 w' w0.heap.size (fun k_ => (P0_ k_ ∨ w.heap.size ≤ k_)) (.slice Ao9 x0_2.length co9) x0_3) ∧ Aside0 (Kept w w' (fun k_ => P0_ k_)) ∧ Aside0 (Below w0.heap.size w0 w'))
         case atStart => exact ⟨(x0_2), (0), (wrap64 (2 * x6_2)), ac, ac, H', ⟨Nat.le_refl _⟩, ⟨by (try simp only [hl0_2]); (with_reducible repeat (first | apply Kd.R_alloc | apply Kd.R_drewN | apply Kd.R_drew)); exact HO_0.out⟩, ⟨gP HK⟩, ⟨gB HB⟩⟩
         case round =>
          clear H'; (try clear c1); (try clear p2); (try clear c4); (try clear c4b0); (try clear c5); (try clear p6); (try clear c11); (try clear c11b0); (try clear p2); (try clear p6)
          obtain ⟨x0_3, x7_3, x8_3, rfl, rfl, HA, HK3, HO_0, HK, HB⟩ := hrel
          have hl0_3 := (Kd.R_reads' HO_0.out).1
          rw [hl0_3] at HO_0
          (try simp only [hl0_3])
          cases gk with
          | zero => exact absurd HA.out (by simp [slices_stableCmpFunc_haircut_Item.l2])
          | succ k3 =>
           have H := HA.out
           clear HA
           simp only [slices_stableCmpFunc_haircut_Item.l2] at H
           by_cases c12 : x8_3 ≤ a1
           · rw [if_pos c12] at H
             have c12b0 : decide (x8_3 ≤ a1) = true := decide_eq_true c12
             clear c12
             replace H := Option.bind_eq_some_iff.mp H
             obtain ⟨t421, A130, H⟩ := H
             replace H : (slices_stableCmpFunc_haircut_Item.l2 k3 t421 a1 x6_2 x8_3 (wrap64 (x8_3 + (wrap64 (2 * x6_2))))) = some r := H
             have A13 := Aside0.mk A130; clear A130
             have H' := Aside0.mk H
             clear H
             go_wp2_with (first | ((with_reducible refine gate_callee (f := 51) rfl ?_); refine goesL_ (some 43) rfl rfl Try.func51 (by kernel_rfl) rfl #[.slice Ao9 x0_3.length co9, .int .i64 x7_3, .int .i64 (wrap64 (x7_3 + x6_2)), .int .i64 x8_3, .func (.func 39) #[] #[]] rfl am ?_; (with_reducible refine (slices_symMergeCmpFunc_haircut_Item.calls k3 (fun k_ => some k_ = (.slice Ao9 x0_3.length co9 : Value).ownBlock) (.slice Ao9 x0_3.length co9) x0_3 x7_3 (wrap64 (x7_3 + x6_2)) x8_3  t421 w0 _ ?side1 ?side2 A13.out).mono ?_); (case side1 => exact gB HB); (case side2 => exact Kd.R_tight rfl HO_0.out); rintro e w14 ⟨rfl, hy0, hb, hkp⟩; refine ⟨_, rfl, ?_⟩; have n0_ := Aside0.mk (Kd.R_reok rfl hy0 (fun k_ e_ => HO_0.out.1 k_ e_)); have n1_ := Aside0.mk (Kept.then_ (S := (fun k_ => P0_ k_)) (gP HK) hkp (fun k_ hs_ => (fun e_ => (HO_0.out.1 k_ e_.symm)) hs_)); have n2_ := Aside0.mk (hb); clear HO_0; clear HK; clear HB; have HO_0 := n0_; have HK := n1_; have HB := n2_; clear n0_ n1_ n2_; (try clear hb); (try clear hkp); (try clear hy0)))
             (try simp only [← hl0_3])
             go_roundg k3
             case measure => have := HK1.out; have := HK2.out; have := HK3.out; omega
             case rel => exact ⟨(t421), (x8_3), (wrap64 (x8_3 + (wrap64 (2 * x6_2)))), ac, ac, H', ⟨by have := HK1.out; have := HK2.out; have := HK3.out; omega⟩, ⟨by (try simp only [hl0_2]); (try simp only [hl0_3]); (with_reducible repeat (first | apply Kd.R_alloc | apply Kd.R_drewN | apply Kd.R_drew)); exact HO_0.out⟩, ⟨gP HK⟩, ⟨gB HB⟩⟩
           · rw [if_neg c12] at H
             have c12b0 : decide (x8_3 ≤ a1) = false := decide_eq_false c12
             clear c12
             by_cases c15 : (wrap64 (x7_3 + x6_2)) < a1
             · rw [if_pos c15] at H
               have c15b0 : decide ((wrap64 (x7_3 + x6_2)) < a1) = true := decide_eq_true c15
               clear c15
               replace H := Option.bind_eq_some_iff.mp H
               obtain ⟨t422, A160, H⟩ := H
               replace H : (slices_stableCmpFunc_haircut_Item.l1 k3 t422 a1 (wrap64 (x6_2 * 2))) = some r := H
               have A16 := Aside0.mk A160; clear A160
               have H' := Aside0.mk H
               clear H
               go_wp2_with (first | ((with_reducible refine gate_callee (f := 51) rfl ?_); refine goesL_ (some 60) rfl rfl Try.func51 (by kernel_rfl) rfl #[.slice Ao9 x0_3.length co9, .int .i64 x7_3, .int .i64 (wrap64 (x7_3 + x6_2)), .int .i64 a1, .func (.func 39) #[] #[]] rfl am ?_; (with_reducible refine (slices_symMergeCmpFunc_haircut_Item.calls k3 (fun k_ => some k_ = (.slice Ao9 x0_3.length co9 : Value).ownBlock) (.slice Ao9 x0_3.length co9) x0_3 x7_3 (wrap64 (x7_3 + x6_2)) a1  t422 w0 _ ?side1 ?side2 A16.out).mono ?_); (case side1 => exact gB HB); (case side2 => exact Kd.R_tight rfl HO_0.out); rintro e w17 ⟨rfl, hy0, hb, hkp⟩; refine ⟨_, rfl, ?_⟩; have n0_ := Aside0.mk (Kd.R_reok rfl hy0 (fun k_ e_ => HO_0.out.1 k_ e_)); have n1_ := Aside0.mk (Kept.then_ (S := (fun k_ => P0_ k_)) (gP HK) hkp (fun k_ hs_ => (fun e_ => (HO_0.out.1 k_ e_.symm)) hs_)); have n2_ := Aside0.mk (hb); clear HO_0; clear HK; clear HB; have HO_0 := n0_; have HK := n1_; have HB := n2_; clear n0_ n1_ n2_; (try clear hb); (try clear hkp); (try clear hy0)))
               (try simp only [← hl0_2, ← hl0_3])
               go_roundg k3
               case measure => have := HK1.out; have := HK2.out; have := HK3.out; omega
               case rel => exact ⟨(t422), (wrap64 (x6_2 * 2)), ac, H', ⟨by have := HK1.out; have := HK2.out; have := HK3.out; omega⟩, ⟨by (try simp only [hl0_2]); (try simp only [hl0_3]); (with_reducible repeat (first | apply Kd.R_alloc | apply Kd.R_drewN | apply Kd.R_drew)); exact HO_0.out⟩, ⟨gP HK⟩, ⟨gB HB⟩⟩
             · rw [if_neg c15] at H
               have c15b0 : decide ((wrap64 (x7_3 + x6_2)) < a1) = false := decide_eq_false c15
               clear c15
               have H' := Aside0.mk H
               clear H
               go_wp2
               (try simp only [← hl0_2, ← hl0_3])
               go_roundg k3
               case measure => have := HK1.out; have := HK2.out; have := HK3.out; omega
               case rel => exact ⟨(x0_3), (wrap64 (x6_2 * 2)), ac, H', ⟨by have := HK1.out; have := HK2.out; have := HK3.out; omega⟩, ⟨by (try simp only [hl0_2]); (try simp only [hl0_3]); (with_reducible repeat (first | apply Kd.R_alloc | apply Kd.R_drewN | apply Kd.R_drew)); exact HO_0.out⟩, ⟨gP HK⟩, ⟨gB HB⟩⟩
       · rw [if_neg c11] at H
         have c11b0 : decide (x6_2 < a1) = false := decide_eq_false c11
         clear c11
         obtain rfl := Option.some.inj H
         go_wp2
         first | go_end0 | ((try simp only [Exit.inBlock, Exit.then]); refine bodyPost_ret (results_none rfl _ _ _) rfl ?_)
         exact ⟨by first | rfl | (simp [errW_none, errW_some] <;> rfl) | (simp [*, errW_none, errW_some] <;> rfl), (by first | exact (gR HO_0) | (simp only [hl0_2]; exact (gR HO_0))), gB HB, gP HK⟩
def slices_SortStableFunc_haircut_Item_haircut_Item.f (k : Nat) (l0 : List (S47))  : Option ((List (S47))) := (slices_stableCmpFunc_haircut_Item.f k l0 (l0.length : Int)).bind fun t423 => (some t423)
theorem slices_SortStableFunc_haircut_Item_haircut_Item.mono : ∀ a0 k, LeO (slices_SortStableFunc_haircut_Item_haircut_Item.f k a0) (slices_SortStableFunc_haircut_Item_haircut_Item.f (k + 1) a0) := by
 intro a0 k
 unfold slices_SortStableFunc_haircut_Item_haircut_Item.f
 repeat' first
  | (with_reducible exact slices_stableCmpFunc_haircut_Item.mono _ _ _)
  | (with_reducible exact LeO.refl _)
  | (with_reducible exact LeO.none _)
  | (with_reducible refine LeO.ite ?_ ?_)
  | (with_reducible refine LeO.bind ?_ (fun _ => ?_))
  | exact slices_stableCmpFunc_haircut_Item.mono _ _ _
  | exact LeO.none _
  | refine LeO.ite ?_ ?_
  | refine LeO.bind ?_ (fun _ => ?_)
set_option maxHeartbeats 8000000 in
set_option maxRecDepth 100000 in
theorem slices_SortStableFunc_haircut_Item_haircut_Item.calls (k : Nat) (P0_ : Nat → Prop) (u9000_ : Value) (l0 : List (S47))  (r : List (S47)) (w0 w : World) (hB : Below w0.heap.size w0 w) (ho0 : Kd.R k47 47 w w0.heap.size P0_ u9000_ l0) (h : slices_SortStableFunc_haircut_Item_haircut_Item.f k l0 = some r) :
 Calls Try.prog 38 #[u9000_, .func (.func 39) #[] #[]] w fun e w' => e = .returned (.tuple #[]) ∧ Kd.R k47 47 w' w0.heap.size (fun k_ => (P0_ k_ ∨ w.heap.size ≤ k_)) u9000_ r ∧ Below w0.heap.size w0 w' ∧ Kept w w' (fun k_ => P0_ k_) := by
 have HO0 := Aside0.mk (show Kd.R k47 47 w w0.heap.size (fun k_ => (P0_ k_ ∨ w.heap.size ≤ k_)) u9000_ l0 from Kd.R_mono ho0 (fun k_ hk => (.inl hk)))
 have HK := Aside0.mk (Kept.refl w (fun k_ => P0_ k_))
 have HW0 := Aside0.mk hB.size
 have HB := Aside0.mk hB; clear hB
 have H : ((slices_stableCmpFunc_haircut_Item.f k l0 (l0.length : Int)).bind fun t423 => (some t423)) = some r := h
 clear h
 replace H := Option.bind_eq_some_iff.mp H
 obtain ⟨t423, A30, H⟩ := H
 replace H : (some t423) = some r := H
 have A3 := Aside0.mk A30; clear A30
 obtain rfl := Option.some.inj H
 obtain ⟨Ao4, co4, eo4⟩ := Kd.R_slice HO0.out
 subst eo4
 go_enter Try.func38, Try.ntmps38
 go_wp2_with (first | ((with_reducible refine gate_callee (f := 44) rfl ?_); refine goesL_ (some 8) rfl rfl Try.func44 (by kernel_rfl) rfl #[.slice Ao4 l0.length co4, .int .i64 (l0.length : Int), .func (.func 39) #[] #[]] rfl am ?_; (with_reducible refine (slices_stableCmpFunc_haircut_Item.calls k (fun k_ => some k_ = (.slice Ao4 l0.length co4 : Value).ownBlock) (.slice Ao4 l0.length co4) l0 (l0.length : Int)  t423 w0 _ ?side1 ?side2 A3.out).mono ?_); (case side1 => exact gB HB); (case side2 => exact Kd.R_tight rfl HO0.out); rintro e w5 ⟨rfl, hy0, hb, hkp⟩; refine ⟨_, rfl, ?_⟩; have n0_ := Aside0.mk (Kd.R_reok rfl hy0 (fun k_ e_ => HO0.out.1 k_ e_)); have n1_ := Aside0.mk (Kept.then_ (S := (fun k_ => P0_ k_)) (gP HK) hkp (fun k_ hs_ => (fun e_ => (HO0.out.1 k_ e_.symm)) hs_)); have n2_ := Aside0.mk (hb); clear HO0; clear HK; clear HB; have HO0 := n0_; have HK := n1_; have HB := n2_; clear n0_ n1_ n2_; (try clear hb); (try clear hkp); (try clear hy0)))
 first | go_end0 | ((try simp only [Exit.inBlock, Exit.then]); refine bodyPost_ret (results_none rfl _ _ _) rfl ?_)
 exact ⟨by first | rfl | (simp [errW_none, errW_some] <;> rfl) | (simp [*, errW_none, errW_some] <;> rfl), gR HO0, gB HB, gP HK⟩
def lots_Rank.f (k : Nat) (l0 : List (S47)) : Option ((List (S47))) := (slices_Clone_haircut_Item_haircut_Item.f l0).bind fun t424 => ((slices_SortStableFunc_haircut_Item_haircut_Item.f k t424).bind fun t427 => (some t427))
theorem lots_Rank.mono : ∀ a0 k, LeO (lots_Rank.f k a0) (lots_Rank.f (k + 1) a0) := by
 intro a0 k
 unfold lots_Rank.f
 repeat' first
  | (with_reducible exact slices_SortStableFunc_haircut_Item_haircut_Item.mono _ _)
  | (with_reducible exact LeO.refl _)
  | (with_reducible exact LeO.none _)
  | (with_reducible refine LeO.ite ?_ ?_)
  | (with_reducible refine LeO.bind ?_ (fun _ => ?_))
  | exact slices_SortStableFunc_haircut_Item_haircut_Item.mono _ _
  | exact LeO.none _
  | refine LeO.ite ?_ ?_
  | refine LeO.bind ?_ (fun _ => ?_)
set_option maxHeartbeats 8000000 in
set_option maxRecDepth 100000 in
theorem lots_Rank.calls (k : Nat) (A0 : Option Addr) (c0 : Nat) (l0 : List (S47)) (r : List (S47)) (w : World) (hr0 : Kd.C k47 w A0 l0.length l0) (hc0 : l0.length ≤ c0) (h : lots_Rank.f k l0 = some r) :
 Calls Try.prog 29 #[.slice A0 l0.length c0] w fun e w' => ∃ v0_ : Value, e = .returned (v0_) ∧ Kd.R k47 47 w' w.heap.size (fun _ => True) v0_ r ∧ Below w.heap.size w w' := by
 have HR0 := Aside0.mk hr0; have HC0 := Aside0.mk hc0; clear hr0 hc0
 have HB := Aside0.mk (Below.refl w.heap.size w)
 have H : ((slices_Clone_haircut_Item_haircut_Item.f l0).bind fun t424 => ((slices_SortStableFunc_haircut_Item_haircut_Item.f k t424).bind fun t427 => (some t427))) = some r := h
 clear h
 replace H := Option.bind_eq_some_iff.mp H
 obtain ⟨t424, A20, H⟩ := H
 replace H : ((slices_SortStableFunc_haircut_Item_haircut_Item.f k t424).bind fun t427 => (some t427)) = some r := H
 have A2 := Aside0.mk A20; clear A20
 replace H := Option.bind_eq_some_iff.mp H
 obtain ⟨t427, A30, H⟩ := H
 replace H : (some t427) = some r := H
 have A3 := Aside0.mk A30; clear A30
 obtain rfl := Option.some.inj H
 go_enter Try.func29, Try.ntmps29
 go_wp2_with (first | ((with_reducible refine gate_callee (f := 37) rfl ?_); refine goesL_ (some 5) rfl rfl Try.func37 (by kernel_rfl) rfl #[.slice A0 l0.length c0] rfl am ?_; (with_reducible refine (slices_Clone_haircut_Item_haircut_Item.calls _ _ l0 t424 _ ?side1 ?side2 A2.out).mono ?_); (case side1 => repeat (first | exact HR0.out | (with_reducible refine Kd.C_alloc ?_ _) | (with_reducible refine Kd.C_drewN ?_ _) | (with_reducible refine Kd.C_drew ?_))); (case side2 => exact HC0.out); rintro e w4 ⟨v425, rfl, ho0, hb⟩; refine ⟨_, rfl, ?_⟩; have n0_ := Aside0.mk (Kd.R_lower ho0 (below_size (gB HB))); have n1_ := Aside0.mk (below_step (gB HB) hb); clear HB; have HO426 := n0_; have HB := n1_; clear n0_ n1_; (try clear hb); (try clear hb2); (try clear hk); (try clear hi); (try clear ho0); obtain ⟨Ao5, co5, eo5⟩ := Kd.R_slice HO426.out; subst eo5) | ((with_reducible refine gate_callee (f := 38) rfl ?_); refine goesL_ (some 7) rfl rfl Try.func38 (by kernel_rfl) rfl #[.slice Ao5 t424.length co5, .func (.func 39) #[] #[]] rfl am ?_; (with_reducible refine (slices_SortStableFunc_haircut_Item_haircut_Item.calls k (fun k_ => some k_ = (.slice Ao5 t424.length co5 : Value).ownBlock) (.slice Ao5 t424.length co5) t424  t427 w _ ?side1 ?side2 A3.out).mono ?_); (case side1 => exact gB HB); (case side2 => exact Kd.R_tight rfl HO426.out); rintro e w6 ⟨rfl, hy0, hb, hkp⟩; refine ⟨_, rfl, ?_⟩; have n0_ := Aside0.mk (Kd.R_reok rfl hy0 (fun k_ e_ => HO426.out.1 k_ e_)); have n1_ := Aside0.mk (hb); clear HO426; clear HB; have HO426 := n0_; have HB := n1_; clear n0_ n1_; (try clear hb); (try clear hkp); (try clear hy0)))
 go_ret
 exact ⟨_, by first | rfl | (simp [errW_none, errW_some] <;> rfl) | (simp [*, errW_none, errW_some] <;> rfl), gR HO426, gB HB⟩
def lots_Worst.f (k : Nat) (l0 : List (S47)) : Option (ByteArray × Int × ByteArray × Int × Int × Int × ByteArray × Int × Int × Bool) := if (l0.length : Int) = 0 then (some ((⟨#[]⟩ : ByteArray), 0, (⟨#[]⟩ : ByteArray), 0, 0, 0, (⟨#[]⟩ : ByteArray), 0, 0, false)) else ((lots_Rank.f k l0).bind fun t429 => (if 0 ≤ (wrap64 ((t429.length : Int) - 1)) then (if (wrap64 ((t429.length : Int) - 1)) < (t429.length : Int) then (some ((rd_T47 t429 (wrap64 ((t429.length : Int) - 1))).f0.f0, (rd_T47 t429 (wrap64 ((t429.length : Int) - 1))).f0.f1, (rd_T47 t429 (wrap64 ((t429.length : Int) - 1))).f1.f0, (rd_T47 t429 (wrap64 ((t429.length : Int) - 1))).f1.f1, (rd_T47 t429 (wrap64 ((t429.length : Int) - 1))).f1.f2, (rd_T47 t429 (wrap64 ((t429.length : Int) - 1))).f1.f3, (rd_T47 t429 (wrap64 ((t429.length : Int) - 1))).f1.f4, (rd_T47 t429 (wrap64 ((t429.length : Int) - 1))).f2, (rd_T47 t429 (wrap64 ((t429.length : Int) - 1))).f3, true)) else (none)) else (none)))
theorem lots_Worst.mono : ∀ a0 k, LeO (lots_Worst.f k a0) (lots_Worst.f (k + 1) a0) := by
 intro a0 k
 unfold lots_Worst.f
 repeat' first
  | (with_reducible exact lots_Rank.mono _ _)
  | (with_reducible exact LeO.refl _)
  | (with_reducible exact LeO.none _)
  | (with_reducible refine LeO.ite ?_ ?_)
  | (with_reducible refine LeO.bind ?_ (fun _ => ?_))
  | exact lots_Rank.mono _ _
  | exact LeO.none _
  | refine LeO.ite ?_ ?_
  | refine LeO.bind ?_ (fun _ => ?_)
set_option maxHeartbeats 8000000 in
set_option maxRecDepth 100000 in
theorem lots_Worst.calls (k : Nat) (A0 : Option Addr) (c0 : Nat) (l0 : List (S47)) (r1 : ByteArray) (r2 : Int) (r3 : ByteArray) (r4 : Int) (r5 : Int) (r6 : Int) (r7 : ByteArray) (r8 : Int) (r9 : Int) (r10 : Bool) (w : World) (hr0 : Kd.C k47 w A0 l0.length l0) (hc0 : l0.length ≤ c0) (h : lots_Worst.f k l0 = some (r1, r2, r3, r4, r5, r6, r7, r8, r9, r10)) :
 Calls Try.prog 24 #[.slice A0 l0.length c0] w fun e w' => e = .returned (.tuple #[.agg #[.string r1, .int .i64 r2, .string r3, .int .i64 r4, .int .i64 r5, .int .i64 r6, .string r7, .int .i64 r8, .int .i64 r9], .bool r10]) ∧ Below w.heap.size w w' := by
 have hu47 := Try.underlying47
 have HR0 := Aside0.mk hr0; have HC0 := Aside0.mk hc0; clear hr0 hc0
 have HB := Aside0.mk (Below.refl w.heap.size w)
 have H : (if (l0.length : Int) = 0 then (some ((⟨#[]⟩ : ByteArray), 0, (⟨#[]⟩ : ByteArray), 0, 0, 0, (⟨#[]⟩ : ByteArray), 0, 0, false)) else ((lots_Rank.f k l0).bind fun t429 => (if 0 ≤ (wrap64 ((t429.length : Int) - 1)) then (if (wrap64 ((t429.length : Int) - 1)) < (t429.length : Int) then (some ((rd_T47 t429 (wrap64 ((t429.length : Int) - 1))).f0.f0, (rd_T47 t429 (wrap64 ((t429.length : Int) - 1))).f0.f1, (rd_T47 t429 (wrap64 ((t429.length : Int) - 1))).f1.f0, (rd_T47 t429 (wrap64 ((t429.length : Int) - 1))).f1.f1, (rd_T47 t429 (wrap64 ((t429.length : Int) - 1))).f1.f2, (rd_T47 t429 (wrap64 ((t429.length : Int) - 1))).f1.f3, (rd_T47 t429 (wrap64 ((t429.length : Int) - 1))).f1.f4, (rd_T47 t429 (wrap64 ((t429.length : Int) - 1))).f2, (rd_T47 t429 (wrap64 ((t429.length : Int) - 1))).f3, true)) else (none)) else (none)))) = some (r1, r2, r3, r4, r5, r6, r7, r8, r9, r10) := h
 clear h
 by_cases c2 : (l0.length : Int) = 0
 · rw [if_pos c2] at H
   have c2b0 : ((l0.length : Int) == 0) = true := beq_iff_eq.mpr c2
   have c2b1 : ((l0.length : Int) != 0) = false := bne_eq_false_iff_eq.mpr c2
   clear c2
   simp only [Option.some.injEq, Prod.mk.injEq] at H
   obtain ⟨rfl, rfl, rfl, rfl, rfl, rfl, rfl, rfl, rfl, rfl⟩ := H
   go_enter Try.func24, Try.ntmps24
   go_wp2_with (first | ((with_reducible refine gate_dst (N := 2) rfl ?_); refine box_event ?hg (N := 2) ?hd (cs := #[.string (⟨#[]⟩ : ByteArray), .int .i64 0, .string (⟨#[]⟩ : ByteArray), .int .i64 0, .int .i64 0, .int .i64 0, .string (⟨#[]⟩ : ByteArray), .int .i64 0, .int .i64 0]) (t := 47) ?hr ?_; (case hd => rfl); (case hg => rfl); (case hr => first | (go_simp; done) | (go_simp; rfl) | (have hcq := hcq_.out; have hfq := hfq_.out; go_simp; done)); intro gb428 hg w3 hbox hb; have n0_ := Aside0.mk (below_step (gB HB) hb); have n1_ := Aside0.mk (hbox); have n2_ := Aside0.mk ((by rw [hg]; exact (below_size (gB HB)) : w.heap.size ≤ gb428)); have n3_ := Aside0.mk ((by rw [hg]; exact (below_size (gB HB)) : w.heap.size ≤ gb428)); clear HB; have HB := n0_; have BK428 := n1_; have GW428 := n2_; have GE428 := n3_; clear n0_ n1_ n2_ n3_; clear hb hbox hg; have hcz4_0 : w3.cell? ⟨gb428, 0, none⟩ = some (.string (⟨#[]⟩ : ByteArray)) := (blk_cell BK428.out 0).trans rfl; have hcz4_1 : w3.cell? ⟨gb428, 1, none⟩ = some (.int .i64 0) := (blk_cell BK428.out 1).trans rfl; have hcz4_2 : w3.cell? ⟨gb428, 2, none⟩ = some (.string (⟨#[]⟩ : ByteArray)) := (blk_cell BK428.out 2).trans rfl; have hcz4_3 : w3.cell? ⟨gb428, 3, none⟩ = some (.int .i64 0) := (blk_cell BK428.out 3).trans rfl; have hcz4_4 : w3.cell? ⟨gb428, 4, none⟩ = some (.int .i64 0) := (blk_cell BK428.out 4).trans rfl; have hcz4_5 : w3.cell? ⟨gb428, 5, none⟩ = some (.int .i64 0) := (blk_cell BK428.out 5).trans rfl; have hcz4_6 : w3.cell? ⟨gb428, 6, none⟩ = some (.string (⟨#[]⟩ : ByteArray)) := (blk_cell BK428.out 6).trans rfl; have hcz4_7 : w3.cell? ⟨gb428, 7, none⟩ = some (.int .i64 0) := (blk_cell BK428.out 7).trans rfl; have hcz4_8 : w3.cell? ⟨gb428, 8, none⟩ = some (.int .i64 0) := (blk_cell BK428.out 8).trans rfl; have hfz4_0 := blk_frozen BK428.out 0; have hfz4_1 := blk_frozen BK428.out 1; have hfz4_2 := blk_frozen BK428.out 2; have hfz4_3 := blk_frozen BK428.out 3; have hfz4_4 := blk_frozen BK428.out 4; have hfz4_5 := blk_frozen BK428.out 5; have hfz4_6 := blk_frozen BK428.out 6; have hfz4_7 := blk_frozen BK428.out 7; have hfz4_8 := blk_frozen BK428.out 8))
   refine bodyPost_ret (results_ct rfl _ _ gb428 47 #[.string (⟨#[]⟩ : ByteArray), .int .i64 0, .string (⟨#[]⟩ : ByteArray), .int .i64 0, .int .i64 0, .int .i64 0, .string (⟨#[]⟩ : ByteArray), .int .i64 0, .int .i64 0] (0, 0) _ rfl (by (with_reducible repeat (first | refine blk_drewN ?_ _ | refine blk_drew ?_ | refine blk_alloc ?_ _)); refine blk_put (cs := #[.string (⟨#[]⟩ : ByteArray), .int .i64 0, .string (⟨#[]⟩ : ByteArray), .int .i64 0, .int .i64 0, .int .i64 0, .string (⟨#[]⟩ : ByteArray), .int .i64 0, .int .i64 0]) ?_ 8 _ rfl; (with_reducible repeat (first | refine blk_drewN ?_ _ | refine blk_drew ?_ | refine blk_alloc ?_ _)); refine blk_put (cs := #[.string (⟨#[]⟩ : ByteArray), .int .i64 0, .string (⟨#[]⟩ : ByteArray), .int .i64 0, .int .i64 0, .int .i64 0, .string (⟨#[]⟩ : ByteArray), .int .i64 0, .int .i64 0]) ?_ 7 _ rfl; (with_reducible repeat (first | refine blk_drewN ?_ _ | refine blk_drew ?_ | refine blk_alloc ?_ _)); refine blk_put (cs := #[.string (⟨#[]⟩ : ByteArray), .int .i64 0, .string (⟨#[]⟩ : ByteArray), .int .i64 0, .int .i64 0, .int .i64 0, .string (⟨#[]⟩ : ByteArray), .int .i64 0, .int .i64 0]) ?_ 6 _ rfl; (with_reducible repeat (first | refine blk_drewN ?_ _ | refine blk_drew ?_ | refine blk_alloc ?_ _)); refine blk_put (cs := #[.string (⟨#[]⟩ : ByteArray), .int .i64 0, .string (⟨#[]⟩ : ByteArray), .int .i64 0, .int .i64 0, .int .i64 0, .string (⟨#[]⟩ : ByteArray), .int .i64 0, .int .i64 0]) ?_ 5 _ rfl; (with_reducible repeat (first | refine blk_drewN ?_ _ | refine blk_drew ?_ | refine blk_alloc ?_ _)); refine blk_put (cs := #[.string (⟨#[]⟩ : ByteArray), .int .i64 0, .string (⟨#[]⟩ : ByteArray), .int .i64 0, .int .i64 0, .int .i64 0, .string (⟨#[]⟩ : ByteArray), .int .i64 0, .int .i64 0]) ?_ 4 _ rfl; (with_reducible repeat (first | refine blk_drewN ?_ _ | refine blk_drew ?_ | refine blk_alloc ?_ _)); refine blk_put (cs := #[.string (⟨#[]⟩ : ByteArray), .int .i64 0, .string (⟨#[]⟩ : ByteArray), .int .i64 0, .int .i64 0, .int .i64 0, .string (⟨#[]⟩ : ByteArray), .int .i64 0, .int .i64 0]) ?_ 3 _ rfl; (with_reducible repeat (first | refine blk_drewN ?_ _ | refine blk_drew ?_ | refine blk_alloc ?_ _)); refine blk_put (cs := #[.string (⟨#[]⟩ : ByteArray), .int .i64 0, .string (⟨#[]⟩ : ByteArray), .int .i64 0, .int .i64 0, .int .i64 0, .string (⟨#[]⟩ : ByteArray), .int .i64 0, .int .i64 0]) ?_ 2 _ rfl; (with_reducible repeat (first | refine blk_drewN ?_ _ | refine blk_drew ?_ | refine blk_alloc ?_ _)); refine blk_put (cs := #[.string (⟨#[]⟩ : ByteArray), .int .i64 0, .string (⟨#[]⟩ : ByteArray), .int .i64 0, .int .i64 0, .int .i64 0, .string (⟨#[]⟩ : ByteArray), .int .i64 0, .int .i64 0]) ?_ 1 _ rfl; (with_reducible repeat (first | refine blk_drewN ?_ _ | refine blk_drew ?_ | refine blk_alloc ?_ _)); refine blk_put (cs := #[.string (⟨#[]⟩ : ByteArray), .int .i64 0, .string (⟨#[]⟩ : ByteArray), .int .i64 0, .int .i64 0, .int .i64 0, .string (⟨#[]⟩ : ByteArray), .int .i64 0, .int .i64 0]) ?_ 0 _ rfl; (with_reducible repeat (first | refine blk_drewN ?_ _ | refine blk_drew ?_ | refine blk_alloc ?_ _)); exact BK428.out) Try.underlying47 rfl (by kernel_rfl)) rfl ?_
   exact ⟨by first | rfl | (simp [errW_none, errW_some] <;> rfl) | (simp [*, errW_none, errW_some] <;> rfl), gS HB⟩
 · rw [if_neg c2] at H
   have c2b0 : ((l0.length : Int) == 0) = false := beq_eq_false_iff_ne.mpr c2
   have c2b1 : ((l0.length : Int) != 0) = true := bne_iff_ne.mpr c2
   have c2b2 : ¬ (l0 = []) := fun h_ => c2 (by rw [h_]; rfl)
   replace H := Option.bind_eq_some_iff.mp H
   obtain ⟨t429, A50, H⟩ := H
   replace H : (if 0 ≤ (wrap64 ((t429.length : Int) - 1)) then (if (wrap64 ((t429.length : Int) - 1)) < (t429.length : Int) then (some ((rd_T47 t429 (wrap64 ((t429.length : Int) - 1))).f0.f0, (rd_T47 t429 (wrap64 ((t429.length : Int) - 1))).f0.f1, (rd_T47 t429 (wrap64 ((t429.length : Int) - 1))).f1.f0, (rd_T47 t429 (wrap64 ((t429.length : Int) - 1))).f1.f1, (rd_T47 t429 (wrap64 ((t429.length : Int) - 1))).f1.f2, (rd_T47 t429 (wrap64 ((t429.length : Int) - 1))).f1.f3, (rd_T47 t429 (wrap64 ((t429.length : Int) - 1))).f1.f4, (rd_T47 t429 (wrap64 ((t429.length : Int) - 1))).f2, (rd_T47 t429 (wrap64 ((t429.length : Int) - 1))).f3, true)) else (none)) else (none)) = some (r1, r2, r3, r4, r5, r6, r7, r8, r9, r10) := H
   have A5 := Aside0.mk A50; clear A50
   obtain ⟨ji6, hji6⟩ : ∃ j_ : Int, (wrap64 ((t429.length : Int) - 1)) = j_ := ⟨_, rfl⟩
   replace H : (if 0 ≤ (ji6) then (if (ji6) < (t429.length : Int) then (some ((rd_T47 t429 (ji6)).f0.f0, (rd_T47 t429 (ji6)).f0.f1, (rd_T47 t429 (ji6)).f1.f0, (rd_T47 t429 (ji6)).f1.f1, (rd_T47 t429 (ji6)).f1.f2, (rd_T47 t429 (ji6)).f1.f3, (rd_T47 t429 (ji6)).f1.f4, (rd_T47 t429 (ji6)).f2, (rd_T47 t429 (ji6)).f3, true)) else (none)) else (none)) = some (r1, r2, r3, r4, r5, r6, r7, r8, r9, r10) := by first | (rw [hji6] at H; exact H) | (simp only [hji6] at H ⊢; exact H)
   (try rw [hji6] at A5)
   have hji6w : (IntKind.i64.wrap ((t429.length : Int) - 1)) = ji6 := (i64_w _).trans hji6
   by_cases c7 : 0 ≤ (ji6)
   · rw [if_pos c7] at H
     have c7b0 : decide (0 ≤ (ji6)) = true := decide_eq_true c7
     clear c7
     by_cases c8 : (ji6) < (t429.length : Int)
     · rw [if_pos c8] at H
       have c8b0 : decide ((ji6) < (t429.length : Int)) = true := decide_eq_true c8
       clear c8
       simp only [Option.some.injEq, Prod.mk.injEq] at H
       obtain ⟨rfl, rfl, rfl, rfl, rfl, rfl, rfl, rfl, rfl, rfl⟩ := H
       go_enter Try.func24, Try.ntmps24
       go_wp2_with (first | ((with_reducible refine gate_dst (N := 2) rfl ?_); refine box_event ?hg (N := 2) ?hd (cs := #[.string (⟨#[]⟩ : ByteArray), .int .i64 0, .string (⟨#[]⟩ : ByteArray), .int .i64 0, .int .i64 0, .int .i64 0, .string (⟨#[]⟩ : ByteArray), .int .i64 0, .int .i64 0]) (t := 47) ?hr ?_; (case hd => rfl); (case hg => rfl); (case hr => first | (go_simp; done) | (go_simp; rfl) | (have hcq := hcq_.out; have hfq := hfq_.out; go_simp; done)); intro gb428 hg w9 hbox hb; have n0_ := Aside0.mk (below_step (gB HB) hb); have n1_ := Aside0.mk (hbox); have n2_ := Aside0.mk ((by rw [hg]; exact (below_size (gB HB)) : w.heap.size ≤ gb428)); have n3_ := Aside0.mk ((by rw [hg]; exact (below_size (gB HB)) : w.heap.size ≤ gb428)); clear HB; have HB := n0_; have BK428 := n1_; have GW428 := n2_; have GE428 := n3_; clear n0_ n1_ n2_ n3_; clear hb hbox hg) | ((with_reducible refine gate_callee (f := 29) rfl ?_); refine goesL_ (some 10) rfl rfl Try.func29 (by kernel_rfl) rfl #[.slice A0 l0.length c0] rfl am ?_; (with_reducible refine (lots_Rank.calls k _ _ l0 t429 _ ?side1 ?side2 A5.out).mono ?_); (case side1 => exact gC HR0 HB); (case side2 => exact HC0.out); rintro e w10 ⟨v430, rfl, ho0, hb⟩; refine ⟨_, rfl, ?_⟩; have n0_ := Aside0.mk (Kd.R_lower (Kd.R_newB ho0 (g := gb428) (o := .cells #[.string (⟨#[]⟩ : ByteArray), .int .i64 0, .string (⟨#[]⟩ : ByteArray), .int .i64 0, .int .i64 0, .int .i64 0, .string (⟨#[]⟩ : ByteArray), .int .i64 0, .int .i64 0] 47 (0, 0)) (gK BK428)) (below_size (gS HB))); have n1_ := Aside0.mk (blk_below (g := gb428) (o := .cells #[.string (⟨#[]⟩ : ByteArray), .int .i64 0, .string (⟨#[]⟩ : ByteArray), .int .i64 0, .int .i64 0, .int .i64 0, .string (⟨#[]⟩ : ByteArray), .int .i64 0, .int .i64 0] 47 (0, 0)) (gK BK428) hb); have n2_ := Aside0.mk (below_step (gS HB) hb); clear BK428; clear HB; have HO431 := n0_; have BK428 := n1_; have HB := n2_; clear n0_ n1_ n2_; (try clear hb); (try clear hb2); (try clear hk); (try clear hi); (try clear ho0); obtain ⟨Ao11, co11, eo11⟩ := Kd.R_slice HO431.out; subst eo11; have p432 : 0 ≤ ((ji6) : Int) := od; have q432 : (ji6) < (t429.length : Int) := od; obtain ⟨ad432, e432, hx432_0, hx432_1, hx432_2, hx432_3, hx432_4, hx432_5, hx432_6, hx432_7, hx432_8⟩ := at_T47 (Kd.R_reads' HO431.out).2.2 (ji6) p432 q432; cases e432; replace p432 := eq_true p432; replace q432 := eq_true q432; have hcz12_0 : w10.cell? ⟨gb428, 0, none⟩ = some (.string (⟨#[]⟩ : ByteArray)) := (blk_cell BK428.out 0).trans rfl; have hcz12_1 : w10.cell? ⟨gb428, 1, none⟩ = some (.int .i64 0) := (blk_cell BK428.out 1).trans rfl; have hcz12_2 : w10.cell? ⟨gb428, 2, none⟩ = some (.string (⟨#[]⟩ : ByteArray)) := (blk_cell BK428.out 2).trans rfl; have hcz12_3 : w10.cell? ⟨gb428, 3, none⟩ = some (.int .i64 0) := (blk_cell BK428.out 3).trans rfl; have hcz12_4 : w10.cell? ⟨gb428, 4, none⟩ = some (.int .i64 0) := (blk_cell BK428.out 4).trans rfl; have hcz12_5 : w10.cell? ⟨gb428, 5, none⟩ = some (.int .i64 0) := (blk_cell BK428.out 5).trans rfl; have hcz12_6 : w10.cell? ⟨gb428, 6, none⟩ = some (.string (⟨#[]⟩ : ByteArray)) := (blk_cell BK428.out 6).trans rfl; have hcz12_7 : w10.cell? ⟨gb428, 7, none⟩ = some (.int .i64 0) := (blk_cell BK428.out 7).trans rfl; have hcz12_8 : w10.cell? ⟨gb428, 8, none⟩ = some (.int .i64 0) := (blk_cell BK428.out 8).trans rfl; have hfz12_0 := blk_frozen BK428.out 0; have hfz12_1 := blk_frozen BK428.out 1; have hfz12_2 := blk_frozen BK428.out 2; have hfz12_3 := blk_frozen BK428.out 3; have hfz12_4 := blk_frozen BK428.out 4; have hfz12_5 := blk_frozen BK428.out 5; have hfz12_6 := blk_frozen BK428.out 6; have hfz12_7 := blk_frozen BK428.out 7; have hfz12_8 := blk_frozen BK428.out 8))
       refine bodyPost_ret (results_ct rfl _ _ gb428 47 #[.string ((rd_T47 t429 (ji6)).f0.f0), .int .i64 ((rd_T47 t429 (ji6)).f0.f1), .string ((rd_T47 t429 (ji6)).f1.f0), .int .i64 ((rd_T47 t429 (ji6)).f1.f1), .int .i64 ((rd_T47 t429 (ji6)).f1.f2), .int .i64 ((rd_T47 t429 (ji6)).f1.f3), .string ((rd_T47 t429 (ji6)).f1.f4), .int .i64 ((rd_T47 t429 (ji6)).f2), .int .i64 ((rd_T47 t429 (ji6)).f3)] (0, 0) _ rfl (by (with_reducible repeat (first | refine blk_drewN ?_ _ | refine blk_drew ?_ | refine blk_alloc ?_ _)); refine blk_put (cs := #[.string ((rd_T47 t429 (ji6)).f0.f0), .int .i64 ((rd_T47 t429 (ji6)).f0.f1), .string ((rd_T47 t429 (ji6)).f1.f0), .int .i64 ((rd_T47 t429 (ji6)).f1.f1), .int .i64 ((rd_T47 t429 (ji6)).f1.f2), .int .i64 ((rd_T47 t429 (ji6)).f1.f3), .string ((rd_T47 t429 (ji6)).f1.f4), .int .i64 ((rd_T47 t429 (ji6)).f2), .int .i64 0]) ?_ 8 _ rfl; (with_reducible repeat (first | refine blk_drewN ?_ _ | refine blk_drew ?_ | refine blk_alloc ?_ _)); refine blk_put (cs := #[.string ((rd_T47 t429 (ji6)).f0.f0), .int .i64 ((rd_T47 t429 (ji6)).f0.f1), .string ((rd_T47 t429 (ji6)).f1.f0), .int .i64 ((rd_T47 t429 (ji6)).f1.f1), .int .i64 ((rd_T47 t429 (ji6)).f1.f2), .int .i64 ((rd_T47 t429 (ji6)).f1.f3), .string ((rd_T47 t429 (ji6)).f1.f4), .int .i64 0, .int .i64 0]) ?_ 7 _ rfl; (with_reducible repeat (first | refine blk_drewN ?_ _ | refine blk_drew ?_ | refine blk_alloc ?_ _)); refine blk_put (cs := #[.string ((rd_T47 t429 (ji6)).f0.f0), .int .i64 ((rd_T47 t429 (ji6)).f0.f1), .string ((rd_T47 t429 (ji6)).f1.f0), .int .i64 ((rd_T47 t429 (ji6)).f1.f1), .int .i64 ((rd_T47 t429 (ji6)).f1.f2), .int .i64 ((rd_T47 t429 (ji6)).f1.f3), .string (⟨#[]⟩ : ByteArray), .int .i64 0, .int .i64 0]) ?_ 6 _ rfl; (with_reducible repeat (first | refine blk_drewN ?_ _ | refine blk_drew ?_ | refine blk_alloc ?_ _)); refine blk_put (cs := #[.string ((rd_T47 t429 (ji6)).f0.f0), .int .i64 ((rd_T47 t429 (ji6)).f0.f1), .string ((rd_T47 t429 (ji6)).f1.f0), .int .i64 ((rd_T47 t429 (ji6)).f1.f1), .int .i64 ((rd_T47 t429 (ji6)).f1.f2), .int .i64 0, .string (⟨#[]⟩ : ByteArray), .int .i64 0, .int .i64 0]) ?_ 5 _ rfl; (with_reducible repeat (first | refine blk_drewN ?_ _ | refine blk_drew ?_ | refine blk_alloc ?_ _)); refine blk_put (cs := #[.string ((rd_T47 t429 (ji6)).f0.f0), .int .i64 ((rd_T47 t429 (ji6)).f0.f1), .string ((rd_T47 t429 (ji6)).f1.f0), .int .i64 ((rd_T47 t429 (ji6)).f1.f1), .int .i64 0, .int .i64 0, .string (⟨#[]⟩ : ByteArray), .int .i64 0, .int .i64 0]) ?_ 4 _ rfl; (with_reducible repeat (first | refine blk_drewN ?_ _ | refine blk_drew ?_ | refine blk_alloc ?_ _)); refine blk_put (cs := #[.string ((rd_T47 t429 (ji6)).f0.f0), .int .i64 ((rd_T47 t429 (ji6)).f0.f1), .string ((rd_T47 t429 (ji6)).f1.f0), .int .i64 0, .int .i64 0, .int .i64 0, .string (⟨#[]⟩ : ByteArray), .int .i64 0, .int .i64 0]) ?_ 3 _ rfl; (with_reducible repeat (first | refine blk_drewN ?_ _ | refine blk_drew ?_ | refine blk_alloc ?_ _)); refine blk_put (cs := #[.string ((rd_T47 t429 (ji6)).f0.f0), .int .i64 ((rd_T47 t429 (ji6)).f0.f1), .string (⟨#[]⟩ : ByteArray), .int .i64 0, .int .i64 0, .int .i64 0, .string (⟨#[]⟩ : ByteArray), .int .i64 0, .int .i64 0]) ?_ 2 _ rfl; (with_reducible repeat (first | refine blk_drewN ?_ _ | refine blk_drew ?_ | refine blk_alloc ?_ _)); refine blk_put (cs := #[.string ((rd_T47 t429 (ji6)).f0.f0), .int .i64 0, .string (⟨#[]⟩ : ByteArray), .int .i64 0, .int .i64 0, .int .i64 0, .string (⟨#[]⟩ : ByteArray), .int .i64 0, .int .i64 0]) ?_ 1 _ rfl; (with_reducible repeat (first | refine blk_drewN ?_ _ | refine blk_drew ?_ | refine blk_alloc ?_ _)); refine blk_put (cs := #[.string (⟨#[]⟩ : ByteArray), .int .i64 0, .string (⟨#[]⟩ : ByteArray), .int .i64 0, .int .i64 0, .int .i64 0, .string (⟨#[]⟩ : ByteArray), .int .i64 0, .int .i64 0]) ?_ 0 _ rfl; (with_reducible repeat (first | refine blk_drewN ?_ _ | refine blk_drew ?_ | refine blk_alloc ?_ _)); exact BK428.out) Try.underlying47 rfl (by kernel_rfl)) rfl ?_
       exact ⟨by first | rfl | (simp [errW_none, errW_some] <;> rfl) | (simp only [← hji6]; first | rfl | (simp [errW_none, errW_some] <;> rfl)) | (simp [*, errW_none, errW_some] <;> rfl), gS HB⟩
     · rw [if_neg c8] at H
       exact absurd H (by simp)
   · rw [if_neg c7] at H
     exact absurd H (by simp)
def lombardlaw17_items.l0 : Nat → List (S65) → List (S47) → Int → Option ((List (S47)))
 | 0, _, _, _ => none
 | k + 1, x0, x3, x4 => if x4 < (x0.length : Int) then (if 0 ≤ x4 then (if x3.length < 1466015503701 then (lombardlaw17_items.l0 k x0 (x3 ++ [(⟨(⟨(rd_T65 x0 x4).f0.f0, (rd_T65 x0 x4).f0.f1⟩ : S43), (⟨(rd_T65 x0 x4).f1.f0, (rd_T65 x0 x4).f1.f1, (rd_T65 x0 x4).f1.f2, (rd_T65 x0 x4).f1.f3, (rd_T65 x0 x4).f1.f4⟩ : S45), (rd_T65 x0 x4).f2, (rd_T65 x0 x4).f3⟩ : S47)]) (wrap64 (x4 + 1))) else (none)) else (none)) else (some x3)
def lombardlaw17_items.f (k : Nat) (l0 : List (S65)) : Option ((List (S47))) := lombardlaw17_items.l0 k l0 ([] : List (S47)) 0
theorem lombardlaw17_items.mono_l : ∀ k, (∀ y0 y1 y2, LeO (lombardlaw17_items.l0 k y0 y1 y2) (lombardlaw17_items.l0 (k + 1) y0 y1 y2))
 | 0 => fun _ _ _ r h => by simp [lombardlaw17_items.l0] at h
 | k + 1 => by
  have ih0 := lombardlaw17_items.mono_l k
  · intro y0 y1 y2
    unfold lombardlaw17_items.l0
    repeat' first
    | (with_reducible exact ih0 _ _ _)
    | (with_reducible exact LeO.refl _)
    | (with_reducible exact LeO.none _)
    | (with_reducible refine LeO.ite ?_ ?_)
    | (with_reducible refine LeO.bind ?_ (fun _ => ?_))
    | exact ih0 _ _ _
    | exact LeO.none _
    | refine LeO.ite ?_ ?_
    | refine LeO.bind ?_ (fun _ => ?_)
theorem lombardlaw17_items.mono : ∀ a0 k, LeO (lombardlaw17_items.f k a0) (lombardlaw17_items.f (k + 1) a0) := by
 intro a0 k
 have ih0 := lombardlaw17_items.mono_l k
 unfold lombardlaw17_items.f
 repeat' first
  | (with_reducible exact ih0 _ _ _)
  | (with_reducible exact LeO.refl _)
  | (with_reducible exact LeO.none _)
  | (with_reducible refine LeO.ite ?_ ?_)
  | (with_reducible refine LeO.bind ?_ (fun _ => ?_))
  | exact ih0 _ _ _
  | exact LeO.none _
  | refine LeO.ite ?_ ?_
  | refine LeO.bind ?_ (fun _ => ?_)
def lombardlaw17_items.T5 : Bool × List (List Nat × List Nat) := (true, [([], []), ([], []), ([], []), ([1, 2], [1, 2]), ([3], [3]), ([4], [4]), ([], []), ([], []), ([6, 7], [6, 7]), ([8], [8]), ([9], [9]), ([], []), ([], []), ([11, 12], [11, 12]), ([13], [13]), ([14], [14]), ([], []), ([], []), ([16, 17], [16, 17]), ([18], [18]), ([19], [19]), ([5, 10, 15, 20], [5, 10, 15, 20]), ([21], [21]), ([0, 22], [0, 22]), ([23, 23, 0, 1, 2, 3, 4, 5, 6, 7, 8, 9, 10, 11, 12, 13, 14, 15, 16, 17, 18, 19, 20, 21, 22, 23], [0, 23])])
def lombardlaw17_items.B5 : List Nat := [0, 0, 0, 6, 14, 30, 0, 0, 192, 448, 960, 0, 0, 6144, 14336, 30720, 0, 0, 196608, 458752, 983040, 2097150, 4194302, 8388607, 16777215]
theorem lombardlaw17_items.tab5 : rtab .any (opsOf Try.f25 5) = lombardlaw17_items.T5 := by kernel_rfl
theorem lombardlaw17_items.bits5 : waitsOk lombardlaw17_items.T5.2 lombardlaw17_items.B5 = true := by kernel_rfl
set_option maxHeartbeats 8000000 in
set_option maxRecDepth 100000 in
theorem lombardlaw17_items.calls (k : Nat) (A0 : Option Addr) (c0 : Nat) (l0 : List (S65)) (r : List (S47)) (w : World) (hr0 : Kd.C k65 w A0 l0.length l0) (hc0 : l0.length ≤ c0) (h : lombardlaw17_items.f k l0 = some r) :
 Calls Try.prog 25 #[.slice A0 l0.length c0] w fun e w' => ∃ v0_ : Value, e = .returned (v0_) ∧ Kd.R k47 47 w' w.heap.size (fun _ => True) v0_ r ∧ Below w.heap.size w w' := by
 have hu43 := Try.underlying43
 have hu45 := Try.underlying45
 have hu47 := Try.underlying47
 have HR0 := Aside0.mk hr0; have HC0 := Aside0.mk hc0; clear hr0 hc0
 have HB := Aside0.mk (Below.refl w.heap.size w)
 have H : (lombardlaw17_items.l0 k l0 ([] : List (S47)) 0) = some r := h
 clear h
 have H' := Aside0.mk H
 clear H
 go_enter Try.func25, Try.ntmps25
 go_wp2
 go_loopg [3, 4] k (fun kq v3 v4 w' => ∃ (x3_1 : List (S47)) (x4_1 : Int), v4 = .int .i64 x4_1 ∧ Aside0 (lombardlaw17_items.l0 kq l0 x3_1 x4_1 = some r) ∧ Aside0 (kq ≤ k) ∧ Aside0 (Kd.R k47 47 w' w.heap.size (fun _ => True) v3 x3_1) ∧ Aside0 (Below w.heap.size w w'))
 case atStart => exact ⟨(([] : List (S47))), (0), ac, H', ⟨Nat.le_refl _⟩, ⟨by first | exact Kd.R_nil _ _ _ _ _ | exact Kd.N_nil _ _ _ _ _ | exact Kd.V_nil _ _ _ _ _ | exact Kd.Q_nil _ _ _ _ _ | exact Kd.S_nil _ _ _ _ _⟩, ⟨gB HB⟩⟩
 case round =>
  clear H'
  obtain ⟨x3_1, x4_1, rfl, HA, HK1, HO_3, HB⟩ := hrel
  cases gk with
  | zero => exact absurd HA.out (by simp [lombardlaw17_items.l0])
  | succ k1 =>
   have H := HA.out
   clear HA
   simp only [lombardlaw17_items.l0] at H
   by_cases c2 : x4_1 < (l0.length : Int)
   · rw [if_pos c2] at H
     have c2b0 : decide (x4_1 < (l0.length : Int)) = true := decide_eq_true c2
     clear c2
     by_cases c3 : 0 ≤ x4_1
     · rw [if_pos c3] at H
       have c3b0 : decide (0 ≤ x4_1) = true := decide_eq_true c3
       clear c3
       by_cases c4 : x3_1.length < 1466015503701
       · rw [if_pos c4] at H
         have LMc4 := Aside0.mk c4; clear c4
         obtain ⟨y437, hy437⟩ : ∃ y_ : List (S47), y_ = (x3_1 ++ [(⟨(⟨(rd_T65 l0 x4_1).f0.f0, (rd_T65 l0 x4_1).f0.f1⟩ : S43), (⟨(rd_T65 l0 x4_1).f1.f0, (rd_T65 l0 x4_1).f1.f1, (rd_T65 l0 x4_1).f1.f2, (rd_T65 l0 x4_1).f1.f3, (rd_T65 l0 x4_1).f1.f4⟩ : S45), (rd_T65 l0 x4_1).f2, (rd_T65 l0 x4_1).f3⟩ : S47)]) := ⟨_, rfl⟩
         replace H : (lombardlaw17_items.l0 k1 l0 y437 (wrap64 (x4_1 + 1))) = some r := by first | (rw [hy437]; with_reducible exact H) | (have H2_ := (Option.bind_some _ _).symm.trans H; rw [hy437]; with_reducible exact H2_) | (have H2_ := (Option.bind_some _ _).symm.trans H; with_reducible exact H2_) | with_reducible exact H | (rw [hy437]; exact H) | exact H
         have Ny437 := Aside0.mk hy437; clear hy437
         have H' := Aside0.mk H
         clear H
         try go_wp2
         have n0_ := Aside0.mk (Kd.R_drew HO_3.out)
         have n1_ := Aside0.mk (below_drew1 HB.out)
         clear HO_3; clear HB
         have HO_3 := n0_
         have HB := n1_
         clear n0_ n1_
         have p433 : 0 ≤ (x4_1 : Int) := od
         have q433 : x4_1 < (l0.length : Int) := od
         obtain ⟨ad433, e433, hx433_0, hx433_1, hx433_2, hx433_3, hx433_4, hx433_5, hx433_6, hx433_7, hx433_8⟩ := at_T65 HR0.out x4_1 p433 q433
         have hw433_8 := hx433_8
         have hw433_7 := hx433_7
         have hw433_6 := hx433_6
         have hw433_5 := hx433_5
         have hw433_4 := hx433_4
         have hw433_3 := hx433_3
         have hw433_2 := hx433_2
         have hw433_1 := hx433_1
         have hw433_0 := hx433_0
         cases e433
         replace hx433_0 := (HB.out.cell (World.block_lt_of_cell? w _ hx433_0)).trans hx433_0
         replace hx433_1 := (HB.out.cell (World.block_lt_of_cell? w _ hx433_1)).trans hx433_1
         replace hx433_2 := (HB.out.cell (World.block_lt_of_cell? w _ hx433_2)).trans hx433_2
         replace hx433_3 := (HB.out.cell (World.block_lt_of_cell? w _ hx433_3)).trans hx433_3
         replace hx433_4 := (HB.out.cell (World.block_lt_of_cell? w _ hx433_4)).trans hx433_4
         replace hx433_5 := (HB.out.cell (World.block_lt_of_cell? w _ hx433_5)).trans hx433_5
         replace hx433_6 := (HB.out.cell (World.block_lt_of_cell? w _ hx433_6)).trans hx433_6
         replace hx433_7 := (HB.out.cell (World.block_lt_of_cell? w _ hx433_7)).trans hx433_7
         replace hx433_8 := (HB.out.cell (World.block_lt_of_cell? w _ hx433_8)).trans hx433_8
         replace p433 := eq_true p433; replace q433 := eq_true q433
         have p434 : 0 ≤ (x4_1 : Int) := od
         have q434 : x4_1 < (l0.length : Int) := od
         obtain ⟨ad434, e434, hx434_0, hx434_1, hx434_2, hx434_3, hx434_4, hx434_5, hx434_6, hx434_7, hx434_8⟩ := at_T65 HR0.out x4_1 p434 q434
         have hw434_8 := hx434_8
         have hw434_7 := hx434_7
         have hw434_6 := hx434_6
         have hw434_5 := hx434_5
         have hw434_4 := hx434_4
         have hw434_3 := hx434_3
         have hw434_2 := hx434_2
         have hw434_1 := hx434_1
         have hw434_0 := hx434_0
         obtain rfl : ad433 = ad434 := (by injection e434)
         replace hx434_0 := (HB.out.cell (World.block_lt_of_cell? w _ hx434_0)).trans hx434_0
         replace hx434_1 := (HB.out.cell (World.block_lt_of_cell? w _ hx434_1)).trans hx434_1
         replace hx434_2 := (HB.out.cell (World.block_lt_of_cell? w _ hx434_2)).trans hx434_2
         replace hx434_3 := (HB.out.cell (World.block_lt_of_cell? w _ hx434_3)).trans hx434_3
         replace hx434_4 := (HB.out.cell (World.block_lt_of_cell? w _ hx434_4)).trans hx434_4
         replace hx434_5 := (HB.out.cell (World.block_lt_of_cell? w _ hx434_5)).trans hx434_5
         replace hx434_6 := (HB.out.cell (World.block_lt_of_cell? w _ hx434_6)).trans hx434_6
         replace hx434_7 := (HB.out.cell (World.block_lt_of_cell? w _ hx434_7)).trans hx434_7
         replace hx434_8 := (HB.out.cell (World.block_lt_of_cell? w _ hx434_8)).trans hx434_8
         replace p434 := eq_true p434; replace q434 := eq_true q434
         have p435 : 0 ≤ (x4_1 : Int) := od
         have q435 : x4_1 < (l0.length : Int) := od
         obtain ⟨ad435, e435, hx435_0, hx435_1, hx435_2, hx435_3, hx435_4, hx435_5, hx435_6, hx435_7, hx435_8⟩ := at_T65 HR0.out x4_1 p435 q435
         have hw435_8 := hx435_8
         have hw435_7 := hx435_7
         have hw435_6 := hx435_6
         have hw435_5 := hx435_5
         have hw435_4 := hx435_4
         have hw435_3 := hx435_3
         have hw435_2 := hx435_2
         have hw435_1 := hx435_1
         have hw435_0 := hx435_0
         obtain rfl : ad433 = ad435 := (by injection e435)
         replace hx435_0 := (HB.out.cell (World.block_lt_of_cell? w _ hx435_0)).trans hx435_0
         replace hx435_1 := (HB.out.cell (World.block_lt_of_cell? w _ hx435_1)).trans hx435_1
         replace hx435_2 := (HB.out.cell (World.block_lt_of_cell? w _ hx435_2)).trans hx435_2
         replace hx435_3 := (HB.out.cell (World.block_lt_of_cell? w _ hx435_3)).trans hx435_3
         replace hx435_4 := (HB.out.cell (World.block_lt_of_cell? w _ hx435_4)).trans hx435_4
         replace hx435_5 := (HB.out.cell (World.block_lt_of_cell? w _ hx435_5)).trans hx435_5
         replace hx435_6 := (HB.out.cell (World.block_lt_of_cell? w _ hx435_6)).trans hx435_6
         replace hx435_7 := (HB.out.cell (World.block_lt_of_cell? w _ hx435_7)).trans hx435_7
         replace hx435_8 := (HB.out.cell (World.block_lt_of_cell? w _ hx435_8)).trans hx435_8
         replace p435 := eq_true p435; replace q435 := eq_true q435
         have p436 : 0 ≤ (x4_1 : Int) := od
         have q436 : x4_1 < (l0.length : Int) := od
         obtain ⟨ad436, e436, hx436_0, hx436_1, hx436_2, hx436_3, hx436_4, hx436_5, hx436_6, hx436_7, hx436_8⟩ := at_T65 HR0.out x4_1 p436 q436
         have hw436_8 := hx436_8
         have hw436_7 := hx436_7
         have hw436_6 := hx436_6
         have hw436_5 := hx436_5
         have hw436_4 := hx436_4
         have hw436_3 := hx436_3
         have hw436_2 := hx436_2
         have hw436_1 := hx436_1
         have hw436_0 := hx436_0
         obtain rfl : ad433 = ad436 := (by injection e436)
         replace hx436_0 := (HB.out.cell (World.block_lt_of_cell? w _ hx436_0)).trans hx436_0
         replace hx436_1 := (HB.out.cell (World.block_lt_of_cell? w _ hx436_1)).trans hx436_1
         replace hx436_2 := (HB.out.cell (World.block_lt_of_cell? w _ hx436_2)).trans hx436_2
         replace hx436_3 := (HB.out.cell (World.block_lt_of_cell? w _ hx436_3)).trans hx436_3
         replace hx436_4 := (HB.out.cell (World.block_lt_of_cell? w _ hx436_4)).trans hx436_4
         replace hx436_5 := (HB.out.cell (World.block_lt_of_cell? w _ hx436_5)).trans hx436_5
         replace hx436_6 := (HB.out.cell (World.block_lt_of_cell? w _ hx436_6)).trans hx436_6
         replace hx436_7 := (HB.out.cell (World.block_lt_of_cell? w _ hx436_7)).trans hx436_7
         replace hx436_8 := (HB.out.cell (World.block_lt_of_cell? w _ hx436_8)).trans hx436_8
         replace p436 := eq_true p436; replace q436 := eq_true q436
         refine start_ (n := 25) (S := fun w' => w'.cell? (ad433.add ((x4_1).toNat * 9)) = some (.string ((rd_T65 l0 x4_1).f0.f0)) ∧ w'.cell? ⟨(ad433.add ((x4_1).toNat * 9)).block, (ad433.add ((x4_1).toNat * 9)).off + 1, none⟩ = some (.int .i64 ((rd_T65 l0 x4_1).f0.f1)) ∧ w'.cell? ⟨(ad433.add ((x4_1).toNat * 9)).block, (ad433.add ((x4_1).toNat * 9)).off + 2, none⟩ = some (.string ((rd_T65 l0 x4_1).f1.f0)) ∧ w'.cell? ⟨(ad433.add ((x4_1).toNat * 9)).block, (ad433.add ((x4_1).toNat * 9)).off + 3, none⟩ = some (.int .i64 ((rd_T65 l0 x4_1).f1.f1)) ∧ w'.cell? ⟨(ad433.add ((x4_1).toNat * 9)).block, (ad433.add ((x4_1).toNat * 9)).off + 4, none⟩ = some (.int .i64 ((rd_T65 l0 x4_1).f1.f2)) ∧ w'.cell? ⟨(ad433.add ((x4_1).toNat * 9)).block, (ad433.add ((x4_1).toNat * 9)).off + 5, none⟩ = some (.int .i64 ((rd_T65 l0 x4_1).f1.f3)) ∧ w'.cell? ⟨(ad433.add ((x4_1).toNat * 9)).block, (ad433.add ((x4_1).toNat * 9)).off + 6, none⟩ = some (.string ((rd_T65 l0 x4_1).f1.f4)) ∧ w'.cell? ⟨(ad433.add ((x4_1).toNat * 9)).block, (ad433.add ((x4_1).toNat * 9)).off + 7, none⟩ = some (.int .i64 ((rd_T65 l0 x4_1).f2)) ∧ w'.cell? ⟨(ad433.add ((x4_1).toNat * 9)).block, (ad433.add ((x4_1).toNat * 9)).off + 8, none⟩ = some (.int .i64 ((rd_T65 l0 x4_1).f3)) ∧ w'.cell? (ad433.add ((x4_1).toNat * 9)) = some (.string ((rd_T65 l0 x4_1).f0.f0)) ∧ w'.cell? ⟨(ad433.add ((x4_1).toNat * 9)).block, (ad433.add ((x4_1).toNat * 9)).off + 1, none⟩ = some (.int .i64 ((rd_T65 l0 x4_1).f0.f1)) ∧ w'.cell? ⟨(ad433.add ((x4_1).toNat * 9)).block, (ad433.add ((x4_1).toNat * 9)).off + 2, none⟩ = some (.string ((rd_T65 l0 x4_1).f1.f0)) ∧ w'.cell? ⟨(ad433.add ((x4_1).toNat * 9)).block, (ad433.add ((x4_1).toNat * 9)).off + 3, none⟩ = some (.int .i64 ((rd_T65 l0 x4_1).f1.f1)) ∧ w'.cell? ⟨(ad433.add ((x4_1).toNat * 9)).block, (ad433.add ((x4_1).toNat * 9)).off + 4, none⟩ = some (.int .i64 ((rd_T65 l0 x4_1).f1.f2)) ∧ w'.cell? ⟨(ad433.add ((x4_1).toNat * 9)).block, (ad433.add ((x4_1).toNat * 9)).off + 5, none⟩ = some (.int .i64 ((rd_T65 l0 x4_1).f1.f3)) ∧ w'.cell? ⟨(ad433.add ((x4_1).toNat * 9)).block, (ad433.add ((x4_1).toNat * 9)).off + 6, none⟩ = some (.string ((rd_T65 l0 x4_1).f1.f4)) ∧ w'.cell? ⟨(ad433.add ((x4_1).toNat * 9)).block, (ad433.add ((x4_1).toNat * 9)).off + 7, none⟩ = some (.int .i64 ((rd_T65 l0 x4_1).f2)) ∧ w'.cell? ⟨(ad433.add ((x4_1).toNat * 9)).block, (ad433.add ((x4_1).toNat * 9)).off + 8, none⟩ = some (.int .i64 ((rd_T65 l0 x4_1).f3)) ∧ w'.cell? (ad433.add ((x4_1).toNat * 9)) = some (.string ((rd_T65 l0 x4_1).f0.f0)) ∧ w'.cell? ⟨(ad433.add ((x4_1).toNat * 9)).block, (ad433.add ((x4_1).toNat * 9)).off + 1, none⟩ = some (.int .i64 ((rd_T65 l0 x4_1).f0.f1)) ∧ w'.cell? ⟨(ad433.add ((x4_1).toNat * 9)).block, (ad433.add ((x4_1).toNat * 9)).off + 2, none⟩ = some (.string ((rd_T65 l0 x4_1).f1.f0)) ∧ w'.cell? ⟨(ad433.add ((x4_1).toNat * 9)).block, (ad433.add ((x4_1).toNat * 9)).off + 3, none⟩ = some (.int .i64 ((rd_T65 l0 x4_1).f1.f1)) ∧ w'.cell? ⟨(ad433.add ((x4_1).toNat * 9)).block, (ad433.add ((x4_1).toNat * 9)).off + 4, none⟩ = some (.int .i64 ((rd_T65 l0 x4_1).f1.f2)) ∧ w'.cell? ⟨(ad433.add ((x4_1).toNat * 9)).block, (ad433.add ((x4_1).toNat * 9)).off + 5, none⟩ = some (.int .i64 ((rd_T65 l0 x4_1).f1.f3)) ∧ w'.cell? ⟨(ad433.add ((x4_1).toNat * 9)).block, (ad433.add ((x4_1).toNat * 9)).off + 6, none⟩ = some (.string ((rd_T65 l0 x4_1).f1.f4)) ∧ w'.cell? ⟨(ad433.add ((x4_1).toNat * 9)).block, (ad433.add ((x4_1).toNat * 9)).off + 7, none⟩ = some (.int .i64 ((rd_T65 l0 x4_1).f2)) ∧ w'.cell? ⟨(ad433.add ((x4_1).toNat * 9)).block, (ad433.add ((x4_1).toNat * 9)).off + 8, none⟩ = some (.int .i64 ((rd_T65 l0 x4_1).f3)) ∧ w'.cell? (ad433.add ((x4_1).toNat * 9)) = some (.string ((rd_T65 l0 x4_1).f0.f0)) ∧ w'.cell? ⟨(ad433.add ((x4_1).toNat * 9)).block, (ad433.add ((x4_1).toNat * 9)).off + 1, none⟩ = some (.int .i64 ((rd_T65 l0 x4_1).f0.f1)) ∧ w'.cell? ⟨(ad433.add ((x4_1).toNat * 9)).block, (ad433.add ((x4_1).toNat * 9)).off + 2, none⟩ = some (.string ((rd_T65 l0 x4_1).f1.f0)) ∧ w'.cell? ⟨(ad433.add ((x4_1).toNat * 9)).block, (ad433.add ((x4_1).toNat * 9)).off + 3, none⟩ = some (.int .i64 ((rd_T65 l0 x4_1).f1.f1)) ∧ w'.cell? ⟨(ad433.add ((x4_1).toNat * 9)).block, (ad433.add ((x4_1).toNat * 9)).off + 4, none⟩ = some (.int .i64 ((rd_T65 l0 x4_1).f1.f2)) ∧ w'.cell? ⟨(ad433.add ((x4_1).toNat * 9)).block, (ad433.add ((x4_1).toNat * 9)).off + 5, none⟩ = some (.int .i64 ((rd_T65 l0 x4_1).f1.f3)) ∧ w'.cell? ⟨(ad433.add ((x4_1).toNat * 9)).block, (ad433.add ((x4_1).toNat * 9)).off + 6, none⟩ = some (.string ((rd_T65 l0 x4_1).f1.f4)) ∧ w'.cell? ⟨(ad433.add ((x4_1).toNat * 9)).block, (ad433.add ((x4_1).toNat * 9)).off + 7, none⟩ = some (.int .i64 ((rd_T65 l0 x4_1).f2)) ∧ w'.cell? ⟨(ad433.add ((x4_1).toNat * 9)).block, (ad433.add ((x4_1).toNat * 9)).off + 8, none⟩ = some (.int .i64 ((rd_T65 l0 x4_1).f3))) (ds := []) (pf 25 0) (by kernel_rfl) rfl rfl ⟨((HB.out.cell (World.block_lt_of_cell? w _ hw433_0)).trans hw433_0), ((HB.out.cell (World.block_lt_of_cell? w _ hw433_1)).trans hw433_1), ((HB.out.cell (World.block_lt_of_cell? w _ hw433_2)).trans hw433_2), ((HB.out.cell (World.block_lt_of_cell? w _ hw433_3)).trans hw433_3), ((HB.out.cell (World.block_lt_of_cell? w _ hw433_4)).trans hw433_4), ((HB.out.cell (World.block_lt_of_cell? w _ hw433_5)).trans hw433_5), ((HB.out.cell (World.block_lt_of_cell? w _ hw433_6)).trans hw433_6), ((HB.out.cell (World.block_lt_of_cell? w _ hw433_7)).trans hw433_7), ((HB.out.cell (World.block_lt_of_cell? w _ hw433_8)).trans hw433_8), ((HB.out.cell (World.block_lt_of_cell? w _ hw434_0)).trans hw434_0), ((HB.out.cell (World.block_lt_of_cell? w _ hw434_1)).trans hw434_1), ((HB.out.cell (World.block_lt_of_cell? w _ hw434_2)).trans hw434_2), ((HB.out.cell (World.block_lt_of_cell? w _ hw434_3)).trans hw434_3), ((HB.out.cell (World.block_lt_of_cell? w _ hw434_4)).trans hw434_4), ((HB.out.cell (World.block_lt_of_cell? w _ hw434_5)).trans hw434_5), ((HB.out.cell (World.block_lt_of_cell? w _ hw434_6)).trans hw434_6), ((HB.out.cell (World.block_lt_of_cell? w _ hw434_7)).trans hw434_7), ((HB.out.cell (World.block_lt_of_cell? w _ hw434_8)).trans hw434_8), ((HB.out.cell (World.block_lt_of_cell? w _ hw435_0)).trans hw435_0), ((HB.out.cell (World.block_lt_of_cell? w _ hw435_1)).trans hw435_1), ((HB.out.cell (World.block_lt_of_cell? w _ hw435_2)).trans hw435_2), ((HB.out.cell (World.block_lt_of_cell? w _ hw435_3)).trans hw435_3), ((HB.out.cell (World.block_lt_of_cell? w _ hw435_4)).trans hw435_4), ((HB.out.cell (World.block_lt_of_cell? w _ hw435_5)).trans hw435_5), ((HB.out.cell (World.block_lt_of_cell? w _ hw435_6)).trans hw435_6), ((HB.out.cell (World.block_lt_of_cell? w _ hw435_7)).trans hw435_7), ((HB.out.cell (World.block_lt_of_cell? w _ hw435_8)).trans hw435_8), ((HB.out.cell (World.block_lt_of_cell? w _ hw436_0)).trans hw436_0), ((HB.out.cell (World.block_lt_of_cell? w _ hw436_1)).trans hw436_1), ((HB.out.cell (World.block_lt_of_cell? w _ hw436_2)).trans hw436_2), ((HB.out.cell (World.block_lt_of_cell? w _ hw436_3)).trans hw436_3), ((HB.out.cell (World.block_lt_of_cell? w _ hw436_4)).trans hw436_4), ((HB.out.cell (World.block_lt_of_cell? w _ hw436_5)).trans hw436_5), ((HB.out.cell (World.block_lt_of_cell? w _ hw436_6)).trans hw436_6), ((HB.out.cell (World.block_lt_of_cell? w _ hw436_7)).trans hw436_7), ((HB.out.cell (World.block_lt_of_cell? w _ hw436_8)).trans hw436_8)⟩ (fun hHeld => ?_); refine with_tabW lombardlaw17_items.tab5 lombardlaw17_items.bits5 (fun HT_ HW_ => ?_)
         generalize wr.drew = w5 at HO_3 HB hx433_0 hx433_1 hx433_2 hx433_3 hx433_4 hx433_5 hx433_6 hx433_7 hx433_8 hx434_0 hx434_1 hx434_2 hx434_3 hx434_4 hx434_5 hx434_6 hx434_7 hx434_8 hx435_0 hx435_1 hx435_2 hx435_3 hx435_4 hx435_5 hx435_6 hx435_7 hx435_8 hx436_0 hx436_1 hx436_2 hx436_3 hx436_4 hx436_5 hx436_6 hx436_7 hx436_8 hHeld ⊢
         refine pA (i := 0) (N := some 11) HT_ (pf 25 1) ?_
         refine pA (i := 1) (N := some 12) HT_ (pf 25 2) ?_
         refine pA (i := 2) (N := some 13) HT_ (pf 25 3) ?_
         refine pA (i := 3) (N := some 14) HT_ (pf 25 4) ?_
         refine pA (i := 4) (N := some 15) HT_ (pf 25 5) ?_
         refine pA (i := 6) (N := some 17) HT_ #[true, true, true, true, true, false, true, false, false, false, false, false, false, false, false, false, false, false, false, false, false, false, false, false, false] ?_
         refine pA (i := 7) (N := some 18) HT_ #[true, true, true, true, true, false, true, true, false, false, false, false, false, false, false, false, false, false, false, false, false, false, false, false, false] ?_
         refine pA (i := 8) (N := some 19) HT_ #[true, true, true, true, true, false, true, true, true, false, false, false, false, false, false, false, false, false, false, false, false, false, false, false, false] ?_
         refine pA (i := 9) (N := some 20) HT_ #[true, true, true, true, true, false, true, true, true, true, false, false, false, false, false, false, false, false, false, false, false, false, false, false, false] ?_
         refine pA (i := 11) (N := some 22) HT_ #[true, true, true, true, true, false, true, true, true, true, false, true, false, false, false, false, false, false, false, false, false, false, false, false, false] ?_
         refine pA (i := 12) (N := some 23) HT_ #[true, true, true, true, true, false, true, true, true, true, false, true, true, false, false, false, false, false, false, false, false, false, false, false, false] ?_
         refine pA (i := 13) (N := some 24) HT_ #[true, true, true, true, true, false, true, true, true, true, false, true, true, true, false, false, false, false, false, false, false, false, false, false, false] ?_
         refine pA (i := 14) (N := some 25) HT_ #[true, true, true, true, true, false, true, true, true, true, false, true, true, true, true, false, false, false, false, false, false, false, false, false, false] ?_
         refine pA (i := 16) (N := some 27) HT_ #[true, true, true, true, true, false, true, true, true, true, false, true, true, true, true, false, true, false, false, false, false, false, false, false, false] ?_
         refine pA (i := 17) (N := some 28) HT_ #[true, true, true, true, true, false, true, true, true, true, false, true, true, true, true, false, true, true, false, false, false, false, false, false, false] ?_
         refine pA (i := 18) (N := some 29) HT_ #[true, true, true, true, true, false, true, true, true, true, false, true, true, true, true, false, true, true, true, false, false, false, false, false, false] ?_
         refine pA (i := 19) (N := some 30) HT_ #[true, true, true, true, true, false, true, true, true, true, false, true, true, true, true, false, true, true, true, true, false, false, false, false, false] ?_
         refine take_ (i := 5) (N := some 16) (v := ?_) (a' := ?_) #[true, true, true, true, true, true, true, true, true, true, false, true, true, true, true, false, true, true, true, true, false, false, false, false, false] rfl rfl (take_ofW HT_.out HW_.out (by kernel_rfl)) (fun _ _ _ h => h) (Or.inl ⟨by rfl, ?_⟩) hHeld ?_ ?_
         rotate_left
         · rintro w' ⟨s0, s1, s2, s3, s4, s5, s6, s7, s8, s9, s10, s11, s12, s13, s14, s15, s16, s17, s18, s19, s20, s21, s22, s23, s24, s25, s26, s27, s28, s29, s30, s31, s32, s33, s34, s35⟩
           go_simp
           with_reducible rfl
         rotate_left
         · simp only [Act.put, sA, sB, sC, i64_w, i32_w]
           rfl
         refine take_ (i := 10) (N := some 21) (v := ?_) (a' := ?_) #[true, true, true, true, true, true, true, true, true, true, true, true, true, true, true, false, true, true, true, true, false, false, false, false, false] rfl rfl (take_ofW HT_.out HW_.out (by kernel_rfl)) (fun _ _ _ h => h) (Or.inl ⟨by rfl, ?_⟩) hHeld ?_ ?_
         rotate_left
         · rintro w' ⟨s0, s1, s2, s3, s4, s5, s6, s7, s8, s9, s10, s11, s12, s13, s14, s15, s16, s17, s18, s19, s20, s21, s22, s23, s24, s25, s26, s27, s28, s29, s30, s31, s32, s33, s34, s35⟩
           go_simp
           with_reducible rfl
         rotate_left
         · simp only [Act.put, sA, sB, sC, i64_w, i32_w]
           rfl
         refine take_ (i := 15) (N := some 26) (v := ?_) (a' := ?_) (pf 25 20) rfl rfl (take_ofW HT_.out HW_.out (by kernel_rfl)) (fun _ _ _ h => h) (Or.inl ⟨by rfl, ?_⟩) hHeld ?_ ?_
         rotate_left
         · rintro w' ⟨s0, s1, s2, s3, s4, s5, s6, s7, s8, s9, s10, s11, s12, s13, s14, s15, s16, s17, s18, s19, s20, s21, s22, s23, s24, s25, s26, s27, s28, s29, s30, s31, s32, s33, s34, s35⟩
           go_simp
           with_reducible rfl
         rotate_left
         · simp only [Act.put, sA, sB, sC, i64_w, i32_w]
           rfl
         refine take_ (i := 20) (N := some 31) (v := ?_) (a' := ?_) (pf 25 21) rfl rfl (take_ofW HT_.out HW_.out (by kernel_rfl)) (fun _ _ _ h => h) (Or.inl ⟨by rfl, ?_⟩) hHeld ?_ ?_
         rotate_left
         · rintro w' ⟨s0, s1, s2, s3, s4, s5, s6, s7, s8, s9, s10, s11, s12, s13, s14, s15, s16, s17, s18, s19, s20, s21, s22, s23, s24, s25, s26, s27, s28, s29, s30, s31, s32, s33, s34, s35⟩
           go_simp
           with_reducible rfl
         rotate_left
         · simp only [Act.put, sA, sB, sC, i64_w, i32_w]
           rfl
         refine pA (i := 21) (N := some 32) HT_ (pf 25 22) ?_
         refine one_ (i := 22) (N := some 33) (pf 25 23) rfl rfl (one_of HT_.out (by kernel_rfl)) (by decide) (fun K hK => ?_)
         refine value_ (w1 := ?_) (v := ?_) (by rfl) rfl ?_ ?_
         rotate_left 2
         · go_simp
           constructor
           · rfl
           · rfl
         refine hK.out _ _ ⟨(World.cell?_alloc_lt _ _ _ (World.block_lt_of_cell? _ _ (((HB.out.cell (World.block_lt_of_cell? w _ hw433_0)).trans hw433_0)))).trans (((HB.out.cell (World.block_lt_of_cell? w _ hw433_0)).trans hw433_0)), (World.cell?_alloc_lt _ _ _ (World.block_lt_of_cell? _ _ (((HB.out.cell (World.block_lt_of_cell? w _ hw433_1)).trans hw433_1)))).trans (((HB.out.cell (World.block_lt_of_cell? w _ hw433_1)).trans hw433_1)), (World.cell?_alloc_lt _ _ _ (World.block_lt_of_cell? _ _ (((HB.out.cell (World.block_lt_of_cell? w _ hw433_2)).trans hw433_2)))).trans (((HB.out.cell (World.block_lt_of_cell? w _ hw433_2)).trans hw433_2)), (World.cell?_alloc_lt _ _ _ (World.block_lt_of_cell? _ _ (((HB.out.cell (World.block_lt_of_cell? w _ hw433_3)).trans hw433_3)))).trans (((HB.out.cell (World.block_lt_of_cell? w _ hw433_3)).trans hw433_3)), (World.cell?_alloc_lt _ _ _ (World.block_lt_of_cell? _ _ (((HB.out.cell (World.block_lt_of_cell? w _ hw433_4)).trans hw433_4)))).trans (((HB.out.cell (World.block_lt_of_cell? w _ hw433_4)).trans hw433_4)), (World.cell?_alloc_lt _ _ _ (World.block_lt_of_cell? _ _ (((HB.out.cell (World.block_lt_of_cell? w _ hw433_5)).trans hw433_5)))).trans (((HB.out.cell (World.block_lt_of_cell? w _ hw433_5)).trans hw433_5)), (World.cell?_alloc_lt _ _ _ (World.block_lt_of_cell? _ _ (((HB.out.cell (World.block_lt_of_cell? w _ hw433_6)).trans hw433_6)))).trans (((HB.out.cell (World.block_lt_of_cell? w _ hw433_6)).trans hw433_6)), (World.cell?_alloc_lt _ _ _ (World.block_lt_of_cell? _ _ (((HB.out.cell (World.block_lt_of_cell? w _ hw433_7)).trans hw433_7)))).trans (((HB.out.cell (World.block_lt_of_cell? w _ hw433_7)).trans hw433_7)), (World.cell?_alloc_lt _ _ _ (World.block_lt_of_cell? _ _ (((HB.out.cell (World.block_lt_of_cell? w _ hw433_8)).trans hw433_8)))).trans (((HB.out.cell (World.block_lt_of_cell? w _ hw433_8)).trans hw433_8)), (World.cell?_alloc_lt _ _ _ (World.block_lt_of_cell? _ _ (((HB.out.cell (World.block_lt_of_cell? w _ hw434_0)).trans hw434_0)))).trans (((HB.out.cell (World.block_lt_of_cell? w _ hw434_0)).trans hw434_0)), (World.cell?_alloc_lt _ _ _ (World.block_lt_of_cell? _ _ (((HB.out.cell (World.block_lt_of_cell? w _ hw434_1)).trans hw434_1)))).trans (((HB.out.cell (World.block_lt_of_cell? w _ hw434_1)).trans hw434_1)), (World.cell?_alloc_lt _ _ _ (World.block_lt_of_cell? _ _ (((HB.out.cell (World.block_lt_of_cell? w _ hw434_2)).trans hw434_2)))).trans (((HB.out.cell (World.block_lt_of_cell? w _ hw434_2)).trans hw434_2)), (World.cell?_alloc_lt _ _ _ (World.block_lt_of_cell? _ _ (((HB.out.cell (World.block_lt_of_cell? w _ hw434_3)).trans hw434_3)))).trans (((HB.out.cell (World.block_lt_of_cell? w _ hw434_3)).trans hw434_3)), (World.cell?_alloc_lt _ _ _ (World.block_lt_of_cell? _ _ (((HB.out.cell (World.block_lt_of_cell? w _ hw434_4)).trans hw434_4)))).trans (((HB.out.cell (World.block_lt_of_cell? w _ hw434_4)).trans hw434_4)), (World.cell?_alloc_lt _ _ _ (World.block_lt_of_cell? _ _ (((HB.out.cell (World.block_lt_of_cell? w _ hw434_5)).trans hw434_5)))).trans (((HB.out.cell (World.block_lt_of_cell? w _ hw434_5)).trans hw434_5)), (World.cell?_alloc_lt _ _ _ (World.block_lt_of_cell? _ _ (((HB.out.cell (World.block_lt_of_cell? w _ hw434_6)).trans hw434_6)))).trans (((HB.out.cell (World.block_lt_of_cell? w _ hw434_6)).trans hw434_6)), (World.cell?_alloc_lt _ _ _ (World.block_lt_of_cell? _ _ (((HB.out.cell (World.block_lt_of_cell? w _ hw434_7)).trans hw434_7)))).trans (((HB.out.cell (World.block_lt_of_cell? w _ hw434_7)).trans hw434_7)), (World.cell?_alloc_lt _ _ _ (World.block_lt_of_cell? _ _ (((HB.out.cell (World.block_lt_of_cell? w _ hw434_8)).trans hw434_8)))).trans (((HB.out.cell (World.block_lt_of_cell? w _ hw434_8)).trans hw434_8)), (World.cell?_alloc_lt _ _ _ (World.block_lt_of_cell? _ _ (((HB.out.cell (World.block_lt_of_cell? w _ hw435_0)).trans hw435_0)))).trans (((HB.out.cell (World.block_lt_of_cell? w _ hw435_0)).trans hw435_0)), (World.cell?_alloc_lt _ _ _ (World.block_lt_of_cell? _ _ (((HB.out.cell (World.block_lt_of_cell? w _ hw435_1)).trans hw435_1)))).trans (((HB.out.cell (World.block_lt_of_cell? w _ hw435_1)).trans hw435_1)), (World.cell?_alloc_lt _ _ _ (World.block_lt_of_cell? _ _ (((HB.out.cell (World.block_lt_of_cell? w _ hw435_2)).trans hw435_2)))).trans (((HB.out.cell (World.block_lt_of_cell? w _ hw435_2)).trans hw435_2)), (World.cell?_alloc_lt _ _ _ (World.block_lt_of_cell? _ _ (((HB.out.cell (World.block_lt_of_cell? w _ hw435_3)).trans hw435_3)))).trans (((HB.out.cell (World.block_lt_of_cell? w _ hw435_3)).trans hw435_3)), (World.cell?_alloc_lt _ _ _ (World.block_lt_of_cell? _ _ (((HB.out.cell (World.block_lt_of_cell? w _ hw435_4)).trans hw435_4)))).trans (((HB.out.cell (World.block_lt_of_cell? w _ hw435_4)).trans hw435_4)), (World.cell?_alloc_lt _ _ _ (World.block_lt_of_cell? _ _ (((HB.out.cell (World.block_lt_of_cell? w _ hw435_5)).trans hw435_5)))).trans (((HB.out.cell (World.block_lt_of_cell? w _ hw435_5)).trans hw435_5)), (World.cell?_alloc_lt _ _ _ (World.block_lt_of_cell? _ _ (((HB.out.cell (World.block_lt_of_cell? w _ hw435_6)).trans hw435_6)))).trans (((HB.out.cell (World.block_lt_of_cell? w _ hw435_6)).trans hw435_6)), (World.cell?_alloc_lt _ _ _ (World.block_lt_of_cell? _ _ (((HB.out.cell (World.block_lt_of_cell? w _ hw435_7)).trans hw435_7)))).trans (((HB.out.cell (World.block_lt_of_cell? w _ hw435_7)).trans hw435_7)), (World.cell?_alloc_lt _ _ _ (World.block_lt_of_cell? _ _ (((HB.out.cell (World.block_lt_of_cell? w _ hw435_8)).trans hw435_8)))).trans (((HB.out.cell (World.block_lt_of_cell? w _ hw435_8)).trans hw435_8)), (World.cell?_alloc_lt _ _ _ (World.block_lt_of_cell? _ _ (((HB.out.cell (World.block_lt_of_cell? w _ hw436_0)).trans hw436_0)))).trans (((HB.out.cell (World.block_lt_of_cell? w _ hw436_0)).trans hw436_0)), (World.cell?_alloc_lt _ _ _ (World.block_lt_of_cell? _ _ (((HB.out.cell (World.block_lt_of_cell? w _ hw436_1)).trans hw436_1)))).trans (((HB.out.cell (World.block_lt_of_cell? w _ hw436_1)).trans hw436_1)), (World.cell?_alloc_lt _ _ _ (World.block_lt_of_cell? _ _ (((HB.out.cell (World.block_lt_of_cell? w _ hw436_2)).trans hw436_2)))).trans (((HB.out.cell (World.block_lt_of_cell? w _ hw436_2)).trans hw436_2)), (World.cell?_alloc_lt _ _ _ (World.block_lt_of_cell? _ _ (((HB.out.cell (World.block_lt_of_cell? w _ hw436_3)).trans hw436_3)))).trans (((HB.out.cell (World.block_lt_of_cell? w _ hw436_3)).trans hw436_3)), (World.cell?_alloc_lt _ _ _ (World.block_lt_of_cell? _ _ (((HB.out.cell (World.block_lt_of_cell? w _ hw436_4)).trans hw436_4)))).trans (((HB.out.cell (World.block_lt_of_cell? w _ hw436_4)).trans hw436_4)), (World.cell?_alloc_lt _ _ _ (World.block_lt_of_cell? _ _ (((HB.out.cell (World.block_lt_of_cell? w _ hw436_5)).trans hw436_5)))).trans (((HB.out.cell (World.block_lt_of_cell? w _ hw436_5)).trans hw436_5)), (World.cell?_alloc_lt _ _ _ (World.block_lt_of_cell? _ _ (((HB.out.cell (World.block_lt_of_cell? w _ hw436_6)).trans hw436_6)))).trans (((HB.out.cell (World.block_lt_of_cell? w _ hw436_6)).trans hw436_6)), (World.cell?_alloc_lt _ _ _ (World.block_lt_of_cell? _ _ (((HB.out.cell (World.block_lt_of_cell? w _ hw436_7)).trans hw436_7)))).trans (((HB.out.cell (World.block_lt_of_cell? w _ hw436_7)).trans hw436_7)), (World.cell?_alloc_lt _ _ _ (World.block_lt_of_cell? _ _ (((HB.out.cell (World.block_lt_of_cell? w _ hw436_8)).trans hw436_8)))).trans (((HB.out.cell (World.block_lt_of_cell? w _ hw436_8)).trans hw436_8))⟩ (fun hHeld => ?_)
         clear hK K
         refine norm_ (a' := ?_) ?_ ?_
         rotate_left
         · show Act.put _ (some 33) _ = _
           simp only [Act.put, sA, sB, sC, i64_w, i32_w]
           rfl
         refine one_ (i := 23) (N := some 34) (pf 25 24) rfl rfl (one_of HT_.out (by kernel_rfl)) (by decide) (fun K hK => ?_)
         refine Kd.R_append_step k47 (w0 := w) w.heap.size (by rfl) (.tmp 11) (.tmp 33) 50 47 (.agg #[(.string ⟨#[]⟩), (.int .i64 0), (.string ⟨#[]⟩), (.int .i64 0), (.int .i64 0), (.int .i64 0), (.string ⟨#[]⟩), (.int .i64 0), (.int .i64 0)]) 96 rfl Try.underlying50 info47 rfl (by decide) (by omega) u3 x3_1 (⟨(⟨(rd_T65 l0 x4_1).f0.f0, (rd_T65 l0 x4_1).f0.f1⟩ : S43), (⟨(rd_T65 l0 x4_1).f1.f0, (rd_T65 l0 x4_1).f1.f1, (rd_T65 l0 x4_1).f1.f2, (rd_T65 l0 x4_1).f1.f3, (rd_T65 l0 x4_1).f1.f4⟩ : S45), (rd_T65 l0 x4_1).f2, (rd_T65 l0 x4_1).f3⟩ : S47) [.string ((rd_T65 l0 x4_1).f0.f0), .int .i64 ((rd_T65 l0 x4_1).f0.f1), .string ((rd_T65 l0 x4_1).f1.f0), .int .i64 ((rd_T65 l0 x4_1).f1.f1), .int .i64 ((rd_T65 l0 x4_1).f1.f2), .int .i64 ((rd_T65 l0 x4_1).f1.f3), .string ((rd_T65 l0 x4_1).f1.f4), .int .i64 ((rd_T65 l0 x4_1).f2), .int .i64 ((rd_T65 l0 x4_1).f3)] (fun _ => True) (fun _ => False) rfl rfl ?aP (fun _ hk => hk.elim) ?aF ?aO ?aB ?aS ?aL ?_
         (case aP => exact k47_mkM _ _ _ (⟨(⟨(rd_T65 l0 x4_1).f0.f0, (rd_T65 l0 x4_1).f0.f1⟩ : S43), (⟨(rd_T65 l0 x4_1).f1.f0, (rd_T65 l0 x4_1).f1.f1, (rd_T65 l0 x4_1).f1.f2, (rd_T65 l0 x4_1).f1.f3, (rd_T65 l0 x4_1).f1.f4⟩ : S45), (rd_T65 l0 x4_1).f2, (rd_T65 l0 x4_1).f3⟩ : S47))
         (case aB => exact (gB HB))
         (case aF => exact (fun _ _ => trivial))
         (case aO => exact (gR HO_3))
         (case aS => exact (below_size (gB HB)))
         (case aL => have := LMc4.out; omega)
         intro v438 w6 ho hb hg hat
         rw [← Ny437.out] at ho
         have n0_ := Aside0.mk (hb)
         have n1_ := Aside0.mk (ho)
         clear HB; clear HO_3
         have HB := n0_
         have HO439 := n1_
         clear n0_ n1_; clear ho hb hg hat
         refine hK.out _ _ ⟨((HB.out.cell (World.block_lt_of_cell? w _ hw433_0)).trans hw433_0), ((HB.out.cell (World.block_lt_of_cell? w _ hw433_1)).trans hw433_1), ((HB.out.cell (World.block_lt_of_cell? w _ hw433_2)).trans hw433_2), ((HB.out.cell (World.block_lt_of_cell? w _ hw433_3)).trans hw433_3), ((HB.out.cell (World.block_lt_of_cell? w _ hw433_4)).trans hw433_4), ((HB.out.cell (World.block_lt_of_cell? w _ hw433_5)).trans hw433_5), ((HB.out.cell (World.block_lt_of_cell? w _ hw433_6)).trans hw433_6), ((HB.out.cell (World.block_lt_of_cell? w _ hw433_7)).trans hw433_7), ((HB.out.cell (World.block_lt_of_cell? w _ hw433_8)).trans hw433_8), ((HB.out.cell (World.block_lt_of_cell? w _ hw434_0)).trans hw434_0), ((HB.out.cell (World.block_lt_of_cell? w _ hw434_1)).trans hw434_1), ((HB.out.cell (World.block_lt_of_cell? w _ hw434_2)).trans hw434_2), ((HB.out.cell (World.block_lt_of_cell? w _ hw434_3)).trans hw434_3), ((HB.out.cell (World.block_lt_of_cell? w _ hw434_4)).trans hw434_4), ((HB.out.cell (World.block_lt_of_cell? w _ hw434_5)).trans hw434_5), ((HB.out.cell (World.block_lt_of_cell? w _ hw434_6)).trans hw434_6), ((HB.out.cell (World.block_lt_of_cell? w _ hw434_7)).trans hw434_7), ((HB.out.cell (World.block_lt_of_cell? w _ hw434_8)).trans hw434_8), ((HB.out.cell (World.block_lt_of_cell? w _ hw435_0)).trans hw435_0), ((HB.out.cell (World.block_lt_of_cell? w _ hw435_1)).trans hw435_1), ((HB.out.cell (World.block_lt_of_cell? w _ hw435_2)).trans hw435_2), ((HB.out.cell (World.block_lt_of_cell? w _ hw435_3)).trans hw435_3), ((HB.out.cell (World.block_lt_of_cell? w _ hw435_4)).trans hw435_4), ((HB.out.cell (World.block_lt_of_cell? w _ hw435_5)).trans hw435_5), ((HB.out.cell (World.block_lt_of_cell? w _ hw435_6)).trans hw435_6), ((HB.out.cell (World.block_lt_of_cell? w _ hw435_7)).trans hw435_7), ((HB.out.cell (World.block_lt_of_cell? w _ hw435_8)).trans hw435_8), ((HB.out.cell (World.block_lt_of_cell? w _ hw436_0)).trans hw436_0), ((HB.out.cell (World.block_lt_of_cell? w _ hw436_1)).trans hw436_1), ((HB.out.cell (World.block_lt_of_cell? w _ hw436_2)).trans hw436_2), ((HB.out.cell (World.block_lt_of_cell? w _ hw436_3)).trans hw436_3), ((HB.out.cell (World.block_lt_of_cell? w _ hw436_4)).trans hw436_4), ((HB.out.cell (World.block_lt_of_cell? w _ hw436_5)).trans hw436_5), ((HB.out.cell (World.block_lt_of_cell? w _ hw436_6)).trans hw436_6), ((HB.out.cell (World.block_lt_of_cell? w _ hw436_7)).trans hw436_7), ((HB.out.cell (World.block_lt_of_cell? w _ hw436_8)).trans hw436_8)⟩ (fun hHeld => ?_)
         clear hK K
         refine norm_ (a' := ?_) ?_ ?_
         rotate_left
         · show Act.put _ (some 34) _ = _
           simp only [Act.put, sA, sB, sC, i64_w, i32_w]
           rfl
         refine pA (i := 24) (N := some 3) HT_ (pf 25 25) ?_
         refine done_ (done_of HT_.out (by kernel_rfl)) ?_
         try go_wp2
         go_roundg k1
         case measure => have := HK1.out; omega
         case rel => exact ⟨(y437), (wrap64 (x4_1 + 1)), ac, H', ⟨by have := HK1.out; omega⟩, ⟨gR HO439⟩, ⟨gB HB⟩⟩
       · rw [if_neg c4] at H
         exact absurd H (by simp)
     · rw [if_neg c3] at H
       exact absurd H (by simp)
   · rw [if_neg c2] at H
     have c2b0 : decide (x4_1 < (l0.length : Int)) = false := decide_eq_false c2
     clear c2
     obtain rfl := Option.some.inj H
     go_wp2
     go_ret
     exact ⟨_, by first | rfl | (simp [errW_none, errW_some] <;> rfl) | (simp [*, errW_none, errW_some] <;> rfl), gR HO_3, gB HB⟩
end Go.Proofs.Ytjjemfbpodgihaa.X
