-- a shortened text: what this claim does not name is left out (wip/xprint/prune.py of this repo)
import Derived.Test.YtjjemfbpodgihaaXMin
import Derived.Test.YtjjemfbpodgihaaX0
import Derived.Test.YtjjemfbpodgihaaX4
import Derived.Test.YtjjemfbpodgihaaX7
import Derived.Test.YtjjemfbpodgihaaX8
namespace Go.Proofs.Ytjjemfbpodgihaa.X
open Go.RowKit Go.Proofs.YtjjemfbpodgihaaW.PrintWords Go.Proofs.YtjjemfbpodgihaaW.PrintLast Go.Proofs.YtjjemfbpodgihaaW.PrintMore
attribute [local go_sem] max2_int min2_int max_two min_two max_three min_three max_four min_four
set_option linter.unusedVariables false
set_option linter.unusedSimpArgs false
abbrev qx9_0 : Array Bool := #[true, true, true, true, true, false, true, false, false, false, false, false, false, false, false]
abbrev qx9_1 : Array Bool := #[true, true, true, true, true, false, true, true, false, false, false, false, false, false, false]
abbrev qx9_2 : Array Bool := #[true, true, true, true, true, false, true, true, true, false, false, false, false, false, false]
abbrev qx9_3 : Array Bool := #[true, true, true, true, true, false, true, true, true, true, false, false, false, false, false]
abbrev qx9_4 : Array Bool := #[true, true, true, true, true, false, true, true, true, true, true, false, false, false, false]
mutual
def lombardref17_Plus.l0 : Nat → List (S43) → List (S43) → Int → Option ((List (S43)) × Int)
 | 0, _, _, _ => none
 | k + 1, x1, x6, x7 => if x7 < (x1.length : Int) then (if 0 ≤ x7 then ((lombardref17_Qty.f k x6 ((rd_T43 x1 x7).f0)).bind fun t213 => (if t213 = 0 then (lombardref17_Plus.j1 k x1 x6 x7 t213 (decide ((x6.length : Int) ≥ 64))) else (lombardref17_Plus.j1 k x1 x6 x7 t213 false))) else (none)) else (some (x6, 0))
def lombardref17_Plus.j1 : Nat → List (S43) → List (S43) → Int → Int → Bool → Option ((List (S43)) × Int)
 | 0, _, _, _, _, _ => none
 | k + 1, x1, x6, x7, x8, x29 => if x29 = true then (some (([] : List (S43)), 2)) else (if 0 ≤ x7 then (if x7 < (x1.length : Int) then (if ((rd_T43 x1 x7).f1) > (wrap64 (1125899906842624 - x8)) then (some (([] : List (S43)), 9)) else ((lombardref17_Set.f k x6 ((rd_T43 x1 x7).f0) (wrap64 (x8 + ((rd_T43 x1 x7).f1)))).bind fun t217 => (lombardref17_Plus.l0 k x1 t217 (wrap64 (x7 + 1))))) else (none)) else (none))
end
def lombardref17_Plus.f (k : Nat) (l0 : List (S43)) (l1 : List (S43)) : Option ((List (S43)) × Int) := lombardref17_Plus.l0 k l1 l0 0
theorem lombardref17_Plus.mono_l : ∀ k, (∀ y0 y1 y2, LeO (lombardref17_Plus.l0 k y0 y1 y2) (lombardref17_Plus.l0 (k + 1) y0 y1 y2)) ∧ (∀ y0 y1 y2 y3 y4, LeO (lombardref17_Plus.j1 k y0 y1 y2 y3 y4) (lombardref17_Plus.j1 (k + 1) y0 y1 y2 y3 y4))
 | 0 => ⟨fun _ _ _ r h => by simp [lombardref17_Plus.l0] at h, fun _ _ _ _ _ r h => by simp [lombardref17_Plus.j1] at h⟩
 | k + 1 => by
  obtain ⟨ih0, ih1⟩ := lombardref17_Plus.mono_l k
  refine ⟨?_, ?_⟩
  intro y0 y1 y2; unfold lombardref17_Plus.l0; rotate_left
  intro y0 y1 y2 y3 y4; unfold lombardref17_Plus.j1; rotate_left
  all_goals repeat' first
  | (with_reducible exact ih0 _ _ _)
  | (with_reducible exact ih1 _ _ _ _ _)
  | (with_reducible exact lombardref17_Qty.mono _ _ _)
  | (with_reducible exact lombardref17_Set.mono _ _ _ _)
  | (with_reducible exact LeO.refl _)
  | (with_reducible exact LeO.none _)
  | (with_reducible refine LeO.ite ?_ ?_)
  | (with_reducible refine LeO.bind ?_ (fun _ => ?_))
  | exact ih0 _ _ _
  | exact ih1 _ _ _ _ _
  | exact lombardref17_Qty.mono _ _ _
  | exact lombardref17_Set.mono _ _ _ _
  | exact LeO.none _
  | refine LeO.ite ?_ ?_
  | refine LeO.bind ?_ (fun _ => ?_)
theorem lombardref17_Plus.mono : ∀ a0 a1 k, LeO (lombardref17_Plus.f k a0 a1) (lombardref17_Plus.f (k + 1) a0 a1) := by
 intro a0 a1 k
 obtain ⟨ih0, ih1⟩ := lombardref17_Plus.mono_l k
 unfold lombardref17_Plus.f
 repeat' first
  | (with_reducible exact ih0 _ _ _)
  | (with_reducible exact ih1 _ _ _ _ _)
  | (with_reducible exact lombardref17_Qty.mono _ _ _)
  | (with_reducible exact lombardref17_Set.mono _ _ _ _)
  | (with_reducible exact LeO.refl _)
  | (with_reducible exact LeO.none _)
  | (with_reducible refine LeO.ite ?_ ?_)
  | (with_reducible refine LeO.bind ?_ (fun _ => ?_))
  | exact ih0 _ _ _
  | exact ih1 _ _ _ _ _
  | exact lombardref17_Qty.mono _ _ _
  | exact lombardref17_Set.mono _ _ _ _
  | exact LeO.none _
  | refine LeO.ite ?_ ?_
  | refine LeO.bind ?_ (fun _ => ?_)
def lombardref17_Plus.T10 : Bool × List (List Nat × List Nat) := (true, [([], []), ([], []), ([], []), ([1, 2], [1, 2]), ([3], [3]), ([4], [4]), ([], []), ([], []), ([], []), ([7, 8], [7, 8]), ([9], [9]), ([10], [10]), ([6, 11], [6, 11]), ([0, 5, 12], [0, 5, 12]), ([13, 13, 0, 1, 2, 3, 4, 5, 6, 7, 8, 9, 10, 11, 12, 13], [0, 13])])
def lombardref17_Plus.B10 : List Nat := [0, 0, 0, 6, 14, 30, 0, 0, 0, 384, 896, 1920, 4032, 8191, 16383]
theorem lombardref17_Plus.tab10 : rtab .any (opsOf Try.f10 10) = lombardref17_Plus.T10 := by kernel_rfl
theorem lombardref17_Plus.bits10 : waitsOk lombardref17_Plus.T10.2 lombardref17_Plus.B10 = true := by kernel_rfl
set_option maxHeartbeats 8000000 in
set_option maxRecDepth 100000 in
theorem lombardref17_Plus.calls (k : Nat) (P0_ : Nat → Prop) (A0 : Option Addr) (c0 : Nat) (l0 : List (S43)) (A1 : Option Addr) (c1 : Nat) (l1 : List (S43)) (r1 : List (S43)) (r2 : Int) (w : World) (hs0 : Kd.V k43 43 w w.heap.size (fun k_ => P0_ k_) (.slice A0 l0.length c0) l0) (hr1 : Kd.C k43 w A1 l1.length l1) (hc1 : l1.length ≤ c1) (h : lombardref17_Plus.f k l0 l1 = some (r1, r2)) :
 Calls Try.prog 10 #[.slice A0 l0.length c0, .slice A1 l1.length c1] w fun e w' => ∃ v0_ : Value, e = .returned (.tuple #[v0_, .int .i64 r2]) ∧ Kd.V k43 43 w' w.heap.size (fun k_ => (P0_ k_ ∨ w.heap.size ≤ k_)) v0_ r1 ∧ Below w.heap.size w w' := by
 have HO0 := Aside0.mk (show Kd.V k43 43 w w.heap.size (fun k_ => (P0_ k_ ∨ w.heap.size ≤ k_)) (.slice A0 l0.length c0) l0 from Kd.V_mono hs0 (fun k_ hk => .inl hk))
 have HR1 := Aside0.mk hr1; have HC1 := Aside0.mk hc1; clear hr1 hc1
 have HB := Aside0.mk (Below.refl w.heap.size w)
 have H : (lombardref17_Plus.l0 k l1 l0 0) = some (r1, r2) := h
 clear h
 have H' := Aside0.mk H
 clear H
 go_enter Try.func10, Try.ntmps10
 go_wp2
 go_loopg [6, 7] k (fun kq v6 v7 w' => ∃ (x6_1 : List (S43)) (x7_1 : Int), v7 = .int .i64 x7_1 ∧ Aside0 (lombardref17_Plus.l0 kq l1 x6_1 x7_1 = some (r1, r2)) ∧ Aside0 (kq ≤ k) ∧ Aside0 (Kd.V k43 43 w' w.heap.size (fun k_ => (P0_ k_ ∨ w.heap.size ≤ k_)) v6 x6_1) ∧ Aside0 (Below w.heap.size w w'))
 case atStart => exact ⟨(l0), (0), ac, H', ⟨Nat.le_refl _⟩, ⟨by (with_reducible repeat (first | apply Kd.V_alloc | apply Kd.V_drewN | apply Kd.V_drew)); exact HO0.out⟩, ⟨gB HB⟩⟩
 case round =>
  clear H'; (try clear c1); (try clear p2)
  obtain ⟨x6_1, x7_1, rfl, HA, HK1, HO_6, HB⟩ := hrel
  cases gk with
  | zero => exact absurd HA.out (by simp [lombardref17_Plus.l0])
  | succ k1 =>
   have H := HA.out
   clear HA
   simp only [lombardref17_Plus.l0] at H
   by_cases c3 : x7_1 < (l1.length : Int)
   · rw [if_pos c3] at H
     have c3b0 : decide (x7_1 < (l1.length : Int)) = true := decide_eq_true c3
     clear c3
     by_cases c4 : 0 ≤ x7_1
     · rw [if_pos c4] at H
       have c4b0 : decide (0 ≤ x7_1) = true := decide_eq_true c4
       clear c4
       replace H := Option.bind_eq_some_iff.mp H
       obtain ⟨t213, A50, H⟩ := H
       replace H : (if t213 = 0 then (lombardref17_Plus.j1 k1 l1 x6_1 x7_1 t213 (decide ((x6_1.length : Int) ≥ 64))) else (lombardref17_Plus.j1 k1 l1 x6_1 x7_1 t213 false)) = some (r1, r2) := H
       have A5 := Aside0.mk A50; clear A50; have HC6 := Aside0.mk H; clear H
       have p212 : 0 ≤ (x7_1 : Int) := od
       have q212 : x7_1 < (l1.length : Int) := od
       obtain ⟨ad212, e212, hx212_0, hx212_1⟩ := at_T43 HR1.out x7_1 p212 q212
       cases e212
       replace hx212_0 := (HB.out.cell (World.block_lt_of_cell? w _ hx212_0)).trans hx212_0
       replace hx212_1 := (HB.out.cell (World.block_lt_of_cell? w _ hx212_1)).trans hx212_1
       replace p212 := eq_true p212; replace q212 := eq_true q212
       obtain ⟨Ao7, co7, eo7⟩ := Kd.V_slice HO_6.out
       subst eo7
       go_upto_region 6 with (first | ((with_reducible refine gate_callee (f := 18) rfl ?_); refine goesL_ (some 22) rfl rfl Try.func18 (by kernel_rfl) rfl #[.slice Ao7 x6_1.length co7, .string ((rd_T43 l1 x7_1).f0)] rfl am ?_; (with_reducible refine (lombardref17_Qty.calls k1 _ _ x6_1 ((rd_T43 l1 x7_1).f0) t213 _ ?side1 ?side2 A5.out).mono ?_); (case side1 => repeat (first | exact (Kd.V_reads' HO_6.out).2.2 | (with_reducible refine Kd.C_alloc ?_ _) | (with_reducible refine Kd.C_drewN ?_ _) | (with_reducible refine Kd.C_drew ?_))); (case side2 => exact (Kd.V_reads' HO_6.out).2.1); rintro e w' ⟨rfl, ⟨nd, rfl⟩⟩; refine ⟨_, rfl, ?_⟩))
       (try simp only [Act.put, sA, sB, sC])
       go_cut [29] (fun v29 wc => ∃ (kq : Nat) (x29_5 : Bool), v29 = .bool x29_5 ∧ Aside0 (lombardref17_Plus.j1 kq l1 x6_1 x7_1 t213 x29_5 = some (r1, r2)) ∧ Aside0 (kq ≤ k1) ∧ Aside0 (Kd.V k43 43 wc w.heap.size (fun k_ => (P0_ k_ ∨ w.heap.size ≤ k_)) (.slice Ao7 x6_1.length co7) x6_1) ∧ Aside0 (Below w.heap.size w wc))
       case first =>
        have H := HC6.out
        clear HC6
        by_cases c8 : t213 = 0
        · rw [if_pos c8] at H
          have c8b0 : (t213 == 0) = true := beq_iff_eq.mpr c8
          have c8b1 : (t213 != 0) = false := bne_eq_false_iff_eq.mpr c8
          clear c8
          (first | rw [c8b0] | (simp only [i64_w, i32_w]; rw [c8b0]) | skip)
          have H' := Aside0.mk H
          clear H
          go_wp2
          go_meet
          case rel => exact ⟨_, (decide ((x6_1.length : Int) ≥ 64)), ac, H', ⟨by have := HK1.out; first | omega | exact Nat.le_refl _⟩, ⟨by (with_reducible repeat (first | apply Kd.V_alloc | apply Kd.V_drewN | apply Kd.V_drew)); exact HO_6.out⟩, ⟨gB HB⟩⟩
        · rw [if_neg c8] at H
          have c8b0 : (t213 == 0) = false := beq_eq_false_iff_ne.mpr c8
          have c8b1 : (t213 != 0) = true := bne_iff_ne.mpr c8
          (first | rw [c8b0] | (simp only [i64_w, i32_w]; rw [c8b0]) | skip)
          have H' := Aside0.mk H
          clear H
          go_wp2
          go_meet
          case rel => exact ⟨_, (false), ac, H', ⟨by have := HK1.out; first | omega | exact Nat.le_refl _⟩, ⟨by (with_reducible repeat (first | apply Kd.V_alloc | apply Kd.V_drewN | apply Kd.V_drew)); exact HO_6.out⟩, ⟨gB HB⟩⟩
       case rest =>
        clear HC6; (try clear c1); (try clear p2); (try clear q2); (try clear hx2); (try clear c3); (try clear c3b0); (try clear c4); (try clear c4b0); (try clear c8); (try clear c8b0); (try clear c8b1); (try clear hx212_0); (try clear hx212_1); (try clear p2); (try clear p212); (try clear q212)
        obtain ⟨kq, x29_5, rfl, HA, HJ5, HO_6, HB⟩ := hcut
        cases kq with
        | zero => exact absurd HA.out (by simp [lombardref17_Plus.j1])
        | succ kj5 =>
         have H := HA.out
         clear HA
         simp only [lombardref17_Plus.j1] at H
         by_cases c9 : x29_5 = true
         · subst c9
           have H1 : (some (([] : List (S43)), 2)) = some (r1, r2) := by rw [if_pos rfl] at H; exact H
           clear H
           have H := H1
           clear H1
           simp only [Option.some.injEq, Prod.mk.injEq] at H
           obtain ⟨rfl, rfl⟩ := H
           go_wp2
           go_ret2
           exact ⟨_, by first | rfl | (simp [errW_none, errW_some] <;> rfl) | (simp [*, errW_none, errW_some] <;> rfl), Kd.V_nil _ _ _ _ _, gB HB⟩
         · replace c9 := Bool.eq_false_iff.mpr c9
           subst c9
           have H1 : (if 0 ≤ x7_1 then (if x7_1 < (l1.length : Int) then (if ((rd_T43 l1 x7_1).f1) > (wrap64 (1125899906842624 - t213)) then (some (([] : List (S43)), 9)) else ((lombardref17_Set.f kj5 x6_1 ((rd_T43 l1 x7_1).f0) (wrap64 (t213 + ((rd_T43 l1 x7_1).f1)))).bind fun t217 => (lombardref17_Plus.l0 kj5 l1 t217 (wrap64 (x7_1 + 1))))) else (none)) else (none)) = some (r1, r2) := by rw [if_neg (show ¬ (false = true) by decide)] at H; exact H
           clear H
           have H := H1
           clear H1
           by_cases c10 : 0 ≤ x7_1
           · rw [if_pos c10] at H
             have c10b0 : decide (0 ≤ x7_1) = true := decide_eq_true c10
             clear c10
             by_cases c11 : x7_1 < (l1.length : Int)
             · rw [if_pos c11] at H
               have c11b0 : decide (x7_1 < (l1.length : Int)) = true := decide_eq_true c11
               clear c11
               by_cases c12 : ((rd_T43 l1 x7_1).f1) > (wrap64 (1125899906842624 - t213))
               · rw [if_pos c12] at H
                 have c12b0 : decide ((wrap64 (1125899906842624 - t213)) < ((rd_T43 l1 x7_1).f1)) = true := decide_eq_true c12
                 clear c12
                 simp only [Option.some.injEq, Prod.mk.injEq] at H
                 obtain ⟨rfl, rfl⟩ := H
                 have p214 : 0 ≤ (x7_1 : Int) := od
                 have q214 : x7_1 < (l1.length : Int) := od
                 obtain ⟨ad214, e214, hx214_0, hx214_1⟩ := at_T43 HR1.out x7_1 p214 q214
                 obtain rfl : ad212 = ad214 := (by injection e214)
                 replace hx214_0 := (HB.out.cell (World.block_lt_of_cell? w _ hx214_0)).trans hx214_0
                 replace hx214_1 := (HB.out.cell (World.block_lt_of_cell? w _ hx214_1)).trans hx214_1
                 replace p214 := eq_true p214; replace q214 := eq_true q214
                 go_wp2
                 go_ret2
                 exact ⟨_, by first | rfl | (simp [errW_none, errW_some] <;> rfl) | (simp [*, errW_none, errW_some] <;> rfl), Kd.V_nil _ _ _ _ _, gB HB⟩
               · rw [if_neg c12] at H
                 have c12b0 : decide ((wrap64 (1125899906842624 - t213)) < ((rd_T43 l1 x7_1).f1)) = false := decide_eq_false c12
                 clear c12
                 replace H := Option.bind_eq_some_iff.mp H
                 obtain ⟨t217, A130, H⟩ := H
                 replace H : (lombardref17_Plus.l0 kj5 l1 t217 (wrap64 (x7_1 + 1))) = some (r1, r2) := H
                 have A13 := Aside0.mk A130; clear A130
                 have H' := Aside0.mk H
                 clear H
                 have p214 : 0 ≤ (x7_1 : Int) := od
                 have q214 : x7_1 < (l1.length : Int) := od
                 obtain ⟨ad214, e214, hx214_0, hx214_1⟩ := at_T43 HR1.out x7_1 p214 q214
                 obtain rfl : ad212 = ad214 := (by injection e214)
                 replace hx214_0 := (HB.out.cell (World.block_lt_of_cell? w _ hx214_0)).trans hx214_0
                 replace hx214_1 := (HB.out.cell (World.block_lt_of_cell? w _ hx214_1)).trans hx214_1
                 replace p214 := eq_true p214; replace q214 := eq_true q214
                 try go_wp2
                 have n0_ := Aside0.mk (Kd.V_drew HO_6.out)
                 have n1_ := Aside0.mk (below_drew1 HB.out)
                 clear HO_6; clear HB
                 have HO_6 := n0_
                 have HB := n1_
                 clear n0_ n1_
                 have p215 : 0 ≤ (x7_1 : Int) := od
                 have q215 : x7_1 < (l1.length : Int) := od
                 obtain ⟨ad215, e215, hx215_0, hx215_1⟩ := at_T43 HR1.out x7_1 p215 q215
                 have hw215_1 := hx215_1
                 have hw215_0 := hx215_0
                 obtain rfl : ad212 = ad215 := (by injection e215)
                 replace hx215_0 := (HB.out.cell (World.block_lt_of_cell? w _ hx215_0)).trans hx215_0
                 replace hx215_1 := (HB.out.cell (World.block_lt_of_cell? w _ hx215_1)).trans hx215_1
                 replace p215 := eq_true p215; replace q215 := eq_true q215
                 have p216 : 0 ≤ (x7_1 : Int) := od
                 have q216 : x7_1 < (l1.length : Int) := od
                 obtain ⟨ad216, e216, hx216_0, hx216_1⟩ := at_T43 HR1.out x7_1 p216 q216
                 have hw216_1 := hx216_1
                 have hw216_0 := hx216_0
                 obtain rfl : ad212 = ad216 := (by injection e216)
                 replace hx216_0 := (HB.out.cell (World.block_lt_of_cell? w _ hx216_0)).trans hx216_0
                 replace hx216_1 := (HB.out.cell (World.block_lt_of_cell? w _ hx216_1)).trans hx216_1
                 replace p216 := eq_true p216; replace q216 := eq_true q216
                 refine start_ (n := 15) (S := fun w' => w'.cell? (ad212.add ((x7_1).toNat * 2)) = some (.string ((rd_T43 l1 x7_1).f0)) ∧ w'.cell? ⟨(ad212.add ((x7_1).toNat * 2)).block, (ad212.add ((x7_1).toNat * 2)).off + 1, none⟩ = some (.int .i64 ((rd_T43 l1 x7_1).f1)) ∧ w'.cell? (ad212.add ((x7_1).toNat * 2)) = some (.string ((rd_T43 l1 x7_1).f0)) ∧ w'.cell? ⟨(ad212.add ((x7_1).toNat * 2)).block, (ad212.add ((x7_1).toNat * 2)).off + 1, none⟩ = some (.int .i64 ((rd_T43 l1 x7_1).f1))) (ds := []) (pf 15 0) (by kernel_rfl) rfl rfl ⟨((HB.out.cell (World.block_lt_of_cell? w _ hw215_0)).trans hw215_0), ((HB.out.cell (World.block_lt_of_cell? w _ hw215_1)).trans hw215_1), ((HB.out.cell (World.block_lt_of_cell? w _ hw216_0)).trans hw216_0), ((HB.out.cell (World.block_lt_of_cell? w _ hw216_1)).trans hw216_1)⟩ (fun hHeld => ?_); refine with_tabW lombardref17_Plus.tab10 lombardref17_Plus.bits10 (fun HT_ HW_ => ?_)
                 generalize wc.drew = w14 at HO_6 HB hx215_0 hx215_1 hx216_0 hx216_1 hHeld ⊢
                 refine pA (i := 0) (N := some 38) HT_ (pf 15 1) ?_
                 refine pA (i := 1) (N := some 39) HT_ (pf 15 2) ?_
                 refine pA (i := 2) (N := some 40) HT_ (pf 15 3) ?_
                 refine pA (i := 3) (N := some 41) HT_ (pf 15 4) ?_
                 refine pA (i := 4) (N := some 42) HT_ (pf 15 5) ?_
                 refine pA (i := 6) (N := some 44) HT_ qx9_0 ?_
                 refine pA (i := 7) (N := some 45) HT_ qx9_1 ?_
                 refine pA (i := 8) (N := some 46) HT_ qx9_2 ?_
                 refine pA (i := 9) (N := some 47) HT_ qx9_3 ?_
                 refine pA (i := 10) (N := some 48) HT_ qx9_4 ?_
                 refine take_ (i := 5) (N := some 43) (v := ?_) (a' := ?_) (pf 15 11) rfl rfl (take_ofW HT_.out HW_.out (by kernel_rfl)) (fun _ _ _ h => h) (Or.inl ⟨by rfl, ?_⟩) hHeld ?_ ?_
                 rotate_left
                 · rintro w' ⟨s0, s1, s2, s3⟩
                   go_simp
                   with_reducible rfl
                 rotate_left
                 · simp only [Act.put, sA, sB, sC, i64_w, i32_w]
                   rfl
                 refine take_ (i := 11) (N := some 49) (v := ?_) (a' := ?_) (pf 15 12) rfl rfl (take_ofW HT_.out HW_.out (by kernel_rfl)) (fun _ _ _ h => h) (Or.inl ⟨by rfl, ?_⟩) hHeld ?_ ?_
                 rotate_left
                 · rintro w' ⟨s0, s1, s2, s3⟩
                   go_simp
                   with_reducible rfl
                 rotate_left
                 · simp only [Act.put, sA, sB, sC, i64_w, i32_w]
                   rfl
                 refine pA (i := 12) (N := some 50) HT_ (pf 15 13) ?_
                 refine one_ (i := 13) (N := some 51) (pf 15 14) rfl rfl (one_of HT_.out (by kernel_rfl)) (by decide) (fun K hK => ?_)
                 refine goes_ Try.func32 (by kernel_rfl) rfl #[.slice Ao7 x6_1.length co7, .string ((rd_T43 l1 x7_1).f0), .int .i64 (wrap64 (t213 + ((rd_T43 l1 x7_1).f1)))] (by rfl) rfl rfl am ?_
                 with_reducible refine (lombardref17_Set.calls kj5 _ _ x6_1 ((rd_T43 l1 x7_1).f0) (wrap64 (t213 + ((rd_T43 l1 x7_1).f1))) t217 _ ?side1 ?side2 A13.out).mono ?_
                 (case side1 => repeat (first | exact (Kd.V_reads' HO_6.out).2.2 | (with_reducible refine Kd.C_alloc ?_ _) | (with_reducible refine Kd.C_drewN ?_ _) | (with_reducible refine Kd.C_drew ?_)))
                 (case side2 => exact (Kd.V_reads' HO_6.out).2.1)
                 rintro e w15 ⟨v218, rfl, ho0, hb⟩
                 refine ⟨_, rfl, ?_⟩
                 have n0_ := Aside0.mk (Kd.V_elder' (by (with_reducible repeat (first | apply Kd.V_alloc | apply Kd.V_drewN | apply Kd.V_drew)); exact HO_6.out) (Kd.R_base ho0) hb)
                 have n1_ := Aside0.mk (Kd.R_lower (Kd.R_newM (M := fun k_ => (w.heap.size ≤ k_)) ho0 (below_size (gB HB)) (fun k_ h_ => h_)) (below_size (gB HB)))
                 have n2_ := Aside0.mk (below_step (gB HB) hb)
                 clear HO_6; clear HB
                 have HO_6 := n0_
                 have HO219 := n1_
                 have HB := n2_
                 clear n0_ n1_ n2_
                 try clear hb
                 try clear hb2
                 try clear hk
                 try clear hi
                 try clear ho0
                 refine hK.out _ _ ⟨((HB.out.cell (World.block_lt_of_cell? w _ hw215_0)).trans hw215_0), ((HB.out.cell (World.block_lt_of_cell? w _ hw215_1)).trans hw215_1), ((HB.out.cell (World.block_lt_of_cell? w _ hw216_0)).trans hw216_0), ((HB.out.cell (World.block_lt_of_cell? w _ hw216_1)).trans hw216_1)⟩ (fun hHeld => ?_)
                 clear hK K
                 refine norm_ (a' := ?_) ?_ ?_
                 rotate_left
                 · show Act.put _ (some 51) _ = _
                   simp only [Act.put, sA, sB, sC, i64_w, i32_w]
                   rfl
                 refine pA (i := 14) (N := some 6) HT_ (pf 15 15) ?_
                 refine done_ (done_of HT_.out (by kernel_rfl)) ?_
                 try go_wp2
                 go_roundg kj5
                 case measure => have := HK1.out; have := HJ5.out; omega
                 case rel => exact ⟨(t217), (wrap64 (x7_1 + 1)), ac, H', ⟨by have := HK1.out; have := HJ5.out; omega⟩, ⟨Kd.V_mono (Kd.R_V (gR ⟨Kd.R_mono HO219.out (fun _ hk => hk.1)⟩)) (fun k_ hk => by first | exact ⟨(.inr (hk.1)), hk.2⟩ | exact (.inr (hk)))⟩, ⟨gB HB⟩⟩
             · rw [if_neg c11] at H
               exact absurd H (by simp)
           · rw [if_neg c10] at H
             exact absurd H (by simp)
     · rw [if_neg c4] at H
       exact absurd H (by simp)
   · rw [if_neg c3] at H
     have c3b0 : decide (x7_1 < (l1.length : Int)) = false := decide_eq_false c3
     clear c3
     simp only [Option.some.injEq, Prod.mk.injEq] at H
     obtain ⟨rfl, rfl⟩ := H
     go_wp2
     go_ret2
     exact ⟨_, by first | rfl | (simp [errW_none, errW_some] <;> rfl) | (simp [*, errW_none, errW_some] <;> rfl), by (with_reducible repeat (first | apply Kd.V_alloc | apply Kd.V_drewN | apply Kd.V_drew)); exact HO_6.out, gB HB⟩
end Go.Proofs.Ytjjemfbpodgihaa.X
