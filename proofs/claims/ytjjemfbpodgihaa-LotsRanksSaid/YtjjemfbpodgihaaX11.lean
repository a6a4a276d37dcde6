-- a shortened text: what this claim does not name is left out (wip/xprint/prune.py of this repo)
import Derived.Test.YtjjemfbpodgihaaXMin
import Derived.Test.YtjjemfbpodgihaaX0
import Derived.Test.YtjjemfbpodgihaaX4
import Derived.Test.YtjjemfbpodgihaaX6
import Derived.Test.YtjjemfbpodgihaaX8
import Derived.Test.YtjjemfbpodgihaaX9
namespace Go.Proofs.Ytjjemfbpodgihaa.X
open Go.RowKit Go.Proofs.YtjjemfbpodgihaaW.PrintWords Go.Proofs.YtjjemfbpodgihaaW.PrintLast Go.Proofs.YtjjemfbpodgihaaW.PrintMore
attribute [local go_sem] max2_int min2_int max_two min_two max_three min_three max_four min_four
set_option linter.unusedVariables false
set_option linter.unusedSimpArgs false
mutual
def lots_Merge.l0 : Nat → List (S43) → List (S43) → Int → Int → Option ((List (S43)) × Int)
 | 0, _, _, _, _ => none
 | k + 1, x4, x8, x9, x10 => if x10 < x9 then (if 0 ≤ x10 then (if x10 < (x8.length : Int) then (if ((rd_T43 x8 x10).f1) < 1 then (lots_Merge.j1 k x4 x8 x9 x10 true ((rd_T43 x8 x10).f0) ((rd_T43 x8 x10).f1)) else (lots_Merge.j1 k x4 x8 x9 x10 (decide (((rd_T43 x8 x10).f1) > 1125899906842624)) ((rd_T43 x8 x10).f0) ((rd_T43 x8 x10).f1))) else (none)) else (none)) else (some (x4, 0))
def lots_Merge.j1 : Nat → List (S43) → List (S43) → Int → Int → Bool → ByteArray → Int → Option ((List (S43)) × Int)
 | 0, _, _, _, _, _, _, _ => none
 | k + 1, x4, x8, x9, x10, x21, x290000, x290001 => if x21 = true then (some (([] : List (S43)), 1)) else ((lots_add.f k x4 x290000 x290001).bind fun bt290 => (if bt290.2 = 0 then (lots_Merge.l0 k bt290.1 x8 x9 (wrap64 (x10 + 1))) else (some (([] : List (S43)), bt290.2))))
end
def lots_Merge.f (k : Nat) (l0 : List (S43)) : Option ((List (S43)) × Int) := lots_Merge.l0 k ([] : List (S43)) l0 (l0.length : Int) 0
theorem lots_Merge.mono_l : ∀ k, (∀ y0 y1 y2 y3, LeO (lots_Merge.l0 k y0 y1 y2 y3) (lots_Merge.l0 (k + 1) y0 y1 y2 y3)) ∧ (∀ y0 y1 y2 y3 y4 y5 y6, LeO (lots_Merge.j1 k y0 y1 y2 y3 y4 y5 y6) (lots_Merge.j1 (k + 1) y0 y1 y2 y3 y4 y5 y6))
 | 0 => ⟨fun _ _ _ _ r h => by simp [lots_Merge.l0] at h, fun _ _ _ _ _ _ _ r h => by simp [lots_Merge.j1] at h⟩
 | k + 1 => by
  obtain ⟨ih0, ih1⟩ := lots_Merge.mono_l k
  refine ⟨?_, ?_⟩
  intro y0 y1 y2 y3; unfold lots_Merge.l0; rotate_left
  intro y0 y1 y2 y3 y4 y5 y6; unfold lots_Merge.j1; rotate_left
  all_goals repeat' first
  | (with_reducible exact ih0 _ _ _ _)
  | (with_reducible exact ih1 _ _ _ _ _ _ _)
  | (with_reducible exact lots_add.mono _ _ _ _)
  | (with_reducible exact LeO.refl _)
  | (with_reducible exact LeO.none _)
  | (with_reducible refine LeO.ite ?_ ?_)
  | (with_reducible refine LeO.bind ?_ (fun _ => ?_))
  | exact ih0 _ _ _ _
  | exact ih1 _ _ _ _ _ _ _
  | exact lots_add.mono _ _ _ _
  | exact LeO.none _
  | refine LeO.ite ?_ ?_
  | refine LeO.bind ?_ (fun _ => ?_)
theorem lots_Merge.mono : ∀ a0 k, LeO (lots_Merge.f k a0) (lots_Merge.f (k + 1) a0) := by
 intro a0 k
 obtain ⟨ih0, ih1⟩ := lots_Merge.mono_l k
 unfold lots_Merge.f
 repeat' first
  | (with_reducible exact ih0 _ _ _ _)
  | (with_reducible exact ih1 _ _ _ _ _ _ _)
  | (with_reducible exact lots_add.mono _ _ _ _)
  | (with_reducible exact LeO.refl _)
  | (with_reducible exact LeO.none _)
  | (with_reducible refine LeO.ite ?_ ?_)
  | (with_reducible refine LeO.bind ?_ (fun _ => ?_))
  | exact ih0 _ _ _ _
  | exact ih1 _ _ _ _ _ _ _
  | exact lots_add.mono _ _ _ _
  | exact LeO.none _
  | refine LeO.ite ?_ ?_
  | refine LeO.bind ?_ (fun _ => ?_)
set_option maxHeartbeats 8000000 in
set_option maxRecDepth 100000 in
theorem lots_Merge.calls (k : Nat) (A0 : Option Addr) (c0 : Nat) (l0 : List (S43)) (r1 : List (S43)) (r2 : Int) (w : World) (hr0 : Kd.C k43 w A0 l0.length l0) (hc0 : l0.length ≤ c0) (h : lots_Merge.f k l0 = some (r1, r2)) :
 Calls Try.prog 21 #[.slice A0 l0.length c0] w fun e w' => ∃ v0_ : Value, e = .returned (.tuple #[v0_, .int .i64 r2]) ∧ Kd.R k43 43 w' w.heap.size (fun _ => True) v0_ r1 ∧ Below w.heap.size w w' := by
 have hu43 := Try.underlying43
 have HR0 := Aside0.mk hr0; have HC0 := Aside0.mk hc0; clear hr0 hc0
 have HB := Aside0.mk (Below.refl w.heap.size w)
 have H : (lots_Merge.l0 k ([] : List (S43)) l0 (l0.length : Int) 0) = some (r1, r2) := h
 clear h
 have H' := Aside0.mk H
 clear H
 go_enter Try.func21, Try.ntmps21
 go_wp2
 go_loopg [4, 10] k (fun kq v4 v10 w' => ∃ (x4_1 : List (S43)) (x10_1 : Int), v10 = .int .i64 x10_1 ∧ Aside0 (lots_Merge.l0 kq x4_1 l0 (l0.length : Int) x10_1 = some (r1, r2)) ∧ Aside0 (kq ≤ k) ∧ Aside0 (Kd.R k43 43 w' w.heap.size (fun _ => True) v4 x4_1) ∧ Aside0 (Below w.heap.size w w'))
 case atStart => exact ⟨(([] : List (S43))), (0), ac, H', ⟨Nat.le_refl _⟩, ⟨by first | exact Kd.R_nil _ _ _ _ _ | exact Kd.N_nil _ _ _ _ _ | exact Kd.V_nil _ _ _ _ _ | exact Kd.Q_nil _ _ _ _ _ | exact Kd.S_nil _ _ _ _ _⟩, ⟨gB HB⟩⟩
 case round =>
  clear H'
  obtain ⟨x4_1, x10_1, rfl, HA, HK1, HO_4, HB⟩ := hrel
  cases gk with
  | zero => exact absurd HA.out (by simp [lots_Merge.l0])
  | succ k1 =>
   have H := HA.out
   clear HA
   simp only [lots_Merge.l0] at H
   by_cases c2 : x10_1 < (l0.length : Int)
   · rw [if_pos c2] at H
     have c2b0 : decide (x10_1 < (l0.length : Int)) = true := decide_eq_true c2
     clear c2
     by_cases c3 : 0 ≤ x10_1
     · rw [if_pos c3] at H
       have c3b0 : decide (0 ≤ x10_1) = true := decide_eq_true c3
       clear c3
       by_cases c4 : x10_1 < (l0.length : Int)
       · rw [if_pos c4] at H
         have c4b0 : decide (x10_1 < (l0.length : Int)) = true := decide_eq_true c4
         clear c4; have HC5 := Aside0.mk H; clear H
         have p288 : 0 ≤ (x10_1 : Int) := od
         have q288 : x10_1 < (l0.length : Int) := od
         obtain ⟨ad288, e288, hx288_0, hx288_1⟩ := at_T43 HR0.out x10_1 p288 q288
         cases e288
         replace hx288_0 := (HB.out.cell (World.block_lt_of_cell? w _ hx288_0)).trans hx288_0
         replace hx288_1 := (HB.out.cell (World.block_lt_of_cell? w _ hx288_1)).trans hx288_1
         replace p288 := eq_true p288; replace q288 := eq_true q288
         go_upto_region 6 with (first | ((with_reducible refine gate_dst (N := 7) rfl ?_); refine box_event ?hg (N := 7) ?hd (cs := #[.string (⟨#[]⟩ : ByteArray), .int .i64 0]) (t := 43) ?hr ?_; (case hd => rfl); (case hg => rfl); (case hr => first | (go_simp; done) | (go_simp; rfl) | (have hcq := hcq_.out; have hfq := hfq_.out; go_simp; done)); intro gb289 hg w6 hbox hb; have n0_ := Aside0.mk (Kd.R_below (Kd.R_elderB (gR HO_4) gb289 (Nat.le_of_eq hg.symm)) hb); have n1_ := Aside0.mk (below_step (gB HB) hb); have n2_ := Aside0.mk (hbox); have n3_ := Aside0.mk ((by rw [hg]; exact (below_size (gB HB)) : w.heap.size ≤ gb289)); have n4_ := Aside0.mk ((by rw [hg]; exact (below_size (gB HB)) : w.heap.size ≤ gb289)); clear HO_4; clear HB; have HO_4 := n0_; have HB := n1_; have BK289 := n2_; have GW289 := n3_; have GE289 := n4_; clear n0_ n1_ n2_ n3_ n4_; clear hb hbox hg; have hcz7_0 : w6.cell? ⟨gb289, 0, none⟩ = some (.string (⟨#[]⟩ : ByteArray)) := (blk_cell BK289.out 0).trans rfl; have hcz7_1 : w6.cell? ⟨gb289, 1, none⟩ = some (.int .i64 0) := (blk_cell BK289.out 1).trans rfl; have hfz7_0 := blk_frozen BK289.out 0; have hfz7_1 := blk_frozen BK289.out 1))
         (try simp only [Act.put, sA, sB, sC])
         go_cut [21] (fun v21 wc => ∃ (kq : Nat) (x21_4 : Bool), v21 = .bool x21_4 ∧ Aside0 (lots_Merge.j1 kq x4_1 l0 (l0.length : Int) x10_1 x21_4 ((rd_T43 l0 x10_1).f0) ((rd_T43 l0 x10_1).f1) = some (r1, r2)) ∧ Aside0 (kq ≤ k1) ∧ Aside0 (Kd.R k43 43 wc w.heap.size (fun k_ => k_ ≠ gb289) u4 x4_1) ∧ Aside0 (wc.heap[gb289]? = some (.cells #[.string ((rd_T43 l0 x10_1).f0), .int .i64 ((rd_T43 l0 x10_1).f1)] 43 (0, 0))) ∧ Aside0 (Below w.heap.size w wc))
         case first =>
          have H := HC5.out
          clear HC5
          by_cases c8 : ((rd_T43 l0 x10_1).f1) < 1
          · rw [if_pos c8] at H
            have c8b0 : decide (((rd_T43 l0 x10_1).f1) < 1) = true := decide_eq_true c8
            clear c8
            (first | rw [c8b0] | (simp only [i64_w, i32_w]; rw [c8b0]) | skip)
            have H' := Aside0.mk H
            clear H
            have hcz9_0 : w6.cell? ⟨gb289, 0, none⟩ = some (.string (⟨#[]⟩ : ByteArray)) := (blk_cell BK289.out 0).trans rfl
            have hcz9_1 : w6.cell? ⟨gb289, 1, none⟩ = some (.int .i64 0) := (blk_cell BK289.out 1).trans rfl
            have hfz9_0 := blk_frozen BK289.out 0
            have hfz9_1 := blk_frozen BK289.out 1
            go_wp2
            go_meet
            case rel => exact ⟨_, (true), ac, H', ⟨by have := HK1.out; first | omega | exact Nat.le_refl _⟩, ⟨gR ⟨Kd.R_mono (Kd.R_far (p := ⟨gb289, 1, none⟩) (Kd.R_far (p := ⟨gb289, 0, none⟩) (Kd.R_mono HO_4.out (fun k_ hk => (⟨hk, hk.2⟩ : _ ∧ k_ ≠ gb289))) (fun _ hk => hk.2) (.string ((rd_T43 l0 x10_1).f0))) (fun _ hk => hk.2) (.int .i64 ((rd_T43 l0 x10_1).f1))) (fun _ hk => hk.1.2)⟩⟩, ⟨by (with_reducible repeat (first | refine blk_drewN ?_ _ | refine blk_drew ?_ | refine blk_alloc ?_ _)); refine blk_put (cs := #[.string ((rd_T43 l0 x10_1).f0), .int .i64 0]) ?_ 1 _ rfl; (with_reducible repeat (first | refine blk_drewN ?_ _ | refine blk_drew ?_ | refine blk_alloc ?_ _)); refine blk_put (cs := #[.string (⟨#[]⟩ : ByteArray), .int .i64 0]) ?_ 0 _ rfl; (with_reducible repeat (first | refine blk_drewN ?_ _ | refine blk_drew ?_ | refine blk_alloc ?_ _)); exact BK289.out⟩, ⟨gS HB⟩⟩
          · rw [if_neg c8] at H
            have c8b0 : decide (((rd_T43 l0 x10_1).f1) < 1) = false := decide_eq_false c8
            clear c8
            (first | rw [c8b0] | (simp only [i64_w, i32_w]; rw [c8b0]) | skip)
            have H' := Aside0.mk H
            clear H
            have hcz10_0 : w6.cell? ⟨gb289, 0, none⟩ = some (.string (⟨#[]⟩ : ByteArray)) := (blk_cell BK289.out 0).trans rfl
            have hcz10_1 : w6.cell? ⟨gb289, 1, none⟩ = some (.int .i64 0) := (blk_cell BK289.out 1).trans rfl
            have hfz10_0 := blk_frozen BK289.out 0
            have hfz10_1 := blk_frozen BK289.out 1
            go_wp2
            go_meet
            case rel => exact ⟨_, (decide (((rd_T43 l0 x10_1).f1) > 1125899906842624)), ac, H', ⟨by have := HK1.out; first | omega | exact Nat.le_refl _⟩, ⟨gR ⟨Kd.R_mono (Kd.R_far (p := ⟨gb289, 1, none⟩) (Kd.R_far (p := ⟨gb289, 0, none⟩) (Kd.R_mono HO_4.out (fun k_ hk => (⟨hk, hk.2⟩ : _ ∧ k_ ≠ gb289))) (fun _ hk => hk.2) (.string ((rd_T43 l0 x10_1).f0))) (fun _ hk => hk.2) (.int .i64 ((rd_T43 l0 x10_1).f1))) (fun _ hk => hk.1.2)⟩⟩, ⟨by (with_reducible repeat (first | refine blk_drewN ?_ _ | refine blk_drew ?_ | refine blk_alloc ?_ _)); refine blk_put (cs := #[.string ((rd_T43 l0 x10_1).f0), .int .i64 0]) ?_ 1 _ rfl; (with_reducible repeat (first | refine blk_drewN ?_ _ | refine blk_drew ?_ | refine blk_alloc ?_ _)); refine blk_put (cs := #[.string (⟨#[]⟩ : ByteArray), .int .i64 0]) ?_ 0 _ rfl; (with_reducible repeat (first | refine blk_drewN ?_ _ | refine blk_drew ?_ | refine blk_alloc ?_ _)); exact BK289.out⟩, ⟨gS HB⟩⟩
         case rest =>
          clear HC5; (try clear c2); (try clear c2b0); (try clear p2); (try clear q2); (try clear hx2); (try clear c3); (try clear c3b0); (try clear c4); (try clear c4b0); (try clear c8); (try clear c8b0); (try clear hcz10_0); (try clear hcz10_1); (try clear hcz7_0); (try clear hcz7_1); (try clear hcz9_0); (try clear hcz9_1); (try clear hfz10_0); (try clear hfz10_1); (try clear hfz7_0); (try clear hfz7_1); (try clear hfz9_0); (try clear hfz9_1); (try clear hx288_0); (try clear hx288_1); (try clear p288); (try clear q288)
          obtain ⟨kq, x21_4, rfl, HA, HJ4, HO_4, BK289, HB⟩ := hcut
          cases kq with
          | zero => exact absurd HA.out (by simp [lots_Merge.j1])
          | succ kj4 =>
           have H := HA.out
           clear HA
           simp only [lots_Merge.j1] at H
           by_cases c11 : x21_4 = true
           · subst c11
             have H1 : (some (([] : List (S43)), 1)) = some (r1, r2) := by rw [if_pos rfl] at H; exact H
             clear H
             have H := H1
             clear H1
             simp only [Option.some.injEq, Prod.mk.injEq] at H
             obtain ⟨rfl, rfl⟩ := H
             go_wp2
             go_ret2
             exact ⟨_, by first | rfl | (simp [errW_none, errW_some] <;> rfl) | (simp [*, errW_none, errW_some] <;> rfl), by first | exact Kd.R_nil _ _ _ _ _ | exact Kd.N_nil _ _ _ _ _ | exact Kd.V_nil _ _ _ _ _ | exact Kd.Q_nil _ _ _ _ _ | exact Kd.S_nil _ _ _ _ _, gS HB⟩
           · replace c11 := Bool.eq_false_iff.mpr c11
             subst c11
             have H1 : ((lots_add.f kj4 x4_1 ((rd_T43 l0 x10_1).f0) ((rd_T43 l0 x10_1).f1)).bind fun bt290 => (if bt290.2 = 0 then (lots_Merge.l0 kj4 bt290.1 l0 (l0.length : Int) (wrap64 (x10_1 + 1))) else (some (([] : List (S43)), bt290.2)))) = some (r1, r2) := by rw [if_neg (show ¬ (false = true) by decide)] at H; exact H
             clear H
             have H := H1
             clear H1
             replace H := Option.bind_eq_some_iff.mp H
             obtain ⟨⟨t290, t293⟩, A120, H⟩ := H
             replace H : (if t293 = 0 then (lots_Merge.l0 kj4 t290 l0 (l0.length : Int) (wrap64 (x10_1 + 1))) else (some (([] : List (S43)), t293))) = some (r1, r2) := H
             have A12 := Aside0.mk A120; clear A120
             by_cases c13 : t293 = 0
             · rw [if_pos c13] at H
               have c13b0 : (t293 == 0) = true := beq_iff_eq.mpr c13
               have c13b1 : (t293 != 0) = false := bne_eq_false_iff_eq.mpr c13
               clear c13
               have H' := Aside0.mk H
               clear H
               have hcz14_0 : wc.cell? ⟨gb289, 0, none⟩ = some (.string ((rd_T43 l0 x10_1).f0)) := (blk_cell BK289.out 0).trans rfl
               have hcz14_1 : wc.cell? ⟨gb289, 1, none⟩ = some (.int .i64 ((rd_T43 l0 x10_1).f1)) := (blk_cell BK289.out 1).trans rfl
               have hfz14_0 := blk_frozen BK289.out 0
               have hfz14_1 := blk_frozen BK289.out 1
               obtain ⟨Ao15, co15, eo15⟩ := Kd.R_slice HO_4.out
               subst eo15
               go_wp2_with (first | ((with_reducible refine gate_callee (f := 31) rfl ?_); refine goesL_ (some 25) rfl rfl Try.func31 (by kernel_rfl) rfl #[.slice Ao15 x4_1.length co15, .agg #[.string ((rd_T43 l0 x10_1).f0), .int .i64 ((rd_T43 l0 x10_1).f1)]] rfl am ?_; (with_reducible refine (lots_add.calls kj4 (fun k_ => some k_ = (.slice Ao15 x4_1.length co15 : Value).ownBlock) (.slice Ao15 x4_1.length co15) x4_1 ((rd_T43 l0 x10_1).f0) ((rd_T43 l0 x10_1).f1) t290 t293 w _ ?side1 ?side2 A12.out).mono ?_); (case side1 => repeat (first | (with_reducible first | exact HB.out | apply below_alloc | apply pw_below_drewN | apply below_drew1 | refine below_set ?_ GE289.out) | exact HB.out)); (case side2 => exact Kd.R_tight rfl HO_4.out); rintro e w16 ⟨v291, rfl, ho0, hb, hkp⟩; refine ⟨_, rfl, ?_⟩; have n0_ := Aside0.mk (blk_kept (gK BK289) hkp (fun hs_ => (fun e_ => (Kd.R_away HO_4.out (fun _ hk => hk)) e_) hs_)); have n1_ := Aside0.mk (Kd.R_mono (ok' := fun k_ => k_ ≠ gb289) ho0 (fun k_ hk_ => Or.elim hk_ (fun hs_ => fun e_ => (Kd.R_away HO_4.out (fun _ hk => hk)) (by rw [← e_]; exact hs_)) (fun hn_ => (Kd.freshB (g := gb289) (o := .cells #[.string ((rd_T43 l0 x10_1).f0), .int .i64 ((rd_T43 l0 x10_1).f1)] 43 (0, 0)) (gK BK289) k_ hn_)))); have n2_ := Aside0.mk (hb); clear BK289; clear HB; clear HO_4; have BK289 := n0_; have HO292 := n1_; have HB := n2_; clear n0_ n1_ n2_; (try clear hb); (try clear hkp); (try clear ho0)))
               go_roundg kj4
               case measure => have := HK1.out; have := HJ4.out; omega
               case rel => exact ⟨(t290), (wrap64 (x10_1 + 1)), ac, H', ⟨by have := HK1.out; have := HJ4.out; omega⟩, ⟨gR ⟨Kd.R_mono HO292.out (fun _ hk => trivial)⟩⟩, ⟨gS HB⟩⟩
             · rw [if_neg c13] at H
               have c13b0 : (t293 == 0) = false := beq_eq_false_iff_ne.mpr c13
               have c13b1 : (t293 != 0) = true := bne_iff_ne.mpr c13
               simp only [Option.some.injEq, Prod.mk.injEq] at H
               obtain ⟨rfl, rfl⟩ := H
               have hcz17_0 : wc.cell? ⟨gb289, 0, none⟩ = some (.string ((rd_T43 l0 x10_1).f0)) := (blk_cell BK289.out 0).trans rfl
               have hcz17_1 : wc.cell? ⟨gb289, 1, none⟩ = some (.int .i64 ((rd_T43 l0 x10_1).f1)) := (blk_cell BK289.out 1).trans rfl
               have hfz17_0 := blk_frozen BK289.out 0
               have hfz17_1 := blk_frozen BK289.out 1
               obtain ⟨Ao18, co18, eo18⟩ := Kd.R_slice HO_4.out
               subst eo18
               go_wp2_with (first | ((with_reducible refine gate_callee (f := 31) rfl ?_); refine goesL_ (some 25) rfl rfl Try.func31 (by kernel_rfl) rfl #[.slice Ao18 x4_1.length co18, .agg #[.string ((rd_T43 l0 x10_1).f0), .int .i64 ((rd_T43 l0 x10_1).f1)]] rfl am ?_; (with_reducible refine (lots_add.calls kj4 (fun k_ => some k_ = (.slice Ao18 x4_1.length co18 : Value).ownBlock) (.slice Ao18 x4_1.length co18) x4_1 ((rd_T43 l0 x10_1).f0) ((rd_T43 l0 x10_1).f1) t290 t293 w _ ?side1 ?side2 A12.out).mono ?_); (case side1 => repeat (first | (with_reducible first | exact HB.out | apply below_alloc | apply pw_below_drewN | apply below_drew1 | refine below_set ?_ GE289.out) | exact HB.out)); (case side2 => exact Kd.R_tight rfl HO_4.out); rintro e w19 ⟨v291, rfl, ho0, hb, hkp⟩; refine ⟨_, rfl, ?_⟩; have n0_ := Aside0.mk (blk_kept (gK BK289) hkp (fun hs_ => (fun e_ => (Kd.R_away HO_4.out (fun _ hk => hk)) e_) hs_)); have n1_ := Aside0.mk (Kd.R_mono (ok' := fun k_ => k_ ≠ gb289) ho0 (fun k_ hk_ => Or.elim hk_ (fun hs_ => fun e_ => (Kd.R_away HO_4.out (fun _ hk => hk)) (by rw [← e_]; exact hs_)) (fun hn_ => (Kd.freshB (g := gb289) (o := .cells #[.string ((rd_T43 l0 x10_1).f0), .int .i64 ((rd_T43 l0 x10_1).f1)] 43 (0, 0)) (gK BK289) k_ hn_)))); have n2_ := Aside0.mk (hb); clear BK289; clear HB; clear HO_4; have BK289 := n0_; have HO292 := n1_; have HB := n2_; clear n0_ n1_ n2_; (try clear hb); (try clear hkp); (try clear ho0)))
               go_ret2
               exact ⟨_, by first | rfl | (simp [errW_none, errW_some] <;> rfl) | (simp [*, errW_none, errW_some] <;> rfl), by first | exact Kd.R_nil _ _ _ _ _ | exact Kd.N_nil _ _ _ _ _ | exact Kd.V_nil _ _ _ _ _ | exact Kd.Q_nil _ _ _ _ _ | exact Kd.S_nil _ _ _ _ _, gS HB⟩
       · rw [if_neg c4] at H
         exact absurd H (by simp)
     · rw [if_neg c3] at H
       exact absurd H (by simp)
   · rw [if_neg c2] at H
     have c2b0 : decide (x10_1 < (l0.length : Int)) = false := decide_eq_false c2
     clear c2
     simp only [Option.some.injEq, Prod.mk.injEq] at H
     obtain ⟨rfl, rfl⟩ := H
     go_wp2
     go_ret2
     exact ⟨_, by first | rfl | (simp [errW_none, errW_some] <;> rfl) | (simp [*, errW_none, errW_some] <;> rfl), gR HO_4, gB HB⟩
def lombardref17_Merge.l0 : Nat → List (S43) → List (S43) → Int → Option ((List (S43)) × Int)
 | 0, _, _, _ => none
 | k + 1, x0, x4, x5 => if x5 < (x0.length : Int) then (if 0 ≤ x5 then ((lombardref17_good.f ((rd_T43 x0 x5).f1)).bind fun t295 => (if t295 = true then (if x5 ≤ (wrap64 (x5 + 1)) then (if (wrap64 (x5 + 1)) ≤ (x0.length : Int) then ((lombardref17_Plus.f k x4 ((x0.take ((wrap64 (x5 + 1)) : Int).toNat).drop (x5 : Int).toNat)).bind fun bt300 => (if bt300.2 = 0 then (lombardref17_Merge.l0 k x0 bt300.1 (wrap64 (x5 + 1))) else (some (([] : List (S43)), bt300.2)))) else (none)) else (none)) else (some (([] : List (S43)), 1)))) else (none)) else (some (x4, 0))
def lombardref17_Merge.f (k : Nat) (l0 : List (S43)) : Option ((List (S43)) × Int) := lombardref17_Merge.l0 k l0 ([] : List (S43)) 0
theorem lombardref17_Merge.mono_l : ∀ k, (∀ y0 y1 y2, LeO (lombardref17_Merge.l0 k y0 y1 y2) (lombardref17_Merge.l0 (k + 1) y0 y1 y2))
 | 0 => fun _ _ _ r h => by simp [lombardref17_Merge.l0] at h
 | k + 1 => by
  have ih0 := lombardref17_Merge.mono_l k
  · intro y0 y1 y2
    unfold lombardref17_Merge.l0
    repeat' first
    | (with_reducible exact ih0 _ _ _)
    | (with_reducible exact lombardref17_Plus.mono _ _ _)
    | (with_reducible exact LeO.refl _)
    | (with_reducible exact LeO.none _)
    | (with_reducible refine LeO.ite ?_ ?_)
    | (with_reducible refine LeO.bind ?_ (fun _ => ?_))
    | exact ih0 _ _ _
    | exact lombardref17_Plus.mono _ _ _
    | exact LeO.none _
    | refine LeO.ite ?_ ?_
    | refine LeO.bind ?_ (fun _ => ?_)
theorem lombardref17_Merge.mono : ∀ a0 k, LeO (lombardref17_Merge.f k a0) (lombardref17_Merge.f (k + 1) a0) := by
 intro a0 k
 have ih0 := lombardref17_Merge.mono_l k
 unfold lombardref17_Merge.f
 repeat' first
  | (with_reducible exact ih0 _ _ _)
  | (with_reducible exact lombardref17_Plus.mono _ _ _)
  | (with_reducible exact LeO.refl _)
  | (with_reducible exact LeO.none _)
  | (with_reducible refine LeO.ite ?_ ?_)
  | (with_reducible refine LeO.bind ?_ (fun _ => ?_))
  | exact ih0 _ _ _
  | exact lombardref17_Plus.mono _ _ _
  | exact LeO.none _
  | refine LeO.ite ?_ ?_
  | refine LeO.bind ?_ (fun _ => ?_)
set_option maxHeartbeats 8000000 in
set_option maxRecDepth 100000 in
theorem lombardref17_Merge.calls (k : Nat) (A0 : Option Addr) (c0 : Nat) (l0 : List (S43)) (r1 : List (S43)) (r2 : Int) (w : World) (hr0 : Kd.C k43 w A0 l0.length l0) (hc0 : l0.length ≤ c0) (h : lombardref17_Merge.f k l0 = some (r1, r2)) :
 Calls Try.prog 22 #[.slice A0 l0.length c0] w fun e w' => ∃ v0_ : Value, e = .returned (.tuple #[v0_, .int .i64 r2]) ∧ Kd.V k43 43 w' w.heap.size (fun k_ => (w.heap.size ≤ k_)) v0_ r1 ∧ Below w.heap.size w w' := by
 have HR0 := Aside0.mk hr0; have HC0 := Aside0.mk hc0; clear hr0 hc0
 have HB := Aside0.mk (Below.refl w.heap.size w)
 have H : (lombardref17_Merge.l0 k l0 ([] : List (S43)) 0) = some (r1, r2) := h
 clear h
 have H' := Aside0.mk H
 clear H
 go_enter Try.func22, Try.ntmps22
 go_wp2
 go_loopg [4, 5] k (fun kq v4 v5 w' => ∃ (x4_1 : List (S43)) (x5_1 : Int), v5 = .int .i64 x5_1 ∧ Aside0 (lombardref17_Merge.l0 kq l0 x4_1 x5_1 = some (r1, r2)) ∧ Aside0 (kq ≤ k) ∧ Aside0 (Kd.V k43 43 w' w.heap.size (fun k_ => (w.heap.size ≤ k_)) v4 x4_1) ∧ Aside0 (Below w.heap.size w w'))
 case atStart => exact ⟨(([] : List (S43))), (0), ac, H', ⟨Nat.le_refl _⟩, ⟨Kd.V_nil _ _ _ _ _⟩, ⟨gB HB⟩⟩
 case round =>
  clear H'
  obtain ⟨x4_1, x5_1, rfl, HA, HK1, HO_4, HB⟩ := hrel
  cases gk with
  | zero => exact absurd HA.out (by simp [lombardref17_Merge.l0])
  | succ k1 =>
   have H := HA.out
   clear HA
   simp only [lombardref17_Merge.l0] at H
   by_cases c2 : x5_1 < (l0.length : Int)
   · rw [if_pos c2] at H
     have c2b0 : decide (x5_1 < (l0.length : Int)) = true := decide_eq_true c2
     clear c2
     by_cases c3 : 0 ≤ x5_1
     · rw [if_pos c3] at H
       have c3b0 : decide (0 ≤ x5_1) = true := decide_eq_true c3
       clear c3
       replace H := Option.bind_eq_some_iff.mp H
       obtain ⟨t295, A40, H⟩ := H
       replace H : (if t295 = true then (if x5_1 ≤ (wrap64 (x5_1 + 1)) then (if (wrap64 (x5_1 + 1)) ≤ (l0.length : Int) then ((lombardref17_Plus.f k1 x4_1 ((l0.take ((wrap64 (x5_1 + 1)) : Int).toNat).drop (x5_1 : Int).toNat)).bind fun bt300 => (if bt300.2 = 0 then (lombardref17_Merge.l0 k1 l0 bt300.1 (wrap64 (x5_1 + 1))) else (some (([] : List (S43)), bt300.2)))) else (none)) else (none)) else (some (([] : List (S43)), 1))) = some (r1, r2) := H
       have A4 := Aside0.mk A40; clear A40
       by_cases c5 : t295 = true
       · subst c5
         have H1 : (if x5_1 ≤ (wrap64 (x5_1 + 1)) then (if (wrap64 (x5_1 + 1)) ≤ (l0.length : Int) then ((lombardref17_Plus.f k1 x4_1 ((l0.take ((wrap64 (x5_1 + 1)) : Int).toNat).drop (x5_1 : Int).toNat)).bind fun bt300 => (if bt300.2 = 0 then (lombardref17_Merge.l0 k1 l0 bt300.1 (wrap64 (x5_1 + 1))) else (some (([] : List (S43)), bt300.2)))) else (none)) else (none)) = some (r1, r2) := by rw [if_pos rfl] at H; exact H
         clear H
         have H := H1
         clear H1
         have c6b0 := eq_true (od : 0 ≤ x5_1)
         by_cases c7 : x5_1 ≤ (wrap64 (x5_1 + 1))
         · rw [if_pos c7] at H
           have c7b0 := eq_true c7
           have c7b1 : decide (x5_1 ≤ (wrap64 (x5_1 + 1))) = true := decide_eq_true c7
           by_cases c8 : (wrap64 (x5_1 + 1)) ≤ (l0.length : Int)
           · rw [if_pos c8] at H
             have c8b0 := eq_true c8
             have c8b1 : decide ((wrap64 (x5_1 + 1)) ≤ (l0.length : Int)) = true := decide_eq_true c8
             obtain ⟨y296, hy296⟩ : ∃ y_ : List (S43), y_ = ((l0.take ((wrap64 (x5_1 + 1)) : Int).toNat).drop (x5_1 : Int).toNat) := ⟨_, rfl⟩
             replace H : ((lombardref17_Plus.f k1 x4_1 y296).bind fun bt300 => (if bt300.2 = 0 then (lombardref17_Merge.l0 k1 l0 bt300.1 (wrap64 (x5_1 + 1))) else (some (([] : List (S43)), bt300.2)))) = some (r1, r2) := by first | (rw [hy296]; with_reducible exact H) | (have H2_ := (Option.bind_some _ _).symm.trans H; rw [hy296]; with_reducible exact H2_) | (have H2_ := (Option.bind_some _ _).symm.trans H; with_reducible exact H2_) | with_reducible exact H | (rw [hy296]; exact H) | exact H
             have Ny296 := Aside0.mk hy296; clear hy296
             replace H := Option.bind_eq_some_iff.mp H
             obtain ⟨⟨t300, t303⟩, A90, H⟩ := H
             replace H : (if t303 = 0 then (lombardref17_Merge.l0 k1 l0 t300 (wrap64 (x5_1 + 1))) else (some (([] : List (S43)), t303))) = some (r1, r2) := H
             have A9 := Aside0.mk A90; clear A90
             by_cases c10 : t303 = 0
             · rw [if_pos c10] at H
               have c10b0 : (t303 == 0) = true := beq_iff_eq.mpr c10
               have c10b1 : (t303 != 0) = false := bne_eq_false_iff_eq.mpr c10
               clear c10
               have H' := Aside0.mk H
               clear H
               have p294 : 0 ≤ (x5_1 : Int) := od
               have q294 : x5_1 < (l0.length : Int) := od
               obtain ⟨ad294, e294, hx294_0, hx294_1⟩ := at_T43 HR0.out x5_1 p294 q294
               cases e294
               replace hx294_0 := (HB.out.cell (World.block_lt_of_cell? w _ hx294_0)).trans hx294_0
               replace hx294_1 := (HB.out.cell (World.block_lt_of_cell? w _ hx294_1)).trans hx294_1
               replace p294 := eq_true p294; replace q294 := eq_true q294
               go_wp2_with (first | ((with_reducible refine gate_callee (f := 35) rfl ?_); refine goesL_ (some 19) rfl rfl Try.func35 (by kernel_rfl) rfl #[.int .i64 ((rd_T43 l0 x5_1).f1)] rfl am ?_; (with_reducible refine (lombardref17_good.calls ((rd_T43 l0 x5_1).f1) true _ A4.out).mono ?_); rintro e w' ⟨rfl, ⟨nd, rfl⟩⟩; refine ⟨_, rfl, ?_⟩; have q11 : ((wrap64 (x5_1 + 1)) : Int) ≤ ((l0.length : Int) : Int) := od; obtain ⟨i011, hi011, _, hsz11, _⟩ := info_parts info43; have hroom11 : l0.length ≤ c0 := HC0.out; have hC11 : Kd.C k43 _ (some ad294) l0.length l0 := HR0.out; have ql11 : (x5_1 : Int) ≤ ((wrap64 (x5_1 + 1)) : Int) := od; have q011 : (0 : Int) ≤ (x5_1 : Int) := od; have hcut11 := cut_mid (P := Try.prog) 22 43 .i64 .i64 Try.underlying22 hi011 2 hsz11 (some ad294) l0.length c0 x5_1 (wrap64 (x5_1 + 1)) q011 ql11 q11 hroom11; have hr11 := Kd.C_mid (lo := (x5_1 : Int).toNat) (hi := ((wrap64 (x5_1 + 1)) : Int).toNat) (c := c0) hC11 (by omega) (by omega) hroom11; obtain ⟨A11, hA11⟩ : ∃ A1, A1 = (if c0 = (x5_1 : Int).toNat then (some ad294) else ((some ad294) : Option Addr).map (·.add ((x5_1 : Int).toNat * 2))) := ⟨_, rfl⟩; obtain ⟨c11, hc11⟩ : ∃ c1, c1 = c0 - (x5_1 : Int).toNat := ⟨_, rfl⟩; have hy11 : y296.length = ((wrap64 (x5_1 + 1)) : Int).toNat - (x5_1 : Int).toNat := (by rw [Ny296.out, List.length_drop, List.length_take] <;> omega); rw [show ((l0).take ((wrap64 (x5_1 + 1)) : Int).toNat).drop (x5_1 : Int).toNat = y296 from Ny296.out.symm] at hr11; replace hr11 : Kd.C k43 _ A11 y296.length y296 := (by rw [hA11]; exact hr11); rw [← hy11, ← hA11, ← hc11] at hcut11; have HR299 := Aside0.mk hr11; have HC299 := Aside0.mk (show y296.length ≤ c11 from by rw [hy11, hc11]; exact Nat.sub_le_sub_right (Nat.le_trans (by omega) hroom11) _); clear hr11 hC11 hroom11 hi011 hsz11 hc11; have KY11 := Aside0.mk hy11; have KA11 := Aside0.mk hA11; clear hy11 hA11; replace q11 := eq_true q11; obtain ⟨Ao12, co12, eo12⟩ := Kd.V_slice HO_4.out; subst eo12) | ((with_reducible refine gate_callee (f := 10) rfl ?_); refine goesL_ (some 28) rfl rfl Try.func10 (by kernel_rfl) rfl #[.slice Ao12 x4_1.length co12, .slice A11 y296.length c11] rfl am ?_; (with_reducible refine (lombardref17_Plus.calls k1 (fun k_ => (w.heap.size ≤ k_)) _ _ x4_1 _ _ y296 t300 t303 _ ?side1 ?side2 ?side3 A9.out).mono ?_); (case side1 => exact HO_4.out); (case side2 => repeat (first | exact (Kd.C_below HR299.out (gB HB)) | (with_reducible refine Kd.C_alloc ?_ _) | (with_reducible refine Kd.C_drewN ?_ _) | (with_reducible refine Kd.C_drew ?_))); (case side3 => exact HC299.out); rintro e w13 ⟨v301, rfl, ho0, hb⟩; refine ⟨_, rfl, ?_⟩; have n0_ := Aside0.mk (Kd.V_below (by (with_reducible repeat (first | apply Kd.V_alloc | apply Kd.V_drewN | apply Kd.V_drew)); exact HO_4.out) hb); have n1_ := Aside0.mk (Kd.V_lower (Kd.V_mono (ok' := fun k_ => (w.heap.size ≤ k_)) ho0 (fun k_ hk_ => Or.elim hk_ (fun hs_ => hs_) (fun hn_ => (Nat.le_trans (below_size (gB HB)) hn_)))) (below_size (gB HB))); have n2_ := Aside0.mk (below_step (gB HB) hb); clear HO_4; clear HB; have HO_4 := n0_; have HO302 := n1_; have HB := n2_; clear n0_ n1_ n2_; (try clear hb); (try clear hb2); (try clear hk); (try clear hi); (try clear ho0)))
               go_roundg k1
               case measure => have := HK1.out; omega
               case rel => exact ⟨(t300), (wrap64 (x5_1 + 1)), ac, H', ⟨by have := HK1.out; omega⟩, ⟨by (with_reducible repeat (first | apply Kd.V_alloc | apply Kd.V_drewN | apply Kd.V_drew)); exact HO302.out⟩, ⟨gB HB⟩⟩
             · rw [if_neg c10] at H
               have c10b0 : (t303 == 0) = false := beq_eq_false_iff_ne.mpr c10
               have c10b1 : (t303 != 0) = true := bne_iff_ne.mpr c10
               simp only [Option.some.injEq, Prod.mk.injEq] at H
               obtain ⟨rfl, rfl⟩ := H
               have p294 : 0 ≤ (x5_1 : Int) := od
               have q294 : x5_1 < (l0.length : Int) := od
               obtain ⟨ad294, e294, hx294_0, hx294_1⟩ := at_T43 HR0.out x5_1 p294 q294
               cases e294
               replace hx294_0 := (HB.out.cell (World.block_lt_of_cell? w _ hx294_0)).trans hx294_0
               replace hx294_1 := (HB.out.cell (World.block_lt_of_cell? w _ hx294_1)).trans hx294_1
               replace p294 := eq_true p294; replace q294 := eq_true q294
               go_wp2_with (first | ((with_reducible refine gate_callee (f := 35) rfl ?_); refine goesL_ (some 19) rfl rfl Try.func35 (by kernel_rfl) rfl #[.int .i64 ((rd_T43 l0 x5_1).f1)] rfl am ?_; (with_reducible refine (lombardref17_good.calls ((rd_T43 l0 x5_1).f1) true _ A4.out).mono ?_); rintro e w' ⟨rfl, ⟨nd, rfl⟩⟩; refine ⟨_, rfl, ?_⟩; have q14 : ((wrap64 (x5_1 + 1)) : Int) ≤ ((l0.length : Int) : Int) := od; obtain ⟨i014, hi014, _, hsz14, _⟩ := info_parts info43; have hroom14 : l0.length ≤ c0 := HC0.out; have hC14 : Kd.C k43 _ (some ad294) l0.length l0 := HR0.out; have ql14 : (x5_1 : Int) ≤ ((wrap64 (x5_1 + 1)) : Int) := od; have q014 : (0 : Int) ≤ (x5_1 : Int) := od; have hcut14 := cut_mid (P := Try.prog) 22 43 .i64 .i64 Try.underlying22 hi014 2 hsz14 (some ad294) l0.length c0 x5_1 (wrap64 (x5_1 + 1)) q014 ql14 q14 hroom14; have hr14 := Kd.C_mid (lo := (x5_1 : Int).toNat) (hi := ((wrap64 (x5_1 + 1)) : Int).toNat) (c := c0) hC14 (by omega) (by omega) hroom14; obtain ⟨A14, hA14⟩ : ∃ A1, A1 = (if c0 = (x5_1 : Int).toNat then (some ad294) else ((some ad294) : Option Addr).map (·.add ((x5_1 : Int).toNat * 2))) := ⟨_, rfl⟩; obtain ⟨c14, hc14⟩ : ∃ c1, c1 = c0 - (x5_1 : Int).toNat := ⟨_, rfl⟩; have hy14 : y296.length = ((wrap64 (x5_1 + 1)) : Int).toNat - (x5_1 : Int).toNat := (by rw [Ny296.out, List.length_drop, List.length_take] <;> omega); rw [show ((l0).take ((wrap64 (x5_1 + 1)) : Int).toNat).drop (x5_1 : Int).toNat = y296 from Ny296.out.symm] at hr14; replace hr14 : Kd.C k43 _ A14 y296.length y296 := (by rw [hA14]; exact hr14); rw [← hy14, ← hA14, ← hc14] at hcut14; have HR299 := Aside0.mk hr14; have HC299 := Aside0.mk (show y296.length ≤ c14 from by rw [hy14, hc14]; exact Nat.sub_le_sub_right (Nat.le_trans (by omega) hroom14) _); clear hr14 hC14 hroom14 hi014 hsz14 hc14; have KY14 := Aside0.mk hy14; have KA14 := Aside0.mk hA14; clear hy14 hA14; replace q14 := eq_true q14; obtain ⟨Ao15, co15, eo15⟩ := Kd.V_slice HO_4.out; subst eo15) | ((with_reducible refine gate_callee (f := 10) rfl ?_); refine goesL_ (some 28) rfl rfl Try.func10 (by kernel_rfl) rfl #[.slice Ao15 x4_1.length co15, .slice A14 y296.length c14] rfl am ?_; (with_reducible refine (lombardref17_Plus.calls k1 (fun k_ => (w.heap.size ≤ k_)) _ _ x4_1 _ _ y296 t300 t303 _ ?side1 ?side2 ?side3 A9.out).mono ?_); (case side1 => exact HO_4.out); (case side2 => repeat (first | exact (Kd.C_below HR299.out (gB HB)) | (with_reducible refine Kd.C_alloc ?_ _) | (with_reducible refine Kd.C_drewN ?_ _) | (with_reducible refine Kd.C_drew ?_))); (case side3 => exact HC299.out); rintro e w16 ⟨v301, rfl, ho0, hb⟩; refine ⟨_, rfl, ?_⟩; have n0_ := Aside0.mk (Kd.V_below (by (with_reducible repeat (first | apply Kd.V_alloc | apply Kd.V_drewN | apply Kd.V_drew)); exact HO_4.out) hb); have n1_ := Aside0.mk (Kd.V_lower (Kd.V_mono (ok' := fun k_ => (w.heap.size ≤ k_)) ho0 (fun k_ hk_ => Or.elim hk_ (fun hs_ => hs_) (fun hn_ => (Nat.le_trans (below_size (gB HB)) hn_)))) (below_size (gB HB))); have n2_ := Aside0.mk (below_step (gB HB) hb); clear HO_4; clear HB; have HO_4 := n0_; have HO302 := n1_; have HB := n2_; clear n0_ n1_ n2_; (try clear hb); (try clear hb2); (try clear hk); (try clear hi); (try clear ho0)))
               go_ret2
               exact ⟨_, by first | rfl | (simp [errW_none, errW_some] <;> rfl) | (simp [*, errW_none, errW_some] <;> rfl), Kd.V_nil _ _ _ _ _, gB HB⟩
           · rw [if_neg c8] at H
             exact absurd H (by simp)
         · rw [if_neg c7] at H
           exact absurd H (by simp)
       · replace c5 := Bool.eq_false_iff.mpr c5
         subst c5
         have H1 : (some (([] : List (S43)), 1)) = some (r1, r2) := by rw [if_neg (show ¬ (false = true) by decide)] at H; exact H
         clear H
         have H := H1
         clear H1
         simp only [Option.some.injEq, Prod.mk.injEq] at H
         obtain ⟨rfl, rfl⟩ := H
         have p294 : 0 ≤ (x5_1 : Int) := od
         have q294 : x5_1 < (l0.length : Int) := od
         obtain ⟨ad294, e294, hx294_0, hx294_1⟩ := at_T43 HR0.out x5_1 p294 q294
         cases e294
         replace hx294_0 := (HB.out.cell (World.block_lt_of_cell? w _ hx294_0)).trans hx294_0
         replace hx294_1 := (HB.out.cell (World.block_lt_of_cell? w _ hx294_1)).trans hx294_1
         replace p294 := eq_true p294; replace q294 := eq_true q294
         go_wp2_with (first | ((with_reducible refine gate_callee (f := 35) rfl ?_); refine goesL_ (some 19) rfl rfl Try.func35 (by kernel_rfl) rfl #[.int .i64 ((rd_T43 l0 x5_1).f1)] rfl am ?_; (with_reducible refine (lombardref17_good.calls ((rd_T43 l0 x5_1).f1) false _ A4.out).mono ?_); rintro e w' ⟨rfl, ⟨nd, rfl⟩⟩; refine ⟨_, rfl, ?_⟩))
         go_ret2
         exact ⟨_, by first | rfl | (simp [errW_none, errW_some] <;> rfl) | (simp [*, errW_none, errW_some] <;> rfl), Kd.V_nil _ _ _ _ _, gB HB⟩
     · rw [if_neg c3] at H
       exact absurd H (by simp)
   · rw [if_neg c2] at H
     have c2b0 : decide (x5_1 < (l0.length : Int)) = false := decide_eq_false c2
     clear c2
     simp only [Option.some.injEq, Prod.mk.injEq] at H
     obtain ⟨rfl, rfl⟩ := H
     go_wp2
     go_ret2
     exact ⟨_, by first | rfl | (simp [errW_none, errW_some] <;> rfl) | (simp [*, errW_none, errW_some] <;> rfl), by (with_reducible repeat (first | apply Kd.V_alloc | apply Kd.V_drewN | apply Kd.V_drew)); exact HO_4.out, gB HB⟩
def lombardref17_Ahead.f (a0_0 : ByteArray) (a0_1 : Int) (a0_2 : ByteArray) (a0_3 : Int) (a0_4 : Int) (a0_5 : Int) (a0_6 : ByteArray) (a0_7 : Int) (a0_8 : Int) (a1_0 : ByteArray) (a1_1 : Int) (a1_2 : ByteArray) (a1_3 : Int) (a1_4 : Int) (a1_5 : Int) (a1_6 : ByteArray) (a1_7 : Int) (a1_8 : Int) : Option (Bool) := if a0_8 = a1_8 then (if a0_5 = a1_5 then (some (Op.bytesLess a0_0.toList a1_0.toList)) else (some (decide (a0_5 < a1_5)))) else (some (decide (a0_8 < a1_8)))
set_option maxHeartbeats 8000000 in
set_option maxRecDepth 100000 in
theorem lombardref17_Ahead.calls (a0_0 : ByteArray) (a0_1 : Int) (a0_2 : ByteArray) (a0_3 : Int) (a0_4 : Int) (a0_5 : Int) (a0_6 : ByteArray) (a0_7 : Int) (a0_8 : Int) (a1_0 : ByteArray) (a1_1 : Int) (a1_2 : ByteArray) (a1_3 : Int) (a1_4 : Int) (a1_5 : Int) (a1_6 : ByteArray) (a1_7 : Int) (a1_8 : Int) (r : Bool) (w : World) (h : lombardref17_Ahead.f a0_0 a0_1 a0_2 a0_3 a0_4 a0_5 a0_6 a0_7 a0_8 a1_0 a1_1 a1_2 a1_3 a1_4 a1_5 a1_6 a1_7 a1_8 = some r) :
 Calls Try.prog 36 #[.agg #[.string a0_0, .int .i64 a0_1, .string a0_2, .int .i64 a0_3, .int .i64 a0_4, .int .i64 a0_5, .string a0_6, .int .i64 a0_7, .int .i64 a0_8], .agg #[.string a1_0, .int .i64 a1_1, .string a1_2, .int .i64 a1_3, .int .i64 a1_4, .int .i64 a1_5, .string a1_6, .int .i64 a1_7, .int .i64 a1_8]] w fun e w' => e = .returned (.bool r) ∧ Below w.heap.size w w' := by
 have hu65 := Try.underlying65
 have HB := Aside0.mk (Below.refl w.heap.size w)
 have H : (if a0_8 = a1_8 then (if a0_5 = a1_5 then (some (Op.bytesLess a0_0.toList a1_0.toList)) else (some (decide (a0_5 < a1_5)))) else (some (decide (a0_8 < a1_8)))) = some r := h
 clear h
 by_cases c3 : a0_8 = a1_8
 · rw [if_pos c3] at H
   have c3b0 : (a0_8 == a1_8) = true := beq_iff_eq.mpr c3
   have c3b1 : (a0_8 != a1_8) = false := bne_eq_false_iff_eq.mpr c3
   clear c3
   by_cases c4 : a0_5 = a1_5
   · rw [if_pos c4] at H
     have c4b0 : (a0_5 == a1_5) = true := beq_iff_eq.mpr c4
     have c4b1 : (a0_5 != a1_5) = false := bne_eq_false_iff_eq.mpr c4
     clear c4
     obtain rfl := Option.some.inj H
     go_enter Try.func36, Try.ntmps36
     go_wp2_with (first | ((with_reducible refine gate_dst (N := 2) rfl ?_); refine box_event ?hg (N := 2) ?hd (cs := #[.string a0_0, .int .i64 a0_1, .string a0_2, .int .i64 a0_3, .int .i64 a0_4, .int .i64 a0_5, .string a0_6, .int .i64 a0_7, .int .i64 a0_8]) (t := 65) ?hr ?_; (case hd => rfl); (case hg => rfl); (case hr => first | (go_simp; done) | (go_simp; rfl) | (have hcq := hcq_.out; have hfq := hfq_.out; go_simp; done)); intro gb319 hg w5 hbox hb; have n0_ := Aside0.mk (below_step (gB HB) hb); have n1_ := Aside0.mk (hbox); have n2_ := Aside0.mk ((by rw [hg]; exact (below_size (gB HB)) : w.heap.size ≤ gb319)); have n3_ := Aside0.mk ((by rw [hg]; exact (below_size (gB HB)) : w.heap.size ≤ gb319)); clear HB; have HB := n0_; have BK319 := n1_; have GW319 := n2_; have GE319 := n3_; clear n0_ n1_ n2_ n3_; clear hb hbox hg) | ((with_reducible refine gate_dst (N := 3) rfl ?_); refine box_event ?hg (N := 3) ?hd (cs := #[.string a1_0, .int .i64 a1_1, .string a1_2, .int .i64 a1_3, .int .i64 a1_4, .int .i64 a1_5, .string a1_6, .int .i64 a1_7, .int .i64 a1_8]) (t := 65) ?hr ?_; (case hd => rfl); (case hg => rfl); (case hr => first | (go_simp; done) | (go_simp; rfl) | (have hcq := hcq_.out; have hfq := hfq_.out; go_simp; done)); intro gb320 hg w6 hbox hb; have n0_ := Aside0.mk (blk_below (g := gb319) (o := .cells #[.string a0_0, .int .i64 a0_1, .string a0_2, .int .i64 a0_3, .int .i64 a0_4, .int .i64 a0_5, .string a0_6, .int .i64 a0_7, .int .i64 a0_8] 65 (0, 0)) (gK BK319) hb); have n1_ := Aside0.mk (below_step (gS HB) hb); have n2_ := Aside0.mk (hbox); have n3_ := Aside0.mk ((by rw [hg]; exact (below_size (gS HB)) : w.heap.size ≤ gb320)); have n4_ := Aside0.mk ((by rw [hg]; exact (below_size (gS HB)) : w.heap.size ≤ gb320)); have n5_ := Aside0.mk ((by rw [hg]; exact Nat.ne_of_lt (blk_lt (g := gb319) (o := .cells #[.string a0_0, .int .i64 a0_1, .string a0_2, .int .i64 a0_3, .int .i64 a0_4, .int .i64 a0_5, .string a0_6, .int .i64 a0_7, .int .i64 a0_8] 65 (0, 0)) (gK BK319)) : gb319 ≠ gb320)); have n6_ := Aside0.mk ((by rw [hg]; exact Nat.ne_of_gt (blk_lt (g := gb319) (o := .cells #[.string a0_0, .int .i64 a0_1, .string a0_2, .int .i64 a0_3, .int .i64 a0_4, .int .i64 a0_5, .string a0_6, .int .i64 a0_7, .int .i64 a0_8] 65 (0, 0)) (gK BK319)) : gb320 ≠ gb319)); clear BK319; clear HB; have BK319 := n0_; have HB := n1_; have BK320 := n2_; have GW320 := n3_; have GE320 := n4_; have NB319_320 := n5_; have NB320_319 := n6_; clear n0_ n1_ n2_ n3_ n4_ n5_ n6_; clear hb hbox hg; have hnb7 := NB319_320.out; have hnc7 := NB320_319.out; have hcz8_0 : w6.cell? ⟨gb319, 0, none⟩ = some (.string a0_0) := (blk_cell BK319.out 0).trans rfl; have hcz8_1 : w6.cell? ⟨gb319, 1, none⟩ = some (.int .i64 a0_1) := (blk_cell BK319.out 1).trans rfl; have hcz8_2 : w6.cell? ⟨gb319, 2, none⟩ = some (.string a0_2) := (blk_cell BK319.out 2).trans rfl; have hcz8_3 : w6.cell? ⟨gb319, 3, none⟩ = some (.int .i64 a0_3) := (blk_cell BK319.out 3).trans rfl; have hcz8_4 : w6.cell? ⟨gb319, 4, none⟩ = some (.int .i64 a0_4) := (blk_cell BK319.out 4).trans rfl; have hcz8_5 : w6.cell? ⟨gb319, 5, none⟩ = some (.int .i64 a0_5) := (blk_cell BK319.out 5).trans rfl; have hcz8_6 : w6.cell? ⟨gb319, 6, none⟩ = some (.string a0_6) := (blk_cell BK319.out 6).trans rfl; have hcz8_7 : w6.cell? ⟨gb319, 7, none⟩ = some (.int .i64 a0_7) := (blk_cell BK319.out 7).trans rfl; have hcz8_8 : w6.cell? ⟨gb319, 8, none⟩ = some (.int .i64 a0_8) := (blk_cell BK319.out 8).trans rfl; have hfz8_0 := blk_frozen BK319.out 0; have hfz8_1 := blk_frozen BK319.out 1; have hfz8_2 := blk_frozen BK319.out 2; have hfz8_3 := blk_frozen BK319.out 3; have hfz8_4 := blk_frozen BK319.out 4; have hfz8_5 := blk_frozen BK319.out 5; have hfz8_6 := blk_frozen BK319.out 6; have hfz8_7 := blk_frozen BK319.out 7; have hfz8_8 := blk_frozen BK319.out 8; have hcz9_0 : w6.cell? ⟨gb320, 0, none⟩ = some (.string a1_0) := (blk_cell BK320.out 0).trans rfl; have hcz9_1 : w6.cell? ⟨gb320, 1, none⟩ = some (.int .i64 a1_1) := (blk_cell BK320.out 1).trans rfl; have hcz9_2 : w6.cell? ⟨gb320, 2, none⟩ = some (.string a1_2) := (blk_cell BK320.out 2).trans rfl; have hcz9_3 : w6.cell? ⟨gb320, 3, none⟩ = some (.int .i64 a1_3) := (blk_cell BK320.out 3).trans rfl; have hcz9_4 : w6.cell? ⟨gb320, 4, none⟩ = some (.int .i64 a1_4) := (blk_cell BK320.out 4).trans rfl; have hcz9_5 : w6.cell? ⟨gb320, 5, none⟩ = some (.int .i64 a1_5) := (blk_cell BK320.out 5).trans rfl; have hcz9_6 : w6.cell? ⟨gb320, 6, none⟩ = some (.string a1_6) := (blk_cell BK320.out 6).trans rfl; have hcz9_7 : w6.cell? ⟨gb320, 7, none⟩ = some (.int .i64 a1_7) := (blk_cell BK320.out 7).trans rfl; have hcz9_8 : w6.cell? ⟨gb320, 8, none⟩ = some (.int .i64 a1_8) := (blk_cell BK320.out 8).trans rfl; have hfz9_0 := blk_frozen BK320.out 0; have hfz9_1 := blk_frozen BK320.out 1; have hfz9_2 := blk_frozen BK320.out 2; have hfz9_3 := blk_frozen BK320.out 3; have hfz9_4 := blk_frozen BK320.out 4; have hfz9_5 := blk_frozen BK320.out 5; have hfz9_6 := blk_frozen BK320.out 6; have hfz9_7 := blk_frozen BK320.out 7; have hfz9_8 := blk_frozen BK320.out 8))
     go_ret
     exact ⟨by first | rfl | (simp [errW_none, errW_some] <;> rfl) | (simp [*, errW_none, errW_some] <;> rfl), gS HB⟩
   · rw [if_neg c4] at H
     have c4b0 : (a0_5 == a1_5) = false := beq_eq_false_iff_ne.mpr c4
     have c4b1 : (a0_5 != a1_5) = true := bne_iff_ne.mpr c4
     obtain rfl := Option.some.inj H
     go_enter Try.func36, Try.ntmps36
     go_wp2_with (first | ((with_reducible refine gate_dst (N := 2) rfl ?_); refine box_event ?hg (N := 2) ?hd (cs := #[.string a0_0, .int .i64 a0_1, .string a0_2, .int .i64 a0_3, .int .i64 a0_4, .int .i64 a0_5, .string a0_6, .int .i64 a0_7, .int .i64 a0_8]) (t := 65) ?hr ?_; (case hd => rfl); (case hg => rfl); (case hr => first | (go_simp; done) | (go_simp; rfl) | (have hcq := hcq_.out; have hfq := hfq_.out; go_simp; done)); intro gb319 hg w10 hbox hb; have n0_ := Aside0.mk (below_step (gB HB) hb); have n1_ := Aside0.mk (hbox); have n2_ := Aside0.mk ((by rw [hg]; exact (below_size (gB HB)) : w.heap.size ≤ gb319)); have n3_ := Aside0.mk ((by rw [hg]; exact (below_size (gB HB)) : w.heap.size ≤ gb319)); clear HB; have HB := n0_; have BK319 := n1_; have GW319 := n2_; have GE319 := n3_; clear n0_ n1_ n2_ n3_; clear hb hbox hg) | ((with_reducible refine gate_dst (N := 3) rfl ?_); refine box_event ?hg (N := 3) ?hd (cs := #[.string a1_0, .int .i64 a1_1, .string a1_2, .int .i64 a1_3, .int .i64 a1_4, .int .i64 a1_5, .string a1_6, .int .i64 a1_7, .int .i64 a1_8]) (t := 65) ?hr ?_; (case hd => rfl); (case hg => rfl); (case hr => first | (go_simp; done) | (go_simp; rfl) | (have hcq := hcq_.out; have hfq := hfq_.out; go_simp; done)); intro gb320 hg w11 hbox hb; have n0_ := Aside0.mk (blk_below (g := gb319) (o := .cells #[.string a0_0, .int .i64 a0_1, .string a0_2, .int .i64 a0_3, .int .i64 a0_4, .int .i64 a0_5, .string a0_6, .int .i64 a0_7, .int .i64 a0_8] 65 (0, 0)) (gK BK319) hb); have n1_ := Aside0.mk (below_step (gS HB) hb); have n2_ := Aside0.mk (hbox); have n3_ := Aside0.mk ((by rw [hg]; exact (below_size (gS HB)) : w.heap.size ≤ gb320)); have n4_ := Aside0.mk ((by rw [hg]; exact (below_size (gS HB)) : w.heap.size ≤ gb320)); have n5_ := Aside0.mk ((by rw [hg]; exact Nat.ne_of_lt (blk_lt (g := gb319) (o := .cells #[.string a0_0, .int .i64 a0_1, .string a0_2, .int .i64 a0_3, .int .i64 a0_4, .int .i64 a0_5, .string a0_6, .int .i64 a0_7, .int .i64 a0_8] 65 (0, 0)) (gK BK319)) : gb319 ≠ gb320)); have n6_ := Aside0.mk ((by rw [hg]; exact Nat.ne_of_gt (blk_lt (g := gb319) (o := .cells #[.string a0_0, .int .i64 a0_1, .string a0_2, .int .i64 a0_3, .int .i64 a0_4, .int .i64 a0_5, .string a0_6, .int .i64 a0_7, .int .i64 a0_8] 65 (0, 0)) (gK BK319)) : gb320 ≠ gb319)); clear BK319; clear HB; have BK319 := n0_; have HB := n1_; have BK320 := n2_; have GW320 := n3_; have GE320 := n4_; have NB319_320 := n5_; have NB320_319 := n6_; clear n0_ n1_ n2_ n3_ n4_ n5_ n6_; clear hb hbox hg; have hnb12 := NB319_320.out; have hnc12 := NB320_319.out; have hcz13_0 : w11.cell? ⟨gb319, 0, none⟩ = some (.string a0_0) := (blk_cell BK319.out 0).trans rfl; have hcz13_1 : w11.cell? ⟨gb319, 1, none⟩ = some (.int .i64 a0_1) := (blk_cell BK319.out 1).trans rfl; have hcz13_2 : w11.cell? ⟨gb319, 2, none⟩ = some (.string a0_2) := (blk_cell BK319.out 2).trans rfl; have hcz13_3 : w11.cell? ⟨gb319, 3, none⟩ = some (.int .i64 a0_3) := (blk_cell BK319.out 3).trans rfl; have hcz13_4 : w11.cell? ⟨gb319, 4, none⟩ = some (.int .i64 a0_4) := (blk_cell BK319.out 4).trans rfl; have hcz13_5 : w11.cell? ⟨gb319, 5, none⟩ = some (.int .i64 a0_5) := (blk_cell BK319.out 5).trans rfl; have hcz13_6 : w11.cell? ⟨gb319, 6, none⟩ = some (.string a0_6) := (blk_cell BK319.out 6).trans rfl; have hcz13_7 : w11.cell? ⟨gb319, 7, none⟩ = some (.int .i64 a0_7) := (blk_cell BK319.out 7).trans rfl; have hcz13_8 : w11.cell? ⟨gb319, 8, none⟩ = some (.int .i64 a0_8) := (blk_cell BK319.out 8).trans rfl; have hfz13_0 := blk_frozen BK319.out 0; have hfz13_1 := blk_frozen BK319.out 1; have hfz13_2 := blk_frozen BK319.out 2; have hfz13_3 := blk_frozen BK319.out 3; have hfz13_4 := blk_frozen BK319.out 4; have hfz13_5 := blk_frozen BK319.out 5; have hfz13_6 := blk_frozen BK319.out 6; have hfz13_7 := blk_frozen BK319.out 7; have hfz13_8 := blk_frozen BK319.out 8; have hcz14_0 : w11.cell? ⟨gb320, 0, none⟩ = some (.string a1_0) := (blk_cell BK320.out 0).trans rfl; have hcz14_1 : w11.cell? ⟨gb320, 1, none⟩ = some (.int .i64 a1_1) := (blk_cell BK320.out 1).trans rfl; have hcz14_2 : w11.cell? ⟨gb320, 2, none⟩ = some (.string a1_2) := (blk_cell BK320.out 2).trans rfl; have hcz14_3 : w11.cell? ⟨gb320, 3, none⟩ = some (.int .i64 a1_3) := (blk_cell BK320.out 3).trans rfl; have hcz14_4 : w11.cell? ⟨gb320, 4, none⟩ = some (.int .i64 a1_4) := (blk_cell BK320.out 4).trans rfl; have hcz14_5 : w11.cell? ⟨gb320, 5, none⟩ = some (.int .i64 a1_5) := (blk_cell BK320.out 5).trans rfl; have hcz14_6 : w11.cell? ⟨gb320, 6, none⟩ = some (.string a1_6) := (blk_cell BK320.out 6).trans rfl; have hcz14_7 : w11.cell? ⟨gb320, 7, none⟩ = some (.int .i64 a1_7) := (blk_cell BK320.out 7).trans rfl; have hcz14_8 : w11.cell? ⟨gb320, 8, none⟩ = some (.int .i64 a1_8) := (blk_cell BK320.out 8).trans rfl; have hfz14_0 := blk_frozen BK320.out 0; have hfz14_1 := blk_frozen BK320.out 1; have hfz14_2 := blk_frozen BK320.out 2; have hfz14_3 := blk_frozen BK320.out 3; have hfz14_4 := blk_frozen BK320.out 4; have hfz14_5 := blk_frozen BK320.out 5; have hfz14_6 := blk_frozen BK320.out 6; have hfz14_7 := blk_frozen BK320.out 7; have hfz14_8 := blk_frozen BK320.out 8))
     go_ret
     exact ⟨by first | rfl | (simp [errW_none, errW_some] <;> rfl) | (simp [*, errW_none, errW_some] <;> rfl), gS HB⟩
 · rw [if_neg c3] at H
   have c3b0 : (a0_8 == a1_8) = false := beq_eq_false_iff_ne.mpr c3
   have c3b1 : (a0_8 != a1_8) = true := bne_iff_ne.mpr c3
   obtain rfl := Option.some.inj H
   go_enter Try.func36, Try.ntmps36
   go_wp2_with (first | ((with_reducible refine gate_dst (N := 2) rfl ?_); refine box_event ?hg (N := 2) ?hd (cs := #[.string a0_0, .int .i64 a0_1, .string a0_2, .int .i64 a0_3, .int .i64 a0_4, .int .i64 a0_5, .string a0_6, .int .i64 a0_7, .int .i64 a0_8]) (t := 65) ?hr ?_; (case hd => rfl); (case hg => rfl); (case hr => first | (go_simp; done) | (go_simp; rfl) | (have hcq := hcq_.out; have hfq := hfq_.out; go_simp; done)); intro gb319 hg w15 hbox hb; have n0_ := Aside0.mk (below_step (gB HB) hb); have n1_ := Aside0.mk (hbox); have n2_ := Aside0.mk ((by rw [hg]; exact (below_size (gB HB)) : w.heap.size ≤ gb319)); have n3_ := Aside0.mk ((by rw [hg]; exact (below_size (gB HB)) : w.heap.size ≤ gb319)); clear HB; have HB := n0_; have BK319 := n1_; have GW319 := n2_; have GE319 := n3_; clear n0_ n1_ n2_ n3_; clear hb hbox hg) | ((with_reducible refine gate_dst (N := 3) rfl ?_); refine box_event ?hg (N := 3) ?hd (cs := #[.string a1_0, .int .i64 a1_1, .string a1_2, .int .i64 a1_3, .int .i64 a1_4, .int .i64 a1_5, .string a1_6, .int .i64 a1_7, .int .i64 a1_8]) (t := 65) ?hr ?_; (case hd => rfl); (case hg => rfl); (case hr => first | (go_simp; done) | (go_simp; rfl) | (have hcq := hcq_.out; have hfq := hfq_.out; go_simp; done)); intro gb320 hg w16 hbox hb; have n0_ := Aside0.mk (blk_below (g := gb319) (o := .cells #[.string a0_0, .int .i64 a0_1, .string a0_2, .int .i64 a0_3, .int .i64 a0_4, .int .i64 a0_5, .string a0_6, .int .i64 a0_7, .int .i64 a0_8] 65 (0, 0)) (gK BK319) hb); have n1_ := Aside0.mk (below_step (gS HB) hb); have n2_ := Aside0.mk (hbox); have n3_ := Aside0.mk ((by rw [hg]; exact (below_size (gS HB)) : w.heap.size ≤ gb320)); have n4_ := Aside0.mk ((by rw [hg]; exact (below_size (gS HB)) : w.heap.size ≤ gb320)); have n5_ := Aside0.mk ((by rw [hg]; exact Nat.ne_of_lt (blk_lt (g := gb319) (o := .cells #[.string a0_0, .int .i64 a0_1, .string a0_2, .int .i64 a0_3, .int .i64 a0_4, .int .i64 a0_5, .string a0_6, .int .i64 a0_7, .int .i64 a0_8] 65 (0, 0)) (gK BK319)) : gb319 ≠ gb320)); have n6_ := Aside0.mk ((by rw [hg]; exact Nat.ne_of_gt (blk_lt (g := gb319) (o := .cells #[.string a0_0, .int .i64 a0_1, .string a0_2, .int .i64 a0_3, .int .i64 a0_4, .int .i64 a0_5, .string a0_6, .int .i64 a0_7, .int .i64 a0_8] 65 (0, 0)) (gK BK319)) : gb320 ≠ gb319)); clear BK319; clear HB; have BK319 := n0_; have HB := n1_; have BK320 := n2_; have GW320 := n3_; have GE320 := n4_; have NB319_320 := n5_; have NB320_319 := n6_; clear n0_ n1_ n2_ n3_ n4_ n5_ n6_; clear hb hbox hg; have hnb17 := NB319_320.out; have hnc17 := NB320_319.out; have hcz18_0 : w16.cell? ⟨gb319, 0, none⟩ = some (.string a0_0) := (blk_cell BK319.out 0).trans rfl; have hcz18_1 : w16.cell? ⟨gb319, 1, none⟩ = some (.int .i64 a0_1) := (blk_cell BK319.out 1).trans rfl; have hcz18_2 : w16.cell? ⟨gb319, 2, none⟩ = some (.string a0_2) := (blk_cell BK319.out 2).trans rfl; have hcz18_3 : w16.cell? ⟨gb319, 3, none⟩ = some (.int .i64 a0_3) := (blk_cell BK319.out 3).trans rfl; have hcz18_4 : w16.cell? ⟨gb319, 4, none⟩ = some (.int .i64 a0_4) := (blk_cell BK319.out 4).trans rfl; have hcz18_5 : w16.cell? ⟨gb319, 5, none⟩ = some (.int .i64 a0_5) := (blk_cell BK319.out 5).trans rfl; have hcz18_6 : w16.cell? ⟨gb319, 6, none⟩ = some (.string a0_6) := (blk_cell BK319.out 6).trans rfl; have hcz18_7 : w16.cell? ⟨gb319, 7, none⟩ = some (.int .i64 a0_7) := (blk_cell BK319.out 7).trans rfl; have hcz18_8 : w16.cell? ⟨gb319, 8, none⟩ = some (.int .i64 a0_8) := (blk_cell BK319.out 8).trans rfl; have hfz18_0 := blk_frozen BK319.out 0; have hfz18_1 := blk_frozen BK319.out 1; have hfz18_2 := blk_frozen BK319.out 2; have hfz18_3 := blk_frozen BK319.out 3; have hfz18_4 := blk_frozen BK319.out 4; have hfz18_5 := blk_frozen BK319.out 5; have hfz18_6 := blk_frozen BK319.out 6; have hfz18_7 := blk_frozen BK319.out 7; have hfz18_8 := blk_frozen BK319.out 8; have hcz19_0 : w16.cell? ⟨gb320, 0, none⟩ = some (.string a1_0) := (blk_cell BK320.out 0).trans rfl; have hcz19_1 : w16.cell? ⟨gb320, 1, none⟩ = some (.int .i64 a1_1) := (blk_cell BK320.out 1).trans rfl; have hcz19_2 : w16.cell? ⟨gb320, 2, none⟩ = some (.string a1_2) := (blk_cell BK320.out 2).trans rfl; have hcz19_3 : w16.cell? ⟨gb320, 3, none⟩ = some (.int .i64 a1_3) := (blk_cell BK320.out 3).trans rfl; have hcz19_4 : w16.cell? ⟨gb320, 4, none⟩ = some (.int .i64 a1_4) := (blk_cell BK320.out 4).trans rfl; have hcz19_5 : w16.cell? ⟨gb320, 5, none⟩ = some (.int .i64 a1_5) := (blk_cell BK320.out 5).trans rfl; have hcz19_6 : w16.cell? ⟨gb320, 6, none⟩ = some (.string a1_6) := (blk_cell BK320.out 6).trans rfl; have hcz19_7 : w16.cell? ⟨gb320, 7, none⟩ = some (.int .i64 a1_7) := (blk_cell BK320.out 7).trans rfl; have hcz19_8 : w16.cell? ⟨gb320, 8, none⟩ = some (.int .i64 a1_8) := (blk_cell BK320.out 8).trans rfl; have hfz19_0 := blk_frozen BK320.out 0; have hfz19_1 := blk_frozen BK320.out 1; have hfz19_2 := blk_frozen BK320.out 2; have hfz19_3 := blk_frozen BK320.out 3; have hfz19_4 := blk_frozen BK320.out 4; have hfz19_5 := blk_frozen BK320.out 5; have hfz19_6 := blk_frozen BK320.out 6; have hfz19_7 := blk_frozen BK320.out 7; have hfz19_8 := blk_frozen BK320.out 8))
   go_ret
   exact ⟨by first | rfl | (simp [errW_none, errW_some] <;> rfl) | (simp [*, errW_none, errW_some] <;> rfl), gS HB⟩
end Go.Proofs.Ytjjemfbpodgihaa.X
