-- a shortened text: what this claim does not name is left out (wip/xprint/prune.py of this repo)
import Derived.Test.YtjjemfbpodgihaaXMin
import Derived.Test.YtjjemfbpodgihaaX0
import Derived.Test.YtjjemfbpodgihaaX1
import Derived.Test.YtjjemfbpodgihaaX11
import Derived.Test.YtjjemfbpodgihaaX2
namespace Go.Proofs.Ytjjemfbpodgihaa.X
open Go.RowKit Go.Proofs.YtjjemfbpodgihaaW.PrintWords Go.Proofs.YtjjemfbpodgihaaW.PrintLast Go.Proofs.YtjjemfbpodgihaaW.PrintMore
attribute [local go_sem] max2_int min2_int max_two min_two max_three min_three max_four min_four
set_option linter.unusedVariables false
set_option linter.unusedSimpArgs false
attribute [local go_sem high] eqA43 eqA45
def lots_Of.l0 : Nat → List (S43) → List (S47) → Int → Int → Option ((List (S43)) × Int)
 | 0, _, _, _, _ => none
 | k + 1, x4, x7, x8, x9 => if x9 < x8 then (if 0 ≤ x9 then (if x9 < (x7.length : Int) then (if x4.length < 5864062014805 then (lots_Of.l0 k (x4 ++ [(⟨(rd_T47 x7 x9).f0.f0, (rd_T47 x7 x9).f0.f1⟩ : S43)]) x7 x8 (wrap64 (x9 + 1))) else (none)) else (none)) else (none)) else ((lots_Merge.f k x4).bind fun bt445 => (some (bt445.1, bt445.2)))
def lots_Of.f (k : Nat) (l0 : List (S47)) : Option ((List (S43)) × Int) := lots_Of.l0 k ([] : List (S43)) l0 (l0.length : Int) 0
theorem lots_Of.mono_l : ∀ k, (∀ y0 y1 y2 y3, LeO (lots_Of.l0 k y0 y1 y2 y3) (lots_Of.l0 (k + 1) y0 y1 y2 y3))
 | 0 => fun _ _ _ _ r h => by simp [lots_Of.l0] at h
 | k + 1 => by
  have ih0 := lots_Of.mono_l k
  · intro y0 y1 y2 y3
    unfold lots_Of.l0
    repeat' first
    | (with_reducible exact ih0 _ _ _ _)
    | (with_reducible exact lots_Merge.mono _ _)
    | (with_reducible exact LeO.refl _)
    | (with_reducible exact LeO.none _)
    | (with_reducible refine LeO.ite ?_ ?_)
    | (with_reducible refine LeO.bind ?_ (fun _ => ?_))
    | exact ih0 _ _ _ _
    | exact lots_Merge.mono _ _
    | exact LeO.none _
    | refine LeO.ite ?_ ?_
    | refine LeO.bind ?_ (fun _ => ?_)
theorem lots_Of.mono : ∀ a0 k, LeO (lots_Of.f k a0) (lots_Of.f (k + 1) a0) := by
 intro a0 k
 have ih0 := lots_Of.mono_l k
 unfold lots_Of.f
 repeat' first
  | (with_reducible exact ih0 _ _ _ _)
  | (with_reducible exact lots_Merge.mono _ _)
  | (with_reducible exact LeO.refl _)
  | (with_reducible exact LeO.none _)
  | (with_reducible refine LeO.ite ?_ ?_)
  | (with_reducible refine LeO.bind ?_ (fun _ => ?_))
  | exact ih0 _ _ _ _
  | exact lots_Merge.mono _ _
  | exact LeO.none _
  | refine LeO.ite ?_ ?_
  | refine LeO.bind ?_ (fun _ => ?_)
set_option maxHeartbeats 8000000 in
set_option maxRecDepth 100000 in
theorem lots_Of.calls (k : Nat) (A0 : Option Addr) (c0 : Nat) (l0 : List (S47)) (r1 : List (S43)) (r2 : Int) (w : World) (hr0 : Kd.C k47 w A0 l0.length l0) (hc0 : l0.length ≤ c0) (h : lots_Of.f k l0 = some (r1, r2)) :
 Calls Try.prog 26 #[.slice A0 l0.length c0] w fun e w' => ∃ v0_ : Value, e = .returned (.tuple #[v0_, .int .i64 r2]) ∧ Kd.R k43 43 w' w.heap.size (fun _ => True) v0_ r1 ∧ Below w.heap.size w w' := by
 have hu47 := Try.underlying47
 have hu43 := Try.underlying43
 have HR0 := Aside0.mk hr0; have HC0 := Aside0.mk hc0; clear hr0 hc0
 have HB := Aside0.mk (Below.refl w.heap.size w)
 have H : (lots_Of.l0 k ([] : List (S43)) l0 (l0.length : Int) 0) = some (r1, r2) := h
 clear h
 have H' := Aside0.mk H
 clear H
 go_enter Try.func26, Try.ntmps26
 go_wp2
 go_loopg [4, 9] k (fun kq v4 v9 w' => ∃ (x4_1 : List (S43)) (x9_1 : Int), v9 = .int .i64 x9_1 ∧ Aside0 (lots_Of.l0 kq x4_1 l0 (l0.length : Int) x9_1 = some (r1, r2)) ∧ Aside0 (kq ≤ k) ∧ Aside0 (Kd.R k43 43 w' w.heap.size (fun _ => True) v4 x4_1) ∧ Aside0 (Below w.heap.size w w'))
 case atStart => exact ⟨(([] : List (S43))), (0), ac, H', ⟨Nat.le_refl _⟩, ⟨by first | exact Kd.R_nil _ _ _ _ _ | exact Kd.N_nil _ _ _ _ _ | exact Kd.V_nil _ _ _ _ _ | exact Kd.Q_nil _ _ _ _ _ | exact Kd.S_nil _ _ _ _ _⟩, ⟨gB HB⟩⟩
 case round =>
  clear H'
  obtain ⟨x4_1, x9_1, rfl, HA, HK1, HO_4, HB⟩ := hrel
  cases gk with
  | zero => exact absurd HA.out (by simp [lots_Of.l0])
  | succ k1 =>
   have H := HA.out
   clear HA
   simp only [lots_Of.l0] at H
   by_cases c2 : x9_1 < (l0.length : Int)
   · rw [if_pos c2] at H
     have c2b0 : decide (x9_1 < (l0.length : Int)) = true := decide_eq_true c2
     clear c2
     by_cases c3 : 0 ≤ x9_1
     · rw [if_pos c3] at H
       have c3b0 : decide (0 ≤ x9_1) = true := decide_eq_true c3
       clear c3
       by_cases c4 : x9_1 < (l0.length : Int)
       · rw [if_pos c4] at H
         have c4b0 : decide (x9_1 < (l0.length : Int)) = true := decide_eq_true c4
         clear c4
         by_cases c5 : x4_1.length < 5864062014805
         · rw [if_pos c5] at H
           have LMc5 := Aside0.mk c5; clear c5
           obtain ⟨y442, hy442⟩ : ∃ y_ : List (S43), y_ = (x4_1 ++ [(⟨(rd_T47 l0 x9_1).f0.f0, (rd_T47 l0 x9_1).f0.f1⟩ : S43)]) := ⟨_, rfl⟩
           replace H : (lots_Of.l0 k1 y442 l0 (l0.length : Int) (wrap64 (x9_1 + 1))) = some (r1, r2) := by first | (rw [hy442]; with_reducible exact H) | (have H2_ := (Option.bind_some _ _).symm.trans H; rw [hy442]; with_reducible exact H2_) | (have H2_ := (Option.bind_some _ _).symm.trans H; with_reducible exact H2_) | with_reducible exact H | (rw [hy442]; exact H) | exact H
           have Ny442 := Aside0.mk hy442; clear hy442
           have H' := Aside0.mk H
           clear H
           have p440 : 0 ≤ (x9_1 : Int) := od
           have q440 : x9_1 < (l0.length : Int) := od
           obtain ⟨ad440, e440, hx440_0, hx440_1, hx440_2, hx440_3, hx440_4, hx440_5, hx440_6, hx440_7, hx440_8⟩ := at_T47 HR0.out x9_1 p440 q440
           cases e440
           replace hx440_0 := (HB.out.cell (World.block_lt_of_cell? w _ hx440_0)).trans hx440_0
           replace hx440_1 := (HB.out.cell (World.block_lt_of_cell? w _ hx440_1)).trans hx440_1
           replace hx440_2 := (HB.out.cell (World.block_lt_of_cell? w _ hx440_2)).trans hx440_2
           replace hx440_3 := (HB.out.cell (World.block_lt_of_cell? w _ hx440_3)).trans hx440_3
           replace hx440_4 := (HB.out.cell (World.block_lt_of_cell? w _ hx440_4)).trans hx440_4
           replace hx440_5 := (HB.out.cell (World.block_lt_of_cell? w _ hx440_5)).trans hx440_5
           replace hx440_6 := (HB.out.cell (World.block_lt_of_cell? w _ hx440_6)).trans hx440_6
           replace hx440_7 := (HB.out.cell (World.block_lt_of_cell? w _ hx440_7)).trans hx440_7
           replace hx440_8 := (HB.out.cell (World.block_lt_of_cell? w _ hx440_8)).trans hx440_8
           replace p440 := eq_true p440; replace q440 := eq_true q440
           go_wp2_with (first | ((with_reducible refine gate_dst (N := 6) rfl ?_); refine box_event ?hg (N := 6) ?hd (cs := #[.string (⟨#[]⟩ : ByteArray), .int .i64 0, .string (⟨#[]⟩ : ByteArray), .int .i64 0, .int .i64 0, .int .i64 0, .string (⟨#[]⟩ : ByteArray), .int .i64 0, .int .i64 0]) (t := 47) ?hr ?_; (case hd => rfl); (case hg => rfl); (case hr => first | (go_simp; done) | (go_simp; rfl) | (have hcq := hcq_.out; have hfq := hfq_.out; go_simp; done)); intro gb441 hg w6 hbox hb; have n0_ := Aside0.mk (Kd.R_below (gR HO_4) hb); have n1_ := Aside0.mk (below_step (gB HB) hb); have n2_ := Aside0.mk (hbox); have n3_ := Aside0.mk ((by rw [hg]; exact (below_size (gB HB)) : w.heap.size ≤ gb441)); have n4_ := Aside0.mk ((by rw [hg]; exact (below_size (gB HB)) : w.heap.size ≤ gb441)); clear HO_4; clear HB; have HO_4 := n0_; have HB := n1_; have BK441 := n2_; have GW441 := n3_; have GE441 := n4_; clear n0_ n1_ n2_ n3_ n4_; clear hb hbox hg; have hcz7_0 : w6.cell? ⟨gb441, 0, none⟩ = some (.string (⟨#[]⟩ : ByteArray)) := (blk_cell BK441.out 0).trans rfl; have hcz7_1 : w6.cell? ⟨gb441, 1, none⟩ = some (.int .i64 0) := (blk_cell BK441.out 1).trans rfl; have hcz7_2 : w6.cell? ⟨gb441, 2, none⟩ = some (.string (⟨#[]⟩ : ByteArray)) := (blk_cell BK441.out 2).trans rfl; have hcz7_3 : w6.cell? ⟨gb441, 3, none⟩ = some (.int .i64 0) := (blk_cell BK441.out 3).trans rfl; have hcz7_4 : w6.cell? ⟨gb441, 4, none⟩ = some (.int .i64 0) := (blk_cell BK441.out 4).trans rfl; have hcz7_5 : w6.cell? ⟨gb441, 5, none⟩ = some (.int .i64 0) := (blk_cell BK441.out 5).trans rfl; have hcz7_6 : w6.cell? ⟨gb441, 6, none⟩ = some (.string (⟨#[]⟩ : ByteArray)) := (blk_cell BK441.out 6).trans rfl; have hcz7_7 : w6.cell? ⟨gb441, 7, none⟩ = some (.int .i64 0) := (blk_cell BK441.out 7).trans rfl; have hcz7_8 : w6.cell? ⟨gb441, 8, none⟩ = some (.int .i64 0) := (blk_cell BK441.out 8).trans rfl; have hfz7_0 := blk_frozen BK441.out 0; have hfz7_1 := blk_frozen BK441.out 1; have hfz7_2 := blk_frozen BK441.out 2; have hfz7_3 := blk_frozen BK441.out 3; have hfz7_4 := blk_frozen BK441.out 4; have hfz7_5 := blk_frozen BK441.out 5; have hfz7_6 := blk_frozen BK441.out 6; have hfz7_7 := blk_frozen BK441.out 7; have hfz7_8 := blk_frozen BK441.out 8) | ((with_reducible refine gate_builtin (b := .append) (xs := #[.tmp 13, .tmp 16]) rfl ?_); at_builtin; refine Kd.R_append k43 (w0 := w) w.heap.size rfl (.tmp 13) (.tmp 16) 22 43 (.agg #[(.string ⟨#[]⟩), (.int .i64 0)]) 24 rfl Try.underlying22 info43 rfl (by decide) (by omega) u4 x4_1 (⟨(rd_T47 l0 x9_1).f0.f0, (rd_T47 l0 x9_1).f0.f1⟩ : S43) [.string ((rd_T47 l0 x9_1).f0.f0), .int .i64 ((rd_T47 l0 x9_1).f0.f1)] (fun _ => True) (fun _ => False) rfl (by first | (go_simp; done) | (go_simp; rfl)) ?aP (fun _ hk => hk.elim) ?aF ?aO ?aB ?aS ?aL ?_; (case aP => exact k43_mkM _ _ _ (⟨(rd_T47 l0 x9_1).f0.f0, (rd_T47 l0 x9_1).f0.f1⟩ : S43)); (case aB => exact (gS HB)); (case aF => exact (fun _ _ => trivial)); (case aO => exact (gR ⟨Kd.R_mono (Kd.R_far (p := ⟨gb441, 8, none⟩) (Kd.R_far (p := ⟨gb441, 7, none⟩) (Kd.R_far (p := ⟨gb441, 6, none⟩) (Kd.R_far (p := ⟨gb441, 5, none⟩) (Kd.R_far (p := ⟨gb441, 4, none⟩) (Kd.R_far (p := ⟨gb441, 3, none⟩) (Kd.R_far (p := ⟨gb441, 2, none⟩) (Kd.R_far (p := ⟨gb441, 1, none⟩) (Kd.R_far (p := ⟨gb441, 0, none⟩) (Kd.R_types HO_4.out BK441.out (by decide)) (fun _ hk => hk.2) (.string ((rd_T47 l0 x9_1).f0.f0))) (fun _ hk => hk.2) (.int .i64 ((rd_T47 l0 x9_1).f0.f1))) (fun _ hk => hk.2) (.string ((rd_T47 l0 x9_1).f1.f0))) (fun _ hk => hk.2) (.int .i64 ((rd_T47 l0 x9_1).f1.f1))) (fun _ hk => hk.2) (.int .i64 ((rd_T47 l0 x9_1).f1.f2))) (fun _ hk => hk.2) (.int .i64 ((rd_T47 l0 x9_1).f1.f3))) (fun _ hk => hk.2) (.string ((rd_T47 l0 x9_1).f1.f4))) (fun _ hk => hk.2) (.int .i64 ((rd_T47 l0 x9_1).f2))) (fun _ hk => hk.2) (.int .i64 ((rd_T47 l0 x9_1).f3))) (fun _ hk => trivial)⟩)); (case aS => exact (below_size (gS HB))); (case aL => have := LMc5.out; omega); intro v443 w8 ho hb hg hat; rw [← Ny442.out] at ho; have n0_ := Aside0.mk (blk_grown (g := gb441) (o := .cells #[.string ((rd_T47 l0 x9_1).f0.f0), .int .i64 ((rd_T47 l0 x9_1).f0.f1), .string ((rd_T47 l0 x9_1).f1.f0), .int .i64 ((rd_T47 l0 x9_1).f1.f1), .int .i64 ((rd_T47 l0 x9_1).f1.f2), .int .i64 ((rd_T47 l0 x9_1).f1.f3), .string ((rd_T47 l0 x9_1).f1.f4), .int .i64 ((rd_T47 l0 x9_1).f2), .int .i64 ((rd_T47 l0 x9_1).f3)] 47 (0, 0)) (by (with_reducible repeat (first | refine blk_drewN ?_ _ | refine blk_drew ?_ | refine blk_alloc ?_ _)); refine blk_put (cs := #[.string ((rd_T47 l0 x9_1).f0.f0), .int .i64 ((rd_T47 l0 x9_1).f0.f1), .string ((rd_T47 l0 x9_1).f1.f0), .int .i64 ((rd_T47 l0 x9_1).f1.f1), .int .i64 ((rd_T47 l0 x9_1).f1.f2), .int .i64 ((rd_T47 l0 x9_1).f1.f3), .string ((rd_T47 l0 x9_1).f1.f4), .int .i64 ((rd_T47 l0 x9_1).f2), .int .i64 0]) ?_ 8 _ rfl; (with_reducible repeat (first | refine blk_drewN ?_ _ | refine blk_drew ?_ | refine blk_alloc ?_ _)); refine blk_put (cs := #[.string ((rd_T47 l0 x9_1).f0.f0), .int .i64 ((rd_T47 l0 x9_1).f0.f1), .string ((rd_T47 l0 x9_1).f1.f0), .int .i64 ((rd_T47 l0 x9_1).f1.f1), .int .i64 ((rd_T47 l0 x9_1).f1.f2), .int .i64 ((rd_T47 l0 x9_1).f1.f3), .string ((rd_T47 l0 x9_1).f1.f4), .int .i64 0, .int .i64 0]) ?_ 7 _ rfl; (with_reducible repeat (first | refine blk_drewN ?_ _ | refine blk_drew ?_ | refine blk_alloc ?_ _)); refine blk_put (cs := #[.string ((rd_T47 l0 x9_1).f0.f0), .int .i64 ((rd_T47 l0 x9_1).f0.f1), .string ((rd_T47 l0 x9_1).f1.f0), .int .i64 ((rd_T47 l0 x9_1).f1.f1), .int .i64 ((rd_T47 l0 x9_1).f1.f2), .int .i64 ((rd_T47 l0 x9_1).f1.f3), .string (⟨#[]⟩ : ByteArray), .int .i64 0, .int .i64 0]) ?_ 6 _ rfl; (with_reducible repeat (first | refine blk_drewN ?_ _ | refine blk_drew ?_ | refine blk_alloc ?_ _)); refine blk_put (cs := #[.string ((rd_T47 l0 x9_1).f0.f0), .int .i64 ((rd_T47 l0 x9_1).f0.f1), .string ((rd_T47 l0 x9_1).f1.f0), .int .i64 ((rd_T47 l0 x9_1).f1.f1), .int .i64 ((rd_T47 l0 x9_1).f1.f2), .int .i64 0, .string (⟨#[]⟩ : ByteArray), .int .i64 0, .int .i64 0]) ?_ 5 _ rfl; (with_reducible repeat (first | refine blk_drewN ?_ _ | refine blk_drew ?_ | refine blk_alloc ?_ _)); refine blk_put (cs := #[.string ((rd_T47 l0 x9_1).f0.f0), .int .i64 ((rd_T47 l0 x9_1).f0.f1), .string ((rd_T47 l0 x9_1).f1.f0), .int .i64 ((rd_T47 l0 x9_1).f1.f1), .int .i64 0, .int .i64 0, .string (⟨#[]⟩ : ByteArray), .int .i64 0, .int .i64 0]) ?_ 4 _ rfl; (with_reducible repeat (first | refine blk_drewN ?_ _ | refine blk_drew ?_ | refine blk_alloc ?_ _)); refine blk_put (cs := #[.string ((rd_T47 l0 x9_1).f0.f0), .int .i64 ((rd_T47 l0 x9_1).f0.f1), .string ((rd_T47 l0 x9_1).f1.f0), .int .i64 0, .int .i64 0, .int .i64 0, .string (⟨#[]⟩ : ByteArray), .int .i64 0, .int .i64 0]) ?_ 3 _ rfl; (with_reducible repeat (first | refine blk_drewN ?_ _ | refine blk_drew ?_ | refine blk_alloc ?_ _)); refine blk_put (cs := #[.string ((rd_T47 l0 x9_1).f0.f0), .int .i64 ((rd_T47 l0 x9_1).f0.f1), .string (⟨#[]⟩ : ByteArray), .int .i64 0, .int .i64 0, .int .i64 0, .string (⟨#[]⟩ : ByteArray), .int .i64 0, .int .i64 0]) ?_ 2 _ rfl; (with_reducible repeat (first | refine blk_drewN ?_ _ | refine blk_drew ?_ | refine blk_alloc ?_ _)); refine blk_put (cs := #[.string ((rd_T47 l0 x9_1).f0.f0), .int .i64 0, .string (⟨#[]⟩ : ByteArray), .int .i64 0, .int .i64 0, .int .i64 0, .string (⟨#[]⟩ : ByteArray), .int .i64 0, .int .i64 0]) ?_ 1 _ rfl; (with_reducible repeat (first | refine blk_drewN ?_ _ | refine blk_drew ?_ | refine blk_alloc ?_ _)); refine blk_put (cs := #[.string (⟨#[]⟩ : ByteArray), .int .i64 0, .string (⟨#[]⟩ : ByteArray), .int .i64 0, .int .i64 0, .int .i64 0, .string (⟨#[]⟩ : ByteArray), .int .i64 0, .int .i64 0]) ?_ 0 _ rfl; (with_reducible repeat (first | refine blk_drewN ?_ _ | refine blk_drew ?_ | refine blk_alloc ?_ _)); exact BK441.out) hg (Kd.R_ne HO_4.out BK441.out (by decide))); have n1_ := Aside0.mk (hb); have n2_ := Aside0.mk (ho); clear BK441; clear HB; clear HO_4; have BK441 := n0_; have HB := n1_; have HO444 := n2_; clear n0_ n1_ n2_; clear ho hb hg hat))
           go_roundg k1
           case measure => have := HK1.out; omega
           case rel => exact ⟨(y442), (wrap64 (x9_1 + 1)), ac, H', ⟨by have := HK1.out; omega⟩, ⟨gR HO444⟩, ⟨gS HB⟩⟩
         · rw [if_neg c5] at H
           exact absurd H (by simp)
       · rw [if_neg c4] at H
         exact absurd H (by simp)
     · rw [if_neg c3] at H
       exact absurd H (by simp)
   · rw [if_neg c2] at H
     have c2b0 : decide (x9_1 < (l0.length : Int)) = false := decide_eq_false c2
     clear c2
     replace H := Option.bind_eq_some_iff.mp H
     obtain ⟨⟨t445, t446⟩, A90, H⟩ := H
     replace H : (some (t445, t446)) = some (r1, r2) := H
     have A9 := Aside0.mk A90; clear A90
     simp only [Option.some.injEq, Prod.mk.injEq] at H
     obtain ⟨rfl, rfl⟩ := H
     obtain ⟨Ao10, co10, eo10⟩ := Kd.R_slice HO_4.out
     subst eo10
     go_wp2_with (first | ((with_reducible refine gate_callee (f := 21) rfl ?_); refine goesL_ (some 20) rfl rfl Try.func21 (by kernel_rfl) rfl #[.slice Ao10 x4_1.length co10] rfl am ?_; (with_reducible refine (lots_Merge.calls k1 _ _ x4_1 t445 t446 _ ?side1 ?side2 A9.out).mono ?_); (case side1 => repeat (first | exact (Kd.R_reads' HO_4.out).2.2 | (with_reducible refine Kd.C_alloc ?_ _) | (with_reducible refine Kd.C_drewN ?_ _) | (with_reducible refine Kd.C_drew ?_))); (case side2 => exact (Kd.R_reads' HO_4.out).2.1); rintro e w11 ⟨v447, rfl, ho0, hb⟩; refine ⟨_, rfl, ?_⟩; have n0_ := Aside0.mk (Kd.R_elder' (gR HO_4) (Kd.R_base ho0) hb); have n1_ := Aside0.mk (Kd.R_lower (Kd.R_new' ho0 (Kd.R_lt (gR HO_4))) (below_size (gB HB))); have n2_ := Aside0.mk (below_step (gB HB) hb); clear HO_4; clear HB; have HO_4 := n0_; have HO448 := n1_; have HB := n2_; clear n0_ n1_ n2_; (try clear hb); (try clear hb2); (try clear hk); (try clear hi); (try clear ho0)))
     go_ret2
     exact ⟨_, by first | rfl | (simp [errW_none, errW_some] <;> rfl) | (simp [*, errW_none, errW_some] <;> rfl), gR ⟨Kd.R_mono HO448.out (fun _ hk => trivial)⟩, gB HB⟩
def lombardref17_Of.l0 : Nat → List (S65) → List (S43) → Int → Option ((List (S43)) × Int)
 | 0, _, _, _ => none
 | k + 1, x0, x4, x5 => if x5 < (x0.length : Int) then (if 0 ≤ x5 then (if x4.length < 5864062014805 then (lombardref17_Of.l0 k x0 (x4 ++ [(⟨(rd_T65 x0 x5).f0.f0, (rd_T65 x0 x5).f0.f1⟩ : S43)]) (wrap64 (x5 + 1))) else (none)) else (none)) else ((lombardref17_Merge.f k x4).bind fun bt453 => (some (bt453.1, bt453.2)))
def lombardref17_Of.f (k : Nat) (l0 : List (S65)) : Option ((List (S43)) × Int) := lombardref17_Of.l0 k l0 ([] : List (S43)) 0
theorem lombardref17_Of.mono_l : ∀ k, (∀ y0 y1 y2, LeO (lombardref17_Of.l0 k y0 y1 y2) (lombardref17_Of.l0 (k + 1) y0 y1 y2))
 | 0 => fun _ _ _ r h => by simp [lombardref17_Of.l0] at h
 | k + 1 => by
  have ih0 := lombardref17_Of.mono_l k
  · intro y0 y1 y2
    unfold lombardref17_Of.l0
    repeat' first
    | (with_reducible exact ih0 _ _ _)
    | (with_reducible exact lombardref17_Merge.mono _ _)
    | (with_reducible exact LeO.refl _)
    | (with_reducible exact LeO.none _)
    | (with_reducible refine LeO.ite ?_ ?_)
    | (with_reducible refine LeO.bind ?_ (fun _ => ?_))
    | exact ih0 _ _ _
    | exact lombardref17_Merge.mono _ _
    | exact LeO.none _
    | refine LeO.ite ?_ ?_
    | refine LeO.bind ?_ (fun _ => ?_)
theorem lombardref17_Of.mono : ∀ a0 k, LeO (lombardref17_Of.f k a0) (lombardref17_Of.f (k + 1) a0) := by
 intro a0 k
 have ih0 := lombardref17_Of.mono_l k
 unfold lombardref17_Of.f
 repeat' first
  | (with_reducible exact ih0 _ _ _)
  | (with_reducible exact lombardref17_Merge.mono _ _)
  | (with_reducible exact LeO.refl _)
  | (with_reducible exact LeO.none _)
  | (with_reducible refine LeO.ite ?_ ?_)
  | (with_reducible refine LeO.bind ?_ (fun _ => ?_))
  | exact ih0 _ _ _
  | exact lombardref17_Merge.mono _ _
  | exact LeO.none _
  | refine LeO.ite ?_ ?_
  | refine LeO.bind ?_ (fun _ => ?_)
set_option maxHeartbeats 8000000 in
set_option maxRecDepth 100000 in
theorem lombardref17_Of.calls (k : Nat) (A0 : Option Addr) (c0 : Nat) (l0 : List (S65)) (r1 : List (S43)) (r2 : Int) (w : World) (hr0 : Kd.C k65 w A0 l0.length l0) (hc0 : l0.length ≤ c0) (h : lombardref17_Of.f k l0 = some (r1, r2)) :
 Calls Try.prog 27 #[.slice A0 l0.length c0] w fun e w' => ∃ v0_ : Value, e = .returned (.tuple #[v0_, .int .i64 r2]) ∧ Kd.V k43 43 w' w.heap.size (fun k_ => (w.heap.size ≤ k_)) v0_ r1 ∧ Below w.heap.size w w' := by
 have hu43 := Try.underlying43
 have HR0 := Aside0.mk hr0; have HC0 := Aside0.mk hc0; clear hr0 hc0
 have HB := Aside0.mk (Below.refl w.heap.size w)
 have H : (lombardref17_Of.l0 k l0 ([] : List (S43)) 0) = some (r1, r2) := h
 clear h
 have H' := Aside0.mk H
 clear H
 go_enter Try.func27, Try.ntmps27
 go_wp2
 go_loopg [4, 5] k (fun kq v4 v5 w' => ∃ (x4_1 : List (S43)) (x5_1 : Int), v5 = .int .i64 x5_1 ∧ Aside0 (lombardref17_Of.l0 kq l0 x4_1 x5_1 = some (r1, r2)) ∧ Aside0 (kq ≤ k) ∧ Aside0 (Kd.R k43 43 w' w.heap.size (fun k_ => (w.heap.size ≤ k_)) v4 x4_1) ∧ Aside0 (Below w.heap.size w w'))
 case atStart => exact ⟨(([] : List (S43))), (0), ac, H', ⟨Nat.le_refl _⟩, ⟨by first | exact Kd.R_nil _ _ _ _ _ | exact Kd.N_nil _ _ _ _ _ | exact Kd.V_nil _ _ _ _ _ | exact Kd.Q_nil _ _ _ _ _ | exact Kd.S_nil _ _ _ _ _⟩, ⟨gB HB⟩⟩
 case round =>
  clear H'
  obtain ⟨x4_1, x5_1, rfl, HA, HK1, HO_4, HB⟩ := hrel
  cases gk with
  | zero => exact absurd HA.out (by simp [lombardref17_Of.l0])
  | succ k1 =>
   have H := HA.out
   clear HA
   simp only [lombardref17_Of.l0] at H
   by_cases c2 : x5_1 < (l0.length : Int)
   · rw [if_pos c2] at H
     have c2b0 : decide (x5_1 < (l0.length : Int)) = true := decide_eq_true c2
     clear c2
     by_cases c3 : 0 ≤ x5_1
     · rw [if_pos c3] at H
       have c3b0 : decide (0 ≤ x5_1) = true := decide_eq_true c3
       clear c3
       by_cases c4 : x4_1.length < 5864062014805
       · rw [if_pos c4] at H
         have LMc4 := Aside0.mk c4; clear c4
         obtain ⟨y450, hy450⟩ : ∃ y_ : List (S43), y_ = (x4_1 ++ [(⟨(rd_T65 l0 x5_1).f0.f0, (rd_T65 l0 x5_1).f0.f1⟩ : S43)]) := ⟨_, rfl⟩
         replace H : (lombardref17_Of.l0 k1 l0 y450 (wrap64 (x5_1 + 1))) = some (r1, r2) := by first | (rw [hy450]; with_reducible exact H) | (have H2_ := (Option.bind_some _ _).symm.trans H; rw [hy450]; with_reducible exact H2_) | (have H2_ := (Option.bind_some _ _).symm.trans H; with_reducible exact H2_) | with_reducible exact H | (rw [hy450]; exact H) | exact H
         have Ny450 := Aside0.mk hy450; clear hy450
         have H' := Aside0.mk H
         clear H
         have p449 : 0 ≤ (x5_1 : Int) := od
         have q449 : x5_1 < (l0.length : Int) := od
         obtain ⟨ad449, e449, hx449_0, hx449_1, hx449_2, hx449_3, hx449_4, hx449_5, hx449_6, hx449_7, hx449_8⟩ := at_T65 HR0.out x5_1 p449 q449
         cases e449
         replace hx449_0 := (HB.out.cell (World.block_lt_of_cell? w _ hx449_0)).trans hx449_0
         replace hx449_1 := (HB.out.cell (World.block_lt_of_cell? w _ hx449_1)).trans hx449_1
         replace hx449_2 := (HB.out.cell (World.block_lt_of_cell? w _ hx449_2)).trans hx449_2
         replace hx449_3 := (HB.out.cell (World.block_lt_of_cell? w _ hx449_3)).trans hx449_3
         replace hx449_4 := (HB.out.cell (World.block_lt_of_cell? w _ hx449_4)).trans hx449_4
         replace hx449_5 := (HB.out.cell (World.block_lt_of_cell? w _ hx449_5)).trans hx449_5
         replace hx449_6 := (HB.out.cell (World.block_lt_of_cell? w _ hx449_6)).trans hx449_6
         replace hx449_7 := (HB.out.cell (World.block_lt_of_cell? w _ hx449_7)).trans hx449_7
         replace hx449_8 := (HB.out.cell (World.block_lt_of_cell? w _ hx449_8)).trans hx449_8
         replace p449 := eq_true p449; replace q449 := eq_true q449
         go_wp2_with (first | ((with_reducible refine gate_builtin (b := .append) (xs := #[.tmp 12, .tmp 18]) rfl ?_); at_builtin; refine Kd.R_append k43 (w0 := w) w.heap.size rfl (.tmp 12) (.tmp 18) 22 43 (.agg #[(.string ⟨#[]⟩), (.int .i64 0)]) 24 rfl Try.underlying22 info43 rfl (by decide) (by omega) u4 x4_1 (⟨(rd_T65 l0 x5_1).f0.f0, (rd_T65 l0 x5_1).f0.f1⟩ : S43) [.string ((rd_T65 l0 x5_1).f0.f0), .int .i64 ((rd_T65 l0 x5_1).f0.f1)] (fun k_ => (w.heap.size ≤ k_)) (fun _ => False) rfl rfl ?aP (fun _ hk => hk.elim) ?aF ?aO ?aB ?aS ?aL ?_; (case aP => exact k43_mkM _ _ _ (⟨(rd_T65 l0 x5_1).f0.f0, (rd_T65 l0 x5_1).f0.f1⟩ : S43)); (case aB => exact (gB HB)); (case aF => exact (fun k_ hk => (Nat.le_trans (below_size (gB HB)) hk))); (case aO => exact (gR HO_4)); (case aS => exact (below_size (gB HB))); (case aL => have := LMc4.out; omega); intro v451 w5 ho hb hg hat; rw [← Ny450.out] at ho; have n0_ := Aside0.mk (hb); have n1_ := Aside0.mk (ho); clear HB; clear HO_4; have HB := n0_; have HO452 := n1_; clear n0_ n1_; clear ho hb hg hat))
         go_roundg k1
         case measure => have := HK1.out; omega
         case rel => exact ⟨(y450), (wrap64 (x5_1 + 1)), ac, H', ⟨by have := HK1.out; omega⟩, ⟨gR HO452⟩, ⟨gB HB⟩⟩
       · rw [if_neg c4] at H
         exact absurd H (by simp)
     · rw [if_neg c3] at H
       exact absurd H (by simp)
   · rw [if_neg c2] at H
     have c2b0 : decide (x5_1 < (l0.length : Int)) = false := decide_eq_false c2
     clear c2
     replace H := Option.bind_eq_some_iff.mp H
     obtain ⟨⟨t453, t456⟩, A60, H⟩ := H
     replace H : (some (t453, t456)) = some (r1, r2) := H
     have A6 := Aside0.mk A60; clear A60
     simp only [Option.some.injEq, Prod.mk.injEq] at H
     obtain ⟨rfl, rfl⟩ := H
     obtain ⟨Ao7, co7, eo7⟩ := Kd.R_slice HO_4.out
     subst eo7
     go_wp2_with (first | ((with_reducible refine gate_callee (f := 22) rfl ?_); refine goesL_ (some 21) rfl rfl Try.func22 (by kernel_rfl) rfl #[.slice Ao7 x4_1.length co7] rfl am ?_; (with_reducible refine (lombardref17_Merge.calls k1 _ _ x4_1 t453 t456 _ ?side1 ?side2 A6.out).mono ?_); (case side1 => repeat (first | exact (Kd.R_reads' HO_4.out).2.2 | (with_reducible refine Kd.C_alloc ?_ _) | (with_reducible refine Kd.C_drewN ?_ _) | (with_reducible refine Kd.C_drew ?_))); (case side2 => exact (Kd.R_reads' HO_4.out).2.1); rintro e w8 ⟨v454, rfl, ho0, hb⟩; refine ⟨_, rfl, ?_⟩; have n0_ := Aside0.mk (Kd.R_below (gR HO_4) hb); have n1_ := Aside0.mk (Kd.V_lower (Kd.V_mono (ok' := fun k_ => (w.heap.size ≤ k_) ∧ some k_ ≠ (.slice Ao7 x4_1.length co7 : Value).ownBlock) ho0 (fun k_ hk_ => ⟨(Nat.le_trans (below_size (gB HB)) hk_), (Kd.fresh' (Kd.R_lt (gR HO_4)) k_ hk_)⟩)) (below_size (gB HB))); have n2_ := Aside0.mk (below_step (gB HB) hb); clear HO_4; clear HB; have HO_4 := n0_; have HO455 := n1_; have HB := n2_; clear n0_ n1_ n2_; (try clear hb); (try clear hb2); (try clear hk); (try clear hi); (try clear ho0)))
     go_ret2
     exact ⟨_, by first | rfl | (simp [errW_none, errW_some] <;> rfl) | (simp [*, errW_none, errW_some] <;> rfl), by (with_reducible repeat (first | apply Kd.V_alloc | apply Kd.V_drewN | apply Kd.V_drew)); exact Kd.V_mono HO455.out (fun _ hk => hk.1), gB HB⟩
def lombardlaw17_same.l0 : Nat → List (S47) → List (S65) → Int → Option (Bool)
 | 0, _, _, _ => none
 | k + 1, x0, x1, x5 => if x5 < (x0.length : Int) then (if 0 ≤ x5 then (if x5 < (x1.length : Int) then (if (!((((rd_T47 x0 x5).f0.f0).toList) == (((rd_T65 x1 x5).f0.f0).toList)) || (!(((rd_T47 x0 x5).f0.f1) == ((rd_T65 x1 x5).f0.f1)))) = true then (some false) else (if (!((((rd_T47 x0 x5).f1.f0).toList) == (((rd_T65 x1 x5).f1.f0).toList)) || (!(((rd_T47 x0 x5).f1.f1) == ((rd_T65 x1 x5).f1.f1)) || (!(((rd_T47 x0 x5).f1.f2) == ((rd_T65 x1 x5).f1.f2)) || (!(((rd_T47 x0 x5).f1.f3) == ((rd_T65 x1 x5).f1.f3)) || (!((((rd_T47 x0 x5).f1.f4).toList) == (((rd_T65 x1 x5).f1.f4).toList))))))) = true then (some false) else (if ((rd_T47 x0 x5).f2) = ((rd_T65 x1 x5).f2) then (if ((rd_T47 x0 x5).f3) = ((rd_T65 x1 x5).f3) then (lombardlaw17_same.l0 k x0 x1 (wrap64 (x5 + 1))) else (some false)) else (some false)))) else (none)) else (none)) else (some true)
def lombardlaw17_same.f (k : Nat) (l0 : List (S47)) (l1 : List (S65)) : Option (Bool) := if (l0.length : Int) = (l1.length : Int) then (lombardlaw17_same.l0 k l0 l1 0) else (some false)
theorem lombardlaw17_same.mono_l : ∀ k, (∀ y0 y1 y2, LeO (lombardlaw17_same.l0 k y0 y1 y2) (lombardlaw17_same.l0 (k + 1) y0 y1 y2))
 | 0 => fun _ _ _ r h => by simp [lombardlaw17_same.l0] at h
 | k + 1 => by
  have ih0 := lombardlaw17_same.mono_l k
  · intro y0 y1 y2
    unfold lombardlaw17_same.l0
    repeat' first
    | (with_reducible exact ih0 _ _ _)
    | (with_reducible exact LeO.refl _)
    | (with_reducible exact LeO.none _)
    | (with_reducible refine LeO.ite ?_ ?_)
    | (with_reducible refine LeO.bind ?_ (fun _ => ?_))
    | exact ih0 _ _ _
    | exact LeO.none _
    | refine LeO.ite ?_ ?_
    | refine LeO.bind ?_ (fun _ => ?_)
theorem lombardlaw17_same.mono : ∀ a0 a1 k, LeO (lombardlaw17_same.f k a0 a1) (lombardlaw17_same.f (k + 1) a0 a1) := by
 intro a0 a1 k
 have ih0 := lombardlaw17_same.mono_l k
 unfold lombardlaw17_same.f
 repeat' first
  | (with_reducible exact ih0 _ _ _)
  | (with_reducible exact LeO.refl _)
  | (with_reducible exact LeO.none _)
  | (with_reducible refine LeO.ite ?_ ?_)
  | (with_reducible refine LeO.bind ?_ (fun _ => ?_))
  | exact ih0 _ _ _
  | exact LeO.none _
  | refine LeO.ite ?_ ?_
  | refine LeO.bind ?_ (fun _ => ?_)
set_option maxHeartbeats 8000000 in
set_option maxRecDepth 100000 in
theorem lombardlaw17_same.calls (k : Nat) (A0 : Option Addr) (c0 : Nat) (l0 : List (S47)) (A1 : Option Addr) (c1 : Nat) (l1 : List (S65)) (r : Bool) (w : World) (hr0 : Kd.C k47 w A0 l0.length l0) (hc0 : l0.length ≤ c0) (hr1 : Kd.C k65 w A1 l1.length l1) (hc1 : l1.length ≤ c1) (h : lombardlaw17_same.f k l0 l1 = some r) :
 Calls Try.prog 28 #[.slice A0 l0.length c0, .slice A1 l1.length c1] w fun e w' => e = .returned (.bool r) ∧ Drawn0 w w' := by
 have hu43 := Try.underlying43
 have hu45 := Try.underlying45
 have HR0 := Aside0.mk hr0; have HC0 := Aside0.mk hc0; clear hr0 hc0; have HR1 := Aside0.mk hr1; have HC1 := Aside0.mk hc1; clear hr1 hc1
 have H : (if (l0.length : Int) = (l1.length : Int) then (lombardlaw17_same.l0 k l0 l1 0) else (some false)) = some r := h
 clear h
 by_cases c3 : (l0.length : Int) = (l1.length : Int)
 · rw [if_pos c3] at H
   have c3b0 : ((l0.length : Int) == (l1.length : Int)) = true := beq_iff_eq.mpr c3
   have c3b1 : ((l0.length : Int) != (l1.length : Int)) = false := bne_eq_false_iff_eq.mpr c3
   have c3b2 : (l0.length == l1.length) = true := by first | simpa using c3 | (simp at c3 ⊢; omega)
   clear c3
   have H' := Aside0.mk H
   clear H
   go_enter Try.func28, Try.ntmps28
   go_wp2
   repeat (go_quiet (fail); try go_wp2)
   go_loopg [5] k (fun kq v5 w' => ∃ (x5_1 : Int), v5 = .int .i64 x5_1 ∧ Aside0 (lombardlaw17_same.l0 kq l0 l1 x5_1 = some r) ∧ Aside0 (kq ≤ k) ∧ Drawn0 w w')
   case atStart => exact ⟨(0), ac, H', ⟨Nat.le_refl _⟩, by repeat (first | exact Drawn0.refl _ | apply Drawn0.step)⟩
   case round =>
    clear H'; (try clear c1); (try clear c2); (try clear p2); (try clear c3); (try clear c3b0); (try clear c3b1); (try clear c3b2)
    obtain ⟨x5_1, rfl, HA, HK1, ⟨m1, rfl⟩⟩ := hrel
    cases gk with
    | zero => exact absurd HA.out (by simp [lombardlaw17_same.l0])
    | succ k1 =>
     have H := HA.out
     clear HA
     simp only [lombardlaw17_same.l0] at H
     by_cases c4 : x5_1 < (l0.length : Int)
     · rw [if_pos c4] at H
       have c4b0 : decide (x5_1 < (l0.length : Int)) = true := decide_eq_true c4
       clear c4
       by_cases c5 : 0 ≤ x5_1
       · rw [if_pos c5] at H
         have c5b0 : decide (0 ≤ x5_1) = true := decide_eq_true c5
         clear c5
         by_cases c6 : x5_1 < (l1.length : Int)
         · rw [if_pos c6] at H
           have c6b0 : decide (x5_1 < (l1.length : Int)) = true := decide_eq_true c6
           clear c6
           by_cases c7 : (!((((rd_T47 l0 x5_1).f0.f0).toList) == (((rd_T65 l1 x5_1).f0.f0).toList)) || (!(((rd_T47 l0 x5_1).f0.f1) == ((rd_T65 l1 x5_1).f0.f1)))) = true
           · rw [if_pos c7] at H
             have c7b0 : (!((((rd_T47 l0 x5_1).f0.f0).toList) == (((rd_T65 l1 x5_1).f0.f0).toList)) || (!(((rd_T47 l0 x5_1).f0.f1) == ((rd_T65 l1 x5_1).f0.f1)))) = true := c7
             clear c7
             obtain rfl := Option.some.inj H
             have p457 : 0 ≤ (x5_1 : Int) := od
             have q457 : x5_1 < (l0.length : Int) := od
             obtain ⟨ad457, e457, hx457_0, hx457_1, hx457_2, hx457_3, hx457_4, hx457_5, hx457_6, hx457_7, hx457_8⟩ := at_T47 HR0.out x5_1 p457 q457
             cases e457; replace p457 := eq_true p457; replace q457 := eq_true q457
             have p458 : 0 ≤ (x5_1 : Int) := od
             have q458 : x5_1 < (l1.length : Int) := od
             obtain ⟨ad458, e458, hx458_0, hx458_1, hx458_2, hx458_3, hx458_4, hx458_5, hx458_6, hx458_7, hx458_8⟩ := at_T65 HR1.out x5_1 p458 q458
             cases e458; replace p458 := eq_true p458; replace q458 := eq_true q458
             go_wp2
             repeat (go_quiet (fail); try go_wp2)
             go_ret
             exact ⟨by first | rfl | (simp; done) | (simp [*]; done), by repeat (first | exact Drawn0.refl _ | apply Drawn0.step)⟩
           · rw [if_neg c7] at H
             have c7b0 : (!((((rd_T47 l0 x5_1).f0.f0).toList) == (((rd_T65 l1 x5_1).f0.f0).toList)) || (!(((rd_T47 l0 x5_1).f0.f1) == ((rd_T65 l1 x5_1).f0.f1)))) = false := by simpa using c7
             clear c7
             by_cases c8 : (!((((rd_T47 l0 x5_1).f1.f0).toList) == (((rd_T65 l1 x5_1).f1.f0).toList)) || (!(((rd_T47 l0 x5_1).f1.f1) == ((rd_T65 l1 x5_1).f1.f1)) || (!(((rd_T47 l0 x5_1).f1.f2) == ((rd_T65 l1 x5_1).f1.f2)) || (!(((rd_T47 l0 x5_1).f1.f3) == ((rd_T65 l1 x5_1).f1.f3)) || (!((((rd_T47 l0 x5_1).f1.f4).toList) == (((rd_T65 l1 x5_1).f1.f4).toList))))))) = true
             · rw [if_pos c8] at H
               have c8b0 : (!((((rd_T47 l0 x5_1).f1.f0).toList) == (((rd_T65 l1 x5_1).f1.f0).toList)) || (!(((rd_T47 l0 x5_1).f1.f1) == ((rd_T65 l1 x5_1).f1.f1)) || (!(((rd_T47 l0 x5_1).f1.f2) == ((rd_T65 l1 x5_1).f1.f2)) || (!(((rd_T47 l0 x5_1).f1.f3) == ((rd_T65 l1 x5_1).f1.f3)) || (!((((rd_T47 l0 x5_1).f1.f4).toList) == (((rd_T65 l1 x5_1).f1.f4).toList))))))) = true := c8
               clear c8
               obtain rfl := Option.some.inj H
               have p457 : 0 ≤ (x5_1 : Int) := od
               have q457 : x5_1 < (l0.length : Int) := od
               obtain ⟨ad457, e457, hx457_0, hx457_1, hx457_2, hx457_3, hx457_4, hx457_5, hx457_6, hx457_7, hx457_8⟩ := at_T47 HR0.out x5_1 p457 q457
               cases e457; replace p457 := eq_true p457; replace q457 := eq_true q457
               have p458 : 0 ≤ (x5_1 : Int) := od
               have q458 : x5_1 < (l1.length : Int) := od
               obtain ⟨ad458, e458, hx458_0, hx458_1, hx458_2, hx458_3, hx458_4, hx458_5, hx458_6, hx458_7, hx458_8⟩ := at_T65 HR1.out x5_1 p458 q458
               cases e458; replace p458 := eq_true p458; replace q458 := eq_true q458
               have p459 : 0 ≤ (x5_1 : Int) := od
               have q459 : x5_1 < (l0.length : Int) := od
               obtain ⟨ad459, e459, hx459_0, hx459_1, hx459_2, hx459_3, hx459_4, hx459_5, hx459_6, hx459_7, hx459_8⟩ := at_T47 HR0.out x5_1 p459 q459
               obtain rfl : ad457 = ad459 := (by injection e459)
               replace p459 := eq_true p459; replace q459 := eq_true q459
               have p460 : 0 ≤ (x5_1 : Int) := od
               have q460 : x5_1 < (l1.length : Int) := od
               obtain ⟨ad460, e460, hx460_0, hx460_1, hx460_2, hx460_3, hx460_4, hx460_5, hx460_6, hx460_7, hx460_8⟩ := at_T65 HR1.out x5_1 p460 q460
               obtain rfl : ad458 = ad460 := (by injection e460)
               replace p460 := eq_true p460; replace q460 := eq_true q460
               go_wp2
               repeat (go_quiet (fail); try go_wp2)
               go_ret
               exact ⟨by first | rfl | (simp; done) | (simp [*]; done), by repeat (first | exact Drawn0.refl _ | apply Drawn0.step)⟩
             · rw [if_neg c8] at H
               have c8b0 : (!((((rd_T47 l0 x5_1).f1.f0).toList) == (((rd_T65 l1 x5_1).f1.f0).toList)) || (!(((rd_T47 l0 x5_1).f1.f1) == ((rd_T65 l1 x5_1).f1.f1)) || (!(((rd_T47 l0 x5_1).f1.f2) == ((rd_T65 l1 x5_1).f1.f2)) || (!(((rd_T47 l0 x5_1).f1.f3) == ((rd_T65 l1 x5_1).f1.f3)) || (!((((rd_T47 l0 x5_1).f1.f4).toList) == (((rd_T65 l1 x5_1).f1.f4).toList))))))) = false := by simpa using c8
               clear c8
               by_cases c9 : ((rd_T47 l0 x5_1).f2) = ((rd_T65 l1 x5_1).f2)
               · rw [if_pos c9] at H
                 have c9b0 : (((rd_T47 l0 x5_1).f2) == ((rd_T65 l1 x5_1).f2)) = true := beq_iff_eq.mpr c9
                 have c9b1 : (((rd_T47 l0 x5_1).f2) != ((rd_T65 l1 x5_1).f2)) = false := bne_eq_false_iff_eq.mpr c9
                 clear c9
                 by_cases c10 : ((rd_T47 l0 x5_1).f3) = ((rd_T65 l1 x5_1).f3)
                 · rw [if_pos c10] at H
                   have c10b0 : (((rd_T47 l0 x5_1).f3) == ((rd_T65 l1 x5_1).f3)) = true := beq_iff_eq.mpr c10
                   have c10b1 : (((rd_T47 l0 x5_1).f3) != ((rd_T65 l1 x5_1).f3)) = false := bne_eq_false_iff_eq.mpr c10
                   clear c10
                   have H' := Aside0.mk H
                   clear H
                   have p457 : 0 ≤ (x5_1 : Int) := od
                   have q457 : x5_1 < (l0.length : Int) := od
                   obtain ⟨ad457, e457, hx457_0, hx457_1, hx457_2, hx457_3, hx457_4, hx457_5, hx457_6, hx457_7, hx457_8⟩ := at_T47 HR0.out x5_1 p457 q457
                   cases e457; replace p457 := eq_true p457; replace q457 := eq_true q457
                   have p458 : 0 ≤ (x5_1 : Int) := od
                   have q458 : x5_1 < (l1.length : Int) := od
                   obtain ⟨ad458, e458, hx458_0, hx458_1, hx458_2, hx458_3, hx458_4, hx458_5, hx458_6, hx458_7, hx458_8⟩ := at_T65 HR1.out x5_1 p458 q458
                   cases e458; replace p458 := eq_true p458; replace q458 := eq_true q458
                   have p459 : 0 ≤ (x5_1 : Int) := od
                   have q459 : x5_1 < (l0.length : Int) := od
                   obtain ⟨ad459, e459, hx459_0, hx459_1, hx459_2, hx459_3, hx459_4, hx459_5, hx459_6, hx459_7, hx459_8⟩ := at_T47 HR0.out x5_1 p459 q459
                   obtain rfl : ad457 = ad459 := (by injection e459)
                   replace p459 := eq_true p459; replace q459 := eq_true q459
                   have p460 : 0 ≤ (x5_1 : Int) := od
                   have q460 : x5_1 < (l1.length : Int) := od
                   obtain ⟨ad460, e460, hx460_0, hx460_1, hx460_2, hx460_3, hx460_4, hx460_5, hx460_6, hx460_7, hx460_8⟩ := at_T65 HR1.out x5_1 p460 q460
                   obtain rfl : ad458 = ad460 := (by injection e460)
                   replace p460 := eq_true p460; replace q460 := eq_true q460
                   have p461 : 0 ≤ (x5_1 : Int) := od
                   have q461 : x5_1 < (l0.length : Int) := od
                   obtain ⟨ad461, e461, hx461_0, hx461_1, hx461_2, hx461_3, hx461_4, hx461_5, hx461_6, hx461_7, hx461_8⟩ := at_T47 HR0.out x5_1 p461 q461
                   obtain rfl : ad457 = ad461 := (by injection e461)
                   replace p461 := eq_true p461; replace q461 := eq_true q461
                   have p462 : 0 ≤ (x5_1 : Int) := od
                   have q462 : x5_1 < (l1.length : Int) := od
                   obtain ⟨ad462, e462, hx462_0, hx462_1, hx462_2, hx462_3, hx462_4, hx462_5, hx462_6, hx462_7, hx462_8⟩ := at_T65 HR1.out x5_1 p462 q462
                   obtain rfl : ad458 = ad462 := (by injection e462)
                   replace p462 := eq_true p462; replace q462 := eq_true q462
                   have p463 : 0 ≤ (x5_1 : Int) := od
                   have q463 : x5_1 < (l0.length : Int) := od
                   obtain ⟨ad463, e463, hx463_0, hx463_1, hx463_2, hx463_3, hx463_4, hx463_5, hx463_6, hx463_7, hx463_8⟩ := at_T47 HR0.out x5_1 p463 q463
                   obtain rfl : ad457 = ad463 := (by injection e463)
                   replace p463 := eq_true p463; replace q463 := eq_true q463
                   have p464 : 0 ≤ (x5_1 : Int) := od
                   have q464 : x5_1 < (l1.length : Int) := od
                   obtain ⟨ad464, e464, hx464_0, hx464_1, hx464_2, hx464_3, hx464_4, hx464_5, hx464_6, hx464_7, hx464_8⟩ := at_T65 HR1.out x5_1 p464 q464
                   obtain rfl : ad458 = ad464 := (by injection e464)
                   replace p464 := eq_true p464; replace q464 := eq_true q464
                   go_wp2
                   repeat (go_quiet (fail); try go_wp2)
                   go_roundg k1
                   case measure => have := HK1.out; omega
                   case rel => exact ⟨(wrap64 (x5_1 + 1)), ac, H', ⟨by have := HK1.out; omega⟩, by repeat (first | exact Drawn0.refl _ | apply Drawn0.step)⟩
                 · rw [if_neg c10] at H
                   have c10b0 : (((rd_T47 l0 x5_1).f3) == ((rd_T65 l1 x5_1).f3)) = false := beq_eq_false_iff_ne.mpr c10
                   have c10b1 : (((rd_T47 l0 x5_1).f3) != ((rd_T65 l1 x5_1).f3)) = true := bne_iff_ne.mpr c10
                   obtain rfl := Option.some.inj H
                   have p457 : 0 ≤ (x5_1 : Int) := od
                   have q457 : x5_1 < (l0.length : Int) := od
                   obtain ⟨ad457, e457, hx457_0, hx457_1, hx457_2, hx457_3, hx457_4, hx457_5, hx457_6, hx457_7, hx457_8⟩ := at_T47 HR0.out x5_1 p457 q457
                   cases e457; replace p457 := eq_true p457; replace q457 := eq_true q457
                   have p458 : 0 ≤ (x5_1 : Int) := od
                   have q458 : x5_1 < (l1.length : Int) := od
                   obtain ⟨ad458, e458, hx458_0, hx458_1, hx458_2, hx458_3, hx458_4, hx458_5, hx458_6, hx458_7, hx458_8⟩ := at_T65 HR1.out x5_1 p458 q458
                   cases e458; replace p458 := eq_true p458; replace q458 := eq_true q458
                   have p459 : 0 ≤ (x5_1 : Int) := od
                   have q459 : x5_1 < (l0.length : Int) := od
                   obtain ⟨ad459, e459, hx459_0, hx459_1, hx459_2, hx459_3, hx459_4, hx459_5, hx459_6, hx459_7, hx459_8⟩ := at_T47 HR0.out x5_1 p459 q459
                   obtain rfl : ad457 = ad459 := (by injection e459)
                   replace p459 := eq_true p459; replace q459 := eq_true q459
                   have p460 : 0 ≤ (x5_1 : Int) := od
                   have q460 : x5_1 < (l1.length : Int) := od
                   obtain ⟨ad460, e460, hx460_0, hx460_1, hx460_2, hx460_3, hx460_4, hx460_5, hx460_6, hx460_7, hx460_8⟩ := at_T65 HR1.out x5_1 p460 q460
                   obtain rfl : ad458 = ad460 := (by injection e460)
                   replace p460 := eq_true p460; replace q460 := eq_true q460
                   have p461 : 0 ≤ (x5_1 : Int) := od
                   have q461 : x5_1 < (l0.length : Int) := od
                   obtain ⟨ad461, e461, hx461_0, hx461_1, hx461_2, hx461_3, hx461_4, hx461_5, hx461_6, hx461_7, hx461_8⟩ := at_T47 HR0.out x5_1 p461 q461
                   obtain rfl : ad457 = ad461 := (by injection e461)
                   replace p461 := eq_true p461; replace q461 := eq_true q461
                   have p462 : 0 ≤ (x5_1 : Int) := od
                   have q462 : x5_1 < (l1.length : Int) := od
                   obtain ⟨ad462, e462, hx462_0, hx462_1, hx462_2, hx462_3, hx462_4, hx462_5, hx462_6, hx462_7, hx462_8⟩ := at_T65 HR1.out x5_1 p462 q462
                   obtain rfl : ad458 = ad462 := (by injection e462)
                   replace p462 := eq_true p462; replace q462 := eq_true q462
                   have p463 : 0 ≤ (x5_1 : Int) := od
                   have q463 : x5_1 < (l0.length : Int) := od
                   obtain ⟨ad463, e463, hx463_0, hx463_1, hx463_2, hx463_3, hx463_4, hx463_5, hx463_6, hx463_7, hx463_8⟩ := at_T47 HR0.out x5_1 p463 q463
                   obtain rfl : ad457 = ad463 := (by injection e463)
                   replace p463 := eq_true p463; replace q463 := eq_true q463
                   have p464 : 0 ≤ (x5_1 : Int) := od
                   have q464 : x5_1 < (l1.length : Int) := od
                   obtain ⟨ad464, e464, hx464_0, hx464_1, hx464_2, hx464_3, hx464_4, hx464_5, hx464_6, hx464_7, hx464_8⟩ := at_T65 HR1.out x5_1 p464 q464
                   obtain rfl : ad458 = ad464 := (by injection e464)
                   replace p464 := eq_true p464; replace q464 := eq_true q464
                   go_wp2
                   repeat (go_quiet (fail); try go_wp2)
                   go_ret
                   exact ⟨by first | rfl | (simp; done) | (simp [*]; done), by repeat (first | exact Drawn0.refl _ | apply Drawn0.step)⟩
               · rw [if_neg c9] at H
                 have c9b0 : (((rd_T47 l0 x5_1).f2) == ((rd_T65 l1 x5_1).f2)) = false := beq_eq_false_iff_ne.mpr c9
                 have c9b1 : (((rd_T47 l0 x5_1).f2) != ((rd_T65 l1 x5_1).f2)) = true := bne_iff_ne.mpr c9
                 obtain rfl := Option.some.inj H
                 have p457 : 0 ≤ (x5_1 : Int) := od
                 have q457 : x5_1 < (l0.length : Int) := od
                 obtain ⟨ad457, e457, hx457_0, hx457_1, hx457_2, hx457_3, hx457_4, hx457_5, hx457_6, hx457_7, hx457_8⟩ := at_T47 HR0.out x5_1 p457 q457
                 cases e457; replace p457 := eq_true p457; replace q457 := eq_true q457
                 have p458 : 0 ≤ (x5_1 : Int) := od
                 have q458 : x5_1 < (l1.length : Int) := od
                 obtain ⟨ad458, e458, hx458_0, hx458_1, hx458_2, hx458_3, hx458_4, hx458_5, hx458_6, hx458_7, hx458_8⟩ := at_T65 HR1.out x5_1 p458 q458
                 cases e458; replace p458 := eq_true p458; replace q458 := eq_true q458
                 have p459 : 0 ≤ (x5_1 : Int) := od
                 have q459 : x5_1 < (l0.length : Int) := od
                 obtain ⟨ad459, e459, hx459_0, hx459_1, hx459_2, hx459_3, hx459_4, hx459_5, hx459_6, hx459_7, hx459_8⟩ := at_T47 HR0.out x5_1 p459 q459
                 obtain rfl : ad457 = ad459 := (by injection e459)
                 replace p459 := eq_true p459; replace q459 := eq_true q459
                 have p460 : 0 ≤ (x5_1 : Int) := od
                 have q460 : x5_1 < (l1.length : Int) := od
                 obtain ⟨ad460, e460, hx460_0, hx460_1, hx460_2, hx460_3, hx460_4, hx460_5, hx460_6, hx460_7, hx460_8⟩ := at_T65 HR1.out x5_1 p460 q460
                 obtain rfl : ad458 = ad460 := (by injection e460)
                 replace p460 := eq_true p460; replace q460 := eq_true q460
                 have p461 : 0 ≤ (x5_1 : Int) := od
                 have q461 : x5_1 < (l0.length : Int) := od
                 obtain ⟨ad461, e461, hx461_0, hx461_1, hx461_2, hx461_3, hx461_4, hx461_5, hx461_6, hx461_7, hx461_8⟩ := at_T47 HR0.out x5_1 p461 q461
                 obtain rfl : ad457 = ad461 := (by injection e461)
                 replace p461 := eq_true p461; replace q461 := eq_true q461
                 have p462 : 0 ≤ (x5_1 : Int) := od
                 have q462 : x5_1 < (l1.length : Int) := od
                 obtain ⟨ad462, e462, hx462_0, hx462_1, hx462_2, hx462_3, hx462_4, hx462_5, hx462_6, hx462_7, hx462_8⟩ := at_T65 HR1.out x5_1 p462 q462
                 obtain rfl : ad458 = ad462 := (by injection e462)
                 replace p462 := eq_true p462; replace q462 := eq_true q462
                 go_wp2
                 repeat (go_quiet (fail); try go_wp2)
                 go_ret
                 exact ⟨by first | rfl | (simp; done) | (simp [*]; done), by repeat (first | exact Drawn0.refl _ | apply Drawn0.step)⟩
         · rw [if_neg c6] at H
           exact absurd H (by simp)
       · rw [if_neg c5] at H
         exact absurd H (by simp)
     · rw [if_neg c4] at H
       have c4b0 : decide (x5_1 < (l0.length : Int)) = false := decide_eq_false c4
       clear c4
       obtain rfl := Option.some.inj H
       go_wp2
       repeat (go_quiet (fail); try go_wp2)
       go_ret
       exact ⟨by first | rfl | (simp; done) | (simp [*]; done), by repeat (first | exact Drawn0.refl _ | apply Drawn0.step)⟩
 · rw [if_neg c3] at H
   have c3b0 : ((l0.length : Int) == (l1.length : Int)) = false := beq_eq_false_iff_ne.mpr c3
   have c3b1 : ((l0.length : Int) != (l1.length : Int)) = true := bne_iff_ne.mpr c3
   have c3b2 : (l0.length == l1.length) = false := by first | simpa using c3 | (simp at c3 ⊢; omega)
   obtain rfl := Option.some.inj H
   go_enter Try.func28, Try.ntmps28
   go_wp2
   repeat (go_quiet (fail); try go_wp2)
   go_ret
   exact ⟨by first | rfl | (simp; done) | (simp [*]; done), by repeat (first | exact Drawn0.refl _ | apply Drawn0.step)⟩
end Go.Proofs.Ytjjemfbpodgihaa.X
