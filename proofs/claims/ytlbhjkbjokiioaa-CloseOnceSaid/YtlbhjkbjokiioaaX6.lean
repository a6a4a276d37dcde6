-- a shortened text: what this claim does not name is left out (wip/xprint/prune.py of this repo)
import Derived.Test.YtlbhjkbjokiioaaXMin
import Derived.Test.YtlbhjkbjokiioaaX0
import Derived.Test.YtlbhjkbjokiioaaX3
namespace Go.Proofs.Ytlbhjkbjokiioaa.X
open Go.RowKit Go.Proofs.YtlbhjkbjokiioaaW.PrintWords Go.Proofs.YtlbhjkbjokiioaaW.PrintLast Go.Proofs.YtlbhjkbjokiioaaW.PrintMore
attribute [local go_sem] max2_int min2_int max_two min_two max_three min_three max_four min_four
set_option linter.unusedVariables false
set_option linter.unusedSimpArgs false
mutual
def close_check.l0 : Nat → List (S79) → Int → Int → Option (Int)
 | 0, _, _, _ => none
 | k + 1, x8, x9, x10 => if x10 < x9 then (if 0 ≤ x10 then (if x10 < (x8.length : Int) then (if ((rd_T79 x8 x10).f0) < 1 then (close_check.j1 k x8 x9 x10 true ((rd_T79 x8 x10).f0) ((rd_T79 x8 x10).f1) ((rd_T79 x8 x10).f2) ((rd_T79 x8 x10).f3)) else (close_check.j1 k x8 x9 x10 (decide (((rd_T79 x8 x10).f0) > 32)) ((rd_T79 x8 x10).f0) ((rd_T79 x8 x10).f1) ((rd_T79 x8 x10).f2) ((rd_T79 x8 x10).f3))) else (none)) else (none)) else (some 0)
def close_check.j1 : Nat → List (S79) → Int → Int → Bool → Int → ByteArray → Int → Int → Option (Int)
 | 0, _, _, _, _, _, _, _, _ => none
 | k + 1, x8, x9, x10, x14, x209000, x209001, x209002, x209003 => if x14 = true then (some 22) else (if x209002 < 1 then (some 1) else (if x209002 > 1125899906842624 then (some 1) else (if x209003 < 1 then (some 1) else (if x209003 > 4294967296 then (some 1) else (close_check.l0 k x8 x9 (wrap64 (x10 + 1)))))))
end
def close_check.f (k : Nat) (l0 : List (S79)) : Option (Int) := if (l0.length : Int) > 256 then (some 2) else (close_check.l0 k l0 (l0.length : Int) 0)
theorem close_check.mono_l : ∀ k, (∀ y0 y1 y2, LeO (close_check.l0 k y0 y1 y2) (close_check.l0 (k + 1) y0 y1 y2)) ∧ (∀ y0 y1 y2 y3 y4 y5 y6 y7, LeO (close_check.j1 k y0 y1 y2 y3 y4 y5 y6 y7) (close_check.j1 (k + 1) y0 y1 y2 y3 y4 y5 y6 y7))
 | 0 => ⟨fun _ _ _ r h => by simp [close_check.l0] at h, fun _ _ _ _ _ _ _ _ r h => by simp [close_check.j1] at h⟩
 | k + 1 => by
  obtain ⟨ih0, ih1⟩ := close_check.mono_l k
  refine ⟨?_, ?_⟩
  intro y0 y1 y2; unfold close_check.l0; rotate_left
  intro y0 y1 y2 y3 y4 y5 y6 y7; unfold close_check.j1; rotate_left
  all_goals repeat' first
  | (with_reducible exact ih0 _ _ _)
  | (with_reducible exact ih1 _ _ _ _ _ _ _ _)
  | (with_reducible exact LeO.refl _)
  | (with_reducible exact LeO.none _)
  | (with_reducible refine LeO.ite ?_ ?_)
  | (with_reducible refine LeO.bind ?_ (fun _ => ?_))
  | exact ih0 _ _ _
  | exact ih1 _ _ _ _ _ _ _ _
  | exact LeO.none _
  | refine LeO.ite ?_ ?_
  | refine LeO.bind ?_ (fun _ => ?_)
theorem close_check.mono : ∀ a0 k, LeO (close_check.f k a0) (close_check.f (k + 1) a0) := by
 intro a0 k
 obtain ⟨ih0, ih1⟩ := close_check.mono_l k
 unfold close_check.f
 repeat' first
  | (with_reducible exact ih0 _ _ _)
  | (with_reducible exact ih1 _ _ _ _ _ _ _ _)
  | (with_reducible exact LeO.refl _)
  | (with_reducible exact LeO.none _)
  | (with_reducible refine LeO.ite ?_ ?_)
  | (with_reducible refine LeO.bind ?_ (fun _ => ?_))
  | exact ih0 _ _ _
  | exact ih1 _ _ _ _ _ _ _ _
  | exact LeO.none _
  | refine LeO.ite ?_ ?_
  | refine LeO.bind ?_ (fun _ => ?_)
set_option maxHeartbeats 8000000 in
set_option maxRecDepth 100000 in
theorem close_check.calls (k : Nat) (A0 : Option Addr) (c0 : Nat) (l0 : List (S79)) (r : Int) (w : World) (hr0 : Kd.C k79 w A0 l0.length l0) (hc0 : l0.length ≤ c0) (h : close_check.f k l0 = some r) :
 Calls Try.prog 30 #[.slice A0 l0.length c0] w fun e w' => e = .returned (.int .i64 r) ∧ Below w.heap.size w w' := by
 have hu79 := Try.underlying79
 have HR0 := Aside0.mk hr0; have HC0 := Aside0.mk hc0; clear hr0 hc0
 have HB := aK (Below.refl w.heap.size w)
 have H : (if (l0.length : Int) > 256 then (some 2) else (close_check.l0 k l0 (l0.length : Int) 0)) = some r := h
 clear h
 by_cases c2 : (l0.length : Int) > 256
 · rw [if_pos c2] at H
   have c2b0 : decide (256 < (l0.length : Int)) = true := decide_eq_true c2
   have c2b1 : decide (256 < l0.length) = true := decide_eq_true (by omega)
   clear c2
   obtain rfl := Option.some.inj H
   go_enter Try.func30, Try.ntmps30
   go_wp2
   go_ret
   exact ⟨by first | rfl | (simp [errW_none, errW_some] <;> rfl) | (simp [*, errW_none, errW_some] <;> rfl), gB HB⟩
 · rw [if_neg c2] at H
   have c2b0 : decide (256 < (l0.length : Int)) = false := decide_eq_false c2
   have c2b1 : decide (256 < l0.length) = false := decide_eq_false (by omega)
   clear c2
   have H' := Aside0.mk H
   clear H
   go_enter Try.func30, Try.ntmps30
   go_wp2
   go_loopg [10] k (fun kq v10 w' => ∃ (x10_1 : Int), v10 = .int .i64 x10_1 ∧ Aside0 (close_check.l0 kq l0 (l0.length : Int) x10_1 = some r) ∧ Aside0 (kq ≤ k) ∧ Aside0 (Below w.heap.size w w'))
   case atStart => exact ⟨(0), ac, H', ⟨Nat.le_refl _⟩, ⟨gB HB⟩⟩
   case round =>
    clear H'; (try clear c2); (try clear c2b0); (try clear c2b1)
    obtain ⟨x10_1, rfl, HA, HK1, HB⟩ := hrel
    cases gk with
    | zero => exact absurd HA.out (by simp [close_check.l0])
    | succ k1 =>
     have H := HA.out
     clear HA
     simp only [close_check.l0] at H
     by_cases c3 : x10_1 < (l0.length : Int)
     · rw [if_pos c3] at H
       have c3b0 := dT c3
       clear c3
       by_cases c4 : 0 ≤ x10_1
       · rw [if_pos c4] at H
         have c4b0 := dT c4
         clear c4
         by_cases c5 : x10_1 < (l0.length : Int)
         · rw [if_pos c5] at H
           have c5b0 := dT c5
           clear c5; have HC6 := Aside0.mk H; clear H
           obtain ⟨⟨p207, q207⟩, ad207, rfl, hx207_0, hx207_1, hx207_2, hx207_3⟩ := za (at_T79 HR0.out) x10_1
           replace hx207_0 := gc HB hx207_0
           replace hx207_1 := gc HB hx207_1
           replace hx207_2 := gc HB hx207_2
           replace hx207_3 := gc HB hx207_3
           go_upto_region 6 with (first | ((with_reducible refine gate_dst (N := 4) rfl ?_); refine box_event ?hg (N := 4) ?hd (cs := #[.int .i64 0, .string (⟨#[]⟩ : ByteArray), .int .i64 0, .int .i64 0]) (t := 79) ?hr ?_; (case hd => rfl); (case hg => rfl); (case hr => first | (go_simp; done) | (go_simp; rfl) | (have hcq := hcq_.out; have hfq := hfq_.out; go_simp; done)); intro gb208 hg w7 hbox hb; have BK208 := aK (hbox); have GW208 := aK ((by rw [hg]; exact (below_size (gB HB)) : w.heap.size ≤ gb208)); have GE208 := aK ((by rw [hg]; exact (below_size (gB HB)) : w.heap.size ≤ gb208)); replace HB := aK (below_step (gB HB) hb); clear hb hbox hg; have hcz8_0 : w7.cell? ⟨gb208, 0, none⟩ = some (.int .i64 0) := (blk_cell BK208.out 0).trans rfl; have hcz8_1 : w7.cell? ⟨gb208, 1, none⟩ = some (.string (⟨#[]⟩ : ByteArray)) := (blk_cell BK208.out 1).trans rfl; have hcz8_2 : w7.cell? ⟨gb208, 2, none⟩ = some (.int .i64 0) := (blk_cell BK208.out 2).trans rfl; have hcz8_3 : w7.cell? ⟨gb208, 3, none⟩ = some (.int .i64 0) := (blk_cell BK208.out 3).trans rfl; have hfz8_0 := blk_frozen BK208.out 0; have hfz8_1 := blk_frozen BK208.out 1; have hfz8_2 := blk_frozen BK208.out 2; have hfz8_3 := blk_frozen BK208.out 3))
           (try simp only [Act.put, sA, sB, sC])
           go_cut [14] (fun v14 wc => ∃ (kq : Nat) (x14_5 : Bool), v14 = .bool x14_5 ∧ Aside0 (close_check.j1 kq l0 (l0.length : Int) x10_1 x14_5 ((rd_T79 l0 x10_1).f0) ((rd_T79 l0 x10_1).f1) ((rd_T79 l0 x10_1).f2) ((rd_T79 l0 x10_1).f3) = some r) ∧ Aside0 (kq ≤ k1) ∧ Aside0 (wc.heap[gb208]? = some (.cells #[.int .i64 ((rd_T79 l0 x10_1).f0), .string ((rd_T79 l0 x10_1).f1), .int .i64 ((rd_T79 l0 x10_1).f2), .int .i64 ((rd_T79 l0 x10_1).f3)] 79 (0, 0))) ∧ Aside0 (Below w.heap.size w wc))
           case first =>
            have H := HC6.out
            clear HC6
            by_cases c9 : ((rd_T79 l0 x10_1).f0) < 1
            · rw [if_pos c9] at H
              have c9b0 := dT c9
              clear c9
              (first | rw [c9b0] | (simp only [i64_w, i32_w]; rw [c9b0]) | skip)
              have H' := Aside0.mk H
              clear H
              have hcz10_0 : w7.cell? ⟨gb208, 0, none⟩ = some (.int .i64 0) := (blk_cell BK208.out 0).trans rfl
              have hcz10_1 : w7.cell? ⟨gb208, 1, none⟩ = some (.string (⟨#[]⟩ : ByteArray)) := (blk_cell BK208.out 1).trans rfl
              have hcz10_2 : w7.cell? ⟨gb208, 2, none⟩ = some (.int .i64 0) := (blk_cell BK208.out 2).trans rfl
              have hcz10_3 : w7.cell? ⟨gb208, 3, none⟩ = some (.int .i64 0) := (blk_cell BK208.out 3).trans rfl
              have hfz10_0 := blk_frozen BK208.out 0
              have hfz10_1 := blk_frozen BK208.out 1
              have hfz10_2 := blk_frozen BK208.out 2
              have hfz10_3 := blk_frozen BK208.out 3
              go_wp2
              go_meet
              case rel => exact ⟨_, (true), ac, H', ⟨by have := HK1.out; first | omega | exact Nat.le_refl _⟩, ⟨by (with_reducible repeat (first | refine blk_drewN ?_ _ | refine blk_drew ?_ | refine blk_alloc ?_ _)); refine blk_put (cs := #[.int .i64 ((rd_T79 l0 x10_1).f0), .string ((rd_T79 l0 x10_1).f1), .int .i64 ((rd_T79 l0 x10_1).f2), .int .i64 0]) ?_ 3 _ rfl; (with_reducible repeat (first | refine blk_drewN ?_ _ | refine blk_drew ?_ | refine blk_alloc ?_ _)); refine blk_put (cs := #[.int .i64 ((rd_T79 l0 x10_1).f0), .string ((rd_T79 l0 x10_1).f1), .int .i64 0, .int .i64 0]) ?_ 2 _ rfl; (with_reducible repeat (first | refine blk_drewN ?_ _ | refine blk_drew ?_ | refine blk_alloc ?_ _)); refine blk_put (cs := #[.int .i64 ((rd_T79 l0 x10_1).f0), .string (⟨#[]⟩ : ByteArray), .int .i64 0, .int .i64 0]) ?_ 1 _ rfl; (with_reducible repeat (first | refine blk_drewN ?_ _ | refine blk_drew ?_ | refine blk_alloc ?_ _)); refine blk_put (cs := #[.int .i64 0, .string (⟨#[]⟩ : ByteArray), .int .i64 0, .int .i64 0]) ?_ 0 _ rfl; (with_reducible repeat (first | refine blk_drewN ?_ _ | refine blk_drew ?_ | refine blk_alloc ?_ _)); exact BK208.out⟩, ⟨gS HB⟩⟩
            · rw [if_neg c9] at H
              have c9b0 := dF c9
              clear c9
              (first | rw [c9b0] | (simp only [i64_w, i32_w]; rw [c9b0]) | skip)
              have H' := Aside0.mk H
              clear H
              have hcz11_0 : w7.cell? ⟨gb208, 0, none⟩ = some (.int .i64 0) := (blk_cell BK208.out 0).trans rfl
              have hcz11_1 : w7.cell? ⟨gb208, 1, none⟩ = some (.string (⟨#[]⟩ : ByteArray)) := (blk_cell BK208.out 1).trans rfl
              have hcz11_2 : w7.cell? ⟨gb208, 2, none⟩ = some (.int .i64 0) := (blk_cell BK208.out 2).trans rfl
              have hcz11_3 : w7.cell? ⟨gb208, 3, none⟩ = some (.int .i64 0) := (blk_cell BK208.out 3).trans rfl
              have hfz11_0 := blk_frozen BK208.out 0
              have hfz11_1 := blk_frozen BK208.out 1
              have hfz11_2 := blk_frozen BK208.out 2
              have hfz11_3 := blk_frozen BK208.out 3
              go_wp2
              go_meet
              case rel => exact ⟨_, (decide (((rd_T79 l0 x10_1).f0) > 32)), ac, H', ⟨by have := HK1.out; first | omega | exact Nat.le_refl _⟩, ⟨by (with_reducible repeat (first | refine blk_drewN ?_ _ | refine blk_drew ?_ | refine blk_alloc ?_ _)); refine blk_put (cs := #[.int .i64 ((rd_T79 l0 x10_1).f0), .string ((rd_T79 l0 x10_1).f1), .int .i64 ((rd_T79 l0 x10_1).f2), .int .i64 0]) ?_ 3 _ rfl; (with_reducible repeat (first | refine blk_drewN ?_ _ | refine blk_drew ?_ | refine blk_alloc ?_ _)); refine blk_put (cs := #[.int .i64 ((rd_T79 l0 x10_1).f0), .string ((rd_T79 l0 x10_1).f1), .int .i64 0, .int .i64 0]) ?_ 2 _ rfl; (with_reducible repeat (first | refine blk_drewN ?_ _ | refine blk_drew ?_ | refine blk_alloc ?_ _)); refine blk_put (cs := #[.int .i64 ((rd_T79 l0 x10_1).f0), .string (⟨#[]⟩ : ByteArray), .int .i64 0, .int .i64 0]) ?_ 1 _ rfl; (with_reducible repeat (first | refine blk_drewN ?_ _ | refine blk_drew ?_ | refine blk_alloc ?_ _)); refine blk_put (cs := #[.int .i64 0, .string (⟨#[]⟩ : ByteArray), .int .i64 0, .int .i64 0]) ?_ 0 _ rfl; (with_reducible repeat (first | refine blk_drewN ?_ _ | refine blk_drew ?_ | refine blk_alloc ?_ _)); exact BK208.out⟩, ⟨gS HB⟩⟩
           case rest =>
            clear HC6; (try clear c2); (try clear c2b0); (try clear c2b1); (try clear c3); (try clear c3b0); (try clear c4); (try clear c4b0); (try clear c5); (try clear c5b0); (try clear hcz8_0); (try clear hcz8_1); (try clear hcz8_2); (try clear hcz8_3); (try clear hfz8_0); (try clear hfz8_1); (try clear hfz8_2); (try clear hfz8_3); (try clear hx207_0); (try clear hx207_1); (try clear hx207_2); (try clear hx207_3); (try clear p207); (try clear q207)
            obtain ⟨kq, x14_5, rfl, HA, HJ5, BK208, HB⟩ := hcut
            cases kq with
            | zero => exact absurd HA.out (by simp [close_check.j1])
            | succ kj5 =>
             have H := HA.out
             clear HA
             simp only [close_check.j1] at H
             by_cases c12 : x14_5 = true
             · subst c12
               replace H : (some 22) = some r := by rw [if_pos rfl] at H; exact H
               obtain rfl := Option.some.inj H
               go_wp2
               go_ret
               exact ⟨by first | rfl | (simp [errW_none, errW_some] <;> rfl) | (simp [*, errW_none, errW_some] <;> rfl), gS HB⟩
             · replace c12 := Bool.eq_false_iff.mpr c12
               subst c12
               replace H : (if ((rd_T79 l0 x10_1).f2) < 1 then (some 1) else (if ((rd_T79 l0 x10_1).f2) > 1125899906842624 then (some 1) else (if ((rd_T79 l0 x10_1).f3) < 1 then (some 1) else (if ((rd_T79 l0 x10_1).f3) > 4294967296 then (some 1) else (close_check.l0 kj5 l0 (l0.length : Int) (wrap64 (x10_1 + 1))))))) = some r := by rw [if_neg (show ¬ (false = true) by decide)] at H; exact H
               by_cases c13 : ((rd_T79 l0 x10_1).f2) < 1
               · rw [if_pos c13] at H
                 have c13b0 := dT c13
                 clear c13
                 obtain rfl := Option.some.inj H
                 have hcz14_0 : wc.cell? ⟨gb208, 0, none⟩ = some (.int .i64 ((rd_T79 l0 x10_1).f0)) := (blk_cell BK208.out 0).trans rfl
                 have hcz14_1 : wc.cell? ⟨gb208, 1, none⟩ = some (.string ((rd_T79 l0 x10_1).f1)) := (blk_cell BK208.out 1).trans rfl
                 have hcz14_2 : wc.cell? ⟨gb208, 2, none⟩ = some (.int .i64 ((rd_T79 l0 x10_1).f2)) := (blk_cell BK208.out 2).trans rfl
                 have hcz14_3 : wc.cell? ⟨gb208, 3, none⟩ = some (.int .i64 ((rd_T79 l0 x10_1).f3)) := (blk_cell BK208.out 3).trans rfl
                 have hfz14_0 := blk_frozen BK208.out 0
                 have hfz14_1 := blk_frozen BK208.out 1
                 have hfz14_2 := blk_frozen BK208.out 2
                 have hfz14_3 := blk_frozen BK208.out 3
                 go_wp2
                 go_ret
                 exact ⟨by first | rfl | (simp [errW_none, errW_some] <;> rfl) | (simp [*, errW_none, errW_some] <;> rfl), gS HB⟩
               · rw [if_neg c13] at H
                 have c13b0 := dF c13
                 clear c13
                 by_cases c15 : ((rd_T79 l0 x10_1).f2) > 1125899906842624
                 · rw [if_pos c15] at H
                   have c15b0 : decide (1125899906842624 < ((rd_T79 l0 x10_1).f2)) = true := decide_eq_true c15
                   clear c15
                   obtain rfl := Option.some.inj H
                   have hcz16_0 : wc.cell? ⟨gb208, 0, none⟩ = some (.int .i64 ((rd_T79 l0 x10_1).f0)) := (blk_cell BK208.out 0).trans rfl
                   have hcz16_1 : wc.cell? ⟨gb208, 1, none⟩ = some (.string ((rd_T79 l0 x10_1).f1)) := (blk_cell BK208.out 1).trans rfl
                   have hcz16_2 : wc.cell? ⟨gb208, 2, none⟩ = some (.int .i64 ((rd_T79 l0 x10_1).f2)) := (blk_cell BK208.out 2).trans rfl
                   have hcz16_3 : wc.cell? ⟨gb208, 3, none⟩ = some (.int .i64 ((rd_T79 l0 x10_1).f3)) := (blk_cell BK208.out 3).trans rfl
                   have hfz16_0 := blk_frozen BK208.out 0
                   have hfz16_1 := blk_frozen BK208.out 1
                   have hfz16_2 := blk_frozen BK208.out 2
                   have hfz16_3 := blk_frozen BK208.out 3
                   go_wp2
                   go_ret
                   exact ⟨by first | rfl | (simp [errW_none, errW_some] <;> rfl) | (simp [*, errW_none, errW_some] <;> rfl), gS HB⟩
                 · rw [if_neg c15] at H
                   have c15b0 : decide (1125899906842624 < ((rd_T79 l0 x10_1).f2)) = false := decide_eq_false c15
                   clear c15
                   by_cases c17 : ((rd_T79 l0 x10_1).f3) < 1
                   · rw [if_pos c17] at H
                     have c17b0 := dT c17
                     clear c17
                     obtain rfl := Option.some.inj H
                     have hcz18_0 : wc.cell? ⟨gb208, 0, none⟩ = some (.int .i64 ((rd_T79 l0 x10_1).f0)) := (blk_cell BK208.out 0).trans rfl
                     have hcz18_1 : wc.cell? ⟨gb208, 1, none⟩ = some (.string ((rd_T79 l0 x10_1).f1)) := (blk_cell BK208.out 1).trans rfl
                     have hcz18_2 : wc.cell? ⟨gb208, 2, none⟩ = some (.int .i64 ((rd_T79 l0 x10_1).f2)) := (blk_cell BK208.out 2).trans rfl
                     have hcz18_3 : wc.cell? ⟨gb208, 3, none⟩ = some (.int .i64 ((rd_T79 l0 x10_1).f3)) := (blk_cell BK208.out 3).trans rfl
                     have hfz18_0 := blk_frozen BK208.out 0
                     have hfz18_1 := blk_frozen BK208.out 1
                     have hfz18_2 := blk_frozen BK208.out 2
                     have hfz18_3 := blk_frozen BK208.out 3
                     go_wp2
                     go_ret
                     exact ⟨by first | rfl | (simp [errW_none, errW_some] <;> rfl) | (simp [*, errW_none, errW_some] <;> rfl), gS HB⟩
                   · rw [if_neg c17] at H
                     have c17b0 := dF c17
                     clear c17
                     by_cases c19 : ((rd_T79 l0 x10_1).f3) > 4294967296
                     · rw [if_pos c19] at H
                       have c19b0 : decide (4294967296 < ((rd_T79 l0 x10_1).f3)) = true := decide_eq_true c19
                       clear c19
                       obtain rfl := Option.some.inj H
                       have hcz20_0 : wc.cell? ⟨gb208, 0, none⟩ = some (.int .i64 ((rd_T79 l0 x10_1).f0)) := (blk_cell BK208.out 0).trans rfl
                       have hcz20_1 : wc.cell? ⟨gb208, 1, none⟩ = some (.string ((rd_T79 l0 x10_1).f1)) := (blk_cell BK208.out 1).trans rfl
                       have hcz20_2 : wc.cell? ⟨gb208, 2, none⟩ = some (.int .i64 ((rd_T79 l0 x10_1).f2)) := (blk_cell BK208.out 2).trans rfl
                       have hcz20_3 : wc.cell? ⟨gb208, 3, none⟩ = some (.int .i64 ((rd_T79 l0 x10_1).f3)) := (blk_cell BK208.out 3).trans rfl
                       have hfz20_0 := blk_frozen BK208.out 0
                       have hfz20_1 := blk_frozen BK208.out 1
                       have hfz20_2 := blk_frozen BK208.out 2
                       have hfz20_3 := blk_frozen BK208.out 3
                       go_wp2
                       go_ret
                       exact ⟨by first | rfl | (simp [errW_none, errW_some] <;> rfl) | (simp [*, errW_none, errW_some] <;> rfl), gS HB⟩
                     · rw [if_neg c19] at H
                       have c19b0 : decide (4294967296 < ((rd_T79 l0 x10_1).f3)) = false := decide_eq_false c19
                       clear c19
                       have H' := Aside0.mk H
                       clear H
                       have hcz21_0 : wc.cell? ⟨gb208, 0, none⟩ = some (.int .i64 ((rd_T79 l0 x10_1).f0)) := (blk_cell BK208.out 0).trans rfl
                       have hcz21_1 : wc.cell? ⟨gb208, 1, none⟩ = some (.string ((rd_T79 l0 x10_1).f1)) := (blk_cell BK208.out 1).trans rfl
                       have hcz21_2 : wc.cell? ⟨gb208, 2, none⟩ = some (.int .i64 ((rd_T79 l0 x10_1).f2)) := (blk_cell BK208.out 2).trans rfl
                       have hcz21_3 : wc.cell? ⟨gb208, 3, none⟩ = some (.int .i64 ((rd_T79 l0 x10_1).f3)) := (blk_cell BK208.out 3).trans rfl
                       have hfz21_0 := blk_frozen BK208.out 0
                       have hfz21_1 := blk_frozen BK208.out 1
                       have hfz21_2 := blk_frozen BK208.out 2
                       have hfz21_3 := blk_frozen BK208.out 3
                       go_wp2
                       go_roundg kj5
                       case measure => have := HK1.out; have := HJ5.out; omega
                       case rel => exact ⟨(wrap64 (x10_1 + 1)), ac, H', ⟨by have := HK1.out; have := HJ5.out; omega⟩, ⟨gS HB⟩⟩
         · rw [if_neg c5] at H
           exact absurd H (by simp)
       · rw [if_neg c4] at H
         exact absurd H (by simp)
     · rw [if_neg c3] at H
       have c3b0 := dF c3
       clear c3
       obtain rfl := Option.some.inj H
       go_wp2
       go_ret
       exact ⟨by first | rfl | (simp [errW_none, errW_some] <;> rfl) | (simp [*, errW_none, errW_some] <;> rfl), gB HB⟩
def q22q.f (l0 : List (S79)) : Option ((List (S79))) := (some (([] : List (S79)) : List (S79))).bind fun y209 => (if y209.length + l0.length < 3518437208883 then (some (y209 ++ l0)) else (none))
theorem q22q.eqnil (a : Option Addr) (n c : Nat) (w : World) : (binOp .eql 50 (.slice a n c) (.slice none 0 0)).run Try.prog w = .ok (.bool a.isNone) w := Lib.run_eql_slice_nil w 50 79 a n c 0 0 Try.underlying50
attribute [local go_sem] q22q.eqnil
set_option maxHeartbeats 8000000 in
set_option maxRecDepth 100000 in
theorem q22q.calls (A0 : Option Addr) (c0 : Nat) (l0 : List (S79)) (r : List (S79)) (w : World) (hr0 : Kd.C k79 w A0 l0.length l0) (hc0 : l0.length ≤ c0) (h : q22q.f l0 = some r) :
 Calls Try.prog 31 #[.slice A0 l0.length c0] w fun e w' => ∃ v0_ : Value, e = .returned (v0_) ∧ Kd.R k79 79 w' w.heap.size (fun _ => True) v0_ r ∧ Below w.heap.size w w' := by
 cases A0 with
 | none =>
  have hl : l0 = [] := by
   cases l0 with
   | nil => rfl
   | cons x xs => exact absurd hr0 (by intro h_; obtain ⟨ad_, cs_, e_, _⟩ := Kd.C_get h_ x 0 (by omega) (by simp); cases e_)
  subst hl
  have hz : r = [] := by simpa [q22q.f] using h.symm
  subst hz
  go_enter Try.func31, Try.ntmps31
  go_wp2
  go_ret
  exact ⟨_, rfl, Kd.R_nil _ _ _ _ _, Below.refl _ _⟩
 | some ad_ =>
  have HR0 := Aside0.mk hr0; have HC0 := Aside0.mk hc0; clear hr0 hc0
  have HB := aK (Below.refl w.heap.size w)
  have H : ((some (([] : List (S79)) : List (S79))).bind fun y209 => (if y209.length + l0.length < 3518437208883 then (some (y209 ++ l0)) else (none))) = some r := h
  clear h
  obtain ⟨y209, hy_⟩ : ∃ y_ : List (S79), y_ = (([] : List (S79))) := ⟨_, rfl⟩
  replace H : (if y209.length + l0.length < 3518437208883 then (some (y209 ++ l0)) else (none)) = some r := h2
  have Ny209 := Aside0.mk hy_; clear hy_
  by_cases c2 : y209.length + l0.length < 3518437208883
  · rw [if_pos c2] at H
    have LMc2 := Aside0.mk c2; clear c2
    obtain ⟨y212, hy_⟩ : ∃ y_ : List (S79), y_ = (y209 ++ l0) := ⟨_, rfl⟩
    replace H : (some y212) = some r := h2
    have Ny212 := Aside0.mk hy_; clear hy_
    obtain rfl := Option.some.inj H
    go_enter Try.func31, Try.ntmps31
    go_wp2_with (first | ((with_reducible refine gate_dst (N := 5) rfl ?_); refine Kd.R_lit k79 _ 79 ?hg (N := 5) ?hd (xs := ([] : List (S79))) (inner := []) (ok := fun _ => True) (okp := fun _ => True) ?hr ?hp (fun _ hk => hk) trivial (Below.refl _ _) (Nat.le_refl _) (by simp) ?_; (case hd => rfl); (case hg => rfl); (case hr => first | (go_simp; done) | (go_simp; rfl) | (have hcq := hcq_.out; have hfq := hfq_.out; go_simp; done)); (case hp => exact (Reps.none _ _)); intro v210 w3 ho4 hb hg_ hnew_; clear hg_ hnew_; (first | rw [← Ny209.out] at ho4 | (simp only [Int.reduceToNat] at ho4; rw [← Ny209.out] at ho4)); have HO211 := aK (Kd.R_lower ho4 (below_size (gB HB))); replace HB := aK (below_step (gB HB) hb); clear hb ho4) | ((with_reducible refine q28q (b := .append) (xs := #[.tmp 5, .tmp 6]) rfl ?_); at_builtin; refine Kd.R_append_rows k79 (w0 := w) w.heap.size rfl (.tmp 5) (.tmp 6) 50 79 (.agg #[(.int .i64 0), (.string ⟨#[]⟩), (.int .i64 0), (.int .i64 0)]) 40 rfl Try.underlying50 info79 rfl (by decide) (by omega) v210 y209 l0 _ _ _ (fun _ => True) (fun _ => False) rfl rfl ?aO ?aR (fun _ _ h => h) (fun _ h => h.elim) ?aF ?aB ?aS ?aL ?_; (case aR => exact gC HR0 HB); (case aB => exact (gB HB)); (case aF => exact (fun _ _ => trivial)); (case aO => exact (gR HO211)); (case aS => exact (below_size (gB HB))); (case aL => have := LMc2.out; omega); intro v213 w5 ho hb hg hat; rw [← Ny212.out] at ho; replace HB := aK (hb); have HO214 := aK (ho); clear HO211; clear ho hb hg hat))
    go_ret
    exact ⟨_, by first | rfl | (simp [errW_none, errW_some] <;> rfl) | (simp [*, errW_none, errW_some] <;> rfl), gR HO214, gB HB⟩
  · rw [if_neg c2] at H
    exact absurd H (by simp)
def q24q.f (a0 : Int) : Option (Bool) := some (a0 != a0)
set_option maxHeartbeats 8000000 in
set_option maxRecDepth 100000 in
theorem q24q.calls (a0 : Int) (r : Bool) (w : World) (h : q24q.f a0 = some r) :
 Calls Try.prog 49 #[.int .i64 a0] w fun e w' => e = .returned (.bool r) ∧ Drawn0 w w' := by
 have H : (some (a0 != a0)) = some r := h
 clear h
 obtain rfl := Option.some.inj H
 go_enter Try.func49, Try.ntmps49
 go_wp2
 go_ret
 exact dn
def cmp_Compare_int.f (a0 : Int) (a1 : Int) : Option (Int) := (q24q.f a0).bind fun t215 => ((q24q.f a1).bind fun t216 => (if t215 = true then (if t216 = true then (some 0) else (some (-1))) else (if t216 = true then (some 1) else (if a0 < a1 then (some (-1)) else (if a0 > a1 then (some 1) else (some 0))))))
set_option maxHeartbeats 8000000 in
set_option maxRecDepth 100000 in
theorem cmp_Compare_int.calls (a0 : Int) (a1 : Int) (r : Int) (w : World) (h : cmp_Compare_int.f a0 a1 = some r) :
 Calls Try.prog 34 #[.int .i64 a0, .int .i64 a1] w fun e w' => e = .returned (.int .i64 r) ∧ Drawn0 w w' := by
 have H : ((q24q.f a0).bind fun t215 => ((q24q.f a1).bind fun t216 => (if t215 = true then (if t216 = true then (some 0) else (some (-1))) else (if t216 = true then (some 1) else (if a0 < a1 then (some (-1)) else (if a0 > a1 then (some 1) else (some 0))))))) = some r := h
 clear h
 replace H := Option.bind_eq_some_iff.mp H
 obtain ⟨t215, A30, H⟩ := H
 replace H : ((q24q.f a1).bind fun t216 => (if t215 = true then (if t216 = true then (some 0) else (some (-1))) else (if t216 = true then (some 1) else (if a0 < a1 then (some (-1)) else (if a0 > a1 then (some 1) else (some 0)))))) = some r := H
 have A3 := Aside0.mk A30; clear A30
 replace H := Option.bind_eq_some_iff.mp H
 obtain ⟨t216, A40, H⟩ := H
 replace H : (if t215 = true then (if t216 = true then (some 0) else (some (-1))) else (if t216 = true then (some 1) else (if a0 < a1 then (some (-1)) else (if a0 > a1 then (some 1) else (some 0))))) = some r := H
 have A4 := Aside0.mk A40; clear A40
 by_cases c5 : t215 = true
 · subst c5
   replace H : (if t216 = true then (some 0) else (some (-1))) = some r := by rw [if_pos rfl] at H; exact H
   by_cases c6 : t216 = true
   · subst c6
     replace H : (some 0) = some r := by rw [if_pos rfl] at H; exact H
     obtain rfl := Option.some.inj H
     go_enter Try.func34, Try.ntmps34
     go_wp2_with (first | ((with_reducible refine gate_callee (f := 49) rfl ?_); refine goesL_ (some 8) rfl rfl Try.func49 (by kernel_rfl) rfl #[.int .i64 a0] rfl am ?_; (with_reducible refine (q24q.calls a0 true _ A3.out).mono ?_); rintro e w' ⟨rfl, ⟨nd, rfl⟩⟩; refine ⟨_, rfl, ?_⟩) | ((with_reducible refine gate_callee (f := 49) rfl ?_); refine goesL_ (some 10) rfl rfl Try.func49 (by kernel_rfl) rfl #[.int .i64 a1] rfl am ?_; (with_reducible refine (q24q.calls a1 true _ A4.out).mono ?_); rintro e w' ⟨rfl, ⟨nd, rfl⟩⟩; refine ⟨_, rfl, ?_⟩))
     go_ret
     exact dn
   · replace c6 := Bool.eq_false_iff.mpr c6
     subst c6
     replace H : (some (-1)) = some r := by rw [if_neg (show ¬ (false = true) by decide)] at H; exact H
     obtain rfl := Option.some.inj H
     go_enter Try.func34, Try.ntmps34
     go_wp2_with (first | ((with_reducible refine gate_callee (f := 49) rfl ?_); refine goesL_ (some 8) rfl rfl Try.func49 (by kernel_rfl) rfl #[.int .i64 a0] rfl am ?_; (with_reducible refine (q24q.calls a0 true _ A3.out).mono ?_); rintro e w' ⟨rfl, ⟨nd, rfl⟩⟩; refine ⟨_, rfl, ?_⟩) | ((with_reducible refine gate_callee (f := 49) rfl ?_); refine goesL_ (some 10) rfl rfl Try.func49 (by kernel_rfl) rfl #[.int .i64 a1] rfl am ?_; (with_reducible refine (q24q.calls a1 false _ A4.out).mono ?_); rintro e w' ⟨rfl, ⟨nd, rfl⟩⟩; refine ⟨_, rfl, ?_⟩))
     go_ret
     exact dn
 · replace c5 := Bool.eq_false_iff.mpr c5
   subst c5
   replace H : (if t216 = true then (some 1) else (if a0 < a1 then (some (-1)) else (if a0 > a1 then (some 1) else (some 0)))) = some r := by rw [if_neg (show ¬ (false = true) by decide)] at H; exact H
   by_cases c7 : t216 = true
   · subst c7
     replace H : (some 1) = some r := by rw [if_pos rfl] at H; exact H
     obtain rfl := Option.some.inj H
     go_enter Try.func34, Try.ntmps34
     go_wp2_with (first | ((with_reducible refine gate_callee (f := 49) rfl ?_); refine goesL_ (some 8) rfl rfl Try.func49 (by kernel_rfl) rfl #[.int .i64 a0] rfl am ?_; (with_reducible refine (q24q.calls a0 false _ A3.out).mono ?_); rintro e w' ⟨rfl, ⟨nd, rfl⟩⟩; refine ⟨_, rfl, ?_⟩) | ((with_reducible refine gate_callee (f := 49) rfl ?_); refine goesL_ (some 10) rfl rfl Try.func49 (by kernel_rfl) rfl #[.int .i64 a1] rfl am ?_; (with_reducible refine (q24q.calls a1 true _ A4.out).mono ?_); rintro e w' ⟨rfl, ⟨nd, rfl⟩⟩; refine ⟨_, rfl, ?_⟩))
     go_ret
     exact dn
   · replace c7 := Bool.eq_false_iff.mpr c7
     subst c7
     replace H : (if a0 < a1 then (some (-1)) else (if a0 > a1 then (some 1) else (some 0))) = some r := by rw [if_neg (show ¬ (false = true) by decide)] at H; exact H
     by_cases c8 : a0 < a1
     · rw [if_pos c8] at H
       have c8b0 := dT c8
       clear c8
       obtain rfl := Option.some.inj H
       go_enter Try.func34, Try.ntmps34
       go_wp2_with (first | ((with_reducible refine gate_callee (f := 49) rfl ?_); refine goesL_ (some 8) rfl rfl Try.func49 (by kernel_rfl) rfl #[.int .i64 a0] rfl am ?_; (with_reducible refine (q24q.calls a0 false _ A3.out).mono ?_); rintro e w' ⟨rfl, ⟨nd, rfl⟩⟩; refine ⟨_, rfl, ?_⟩) | ((with_reducible refine gate_callee (f := 49) rfl ?_); refine goesL_ (some 10) rfl rfl Try.func49 (by kernel_rfl) rfl #[.int .i64 a1] rfl am ?_; (with_reducible refine (q24q.calls a1 false _ A4.out).mono ?_); rintro e w' ⟨rfl, ⟨nd, rfl⟩⟩; refine ⟨_, rfl, ?_⟩))
       go_ret
       exact dn
     · rw [if_neg c8] at H
       have c8b0 := dF c8
       clear c8
       by_cases c9 : a0 > a1
       · rw [if_pos c9] at H
         have c9b0 : decide (a1 < a0) = true := decide_eq_true c9
         clear c9
         obtain rfl := Option.some.inj H
         go_enter Try.func34, Try.ntmps34
         go_wp2_with (first | ((with_reducible refine gate_callee (f := 49) rfl ?_); refine goesL_ (some 8) rfl rfl Try.func49 (by kernel_rfl) rfl #[.int .i64 a0] rfl am ?_; (with_reducible refine (q24q.calls a0 false _ A3.out).mono ?_); rintro e w' ⟨rfl, ⟨nd, rfl⟩⟩; refine ⟨_, rfl, ?_⟩) | ((with_reducible refine gate_callee (f := 49) rfl ?_); refine goesL_ (some 10) rfl rfl Try.func49 (by kernel_rfl) rfl #[.int .i64 a1] rfl am ?_; (with_reducible refine (q24q.calls a1 false _ A4.out).mono ?_); rintro e w' ⟨rfl, ⟨nd, rfl⟩⟩; refine ⟨_, rfl, ?_⟩))
         go_ret
         exact dn
       · rw [if_neg c9] at H
         have c9b0 : decide (a1 < a0) = false := decide_eq_false c9
         clear c9
         obtain rfl := Option.some.inj H
         go_enter Try.func34, Try.ntmps34
         go_wp2_with (first | ((with_reducible refine gate_callee (f := 49) rfl ?_); refine goesL_ (some 8) rfl rfl Try.func49 (by kernel_rfl) rfl #[.int .i64 a0] rfl am ?_; (with_reducible refine (q24q.calls a0 false _ A3.out).mono ?_); rintro e w' ⟨rfl, ⟨nd, rfl⟩⟩; refine ⟨_, rfl, ?_⟩) | ((with_reducible refine gate_callee (f := 49) rfl ?_); refine goesL_ (some 10) rfl rfl Try.func49 (by kernel_rfl) rfl #[.int .i64 a1] rfl am ?_; (with_reducible refine (q24q.calls a1 false _ A4.out).mono ?_); rintro e w' ⟨rfl, ⟨nd, rfl⟩⟩; refine ⟨_, rfl, ?_⟩))
         go_ret
         exact dn
def q21q.f (a0_0 : Int) (a0_1 : ByteArray) (a0_2 : Int) (a0_3 : Int) (a1_0 : Int) (a1_1 : ByteArray) (a1_2 : Int) (a1_3 : Int) : Option (Int) := (cmp_Compare_int.f a1_3 a0_3).bind fun t219 => (some t219)
set_option maxHeartbeats 8000000 in
set_option maxRecDepth 100000 in
theorem q21q.calls (a0_0 : Int) (a0_1 : ByteArray) (a0_2 : Int) (a0_3 : Int) (a1_0 : Int) (a1_1 : ByteArray) (a1_2 : Int) (a1_3 : Int) (r : Int) (w : World) (h : q21q.f a0_0 a0_1 a0_2 a0_3 a1_0 a1_1 a1_2 a1_3 = some r) :
 Calls Try.prog 33 #[.agg #[.int .i64 a0_0, .string a0_1, .int .i64 a0_2, .int .i64 a0_3], .agg #[.int .i64 a1_0, .string a1_1, .int .i64 a1_2, .int .i64 a1_3]] w fun e w' => e = .returned (.int .i64 r) ∧ Below w.heap.size w w' := by
 have hu79 := Try.underlying79
 have HB := aK (Below.refl w.heap.size w)
 have H : ((cmp_Compare_int.f a1_3 a0_3).bind fun t219 => (some t219)) = some r := h
 clear h
 replace H := Option.bind_eq_some_iff.mp H
 obtain ⟨t219, A30, H⟩ := H
 replace H : (some t219) = some r := H
 have A3 := Aside0.mk A30; clear A30
 obtain rfl := Option.some.inj H
 go_enter Try.func33, Try.ntmps33
 go_wp2_with (first | ((with_reducible refine gate_dst (N := 2) rfl ?_); refine box_event ?hg (N := 2) ?hd (cs := #[.int .i64 a0_0, .string a0_1, .int .i64 a0_2, .int .i64 a0_3]) (t := 79) ?hr ?_; (case hd => rfl); (case hg => rfl); (case hr => first | (go_simp; done) | (go_simp; rfl) | (have hcq := hcq_.out; have hfq := hfq_.out; go_simp; done)); intro gb217 hg w4 hbox hb; have BK217 := aK (hbox); have GW217 := aK ((by rw [hg]; exact (below_size (gB HB)) : w.heap.size ≤ gb217)); have GE217 := aK ((by rw [hg]; exact (below_size (gB HB)) : w.heap.size ≤ gb217)); replace HB := aK (below_step (gB HB) hb); clear hb hbox hg) | ((with_reducible refine gate_dst (N := 3) rfl ?_); refine box_event ?hg (N := 3) ?hd (cs := #[.int .i64 a1_0, .string a1_1, .int .i64 a1_2, .int .i64 a1_3]) (t := 79) ?hr ?_; (case hd => rfl); (case hg => rfl); (case hr => first | (go_simp; done) | (go_simp; rfl) | (have hcq := hcq_.out; have hfq := hfq_.out; go_simp; done)); intro gb218 hg w5 hbox hb; have BK218 := aK (hbox); have GW218 := aK ((by rw [hg]; exact (below_size (gS HB)) : w.heap.size ≤ gb218)); have GE218 := aK ((by rw [hg]; exact (below_size (gS HB)) : w.heap.size ≤ gb218)); replace HB := aK (below_step (gS HB) hb); have NB217_218 := aK ((by rw [hg]; exact Nat.ne_of_lt (blk_lt (g := gb217) (o := .cells #[.int .i64 a0_0, .string a0_1, .int .i64 a0_2, .int .i64 a0_3] 79 (0, 0)) (gK BK217)) : gb217 ≠ gb218)); have NB218_217 := aK ((by rw [hg]; exact Nat.ne_of_gt (blk_lt (g := gb217) (o := .cells #[.int .i64 a0_0, .string a0_1, .int .i64 a0_2, .int .i64 a0_3] 79 (0, 0)) (gK BK217)) : gb218 ≠ gb217)); replace BK217 := aK (blk_below (g := gb217) (o := .cells #[.int .i64 a0_0, .string a0_1, .int .i64 a0_2, .int .i64 a0_3] 79 (0, 0)) (gK BK217) hb); clear hb hbox hg; have hnb6 := NB218_217.out; have hnc6 := NB217_218.out; have hcz7_0 : w5.cell? ⟨gb218, 0, none⟩ = some (.int .i64 a1_0) := (blk_cell BK218.out 0).trans rfl; have hcz7_1 : w5.cell? ⟨gb218, 1, none⟩ = some (.string a1_1) := (blk_cell BK218.out 1).trans rfl; have hcz7_2 : w5.cell? ⟨gb218, 2, none⟩ = some (.int .i64 a1_2) := (blk_cell BK218.out 2).trans rfl; have hcz7_3 : w5.cell? ⟨gb218, 3, none⟩ = some (.int .i64 a1_3) := (blk_cell BK218.out 3).trans rfl; have hfz7_0 := blk_frozen BK218.out 0; have hfz7_1 := blk_frozen BK218.out 1; have hfz7_2 := blk_frozen BK218.out 2; have hfz7_3 := blk_frozen BK218.out 3; have hcz8_0 : w5.cell? ⟨gb217, 0, none⟩ = some (.int .i64 a0_0) := (blk_cell BK217.out 0).trans rfl; have hcz8_1 : w5.cell? ⟨gb217, 1, none⟩ = some (.string a0_1) := (blk_cell BK217.out 1).trans rfl; have hcz8_2 : w5.cell? ⟨gb217, 2, none⟩ = some (.int .i64 a0_2) := (blk_cell BK217.out 2).trans rfl; have hcz8_3 : w5.cell? ⟨gb217, 3, none⟩ = some (.int .i64 a0_3) := (blk_cell BK217.out 3).trans rfl; have hfz8_0 := blk_frozen BK217.out 0; have hfz8_1 := blk_frozen BK217.out 1; have hfz8_2 := blk_frozen BK217.out 2; have hfz8_3 := blk_frozen BK217.out 3) | ((with_reducible refine gate_callee (f := 34) rfl ?_); refine goesL_ (some 9) rfl rfl Try.func34 (by kernel_rfl) rfl #[.int .i64 a1_3, .int .i64 a0_3] rfl am ?_; (with_reducible refine (cmp_Compare_int.calls a1_3 a0_3 t219 _ A3.out).mono ?_); rintro e w' ⟨rfl, ⟨nd, rfl⟩⟩; refine ⟨_, rfl, ?_⟩))
 go_ret
 exact ⟨by first | rfl | (simp [errW_none, errW_some] <;> rfl) | (simp [*, errW_none, errW_some] <;> rfl), gS HB⟩
def asset_Worth.f (k : Nat) (a0 : Int) (a1 : Int) : Option (Int × Int) := if a0 < 0 then (some (0, 1)) else (if a0 > 1125899906842624 then (some (0, 1)) else (if a1 < 1 then (some (0, 1)) else (if a1 > 4294967296 then (some (0, 1)) else ((q20q.f k a0 a1 1000000 1).bind fun bt220 => (some (bt220.1, bt220.2))))))
theorem asset_Worth.mono : ∀ a0 a1 k, LeO (asset_Worth.f k a0 a1) (asset_Worth.f (k + 1) a0 a1) := by
 intro a0 a1 k
 unfold asset_Worth.f
 repeat' first
  | (with_reducible exact q20q.mono _ _ _ _ _)
  | (with_reducible exact LeO.refl _)
  | (with_reducible exact LeO.none _)
  | (with_reducible refine LeO.ite ?_ ?_)
  | (with_reducible refine LeO.bind ?_ (fun _ => ?_))
  | exact q20q.mono _ _ _ _ _
  | exact LeO.none _
  | refine LeO.ite ?_ ?_
  | refine LeO.bind ?_ (fun _ => ?_)
set_option maxHeartbeats 8000000 in
set_option maxRecDepth 100000 in
theorem asset_Worth.calls (k : Nat) (a0 : Int) (a1 : Int) (r1 : Int) (r2 : Int) (w : World) (h : asset_Worth.f k a0 a1 = some (r1, r2)) :
 Calls Try.prog 35 #[.int .i64 a0, .int .i64 a1] w fun e w' => e = .returned (.tuple #[.int .i64 r1, .int .i64 r2]) ∧ Below w.heap.size w w' := by
 have HB := aK (Below.refl w.heap.size w)
 have H : (if a0 < 0 then (some (0, 1)) else (if a0 > 1125899906842624 then (some (0, 1)) else (if a1 < 1 then (some (0, 1)) else (if a1 > 4294967296 then (some (0, 1)) else ((q20q.f k a0 a1 1000000 1).bind fun bt220 => (some (bt220.1, bt220.2))))))) = some (r1, r2) := h
 clear h
 by_cases c3 : a0 < 0
 · rw [if_pos c3] at H
   have c3b0 := dT c3
   clear c3
   simp only [Option.some.injEq, Prod.mk.injEq] at H
   obtain ⟨rfl, rfl⟩ := H
   go_enter Try.func35, Try.ntmps35
   go_wp2
   go_ret2
   exact ⟨by first | rfl | (simp [errW_none, errW_some] <;> rfl) | (simp [*, errW_none, errW_some] <;> rfl), gB HB⟩
 · rw [if_neg c3] at H
   have c3b0 := dF c3
   clear c3
   by_cases c4 : a0 > 1125899906842624
   · rw [if_pos c4] at H
     have c4b0 : decide (1125899906842624 < a0) = true := decide_eq_true c4
     clear c4
     simp only [Option.some.injEq, Prod.mk.injEq] at H
     obtain ⟨rfl, rfl⟩ := H
     go_enter Try.func35, Try.ntmps35
     go_wp2
     go_ret2
     exact ⟨by first | rfl | (simp [errW_none, errW_some] <;> rfl) | (simp [*, errW_none, errW_some] <;> rfl), gB HB⟩
   · rw [if_neg c4] at H
     have c4b0 : decide (1125899906842624 < a0) = false := decide_eq_false c4
     clear c4
     by_cases c5 : a1 < 1
     · rw [if_pos c5] at H
       have c5b0 := dT c5
       clear c5
       simp only [Option.some.injEq, Prod.mk.injEq] at H
       obtain ⟨rfl, rfl⟩ := H
       go_enter Try.func35, Try.ntmps35
       go_wp2
       go_ret2
       exact ⟨by first | rfl | (simp [errW_none, errW_some] <;> rfl) | (simp [*, errW_none, errW_some] <;> rfl), gB HB⟩
     · rw [if_neg c5] at H
       have c5b0 := dF c5
       clear c5
       by_cases c6 : a1 > 4294967296
       · rw [if_pos c6] at H
         have c6b0 : decide (4294967296 < a1) = true := decide_eq_true c6
         clear c6
         simp only [Option.some.injEq, Prod.mk.injEq] at H
         obtain ⟨rfl, rfl⟩ := H
         go_enter Try.func35, Try.ntmps35
         go_wp2
         go_ret2
         exact ⟨by first | rfl | (simp [errW_none, errW_some] <;> rfl) | (simp [*, errW_none, errW_some] <;> rfl), gB HB⟩
       · rw [if_neg c6] at H
         have c6b0 : decide (4294967296 < a1) = false := decide_eq_false c6
         clear c6
         replace H := Option.bind_eq_some_iff.mp H
         obtain ⟨⟨t220, t221⟩, A70, H⟩ := H
         replace H : (some (t220, t221)) = some (r1, r2) := H
         have A7 := Aside0.mk A70; clear A70
         simp only [Option.some.injEq, Prod.mk.injEq] at H
         obtain ⟨rfl, rfl⟩ := H
         go_enter Try.func35, Try.ntmps35
         go_wp2_with (first | ((with_reducible refine gate_callee (f := 47) rfl ?_); refine goesL_ (some 22) rfl rfl Try.func47 (by kernel_rfl) rfl #[.int .i64 a0, .int .i64 a1, .int .i64 1000000, .int .i64 1] rfl am ?_; (with_reducible refine (q20q.calls k a0 a1 1000000 1 t220 t221 _ A7.out).mono ?_); rintro e w8 ⟨rfl, hb⟩; refine ⟨_, rfl, ?_⟩; replace HB := aK (below_step (gB HB) hb); (try clear hb); (try clear hb2); (try clear hk); (try clear hi)))
         go_ret2
         exact ⟨by first | rfl | (simp [errW_none, errW_some] <;> rfl) | (simp [*, errW_none, errW_some] <;> rfl), gB HB⟩
end Go.Proofs.Ytlbhjkbjokiioaa.X
