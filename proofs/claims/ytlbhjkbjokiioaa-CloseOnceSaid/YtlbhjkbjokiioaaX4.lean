-- a shortened text: what this claim does not name is left out (wip/xprint/prune.py of this repo)
import Derived.Test.YtlbhjkbjokiioaaXMin
import Derived.Test.YtlbhjkbjokiioaaX0
import Derived.Test.YtlbhjkbjokiioaaX2
import Derived.Test.YtlbhjkbjokiioaaX3
namespace Go.Proofs.Ytlbhjkbjokiioaa.X
open Go.RowKit Go.Proofs.YtlbhjkbjokiioaaW.PrintWords Go.Proofs.YtlbhjkbjokiioaaW.PrintLast Go.Proofs.YtlbhjkbjokiioaaW.PrintMore
attribute [local go_sem] max2_int min2_int max_two min_two max_three min_three max_four min_four
set_option linter.unusedVariables false
set_option linter.unusedSimpArgs false
mutual
def close_Fall.j0 : Nat → Int → List (S67) → Bool → Option ((List (S34)) × Int × Int)
 | 0, _, _, _ => none
 | k + 1, x0, x1, x28 => if x28 = true then (some (([] : List (S34)), 0, 1)) else (close_Fall.l0 k x0 x1 x1 (x1.length : Int) 0)
def close_Fall.l0 : Nat → Int → List (S67) → List (S67) → Int → Int → Option ((List (S34)) × Int × Int)
 | 0, _, _, _, _, _ => none
 | k + 1, x0, x1, x29, x30, x31 => if x31 < x30 then (if 0 ≤ x31 then (if x31 < (x29.length : Int) then (if (((rd_T67 x29 x31).f1).length : Int) > 64 then (some (([] : List (S34)), 0, 2)) else (close_Fall.l1 k x0 x1 x29 x30 x31 ((rd_T67 x29 x31).f1) (((rd_T67 x29 x31).f1).length : Int) 0)) else (none)) else (none)) else (if 0 ≤ (x1.length : Int) then (if ((x1.length : Int) : Int).toNat ≤ 7036874417766 then (close_Fall.l2 k x0 ([]) x1 (x1.length : Int) 0) else (none)) else (none))
def close_Fall.l1 : Nat → Int → List (S67) → List (S67) → Int → Int → List Int → Int → Int → Option ((List (S34)) × Int × Int)
 | 0, _, _, _, _, _, _, _, _ => none
 | k + 1, x0, x1, x29, x30, x31, x40, x41, x42 => if x42 < x41 then (if 0 ≤ x42 then (if x42 < (x40.length : Int) then (if (rd x40 x42) < 0 then (some (([] : List (S34)), 0, 1)) else (if (rd x40 x42) > 1125899906842624 then (some (([] : List (S34)), 0, 1)) else (close_Fall.l1 k x0 x1 x29 x30 x31 x40 x41 (wrap64 (x42 + 1))))) else (none)) else (none)) else (close_Fall.l0 k x0 x1 x29 x30 (wrap64 (x31 + 1)))
def close_Fall.l2 : Nat → Int → List (S34) → List (S67) → Int → Int → Option ((List (S34)) × Int × Int)
 | 0, _, _, _, _, _ => none
 | k + 1, x0, x11, x57, x58, x59 => if x59 < x58 then (if 0 ≤ x59 then (if x59 < (x57.length : Int) then ((fixnum_Sum.f k ((rd_T67 x57 x59).f1)).bind fun bt154 => ((q26q.f ((rd_T67 x57 x59).f1)).bind fun t156 => (if (mn x0 bt154.1) < bt154.1 then ((q12q.f k (mn x0 bt154.1) ((rd_T67 x57 x59).f1)).bind fun bt160 => (if x11.length < 3518437208883 then (close_Fall.l2 k (wrap64 (x0 - (mn x0 bt154.1))) (x11 ++ [(⟨(rd_T67 x57 x59).f0, bt160.1⟩ : S34)]) x57 x58 (wrap64 (x59 + 1))) else (none))) else (if x11.length < 3518437208883 then (close_Fall.l2 k (wrap64 (x0 - (mn x0 bt154.1))) (x11 ++ [(⟨(rd_T67 x57 x59).f0, t156⟩ : S34)]) x57 x58 (wrap64 (x59 + 1))) else (none))))) else (none)) else (none)) else (some (x11, x0, 0))
end
def close_Fall.f (k : Nat) (a0 : Int) (l1 : List (S67)) : Option ((List (S34)) × Int × Int) := if a0 < 0 then (close_Fall.j0 k a0 l1 true) else (if a0 > 1125899906842624 then (close_Fall.j0 k a0 l1 true) else (close_Fall.j0 k a0 l1 (decide ((l1.length : Int) > 64))))
theorem close_Fall.mono_l : ∀ k, (∀ y0 y1 y2, LeO (close_Fall.j0 k y0 y1 y2) (close_Fall.j0 (k + 1) y0 y1 y2)) ∧ (∀ y0 y1 y2 y3 y4, LeO (close_Fall.l0 k y0 y1 y2 y3 y4) (close_Fall.l0 (k + 1) y0 y1 y2 y3 y4)) ∧ (∀ y0 y1 y2 y3 y4 y5 y6 y7, LeO (close_Fall.l1 k y0 y1 y2 y3 y4 y5 y6 y7) (close_Fall.l1 (k + 1) y0 y1 y2 y3 y4 y5 y6 y7)) ∧ (∀ y0 y1 y2 y3 y4, LeO (close_Fall.l2 k y0 y1 y2 y3 y4) (close_Fall.l2 (k + 1) y0 y1 y2 y3 y4))
 | 0 => ⟨fun _ _ _ r h => by simp [close_Fall.j0] at h, fun _ _ _ _ _ r h => by simp [close_Fall.l0] at h, fun _ _ _ _ _ _ _ _ r h => by simp [close_Fall.l1] at h, fun _ _ _ _ _ r h => by simp [close_Fall.l2] at h⟩
 | k + 1 => by
  obtain ⟨ih0, ih1, ih2, ih3⟩ := close_Fall.mono_l k
  refine ⟨?_, ?_, ?_, ?_⟩
  intro y0 y1 y2; unfold close_Fall.j0; rotate_left
  intro y0 y1 y2 y3 y4; unfold close_Fall.l0; rotate_left
  intro y0 y1 y2 y3 y4 y5 y6 y7; unfold close_Fall.l1; rotate_left
  intro y0 y1 y2 y3 y4; unfold close_Fall.l2; rotate_left
  all_goals repeat' first
  | (with_reducible exact ih0 _ _ _)
  | (with_reducible exact ih1 _ _ _ _ _)
  | (with_reducible exact ih2 _ _ _ _ _ _ _ _)
  | (with_reducible exact ih3 _ _ _ _ _)
  | (with_reducible exact q12q.mono _ _ _)
  | (with_reducible exact fixnum_Sum.mono _ _)
  | (with_reducible exact LeO.refl _)
  | (with_reducible exact LeO.none _)
  | (with_reducible refine LeO.ite ?_ ?_)
  | (with_reducible refine LeO.bind ?_ (fun _ => ?_))
  | exact ih0 _ _ _
  | exact ih1 _ _ _ _ _
  | exact ih2 _ _ _ _ _ _ _ _
  | exact ih3 _ _ _ _ _
  | exact q12q.mono _ _ _
  | exact fixnum_Sum.mono _ _
  | exact LeO.none _
  | refine LeO.ite ?_ ?_
  | refine LeO.bind ?_ (fun _ => ?_)
theorem close_Fall.mono : ∀ a0 a1 k, LeO (close_Fall.f k a0 a1) (close_Fall.f (k + 1) a0 a1) := by
 intro a0 a1 k
 obtain ⟨ih0, ih1, ih2, ih3⟩ := close_Fall.mono_l k
 unfold close_Fall.f
 repeat' first
  | (with_reducible exact ih0 _ _ _)
  | (with_reducible exact ih1 _ _ _ _ _)
  | (with_reducible exact ih2 _ _ _ _ _ _ _ _)
  | (with_reducible exact ih3 _ _ _ _ _)
  | (with_reducible exact q12q.mono _ _ _)
  | (with_reducible exact fixnum_Sum.mono _ _)
  | (with_reducible exact LeO.refl _)
  | (with_reducible exact LeO.none _)
  | (with_reducible refine LeO.ite ?_ ?_)
  | (with_reducible refine LeO.bind ?_ (fun _ => ?_))
  | exact ih0 _ _ _
  | exact ih1 _ _ _ _ _
  | exact ih2 _ _ _ _ _ _ _ _
  | exact ih3 _ _ _ _ _
  | exact q12q.mono _ _ _
  | exact fixnum_Sum.mono _ _
  | exact LeO.none _
  | refine LeO.ite ?_ ?_
  | refine LeO.bind ?_ (fun _ => ?_)
def close_Fall.T20 : Bool × List (List Nat × List Nat) := (true, [([], []), ([0], [0]), ([], []), ([2], [2]), ([3], [3]), ([1, 4], [1, 4]), ([], []), ([6, 5, 4, 0, 1, 2, 3, 4, 5, 6], [5, 6])])
def close_Fall.B20 : List Nat := [0, 1, 0, 4, 12, 31, 0, 127]
theorem close_Fall.tab20 : rtab .any (opsOf Try.f9 20) = close_Fall.T20 := by kernel_rfl
theorem close_Fall.bits20 : waitsOk close_Fall.T20.2 close_Fall.B20 = true := by kernel_rfl
set_option maxHeartbeats 8000000 in
set_option maxRecDepth 100000 in
theorem close_Fall.calls (k : Nat) (a0 : Int) (A1 : Option Addr) (c1 : Nat) (l1 : List (S67)) (r1 : List (S34)) (r2 : Int) (r3 : Int) (w : World) (hr1 : Kd.C k67 w A1 l1.length l1) (hc1 : l1.length ≤ c1) (h : close_Fall.f k a0 l1 = some (r1, r2, r3)) :
 Calls Try.prog 9 #[.int .i64 a0, .slice A1 l1.length c1] w fun e w' => ∃ v0_ : Value, e = .returned (.tuple #[v0_, .int .i64 r2, .int .i64 r3]) ∧ Kd.S k34 34 w' w.heap.size (fun _ => True) v0_ r1 ∧ Below w.heap.size w w' := by
 have hu67 := Try.underlying67
 have hu34 := Try.underlying34
 have HR1 := Aside0.mk hr1; have HC1 := Aside0.mk hc1; clear hr1 hc1
 have HB := aK (Below.refl w.heap.size w)
 have H : (if a0 < 0 then (close_Fall.j0 k a0 l1 true) else (if a0 > 1125899906842624 then (close_Fall.j0 k a0 l1 true) else (close_Fall.j0 k a0 l1 (decide ((l1.length : Int) > 64))))) = some (r1, r2, r3) := h
 clear h; have HC3 := Aside0.mk H; clear H
 go_enter Try.func9, Try.ntmps9
 go_upto_region 1 with (fail)
 go_cut [28] (fun v28 wc => ∃ (kq : Nat) (x28_2 : Bool), v28 = .bool x28_2 ∧ Aside0 (close_Fall.j0 kq a0 l1 x28_2 = some (r1, r2, r3)) ∧ Aside0 (kq ≤ k) ∧ Aside0 (Below w.heap.size w wc))
 case first =>
  have H := HC3.out
  clear HC3
  by_cases c4 : a0 < 0
  · rw [if_pos c4] at H
    have c4b0 := dT c4
    clear c4
    (first | rw [c4b0] | (simp only [i64_w, i32_w]; rw [c4b0]) | skip)
    have H' := Aside0.mk H
    clear H
    go_wp2
    go_meet
    case rel => exact ⟨_, (true), ac, H', ⟨by first | omega | exact Nat.le_refl _⟩, ⟨gB HB⟩⟩
  · rw [if_neg c4] at H
    have c4b0 := dF c4
    clear c4
    (first | rw [c4b0] | (simp only [i64_w, i32_w]; rw [c4b0]) | skip)
    by_cases c5 : a0 > 1125899906842624
    · rw [if_pos c5] at H
      have c5b0 : decide (1125899906842624 < a0) = true := decide_eq_true c5
      clear c5
      have H' := Aside0.mk H
      clear H
      go_wp2
      go_meet
      case rel => exact ⟨_, (true), ac, H', ⟨by first | omega | exact Nat.le_refl _⟩, ⟨gB HB⟩⟩
    · rw [if_neg c5] at H
      have c5b0 : decide (1125899906842624 < a0) = false := decide_eq_false c5
      clear c5
      have H' := Aside0.mk H
      clear H
      go_wp2
      go_meet
      case rel => exact ⟨_, (decide ((l1.length : Int) > 64)), ac, H', ⟨by first | omega | exact Nat.le_refl _⟩, ⟨gB HB⟩⟩
 case rest =>
  clear HC3; (try clear c1)
  obtain ⟨kq, x28_2, rfl, HA, HJ2, HB⟩ := hcut
  cases kq with
  | zero => exact absurd HA.out (by simp [close_Fall.j0])
  | succ kj2 =>
   have H := HA.out
   clear HA
   simp only [close_Fall.j0] at H
   by_cases c6 : x28_2 = true
   · subst c6
     replace H : (some (([] : List (S34)), 0, 1)) = some (r1, r2, r3) := by rw [if_pos rfl] at H; exact H
     simp only [Option.some.injEq, Prod.mk.injEq] at H
     obtain ⟨rfl, rfl, rfl⟩ := H
     go_wp2
     go_ret3
     exact ⟨_, by first | rfl | (simp [errW_none, errW_some] <;> rfl) | (simp [*, errW_none, errW_some] <;> rfl), by first | exact Kd.S_nil _ _ _ _ _ | exact Kd.N_nil _ _ _ _ _ | exact Kd.V_nil _ _ _ _ _ | exact Kd.Q_nil _ _ _ _ _ | exact Kd.R_nil _ _ _ _ _, gB HB⟩
   · replace c6 := Bool.eq_false_iff.mpr c6
     subst c6
     replace H : (close_Fall.l0 kj2 a0 l1 l1 (l1.length : Int) 0) = some (r1, r2, r3) := by rw [if_neg (show ¬ (false = true) by decide)] at H; exact H
     have H' := Aside0.mk H
     clear H
     go_wp2
     go_loopg [31] kj2 (fun kq v31 w' => ∃ (x31_2 : Int), v31 = .int .i64 x31_2 ∧ Aside0 (close_Fall.l0 kq a0 l1 l1 (l1.length : Int) x31_2 = some (r1, r2, r3)) ∧ Aside0 (kq ≤ kj2) ∧ Aside0 (Below w.heap.size w w'))
     case atStart => exact ⟨(0), ac, H', ⟨Nat.le_refl _⟩, ⟨gB HB⟩⟩
     case round =>
      clear H'; (try clear c1); (try clear c6)
      obtain ⟨x31_2, rfl, HA, HK2, HB⟩ := hrel
      cases gk with
      | zero => exact absurd HA.out (by simp [close_Fall.l0])
      | succ k2 =>
       have H := HA.out
       clear HA
       simp only [close_Fall.l0] at H
       by_cases c7 : x31_2 < (l1.length : Int)
       · rw [if_pos c7] at H
         have c7b0 := dT c7
         clear c7
         by_cases c8 : 0 ≤ x31_2
         · rw [if_pos c8] at H
           have c8b0 := dT c8
           clear c8
           by_cases c9 : x31_2 < (l1.length : Int)
           · rw [if_pos c9] at H
             have c9b0 := dT c9
             clear c9
             by_cases c10 : (((rd_T67 l1 x31_2).f1).length : Int) > 64
             · rw [if_pos c10] at H
               have c10b0 : decide (64 < (((rd_T67 l1 x31_2).f1).length : Int)) = true := decide_eq_true c10
               have c10b1 : decide (64 < ((rd_T67 l1 x31_2).f1).length) = true := decide_eq_true (by omega)
               clear c10
               simp only [Option.some.injEq, Prod.mk.injEq] at H
               obtain ⟨rfl, rfl, rfl⟩ := H
               have p146 : 0 ≤ (x31_2 : Int) := od
               have q146 : x31_2 < (l1.length : Int) := od
               obtain ⟨ad146, A146_1, c146_1, e146, hx146_0, hx146_1, hl146_1, hi146_1⟩ := at_T67 HR1.out x31_2 p146 q146
               cases e146
               replace hx146_0 := gc HB hx146_0
               replace hx146_1 := gc HB hx146_1
               have HR146_1 := Aside0.mk hi146_1; have HC146_1 := Aside0.mk hl146_1; clear hi146_1 hl146_1; replace p146 := eq_true p146; replace q146 := eq_true q146
               go_wp2_with (first | ((with_reducible refine gate_dst (N := 8) rfl ?_); (try (refine gate_guard (by rfl) ?_; dsimp only)); refine box_event ?hg (N := 8) ?hd (cs := #[.string (⟨#[]⟩ : ByteArray), .slice none 0 0]) (t := 67) ?hr ?_; (case hd => rfl); (case hg => rfl); (case hr => first | (go_simp; done) | (go_simp; rfl) | (have hcq := hcq_.out; have hfq := hfq_.out; go_simp; done)); intro gb147 hg w11 hbox hb; have BK147 := aK (hbox); have GW147 := aK ((by rw [hg]; exact (below_size (gB HB)) : w.heap.size ≤ gb147)); have GE147 := aK ((by rw [hg]; exact (below_size (gB HB)) : w.heap.size ≤ gb147)); replace HB := aK (below_step (gB HB) hb); clear hb hbox hg; have hcz12_0 : w11.cell? ⟨gb147, 0, none⟩ = some (.string (⟨#[]⟩ : ByteArray)) := (blk_cell BK147.out 0).trans rfl; have hcz12_1 : w11.cell? ⟨gb147, 1, none⟩ = some (.slice none 0 0) := (blk_cell BK147.out 1).trans rfl; have hfz12_0 := blk_frozen BK147.out 0; have hfz12_1 := blk_frozen BK147.out 1))
               go_ret3
               exact ⟨_, by first | rfl | (simp [errW_none, errW_some] <;> rfl) | (simp [*, errW_none, errW_some] <;> rfl), by first | exact Kd.S_nil _ _ _ _ _ | exact Kd.N_nil _ _ _ _ _ | exact Kd.V_nil _ _ _ _ _ | exact Kd.Q_nil _ _ _ _ _ | exact Kd.R_nil _ _ _ _ _, gS HB⟩
             · rw [if_neg c10] at H
               have c10b0 : decide (64 < (((rd_T67 l1 x31_2).f1).length : Int)) = false := decide_eq_false c10
               have c10b1 : decide (64 < ((rd_T67 l1 x31_2).f1).length) = false := decide_eq_false (by omega)
               clear c10
               have H' := Aside0.mk H
               clear H
               have p146 : 0 ≤ (x31_2 : Int) := od
               have q146 : x31_2 < (l1.length : Int) := od
               obtain ⟨ad146, A146_1, c146_1, e146, hx146_0, hx146_1, hl146_1, hi146_1⟩ := at_T67 HR1.out x31_2 p146 q146
               cases e146
               replace hx146_0 := gc HB hx146_0
               replace hx146_1 := gc HB hx146_1
               have HR146_1 := Aside0.mk hi146_1; have HC146_1 := Aside0.mk hl146_1; clear hi146_1 hl146_1; replace p146 := eq_true p146; replace q146 := eq_true q146
               go_wp2_with (first | ((with_reducible refine gate_dst (N := 8) rfl ?_); (try (refine gate_guard (by rfl) ?_; dsimp only)); refine box_event ?hg (N := 8) ?hd (cs := #[.string (⟨#[]⟩ : ByteArray), .slice none 0 0]) (t := 67) ?hr ?_; (case hd => rfl); (case hg => rfl); (case hr => first | (go_simp; done) | (go_simp; rfl) | (have hcq := hcq_.out; have hfq := hfq_.out; go_simp; done)); intro gb147 hg w13 hbox hb; have BK147 := aK (hbox); have GW147 := aK ((by rw [hg]; exact (below_size (gB HB)) : w.heap.size ≤ gb147)); have GE147 := aK ((by rw [hg]; exact (below_size (gB HB)) : w.heap.size ≤ gb147)); replace HB := aK (below_step (gB HB) hb); clear hb hbox hg; have hcz14_0 : w13.cell? ⟨gb147, 0, none⟩ = some (.string (⟨#[]⟩ : ByteArray)) := (blk_cell BK147.out 0).trans rfl; have hcz14_1 : w13.cell? ⟨gb147, 1, none⟩ = some (.slice none 0 0) := (blk_cell BK147.out 1).trans rfl; have hfz14_0 := blk_frozen BK147.out 0; have hfz14_1 := blk_frozen BK147.out 1))
               go_loopg [42] k2 (fun kq v42 w' => ∃ (x42_3 : Int), v42 = .int .i64 x42_3 ∧ Aside0 (close_Fall.l1 kq a0 l1 l1 (l1.length : Int) x31_2 ((rd_T67 l1 x31_2).f1) (((rd_T67 l1 x31_2).f1).length : Int) x42_3 = some (r1, r2, r3)) ∧ Aside0 (kq ≤ k2) ∧ Aside0 (w'.heap[gb147]? = some (.cells #[.string ((rd_T67 l1 x31_2).f0), (.slice A146_1 ((rd_T67 l1 x31_2).f1).length c146_1)] 67 (0, 0))) ∧ Aside0 (Below w.heap.size w w'))
               case atStart => exact ⟨(0), ac, H', ⟨Nat.le_refl _⟩, ⟨by (with_reducible repeat (first | refine blk_drewN ?_ _ | refine blk_drew ?_ | refine blk_alloc ?_ _)); refine blk_put (cs := #[.string ((rd_T67 l1 x31_2).f0), .slice none 0 0]) ?_ 1 _ rfl; (with_reducible repeat (first | refine blk_drewN ?_ _ | refine blk_drew ?_ | refine blk_alloc ?_ _)); refine blk_put (cs := #[.string (⟨#[]⟩ : ByteArray), .slice none 0 0]) ?_ 0 _ rfl; (with_reducible repeat (first | refine blk_drewN ?_ _ | refine blk_drew ?_ | refine blk_alloc ?_ _)); exact BK147.out⟩, ⟨gS HB⟩⟩
               case round =>
                clear H'; (try clear c1); (try clear c6); (try clear c7); (try clear c7b0); (try clear c8); (try clear c8b0); (try clear c9); (try clear c9b0); (try clear c10); (try clear c10b0); (try clear c10b1); (try clear hcz14_0); (try clear hcz14_1); (try clear hfz14_0); (try clear hfz14_1); (try clear hx146_0); (try clear hx146_1); (try clear p146); (try clear q146)
                obtain ⟨x42_3, rfl, HA, HK3, BK147, HB⟩ := hrel
                cases gk with
                | zero => exact absurd HA.out (by simp [close_Fall.l1])
                | succ k3 =>
                 have H := HA.out
                 clear HA
                 simp only [close_Fall.l1] at H
                 by_cases c15 : x42_3 < (((rd_T67 l1 x31_2).f1).length : Int)
                 · rw [if_pos c15] at H
                   have c15b0 := dT c15
                   clear c15
                   by_cases c16 : 0 ≤ x42_3
                   · rw [if_pos c16] at H
                     have c16b0 := dT c16
                     clear c16
                     by_cases c17 : x42_3 < (((rd_T67 l1 x31_2).f1).length : Int)
                     · rw [if_pos c17] at H
                       have c17b0 := dT c17
                       clear c17
                       by_cases c18 : (rd ((rd_T67 l1 x31_2).f1) x42_3) < 0
                       · rw [if_pos c18] at H
                         have c18b0 := dT c18
                         clear c18
                         simp only [Option.some.injEq, Prod.mk.injEq] at H
                         obtain ⟨rfl, rfl, rfl⟩ := H
                         obtain ⟨⟨p148, q148⟩, ad148, rfl, hx148_0⟩ := za (Kd.at_int HR146_1.out) x42_3
                         replace hx148_0 := gc HB hx148_0
                         go_wp2
                         go_ret3
                         exact ⟨_, by first | rfl | (simp [errW_none, errW_some] <;> rfl) | (simp [*, errW_none, errW_some] <;> rfl), by first | exact Kd.S_nil _ _ _ _ _ | exact Kd.N_nil _ _ _ _ _ | exact Kd.V_nil _ _ _ _ _ | exact Kd.Q_nil _ _ _ _ _ | exact Kd.R_nil _ _ _ _ _, gS HB⟩
                       · rw [if_neg c18] at H
                         have c18b0 := dF c18
                         clear c18
                         by_cases c19 : (rd ((rd_T67 l1 x31_2).f1) x42_3) > 1125899906842624
                         · rw [if_pos c19] at H
                           have c19b0 : decide (1125899906842624 < (rd ((rd_T67 l1 x31_2).f1) x42_3)) = true := decide_eq_true c19
                           clear c19
                           simp only [Option.some.injEq, Prod.mk.injEq] at H
                           obtain ⟨rfl, rfl, rfl⟩ := H
                           obtain ⟨⟨p148, q148⟩, ad148, rfl, hx148_0⟩ := za (Kd.at_int HR146_1.out) x42_3
                           replace hx148_0 := gc HB hx148_0
                           go_wp2
                           go_ret3
                           exact ⟨_, by first | rfl | (simp [errW_none, errW_some] <;> rfl) | (simp [*, errW_none, errW_some] <;> rfl), by first | exact Kd.S_nil _ _ _ _ _ | exact Kd.N_nil _ _ _ _ _ | exact Kd.V_nil _ _ _ _ _ | exact Kd.Q_nil _ _ _ _ _ | exact Kd.R_nil _ _ _ _ _, gS HB⟩
                         · rw [if_neg c19] at H
                           have c19b0 : decide (1125899906842624 < (rd ((rd_T67 l1 x31_2).f1) x42_3)) = false := decide_eq_false c19
                           clear c19
                           have H' := Aside0.mk H
                           clear H
                           obtain ⟨⟨p148, q148⟩, ad148, rfl, hx148_0⟩ := za (Kd.at_int HR146_1.out) x42_3
                           replace hx148_0 := gc HB hx148_0
                           go_wp2
                           go_roundg k3
                           case measure => have := HJ2.out; have := HK2.out; have := HK3.out; omega
                           case rel => exact ⟨(wrap64 (x42_3 + 1)), ac, H', ⟨by have := HJ2.out; have := HK2.out; have := HK3.out; omega⟩, ⟨gK BK147⟩, ⟨gS HB⟩⟩
                     · rw [if_neg c17] at H
                       exact absurd H (by simp)
                   · rw [if_neg c16] at H
                     exact absurd H (by simp)
                 · rw [if_neg c15] at H
                   have c15b0 := dF c15
                   clear c15
                   have H' := Aside0.mk H
                   clear H
                   go_wp2
                   go_roundg k3
                   case measure => have := HJ2.out; have := HK2.out; have := HK3.out; omega
                   case rel => exact ⟨(wrap64 (x31_2 + 1)), ac, H', ⟨by have := HJ2.out; have := HK2.out; have := HK3.out; omega⟩, ⟨gS HB⟩⟩
           · rw [if_neg c9] at H
             exact absurd H (by simp)
         · rw [if_neg c8] at H
           exact absurd H (by simp)
       · rw [if_neg c7] at H
         have c7b0 := dF c7
         clear c7
         by_cases c20 : 0 ≤ (l1.length : Int)
         · rw [if_pos c20] at H
           have c20b0 := eq_true c20
           have c20b1 : decide (0 ≤ (l1.length : Int)) = true := decide_eq_true c20
           clear c20
           by_cases c21 : ((l1.length : Int) : Int).toNat ≤ 7036874417766
           · rw [if_pos c21] at H
             have c21b0 := eq_true c21
             have c21b1 : decide (((l1.length : Int) : Int).toNat ≤ 7036874417766) = true := decide_eq_true c21
             clear c21
             obtain ⟨y149, hy_⟩ : ∃ y_ : List (S34), y_ = ([]) := ⟨_, rfl⟩
             replace H : (close_Fall.l2 k2 a0 y149 l1 (l1.length : Int) 0) = some (r1, r2, r3) := h2
             have Ny149 := Aside0.mk hy_; clear hy_
             have H' := Aside0.mk H
             clear H
             go_wp2_with (first | ((with_reducible refine gate_dst (N := 56) rfl ?_); (try (refine gate_guard (by rfl) ?_; dsimp only)); refine XWords.S_make0 k34 _ 34 rfl (N := 56) rfl 24 _ _ rfl (l1.length : Int) rfl rfl Try.underlying24 (.agg #[(.string ⟨#[]⟩), (.slice none 0 0)]) 40 info34 (by omega) (ok := fun _ => True) trivial (od) (Nat.le_trans (Nat.mul_le_mul_right _ (od : (l1.length : Int).toNat ≤ 7036874417766)) (by omega)) (Below.refl _ _) (Nat.le_refl _) ?_; intro v150 w22 ho23 hb hg_ hnew_; clear hg_ hnew_; (first | rw [← Ny149.out] at ho23 | (simp only [Int.reduceToNat] at ho23; rw [← Ny149.out] at ho23)); have HO151 := aK (Kd.S_lower ho23 (below_size (gB HB))); replace HB := aK (below_step (gB HB) hb); clear hb ho23))
             go_loopg [0, 11, 59] k2 (fun kq v0 v11 v59 w' => ∃ (x0_3 : Int) (x11_3 : List (S34)) (x59_3 : Int), v0 = .int .i64 x0_3 ∧ v59 = .int .i64 x59_3 ∧ Aside0 (close_Fall.l2 kq x0_3 x11_3 l1 (l1.length : Int) x59_3 = some (r1, r2, r3)) ∧ Aside0 (kq ≤ k2) ∧ Aside0 (Kd.S k34 34 w' w.heap.size (fun _ => True) v11 x11_3) ∧ Aside0 (Below w.heap.size w w'))
             case atStart => exact ⟨(a0), (y149), (0), ac, ac, H', ⟨Nat.le_refl _⟩, ⟨by (with_reducible repeat (first | apply Kd.S_alloc | apply Kd.S_drewN | apply Kd.S_drew)); exact HO151.out⟩, ⟨gB HB⟩⟩
             case round =>
              clear H'; (try clear c1); (try clear c6); (try clear c7); (try clear c7b0); (try clear c20); (try clear c20b0); (try clear c20b1); (try clear c21); (try clear c21b0); (try clear c21b1)
              obtain ⟨x0_3, x11_3, x59_3, rfl, rfl, HA, HK3, HO_11, HB⟩ := hrel
              cases gk with
              | zero => exact absurd HA.out (by simp [close_Fall.l2])
              | succ k3 =>
               have H := HA.out
               clear HA
               simp only [close_Fall.l2] at H
               by_cases c24 : x59_3 < (l1.length : Int)
               · rw [if_pos c24] at H
                 have c24b0 := dT c24
                 clear c24
                 by_cases c25 : 0 ≤ x59_3
                 · rw [if_pos c25] at H
                   have c25b0 := dT c25
                   clear c25
                   by_cases c26 : x59_3 < (l1.length : Int)
                   · rw [if_pos c26] at H
                     have c26b0 := dT c26
                     clear c26
                     replace H := Option.bind_eq_some_iff.mp H
                     obtain ⟨⟨t154, t155⟩, A270, H⟩ := H
                     replace H : ((q26q.f ((rd_T67 l1 x59_3).f1)).bind fun t156 => (if (mn x0_3 t154) < t154 then ((q12q.f k3 (mn x0_3 t154) ((rd_T67 l1 x59_3).f1)).bind fun bt160 => (if x11_3.length < 3518437208883 then (close_Fall.l2 k3 (wrap64 (x0_3 - (mn x0_3 t154))) (x11_3 ++ [(⟨(rd_T67 l1 x59_3).f0, bt160.1⟩ : S34)]) l1 (l1.length : Int) (wrap64 (x59_3 + 1))) else (none))) else (if x11_3.length < 3518437208883 then (close_Fall.l2 k3 (wrap64 (x0_3 - (mn x0_3 t154))) (x11_3 ++ [(⟨(rd_T67 l1 x59_3).f0, t156⟩ : S34)]) l1 (l1.length : Int) (wrap64 (x59_3 + 1))) else (none)))) = some (r1, r2, r3) := H
                     have A27 := Aside0.mk A270; clear A270
                     replace H := Option.bind_eq_some_iff.mp H
                     obtain ⟨t156, A280, H⟩ := H
                     replace H : (if (mn x0_3 t154) < t154 then ((q12q.f k3 (mn x0_3 t154) ((rd_T67 l1 x59_3).f1)).bind fun bt160 => (if x11_3.length < 3518437208883 then (close_Fall.l2 k3 (wrap64 (x0_3 - (mn x0_3 t154))) (x11_3 ++ [(⟨(rd_T67 l1 x59_3).f0, bt160.1⟩ : S34)]) l1 (l1.length : Int) (wrap64 (x59_3 + 1))) else (none))) else (if x11_3.length < 3518437208883 then (close_Fall.l2 k3 (wrap64 (x0_3 - (mn x0_3 t154))) (x11_3 ++ [(⟨(rd_T67 l1 x59_3).f0, t156⟩ : S34)]) l1 (l1.length : Int) (wrap64 (x59_3 + 1))) else (none))) = some (r1, r2, r3) := H
                     have A28 := Aside0.mk A280; clear A280
                     obtain ⟨ji29, hji29⟩ : ∃ j_ : Int, (mn x0_3 t154) = j_ := ⟨_, rfl⟩
                     replace H : (if (ji29) < t154 then ((q12q.f k3 (ji29) ((rd_T67 l1 x59_3).f1)).bind fun bt160 => (if x11_3.length < 3518437208883 then (close_Fall.l2 k3 (wrap64 (x0_3 - (ji29))) (x11_3 ++ [(⟨(rd_T67 l1 x59_3).f0, bt160.1⟩ : S34)]) l1 (l1.length : Int) (wrap64 (x59_3 + 1))) else (none))) else (if x11_3.length < 3518437208883 then (close_Fall.l2 k3 (wrap64 (x0_3 - (ji29))) (x11_3 ++ [(⟨(rd_T67 l1 x59_3).f0, t156⟩ : S34)]) l1 (l1.length : Int) (wrap64 (x59_3 + 1))) else (none))) = some (r1, r2, r3) := by first | (rw [hji29] at H; exact H) | (simp only [hji29] at H ⊢; exact H)
                     (try rw [hji29] at A27)
                     (try rw [hji29] at A28)
                     have hji29_ : (if t154 < x0_3 then t154 else x0_3) = ji29 := hji29
                     by_cases c30 : (ji29) < t154
                     · rw [if_pos c30] at H
                       have c30b0 := dT c30
                       clear c30
                       replace H := Option.bind_eq_some_iff.mp H
                       obtain ⟨⟨t160, t161⟩, A310, H⟩ := H
                       replace H : (if x11_3.length < 3518437208883 then (close_Fall.l2 k3 (wrap64 (x0_3 - (ji29))) (x11_3 ++ [(⟨(rd_T67 l1 x59_3).f0, t160⟩ : S34)]) l1 (l1.length : Int) (wrap64 (x59_3 + 1))) else (none)) = some (r1, r2, r3) := H
                       have A31 := Aside0.mk A310; clear A310
                       by_cases c32 : x11_3.length < 3518437208883
                       · rw [if_pos c32] at H
                         have LMc32 := Aside0.mk c32; clear c32
                         obtain ⟨y164, hy_⟩ : ∃ y_ : List (S34), y_ = (x11_3 ++ [(⟨(rd_T67 l1 x59_3).f0, t160⟩ : S34)]) := ⟨_, rfl⟩
                         replace H : (close_Fall.l2 k3 (wrap64 (x0_3 - (ji29))) y164 l1 (l1.length : Int) (wrap64 (x59_3 + 1))) = some (r1, r2, r3) := h2
                         have Ny164 := Aside0.mk hy_; clear hy_
                         have H' := Aside0.mk H
                         clear H
                         have p152 : 0 ≤ (x59_3 : Int) := od
                         have q152 : x59_3 < (l1.length : Int) := od
                         obtain ⟨ad152, A152_1, c152_1, e152, hx152_0, hx152_1, hl152_1, hi152_1⟩ := at_T67 HR1.out x59_3 p152 q152
                         cases e152
                         replace hx152_0 := gc HB hx152_0
                         replace hx152_1 := gc HB hx152_1
                         have HR152_1 := Aside0.mk hi152_1; have HC152_1 := Aside0.mk hl152_1; clear hi152_1 hl152_1; replace p152 := eq_true p152; replace q152 := eq_true q152
                         try go_wp2_with (first | ((with_reducible refine gate_dst (N := 13) rfl ?_); (try (refine gate_guard (by rfl) ?_; dsimp only)); refine box_event ?hg (N := 13) ?hd (cs := #[.string (⟨#[]⟩ : ByteArray), .slice none 0 0]) (t := 67) ?hr ?_; (case hd => rfl); (case hg => rfl); (case hr => first | (go_simp; done) | (go_simp; rfl) | (have hcq := hcq_.out; have hfq := hfq_.out; go_simp; done)); intro gb153 hg w33 hbox hb; replace HO_11 := aK (Kd.S_below (by (with_reducible repeat (first | apply Kd.S_alloc | apply Kd.S_drewN | apply Kd.S_drew)); exact HO_11.out) hb); have BK153 := aK (hbox); have GW153 := aK ((by rw [hg]; exact (below_size (gB HB)) : w.heap.size ≤ gb153)); have GE153 := aK ((by rw [hg]; exact (below_size (gB HB)) : w.heap.size ≤ gb153)); replace HB := aK (below_step (gB HB) hb); clear hb hbox hg; have hcz34_0 : w33.cell? ⟨gb153, 0, none⟩ = some (.string (⟨#[]⟩ : ByteArray)) := (blk_cell BK153.out 0).trans rfl; have hcz34_1 : w33.cell? ⟨gb153, 1, none⟩ = some (.slice none 0 0) := (blk_cell BK153.out 1).trans rfl; have hfz34_0 := blk_frozen BK153.out 0; have hfz34_1 := blk_frozen BK153.out 1) | ((with_reducible refine gate_callee (f := 22) rfl ?_); refine goesL_ (some 66) rfl rfl Try.func22 (by kernel_rfl) rfl #[.slice A152_1 ((rd_T67 l1 x59_3).f1).length c152_1] rfl am ?_; (with_reducible refine (fixnum_Sum.calls k3 _ _ ((rd_T67 l1 x59_3).f1) t154 t155 _ ?side1 ?side2 A27.out).mono ?_); (case side1 => exact Kd.C_below HR152_1.out (gS HB)); (case side2 => exact HC152_1.out); rintro e w' ⟨rfl, ⟨nd, rfl⟩⟩; refine ⟨_, rfl, ?_⟩))
                         have n0_ : Aside0 (Kd.S k34 34 ((w33.setCell ⟨gb153, 0, none⟩ (.string ((rd_T67 l1 x59_3).f0))).setCell ⟨gb153, 1, none⟩ (.slice A152_1 ((rd_T67 l1 x59_3).f1).length c152_1)) w.heap.size (fun _ => True) u11 x11_3) := ⟨by (with_reducible repeat (first | apply Kd.S_alloc | apply Kd.S_drewN | apply Kd.S_drew)); exact Kd.S_mono (Kd.S_far (p := ⟨gb153, 1, none⟩) (Kd.S_far (p := ⟨gb153, 0, none⟩) (Kd.S_types HO_11.out BK153.out (by decide)) (fun _ hk => hk.2) (.string ((rd_T67 l1 x59_3).f0))) (fun _ hk => hk.2) (.slice A152_1 ((rd_T67 l1 x59_3).f1).length c152_1)) (fun _ hk => trivial)⟩
                         have n1_ : Aside0 (((w33.setCell ⟨gb153, 0, none⟩ (.string ((rd_T67 l1 x59_3).f0))).setCell ⟨gb153, 1, none⟩ (.slice A152_1 ((rd_T67 l1 x59_3).f1).length c152_1)).heap[gb153]? = some (.cells #[.string ((rd_T67 l1 x59_3).f0), .slice A152_1 ((rd_T67 l1 x59_3).f1).length c152_1] 67 (0, 0))) := ⟨by (with_reducible repeat (first | refine blk_drewN ?_ _ | refine blk_drew ?_ | refine blk_alloc ?_ _)); refine blk_put (cs := #[.string ((rd_T67 l1 x59_3).f0), .slice none 0 0]) ?_ 1 _ rfl; (with_reducible repeat (first | refine blk_drewN ?_ _ | refine blk_drew ?_ | refine blk_alloc ?_ _)); refine blk_put (cs := #[.string (⟨#[]⟩ : ByteArray), .slice none 0 0]) ?_ 0 _ rfl; (with_reducible repeat (first | refine blk_drewN ?_ _ | refine blk_drew ?_ | refine blk_alloc ?_ _)); exact BK153.out⟩
                         have n2_ : Aside0 (Below w.heap.size w ((w33.setCell ⟨gb153, 0, none⟩ (.string ((rd_T67 l1 x59_3).f0))).setCell ⟨gb153, 1, none⟩ (.slice A152_1 ((rd_T67 l1 x59_3).f1).length c152_1))) := ⟨gS HB⟩
                         try clear HO_11
                         try clear BK153
                         try clear HB
                         first | (have hzw35_1 : ((w33.setCell ⟨gb153, 0, none⟩ (.string ((rd_T67 l1 x59_3).f0))).setCell ⟨gb153, 1, none⟩ (.slice A152_1 ((rd_T67 l1 x59_3).f1).length c152_1)).cell? ⟨gb153, 1, none⟩ = some (.slice A152_1 ((rd_T67 l1 x59_3).f1).length c152_1) := (by first | exact XWords.cell_here (by first | (with_reducible assumption) | assumption) _ | (go_simp; done)); generalize ((w33.setCell ⟨gb153, 0, none⟩ (.string ((rd_T67 l1 x59_3).f0))).setCell ⟨gb153, 1, none⟩ (.slice A152_1 ((rd_T67 l1 x59_3).f1).length c152_1)) = w35 at n0_ n1_ n2_ hzw35_1 ⊢) | generalize ((w33.setCell ⟨gb153, 0, none⟩ (.string ((rd_T67 l1 x59_3).f0))).setCell ⟨gb153, 1, none⟩ (.slice A152_1 ((rd_T67 l1 x59_3).f1).length c152_1)) = w35 at n0_ n1_ n2_ ⊢
                         have HO_11 := n0_
                         have BK153 := n1_
                         have HB := n2_
                         clear n0_ n1_ n2_
                         (try (rw [drewN_self w35]; generalize hq_ : World.drewN w35 _ = w35; have hcq := XWords.cell_at hq_; have hfq := XWords.frozen_at hq_; have n0_ : Aside0 (Kd.S k34 34 w35 w.heap.size (fun _ => True) u11 x11_3) := ⟨by rw [← hq_]; exact (by (with_reducible repeat (first | apply Kd.S_alloc | apply Kd.S_drewN | apply Kd.S_drew)); exact HO_11.out)⟩; have n1_ : Aside0 (w35.heap[gb153]? = some (.cells #[.string ((rd_T67 l1 x59_3).f0), .slice A152_1 ((rd_T67 l1 x59_3).f1).length c152_1] 67 (0, 0))) := ⟨by rw [← hq_]; exact (gK BK153)⟩; have n2_ : Aside0 (Below w.heap.size w w35) := ⟨by rw [← hq_]; exact (gS HB)⟩; clear HO_11 BK153 HB hq_; have HO_11 := n0_; have BK153 := n1_; have HB := n2_; clear n0_ n1_ n2_))
                         have n0_ := aK (Kd.S_drew HO_11.out)
                         have n1_ := aK (blk_drew BK153.out)
                         have n2_ := aK (below_drew1 HB.out)
                         clear HO_11; clear BK153; clear HB
                         have HO_11 := n0_
                         have BK153 := n1_
                         have HB := n2_
                         clear n0_ n1_ n2_
                         refine start_ (n := 8) (S := fun w' => w'.cell? ⟨gb153, 0, none⟩ = some (.string ((rd_T67 l1 x59_3).f0)) ∧ w'.cell? ⟨gb153, 1, none⟩ = some (.slice A152_1 ((rd_T67 l1 x59_3).f1).length c152_1)) (ds := []) (pf 8 0) (by kernel_rfl) rfl rfl ⟨(blk_cell BK153.out 0).trans rfl, (blk_cell BK153.out 1).trans rfl⟩ (fun hHeld => ?_); refine with_tabW close_Fall.tab20 close_Fall.bits20 (fun HT_ HW_ => ?_)
                         generalize w35.drew = w36 at HO_11 BK153 HB hHeld ⊢
                         refine pA (i := 0) (N := some 69) HT_ (pf 8 1) ?_
                         refine pA (i := 2) (N := some 71) HT_ (ba 8 5) ?_
                         refine take_ (i := 1) (N := some 70) (v := ?_) (a' := ?_) (pf 8 3) rfl rfl (take_ofW HT_.out HW_.out (by kernel_rfl)) (fun _ _ _ h => h) (Or.inl ⟨by rfl, ?_⟩) hHeld ?_ ?_
                         rotate_left
                         · rintro w' ⟨s0, s1⟩
                           go_simp
                           with_reducible rfl
                         rotate_left
                         · simp only [Act.put, sA, sB, sC, i64_w, i32_w]
                           rfl
                         refine take_ (i := 3) (N := some 72) (v := ?_) (a' := ?_) (pf 8 4) rfl rfl (take_ofW HT_.out HW_.out (by kernel_rfl)) (fun _ _ _ h => h) (Or.inl ⟨by rfl, ?_⟩) hHeld ?_ ?_
                         rotate_left
                         · rintro w' ⟨s0, s1⟩
                           go_simp
                           with_reducible rfl
                         rotate_left
                         · simp only [Act.put, sA, sB, sC, i64_w, i32_w]
                           rfl
                         refine join_ (σ := Value × Nat) 1 (pf 8 7) (fun s_ => [(73, s_.1), (16, .pointer (some ⟨s_.2, 0, none⟩)), (74, .agg #[.string ((rd_T67 l1 x59_3).f0), s_.1])]) (fun s_ w' => (w'.cell? ⟨gb153, 0, none⟩ = some (.string ((rd_T67 l1 x59_3).f0)) ∧ w'.cell? ⟨gb153, 1, none⟩ = some (.slice A152_1 ((rd_T67 l1 x59_3).f1).length c152_1)) ∧ (Kd.R (Kd.int .i64) 3 w' w.heap.size (fun _ => True) s_.1 t156) ∧ (Kd.S k34 34 w' w.heap.size (fun k_ => some k_ ≠ (s_.1 : Value).ownBlock ∧ k_ ≠ s_.2) u11 x11_3) ∧ (w'.heap[gb153]? = some (.cells #[.string ((rd_T67 l1 x59_3).f0), .slice A152_1 ((rd_T67 l1 x59_3).f1).length c152_1] 67 (0, 0))) ∧ (w'.heap[s_.2]? = some (.cells #[.string (⟨#[]⟩ : ByteArray), .slice none 0 0] 34 (0, 0))) ∧ (w.heap.size ≤ s_.2) ∧ (w.heap.size ≤ s_.2) ∧ (gb153 ≠ s_.2) ∧ (s_.2 ≠ gb153) ∧ (Below w.heap.size w w')) ?_ ?_
                         rotate_left
                         · intro hCont
                           refine two_ (i := 4) (j := 6) (Ni := some 73) (Nj := some 16) (pf 8 5) (ba 8 79) rfl rfl rfl rfl (two_of HT_.out (by kernel_rfl)) (by decide) (by decide) (fun K hK => ?_) (fun K hK => ?_)
                           · skip
                             refine goes_ Try.func23 (by kernel_rfl) rfl #[.slice A152_1 ((rd_T67 l1 x59_3).f1).length c152_1] (by rfl) rfl rfl am ?_
                             with_reducible refine (q26q.calls _ _ ((rd_T67 l1 x59_3).f1) t156 _ ?side1 ?side2 A28.out).mono ?_
                             (case side1 => exact gC HR152_1 HB)
                             (case side2 => exact HC152_1.out)
                             rintro e w37 ⟨v157, rfl, ho0, hb⟩
                             refine ⟨_, rfl, ?_⟩
                             have n0_ := aK (Kd.S_elder' (by (with_reducible repeat (first | apply Kd.S_alloc | apply Kd.S_drewN | apply Kd.S_drew)); exact HO_11.out) (Kd.R_base ho0) hb)
                             have n1_ := aK (Kd.R_lower ho0 (below_size (gS HB)))
                             have n2_ := aK (blk_below (g := gb153) (o := .cells #[.string ((rd_T67 l1 x59_3).f0), .slice A152_1 ((rd_T67 l1 x59_3).f1).length c152_1] 67 (0, 0)) (gK BK153) hb)
                             have n3_ := aK (below_step (gS HB) hb)
                             clear HO_11; clear BK153; clear HB
                             have HO_11 := n0_
                             have HO158 := n1_
                             have BK153 := n2_
                             have HB := n3_
                             clear n0_ n1_ n2_ n3_
                             try clear hb
                             try clear hb2
                             try clear hk
                             try clear hi
                             try clear ho0
                             obtain ⟨Ao38, co38, eo38⟩ := Kd.R_slice HO158.out
                             (first | subst eo38 | (injection eo38 with f1_ f2_ f3_; have f4_ := f1_.symm; have f5_ := f3_.symm; clear f1_ f2_ f3_; subst f4_; subst f5_))
                             refine hK.out _ _ ⟨(blk_cell BK153.out 0).trans rfl, (blk_cell BK153.out 1).trans rfl⟩ (fun hHeld => ?_)
                             clear hK K
                             refine norm_ (a' := ?_) ?_ ?_
                             rotate_left
                             · show Act.put _ (some 73) _ = _
                               simp only [Act.put, sA, sB, sC, i64_w, i32_w]
                               rfl
                             refine pA (i := 5) (N := some 74) HT_ (pf 8 6) ?_
                             refine one_ (i := 6) (N := some 16) (pf 8 7) rfl rfl (one_of HT_.out (by kernel_rfl)) (by decide) (fun K hK => ?_)
                             refine box_step ?hg (N := 16) ?hd (cs := #[.string (⟨#[]⟩ : ByteArray), .slice none 0 0]) (t := 34) ?hr ?_; (case hd => rfl); (case hg => rfl); (case hr => first | (go_simp; done) | (go_simp; rfl) | (have hcq := hcq_.out; have hfq := hfq_.out; go_simp; done))
                             intro gb159 hg w39 hbox hb
                             have n0_ := aK (Kd.S_below (Kd.S_elderB (by (with_reducible repeat (first | apply Kd.S_alloc | apply Kd.S_drewN | apply Kd.S_drew)); exact HO_11.out) gb159 (Nat.le_of_eq hg.symm)) hb)
                             have n1_ := aK (Kd.R_below (gR HO158) hb)
                             have n2_ := aK (blk_below (g := gb153) (o := .cells #[.string ((rd_T67 l1 x59_3).f0), .slice A152_1 ((rd_T67 l1 x59_3).f1).length c152_1] 67 (0, 0)) (gK BK153) hb)
                             have n3_ := aK (below_step (gS HB) hb)
                             have n4_ := aK (hbox)
                             have n5_ := aK ((by rw [hg]; exact (below_size (gS HB)) : w.heap.size ≤ gb159))
                             have n6_ := aK ((by rw [hg]; exact (below_size (gS HB)) : w.heap.size ≤ gb159))
                             have n7_ := aK ((by rw [hg]; exact Nat.ne_of_lt (blk_lt (g := gb153) (o := .cells #[.string ((rd_T67 l1 x59_3).f0), .slice A152_1 ((rd_T67 l1 x59_3).f1).length c152_1] 67 (0, 0)) (gK BK153)) : gb153 ≠ gb159))
                             have n8_ := aK ((by rw [hg]; exact Nat.ne_of_gt (blk_lt (g := gb153) (o := .cells #[.string ((rd_T67 l1 x59_3).f0), .slice A152_1 ((rd_T67 l1 x59_3).f1).length c152_1] 67 (0, 0)) (gK BK153)) : gb159 ≠ gb153))
                             clear HO_11; clear HO158; clear BK153; clear HB
                             have HO_11 := n0_
                             have HO158 := n1_
                             have BK153 := n2_
                             have HB := n3_
                             have BK159 := n4_
                             have GW159 := n5_
                             have GE159 := n6_
                             have NB153_159 := n7_
                             have NB159_153 := n8_
                             clear n0_ n1_ n2_ n3_ n4_ n5_ n6_ n7_ n8_; clear hb hbox hg
                             refine hK.out _ _ ⟨(blk_cell BK153.out 0).trans rfl, (blk_cell BK153.out 1).trans rfl⟩ (fun hHeld => ?_)
                             clear hK K
                             refine norm_ (a' := ?_) ?_ ?_
                             rotate_left
                             · show Act.put _ (some 16) _ = _
                               simp only [Act.put, sA, sB, sC, i64_w, i32_w]
                               rfl
                             exact norm_ (by simp only [putAll, Act.put, sA, sB, sC]) (hCont (.slice Ao38 t156.length co38, gb159) _ ⟨hHeld, (gR HO158), (by (with_reducible repeat (first | apply Kd.S_alloc | apply Kd.S_drewN | apply Kd.S_drew)); exact Kd.S_mono HO_11.out (fun _ hk => ⟨hk.1.2, hk.2⟩)), (gK BK153), (gK BK159), GW159.out, GE159.out, NB153_159.out, NB159_153.out, (gS HB)⟩)
                           · skip
                             refine box_step ?hg (N := 16) ?hd (cs := #[.string (⟨#[]⟩ : ByteArray), .slice none 0 0]) (t := 34) ?hr ?_; (case hd => rfl); (case hg => rfl); (case hr => first | (go_simp; done) | (go_simp; rfl) | (have hcq := hcq_.out; have hfq := hfq_.out; go_simp; done))
                             intro gb159 hg w37 hbox hb
                             have n0_ := aK (Kd.S_below (Kd.S_elderB (by (with_reducible repeat (first | apply Kd.S_alloc | apply Kd.S_drewN | apply Kd.S_drew)); exact HO_11.out) gb159 (Nat.le_of_eq hg.symm)) hb)
                             have n1_ := aK (blk_below (g := gb153) (o := .cells #[.string ((rd_T67 l1 x59_3).f0), .slice A152_1 ((rd_T67 l1 x59_3).f1).length c152_1] 67 (0, 0)) (gK BK153) hb)
                             have n2_ := aK (below_step (gS HB) hb)
                             have n3_ := aK (hbox)
                             have n4_ := aK ((by rw [hg]; exact (below_size (gS HB)) : w.heap.size ≤ gb159))
                             have n5_ := aK ((by rw [hg]; exact (below_size (gS HB)) : w.heap.size ≤ gb159))
                             have n6_ := aK ((by rw [hg]; exact Nat.ne_of_lt (blk_lt (g := gb153) (o := .cells #[.string ((rd_T67 l1 x59_3).f0), .slice A152_1 ((rd_T67 l1 x59_3).f1).length c152_1] 67 (0, 0)) (gK BK153)) : gb153 ≠ gb159))
                             have n7_ := aK ((by rw [hg]; exact Nat.ne_of_gt (blk_lt (g := gb153) (o := .cells #[.string ((rd_T67 l1 x59_3).f0), .slice A152_1 ((rd_T67 l1 x59_3).f1).length c152_1] 67 (0, 0)) (gK BK153)) : gb159 ≠ gb153))
                             clear HO_11; clear BK153; clear HB
                             have HO_11 := n0_
                             have BK153 := n1_
                             have HB := n2_
                             have BK159 := n3_
                             have GW159 := n4_
                             have GE159 := n5_
                             have NB153_159 := n6_
                             have NB159_153 := n7_
                             clear n0_ n1_ n2_ n3_ n4_ n5_ n6_ n7_; clear hb hbox hg
                             refine hK.out _ _ ⟨(blk_cell BK153.out 0).trans rfl, (blk_cell BK153.out 1).trans rfl⟩ (fun hHeld => ?_)
                             clear hK K
                             refine norm_ (a' := ?_) ?_ ?_
                             rotate_left
                             · show Act.put _ (some 16) _ = _
                               simp only [Act.put, sA, sB, sC, i64_w, i32_w]
                               rfl
                             refine one_ (i := 4) (N := some 73) (ba 8 95) rfl rfl (one_of HT_.out (by kernel_rfl)) (by decide) (fun K hK => ?_)
                             refine goes_ Try.func23 (by kernel_rfl) rfl #[.slice A152_1 ((rd_T67 l1 x59_3).f1).length c152_1] (by rfl) rfl rfl am ?_
                             with_reducible refine (q26q.calls _ _ ((rd_T67 l1 x59_3).f1) t156 _ ?side1 ?side2 A28.out).mono ?_
                             (case side1 => exact gC HR152_1 HB)
                             (case side2 => exact HC152_1.out)
                             rintro e w38 ⟨v157, rfl, ho0, hb⟩
                             refine ⟨_, rfl, ?_⟩
                             have n0_ := aK (Kd.S_elder' (by (with_reducible repeat (first | apply Kd.S_alloc | apply Kd.S_drewN | apply Kd.S_drew)); exact HO_11.out) (Kd.R_base ho0) hb)
                             have n1_ := aK (Kd.R_lower ho0 (below_size (gS HB)))
                             have n2_ := aK (blk_below (g := gb153) (o := .cells #[.string ((rd_T67 l1 x59_3).f0), .slice A152_1 ((rd_T67 l1 x59_3).f1).length c152_1] 67 (0, 0)) (gK BK153) hb)
                             have n3_ := aK (blk_below (g := gb159) (o := .cells #[.string (⟨#[]⟩ : ByteArray), .slice none 0 0] 34 (0, 0)) (gK BK159) hb)
                             have n4_ := aK (below_step (gS HB) hb)
                             clear HO_11; clear BK153; clear BK159; clear HB
                             have HO_11 := n0_
                             have HO158 := n1_
                             have BK153 := n2_
                             have BK159 := n3_
                             have HB := n4_
                             clear n0_ n1_ n2_ n3_ n4_
                             try clear hb
                             try clear hb2
                             try clear hk
                             try clear hi
                             try clear ho0
                             obtain ⟨Ao39, co39, eo39⟩ := Kd.R_slice HO158.out
                             (first | subst eo39 | (injection eo39 with f1_ f2_ f3_; have f4_ := f1_.symm; have f5_ := f3_.symm; clear f1_ f2_ f3_; subst f4_; subst f5_))
                             refine hK.out _ _ ⟨(blk_cell BK153.out 0).trans rfl, (blk_cell BK153.out 1).trans rfl⟩ (fun hHeld => ?_)
                             clear hK K
                             refine norm_ (a' := ?_) ?_ ?_
                             rotate_left
                             · show Act.put _ (some 73) _ = _
                               simp only [Act.put, sA, sB, sC, i64_w, i32_w]
                               rfl
                             refine pA (i := 5) (N := some 74) HT_ (pf 8 7) ?_
                             exact norm_ (by simp only [putAll, Act.put, sA, sB, sC]) (hCont (.slice Ao39 t156.length co39, gb159) _ ⟨hHeld, (gR HO158), (by (with_reducible repeat (first | apply Kd.S_alloc | apply Kd.S_drewN | apply Kd.S_drew)); exact Kd.S_mono HO_11.out (fun _ hk => ⟨hk.2, hk.1.2⟩)), (gK BK153), (gK BK159), GW159.out, GE159.out, NB153_159.out, NB159_153.out, (gS HB)⟩)
                         rintro ⟨v157, gb159⟩ w40 ⟨hS_, h0_, h1_, h2_, h3_, h4_, h5_, h6_, h7_, h8_⟩
                         have n0_ : Aside0 (Kd.R (Kd.int .i64) 3 w40 w.heap.size (fun _ => True) v157 t156) := ⟨h0_⟩
                         have n1_ : Aside0 (Kd.S k34 34 w40 w.heap.size (fun k_ => some k_ ≠ (v157 : Value).ownBlock ∧ k_ ≠ gb159) u11 x11_3) := ⟨h1_⟩
                         have n2_ : Aside0 (w40.heap[gb153]? = some (.cells #[.string ((rd_T67 l1 x59_3).f0), .slice A152_1 ((rd_T67 l1 x59_3).f1).length c152_1] 67 (0, 0))) := ⟨h2_⟩
                         have n3_ : Aside0 (w40.heap[gb159]? = some (.cells #[.string (⟨#[]⟩ : ByteArray), .slice none 0 0] 34 (0, 0))) := ⟨h3_⟩
                         have n4_ : Aside0 (w.heap.size ≤ gb159) := ⟨h4_⟩
                         have n5_ : Aside0 (w.heap.size ≤ gb159) := ⟨h5_⟩
                         have n6_ : Aside0 (gb153 ≠ gb159) := ⟨h6_⟩
                         have n7_ : Aside0 (gb159 ≠ gb153) := ⟨h7_⟩
                         have n8_ : Aside0 (Below w.heap.size w w40) := ⟨h8_⟩
                         clear HO_11; clear BK153; clear HB; clear h0_ h1_ h2_ h3_ h4_ h5_ h6_ h7_ h8_
                         have HO158 := n0_
                         have HO_11 := n1_
                         have BK153 := n2_
                         have BK159 := n3_
                         have GW159 := n4_
                         have GE159 := n5_
                         have NB153_159 := n6_
                         have NB159_153 := n7_
                         have HB := n8_
                         clear n0_ n1_ n2_ n3_ n4_ n5_ n6_ n7_ n8_
                         have hHeld : w40.cell? ⟨gb153, 0, none⟩ = some (.string ((rd_T67 l1 x59_3).f0)) ∧ w40.cell? ⟨gb153, 1, none⟩ = some (.slice A152_1 ((rd_T67 l1 x59_3).f1).length c152_1) := hS_
                         obtain ⟨Ao41, co41, eo41⟩ := Kd.R_slice HO158.out
                         (first | subst eo41 | (injection eo41 with f1_ f2_ f3_; have f4_ := f1_.symm; have f5_ := f3_.symm; clear f1_ f2_ f3_; subst f4_; subst f5_))
                         refine norm_ (a' := ?_) ?_ ?_
                         rotate_left
                         · simp only [putAll, Act.put, sA, sB, sC]
                           rfl
                         refine one_ (i := 7) (N := none) (pf 8 8) rfl rfl (one_of HT_.out (by kernel_rfl)) (by decide) (fun K hK => ?_)
                         have hs42 : w40.cell? ⟨gb159, 0, none⟩ = some (.string (⟨#[]⟩ : ByteArray)) := (blk_cell BK159.out 0).trans rfl
                         have hfs42 := blk_frozen BK159.out 0
                         have hns42_0 := NB153_159.out
                         have hms42_0 := NB159_153.out
                         have hs43 : w40.cell? ⟨gb159, 1, none⟩ = some (.slice none 0 0) := (blk_cell BK159.out 1).trans rfl
                         have hfs43 := blk_frozen BK159.out 1
                         have hns43_0 := NB153_159.out
                         have hms43_0 := NB159_153.out
                         refine skip_ (w1 := ?_) (by rfl) rfl ?_ ?_
                         rotate_left
                         · go_simp
                           rfl
                         refine hK.out _ _ ⟨((cell_far (p := ⟨gb159, _, none⟩) NB153_159.out _).trans (((cell_far (p := ⟨gb159, _, none⟩) NB153_159.out _).trans (hHeld.1)))), ((cell_far (p := ⟨gb159, _, none⟩) NB153_159.out _).trans (((cell_far (p := ⟨gb159, _, none⟩) NB153_159.out _).trans (hHeld.2))))⟩ (fun hHeld => ?_)
                         clear hK K
                         refine done_ (done_of HT_.out (by kernel_rfl)) ?_
                         have hnb44 := NB153_159.out
                         have hnc44 := NB159_153.out
                         have hcz45_0 : w40.cell? ⟨gb153, 0, none⟩ = some (.string ((rd_T67 l1 x59_3).f0)) := (blk_cell BK153.out 0).trans rfl
                         have hcz45_1 : w40.cell? ⟨gb153, 1, none⟩ = some (.slice A152_1 ((rd_T67 l1 x59_3).f1).length c152_1) := (blk_cell BK153.out 1).trans rfl
                         have hfz45_0 := blk_frozen BK153.out 0
                         have hfz45_1 := blk_frozen BK153.out 1
                         try go_wp2_with (first | ((with_reducible refine gate_callee (f := 24) rfl ?_); refine goesL_ (some 85) rfl rfl Try.func24 (by kernel_rfl) rfl #[.int .i64 ji29, .slice A152_1 ((rd_T67 l1 x59_3).f1).length c152_1] rfl (by (try simp only [List.map_toArray, List.map_cons, List.map_nil]); first | done | (simp only [hji29]; rfl) | rfl | (simp only [List.length_drop, List.length_take]; rfl)) ?_; (with_reducible refine (q12q.calls k3 ji29 _ _ ((rd_T67 l1 x59_3).f1) t160 t161 _ ?side1 ?side2 A31.out).mono ?_); (case side1 => exact Kd.C_below HR152_1.out (gS HB)); (case side2 => exact HC152_1.out); rintro e w46 ⟨v162, rfl, ho0, hb⟩; refine ⟨_, rfl, ?_⟩; replace HO_11 := aK (Kd.S_elder' (by (with_reducible repeat (first | apply Kd.S_alloc | apply Kd.S_drewN | apply Kd.S_drew)); exact (Kd.S_mono (Kd.S_far (p := ⟨gb159, 1, none⟩) (Kd.S_far (p := ⟨gb159, 0, none⟩) (Kd.S_mono HO_11.out (fun k_ hk => (⟨hk, hk.2⟩ : _ ∧ k_ ≠ gb159))) (fun _ hk => hk.2) (.string ((rd_T67 l1 x59_3).f0))) (fun _ hk => hk.2) (.slice Ao41 t156.length co41)) (fun _ h_ => h_.1))) (Kd.R_base ho0) hb); have HO163 := aK (Kd.R_lower (Kd.R_new' ho0 (Kd.R_lt (gR ⟨(Kd.R_mono (Kd.R_far (p := ⟨gb159, 1, none⟩) (Kd.R_far (p := ⟨gb159, 0, none⟩) (Kd.R_types HO158.out BK159.out (by decide)) (fun _ hk => hk.2) (.string ((rd_T67 l1 x59_3).f0))) (fun _ hk => hk.2) (.slice Ao41 t156.length co41)) (fun _ h_ => h_.1))⟩))) (below_size (gS HB))); replace HO158 := aK (Kd.R_elder' (gR ⟨(Kd.R_mono (Kd.R_far (p := ⟨gb159, 1, none⟩) (Kd.R_far (p := ⟨gb159, 0, none⟩) (Kd.R_types HO158.out BK159.out (by decide)) (fun _ hk => hk.2) (.string ((rd_T67 l1 x59_3).f0))) (fun _ hk => hk.2) (.slice Ao41 t156.length co41)) (fun _ h_ => h_.1))⟩) (Kd.R_base ho0) hb); replace BK153 := aK (blk_below (g := gb153) (o := .cells #[.string ((rd_T67 l1 x59_3).f0), .slice A152_1 ((rd_T67 l1 x59_3).f1).length c152_1] 67 (0, 0)) (by (with_reducible repeat (first | refine blk_drewN ?_ _ | refine blk_drew ?_ | refine blk_alloc ?_ _)); refine blk_far ?_ NB153_159.out _; (with_reducible repeat (first | refine blk_drewN ?_ _ | refine blk_drew ?_ | refine blk_alloc ?_ _)); refine blk_far ?_ NB153_159.out _; (with_reducible repeat (first | refine blk_drewN ?_ _ | refine blk_drew ?_ | refine blk_alloc ?_ _)); exact BK153.out) hb); replace BK159 := aK (blk_below (g := gb159) (o := .cells #[.string ((rd_T67 l1 x59_3).f0), .slice Ao41 t156.length co41] 34 (0, 0)) (by (with_reducible repeat (first | refine blk_drewN ?_ _ | refine blk_drew ?_ | refine blk_alloc ?_ _)); refine blk_put (cs := #[.string ((rd_T67 l1 x59_3).f0), .slice none 0 0]) ?_ 1 _ rfl; (with_reducible repeat (first | refine blk_drewN ?_ _ | refine blk_drew ?_ | refine blk_alloc ?_ _)); refine blk_put (cs := #[.string (⟨#[]⟩ : ByteArray), .slice none 0 0]) ?_ 0 _ rfl; (with_reducible repeat (first | refine blk_drewN ?_ _ | refine blk_drew ?_ | refine blk_alloc ?_ _)); exact BK159.out) hb); replace HB := aK (below_step (gS HB) hb); (try clear hb); (try clear hb2); (try clear hk); (try clear hi); (try clear ho0); obtain ⟨Ao47, co47, eo47⟩ := Kd.R_slice HO163.out; subst eo47; have hcz48_0 : w46.cell? ⟨gb159, 0, none⟩ = some (.string ((rd_T67 l1 x59_3).f0)) := (blk_cell BK159.out 0).trans rfl; have hcz48_1 : w46.cell? ⟨gb159, 1, none⟩ = some (.slice Ao41 t156.length co41) := (blk_cell BK159.out 1).trans rfl; have hfz48_0 := blk_frozen BK159.out 0; have hfz48_1 := blk_frozen BK159.out 1) | ((with_reducible refine gate_store (t := 32) (p := 88) rfl ?_); refine se (t := 32) (p := 88) (w1 := (w46.setCell ⟨gb159, 1, none⟩ (.slice Ao47 t160.length co47))) ?_; intro w49 hw; replace HO_11 : Aside0 (Kd.S k34 34 w49 w.heap.size (fun k_ => some k_ ≠ (.slice Ao41 t156.length co41 : Value).ownBlock ∧ some k_ ≠ (.slice Ao47 t160.length co47 : Value).ownBlock ∧ k_ ≠ gb159) u11 x11_3) := ⟨(by rw [hw]; exact (by (with_reducible repeat (first | apply Kd.S_alloc | apply Kd.S_drewN | apply Kd.S_drew)); exact Kd.S_mono (Kd.S_far (p := ⟨gb159, 1, none⟩) (Kd.S_mono HO_11.out (fun k_ hk => (⟨hk, hk.1.2⟩ : _ ∧ k_ ≠ gb159))) (fun _ hk => hk.2) (.slice Ao47 t160.length co47)) (fun _ hk => ⟨hk.1.1.1, ⟨hk.1.2, hk.1.1.2⟩⟩)))⟩; replace HO158 : Aside0 (Kd.R (Kd.int .i64) 3 w49 w.heap.size (fun k_ => some k_ ≠ (.slice Ao47 t160.length co47 : Value).ownBlock) (.slice Ao41 t156.length co41) t156) := ⟨(by rw [hw]; exact (gR ⟨Kd.R_mono (Kd.R_far (p := ⟨gb159, 1, none⟩) (Kd.R_types HO158.out BK159.out (by decide)) (fun _ hk => hk.2) (.slice Ao47 t160.length co47)) (fun _ hk => hk.1.2)⟩))⟩; replace HO163 : Aside0 (Kd.R (Kd.int .i64) 3 w49 w.heap.size (fun k_ => some k_ ≠ (.slice Ao41 t156.length co41 : Value).ownBlock) (.slice Ao47 t160.length co47) t160) := ⟨(by rw [hw]; exact (gR ⟨Kd.R_mono (Kd.R_far (p := ⟨gb159, 1, none⟩) (Kd.R_types HO163.out BK159.out (by decide)) (fun _ hk => hk.2) (.slice Ao47 t160.length co47)) (fun _ hk => hk.1.2)⟩))⟩; replace BK153 : Aside0 (w49.heap[gb153]? = some (.cells #[.string ((rd_T67 l1 x59_3).f0), .slice A152_1 ((rd_T67 l1 x59_3).f1).length c152_1] 67 (0, 0))) := ⟨(by rw [hw]; exact (by (with_reducible repeat (first | refine blk_drewN ?_ _ | refine blk_drew ?_ | refine blk_alloc ?_ _)); refine blk_far ?_ NB153_159.out _; (with_reducible repeat (first | refine blk_drewN ?_ _ | refine blk_drew ?_ | refine blk_alloc ?_ _)); exact BK153.out))⟩; replace BK159 : Aside0 (w49.heap[gb159]? = some (.cells #[.string ((rd_T67 l1 x59_3).f0), .slice Ao47 t160.length co47] 34 (0, 0))) := ⟨(by rw [hw]; exact (by (with_reducible repeat (first | refine blk_drewN ?_ _ | refine blk_drew ?_ | refine blk_alloc ?_ _)); refine blk_put (cs := #[.string ((rd_T67 l1 x59_3).f0), .slice Ao41 t156.length co41]) ?_ 1 _ rfl; (with_reducible repeat (first | refine blk_drewN ?_ _ | refine blk_drew ?_ | refine blk_alloc ?_ _)); exact BK159.out))⟩; replace HB : Aside0 (Below w.heap.size w w49) := ⟨(by rw [hw]; exact (gS HB))⟩; clear hw; have hcz50_0 : w49.cell? ⟨gb159, 0, none⟩ = some (.string ((rd_T67 l1 x59_3).f0)) := (blk_cell BK159.out 0).trans rfl; have hcz50_1 : w49.cell? ⟨gb159, 1, none⟩ = some (.slice Ao47 t160.length co47) := (blk_cell BK159.out 1).trans rfl; have hfz50_0 := blk_frozen BK159.out 0; have hfz50_1 := blk_frozen BK159.out 1) | ((with_reducible refine q28q (b := .append) (xs := #[.tmp 94, .tmp 96]) rfl ?_); (try (refine gate_guard (by rfl) ?_; dsimp only)); at_builtin; refine Kd.S_append k34 (w0 := w) w.heap.size rfl (.tmp 94) (.tmp 96) 24 34 (.agg #[(.string ⟨#[]⟩), (.slice none 0 0)]) 40 rfl Try.underlying24 info34 rfl (by decide) (by omega) u11 x11_3 (⟨(rd_T67 l1 x59_3).f0, t160⟩ : S34) [.string ((rd_T67 l1 x59_3).f0), .slice Ao47 t160.length co47] (fun k_ => some k_ ≠ (.slice Ao41 t156.length co41 : Value).ownBlock ∧ k_ ≠ gb159) (fun k_ => some k_ = (.slice Ao47 t160.length co47 : Value).ownBlock) rfl rfl ?aP (fun k_ hk_ => ((Kd.R_mono (ok' := fun k_ => ((fun k_ => some k_ ≠ (.slice Ao41 t156.length co41 : Value).ownBlock ∧ k_ ≠ gb159)) k_ ∧ some k_ ≠ (u11 : Value).ownBlock) (Kd.R_types (Kd.R_apart' (HO163.out) (Kd.S_typed HO_11.out) (by decide)) BK159.out (by decide)) (fun k_ hk => ⟨⟨hk.1.1, hk.2⟩, hk.1.2⟩))).1 k_ hk_.symm) ?aF ?aO ?aB ?aS ?aL ?_; (case aP => exact k34_mkM _ _ _ (⟨(rd_T67 l1 x59_3).f0, t160⟩ : S34) (Kd.R_mono (Kd.R_tight rfl (Kd.R_mono (ok' := fun k_ => ((fun k_ => some k_ ≠ (.slice Ao41 t156.length co41 : Value).ownBlock ∧ k_ ≠ gb159)) k_ ∧ some k_ ≠ (u11 : Value).ownBlock) (Kd.R_types (Kd.R_apart' (HO163.out) (Kd.S_typed HO_11.out) (by decide)) BK159.out (by decide)) (fun k_ hk => ⟨⟨hk.1.1, hk.2⟩, hk.1.2⟩))) (fun _ h_ => h_))); (case aB => exact (gS HB)); (case aF => exact (fun k_ hk => ⟨Kd.fresh' (Kd.R_lt (gR HO158)) k_ hk, Kd.freshB (g := gb159) (o := .cells #[.string ((rd_T67 l1 x59_3).f0), .slice Ao47 t160.length co47] 34 (0, 0)) (gK BK159) k_ hk⟩)); (case aO => exact (by (with_reducible repeat (first | apply Kd.S_alloc | apply Kd.S_drewN | apply Kd.S_drew)); exact Kd.S_mono HO_11.out (fun k_ hk => ⟨⟨hk.1, hk.2.2⟩, fun e_ => hk.2.1 e_⟩))); (case aS => exact (below_size (gS HB))); (case aL => have := LMc32.out; omega); intro v165 w51 ho hb hg hat; rw [← Ny164.out] at ho; replace BK153 := aK (blk_grown (g := gb153) (o := .cells #[.string ((rd_T67 l1 x59_3).f0), .slice A152_1 ((rd_T67 l1 x59_3).f1).length c152_1] 67 (0, 0)) (gK BK153) hg (Kd.S_ne HO_11.out BK153.out (by decide))); replace HO158 := aK (Kd.R_over' (gR HO158) (Kd.S_typed (by (with_reducible repeat (first | apply Kd.S_alloc | apply Kd.S_drewN | apply Kd.S_drew)); exact HO_11.out)) (by decide) hg); replace BK159 := aK (blk_grown (g := gb159) (o := .cells #[.string ((rd_T67 l1 x59_3).f0), .slice Ao47 t160.length co47] 34 (0, 0)) (gK BK159) hg (Kd.S_away HO_11.out (fun _ hk => hk.2.2))); replace HB := aK (hb); have HO166 := aK (ho); clear HO_11; clear HO163; clear ho hb hg hat))
                         go_roundg k3
                         case measure => have := HJ2.out; have := HK2.out; have := HK3.out; omega
                         case rel => exact ⟨(wrap64 (x0_3 - (ji29))), (y164), (wrap64 (x59_3 + 1)), (by first | rfl | (simp; done) | (simp only [← hji29] <;> (first | rfl | simp)) | (simp [*]; done)), ac, H', ⟨by have := HJ2.out; have := HK2.out; have := HK3.out; omega⟩, ⟨by (with_reducible repeat (first | apply Kd.S_alloc | apply Kd.S_drewN | apply Kd.S_drew)); exact Kd.S_mono HO166.out (fun _ hk => trivial)⟩, ⟨gS HB⟩⟩
                       · rw [if_neg c32] at H
                         exact absurd H (by simp)
                     · rw [if_neg c30] at H
                       have c30b0 := dF c30
                       clear c30
                       by_cases c52 : x11_3.length < 3518437208883
                       · rw [if_pos c52] at H
                         have LMc52 := Aside0.mk c52; clear c52
                         obtain ⟨y167, hy_⟩ : ∃ y_ : List (S34), y_ = (x11_3 ++ [(⟨(rd_T67 l1 x59_3).f0, t156⟩ : S34)]) := ⟨_, rfl⟩
                         replace H : (close_Fall.l2 k3 (wrap64 (x0_3 - (ji29))) y167 l1 (l1.length : Int) (wrap64 (x59_3 + 1))) = some (r1, r2, r3) := h2
                         have Ny167 := Aside0.mk hy_; clear hy_
                         have H' := Aside0.mk H
                         clear H
                         have p152 : 0 ≤ (x59_3 : Int) := od
                         have q152 : x59_3 < (l1.length : Int) := od
                         obtain ⟨ad152, A152_1, c152_1, e152, hx152_0, hx152_1, hl152_1, hi152_1⟩ := at_T67 HR1.out x59_3 p152 q152
                         cases e152
                         replace hx152_0 := gc HB hx152_0
                         replace hx152_1 := gc HB hx152_1
                         have HR152_1 := Aside0.mk hi152_1; have HC152_1 := Aside0.mk hl152_1; clear hi152_1 hl152_1; replace p152 := eq_true p152; replace q152 := eq_true q152
                         try go_wp2_with (first | ((with_reducible refine gate_dst (N := 13) rfl ?_); (try (refine gate_guard (by rfl) ?_; dsimp only)); refine box_event ?hg (N := 13) ?hd (cs := #[.string (⟨#[]⟩ : ByteArray), .slice none 0 0]) (t := 67) ?hr ?_; (case hd => rfl); (case hg => rfl); (case hr => first | (go_simp; done) | (go_simp; rfl) | (have hcq := hcq_.out; have hfq := hfq_.out; go_simp; done)); intro gb153 hg w53 hbox hb; replace HO_11 := aK (Kd.S_below (by (with_reducible repeat (first | apply Kd.S_alloc | apply Kd.S_drewN | apply Kd.S_drew)); exact HO_11.out) hb); have BK153 := aK (hbox); have GW153 := aK ((by rw [hg]; exact (below_size (gB HB)) : w.heap.size ≤ gb153)); have GE153 := aK ((by rw [hg]; exact (below_size (gB HB)) : w.heap.size ≤ gb153)); replace HB := aK (below_step (gB HB) hb); clear hb hbox hg; have hcz54_0 : w53.cell? ⟨gb153, 0, none⟩ = some (.string (⟨#[]⟩ : ByteArray)) := (blk_cell BK153.out 0).trans rfl; have hcz54_1 : w53.cell? ⟨gb153, 1, none⟩ = some (.slice none 0 0) := (blk_cell BK153.out 1).trans rfl; have hfz54_0 := blk_frozen BK153.out 0; have hfz54_1 := blk_frozen BK153.out 1) | ((with_reducible refine gate_callee (f := 22) rfl ?_); refine goesL_ (some 66) rfl rfl Try.func22 (by kernel_rfl) rfl #[.slice A152_1 ((rd_T67 l1 x59_3).f1).length c152_1] rfl am ?_; (with_reducible refine (fixnum_Sum.calls k3 _ _ ((rd_T67 l1 x59_3).f1) t154 t155 _ ?side1 ?side2 A27.out).mono ?_); (case side1 => exact Kd.C_below HR152_1.out (gS HB)); (case side2 => exact HC152_1.out); rintro e w' ⟨rfl, ⟨nd, rfl⟩⟩; refine ⟨_, rfl, ?_⟩))
                         have n0_ : Aside0 (Kd.S k34 34 ((w53.setCell ⟨gb153, 0, none⟩ (.string ((rd_T67 l1 x59_3).f0))).setCell ⟨gb153, 1, none⟩ (.slice A152_1 ((rd_T67 l1 x59_3).f1).length c152_1)) w.heap.size (fun _ => True) u11 x11_3) := ⟨by (with_reducible repeat (first | apply Kd.S_alloc | apply Kd.S_drewN | apply Kd.S_drew)); exact Kd.S_mono (Kd.S_far (p := ⟨gb153, 1, none⟩) (Kd.S_far (p := ⟨gb153, 0, none⟩) (Kd.S_types HO_11.out BK153.out (by decide)) (fun _ hk => hk.2) (.string ((rd_T67 l1 x59_3).f0))) (fun _ hk => hk.2) (.slice A152_1 ((rd_T67 l1 x59_3).f1).length c152_1)) (fun _ hk => trivial)⟩
                         have n1_ : Aside0 (((w53.setCell ⟨gb153, 0, none⟩ (.string ((rd_T67 l1 x59_3).f0))).setCell ⟨gb153, 1, none⟩ (.slice A152_1 ((rd_T67 l1 x59_3).f1).length c152_1)).heap[gb153]? = some (.cells #[.string ((rd_T67 l1 x59_3).f0), .slice A152_1 ((rd_T67 l1 x59_3).f1).length c152_1] 67 (0, 0))) := ⟨by (with_reducible repeat (first | refine blk_drewN ?_ _ | refine blk_drew ?_ | refine blk_alloc ?_ _)); refine blk_put (cs := #[.string ((rd_T67 l1 x59_3).f0), .slice none 0 0]) ?_ 1 _ rfl; (with_reducible repeat (first | refine blk_drewN ?_ _ | refine blk_drew ?_ | refine blk_alloc ?_ _)); refine blk_put (cs := #[.string (⟨#[]⟩ : ByteArray), .slice none 0 0]) ?_ 0 _ rfl; (with_reducible repeat (first | refine blk_drewN ?_ _ | refine blk_drew ?_ | refine blk_alloc ?_ _)); exact BK153.out⟩
                         have n2_ : Aside0 (Below w.heap.size w ((w53.setCell ⟨gb153, 0, none⟩ (.string ((rd_T67 l1 x59_3).f0))).setCell ⟨gb153, 1, none⟩ (.slice A152_1 ((rd_T67 l1 x59_3).f1).length c152_1))) := ⟨gS HB⟩
                         try clear HO_11
                         try clear BK153
                         try clear HB
                         first | (have hzw55_1 : ((w53.setCell ⟨gb153, 0, none⟩ (.string ((rd_T67 l1 x59_3).f0))).setCell ⟨gb153, 1, none⟩ (.slice A152_1 ((rd_T67 l1 x59_3).f1).length c152_1)).cell? ⟨gb153, 1, none⟩ = some (.slice A152_1 ((rd_T67 l1 x59_3).f1).length c152_1) := (by first | exact XWords.cell_here (by first | (with_reducible assumption) | assumption) _ | (go_simp; done)); generalize ((w53.setCell ⟨gb153, 0, none⟩ (.string ((rd_T67 l1 x59_3).f0))).setCell ⟨gb153, 1, none⟩ (.slice A152_1 ((rd_T67 l1 x59_3).f1).length c152_1)) = w55 at n0_ n1_ n2_ hzw55_1 ⊢) | generalize ((w53.setCell ⟨gb153, 0, none⟩ (.string ((rd_T67 l1 x59_3).f0))).setCell ⟨gb153, 1, none⟩ (.slice A152_1 ((rd_T67 l1 x59_3).f1).length c152_1)) = w55 at n0_ n1_ n2_ ⊢
                         have HO_11 := n0_
                         have BK153 := n1_
                         have HB := n2_
                         clear n0_ n1_ n2_
                         (try (rw [drewN_self w55]; generalize hq_ : World.drewN w55 _ = w55; have hcq := XWords.cell_at hq_; have hfq := XWords.frozen_at hq_; have n0_ : Aside0 (Kd.S k34 34 w55 w.heap.size (fun _ => True) u11 x11_3) := ⟨by rw [← hq_]; exact (by (with_reducible repeat (first | apply Kd.S_alloc | apply Kd.S_drewN | apply Kd.S_drew)); exact HO_11.out)⟩; have n1_ : Aside0 (w55.heap[gb153]? = some (.cells #[.string ((rd_T67 l1 x59_3).f0), .slice A152_1 ((rd_T67 l1 x59_3).f1).length c152_1] 67 (0, 0))) := ⟨by rw [← hq_]; exact (gK BK153)⟩; have n2_ : Aside0 (Below w.heap.size w w55) := ⟨by rw [← hq_]; exact (gS HB)⟩; clear HO_11 BK153 HB hq_; have HO_11 := n0_; have BK153 := n1_; have HB := n2_; clear n0_ n1_ n2_))
                         have n0_ := aK (Kd.S_drew HO_11.out)
                         have n1_ := aK (blk_drew BK153.out)
                         have n2_ := aK (below_drew1 HB.out)
                         clear HO_11; clear BK153; clear HB
                         have HO_11 := n0_
                         have BK153 := n1_
                         have HB := n2_
                         clear n0_ n1_ n2_
                         refine start_ (n := 8) (S := fun w' => w'.cell? ⟨gb153, 0, none⟩ = some (.string ((rd_T67 l1 x59_3).f0)) ∧ w'.cell? ⟨gb153, 1, none⟩ = some (.slice A152_1 ((rd_T67 l1 x59_3).f1).length c152_1)) (ds := []) (pf 8 0) (by kernel_rfl) rfl rfl ⟨(blk_cell BK153.out 0).trans rfl, (blk_cell BK153.out 1).trans rfl⟩ (fun hHeld => ?_); refine with_tabW close_Fall.tab20 close_Fall.bits20 (fun HT_ HW_ => ?_)
                         generalize w55.drew = w56 at HO_11 BK153 HB hHeld ⊢
                         refine pA (i := 0) (N := some 69) HT_ (pf 8 1) ?_
                         refine pA (i := 2) (N := some 71) HT_ (ba 8 5) ?_
                         refine take_ (i := 1) (N := some 70) (v := ?_) (a' := ?_) (pf 8 3) rfl rfl (take_ofW HT_.out HW_.out (by kernel_rfl)) (fun _ _ _ h => h) (Or.inl ⟨by rfl, ?_⟩) hHeld ?_ ?_
                         rotate_left
                         · rintro w' ⟨s0, s1⟩
                           go_simp
                           with_reducible rfl
                         rotate_left
                         · simp only [Act.put, sA, sB, sC, i64_w, i32_w]
                           rfl
                         refine take_ (i := 3) (N := some 72) (v := ?_) (a' := ?_) (pf 8 4) rfl rfl (take_ofW HT_.out HW_.out (by kernel_rfl)) (fun _ _ _ h => h) (Or.inl ⟨by rfl, ?_⟩) hHeld ?_ ?_
                         rotate_left
                         · rintro w' ⟨s0, s1⟩
                           go_simp
                           with_reducible rfl
                         rotate_left
                         · simp only [Act.put, sA, sB, sC, i64_w, i32_w]
                           rfl
                         refine join_ (σ := Value × Nat) 1 (pf 8 7) (fun s_ => [(73, s_.1), (16, .pointer (some ⟨s_.2, 0, none⟩)), (74, .agg #[.string ((rd_T67 l1 x59_3).f0), s_.1])]) (fun s_ w' => (w'.cell? ⟨gb153, 0, none⟩ = some (.string ((rd_T67 l1 x59_3).f0)) ∧ w'.cell? ⟨gb153, 1, none⟩ = some (.slice A152_1 ((rd_T67 l1 x59_3).f1).length c152_1)) ∧ (Kd.R (Kd.int .i64) 3 w' w.heap.size (fun _ => True) s_.1 t156) ∧ (Kd.S k34 34 w' w.heap.size (fun k_ => some k_ ≠ (s_.1 : Value).ownBlock ∧ k_ ≠ s_.2) u11 x11_3) ∧ (w'.heap[gb153]? = some (.cells #[.string ((rd_T67 l1 x59_3).f0), .slice A152_1 ((rd_T67 l1 x59_3).f1).length c152_1] 67 (0, 0))) ∧ (w'.heap[s_.2]? = some (.cells #[.string (⟨#[]⟩ : ByteArray), .slice none 0 0] 34 (0, 0))) ∧ (w.heap.size ≤ s_.2) ∧ (w.heap.size ≤ s_.2) ∧ (gb153 ≠ s_.2) ∧ (s_.2 ≠ gb153) ∧ (Below w.heap.size w w')) ?_ ?_
                         rotate_left
                         · intro hCont
                           refine two_ (i := 4) (j := 6) (Ni := some 73) (Nj := some 16) (pf 8 5) (ba 8 79) rfl rfl rfl rfl (two_of HT_.out (by kernel_rfl)) (by decide) (by decide) (fun K hK => ?_) (fun K hK => ?_)
                           · skip
                             refine goes_ Try.func23 (by kernel_rfl) rfl #[.slice A152_1 ((rd_T67 l1 x59_3).f1).length c152_1] (by rfl) rfl rfl am ?_
                             with_reducible refine (q26q.calls _ _ ((rd_T67 l1 x59_3).f1) t156 _ ?side1 ?side2 A28.out).mono ?_
                             (case side1 => exact gC HR152_1 HB)
                             (case side2 => exact HC152_1.out)
                             rintro e w57 ⟨v157, rfl, ho0, hb⟩
                             refine ⟨_, rfl, ?_⟩
                             have n0_ := aK (Kd.S_elder' (by (with_reducible repeat (first | apply Kd.S_alloc | apply Kd.S_drewN | apply Kd.S_drew)); exact HO_11.out) (Kd.R_base ho0) hb)
                             have n1_ := aK (Kd.R_lower ho0 (below_size (gS HB)))
                             have n2_ := aK (blk_below (g := gb153) (o := .cells #[.string ((rd_T67 l1 x59_3).f0), .slice A152_1 ((rd_T67 l1 x59_3).f1).length c152_1] 67 (0, 0)) (gK BK153) hb)
                             have n3_ := aK (below_step (gS HB) hb)
                             clear HO_11; clear BK153; clear HB
                             have HO_11 := n0_
                             have HO158 := n1_
                             have BK153 := n2_
                             have HB := n3_
                             clear n0_ n1_ n2_ n3_
                             try clear hb
                             try clear hb2
                             try clear hk
                             try clear hi
                             try clear ho0
                             obtain ⟨Ao58, co58, eo58⟩ := Kd.R_slice HO158.out
                             (first | subst eo58 | (injection eo58 with f1_ f2_ f3_; have f4_ := f1_.symm; have f5_ := f3_.symm; clear f1_ f2_ f3_; subst f4_; subst f5_))
                             refine hK.out _ _ ⟨(blk_cell BK153.out 0).trans rfl, (blk_cell BK153.out 1).trans rfl⟩ (fun hHeld => ?_)
                             clear hK K
                             refine norm_ (a' := ?_) ?_ ?_
                             rotate_left
                             · show Act.put _ (some 73) _ = _
                               simp only [Act.put, sA, sB, sC, i64_w, i32_w]
                               rfl
                             refine pA (i := 5) (N := some 74) HT_ (pf 8 6) ?_
                             refine one_ (i := 6) (N := some 16) (pf 8 7) rfl rfl (one_of HT_.out (by kernel_rfl)) (by decide) (fun K hK => ?_)
                             refine box_step ?hg (N := 16) ?hd (cs := #[.string (⟨#[]⟩ : ByteArray), .slice none 0 0]) (t := 34) ?hr ?_; (case hd => rfl); (case hg => rfl); (case hr => first | (go_simp; done) | (go_simp; rfl) | (have hcq := hcq_.out; have hfq := hfq_.out; go_simp; done))
                             intro gb159 hg w59 hbox hb
                             have n0_ := aK (Kd.S_below (Kd.S_elderB (by (with_reducible repeat (first | apply Kd.S_alloc | apply Kd.S_drewN | apply Kd.S_drew)); exact HO_11.out) gb159 (Nat.le_of_eq hg.symm)) hb)
                             have n1_ := aK (Kd.R_below (gR HO158) hb)
                             have n2_ := aK (blk_below (g := gb153) (o := .cells #[.string ((rd_T67 l1 x59_3).f0), .slice A152_1 ((rd_T67 l1 x59_3).f1).length c152_1] 67 (0, 0)) (gK BK153) hb)
                             have n3_ := aK (below_step (gS HB) hb)
                             have n4_ := aK (hbox)
                             have n5_ := aK ((by rw [hg]; exact (below_size (gS HB)) : w.heap.size ≤ gb159))
                             have n6_ := aK ((by rw [hg]; exact (below_size (gS HB)) : w.heap.size ≤ gb159))
                             have n7_ := aK ((by rw [hg]; exact Nat.ne_of_lt (blk_lt (g := gb153) (o := .cells #[.string ((rd_T67 l1 x59_3).f0), .slice A152_1 ((rd_T67 l1 x59_3).f1).length c152_1] 67 (0, 0)) (gK BK153)) : gb153 ≠ gb159))
                             have n8_ := aK ((by rw [hg]; exact Nat.ne_of_gt (blk_lt (g := gb153) (o := .cells #[.string ((rd_T67 l1 x59_3).f0), .slice A152_1 ((rd_T67 l1 x59_3).f1).length c152_1] 67 (0, 0)) (gK BK153)) : gb159 ≠ gb153))
                             clear HO_11; clear HO158; clear BK153; clear HB
                             have HO_11 := n0_
                             have HO158 := n1_
                             have BK153 := n2_
                             have HB := n3_
                             have BK159 := n4_
                             have GW159 := n5_
                             have GE159 := n6_
                             have NB153_159 := n7_
                             have NB159_153 := n8_
                             clear n0_ n1_ n2_ n3_ n4_ n5_ n6_ n7_ n8_; clear hb hbox hg
                             refine hK.out _ _ ⟨(blk_cell BK153.out 0).trans rfl, (blk_cell BK153.out 1).trans rfl⟩ (fun hHeld => ?_)
                             clear hK K
                             refine norm_ (a' := ?_) ?_ ?_
                             rotate_left
                             · show Act.put _ (some 16) _ = _
                               simp only [Act.put, sA, sB, sC, i64_w, i32_w]
                               rfl
                             exact norm_ (by simp only [putAll, Act.put, sA, sB, sC]) (hCont (.slice Ao58 t156.length co58, gb159) _ ⟨hHeld, (gR HO158), (by (with_reducible repeat (first | apply Kd.S_alloc | apply Kd.S_drewN | apply Kd.S_drew)); exact Kd.S_mono HO_11.out (fun _ hk => ⟨hk.1.2, hk.2⟩)), (gK BK153), (gK BK159), GW159.out, GE159.out, NB153_159.out, NB159_153.out, (gS HB)⟩)
                           · skip
                             refine box_step ?hg (N := 16) ?hd (cs := #[.string (⟨#[]⟩ : ByteArray), .slice none 0 0]) (t := 34) ?hr ?_; (case hd => rfl); (case hg => rfl); (case hr => first | (go_simp; done) | (go_simp; rfl) | (have hcq := hcq_.out; have hfq := hfq_.out; go_simp; done))
                             intro gb159 hg w57 hbox hb
                             have n0_ := aK (Kd.S_below (Kd.S_elderB (by (with_reducible repeat (first | apply Kd.S_alloc | apply Kd.S_drewN | apply Kd.S_drew)); exact HO_11.out) gb159 (Nat.le_of_eq hg.symm)) hb)
                             have n1_ := aK (blk_below (g := gb153) (o := .cells #[.string ((rd_T67 l1 x59_3).f0), .slice A152_1 ((rd_T67 l1 x59_3).f1).length c152_1] 67 (0, 0)) (gK BK153) hb)
                             have n2_ := aK (below_step (gS HB) hb)
                             have n3_ := aK (hbox)
                             have n4_ := aK ((by rw [hg]; exact (below_size (gS HB)) : w.heap.size ≤ gb159))
                             have n5_ := aK ((by rw [hg]; exact (below_size (gS HB)) : w.heap.size ≤ gb159))
                             have n6_ := aK ((by rw [hg]; exact Nat.ne_of_lt (blk_lt (g := gb153) (o := .cells #[.string ((rd_T67 l1 x59_3).f0), .slice A152_1 ((rd_T67 l1 x59_3).f1).length c152_1] 67 (0, 0)) (gK BK153)) : gb153 ≠ gb159))
                             have n7_ := aK ((by rw [hg]; exact Nat.ne_of_gt (blk_lt (g := gb153) (o := .cells #[.string ((rd_T67 l1 x59_3).f0), .slice A152_1 ((rd_T67 l1 x59_3).f1).length c152_1] 67 (0, 0)) (gK BK153)) : gb159 ≠ gb153))
                             clear HO_11; clear BK153; clear HB
                             have HO_11 := n0_
                             have BK153 := n1_
                             have HB := n2_
                             have BK159 := n3_
                             have GW159 := n4_
                             have GE159 := n5_
                             have NB153_159 := n6_
                             have NB159_153 := n7_
                             clear n0_ n1_ n2_ n3_ n4_ n5_ n6_ n7_; clear hb hbox hg
                             refine hK.out _ _ ⟨(blk_cell BK153.out 0).trans rfl, (blk_cell BK153.out 1).trans rfl⟩ (fun hHeld => ?_)
                             clear hK K
                             refine norm_ (a' := ?_) ?_ ?_
                             rotate_left
                             · show Act.put _ (some 16) _ = _
                               simp only [Act.put, sA, sB, sC, i64_w, i32_w]
                               rfl
                             refine one_ (i := 4) (N := some 73) (ba 8 95) rfl rfl (one_of HT_.out (by kernel_rfl)) (by decide) (fun K hK => ?_)
                             refine goes_ Try.func23 (by kernel_rfl) rfl #[.slice A152_1 ((rd_T67 l1 x59_3).f1).length c152_1] (by rfl) rfl rfl am ?_
                             with_reducible refine (q26q.calls _ _ ((rd_T67 l1 x59_3).f1) t156 _ ?side1 ?side2 A28.out).mono ?_
                             (case side1 => exact gC HR152_1 HB)
                             (case side2 => exact HC152_1.out)
                             rintro e w58 ⟨v157, rfl, ho0, hb⟩
                             refine ⟨_, rfl, ?_⟩
                             have n0_ := aK (Kd.S_elder' (by (with_reducible repeat (first | apply Kd.S_alloc | apply Kd.S_drewN | apply Kd.S_drew)); exact HO_11.out) (Kd.R_base ho0) hb)
                             have n1_ := aK (Kd.R_lower ho0 (below_size (gS HB)))
                             have n2_ := aK (blk_below (g := gb153) (o := .cells #[.string ((rd_T67 l1 x59_3).f0), .slice A152_1 ((rd_T67 l1 x59_3).f1).length c152_1] 67 (0, 0)) (gK BK153) hb)
                             have n3_ := aK (blk_below (g := gb159) (o := .cells #[.string (⟨#[]⟩ : ByteArray), .slice none 0 0] 34 (0, 0)) (gK BK159) hb)
                             have n4_ := aK (below_step (gS HB) hb)
                             clear HO_11; clear BK153; clear BK159; clear HB
                             have HO_11 := n0_
                             have HO158 := n1_
                             have BK153 := n2_
                             have BK159 := n3_
                             have HB := n4_
                             clear n0_ n1_ n2_ n3_ n4_
                             try clear hb
                             try clear hb2
                             try clear hk
                             try clear hi
                             try clear ho0
                             obtain ⟨Ao59, co59, eo59⟩ := Kd.R_slice HO158.out
                             (first | subst eo59 | (injection eo59 with f1_ f2_ f3_; have f4_ := f1_.symm; have f5_ := f3_.symm; clear f1_ f2_ f3_; subst f4_; subst f5_))
                             refine hK.out _ _ ⟨(blk_cell BK153.out 0).trans rfl, (blk_cell BK153.out 1).trans rfl⟩ (fun hHeld => ?_)
                             clear hK K
                             refine norm_ (a' := ?_) ?_ ?_
                             rotate_left
                             · show Act.put _ (some 73) _ = _
                               simp only [Act.put, sA, sB, sC, i64_w, i32_w]
                               rfl
                             refine pA (i := 5) (N := some 74) HT_ (pf 8 7) ?_
                             exact norm_ (by simp only [putAll, Act.put, sA, sB, sC]) (hCont (.slice Ao59 t156.length co59, gb159) _ ⟨hHeld, (gR HO158), (by (with_reducible repeat (first | apply Kd.S_alloc | apply Kd.S_drewN | apply Kd.S_drew)); exact Kd.S_mono HO_11.out (fun _ hk => ⟨hk.2, hk.1.2⟩)), (gK BK153), (gK BK159), GW159.out, GE159.out, NB153_159.out, NB159_153.out, (gS HB)⟩)
                         rintro ⟨v157, gb159⟩ w60 ⟨hS_, h0_, h1_, h2_, h3_, h4_, h5_, h6_, h7_, h8_⟩
                         have n0_ : Aside0 (Kd.R (Kd.int .i64) 3 w60 w.heap.size (fun _ => True) v157 t156) := ⟨h0_⟩
                         have n1_ : Aside0 (Kd.S k34 34 w60 w.heap.size (fun k_ => some k_ ≠ (v157 : Value).ownBlock ∧ k_ ≠ gb159) u11 x11_3) := ⟨h1_⟩
                         have n2_ : Aside0 (w60.heap[gb153]? = some (.cells #[.string ((rd_T67 l1 x59_3).f0), .slice A152_1 ((rd_T67 l1 x59_3).f1).length c152_1] 67 (0, 0))) := ⟨h2_⟩
                         have n3_ : Aside0 (w60.heap[gb159]? = some (.cells #[.string (⟨#[]⟩ : ByteArray), .slice none 0 0] 34 (0, 0))) := ⟨h3_⟩
                         have n4_ : Aside0 (w.heap.size ≤ gb159) := ⟨h4_⟩
                         have n5_ : Aside0 (w.heap.size ≤ gb159) := ⟨h5_⟩
                         have n6_ : Aside0 (gb153 ≠ gb159) := ⟨h6_⟩
                         have n7_ : Aside0 (gb159 ≠ gb153) := ⟨h7_⟩
                         have n8_ : Aside0 (Below w.heap.size w w60) := ⟨h8_⟩
                         clear HO_11; clear BK153; clear HB; clear h0_ h1_ h2_ h3_ h4_ h5_ h6_ h7_ h8_
                         have HO158 := n0_
                         have HO_11 := n1_
                         have BK153 := n2_
                         have BK159 := n3_
                         have GW159 := n4_
                         have GE159 := n5_
                         have NB153_159 := n6_
                         have NB159_153 := n7_
                         have HB := n8_
                         clear n0_ n1_ n2_ n3_ n4_ n5_ n6_ n7_ n8_
                         have hHeld : w60.cell? ⟨gb153, 0, none⟩ = some (.string ((rd_T67 l1 x59_3).f0)) ∧ w60.cell? ⟨gb153, 1, none⟩ = some (.slice A152_1 ((rd_T67 l1 x59_3).f1).length c152_1) := hS_
                         obtain ⟨Ao61, co61, eo61⟩ := Kd.R_slice HO158.out
                         (first | subst eo61 | (injection eo61 with f1_ f2_ f3_; have f4_ := f1_.symm; have f5_ := f3_.symm; clear f1_ f2_ f3_; subst f4_; subst f5_))
                         refine norm_ (a' := ?_) ?_ ?_
                         rotate_left
                         · simp only [putAll, Act.put, sA, sB, sC]
                           rfl
                         refine one_ (i := 7) (N := none) (pf 8 8) rfl rfl (one_of HT_.out (by kernel_rfl)) (by decide) (fun K hK => ?_)
                         have hs62 : w60.cell? ⟨gb159, 0, none⟩ = some (.string (⟨#[]⟩ : ByteArray)) := (blk_cell BK159.out 0).trans rfl
                         have hfs62 := blk_frozen BK159.out 0
                         have hns62_0 := NB153_159.out
                         have hms62_0 := NB159_153.out
                         have hs63 : w60.cell? ⟨gb159, 1, none⟩ = some (.slice none 0 0) := (blk_cell BK159.out 1).trans rfl
                         have hfs63 := blk_frozen BK159.out 1
                         have hns63_0 := NB153_159.out
                         have hms63_0 := NB159_153.out
                         refine skip_ (w1 := ?_) (by rfl) rfl ?_ ?_
                         rotate_left
                         · go_simp
                           rfl
                         refine hK.out _ _ ⟨((cell_far (p := ⟨gb159, _, none⟩) NB153_159.out _).trans (((cell_far (p := ⟨gb159, _, none⟩) NB153_159.out _).trans (hHeld.1)))), ((cell_far (p := ⟨gb159, _, none⟩) NB153_159.out _).trans (((cell_far (p := ⟨gb159, _, none⟩) NB153_159.out _).trans (hHeld.2))))⟩ (fun hHeld => ?_)
                         clear hK K
                         refine done_ (done_of HT_.out (by kernel_rfl)) ?_
                         have n0_ : Aside0 (Kd.S k34 34 ((w60.setCell ⟨gb159, 0, none⟩ (.string ((rd_T67 l1 x59_3).f0))).setCell ⟨gb159, 1, none⟩ (.slice Ao61 t156.length co61)) w.heap.size (fun k_ => some k_ ≠ (.slice Ao61 t156.length co61 : Value).ownBlock ∧ k_ ≠ gb159) u11 x11_3) := ⟨by (with_reducible repeat (first | apply Kd.S_alloc | apply Kd.S_drewN | apply Kd.S_drew)); exact Kd.S_mono (Kd.S_far (p := ⟨gb159, 1, none⟩) (Kd.S_far (p := ⟨gb159, 0, none⟩) (Kd.S_mono HO_11.out (fun k_ hk => (⟨hk, hk.2⟩ : _ ∧ k_ ≠ gb159))) (fun _ hk => hk.2) (.string ((rd_T67 l1 x59_3).f0))) (fun _ hk => hk.2) (.slice Ao61 t156.length co61)) (fun _ hk => ⟨hk.1.1, hk.1.2⟩)⟩
                         have n1_ : Aside0 (Kd.R (Kd.int .i64) 3 ((w60.setCell ⟨gb159, 0, none⟩ (.string ((rd_T67 l1 x59_3).f0))).setCell ⟨gb159, 1, none⟩ (.slice Ao61 t156.length co61)) w.heap.size (fun _ => True) (.slice Ao61 t156.length co61) t156) := ⟨gR ⟨Kd.R_mono (Kd.R_far (p := ⟨gb159, 1, none⟩) (Kd.R_far (p := ⟨gb159, 0, none⟩) (Kd.R_types HO158.out BK159.out (by decide)) (fun _ hk => hk.2) (.string ((rd_T67 l1 x59_3).f0))) (fun _ hk => hk.2) (.slice Ao61 t156.length co61)) (fun _ hk => trivial)⟩⟩
                         have n2_ : Aside0 (((w60.setCell ⟨gb159, 0, none⟩ (.string ((rd_T67 l1 x59_3).f0))).setCell ⟨gb159, 1, none⟩ (.slice Ao61 t156.length co61)).heap[gb153]? = some (.cells #[.string ((rd_T67 l1 x59_3).f0), .slice A152_1 ((rd_T67 l1 x59_3).f1).length c152_1] 67 (0, 0))) := ⟨by (with_reducible repeat (first | refine blk_drewN ?_ _ | refine blk_drew ?_ | refine blk_alloc ?_ _)); refine blk_far ?_ NB153_159.out _; (with_reducible repeat (first | refine blk_drewN ?_ _ | refine blk_drew ?_ | refine blk_alloc ?_ _)); refine blk_far ?_ NB153_159.out _; (with_reducible repeat (first | refine blk_drewN ?_ _ | refine blk_drew ?_ | refine blk_alloc ?_ _)); exact BK153.out⟩
                         have n3_ : Aside0 (((w60.setCell ⟨gb159, 0, none⟩ (.string ((rd_T67 l1 x59_3).f0))).setCell ⟨gb159, 1, none⟩ (.slice Ao61 t156.length co61)).heap[gb159]? = some (.cells #[.string ((rd_T67 l1 x59_3).f0), .slice Ao61 t156.length co61] 34 (0, 0))) := ⟨by (with_reducible repeat (first | refine blk_drewN ?_ _ | refine blk_drew ?_ | refine blk_alloc ?_ _)); refine blk_put (cs := #[.string ((rd_T67 l1 x59_3).f0), .slice none 0 0]) ?_ 1 _ rfl; (with_reducible repeat (first | refine blk_drewN ?_ _ | refine blk_drew ?_ | refine blk_alloc ?_ _)); refine blk_put (cs := #[.string (⟨#[]⟩ : ByteArray), .slice none 0 0]) ?_ 0 _ rfl; (with_reducible repeat (first | refine blk_drewN ?_ _ | refine blk_drew ?_ | refine blk_alloc ?_ _)); exact BK159.out⟩
                         have n4_ : Aside0 (Below w.heap.size w ((w60.setCell ⟨gb159, 0, none⟩ (.string ((rd_T67 l1 x59_3).f0))).setCell ⟨gb159, 1, none⟩ (.slice Ao61 t156.length co61))) := ⟨gS HB⟩
                         try clear HO_11
                         try clear HO158
                         try clear BK153
                         try clear BK159
                         try clear HB
                         first | (have hzw64_1 : ((w60.setCell ⟨gb159, 0, none⟩ (.string ((rd_T67 l1 x59_3).f0))).setCell ⟨gb159, 1, none⟩ (.slice Ao61 t156.length co61)).cell? ⟨gb159, 1, none⟩ = some (.slice Ao61 t156.length co61) := (by first | exact XWords.cell_here (by first | (with_reducible assumption) | assumption) _ | (go_simp; done)); generalize ((w60.setCell ⟨gb159, 0, none⟩ (.string ((rd_T67 l1 x59_3).f0))).setCell ⟨gb159, 1, none⟩ (.slice Ao61 t156.length co61)) = w64 at n0_ n1_ n2_ n3_ n4_ hzw64_1 ⊢) | generalize ((w60.setCell ⟨gb159, 0, none⟩ (.string ((rd_T67 l1 x59_3).f0))).setCell ⟨gb159, 1, none⟩ (.slice Ao61 t156.length co61)) = w64 at n0_ n1_ n2_ n3_ n4_ ⊢
                         have HO_11 := n0_
                         have HO158 := n1_
                         have BK153 := n2_
                         have BK159 := n3_
                         have HB := n4_
                         clear n0_ n1_ n2_ n3_ n4_
                         have hnb65 := NB159_153.out
                         have hnc65 := NB153_159.out
                         have hcz66_0 : w64.cell? ⟨gb159, 0, none⟩ = some (.string ((rd_T67 l1 x59_3).f0)) := (blk_cell BK159.out 0).trans rfl
                         have hcz66_1 : w64.cell? ⟨gb159, 1, none⟩ = some (.slice Ao61 t156.length co61) := (blk_cell BK159.out 1).trans rfl
                         have hfz66_0 := blk_frozen BK159.out 0
                         have hfz66_1 := blk_frozen BK159.out 1
                         try go_wp2_with (first | ((with_reducible refine q28q (b := .append) (xs := #[.tmp 94, .tmp 96]) rfl ?_); (try (refine gate_guard (by rfl) ?_; dsimp only)); at_builtin; refine Kd.S_append k34 (w0 := w) w.heap.size rfl (.tmp 94) (.tmp 96) 24 34 (.agg #[(.string ⟨#[]⟩), (.slice none 0 0)]) 40 rfl Try.underlying24 info34 rfl (by decide) (by omega) u11 x11_3 (⟨(rd_T67 l1 x59_3).f0, t156⟩ : S34) [.string ((rd_T67 l1 x59_3).f0), .slice Ao61 t156.length co61] (fun k_ => k_ ≠ gb159) (fun k_ => some k_ = (.slice Ao61 t156.length co61 : Value).ownBlock) rfl rfl ?aP (fun k_ hk_ => ((Kd.R_mono (ok' := fun k_ => ((fun k_ => k_ ≠ gb159)) k_ ∧ some k_ ≠ (u11 : Value).ownBlock) (Kd.R_types (Kd.R_apart' (HO158.out) (Kd.S_typed HO_11.out) (by decide)) BK159.out (by decide)) (fun k_ hk => ⟨hk.2, hk.1.2⟩))).1 k_ hk_.symm) ?aF ?aO ?aB ?aS ?aL ?_; (case aP => exact k34_mkM _ _ _ (⟨(rd_T67 l1 x59_3).f0, t156⟩ : S34) (Kd.R_mono (Kd.R_tight rfl (Kd.R_mono (ok' := fun k_ => ((fun k_ => k_ ≠ gb159)) k_ ∧ some k_ ≠ (u11 : Value).ownBlock) (Kd.R_types (Kd.R_apart' (HO158.out) (Kd.S_typed HO_11.out) (by decide)) BK159.out (by decide)) (fun k_ hk => ⟨hk.2, hk.1.2⟩))) (fun _ h_ => h_))); (case aB => exact (gS HB)); (case aF => exact (fun k_ hk => Kd.freshB (g := gb159) (o := .cells #[.string ((rd_T67 l1 x59_3).f0), .slice Ao61 t156.length co61] 34 (0, 0)) (gK BK159) k_ hk)); (case aO => exact (by (with_reducible repeat (first | apply Kd.S_alloc | apply Kd.S_drewN | apply Kd.S_drew)); exact Kd.S_mono HO_11.out (fun k_ hk => ⟨hk.2, fun e_ => hk.1 e_⟩))); (case aS => exact (below_size (gS HB))); (case aL => have := LMc52.out; omega); intro v168 w67 ho hb hg hat; rw [← Ny167.out] at ho; replace BK153 := aK (blk_grown (g := gb153) (o := .cells #[.string ((rd_T67 l1 x59_3).f0), .slice A152_1 ((rd_T67 l1 x59_3).f1).length c152_1] 67 (0, 0)) (gK BK153) hg (Kd.S_ne HO_11.out BK153.out (by decide))); replace BK159 := aK (blk_grown (g := gb159) (o := .cells #[.string ((rd_T67 l1 x59_3).f0), .slice Ao61 t156.length co61] 34 (0, 0)) (gK BK159) hg (Kd.S_away HO_11.out (fun _ hk => hk.2))); replace HB := aK (hb); have HO169 := aK (ho); clear HO_11; clear HO158; clear ho hb hg hat))
                         go_roundg k3
                         case measure => have := HJ2.out; have := HK2.out; have := HK3.out; omega
                         case rel => exact ⟨(wrap64 (x0_3 - (ji29))), (y167), (wrap64 (x59_3 + 1)), (by first | rfl | (simp; done) | (simp only [← hji29] <;> (first | rfl | simp)) | (simp [*]; done)), ac, H', ⟨by have := HJ2.out; have := HK2.out; have := HK3.out; omega⟩, ⟨by (with_reducible repeat (first | apply Kd.S_alloc | apply Kd.S_drewN | apply Kd.S_drew)); exact Kd.S_mono HO169.out (fun _ hk => trivial)⟩, ⟨gS HB⟩⟩
                       · rw [if_neg c52] at H
                         exact absurd H (by simp)
                   · rw [if_neg c26] at H
                     exact absurd H (by simp)
                 · rw [if_neg c25] at H
                   exact absurd H (by simp)
               · rw [if_neg c24] at H
                 have c24b0 := dF c24
                 clear c24
                 simp only [Option.some.injEq, Prod.mk.injEq] at H
                 obtain ⟨rfl, rfl, rfl⟩ := H
                 go_wp2
                 go_ret3
                 exact ⟨_, by first | rfl | (simp [errW_none, errW_some] <;> rfl) | (simp [*, errW_none, errW_some] <;> rfl), by (with_reducible repeat (first | apply Kd.S_alloc | apply Kd.S_drewN | apply Kd.S_drew)); exact HO_11.out, gB HB⟩
           · rw [if_neg c21] at H
             exact absurd H (by simp)
         · rw [if_neg c20] at H
           exact absurd H (by simp)
end Go.Proofs.Ytlbhjkbjokiioaa.X
