-- a shortened text: what this claim does not name is left out (wip/xprint/prune.py of this repo)
import Derived.Test.YtlbhjkbjokiioaaXMin
import Derived.Test.YtlbhjkbjokiioaaX0
import Derived.Test.YtlbhjkbjokiioaaX11
import Derived.Test.YtlbhjkbjokiioaaX12
import Derived.Test.YtlbhjkbjokiioaaX16
namespace Go.Proofs.Ytlbhjkbjokiioaa.X
open Go.RowKit Go.Proofs.YtlbhjkbjokiioaaW.PrintWords Go.Proofs.YtlbhjkbjokiioaaW.PrintLast Go.Proofs.YtlbhjkbjokiioaaW.PrintMore
attribute [local go_sem] max2_int min2_int max_two min_two max_three min_three max_four min_four
set_option linter.unusedVariables false
set_option linter.unusedSimpArgs false
mutual
def lombardref29_Auction.l0 : Nat → List (S63) → List (S66) → Int → List (S59) → Int → List (S63) → Int → Option ((List (S59)) × Int × (List (S63)) × Int)
 | 0, _, _, _, _, _, _, _ => none
 | k + 1, x0, x1, x8, x451000, x451001, x451002, x451003 => if x8 < (x0.length : Int) then (if 0 ≤ x8 then ((q5q.f k x1 ((rd_T63 x0 x8).f0)).bind fun t453 => (lombardref29_Auction.l1 k x0 x1 x8 ((rd_T63 x0 x8).f1) t453 0 x451000 x451001 x451002 x451003)) else (none)) else (some (x451000, x451001, x451002, x451003))
def lombardref29_Auction.l1 : Nat → List (S63) → List (S66) → Int → Int → List (S66) → Int → List (S59) → Int → List (S63) → Int → Option ((List (S59)) × Int × (List (S63)) × Int)
 | 0, _, _, _, _, _, _, _, _, _, _ => none
 | k + 1, x0, x1, x8, x9, x10, x11, x451000, x451001, x451002, x451003 => if x11 < (x10.length : Int) then (lombardref29_Auction.j2 k x0 x1 x8 x9 x10 x11 (decide (x9 > 0)) x451000 x451001 x451002 x451003) else (lombardref29_Auction.j2 k x0 x1 x8 x9 x10 x11 false x451000 x451001 x451002 x451003)
def lombardref29_Auction.j2 : Nat → List (S63) → List (S66) → Int → Int → List (S66) → Int → Bool → List (S59) → Int → List (S63) → Int → Option ((List (S59)) × Int × (List (S63)) × Int)
 | 0, _, _, _, _, _, _, _, _, _, _, _ => none
 | k + 1, x0, x1, x8, x9, x10, x11, x57, x451000, x451001, x451002, x451003 => if x57 = true then (if 0 ≤ x11 then (if x11 < (x10.length : Int) then (if ((rd_T66 x10 x11).f2) < x9 then (lombardref29_Auction.j3 k x0 x1 x8 x9 x10 x11 ((rd_T66 x10 x11).f2) x451000 x451001 x451002 x451003) else (lombardref29_Auction.j3 k x0 x1 x8 x9 x10 x11 x9 x451000 x451001 x451002 x451003)) else (none)) else (none)) else (if x9 > 0 then (if 0 ≤ x8 then (if x8 < (x0.length : Int) then (if x451002.length < 5864062014805 then (lombardref29_Auction.l0 k x0 x1 (wrap64 (x8 + 1)) x451000 x451001 (x451002 ++ [(⟨(rd_T63 x0 x8).f0, x9⟩ : S63)]) x451003) else (none)) else (none)) else (none)) else (lombardref29_Auction.l0 k x0 x1 (wrap64 (x8 + 1)) x451000 x451001 x451002 x451003))
def lombardref29_Auction.j3 : Nat → List (S63) → List (S66) → Int → Int → List (S66) → Int → Int → List (S59) → Int → List (S63) → Int → Option ((List (S59)) × Int × (List (S63)) × Int)
 | 0, _, _, _, _, _, _, _, _, _, _, _ => none
 | k + 1, x0, x1, x8, x9, x10, x11, x12, x451000, x451001, x451002, x451003 => if 0 ≤ x11 then (if x11 < (x10.length : Int) then ((lombardref13_Worth.f x12 ((rd_T66 x10 x11).f3)).bind fun bt463 => ((q31q.f x451001 bt463.1).bind fun bt465 => (if bt465.2 = 0 then (if 0 ≤ x8 then (if x8 < (x0.length : Int) then (if x451000.length < 3518437208883 then (lombardref29_Auction.l1 k x0 x1 x8 (wrap64 (x9 - x12)) x10 (wrap64 (x11 + 1)) (x451000 ++ [(⟨(rd_T66 x10 x11).f0, (rd_T63 x0 x8).f0, x12, bt463.1⟩ : S59)]) bt465.1 x451002 x451003) else (none)) else (none)) else (none)) else (some (([] : List (S59)), 0, ([] : List (S63)), bt465.2))))) else (none)) else (none)
end
def lombardref29_Auction.f (k : Nat) (l0 : List (S63)) (l1 : List (S66)) : Option ((List (S59)) × Int × (List (S63)) × Int) := (q15q.f k l0).bind fun bt446 => (if bt446.2 = 0 then ((q9q.f k l1).bind fun t448 => (if t448 = 0 then (lombardref29_Auction.l0 k l0 l1 0 ([] : List (S59)) 0 ([] : List (S63)) 0) else ((q9q.f k l1).bind fun t449 => (some (([] : List (S59)), 0, ([] : List (S63)), t449))))) else (some (([] : List (S59)), 0, ([] : List (S63)), bt446.2)))
theorem lombardref29_Auction.mono_l : ∀ k, (∀ y0 y1 y2 y3 y4 y5 y6, LeO (lombardref29_Auction.l0 k y0 y1 y2 y3 y4 y5 y6) (lombardref29_Auction.l0 (k + 1) y0 y1 y2 y3 y4 y5 y6)) ∧ (∀ y0 y1 y2 y3 y4 y5 y6 y7 y8 y9, LeO (lombardref29_Auction.l1 k y0 y1 y2 y3 y4 y5 y6 y7 y8 y9) (lombardref29_Auction.l1 (k + 1) y0 y1 y2 y3 y4 y5 y6 y7 y8 y9)) ∧ (∀ y0 y1 y2 y3 y4 y5 y6 y7 y8 y9 y10, LeO (lombardref29_Auction.j2 k y0 y1 y2 y3 y4 y5 y6 y7 y8 y9 y10) (lombardref29_Auction.j2 (k + 1) y0 y1 y2 y3 y4 y5 y6 y7 y8 y9 y10)) ∧ (∀ y0 y1 y2 y3 y4 y5 y6 y7 y8 y9 y10, LeO (lombardref29_Auction.j3 k y0 y1 y2 y3 y4 y5 y6 y7 y8 y9 y10) (lombardref29_Auction.j3 (k + 1) y0 y1 y2 y3 y4 y5 y6 y7 y8 y9 y10))
 | 0 => ⟨fun _ _ _ _ _ _ _ r h => by simp [lombardref29_Auction.l0] at h, fun _ _ _ _ _ _ _ _ _ _ r h => by simp [lombardref29_Auction.l1] at h, fun _ _ _ _ _ _ _ _ _ _ _ r h => by simp [lombardref29_Auction.j2] at h, fun _ _ _ _ _ _ _ _ _ _ _ r h => by simp [lombardref29_Auction.j3] at h⟩
 | k + 1 => by
  obtain ⟨ih0, ih1, ih2, ih3⟩ := lombardref29_Auction.mono_l k
  refine ⟨?_, ?_, ?_, ?_⟩
  intro y0 y1 y2 y3 y4 y5 y6; unfold lombardref29_Auction.l0; rotate_left
  intro y0 y1 y2 y3 y4 y5 y6 y7 y8 y9; unfold lombardref29_Auction.l1; rotate_left
  intro y0 y1 y2 y3 y4 y5 y6 y7 y8 y9 y10; unfold lombardref29_Auction.j2; rotate_left
  intro y0 y1 y2 y3 y4 y5 y6 y7 y8 y9 y10; unfold lombardref29_Auction.j3; rotate_left
  all_goals repeat' first
  | (with_reducible exact ih0 _ _ _ _ _ _ _)
  | (with_reducible exact ih1 _ _ _ _ _ _ _ _ _ _)
  | (with_reducible exact ih2 _ _ _ _ _ _ _ _ _ _ _)
  | (with_reducible exact ih3 _ _ _ _ _ _ _ _ _ _ _)
  | (with_reducible exact q15q.mono _ _)
  | (with_reducible exact q9q.mono _ _)
  | (with_reducible exact q5q.mono _ _ _)
  | (with_reducible exact LeO.refl _)
  | (with_reducible exact LeO.none _)
  | (with_reducible refine LeO.ite ?_ ?_)
  | (with_reducible refine LeO.bind ?_ (fun _ => ?_))
  | exact ih0 _ _ _ _ _ _ _
  | exact ih1 _ _ _ _ _ _ _ _ _ _
  | exact ih2 _ _ _ _ _ _ _ _ _ _ _
  | exact ih3 _ _ _ _ _ _ _ _ _ _ _
  | exact q15q.mono _ _
  | exact q9q.mono _ _
  | exact q5q.mono _ _ _
  | exact LeO.none _
  | refine LeO.ite ?_ ?_
  | refine LeO.bind ?_ (fun _ => ?_)
theorem lombardref29_Auction.mono : ∀ a0 a1 k, LeO (lombardref29_Auction.f k a0 a1) (lombardref29_Auction.f (k + 1) a0 a1) := by
 intro a0 a1 k
 obtain ⟨ih0, ih1, ih2, ih3⟩ := lombardref29_Auction.mono_l k
 unfold lombardref29_Auction.f
 repeat' first
  | (with_reducible exact ih0 _ _ _ _ _ _ _)
  | (with_reducible exact ih1 _ _ _ _ _ _ _ _ _ _)
  | (with_reducible exact ih2 _ _ _ _ _ _ _ _ _ _ _)
  | (with_reducible exact ih3 _ _ _ _ _ _ _ _ _ _ _)
  | (with_reducible exact q15q.mono _ _)
  | (with_reducible exact q9q.mono _ _)
  | (with_reducible exact q5q.mono _ _ _)
  | (with_reducible exact LeO.refl _)
  | (with_reducible exact LeO.none _)
  | (with_reducible refine LeO.ite ?_ ?_)
  | (with_reducible refine LeO.bind ?_ (fun _ => ?_))
  | exact ih0 _ _ _ _ _ _ _
  | exact ih1 _ _ _ _ _ _ _ _ _ _
  | exact ih2 _ _ _ _ _ _ _ _ _ _ _
  | exact ih3 _ _ _ _ _ _ _ _ _ _ _
  | exact q15q.mono _ _
  | exact q9q.mono _ _
  | exact q5q.mono _ _ _
  | exact LeO.none _
  | refine LeO.ite ?_ ?_
  | refine LeO.bind ?_ (fun _ => ?_)
def lombardref29_Auction.T23 : Bool × List (List Nat × List Nat) := (true, [([], []), ([0], [0]), ([], []), ([], []), ([2, 3], [2, 3]), ([4], [4]), ([5], [5]), ([], []), ([], []), ([7, 8], [7, 8]), ([9], [9]), ([10], [10]), ([], []), ([], []), ([6, 11, 12, 13], [6, 11, 12, 13]), ([14], [14]), ([1, 15], [1, 15]), ([0, 1, 2, 3, 4, 5, 6, 7, 8, 9, 10, 11, 12, 13, 14, 15, 16], []), ([17, 16, 16, 0, 1, 2, 3, 4, 5, 6, 7, 8, 9, 10, 11, 12, 13, 14, 15, 16], [16, 17])])
def lombardref29_Auction.B23 : List Nat := [0, 1, 0, 0, 12, 28, 60, 0, 0, 384, 896, 1920, 0, 0, 16380, 32764, 65535, 131071, 262143]
theorem lombardref29_Auction.tab23 : rtab .any (opsOf Try.f18 23) = lombardref29_Auction.T23 := by kernel_rfl
theorem lombardref29_Auction.bits23 : waitsOk lombardref29_Auction.T23.2 lombardref29_Auction.B23 = true := by kernel_rfl
def lombardref29_Auction.T26 : Bool × List (List Nat × List Nat) := (true, [([], []), ([0], [0]), ([], []), ([], []), ([2, 3], [2, 3]), ([4], [4]), ([5], [5]), ([], []), ([6, 7], [6, 7]), ([8], [8]), ([1, 9], [1, 9]), ([0, 1, 2, 3, 4, 5, 6, 7, 8, 9, 10], []), ([11, 10, 10, 0, 1, 2, 3, 4, 5, 6, 7, 8, 9, 10], [10, 11])])
def lombardref29_Auction.B26 : List Nat := [0, 1, 0, 0, 12, 28, 60, 0, 252, 508, 1023, 2047, 4095]
theorem lombardref29_Auction.tab26 : rtab .any (opsOf Try.f18 26) = lombardref29_Auction.T26 := by kernel_rfl
theorem lombardref29_Auction.bits26 : waitsOk lombardref29_Auction.T26.2 lombardref29_Auction.B26 = true := by kernel_rfl
set_option maxHeartbeats 8000000 in
set_option maxRecDepth 100000 in
theorem lombardref29_Auction.calls (k : Nat) (A0 : Option Addr) (c0 : Nat) (l0 : List (S63)) (A1 : Option Addr) (c1 : Nat) (l1 : List (S66)) (r1 : List (S59)) (r2 : Int) (r3 : List (S63)) (r4 : Int) (w : World) (hr0 : Kd.C k63 w A0 l0.length l0) (hc0 : l0.length ≤ c0) (hr1 : Kd.C k66 w A1 l1.length l1) (hc1 : l1.length ≤ c1) (h : lombardref29_Auction.f k l0 l1 = some (r1, r2, r3, r4)) :
 Calls Try.prog 18 #[.slice A0 l0.length c0, .slice A1 l1.length c1] w fun e w' => ∃ v0_ v2_ : Value, e = .returned (.agg #[v0_, .int .i64 r2, v2_, .int .i64 r4]) ∧ Kd.R k59 59 w' w.heap.size (fun _ => True) v0_ r1 ∧ Kd.R k63 63 w' w.heap.size (fun _ => True) v2_ r3 ∧ Below w.heap.size w w' := by
 have hu54 := Try.underlying54
 have hu59 := Try.underlying59
 have hu63 := Try.underlying63
 have HR0 := Aside0.mk hr0; have HC0 := Aside0.mk hc0; clear hr0 hc0; have HR1 := Aside0.mk hr1; have HC1 := Aside0.mk hc1; clear hr1 hc1
 have HB := aK (Below.refl w.heap.size w)
 have H : ((q15q.f k l0).bind fun bt446 => (if bt446.2 = 0 then ((q9q.f k l1).bind fun t448 => (if t448 = 0 then (lombardref29_Auction.l0 k l0 l1 0 ([] : List (S59)) 0 ([] : List (S63)) 0) else ((q9q.f k l1).bind fun t449 => (some (([] : List (S59)), 0, ([] : List (S63)), t449))))) else (some (([] : List (S59)), 0, ([] : List (S63)), bt446.2)))) = some (r1, r2, r3, r4) := h
 clear h
 replace H := Option.bind_eq_some_iff.mp H
 obtain ⟨⟨t446, t447⟩, A30, H⟩ := H
 replace H : (if t447 = 0 then ((q9q.f k l1).bind fun t448 => (if t448 = 0 then (lombardref29_Auction.l0 k l0 l1 0 ([] : List (S59)) 0 ([] : List (S63)) 0) else ((q9q.f k l1).bind fun t449 => (some (([] : List (S59)), 0, ([] : List (S63)), t449))))) else (some (([] : List (S59)), 0, ([] : List (S63)), t447))) = some (r1, r2, r3, r4) := H
 have A3 := Aside0.mk A30; clear A30
 by_cases c4 : t447 = 0
 · rw [if_pos c4] at H
   have c4b0 : (t447 == 0) = true := beq_iff_eq.mpr c4
   have c4b1 : (t447 != 0) = false := bne_eq_false_iff_eq.mpr c4
   clear c4
   replace H := Option.bind_eq_some_iff.mp H
   obtain ⟨t448, A50, H⟩ := H
   replace H : (if t448 = 0 then (lombardref29_Auction.l0 k l0 l1 0 ([] : List (S59)) 0 ([] : List (S63)) 0) else ((q9q.f k l1).bind fun t449 => (some (([] : List (S59)), 0, ([] : List (S63)), t449)))) = some (r1, r2, r3, r4) := H
   have A5 := Aside0.mk A50; clear A50
   by_cases c6 : t448 = 0
   · rw [if_pos c6] at H
     have c6b0 : (t448 == 0) = true := beq_iff_eq.mpr c6
     have c6b1 : (t448 != 0) = false := bne_eq_false_iff_eq.mpr c6
     clear c6
     have H' := Aside0.mk H
     clear H
     go_enter Try.func18, Try.ntmps18
     go_wp2_with (first | ((with_reducible refine gate_dst (N := 4) rfl ?_); refine box_event ?hg (N := 4) ?hd (cs := #[.slice none 0 0, .int .i64 0, .slice none 0 0, .int .i64 0]) (t := 54) ?hr ?_; (case hd => rfl); (case hg => rfl); (case hr => first | (go_simp; done) | (go_simp; rfl) | (have hcq := hcq_.out; have hfq := hfq_.out; go_simp; done)); intro gb445 hg w7 hbox hb; have BK445 := aK (hbox); have GW445 := aK ((by rw [hg]; exact (below_size (gB HB)) : w.heap.size ≤ gb445)); have GE445 := aK ((by rw [hg]; exact (below_size (gB HB)) : w.heap.size ≤ gb445)); replace HB := aK (below_step (gB HB) hb); clear hb hbox hg) | ((with_reducible refine gate_callee (f := 36) rfl ?_); refine goesL_ (some 19) rfl rfl Try.func36 (by kernel_rfl) rfl #[.slice A0 l0.length c0] rfl am ?_; (with_reducible refine (q15q.calls k _ _ l0 t446 t447 _ ?side1 ?side2 A3.out).mono ?_); (case side1 => exact gC HR0 HB); (case side2 => exact HC0.out); rintro e w' ⟨rfl, ⟨nd, rfl⟩⟩; (try clear A3); refine ⟨_, rfl, ?_⟩) | ((with_reducible refine gate_callee (f := 37) rfl ?_); refine goesL_ (some 27) rfl rfl Try.func37 (by kernel_rfl) rfl #[.slice A1 l1.length c1] rfl am ?_; (with_reducible refine (q9q.calls k _ _ l1 t448 _ ?side1 ?side2 A5.out).mono ?_); (case side1 => repeat (first | exact (Kd.C_below HR1.out (gS HB)) | (with_reducible refine Kd.C_alloc ?_ _) | (with_reducible refine Kd.C_drewN ?_ _) | (with_reducible refine Kd.C_drew ?_))); (case side2 => exact HC1.out); rintro e w' ⟨rfl, ⟨nd, rfl⟩⟩; (try clear A5); refine ⟨_, rfl, ?_⟩) | ((with_reducible refine gate_dst (N := 7) rfl ?_); refine box_event ?hg (N := 7) ?hd (cs := #[.slice none 0 0, .int .i64 0, .slice none 0 0, .int .i64 0]) (t := 54) ?hr ?_; (case hd => rfl); (case hg => rfl); (case hr => first | (go_simp; done) | (go_simp; rfl) | (have hcq := hcq_.out; have hfq := hfq_.out; go_simp; done)); intro gb450 hg w8 hbox hb; have BK450 := aK (hbox); have GW450 := aK ((by rw [hg]; exact (below_size (gS HB)) : w.heap.size ≤ gb450)); have GE450 := aK ((by rw [hg]; exact (below_size (gS HB)) : w.heap.size ≤ gb450)); replace HB := aK (below_step (gS HB) hb); have NB445_450 := aK ((by rw [hg]; exact Nat.ne_of_lt (blk_lt (g := gb445) (o := .cells #[.slice none 0 0, .int .i64 0, .slice none 0 0, .int .i64 0] 54 (0, 0)) (gK BK445)) : gb445 ≠ gb450)); have NB450_445 := aK ((by rw [hg]; exact Nat.ne_of_gt (blk_lt (g := gb445) (o := .cells #[.slice none 0 0, .int .i64 0, .slice none 0 0, .int .i64 0] 54 (0, 0)) (gK BK445)) : gb450 ≠ gb445)); replace BK445 := aK (blk_below (g := gb445) (o := .cells #[.slice none 0 0, .int .i64 0, .slice none 0 0, .int .i64 0] 54 (0, 0)) (gK BK445) hb); clear hb hbox hg))
     go_loopg [8] k (fun kq v8 w' => ∃ (x8_1 : Int) (x446001_1 : Int) (x446003_1 : Int) (x451000_1 : List (S59)) (x451001_1 : Int) (x451002_1 : List (S63)) (u451000 : Value) (u451002 : Value), v8 = .int .i64 x8_1 ∧ Aside0 (lombardref29_Auction.l0 kq l0 l1 x8_1 x451000_1 x451001_1 x451002_1 0 = some (r1, r2, r3, r4)) ∧ Aside0 (kq ≤ k) ∧ Aside0 (Kd.R k59 59 w' w.heap.size (fun _ => True) u451000 x451000_1) ∧ Aside0 (Kd.R k63 63 w' w.heap.size (fun _ => True) u451002 x451002_1) ∧ Aside0 (w'.heap[gb445]? = some (.cells #[(.slice none 0 0), .int .i64 x446001_1, (.slice none 0 0), .int .i64 x446003_1] 54 (0, 0))) ∧ Aside0 (w'.heap[gb450]? = some (.cells #[u451000, .int .i64 x451001_1, u451002, .int .i64 0] 54 (0, 0))) ∧ Aside0 (Below w.heap.size w w'))
     case atStart => exact ⟨(0), (0), (0), (([] : List (S59))), (0), (([] : List (S63))), (.slice none 0 0), (.slice none 0 0), ac, H', ⟨Nat.le_refl _⟩, ⟨by first | exact Kd.R_nil _ _ _ _ _ | exact Kd.N_nil _ _ _ _ _ | exact Kd.V_nil _ _ _ _ _ | exact Kd.Q_nil _ _ _ _ _ | exact Kd.S_nil _ _ _ _ _⟩, ⟨by first | exact Kd.R_nil _ _ _ _ _ | exact Kd.N_nil _ _ _ _ _ | exact Kd.V_nil _ _ _ _ _ | exact Kd.Q_nil _ _ _ _ _ | exact Kd.S_nil _ _ _ _ _⟩, ⟨gK BK445⟩, ⟨gK BK450⟩, ⟨gS HB⟩⟩
     case round =>
      clear H'; (try clear c1); (try clear c4); (try clear c4b0); (try clear c4b1); (try clear c6); (try clear c6b0); (try clear c6b1)
      obtain ⟨x8_1, x446001_1, x446003_1, x451000_1, x451001_1, x451002_1, u451000, u451002, rfl, HA, HK1, HO_451000, HO_451002, BK445, BK450, HB⟩ := hrel
      cases gk with
      | zero => exact absurd HA.out (by simp [lombardref29_Auction.l0])
      | succ k1 =>
       have H := HA.out
       clear HA
       simp only [lombardref29_Auction.l0] at H
       by_cases c9 : x8_1 < (l0.length : Int)
       · rw [if_pos c9] at H
         have c9b0 := dT c9
         clear c9
         by_cases c10 : 0 ≤ x8_1
         · rw [if_pos c10] at H
           have c10b0 := dT c10
           clear c10
           replace H := Option.bind_eq_some_iff.mp H
           obtain ⟨t453, A110, H⟩ := H
           replace H : (lombardref29_Auction.l1 k1 l0 l1 x8_1 ((rd_T63 l0 x8_1).f1) t453 0 x451000_1 x451001_1 x451002_1 0) = some (r1, r2, r3, r4) := H
           have A11 := Aside0.mk A110; clear A110
           have H' := Aside0.mk H
           clear H
           obtain ⟨⟨p451, q451⟩, ad451, rfl, hx451_0, hx451_1⟩ := za (at_T63 HR0.out) x8_1
           replace hx451_0 := gc HB hx451_0
           replace hx451_1 := gc HB hx451_1
           obtain ⟨⟨p452, q452⟩, ad452, e452, hx452_0, hx452_1⟩ := za (at_T63 HR0.out) x8_1
           obtain rfl : ad451 = ad452 := (by injection e452)
           replace hx452_0 := gc HB hx452_0
           replace hx452_1 := gc HB hx452_1
           go_wp2_with (first | ((with_reducible refine gate_callee (f := 38) rfl ?_); refine goesL_ (some 49) rfl rfl Try.func38 (by kernel_rfl) rfl #[.slice A1 l1.length c1, .string ((rd_T63 l0 x8_1).f0)] rfl am ?_; (with_reducible refine (q5q.calls k1 _ _ l1 ((rd_T63 l0 x8_1).f0) t453 _ ?side1 ?side2 A11.out).mono ?_); (case side1 => exact gC HR1 HB); (case side2 => exact HC1.out); rintro e w12 ⟨v454, rfl, ho0, hb⟩; (try clear A11); refine ⟨_, rfl, ?_⟩; replace HO_451000 := aK (Kd.R_below (gR HO_451000) hb); replace HO_451002 := aK (Kd.R_below (gR HO_451002) hb); have HO455 := aK (Kd.R_lower ho0 (below_size (gS HB))); replace BK445 := aK (blk_below (g := gb445) (o := .cells #[.slice none 0 0, .int .i64 x446001_1, .slice none 0 0, .int .i64 x446003_1] 54 (0, 0)) (gK BK445) hb); replace BK450 := aK (blk_below (g := gb450) (o := .cells #[u451000, .int .i64 x451001_1, u451002, .int .i64 0] 54 (0, 0)) (gK BK450) hb); replace HB := aK (below_step (gS HB) hb); (try clear hb); (try clear hb2); (try clear hk); (try clear hi); (try clear ho0)))
           go_loopg [9, 11] k1 (fun kq v9 v11 w' => ∃ (x9_2 : Int) (x11_2 : Int) (x446001_2 : Int) (x446003_2 : Int) (x451000_2 : List (S59)) (x451001_2 : Int) (u451000 : Value), v9 = .int .i64 x9_2 ∧ v11 = .int .i64 x11_2 ∧ Aside0 (lombardref29_Auction.l1 kq l0 l1 x8_1 x9_2 t453 x11_2 x451000_2 x451001_2 x451002_1 0 = some (r1, r2, r3, r4)) ∧ Aside0 (kq ≤ k1) ∧ Aside0 (Kd.R k66 66 w' w.heap.size (fun _ => True) v454 t453) ∧ Aside0 (Kd.R k59 59 w' w.heap.size (fun _ => True) u451000 x451000_2) ∧ Aside0 (Kd.R k63 63 w' w.heap.size (fun _ => True) u451002 x451002_1) ∧ Aside0 (w'.heap[gb445]? = some (.cells #[(.slice none 0 0), .int .i64 x446001_2, (.slice none 0 0), .int .i64 x446003_2] 54 (0, 0))) ∧ Aside0 (w'.heap[gb450]? = some (.cells #[u451000, .int .i64 x451001_2, u451002, .int .i64 0] 54 (0, 0))) ∧ Aside0 (Below w.heap.size w w'))
           case atStart => exact ⟨((rd_T63 l0 x8_1).f1), (0), (x446001_1), (x446003_1), (x451000_1), (x451001_1), (u451000), ac, ac, H', ⟨Nat.le_refl _⟩, ⟨gR HO455⟩, ⟨gR HO_451000⟩, ⟨gR HO_451002⟩, ⟨gK BK445⟩, ⟨gK BK450⟩, ⟨gS HB⟩⟩
           case round =>
            clear H'; (try clear c1); (try clear c4); (try clear c4b0); (try clear c4b1); (try clear c6); (try clear c6b0); (try clear c6b1); (try clear c9); (try clear c9b0); (try clear c10); (try clear c10b0); (try clear hx451_0); (try clear hx451_1); (try clear hx452_0); (try clear hx452_1); (try clear p451); (try clear p452); (try clear q451); (try clear q452)
            obtain ⟨x9_2, x11_2, x446001_2, x446003_2, x451000_2, x451001_2, u451000, rfl, rfl, HA, HK2, HO_10, HO_451000, HO_451002, BK445, BK450, HB⟩ := hrel
            cases gk with
            | zero => exact absurd HA.out (by simp [lombardref29_Auction.l1])
            | succ k2 =>
             have H := HA.out
             clear HA
             simp only [lombardref29_Auction.l1] at H
             have HC13 := Aside0.mk H; clear H
             go_upto_region 13 with (fail)
             go_cut [57] (fun v57 wc => ∃ (kq : Nat) (x57_12 : Bool), v57 = .bool x57_12 ∧ Aside0 (lombardref29_Auction.j2 kq l0 l1 x8_1 x9_2 t453 x11_2 x57_12 x451000_2 x451001_2 x451002_1 0 = some (r1, r2, r3, r4)) ∧ Aside0 (kq ≤ k2) ∧ Aside0 (Kd.R k66 66 wc w.heap.size (fun _ => True) v454 t453) ∧ Aside0 (Kd.R k59 59 wc w.heap.size (fun _ => True) u451000 x451000_2) ∧ Aside0 (Kd.R k63 63 wc w.heap.size (fun _ => True) u451002 x451002_1) ∧ Aside0 (wc.heap[gb445]? = some (.cells #[(.slice none 0 0), .int .i64 x446001_2, (.slice none 0 0), .int .i64 x446003_2] 54 (0, 0))) ∧ Aside0 (wc.heap[gb450]? = some (.cells #[u451000, .int .i64 x451001_2, u451002, .int .i64 0] 54 (0, 0))) ∧ Aside0 (Below w.heap.size w wc))
             case first =>
              have H := HC13.out
              clear HC13
              by_cases c14 : x11_2 < (t453.length : Int)
              · rw [if_pos c14] at H
                have c14b0 := dT c14
                clear c14
                (first | rw [c14b0] | (simp only [i64_w, i32_w]; rw [c14b0]) | skip)
                have H' := Aside0.mk H
                clear H
                obtain ⟨Ao15, co15, eo15⟩ := Kd.R_slice HO_10.out
                subst eo15
                go_wp2
                go_meet
                case rel => exact ⟨_, (decide (x9_2 > 0)), ac, H', ⟨by have := HK1.out; have := HK2.out; first | omega | exact Nat.le_refl _⟩, ⟨gR HO_10⟩, ⟨gR HO_451000⟩, ⟨gR HO_451002⟩, ⟨gK BK445⟩, ⟨gK BK450⟩, ⟨gS HB⟩⟩
              · rw [if_neg c14] at H
                have c14b0 := dF c14
                clear c14
                (first | rw [c14b0] | (simp only [i64_w, i32_w]; rw [c14b0]) | skip)
                have H' := Aside0.mk H
                clear H
                obtain ⟨Ao16, co16, eo16⟩ := Kd.R_slice HO_10.out
                subst eo16
                go_wp2
                go_meet
                case rel => exact ⟨_, (false), ac, H', ⟨by have := HK1.out; have := HK2.out; first | omega | exact Nat.le_refl _⟩, ⟨gR HO_10⟩, ⟨gR HO_451000⟩, ⟨gR HO_451002⟩, ⟨gK BK445⟩, ⟨gK BK450⟩, ⟨gS HB⟩⟩
             case rest =>
              clear HC13; (try clear c1); (try clear c4); (try clear c4b0); (try clear c4b1); (try clear c6); (try clear c6b0); (try clear c6b1); (try clear c9); (try clear c9b0); (try clear c10); (try clear c10b0); (try clear hx451_0); (try clear hx451_1); (try clear hx452_0); (try clear hx452_1); (try clear p451); (try clear p452); (try clear q451); (try clear q452)
              obtain ⟨kq, x57_12, rfl, HA, HJ12, HO_10, HO_451000, HO_451002, BK445, BK450, HB⟩ := hcut
              cases kq with
              | zero => exact absurd HA.out (by simp [lombardref29_Auction.j2])
              | succ kj12 =>
               have H := HA.out
               clear HA
               simp only [lombardref29_Auction.j2] at H
               by_cases c17 : x57_12 = true
               · subst c17
                 replace H : (if 0 ≤ x11_2 then (if x11_2 < (t453.length : Int) then (if ((rd_T66 t453 x11_2).f2) < x9_2 then (lombardref29_Auction.j3 kj12 l0 l1 x8_1 x9_2 t453 x11_2 ((rd_T66 t453 x11_2).f2) x451000_2 x451001_2 x451002_1 0) else (lombardref29_Auction.j3 kj12 l0 l1 x8_1 x9_2 t453 x11_2 x9_2 x451000_2 x451001_2 x451002_1 0)) else (none)) else (none)) = some (r1, r2, r3, r4) := by rw [if_pos rfl] at H; exact H
                 by_cases c18 : 0 ≤ x11_2
                 · rw [if_pos c18] at H
                   have c18b0 := dT c18
                   clear c18
                   by_cases c19 : x11_2 < (t453.length : Int)
                   · rw [if_pos c19] at H
                     have c19b0 := dT c19
                     clear c19; have HC20 := Aside0.mk H; clear H
                     obtain ⟨Ao21, co21, eo21⟩ := Kd.R_slice HO_10.out
                     subst eo21
                     obtain ⟨⟨p460, q460⟩, ad460, rfl, hx460_0, hx460_1, hx460_2, hx460_3⟩ := za (at_T66 (Kd.R_reads' HO_10.out).2.2) x11_2
                     go_upto_if 67 with (fail)
                     go_cut [12] (fun v12 wc => ∃ (kq : Nat) (x12_19 : Int), v12 = .int .i64 x12_19 ∧ Aside0 (lombardref29_Auction.j3 kq l0 l1 x8_1 x9_2 t453 x11_2 x12_19 x451000_2 x451001_2 x451002_1 0 = some (r1, r2, r3, r4)) ∧ Aside0 (kq ≤ kj12) ∧ Aside0 (Kd.R k66 66 wc w.heap.size (fun _ => True) (.slice (some ad460) t453.length co21) t453) ∧ Aside0 (Kd.R k59 59 wc w.heap.size (fun _ => True) u451000 x451000_2) ∧ Aside0 (Kd.R k63 63 wc w.heap.size (fun _ => True) u451002 x451002_1) ∧ Aside0 (wc.heap[gb445]? = some (.cells #[(.slice none 0 0), .int .i64 x446001_2, (.slice none 0 0), .int .i64 x446003_2] 54 (0, 0))) ∧ Aside0 (wc.heap[gb450]? = some (.cells #[u451000, .int .i64 x451001_2, u451002, .int .i64 0] 54 (0, 0))) ∧ Aside0 (Below w.heap.size w wc))
                     case first =>
                      have H := HC20.out
                      clear HC20
                      by_cases c22 : ((rd_T66 t453 x11_2).f2) < x9_2
                      · rw [if_pos c22] at H
                        have c22b0 := dT c22
                        clear c22
                        (first | rw [c22b0] | (simp only [i64_w, i32_w]; rw [c22b0]) | skip)
                        have H' := Aside0.mk H
                        clear H
                        obtain ⟨⟨p461, q461⟩, ad461, e461, hx461_0, hx461_1, hx461_2, hx461_3⟩ := za (at_T66 (Kd.R_reads' HO_10.out).2.2) x11_2
                        obtain rfl : ad460 = ad461 := (by injection e461)
                        go_wp2
                        go_meet
                        case rel => exact ⟨_, ((rd_T66 t453 x11_2).f2), ac, H', ⟨by have := HK1.out; have := HK2.out; have := HJ12.out; first | omega | exact Nat.le_refl _⟩, ⟨gR HO_10⟩, ⟨gR HO_451000⟩, ⟨gR HO_451002⟩, ⟨gK BK445⟩, ⟨gK BK450⟩, ⟨gS HB⟩⟩
                      · rw [if_neg c22] at H
                        have c22b0 := dF c22
                        clear c22
                        (first | rw [c22b0] | (simp only [i64_w, i32_w]; rw [c22b0]) | skip)
                        have H' := Aside0.mk H
                        clear H
                        go_wp2
                        go_meet
                        case rel => exact ⟨_, (x9_2), ac, H', ⟨by have := HK1.out; have := HK2.out; have := HJ12.out; first | omega | exact Nat.le_refl _⟩, ⟨gR HO_10⟩, ⟨gR HO_451000⟩, ⟨gR HO_451002⟩, ⟨gK BK445⟩, ⟨gK BK450⟩, ⟨gS HB⟩⟩
                     case rest =>
                      clear HC20; (try clear c1); (try clear c4); (try clear c4b0); (try clear c4b1); (try clear c6); (try clear c6b0); (try clear c6b1); (try clear c9); (try clear c9b0); (try clear c10); (try clear c10b0); (try clear c17); (try clear c18); (try clear c18b0); (try clear c19); (try clear c19b0); (try clear hx451_0); (try clear hx451_1); (try clear hx452_0); (try clear hx452_1); (try clear hx460_0); (try clear hx460_1); (try clear hx460_2); (try clear hx460_3); (try clear p451); (try clear p452); (try clear p460); (try clear q451); (try clear q452); (try clear q460)
                      obtain ⟨kq, x12_19, rfl, HA, HJ19, HO_10, HO_451000, HO_451002, BK445, BK450, HB⟩ := hcut
                      cases kq with
                      | zero => exact absurd HA.out (by simp [lombardref29_Auction.j3])
                      | succ kj19 =>
                       have H := HA.out
                       clear HA
                       simp only [lombardref29_Auction.j3] at H
                       by_cases c23 : 0 ≤ x11_2
                       · rw [if_pos c23] at H
                         have c23b0 := dT c23
                         clear c23
                         by_cases c24 : x11_2 < (t453.length : Int)
                         · rw [if_pos c24] at H
                           have c24b0 := dT c24
                           clear c24
                           replace H := Option.bind_eq_some_iff.mp H
                           obtain ⟨⟨t463, t464⟩, A250, H⟩ := H
                           replace H : ((q31q.f x451001_2 t463).bind fun bt465 => (if bt465.2 = 0 then (if 0 ≤ x8_1 then (if x8_1 < (l0.length : Int) then (if x451000_2.length < 3518437208883 then (lombardref29_Auction.l1 kj19 l0 l1 x8_1 (wrap64 (x9_2 - x12_19)) t453 (wrap64 (x11_2 + 1)) (x451000_2 ++ [(⟨(rd_T66 t453 x11_2).f0, (rd_T63 l0 x8_1).f0, x12_19, t463⟩ : S59)]) bt465.1 x451002_1 0) else (none)) else (none)) else (none)) else (some (([] : List (S59)), 0, ([] : List (S63)), bt465.2)))) = some (r1, r2, r3, r4) := H
                           have A25 := Aside0.mk A250; clear A250
                           replace H := Option.bind_eq_some_iff.mp H
                           obtain ⟨⟨t465, t466⟩, A260, H⟩ := H
                           replace H : (if t466 = 0 then (if 0 ≤ x8_1 then (if x8_1 < (l0.length : Int) then (if x451000_2.length < 3518437208883 then (lombardref29_Auction.l1 kj19 l0 l1 x8_1 (wrap64 (x9_2 - x12_19)) t453 (wrap64 (x11_2 + 1)) (x451000_2 ++ [(⟨(rd_T66 t453 x11_2).f0, (rd_T63 l0 x8_1).f0, x12_19, t463⟩ : S59)]) t465 x451002_1 0) else (none)) else (none)) else (none)) else (some (([] : List (S59)), 0, ([] : List (S63)), t466))) = some (r1, r2, r3, r4) := H
                           have A26 := Aside0.mk A260; clear A260
                           by_cases c27 : t466 = 0
                           · rw [if_pos c27] at H
                             have c27b0 : (t466 == 0) = true := beq_iff_eq.mpr c27
                             have c27b1 : (t466 != 0) = false := bne_eq_false_iff_eq.mpr c27
                             clear c27
                             by_cases c28 : 0 ≤ x8_1
                             · rw [if_pos c28] at H
                               have c28b0 := dT c28
                               clear c28
                               by_cases c29 : x8_1 < (l0.length : Int)
                               · rw [if_pos c29] at H
                                 have c29b0 := dT c29
                                 clear c29
                                 by_cases c30 : x451000_2.length < 3518437208883
                                 · rw [if_pos c30] at H
                                   have LMc30 := Aside0.mk c30; clear c30
                                   obtain ⟨y469, hy_⟩ : ∃ y_ : List (S59), y_ = (x451000_2 ++ [(⟨(rd_T66 t453 x11_2).f0, (rd_T63 l0 x8_1).f0, x12_19, t463⟩ : S59)]) := ⟨_, rfl⟩
                                   replace H : (lombardref29_Auction.l1 kj19 l0 l1 x8_1 (wrap64 (x9_2 - x12_19)) t453 (wrap64 (x11_2 + 1)) y469 t465 x451002_1 0) = some (r1, r2, r3, r4) := h2
                                   have Ny469 := Aside0.mk hy_; clear hy_
                                   have H' := Aside0.mk H
                                   clear H
                                   obtain ⟨⟨p462, q462⟩, ad462, e462, hx462_0, hx462_1, hx462_2, hx462_3⟩ := za (at_T66 (Kd.R_reads' HO_10.out).2.2) x11_2
                                   obtain rfl : ad460 = ad462 := (by injection e462)
                                   try go_wp2_with (first | ((with_reducible refine gate_callee (f := 39) rfl ?_); refine goesL_ (some 80) rfl rfl Try.func39 (by kernel_rfl) rfl #[.int .i64 x12_19, .int .i64 ((rd_T66 t453 x11_2).f3)] rfl am ?_; (with_reducible refine (lombardref13_Worth.calls x12_19 ((rd_T66 t453 x11_2).f3) t463 t464 _ A25.out).mono ?_); rintro e w31 ⟨rfl, hb⟩; (try clear A25); refine ⟨_, rfl, ?_⟩; replace HO_10 := aK (Kd.R_below (gR HO_10) hb); replace HO_451000 := aK (Kd.R_below (gR HO_451000) hb); replace HO_451002 := aK (Kd.R_below (gR HO_451002) hb); replace BK445 := aK (blk_below (g := gb445) (o := .cells #[.slice none 0 0, .int .i64 x446001_2, .slice none 0 0, .int .i64 x446003_2] 54 (0, 0)) (gK BK445) hb); replace BK450 := aK (blk_below (g := gb450) (o := .cells #[u451000, .int .i64 x451001_2, u451002, .int .i64 0] 54 (0, 0)) (gK BK450) hb); replace HB := aK (below_step (gS HB) hb); (try clear hb); (try clear hb2); (try clear hk); (try clear hi); have hnb32 := NB450_445.out; have hnc32 := NB445_450.out; have hcz33_0 : w31.cell? ⟨gb450, 0, none⟩ = some (u451000) := (blk_cell BK450.out 0).trans rfl; have hcz33_1 : w31.cell? ⟨gb450, 1, none⟩ = some (.int .i64 x451001_2) := (blk_cell BK450.out 1).trans rfl; have hcz33_2 : w31.cell? ⟨gb450, 2, none⟩ = some (u451002) := (blk_cell BK450.out 2).trans rfl; have hcz33_3 : w31.cell? ⟨gb450, 3, none⟩ = some (.int .i64 0) := (blk_cell BK450.out 3).trans rfl; have hfz33_0 := blk_frozen BK450.out 0; have hfz33_1 := blk_frozen BK450.out 1; have hfz33_2 := blk_frozen BK450.out 2; have hfz33_3 := blk_frozen BK450.out 3) | ((with_reducible refine gate_callee (f := 15) rfl ?_); refine goesL_ (some 87) rfl rfl Try.func15 (by kernel_rfl) rfl #[.int .i64 x451001_2, .int .i64 t463] rfl am ?_; (with_reducible refine (q31q.calls x451001_2 t463 t465 t466 _ A26.out).mono ?_); rintro e w' ⟨rfl, ⟨nd, rfl⟩⟩; (try clear A26); refine ⟨_, rfl, ?_⟩; (try (rw [drewN_self w31]; generalize hq_ : World.drewN w31 _ = w31; have hcq := XWords.cell_at hq_; have hfq := XWords.frozen_at hq_; have n0_ : Aside0 (Kd.R k66 66 w31 w.heap.size (fun _ => True) (.slice (some ad460) t453.length co21) t453) := ⟨by rw [← hq_]; exact (gR HO_10)⟩; have n1_ : Aside0 (Kd.R k59 59 w31 w.heap.size (fun _ => True) u451000 x451000_2) := ⟨by rw [← hq_]; exact (gR HO_451000)⟩; have n2_ : Aside0 (Kd.R k63 63 w31 w.heap.size (fun _ => True) u451002 x451002_1) := ⟨by rw [← hq_]; exact (gR HO_451002)⟩; have n3_ : Aside0 (w31.heap[gb445]? = some (.cells #[.slice none 0 0, .int .i64 x446001_2, .slice none 0 0, .int .i64 x446003_2] 54 (0, 0))) := ⟨by rw [← hq_]; exact (gK BK445)⟩; have n4_ : Aside0 (w31.heap[gb450]? = some (.cells #[u451000, .int .i64 x451001_2, u451002, .int .i64 0] 54 (0, 0))) := ⟨by rw [← hq_]; exact (gK BK450)⟩; have n5_ : Aside0 (Below w.heap.size w w31) := ⟨by rw [← hq_]; exact (gS HB)⟩; clear HO_10 HO_451000 HO_451002 BK445 BK450 HB hq_; have HO_10 := n0_; have HO_451000 := n1_; have HO_451002 := n2_; have BK445 := n3_; have BK450 := n4_; have HB := n5_; clear n0_ n1_ n2_ n3_ n4_ n5_))))
                                   have n0_ : Aside0 (Kd.R k66 66 (w31.setCell ⟨gb450, 1, none⟩ (.int .i64 t465)) w.heap.size (fun _ => True) (.slice (some ad460) t453.length co21) t453) := ⟨gR ⟨Kd.R_mono (Kd.R_far (p := ⟨gb450, 1, none⟩) (Kd.R_types HO_10.out BK450.out (by decide)) (fun _ hk => hk.2) (.int .i64 t465)) (fun _ hk => trivial)⟩⟩
                                   have n1_ : Aside0 (Kd.R k59 59 (w31.setCell ⟨gb450, 1, none⟩ (.int .i64 t465)) w.heap.size (fun _ => True) u451000 x451000_2) := ⟨gR ⟨Kd.R_mono (Kd.R_far (p := ⟨gb450, 1, none⟩) (Kd.R_types HO_451000.out BK450.out (by decide)) (fun _ hk => hk.2) (.int .i64 t465)) (fun _ hk => trivial)⟩⟩
                                   have n2_ : Aside0 (Kd.R k63 63 (w31.setCell ⟨gb450, 1, none⟩ (.int .i64 t465)) w.heap.size (fun _ => True) u451002 x451002_1) := ⟨gR ⟨Kd.R_mono (Kd.R_far (p := ⟨gb450, 1, none⟩) (Kd.R_types HO_451002.out BK450.out (by decide)) (fun _ hk => hk.2) (.int .i64 t465)) (fun _ hk => trivial)⟩⟩
                                   have n3_ : Aside0 ((w31.setCell ⟨gb450, 1, none⟩ (.int .i64 t465)).heap[gb445]? = some (.cells #[.slice none 0 0, .int .i64 x446001_2, .slice none 0 0, .int .i64 x446003_2] 54 (0, 0))) := ⟨by (with_reducible repeat (first | refine blk_drewN ?_ _ | refine blk_drew ?_ | refine blk_alloc ?_ _)); refine blk_far ?_ NB445_450.out _; (with_reducible repeat (first | refine blk_drewN ?_ _ | refine blk_drew ?_ | refine blk_alloc ?_ _)); exact BK445.out⟩
                                   have n4_ : Aside0 ((w31.setCell ⟨gb450, 1, none⟩ (.int .i64 t465)).heap[gb450]? = some (.cells #[u451000, .int .i64 t465, u451002, .int .i64 0] 54 (0, 0))) := ⟨by (with_reducible repeat (first | refine blk_drewN ?_ _ | refine blk_drew ?_ | refine blk_alloc ?_ _)); refine blk_put (cs := #[u451000, .int .i64 x451001_2, u451002, .int .i64 0]) ?_ 1 _ rfl; (with_reducible repeat (first | refine blk_drewN ?_ _ | refine blk_drew ?_ | refine blk_alloc ?_ _)); exact BK450.out⟩
                                   have n5_ : Aside0 (Below w.heap.size w (w31.setCell ⟨gb450, 1, none⟩ (.int .i64 t465))) := ⟨gS HB⟩
                                   try clear HO_10
                                   try clear HO_451000
                                   try clear HO_451002
                                   try clear BK445
                                   try clear BK450
                                   try clear HB
                                   first | (have hzw34_0 : (w31.setCell ⟨gb450, 1, none⟩ (.int .i64 t465)).cell? ⟨gb450, 1, none⟩ = some (.int .i64 t465) := (by first | exact XWords.cell_here (by first | (with_reducible assumption) | assumption) _ | (go_simp; done)); generalize (w31.setCell ⟨gb450, 1, none⟩ (.int .i64 t465)) = w34 at n0_ n1_ n2_ n3_ n4_ n5_ hzw34_0 ⊢) | generalize (w31.setCell ⟨gb450, 1, none⟩ (.int .i64 t465)) = w34 at n0_ n1_ n2_ n3_ n4_ n5_ ⊢
                                   have HO_10 := n0_
                                   have HO_451000 := n1_
                                   have HO_451002 := n2_
                                   have BK445 := n3_
                                   have BK450 := n4_
                                   have HB := n5_
                                   clear n0_ n1_ n2_ n3_ n4_ n5_
                                   have n0_ := aK (Kd.R_drew HO_10.out)
                                   have n1_ := aK (Kd.R_drew HO_451000.out)
                                   have n2_ := aK (Kd.R_drew HO_451002.out)
                                   have n3_ := aK (blk_drew BK445.out)
                                   have n4_ := aK (blk_drew BK450.out)
                                   have n5_ := aK (below_drew1 HB.out)
                                   clear HO_10; clear HO_451000; clear HO_451002; clear BK445; clear BK450; clear HB
                                   have HO_10 := n0_
                                   have HO_451000 := n1_
                                   have HO_451002 := n2_
                                   have BK445 := n3_
                                   have BK450 := n4_
                                   have HB := n5_
                                   clear n0_ n1_ n2_ n3_ n4_ n5_
                                   obtain ⟨⟨p467, q467⟩, ad467, e467, hx467_0, hx467_1, hx467_2, hx467_3⟩ := za (at_T66 (Kd.R_reads' HO_10.out).2.2) x11_2
                                   obtain rfl : ad460 = ad467 := (by injection e467)
                                   have p468 : 0 ≤ (x8_1 : Int) := od
                                   have q468 : x8_1 < (l0.length : Int) := od
                                   obtain ⟨ad468, e468, hx468_0, hx468_1⟩ := at_T63 HR0.out x8_1 p468 q468
                                   have hw468_1 := hx468_1
                                   have hw468_0 := hx468_0
                                   obtain rfl : ad451 = ad468 := (by injection e468)
                                   replace hx468_0 := gc HB hx468_0
                                   replace hx468_1 := gc HB hx468_1
                                   replace p468 := eq_true p468; replace q468 := eq_true q468
                                   refine start_ (n := 19) (S := fun w' => w'.cell? ⟨gb450, 0, none⟩ = some (u451000) ∧ w'.cell? ⟨gb450, 1, none⟩ = some (.int .i64 t465) ∧ w'.cell? ⟨gb450, 2, none⟩ = some (u451002) ∧ w'.cell? ⟨gb450, 3, none⟩ = some (.int .i64 0) ∧ w'.cell? (ad460.add ((x11_2).toNat * 4)) = some (.int .i64 ((rd_T66 t453 x11_2).f0)) ∧ w'.cell? ⟨(ad460.add ((x11_2).toNat * 4)).block, (ad460.add ((x11_2).toNat * 4)).off + 1, none⟩ = some (.string ((rd_T66 t453 x11_2).f1)) ∧ w'.cell? ⟨(ad460.add ((x11_2).toNat * 4)).block, (ad460.add ((x11_2).toNat * 4)).off + 2, none⟩ = some (.int .i64 ((rd_T66 t453 x11_2).f2)) ∧ w'.cell? ⟨(ad460.add ((x11_2).toNat * 4)).block, (ad460.add ((x11_2).toNat * 4)).off + 3, none⟩ = some (.int .i64 ((rd_T66 t453 x11_2).f3)) ∧ w'.cell? (ad451.add ((x8_1).toNat * 2)) = some (.string ((rd_T63 l0 x8_1).f0)) ∧ w'.cell? ⟨(ad451.add ((x8_1).toNat * 2)).block, (ad451.add ((x8_1).toNat * 2)).off + 1, none⟩ = some (.int .i64 ((rd_T63 l0 x8_1).f1))) (ds := [16, 18]) (pf 19 0) (by kernel_rfl) rfl rfl ⟨(blk_cell BK450.out 0).trans rfl, (blk_cell BK450.out 1).trans rfl, (blk_cell BK450.out 2).trans rfl, (blk_cell BK450.out 3).trans rfl, hx467_0, hx467_1, hx467_2, hx467_3, ((HB.out.cell (World.block_lt_of_cell? w _ hw468_0)).trans hw468_0), ((HB.out.cell (World.block_lt_of_cell? w _ hw468_1)).trans hw468_1)⟩ (fun hHeld => ?_); refine with_tabW lombardref29_Auction.tab23 lombardref29_Auction.bits23 (fun HT_ HW_ => ?_)
                                   generalize w34.drew = w35 at HO_10 HO_451000 HO_451002 BK445 BK450 HB hx467_0 hx467_1 hx467_2 hx467_3 hx468_0 hx468_1 hHeld ⊢
                                   refine pA (i := 0) (N := some 96) HT_ (pf 19 1) ?_
                                   refine pA (i := 2) (N := some 98) HT_ (ba 19 5) ?_
                                   refine pA (i := 3) (N := some 99) HT_ (ba 19 13) ?_
                                   refine pA (i := 4) (N := some 100) HT_ (ba 19 29) ?_
                                   refine pA (i := 5) (N := some 101) HT_ (ba 19 61) ?_
                                   refine pA (i := 7) (N := some 103) HT_ (ba 19 189) ?_
                                   refine pA (i := 8) (N := some 104) HT_ (ba 19 445) ?_
                                   refine pA (i := 9) (N := some 105) HT_ (ba 19 957) ?_
                                   refine pA (i := 10) (N := some 106) HT_ (ba 19 1981) ?_
                                   refine pA (i := 12) (N := some 108) HT_ (ba 19 6077) ?_
                                   refine pA (i := 13) (N := some 109) HT_ (ba 19 14269) ?_
                                   refine take_ (i := 1) (N := some 97) (v := ?_) (a' := ?_) (ba 19 14271) rfl rfl (take_ofW HT_.out HW_.out (by kernel_rfl)) (fun _ _ _ h => h) (Or.inl ⟨by rfl, ?_⟩) hHeld ?_ ?_
                                   rotate_left
                                   · rintro w' ⟨s0, s1, s2, s3, s4, s5, s6, s7, s8, s9⟩
                                     go_simp
                                     with_reducible rfl
                                   rotate_left
                                   · simp only [Act.put, sA, sB, sC, i64_w, i32_w]
                                     rfl
                                   refine take_ (i := 6) (N := some 102) (v := ?_) (a' := ?_) (ba 19 14335) rfl rfl (take_ofW HT_.out HW_.out (by kernel_rfl)) (fun _ _ _ h => h) (Or.inl ⟨by rfl, ?_⟩) hHeld ?_ ?_
                                   rotate_left
                                   · rintro w' ⟨s0, s1, s2, s3, s4, s5, s6, s7, s8, s9⟩
                                     go_simp
                                     with_reducible rfl
                                   rotate_left
                                   · simp only [Act.put, sA, sB, sC, i64_w, i32_w]
                                     rfl
                                   refine take_ (i := 11) (N := some 107) (v := ?_) (a' := ?_) (pf 19 14) rfl rfl (take_ofW HT_.out HW_.out (by kernel_rfl)) (fun _ _ _ h => h) (Or.inl ⟨by rfl, ?_⟩) hHeld ?_ ?_
                                   rotate_left
                                   · rintro w' ⟨s0, s1, s2, s3, s4, s5, s6, s7, s8, s9⟩
                                     go_simp
                                     with_reducible rfl
                                   rotate_left
                                   · simp only [Act.put, sA, sB, sC, i64_w, i32_w]
                                     rfl
                                   refine pA (i := 14) (N := some 110) HT_ (pf 19 15) ?_
                                   refine one_ (i := 15) (N := some 111) (pf 19 16) rfl rfl (one_of HT_.out (by kernel_rfl)) (by decide) (fun K hK => ?_)
                                   refine value_ (w1 := ?_) (v := ?_) (by rfl) rfl ?_ ?_
                                   rotate_left 2
                                   · go_simp
                                     constructor
                                     · rfl
                                     · rfl
                                   refine hK.out _ _ ⟨(blk_cell (blk_alloc BK450.out _) 0).trans rfl, (blk_cell (blk_alloc BK450.out _) 1).trans rfl, (blk_cell (blk_alloc BK450.out _) 2).trans rfl, (blk_cell (blk_alloc BK450.out _) 3).trans rfl, (World.cell?_alloc_lt _ _ _ (World.block_lt_of_cell? _ _ (hHeld.2.2.2.2.1))).trans (hHeld.2.2.2.2.1), (World.cell?_alloc_lt _ _ _ (World.block_lt_of_cell? _ _ (hHeld.2.2.2.2.2.1))).trans (hHeld.2.2.2.2.2.1), (World.cell?_alloc_lt _ _ _ (World.block_lt_of_cell? _ _ (hHeld.2.2.2.2.2.2.1))).trans (hHeld.2.2.2.2.2.2.1), (World.cell?_alloc_lt _ _ _ (World.block_lt_of_cell? _ _ (hHeld.2.2.2.2.2.2.2.1))).trans (hHeld.2.2.2.2.2.2.2.1), (World.cell?_alloc_lt _ _ _ (World.block_lt_of_cell? _ _ (((HB.out.cell (World.block_lt_of_cell? w _ hw468_0)).trans hw468_0)))).trans (((HB.out.cell (World.block_lt_of_cell? w _ hw468_0)).trans hw468_0)), (World.cell?_alloc_lt _ _ _ (World.block_lt_of_cell? _ _ (((HB.out.cell (World.block_lt_of_cell? w _ hw468_1)).trans hw468_1)))).trans (((HB.out.cell (World.block_lt_of_cell? w _ hw468_1)).trans hw468_1))⟩ (fun hHeld => ?_)
                                   clear hK K
                                   refine norm_ (a' := ?_) ?_ ?_
                                   rotate_left
                                   · show Act.put _ (some 111) _ = _
                                     simp only [Act.put, sA, sB, sC, i64_w, i32_w]
                                     rfl
                                   refine last_ (i := 16) (N := some 112) (pf 19 17) rfl rfl (one_of HT_.out (by kernel_rfl)) (by decide) (fun K hK => ?_)
                                   refine Kd.R_append_step k59 (w0 := w) w.heap.size (by rfl) (.tmp 97) (.tmp 111) 52 59 (.agg #[(.int .i64 0), (.string ⟨#[]⟩), (.int .i64 0), (.int .i64 0)]) 40 rfl Try.underlying52 info59 rfl (by decide) (by omega) u451000 x451000_2 (⟨(rd_T66 t453 x11_2).f0, (rd_T63 l0 x8_1).f0, x12_19, t463⟩ : S59) [.int .i64 ((rd_T66 t453 x11_2).f0), .string ((rd_T63 l0 x8_1).f0), .int .i64 x12_19, .int .i64 t463] (fun _ => True) (fun _ => False) rfl rfl ?aP (fun _ hk => hk.elim) ?aF ?aO ?aB ?aS ?aL ?_
                                   (case aP => exact k59_mkM _ _ _ (⟨(rd_T66 t453 x11_2).f0, (rd_T63 l0 x8_1).f0, x12_19, t463⟩ : S59))
                                   (case aB => exact (gS HB))
                                   (case aF => exact (fun _ _ => trivial))
                                   (case aO => exact (gR HO_451000))
                                   (case aS => exact (below_size (gS HB)))
                                   (case aL => have := LMc30.out; omega)
                                   intro v470 w36 ho hb hg hat
                                   rw [← Ny469.out] at ho
                                   have n0_ := aK (Kd.R_over' (gR HO_10) (Kd.R_typed (gR HO_451000)) (by decide) hg)
                                   have n1_ := aK (Kd.R_over' (gR HO_451002) (Kd.R_typed (gR HO_451000)) (by decide) hg)
                                   have n2_ := aK (blk_grown (g := gb445) (o := .cells #[.slice none 0 0, .int .i64 x446001_2, .slice none 0 0, .int .i64 x446003_2] 54 (0, 0)) (gK BK445) hg (Kd.R_ne HO_451000.out BK445.out (by decide)))
                                   have n3_ := aK (blk_grown (g := gb450) (o := .cells #[u451000, .int .i64 t465, u451002, .int .i64 0] 54 (0, 0)) (gK BK450) hg (Kd.R_ne HO_451000.out BK450.out (by decide)))
                                   have n4_ := aK (hb)
                                   have n5_ := aK (ho)
                                   clear HO_10; clear HO_451002; clear BK445; clear BK450; clear HB; clear HO_451000
                                   have HO_10 := n0_
                                   have HO_451002 := n1_
                                   have BK445 := n2_
                                   have BK450 := n3_
                                   have HB := n4_
                                   have HO471 := n5_
                                   clear n0_ n1_ n2_ n3_ n4_ n5_; clear ho hb hg hat
                                   obtain ⟨Ao37, co37, eo37⟩ := Kd.R_slice HO471.out
                                   (first | subst eo37 | (injection eo37 with f1_ f2_ f3_; have f4_ := f1_.symm; have f5_ := f3_.symm; clear f1_ f2_ f3_; subst f4_; subst f5_))
                                   refine hK.out _ _ ?_
                                   clear hK K
                                   refine norm_ (a' := ?_) ?_ ?_
                                   rotate_left
                                   · show Act.put _ (some 112) _ = _
                                     simp only [Act.put, sA, sB, sC, i64_w, i32_w]
                                     rfl
                                   refine pA (i := 17) (N := some 113) HT_ (pf 19 18) ?_
                                   refine last_ (i := 18) (N := none) (pf 19 19) rfl rfl (one_of HT_.out (by kernel_rfl)) (by decide) (fun K hK => ?_)
                                   have hs38 : w36.cell? ⟨gb450, 0, none⟩ = some (u451000) := (blk_cell BK450.out 0).trans rfl
                                   have hfs38 := blk_frozen BK450.out 0
                                   have hns38_0 := NB445_450.out
                                   have hms38_0 := NB450_445.out
                                   refine skip_ (w1 := ?_) (by rfl) rfl ?_ ?_
                                   rotate_left
                                   · go_simp
                                     rfl
                                   refine hK.out _ _ ?_
                                   clear hK K
                                   refine done_ (done_of HT_.out (by kernel_rfl)) ?_
                                   try go_wp2
                                   go_roundg kj19
                                   case measure => have := HK1.out; have := HK2.out; have := HJ12.out; have := HJ19.out; omega
                                   case rel => exact ⟨(wrap64 (x9_2 - x12_19)), (wrap64 (x11_2 + 1)), (x446001_2), (x446003_2), (y469), (t465), (.slice Ao37 y469.length co37), ac, ac, H', ⟨by have := HK1.out; have := HK2.out; have := HJ12.out; have := HJ19.out; omega⟩, ⟨gR ⟨Kd.R_mono (Kd.R_far (p := ⟨gb450, 0, none⟩) (Kd.R_types HO_10.out BK450.out (by decide)) (fun _ hk => hk.2) (.slice Ao37 y469.length co37)) (fun _ hk => trivial)⟩⟩, ⟨gR ⟨Kd.R_mono (Kd.R_far (p := ⟨gb450, 0, none⟩) (Kd.R_types HO471.out BK450.out (by decide)) (fun _ hk => hk.2) (.slice Ao37 y469.length co37)) (fun _ hk => trivial)⟩⟩, ⟨gR ⟨Kd.R_mono (Kd.R_far (p := ⟨gb450, 0, none⟩) (Kd.R_types HO_451002.out BK450.out (by decide)) (fun _ hk => hk.2) (.slice Ao37 y469.length co37)) (fun _ hk => trivial)⟩⟩, ⟨by (with_reducible repeat (first | refine blk_drewN ?_ _ | refine blk_drew ?_ | refine blk_alloc ?_ _)); refine blk_far ?_ NB445_450.out _; (with_reducible repeat (first | refine blk_drewN ?_ _ | refine blk_drew ?_ | refine blk_alloc ?_ _)); exact BK445.out⟩, ⟨by (with_reducible repeat (first | refine blk_drewN ?_ _ | refine blk_drew ?_ | refine blk_alloc ?_ _)); refine blk_put (cs := #[u451000, .int .i64 t465, u451002, .int .i64 0]) ?_ 0 _ rfl; (with_reducible repeat (first | refine blk_drewN ?_ _ | refine blk_drew ?_ | refine blk_alloc ?_ _)); exact BK450.out⟩, ⟨gS HB⟩⟩
                                 · rw [if_neg c30] at H
                                   exact absurd H (by simp)
                               · rw [if_neg c29] at H
                                 exact absurd H (by simp)
                             · rw [if_neg c28] at H
                               exact absurd H (by simp)
                           · rw [if_neg c27] at H
                             have c27b0 : (t466 == 0) = false := beq_eq_false_iff_ne.mpr c27
                             have c27b1 : (t466 != 0) = true := bne_iff_ne.mpr c27
                             simp only [Option.some.injEq, Prod.mk.injEq] at H
                             obtain ⟨rfl, rfl, rfl, rfl⟩ := H
                             obtain ⟨⟨p462, q462⟩, ad462, e462, hx462_0, hx462_1, hx462_2, hx462_3⟩ := za (at_T66 (Kd.R_reads' HO_10.out).2.2) x11_2
                             obtain rfl : ad460 = ad462 := (by injection e462)
                             go_wp2_with (first | ((with_reducible refine gate_callee (f := 39) rfl ?_); refine goesL_ (some 80) rfl rfl Try.func39 (by kernel_rfl) rfl #[.int .i64 x12_19, .int .i64 ((rd_T66 t453 x11_2).f3)] rfl am ?_; (with_reducible refine (lombardref13_Worth.calls x12_19 ((rd_T66 t453 x11_2).f3) t463 t464 _ A25.out).mono ?_); rintro e w39 ⟨rfl, hb⟩; (try clear A25); refine ⟨_, rfl, ?_⟩; replace HO_10 := aK (Kd.R_below (gR HO_10) hb); replace HO_451000 := aK (Kd.R_below (gR HO_451000) hb); replace HO_451002 := aK (Kd.R_below (gR HO_451002) hb); replace BK445 := aK (blk_below (g := gb445) (o := .cells #[.slice none 0 0, .int .i64 x446001_2, .slice none 0 0, .int .i64 x446003_2] 54 (0, 0)) (gK BK445) hb); replace BK450 := aK (blk_below (g := gb450) (o := .cells #[u451000, .int .i64 x451001_2, u451002, .int .i64 0] 54 (0, 0)) (gK BK450) hb); replace HB := aK (below_step (gS HB) hb); (try clear hb); (try clear hb2); (try clear hk); (try clear hi); have hnb40 := NB450_445.out; have hnc40 := NB445_450.out; have hcz41_0 : w39.cell? ⟨gb450, 0, none⟩ = some (u451000) := (blk_cell BK450.out 0).trans rfl; have hcz41_1 : w39.cell? ⟨gb450, 1, none⟩ = some (.int .i64 x451001_2) := (blk_cell BK450.out 1).trans rfl; have hcz41_2 : w39.cell? ⟨gb450, 2, none⟩ = some (u451002) := (blk_cell BK450.out 2).trans rfl; have hcz41_3 : w39.cell? ⟨gb450, 3, none⟩ = some (.int .i64 0) := (blk_cell BK450.out 3).trans rfl; have hfz41_0 := blk_frozen BK450.out 0; have hfz41_1 := blk_frozen BK450.out 1; have hfz41_2 := blk_frozen BK450.out 2; have hfz41_3 := blk_frozen BK450.out 3) | ((with_reducible refine gate_callee (f := 15) rfl ?_); refine goesL_ (some 87) rfl rfl Try.func15 (by kernel_rfl) rfl #[.int .i64 x451001_2, .int .i64 t463] rfl am ?_; (with_reducible refine (q31q.calls x451001_2 t463 t465 t466 _ A26.out).mono ?_); rintro e w' ⟨rfl, ⟨nd, rfl⟩⟩; (try clear A26); refine ⟨_, rfl, ?_⟩; (try (rw [drewN_self w39]; generalize hq_ : World.drewN w39 _ = w39; have n0_ : Aside0 (Kd.R k66 66 w39 w.heap.size (fun _ => True) (.slice (some ad460) t453.length co21) t453) := ⟨by rw [← hq_]; exact (gR HO_10)⟩; have n1_ : Aside0 (Kd.R k59 59 w39 w.heap.size (fun _ => True) u451000 x451000_2) := ⟨by rw [← hq_]; exact (gR HO_451000)⟩; have n2_ : Aside0 (Kd.R k63 63 w39 w.heap.size (fun _ => True) u451002 x451002_1) := ⟨by rw [← hq_]; exact (gR HO_451002)⟩; have n3_ : Aside0 (w39.heap[gb445]? = some (.cells #[.slice none 0 0, .int .i64 x446001_2, .slice none 0 0, .int .i64 x446003_2] 54 (0, 0))) := ⟨by rw [← hq_]; exact (gK BK445)⟩; have n4_ : Aside0 (w39.heap[gb450]? = some (.cells #[u451000, .int .i64 x451001_2, u451002, .int .i64 0] 54 (0, 0))) := ⟨by rw [← hq_]; exact (gK BK450)⟩; have n5_ : Aside0 (Below w.heap.size w w39) := ⟨by rw [← hq_]; exact (gS HB)⟩; clear HO_10 HO_451000 HO_451002 BK445 BK450 HB hq_; have HO_10 := n0_; have HO_451000 := n1_; have HO_451002 := n2_; have BK445 := n3_; have BK450 := n4_; have HB := n5_; clear n0_ n1_ n2_ n3_ n4_ n5_)); have hcz42_0 : w39.cell? ⟨gb445, 0, none⟩ = some (.slice none 0 0) := (blk_cell BK445.out 0).trans rfl; have hcz42_1 : w39.cell? ⟨gb445, 1, none⟩ = some (.int .i64 x446001_2) := (blk_cell BK445.out 1).trans rfl; have hcz42_2 : w39.cell? ⟨gb445, 2, none⟩ = some (.slice none 0 0) := (blk_cell BK445.out 2).trans rfl; have hcz42_3 : w39.cell? ⟨gb445, 3, none⟩ = some (.int .i64 x446003_2) := (blk_cell BK445.out 3).trans rfl; have hfz42_0 := blk_frozen BK445.out 0; have hfz42_1 := blk_frozen BK445.out 1; have hfz42_2 := blk_frozen BK445.out 2; have hfz42_3 := blk_frozen BK445.out 3))
                             refine bodyPost_ret (results_cell_row rfl _ _ gb445 54 #[.slice none 0 0, .int .i64 0, .slice none 0 0, .int .i64 t466] (0, 0) _ rfl (by (with_reducible repeat (first | refine blk_drewN ?_ _ | refine blk_drew ?_ | refine blk_alloc ?_ _)); refine blk_put (cs := #[.slice none 0 0, .int .i64 0, .slice none 0 0, .int .i64 x446003_2]) ?_ 3 _ rfl; (with_reducible repeat (first | refine blk_drewN ?_ _ | refine blk_drew ?_ | refine blk_alloc ?_ _)); refine blk_put (cs := #[.slice none 0 0, .int .i64 0, .slice none 0 0, .int .i64 x446003_2]) ?_ 2 _ rfl; (with_reducible repeat (first | refine blk_drewN ?_ _ | refine blk_drew ?_ | refine blk_alloc ?_ _)); refine blk_put (cs := #[.slice none 0 0, .int .i64 x446001_2, .slice none 0 0, .int .i64 x446003_2]) ?_ 1 _ rfl; (with_reducible repeat (first | refine blk_drewN ?_ _ | refine blk_drew ?_ | refine blk_alloc ?_ _)); refine blk_put (cs := #[.slice none 0 0, .int .i64 x446001_2, .slice none 0 0, .int .i64 x446003_2]) ?_ 0 _ rfl; (with_reducible repeat (first | refine blk_drewN ?_ _ | refine blk_drew ?_ | refine blk_alloc ?_ _)); exact BK445.out) Try.underlying54 rfl (by kernel_rfl)) rfl ?_
                             exact ⟨_, _, by first | rfl | (simp [errW_none, errW_some] <;> rfl) | (simp [*, errW_none, errW_some] <;> rfl), by first | exact Kd.R_nil _ _ _ _ _ | exact Kd.N_nil _ _ _ _ _ | exact Kd.V_nil _ _ _ _ _ | exact Kd.Q_nil _ _ _ _ _ | exact Kd.S_nil _ _ _ _ _, by first | exact Kd.R_nil _ _ _ _ _ | exact Kd.N_nil _ _ _ _ _ | exact Kd.V_nil _ _ _ _ _ | exact Kd.Q_nil _ _ _ _ _ | exact Kd.S_nil _ _ _ _ _, gS HB⟩
                         · rw [if_neg c24] at H
                           exact absurd H (by simp)
                       · rw [if_neg c23] at H
                         exact absurd H (by simp)
                   · rw [if_neg c19] at H
                     exact absurd H (by simp)
                 · rw [if_neg c18] at H
                   exact absurd H (by simp)
               · replace c17 := Bool.eq_false_iff.mpr c17
                 subst c17
                 replace H : (if x9_2 > 0 then (if 0 ≤ x8_1 then (if x8_1 < (l0.length : Int) then (if x451002_1.length < 5864062014805 then (lombardref29_Auction.l0 kj12 l0 l1 (wrap64 (x8_1 + 1)) x451000_2 x451001_2 (x451002_1 ++ [(⟨(rd_T63 l0 x8_1).f0, x9_2⟩ : S63)]) 0) else (none)) else (none)) else (none)) else (lombardref29_Auction.l0 kj12 l0 l1 (wrap64 (x8_1 + 1)) x451000_2 x451001_2 x451002_1 0)) = some (r1, r2, r3, r4) := by rw [if_neg (show ¬ (false = true) by decide)] at H; exact H
                 by_cases c43 : x9_2 > 0
                 · rw [if_pos c43] at H
                   have c43b0 : decide (0 < x9_2) = true := decide_eq_true c43
                   clear c43
                   by_cases c44 : 0 ≤ x8_1
                   · rw [if_pos c44] at H
                     have c44b0 := dT c44
                     clear c44
                     by_cases c45 : x8_1 < (l0.length : Int)
                     · rw [if_pos c45] at H
                       have c45b0 := dT c45
                       clear c45
                       by_cases c46 : x451002_1.length < 5864062014805
                       · rw [if_pos c46] at H
                         have LMc46 := Aside0.mk c46; clear c46
                         obtain ⟨y457, hy_⟩ : ∃ y_ : List (S63), y_ = (x451002_1 ++ [(⟨(rd_T63 l0 x8_1).f0, x9_2⟩ : S63)]) := ⟨_, rfl⟩
                         replace H : (lombardref29_Auction.l0 kj12 l0 l1 (wrap64 (x8_1 + 1)) x451000_2 x451001_2 y457 0) = some (r1, r2, r3, r4) := h2
                         have Ny457 := Aside0.mk hy_; clear hy_
                         have H' := Aside0.mk H
                         clear H
                         try go_wp2
                         have n0_ := aK (Kd.R_drew HO_10.out)
                         have n1_ := aK (Kd.R_drew HO_451000.out)
                         have n2_ := aK (Kd.R_drew HO_451002.out)
                         have n3_ := aK (blk_drew BK445.out)
                         have n4_ := aK (blk_drew BK450.out)
                         have n5_ := aK (below_drew1 HB.out)
                         clear HO_10; clear HO_451000; clear HO_451002; clear BK445; clear BK450; clear HB
                         have HO_10 := n0_
                         have HO_451000 := n1_
                         have HO_451002 := n2_
                         have BK445 := n3_
                         have BK450 := n4_
                         have HB := n5_
                         clear n0_ n1_ n2_ n3_ n4_ n5_
                         have p456 : 0 ≤ (x8_1 : Int) := od
                         have q456 : x8_1 < (l0.length : Int) := od
                         obtain ⟨ad456, e456, hx456_0, hx456_1⟩ := at_T63 HR0.out x8_1 p456 q456
                         have hw456_1 := hx456_1
                         have hw456_0 := hx456_0
                         obtain rfl : ad451 = ad456 := (by injection e456)
                         replace hx456_0 := gc HB hx456_0
                         replace hx456_1 := gc HB hx456_1
                         replace p456 := eq_true p456; replace q456 := eq_true q456
                         refine start_ (n := 13) (S := fun w' => w'.cell? ⟨gb450, 0, none⟩ = some (u451000) ∧ w'.cell? ⟨gb450, 1, none⟩ = some (.int .i64 x451001_2) ∧ w'.cell? ⟨gb450, 2, none⟩ = some (u451002) ∧ w'.cell? ⟨gb450, 3, none⟩ = some (.int .i64 0) ∧ w'.cell? (ad451.add ((x8_1).toNat * 2)) = some (.string ((rd_T63 l0 x8_1).f0)) ∧ w'.cell? ⟨(ad451.add ((x8_1).toNat * 2)).block, (ad451.add ((x8_1).toNat * 2)).off + 1, none⟩ = some (.int .i64 ((rd_T63 l0 x8_1).f1))) (ds := [12]) (pf 13 0) (by kernel_rfl) rfl rfl ⟨(blk_cell BK450.out 0).trans rfl, (blk_cell BK450.out 1).trans rfl, (blk_cell BK450.out 2).trans rfl, (blk_cell BK450.out 3).trans rfl, ((HB.out.cell (World.block_lt_of_cell? w _ hw456_0)).trans hw456_0), ((HB.out.cell (World.block_lt_of_cell? w _ hw456_1)).trans hw456_1)⟩ (fun hHeld => ?_); refine with_tabW lombardref29_Auction.tab26 lombardref29_Auction.bits26 (fun HT_ HW_ => ?_)
                         generalize wc.drew = w47 at HO_10 HO_451000 HO_451002 BK445 BK450 HB hx456_0 hx456_1 hHeld ⊢
                         refine pA (i := 0) (N := some 119) HT_ (pf 13 1) ?_
                         refine pA (i := 2) (N := some 121) HT_ (ba 13 5) ?_
                         refine pA (i := 3) (N := some 122) HT_ (ba 13 13) ?_
                         refine pA (i := 4) (N := some 123) HT_ (ba 13 29) ?_
                         refine pA (i := 5) (N := some 124) HT_ (ba 13 61) ?_
                         refine pA (i := 7) (N := some 126) HT_ (ba 13 189) ?_
                         refine take_ (i := 1) (N := some 120) (v := ?_) (a' := ?_) (ba 13 191) rfl rfl (take_ofW HT_.out HW_.out (by kernel_rfl)) (fun _ _ _ h => h) (Or.inl ⟨by rfl, ?_⟩) hHeld ?_ ?_
                         rotate_left
                         · rintro w' ⟨s0, s1, s2, s3, s4, s5⟩
                           go_simp
                           with_reducible rfl
                         rotate_left
                         · simp only [Act.put, sA, sB, sC, i64_w, i32_w]
                           rfl
                         refine take_ (i := 6) (N := some 125) (v := ?_) (a' := ?_) (pf 13 8) rfl rfl (take_ofW HT_.out HW_.out (by kernel_rfl)) (fun _ _ _ h => h) (Or.inl ⟨by rfl, ?_⟩) hHeld ?_ ?_
                         rotate_left
                         · rintro w' ⟨s0, s1, s2, s3, s4, s5⟩
                           go_simp
                           with_reducible rfl
                         rotate_left
                         · simp only [Act.put, sA, sB, sC, i64_w, i32_w]
                           rfl
                         refine pA (i := 8) (N := some 127) HT_ (pf 13 9) ?_
                         refine one_ (i := 9) (N := some 128) (pf 13 10) rfl rfl (one_of HT_.out (by kernel_rfl)) (by decide) (fun K hK => ?_)
                         refine value_ (w1 := ?_) (v := ?_) (by rfl) rfl ?_ ?_
                         rotate_left 2
                         · go_simp
                           constructor
                           · rfl
                           · rfl
                         refine hK.out _ _ ⟨(blk_cell (blk_alloc BK450.out _) 0).trans rfl, (blk_cell (blk_alloc BK450.out _) 1).trans rfl, (blk_cell (blk_alloc BK450.out _) 2).trans rfl, (blk_cell (blk_alloc BK450.out _) 3).trans rfl, (World.cell?_alloc_lt _ _ _ (World.block_lt_of_cell? _ _ (((HB.out.cell (World.block_lt_of_cell? w _ hw456_0)).trans hw456_0)))).trans (((HB.out.cell (World.block_lt_of_cell? w _ hw456_0)).trans hw456_0)), (World.cell?_alloc_lt _ _ _ (World.block_lt_of_cell? _ _ (((HB.out.cell (World.block_lt_of_cell? w _ hw456_1)).trans hw456_1)))).trans (((HB.out.cell (World.block_lt_of_cell? w _ hw456_1)).trans hw456_1))⟩ (fun hHeld => ?_)
                         clear hK K
                         refine norm_ (a' := ?_) ?_ ?_
                         rotate_left
                         · show Act.put _ (some 128) _ = _
                           simp only [Act.put, sA, sB, sC, i64_w, i32_w]
                           rfl
                         refine one_ (i := 10) (N := some 129) (pf 13 11) rfl rfl (one_of HT_.out (by kernel_rfl)) (by decide) (fun K hK => ?_)
                         refine Kd.R_append_step k63 (w0 := w) w.heap.size (by rfl) (.tmp 120) (.tmp 128) 40 63 (.agg #[(.string ⟨#[]⟩), (.int .i64 0)]) 24 rfl Try.underlying40 info63 rfl (by decide) (by omega) u451002 x451002_1 (⟨(rd_T63 l0 x8_1).f0, x9_2⟩ : S63) [.string ((rd_T63 l0 x8_1).f0), .int .i64 x9_2] (fun _ => True) (fun _ => False) rfl rfl ?aP (fun _ hk => hk.elim) ?aF ?aO ?aB ?aS ?aL ?_
                         (case aP => exact k63_mkM _ _ _ (⟨(rd_T63 l0 x8_1).f0, x9_2⟩ : S63))
                         (case aB => exact (gS HB))
                         (case aF => exact (fun _ _ => trivial))
                         (case aO => exact (gR HO_451002))
                         (case aS => exact (below_size (gS HB)))
                         (case aL => have := LMc46.out; omega)
                         intro v458 w48 ho hb hg hat
                         rw [← Ny457.out] at ho
                         have n0_ := aK (Kd.R_over' (gR HO_10) (Kd.R_typed (gR HO_451002)) (by decide) hg)
                         have n1_ := aK (Kd.R_over' (gR HO_451000) (Kd.R_typed (gR HO_451002)) (by decide) hg)
                         have n2_ := aK (blk_grown (g := gb445) (o := .cells #[.slice none 0 0, .int .i64 x446001_2, .slice none 0 0, .int .i64 x446003_2] 54 (0, 0)) (gK BK445) hg (Kd.R_ne HO_451002.out BK445.out (by decide)))
                         have n3_ := aK (blk_grown (g := gb450) (o := .cells #[u451000, .int .i64 x451001_2, u451002, .int .i64 0] 54 (0, 0)) (gK BK450) hg (Kd.R_ne HO_451002.out BK450.out (by decide)))
                         have n4_ := aK (hb)
                         have n5_ := aK (ho)
                         clear HO_10; clear HO_451000; clear BK445; clear BK450; clear HB; clear HO_451002
                         have HO_10 := n0_
                         have HO_451000 := n1_
                         have BK445 := n2_
                         have BK450 := n3_
                         have HB := n4_
                         have HO459 := n5_
                         clear n0_ n1_ n2_ n3_ n4_ n5_; clear ho hb hg hat
                         obtain ⟨Ao49, co49, eo49⟩ := Kd.R_slice HO459.out
                         (first | subst eo49 | (injection eo49 with f1_ f2_ f3_; have f4_ := f1_.symm; have f5_ := f3_.symm; clear f1_ f2_ f3_; subst f4_; subst f5_))
                         refine hK.out _ _ ⟨(blk_cell BK450.out 0).trans rfl, (blk_cell BK450.out 1).trans rfl, (blk_cell BK450.out 2).trans rfl, (blk_cell BK450.out 3).trans rfl, ((HB.out.cell (World.block_lt_of_cell? w _ hw456_0)).trans hw456_0), ((HB.out.cell (World.block_lt_of_cell? w _ hw456_1)).trans hw456_1)⟩ (fun hHeld => ?_)
                         clear hK K
                         refine norm_ (a' := ?_) ?_ ?_
                         rotate_left
                         · show Act.put _ (some 129) _ = _
                           simp only [Act.put, sA, sB, sC, i64_w, i32_w]
                           rfl
                         refine pA (i := 11) (N := some 130) HT_ (pf 13 12) ?_
                         refine last_ (i := 12) (N := none) (pf 13 13) rfl rfl (one_of HT_.out (by kernel_rfl)) (by decide) (fun K hK => ?_)
                         have hs50 : w48.cell? ⟨gb450, 2, none⟩ = some (u451002) := (blk_cell BK450.out 2).trans rfl
                         have hfs50 := blk_frozen BK450.out 2
                         have hns50_0 := NB445_450.out
                         have hms50_0 := NB450_445.out
                         refine skip_ (w1 := ?_) (by rfl) rfl ?_ ?_
                         rotate_left
                         · go_simp
                           rfl
                         refine hK.out _ _ ?_
                         clear hK K
                         refine done_ (done_of HT_.out (by kernel_rfl)) ?_
                         try go_wp2
                         go_roundg kj12
                         case measure => have := HK1.out; have := HK2.out; have := HJ12.out; omega
                         case rel => exact ⟨(wrap64 (x8_1 + 1)), (x446001_2), (x446003_2), (x451000_2), (x451001_2), (y457), (u451000), (.slice Ao49 y457.length co49), ac, H', ⟨by have := HK1.out; have := HK2.out; have := HJ12.out; omega⟩, ⟨gR ⟨Kd.R_mono (Kd.R_far (p := ⟨gb450, 2, none⟩) (Kd.R_types HO_451000.out BK450.out (by decide)) (fun _ hk => hk.2) (.slice Ao49 y457.length co49)) (fun _ hk => trivial)⟩⟩, ⟨gR ⟨Kd.R_mono (Kd.R_far (p := ⟨gb450, 2, none⟩) (Kd.R_types HO459.out BK450.out (by decide)) (fun _ hk => hk.2) (.slice Ao49 y457.length co49)) (fun _ hk => trivial)⟩⟩, ⟨by (with_reducible repeat (first | refine blk_drewN ?_ _ | refine blk_drew ?_ | refine blk_alloc ?_ _)); refine blk_far ?_ NB445_450.out _; (with_reducible repeat (first | refine blk_drewN ?_ _ | refine blk_drew ?_ | refine blk_alloc ?_ _)); exact BK445.out⟩, ⟨by (with_reducible repeat (first | refine blk_drewN ?_ _ | refine blk_drew ?_ | refine blk_alloc ?_ _)); refine blk_put (cs := #[u451000, .int .i64 x451001_2, u451002, .int .i64 0]) ?_ 2 _ rfl; (with_reducible repeat (first | refine blk_drewN ?_ _ | refine blk_drew ?_ | refine blk_alloc ?_ _)); exact BK450.out⟩, ⟨gS HB⟩⟩
                       · rw [if_neg c46] at H
                         exact absurd H (by simp)
                     · rw [if_neg c45] at H
                       exact absurd H (by simp)
                   · rw [if_neg c44] at H
                     exact absurd H (by simp)
                 · rw [if_neg c43] at H
                   have c43b0 : decide (0 < x9_2) = false := decide_eq_false c43
                   clear c43
                   have H' := Aside0.mk H
                   clear H
                   go_wp2
                   go_roundg kj12
                   case measure => have := HK1.out; have := HK2.out; have := HJ12.out; omega
                   case rel => exact ⟨(wrap64 (x8_1 + 1)), (x446001_2), (x446003_2), (x451000_2), (x451001_2), (x451002_1), (u451000), (u451002), ac, H', ⟨by have := HK1.out; have := HK2.out; have := HJ12.out; omega⟩, ⟨gR HO_451000⟩, ⟨gR HO_451002⟩, ⟨gK BK445⟩, ⟨gK BK450⟩, ⟨gS HB⟩⟩
         · rw [if_neg c10] at H
           exact absurd H (by simp)
       · rw [if_neg c9] at H
         have c9b0 := dF c9
         clear c9
         simp only [Option.some.injEq, Prod.mk.injEq] at H
         obtain ⟨rfl, rfl, rfl, rfl⟩ := H
         have hnb51 := NB450_445.out
         have hnc51 := NB445_450.out
         have hcz52_0 : wr.cell? ⟨gb450, 0, none⟩ = some (u451000) := (blk_cell BK450.out 0).trans rfl
         have hcz52_1 : wr.cell? ⟨gb450, 1, none⟩ = some (.int .i64 x451001_1) := (blk_cell BK450.out 1).trans rfl
         have hcz52_2 : wr.cell? ⟨gb450, 2, none⟩ = some (u451002) := (blk_cell BK450.out 2).trans rfl
         have hcz52_3 : wr.cell? ⟨gb450, 3, none⟩ = some (.int .i64 0) := (blk_cell BK450.out 3).trans rfl
         have hfz52_0 := blk_frozen BK450.out 0
         have hfz52_1 := blk_frozen BK450.out 1
         have hfz52_2 := blk_frozen BK450.out 2
         have hfz52_3 := blk_frozen BK450.out 3
         obtain ⟨Ao53, co53, eo53⟩ := Kd.R_slice HO_451000.out
         subst eo53
         have hcz54_0 : wr.cell? ⟨gb445, 0, none⟩ = some (.slice none 0 0) := (blk_cell BK445.out 0).trans rfl
         have hcz54_1 : wr.cell? ⟨gb445, 1, none⟩ = some (.int .i64 x446001_1) := (blk_cell BK445.out 1).trans rfl
         have hcz54_2 : wr.cell? ⟨gb445, 2, none⟩ = some (.slice none 0 0) := (blk_cell BK445.out 2).trans rfl
         have hcz54_3 : wr.cell? ⟨gb445, 3, none⟩ = some (.int .i64 x446003_1) := (blk_cell BK445.out 3).trans rfl
         have hfz54_0 := blk_frozen BK445.out 0
         have hfz54_1 := blk_frozen BK445.out 1
         have hfz54_2 := blk_frozen BK445.out 2
         have hfz54_3 := blk_frozen BK445.out 3
         obtain ⟨Ao55, co55, eo55⟩ := Kd.R_slice HO_451002.out
         subst eo55
         go_wp2
         refine bodyPost_ret (results_cell_row rfl _ _ gb445 54 #[.slice Ao53 x451000_1.length co53, .int .i64 x451001_1, .slice Ao55 x451002_1.length co55, .int .i64 0] (0, 0) _ rfl (by (with_reducible repeat (first | refine blk_drewN ?_ _ | refine blk_drew ?_ | refine blk_alloc ?_ _)); refine blk_put (cs := #[.slice Ao53 x451000_1.length co53, .int .i64 x451001_1, .slice Ao55 x451002_1.length co55, .int .i64 x446003_1]) ?_ 3 _ rfl; (with_reducible repeat (first | refine blk_drewN ?_ _ | refine blk_drew ?_ | refine blk_alloc ?_ _)); refine blk_put (cs := #[.slice Ao53 x451000_1.length co53, .int .i64 x451001_1, .slice none 0 0, .int .i64 x446003_1]) ?_ 2 _ rfl; (with_reducible repeat (first | refine blk_drewN ?_ _ | refine blk_drew ?_ | refine blk_alloc ?_ _)); refine blk_put (cs := #[.slice Ao53 x451000_1.length co53, .int .i64 x446001_1, .slice none 0 0, .int .i64 x446003_1]) ?_ 1 _ rfl; (with_reducible repeat (first | refine blk_drewN ?_ _ | refine blk_drew ?_ | refine blk_alloc ?_ _)); refine blk_put (cs := #[.slice none 0 0, .int .i64 x446001_1, .slice none 0 0, .int .i64 x446003_1]) ?_ 0 _ rfl; (with_reducible repeat (first | refine blk_drewN ?_ _ | refine blk_drew ?_ | refine blk_alloc ?_ _)); exact BK445.out) Try.underlying54 rfl (by kernel_rfl)) rfl ?_
         exact ⟨_, _, by first | rfl | (simp [errW_none, errW_some] <;> rfl) | (simp [*, errW_none, errW_some] <;> rfl), gR ⟨Kd.R_mono (Kd.R_far (p := ⟨gb445, 3, none⟩) (Kd.R_far (p := ⟨gb445, 2, none⟩) (Kd.R_far (p := ⟨gb445, 1, none⟩) (Kd.R_far (p := ⟨gb445, 0, none⟩) (Kd.R_types HO_451000.out BK445.out (by decide)) (fun _ hk => hk.2) (.slice Ao53 x451000_1.length co53)) (fun _ hk => hk.2) (.int .i64 x451001_1)) (fun _ hk => hk.2) (.slice Ao55 x451002_1.length co55)) (fun _ hk => hk.2) (.int .i64 0)) (fun _ hk => trivial)⟩, gR ⟨Kd.R_mono (Kd.R_far (p := ⟨gb445, 3, none⟩) (Kd.R_far (p := ⟨gb445, 2, none⟩) (Kd.R_far (p := ⟨gb445, 1, none⟩) (Kd.R_far (p := ⟨gb445, 0, none⟩) (Kd.R_types HO_451002.out BK445.out (by decide)) (fun _ hk => hk.2) (.slice Ao53 x451000_1.length co53)) (fun _ hk => hk.2) (.int .i64 x451001_1)) (fun _ hk => hk.2) (.slice Ao55 x451002_1.length co55)) (fun _ hk => hk.2) (.int .i64 0)) (fun _ hk => trivial)⟩, gS HB⟩
   · rw [if_neg c6] at H
     have c6b0 : (t448 == 0) = false := beq_eq_false_iff_ne.mpr c6
     have c6b1 : (t448 != 0) = true := bne_iff_ne.mpr c6
     replace H := Option.bind_eq_some_iff.mp H
     obtain ⟨t449, A560, H⟩ := H
     replace H : (some (([] : List (S59)), 0, ([] : List (S63)), t449)) = some (r1, r2, r3, r4) := H
     have A56 := Aside0.mk A560; clear A560
     simp only [Option.some.injEq, Prod.mk.injEq] at H
     obtain ⟨rfl, rfl, rfl, rfl⟩ := H
     go_enter Try.func18, Try.ntmps18
     go_wp2_with (first | ((with_reducible refine gate_dst (N := 4) rfl ?_); refine box_event ?hg (N := 4) ?hd (cs := #[.slice none 0 0, .int .i64 0, .slice none 0 0, .int .i64 0]) (t := 54) ?hr ?_; (case hd => rfl); (case hg => rfl); (case hr => first | (go_simp; done) | (go_simp; rfl) | (have hcq := hcq_.out; have hfq := hfq_.out; go_simp; done)); intro gb445 hg w57 hbox hb; have BK445 := aK (hbox); have GW445 := aK ((by rw [hg]; exact (below_size (gB HB)) : w.heap.size ≤ gb445)); have GE445 := aK ((by rw [hg]; exact (below_size (gB HB)) : w.heap.size ≤ gb445)); replace HB := aK (below_step (gB HB) hb); clear hb hbox hg) | ((with_reducible refine gate_callee (f := 36) rfl ?_); refine goesL_ (some 19) rfl rfl Try.func36 (by kernel_rfl) rfl #[.slice A0 l0.length c0] rfl am ?_; (with_reducible refine (q15q.calls k _ _ l0 t446 t447 _ ?side1 ?side2 A3.out).mono ?_); (case side1 => exact gC HR0 HB); (case side2 => exact HC0.out); rintro e w' ⟨rfl, ⟨nd, rfl⟩⟩; (try clear A3); refine ⟨_, rfl, ?_⟩; (try (rw [drewN_self w57]; generalize hq_ : World.drewN w57 _ = w57; have hcq := XWords.cell_at hq_; have hfq := XWords.frozen_at hq_; have n0_ : Aside0 (w57.heap[gb445]? = some (.cells #[.slice none 0 0, .int .i64 0, .slice none 0 0, .int .i64 0] 54 (0, 0))) := ⟨by rw [← hq_]; exact (gK BK445)⟩; have n1_ : Aside0 (Below w.heap.size w w57) := ⟨by rw [← hq_]; exact (gS HB)⟩; clear BK445 HB hq_; have BK445 := n0_; have HB := n1_; clear n0_ n1_))) | ((with_reducible refine gate_callee (f := 37) rfl ?_); refine goesL_ (some 27) rfl rfl Try.func37 (by kernel_rfl) rfl #[.slice A1 l1.length c1] rfl am ?_; (with_reducible refine (q9q.calls k _ _ l1 t448 _ ?side1 ?side2 A5.out).mono ?_); (case side1 => exact gC HR1 HB); (case side2 => exact HC1.out); rintro e w' ⟨rfl, ⟨nd, rfl⟩⟩; (try clear A5); refine ⟨_, rfl, ?_⟩; (try (rw [drewN_self w57]; generalize hq_ : World.drewN w57 _ = w57; have hcq := XWords.cell_at hq_; have hfq := XWords.frozen_at hq_; have n0_ : Aside0 (w57.heap[gb445]? = some (.cells #[.slice none 0 0, .int .i64 0, .slice none 0 0, .int .i64 0] 54 (0, 0))) := ⟨by rw [← hq_]; exact (gK BK445)⟩; have n1_ : Aside0 (Below w.heap.size w w57) := ⟨by rw [← hq_]; exact (gS HB)⟩; clear BK445 HB hq_; have BK445 := n0_; have HB := n1_; clear n0_ n1_))) | ((with_reducible refine gate_callee (f := 37) rfl ?_); refine goesL_ (some 30) rfl rfl Try.func37 (by kernel_rfl) rfl #[.slice A1 l1.length c1] rfl am ?_; (with_reducible refine (q9q.calls k _ _ l1 t449 _ ?side1 ?side2 A56.out).mono ?_); (case side1 => exact gC HR1 HB); (case side2 => exact HC1.out); rintro e w' ⟨rfl, ⟨nd, rfl⟩⟩; (try clear A56); refine ⟨_, rfl, ?_⟩; (try (rw [drewN_self w57]; generalize hq_ : World.drewN w57 _ = w57; have n0_ : Aside0 (w57.heap[gb445]? = some (.cells #[.slice none 0 0, .int .i64 0, .slice none 0 0, .int .i64 0] 54 (0, 0))) := ⟨by rw [← hq_]; exact (gK BK445)⟩; have n1_ : Aside0 (Below w.heap.size w w57) := ⟨by rw [← hq_]; exact (gS HB)⟩; clear BK445 HB hq_; have BK445 := n0_; have HB := n1_; clear n0_ n1_)); have hcz58_0 : w57.cell? ⟨gb445, 0, none⟩ = some (.slice none 0 0) := (blk_cell BK445.out 0).trans rfl; have hcz58_1 : w57.cell? ⟨gb445, 1, none⟩ = some (.int .i64 0) := (blk_cell BK445.out 1).trans rfl; have hcz58_2 : w57.cell? ⟨gb445, 2, none⟩ = some (.slice none 0 0) := (blk_cell BK445.out 2).trans rfl; have hcz58_3 : w57.cell? ⟨gb445, 3, none⟩ = some (.int .i64 0) := (blk_cell BK445.out 3).trans rfl; have hfz58_0 := blk_frozen BK445.out 0; have hfz58_1 := blk_frozen BK445.out 1; have hfz58_2 := blk_frozen BK445.out 2; have hfz58_3 := blk_frozen BK445.out 3))
     refine bodyPost_ret (results_cell_row rfl _ _ gb445 54 #[.slice none 0 0, .int .i64 0, .slice none 0 0, .int .i64 t449] (0, 0) _ rfl (by (with_reducible repeat (first | refine blk_drewN ?_ _ | refine blk_drew ?_ | refine blk_alloc ?_ _)); refine blk_put (cs := #[.slice none 0 0, .int .i64 0, .slice none 0 0, .int .i64 0]) ?_ 3 _ rfl; (with_reducible repeat (first | refine blk_drewN ?_ _ | refine blk_drew ?_ | refine blk_alloc ?_ _)); refine blk_put (cs := #[.slice none 0 0, .int .i64 0, .slice none 0 0, .int .i64 0]) ?_ 2 _ rfl; (with_reducible repeat (first | refine blk_drewN ?_ _ | refine blk_drew ?_ | refine blk_alloc ?_ _)); refine blk_put (cs := #[.slice none 0 0, .int .i64 0, .slice none 0 0, .int .i64 0]) ?_ 1 _ rfl; (with_reducible repeat (first | refine blk_drewN ?_ _ | refine blk_drew ?_ | refine blk_alloc ?_ _)); refine blk_put (cs := #[.slice none 0 0, .int .i64 0, .slice none 0 0, .int .i64 0]) ?_ 0 _ rfl; (with_reducible repeat (first | refine blk_drewN ?_ _ | refine blk_drew ?_ | refine blk_alloc ?_ _)); exact BK445.out) Try.underlying54 rfl (by kernel_rfl)) rfl ?_
     exact ⟨_, _, by first | rfl | (simp [errW_none, errW_some] <;> rfl) | (simp [*, errW_none, errW_some] <;> rfl), by first | exact Kd.R_nil _ _ _ _ _ | exact Kd.N_nil _ _ _ _ _ | exact Kd.V_nil _ _ _ _ _ | exact Kd.Q_nil _ _ _ _ _ | exact Kd.S_nil _ _ _ _ _, by first | exact Kd.R_nil _ _ _ _ _ | exact Kd.N_nil _ _ _ _ _ | exact Kd.V_nil _ _ _ _ _ | exact Kd.Q_nil _ _ _ _ _ | exact Kd.S_nil _ _ _ _ _, gS HB⟩
 · rw [if_neg c4] at H
   have c4b0 : (t447 == 0) = false := beq_eq_false_iff_ne.mpr c4
   have c4b1 : (t447 != 0) = true := bne_iff_ne.mpr c4
   simp only [Option.some.injEq, Prod.mk.injEq] at H
   obtain ⟨rfl, rfl, rfl, rfl⟩ := H
   go_enter Try.func18, Try.ntmps18
   go_wp2_with (first | ((with_reducible refine gate_dst (N := 4) rfl ?_); refine box_event ?hg (N := 4) ?hd (cs := #[.slice none 0 0, .int .i64 0, .slice none 0 0, .int .i64 0]) (t := 54) ?hr ?_; (case hd => rfl); (case hg => rfl); (case hr => first | (go_simp; done) | (go_simp; rfl) | (have hcq := hcq_.out; have hfq := hfq_.out; go_simp; done)); intro gb445 hg w59 hbox hb; have BK445 := aK (hbox); have GW445 := aK ((by rw [hg]; exact (below_size (gB HB)) : w.heap.size ≤ gb445)); have GE445 := aK ((by rw [hg]; exact (below_size (gB HB)) : w.heap.size ≤ gb445)); replace HB := aK (below_step (gB HB) hb); clear hb hbox hg) | ((with_reducible refine gate_callee (f := 36) rfl ?_); refine goesL_ (some 19) rfl rfl Try.func36 (by kernel_rfl) rfl #[.slice A0 l0.length c0] rfl am ?_; (with_reducible refine (q15q.calls k _ _ l0 t446 t447 _ ?side1 ?side2 A3.out).mono ?_); (case side1 => exact gC HR0 HB); (case side2 => exact HC0.out); rintro e w' ⟨rfl, ⟨nd, rfl⟩⟩; (try clear A3); refine ⟨_, rfl, ?_⟩; (try (rw [drewN_self w59]; generalize hq_ : World.drewN w59 _ = w59; have n0_ : Aside0 (w59.heap[gb445]? = some (.cells #[.slice none 0 0, .int .i64 0, .slice none 0 0, .int .i64 0] 54 (0, 0))) := ⟨by rw [← hq_]; exact (gK BK445)⟩; have n1_ : Aside0 (Below w.heap.size w w59) := ⟨by rw [← hq_]; exact (gS HB)⟩; clear BK445 HB hq_; have BK445 := n0_; have HB := n1_; clear n0_ n1_)); have hcz60_0 : w59.cell? ⟨gb445, 0, none⟩ = some (.slice none 0 0) := (blk_cell BK445.out 0).trans rfl; have hcz60_1 : w59.cell? ⟨gb445, 1, none⟩ = some (.int .i64 0) := (blk_cell BK445.out 1).trans rfl; have hcz60_2 : w59.cell? ⟨gb445, 2, none⟩ = some (.slice none 0 0) := (blk_cell BK445.out 2).trans rfl; have hcz60_3 : w59.cell? ⟨gb445, 3, none⟩ = some (.int .i64 0) := (blk_cell BK445.out 3).trans rfl; have hfz60_0 := blk_frozen BK445.out 0; have hfz60_1 := blk_frozen BK445.out 1; have hfz60_2 := blk_frozen BK445.out 2; have hfz60_3 := blk_frozen BK445.out 3))
   refine bodyPost_ret (results_cell_row rfl _ _ gb445 54 #[.slice none 0 0, .int .i64 0, .slice none 0 0, .int .i64 t447] (0, 0) _ rfl (by (with_reducible repeat (first | refine blk_drewN ?_ _ | refine blk_drew ?_ | refine blk_alloc ?_ _)); refine blk_put (cs := #[.slice none 0 0, .int .i64 0, .slice none 0 0, .int .i64 0]) ?_ 3 _ rfl; (with_reducible repeat (first | refine blk_drewN ?_ _ | refine blk_drew ?_ | refine blk_alloc ?_ _)); refine blk_put (cs := #[.slice none 0 0, .int .i64 0, .slice none 0 0, .int .i64 0]) ?_ 2 _ rfl; (with_reducible repeat (first | refine blk_drewN ?_ _ | refine blk_drew ?_ | refine blk_alloc ?_ _)); refine blk_put (cs := #[.slice none 0 0, .int .i64 0, .slice none 0 0, .int .i64 0]) ?_ 1 _ rfl; (with_reducible repeat (first | refine blk_drewN ?_ _ | refine blk_drew ?_ | refine blk_alloc ?_ _)); refine blk_put (cs := #[.slice none 0 0, .int .i64 0, .slice none 0 0, .int .i64 0]) ?_ 0 _ rfl; (with_reducible repeat (first | refine blk_drewN ?_ _ | refine blk_drew ?_ | refine blk_alloc ?_ _)); exact BK445.out) Try.underlying54 rfl (by kernel_rfl)) rfl ?_
   exact ⟨_, _, by first | rfl | (simp [errW_none, errW_some] <;> rfl) | (simp [*, errW_none, errW_some] <;> rfl), by first | exact Kd.R_nil _ _ _ _ _ | exact Kd.N_nil _ _ _ _ _ | exact Kd.V_nil _ _ _ _ _ | exact Kd.Q_nil _ _ _ _ _ | exact Kd.S_nil _ _ _ _ _, by first | exact Kd.R_nil _ _ _ _ _ | exact Kd.N_nil _ _ _ _ _ | exact Kd.V_nil _ _ _ _ _ | exact Kd.Q_nil _ _ _ _ _ | exact Kd.S_nil _ _ _ _ _, gS HB⟩
end Go.Proofs.Ytlbhjkbjokiioaa.X
