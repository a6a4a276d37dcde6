-- a shortened text: what this claim does not name is left out (wip/xprint/prune.py of this repo)
import Derived.Test.YtkdbolhheodfkaaX0
import Derived.Test.YtkdbolhheodfkaaX14
import Derived.Test.YtkdbolhheodfkaaX2
import Derived.Test.YtkdbolhheodfkaaX3
import Derived.Test.YtkdbolhheodfkaaX7
namespace Go.Proofs.Ytkdbolhheodfkaa.X
open Go.RowKit Go.Proofs.YtkdbolhheodfkaaW.PrintWords Go.Proofs.YtkdbolhheodfkaaW.PrintLast Go.Proofs.YtkdbolhheodfkaaW.PrintMore
attribute [local go_sem] max2_int min2_int max_two min_two max_three min_three max_four min_four
set_option linter.unusedVariables false
set_option linter.unusedSimpArgs false
def calendar_Calendar_Months.j0 : Nat → Int → Bool → List Int → Int → Int → Int → Option (Int × Int)
  | 0, _, _, _, _, _, _ => none
  | k + 1, x2, x27, x1000, x303000, x303001, x303002 => if x27 = true then (some (0, 1)) else ((calendar_length.f (wrap64 (x303000 + (wrap64 (Int.tdiv (wrap64 ((wrap64 (x303001 - 1)) + x2)) 12)))) (wrap64 ((Int.tmod (wrap64 ((wrap64 (x303001 - 1)) + x2)) 12) + 1))).bind fun t303 => ((calendar_Number.f k (wrap64 (x303000 + (wrap64 (Int.tdiv (wrap64 ((wrap64 (x303001 - 1)) + x2)) 12)))) (wrap64 ((Int.tmod (wrap64 ((wrap64 (x303001 - 1)) + x2)) 12) + 1)) (mn x303002 t303)).bind fun bt304 => (if bt304.2 = 0 then ((calendar_Calendar_Roll.f k x1000 bt304.1).bind fun bt306 => (some (bt306.1, bt306.2))) else (some (0, bt304.2)))))
def calendar_Calendar_Months.f (k : Nat) (s0_0 : List Int) (a1 : Int) (a2 : Int) : Option (Int × Int) := (calendar_Of.f k a1).bind fun bt298 => (if bt298.2.2.2 = 0 then (if a2 < 0 then (calendar_Calendar_Months.j0 k a2 true s0_0 bt298.1 bt298.2.1 bt298.2.2.1) else (calendar_Calendar_Months.j0 k a2 (decide (a2 > 120)) s0_0 bt298.1 bt298.2.1 bt298.2.2.1)) else (some (0, bt298.2.2.2)))
theorem calendar_Calendar_Months.mono_l : ∀ k, (∀ y0 y1 y2 y3 y4 y5, LeO (calendar_Calendar_Months.j0 k y0 y1 y2 y3 y4 y5) (calendar_Calendar_Months.j0 (k + 1) y0 y1 y2 y3 y4 y5))
  | 0 => fun _ _ _ _ _ _ r h => by simp [calendar_Calendar_Months.j0] at h
  | k + 1 => by
    have ih0 := calendar_Calendar_Months.mono_l k
    · intro y0 y1 y2 y3 y4 y5
      unfold calendar_Calendar_Months.j0
      repeat' first
      | (with_reducible exact ih0 _ _ _ _ _ _)
      | (with_reducible exact calendar_Calendar_Roll.mono _ _ _)
      | (with_reducible exact calendar_Number.mono _ _ _ _)
      | (with_reducible exact calendar_Of.mono _ _)
      | (with_reducible exact LeO.refl _)
      | (with_reducible exact LeO.none _)
      | (with_reducible refine LeO.ite ?_ ?_)
      | (with_reducible refine LeO.bind ?_ (fun _ => ?_))
      | exact ih0 _ _ _ _ _ _
      | exact calendar_Calendar_Roll.mono _ _ _
      | exact calendar_Number.mono _ _ _ _
      | exact calendar_Of.mono _ _
      | exact LeO.none _
      | refine LeO.ite ?_ ?_
      | refine LeO.bind ?_ (fun _ => ?_)
theorem calendar_Calendar_Months.mono : ∀ a0 a1 a2 k, LeO (calendar_Calendar_Months.f k a0 a1 a2) (calendar_Calendar_Months.f (k + 1) a0 a1 a2) := by
  intro a0 a1 a2 k
  have ih0 := calendar_Calendar_Months.mono_l k
  unfold calendar_Calendar_Months.f
  repeat' first
      | (with_reducible exact ih0 _ _ _ _ _ _)
      | (with_reducible exact calendar_Calendar_Roll.mono _ _ _)
      | (with_reducible exact calendar_Number.mono _ _ _ _)
      | (with_reducible exact calendar_Of.mono _ _)
      | (with_reducible exact LeO.refl _)
      | (with_reducible exact LeO.none _)
      | (with_reducible refine LeO.ite ?_ ?_)
      | (with_reducible refine LeO.bind ?_ (fun _ => ?_))
      | exact ih0 _ _ _ _ _ _
      | exact calendar_Calendar_Roll.mono _ _ _
      | exact calendar_Number.mono _ _ _ _
      | exact calendar_Of.mono _ _
      | exact LeO.none _
      | refine LeO.ite ?_ ?_
      | refine LeO.bind ?_ (fun _ => ?_)
def calendar_Calendar_Months.T11 : Bool × List (List Nat × List Nat) := (true, [([], []), ([0], [0]), ([], []), ([2], [2]), ([], []), ([4], [4]), ([3, 5], [3, 5]), ([1, 6], [1, 6]), ([0, 1, 2, 3, 4, 5, 6, 7], []), ([8, 7, 6, 0, 1, 2, 3, 4, 5, 6, 7], [7, 8])])
def calendar_Calendar_Months.B11 : List Nat := [0, 1, 0, 4, 0, 16, 60, 127, 255, 511]
theorem calendar_Calendar_Months.tab11 : rtab .any (opsOf Try.f33 11) = calendar_Calendar_Months.T11 := by kernel_rfl
theorem calendar_Calendar_Months.bits11 : waitsOk calendar_Calendar_Months.T11.2 calendar_Calendar_Months.B11 = true := by kernel_rfl
set_option maxHeartbeats 8000000 in
set_option maxRecDepth 100000 in
theorem calendar_Calendar_Months.calls (k : Nat) (g : Nat) (s0_0 : List Int) (a1 : Int) (a2 : Int) (r1 : Int) (r2 : Int) (w0 w : World) (hI : IsS57 w0 w g s0_0) (hB : Below w0.heap.size w0 w) (h : calendar_Calendar_Months.f k s0_0 a1 a2 = some (r1, r2)) :
    Calls Try.prog 33 #[.pointer (some ⟨g, 0, none⟩), .int .i64 a1, .int .i64 a2] w fun e w' => e = .returned (.tuple #[.int .i64 r1, .int .i64 r2]) ∧ IsS57 w0 w' g s0_0 ∧ Below w0.heap.size w0 w' ∧ KeepBut w w' g none := by
  have hu24 := Try.underlying24
  have HI0 := Aside0.mk hI
  have HK := Aside0.mk (KeepBut.refl w g none)
  have HL := Aside0.mk hB.size
  clear hI
  have HW0 := Aside0.mk hB.size
  have HB := Aside0.mk hB
  clear hB
  have H : ((calendar_Of.f k a1).bind fun bt298 => (if bt298.2.2.2 = 0 then (if a2 < 0 then (calendar_Calendar_Months.j0 k a2 true s0_0 bt298.1 bt298.2.1 bt298.2.2.1) else (calendar_Calendar_Months.j0 k a2 (decide (a2 > 120)) s0_0 bt298.1 bt298.2.1 bt298.2.2.1)) else (some (0, bt298.2.2.2)))) = some (r1, r2) := h
  clear h
  replace H := Option.bind_eq_some_iff.mp H
  obtain ⟨⟨t298, t299, t300, t301⟩, A40, H⟩ := H
  replace H : (if t301 = 0 then (if a2 < 0 then (calendar_Calendar_Months.j0 k a2 true s0_0 t298 t299 t300) else (calendar_Calendar_Months.j0 k a2 (decide (a2 > 120)) s0_0 t298 t299 t300)) else (some (0, t301))) = some (r1, r2) := H
  have A4 := Aside0.mk A40
  clear A40
  by_cases c5 : t301 = 0
  · rw [if_pos c5] at H
    have c5b0 : (t301 == 0) = true := beq_iff_eq.mpr c5
    have c5b1 : (t301 != 0) = false := bne_eq_false_iff_eq.mpr c5
    clear c5
    have HC6 := Aside0.mk H
    clear H
    go_enter Try.func33, Try.ntmps33
    go_upto_region 6 with (first | ((with_reducible refine gate_callee (f := 10) rfl ?_); refine goesL_ (some 16) rfl rfl Try.func10 (by kernel_rfl) rfl #[.int .i64 a1] rfl (by (try simp only [List.map_toArray, List.map_cons, List.map_nil]); first | done | rfl | (simp only [List.length_drop, List.length_take]; rfl)) ?_; (with_reducible refine (calendar_Of.calls k a1 t298 t299 t300 t301 _ A4.out).mono ?_); rintro e w7 ⟨rfl, hb⟩; refine ⟨_, rfl, ?_⟩; have n0_ := Aside0.mk (IsS57.below (by repeat (first | (with_reducible first | exact HI0.out | apply IsS57.alloc | apply IsS57.drewN | apply IsS57.drew) | exact HI0.out)) hb); have n1_ := Aside0.mk (KeepBut.trans (by repeat (first | (with_reducible first | exact HK.out | apply KeepBut.set_ | apply keep_drewN | apply keep_drew | apply keep_alloc) | exact HK.out)) (KeepBut.of_below hb g none) (.inl rfl)); have n2_ := Aside0.mk (below_step (by repeat (first | (with_reducible first | exact HB.out | apply below_alloc | apply pw_below_drewN | apply below_drew1 | refine below_set ?_ (IsS57.ge HI0.out)) | exact HB.out)) hb); clear HI0; clear HK; clear HB; have HI0 := n0_; have HK := n1_; have HB := n2_; clear n0_ n1_ n2_; (try clear hb); (try clear hb2); (try clear hk); (try clear hi)) | ((with_reducible refine gate_dst (N := 8) rfl ?_); refine box_event ?hg (N := 8) ?hd (cs := #[.int .i64 0, .int .i64 0, .int .i64 0]) (t := 24) ?hr ?_; (case hd => rfl); (case hg => rfl); (case hr => first | (go_simp; done) | (go_simp; rfl) | (have hcq := hcq_.out; have hfq := hfq_.out; go_simp; done)); intro gb302 hg w8 hbox hb; have n0_ := Aside0.mk (IsS57.below (by repeat (first | (with_reducible first | exact HI0.out | apply IsS57.alloc | apply IsS57.drewN | apply IsS57.drew) | exact HI0.out)) hb); have n1_ := Aside0.mk (KeepBut.trans (by repeat (first | (with_reducible first | exact HK.out | apply KeepBut.set_ | apply keep_drewN | apply keep_drew | apply keep_alloc) | exact HK.out)) (KeepBut.of_below hb g none) (.inl rfl)); have n2_ := Aside0.mk (below_step (by repeat (first | (with_reducible first | exact HB.out | apply below_alloc | apply pw_below_drewN | apply below_drew1 | refine below_set ?_ (IsS57.ge HI0.out)) | exact HB.out)) hb); have n3_ := Aside0.mk (hbox); have n4_ := Aside0.mk ((by rw [hg]; exact (keep_size (w := w) (g := g) (row := none) (by repeat (first | (with_reducible first | exact HK.out | apply KeepBut.set_ | apply keep_drewN | apply keep_drew | apply keep_alloc) | exact HK.out))) : w.heap.size ≤ gb302)); have n5_ := Aside0.mk ((Nat.le_trans HW0.out (by rw [hg]; exact (keep_size (w := w) (g := g) (row := none) (by repeat (first | (with_reducible first | exact HK.out | apply KeepBut.set_ | apply keep_drewN | apply keep_drew | apply keep_alloc) | exact HK.out))) : w.heap.size ≤ gb302) : w0.heap.size ≤ gb302)); have n6_ := Aside0.mk ((by rw [hg]; exact Nat.ne_of_lt (IsS57.lt (show IsS57 w0 _ g s0_0 from by repeat (first | (with_reducible first | exact HI0.out | apply IsS57.alloc | apply IsS57.drewN | apply IsS57.drew) | exact HI0.out))) : g ≠ gb302)); have n7_ := Aside0.mk ((by rw [hg]; exact Nat.ne_of_gt (IsS57.lt (show IsS57 w0 _ g s0_0 from by repeat (first | (with_reducible first | exact HI0.out | apply IsS57.alloc | apply IsS57.drewN | apply IsS57.drew) | exact HI0.out))) : gb302 ≠ g)); clear HI0; clear HK; clear HB; have HI0 := n0_; have HK := n1_; have HB := n2_; have BK302 := n3_; have GW302 := n4_; have GE302 := n5_; have NB0_302 := n6_; have NB302_0 := n7_; clear n0_ n1_ n2_ n3_ n4_ n5_ n6_ n7_; clear hb hbox hg; have hnb9 := NB302_0.out; have hnc9 := NB0_302.out; have hcz10_0 : w8.cell? ⟨gb302, 0, none⟩ = some (.int .i64 0) := (blk_cell BK302.out 0).trans rfl; have hcz10_1 : w8.cell? ⟨gb302, 1, none⟩ = some (.int .i64 0) := (blk_cell BK302.out 1).trans rfl; have hcz10_2 : w8.cell? ⟨gb302, 2, none⟩ = some (.int .i64 0) := (blk_cell BK302.out 2).trans rfl; have hfz10_0 := blk_frozen BK302.out 0; have hfz10_1 := blk_frozen BK302.out 1; have hfz10_2 := blk_frozen BK302.out 2))
    (try simp only [Act.put, List.setIfInBounds_toArray, List.set_cons_zero, List.set_cons_succ])
    go_cut [27] (fun v27 wc => ∃ (kq : Nat) (x27_5 : Bool), v27 = .bool x27_5 ∧ Aside0 (calendar_Calendar_Months.j0 kq a2 x27_5 s0_0 t298 t299 t300 = some (r1, r2)) ∧ Aside0 (kq ≤ k) ∧ Aside0 (wc.heap[gb302]? = some (.cells #[.int .i64 t298, .int .i64 t299, .int .i64 t300] 24 (0, 0))) ∧ Aside0 (IsS57 w0 wc g s0_0) ∧ Aside0 (KeepBut w wc g none) ∧ Aside0 (Below w0.heap.size w0 wc))
    case first =>
      have H := HC6.out
      clear HC6
      by_cases c11 : a2 < 0
      · rw [if_pos c11] at H
        have c11b0 : decide (a2 < 0) = true := decide_eq_true c11
        clear c11
        (first | rw [c11b0] | (simp only [i64_w, i32_w]; rw [c11b0]) | skip)
        have H' := Aside0.mk H
        clear H
        go_wp2
        go_meet
        case rel => exact ⟨_, (true), (by first | rfl | (simp; done) | (simp [*]; done)), H', ⟨by first | omega | exact Nat.le_refl _⟩, ⟨by (with_reducible repeat (first | refine blk_drewN ?_ _ | refine blk_drew ?_ | refine blk_alloc ?_ _)); refine blk_put (cs := #[.int .i64 t298, .int .i64 t299, .int .i64 0]) ?_ 2 _ rfl; (with_reducible repeat (first | refine blk_drewN ?_ _ | refine blk_drew ?_ | refine blk_alloc ?_ _)); refine blk_put (cs := #[.int .i64 t298, .int .i64 0, .int .i64 0]) ?_ 1 _ rfl; (with_reducible repeat (first | refine blk_drewN ?_ _ | refine blk_drew ?_ | refine blk_alloc ?_ _)); refine blk_put (cs := #[.int .i64 0, .int .i64 0, .int .i64 0]) ?_ 0 _ rfl; (with_reducible repeat (first | refine blk_drewN ?_ _ | refine blk_drew ?_ | refine blk_alloc ?_ _)); exact BK302.out⟩, ⟨by repeat (first | (with_reducible first | exact HI0.out | apply IsS57.alloc | apply IsS57.drewN | apply IsS57.drew | refine IsS57.far ?_ NB0_302.out _ (by (with_reducible repeat (first | apply NotInts.set | apply NotInts.drewN | apply NotInts.drew | apply NotInts.alloc)); exact NotInts.of BK302.out (by decide))) | exact HI0.out)⟩, ⟨by repeat (first | (with_reducible first | exact HK.out | apply KeepBut.set_ | apply keep_drewN | apply keep_drew | apply keep_alloc | refine keep_far ?_ GW302.out _) | exact HK.out)⟩, ⟨by repeat (first | (with_reducible first | exact HB.out | apply below_alloc | apply pw_below_drewN | apply below_drew1 | refine below_set ?_ (IsS57.ge HI0.out) | refine below_set ?_ GE302.out) | exact HB.out)⟩⟩
      · rw [if_neg c11] at H
        have c11b0 : decide (a2 < 0) = false := decide_eq_false c11
        clear c11
        (first | rw [c11b0] | (simp only [i64_w, i32_w]; rw [c11b0]) | skip)
        have H' := Aside0.mk H
        clear H
        go_wp2
        go_meet
        case rel => exact ⟨_, (decide (a2 > 120)), (by first | rfl | (simp; done) | (simp [*]; done)), H', ⟨by first | omega | exact Nat.le_refl _⟩, ⟨by (with_reducible repeat (first | refine blk_drewN ?_ _ | refine blk_drew ?_ | refine blk_alloc ?_ _)); refine blk_put (cs := #[.int .i64 t298, .int .i64 t299, .int .i64 0]) ?_ 2 _ rfl; (with_reducible repeat (first | refine blk_drewN ?_ _ | refine blk_drew ?_ | refine blk_alloc ?_ _)); refine blk_put (cs := #[.int .i64 t298, .int .i64 0, .int .i64 0]) ?_ 1 _ rfl; (with_reducible repeat (first | refine blk_drewN ?_ _ | refine blk_drew ?_ | refine blk_alloc ?_ _)); refine blk_put (cs := #[.int .i64 0, .int .i64 0, .int .i64 0]) ?_ 0 _ rfl; (with_reducible repeat (first | refine blk_drewN ?_ _ | refine blk_drew ?_ | refine blk_alloc ?_ _)); exact BK302.out⟩, ⟨by repeat (first | (with_reducible first | exact HI0.out | apply IsS57.alloc | apply IsS57.drewN | apply IsS57.drew | refine IsS57.far ?_ NB0_302.out _ (by (with_reducible repeat (first | apply NotInts.set | apply NotInts.drewN | apply NotInts.drew | apply NotInts.alloc)); exact NotInts.of BK302.out (by decide))) | exact HI0.out)⟩, ⟨by repeat (first | (with_reducible first | exact HK.out | apply KeepBut.set_ | apply keep_drewN | apply keep_drew | apply keep_alloc | refine keep_far ?_ GW302.out _) | exact HK.out)⟩, ⟨by repeat (first | (with_reducible first | exact HB.out | apply below_alloc | apply pw_below_drewN | apply below_drew1 | refine below_set ?_ (IsS57.ge HI0.out) | refine below_set ?_ GE302.out) | exact HB.out)⟩⟩
    case rest =>
      clear HC6
      try clear c1
      try clear p2
      try clear c3
      try clear c5
      try clear c5b0
      try clear c5b1
      try clear c9
      try clear c10
      try clear c11
      try clear c11b0
      try clear hcz10_0
      try clear hcz10_1
      try clear hcz10_2
      try clear hfz10_0
      try clear hfz10_1
      try clear hfz10_2
      obtain ⟨kq, x27_5, rfl, HA, HJ5, BK302, HI0, HK, HB⟩ := hcut
      cases kq with
      | zero => exact absurd HA.out (by simp [calendar_Calendar_Months.j0])
      | succ kj5 =>
        have H := HA.out
        clear HA
        simp only [calendar_Calendar_Months.j0] at H
        by_cases c12 : x27_5 = true
        · subst c12
          have H1 : (some (0, 1)) = some (r1, r2) := by rw [if_pos rfl] at H; exact H
          clear H
          have H := H1
          clear H1
          simp only [Option.some.injEq, Prod.mk.injEq] at H
          obtain ⟨rfl, rfl⟩ := H
          go_wp2
          go_ret2
          exact ⟨by first | rfl | (simp [errW_none, errW_some] <;> rfl) | (simp [*, errW_none, errW_some] <;> rfl), by repeat (first | (with_reducible first | exact HI0.out | apply IsS57.alloc | apply IsS57.drewN | apply IsS57.drew | refine IsS57.far ?_ NB0_302.out _ (by (with_reducible repeat (first | apply NotInts.set | apply NotInts.drewN | apply NotInts.drew | apply NotInts.alloc)); exact NotInts.of BK302.out (by decide))) | exact HI0.out), by repeat (first | (with_reducible first | exact HB.out | apply below_alloc | apply pw_below_drewN | apply below_drew1 | refine below_set ?_ (IsS57.ge HI0.out) | refine below_set ?_ GE302.out) | exact HB.out), by repeat (first | (with_reducible first | exact HK.out | apply KeepBut.set_ | apply keep_drewN | apply keep_drew | apply keep_alloc | refine keep_far ?_ GW302.out _) | exact HK.out)⟩
        · replace c12 := Bool.eq_false_iff.mpr c12
          subst c12
          have H1 : ((calendar_length.f (wrap64 (t298 + (wrap64 (Int.tdiv (wrap64 ((wrap64 (t299 - 1)) + a2)) 12)))) (wrap64 ((Int.tmod (wrap64 ((wrap64 (t299 - 1)) + a2)) 12) + 1))).bind fun t303 => ((calendar_Number.f kj5 (wrap64 (t298 + (wrap64 (Int.tdiv (wrap64 ((wrap64 (t299 - 1)) + a2)) 12)))) (wrap64 ((Int.tmod (wrap64 ((wrap64 (t299 - 1)) + a2)) 12) + 1)) (mn t300 t303)).bind fun bt304 => (if bt304.2 = 0 then ((calendar_Calendar_Roll.f kj5 s0_0 bt304.1).bind fun bt306 => (some (bt306.1, bt306.2))) else (some (0, bt304.2))))) = some (r1, r2) := by rw [if_neg (show ¬ (false = true) by decide)] at H; exact H
          clear H
          have H := H1
          clear H1
          replace H := Option.bind_eq_some_iff.mp H
          obtain ⟨t303, A130, H⟩ := H
          replace H : ((calendar_Number.f kj5 (wrap64 (t298 + (wrap64 (Int.tdiv (wrap64 ((wrap64 (t299 - 1)) + a2)) 12)))) (wrap64 ((Int.tmod (wrap64 ((wrap64 (t299 - 1)) + a2)) 12) + 1)) (mn t300 t303)).bind fun bt304 => (if bt304.2 = 0 then ((calendar_Calendar_Roll.f kj5 s0_0 bt304.1).bind fun bt306 => (some (bt306.1, bt306.2))) else (some (0, bt304.2)))) = some (r1, r2) := H
          have A13 := Aside0.mk A130
          clear A130
          obtain ⟨ji14, hji14⟩ : ∃ j_ : Int, (mn t300 t303) = j_ := ⟨_, rfl⟩
          replace H : ((calendar_Number.f kj5 (wrap64 (t298 + (wrap64 (Int.tdiv (wrap64 ((wrap64 (t299 - 1)) + a2)) 12)))) (wrap64 ((Int.tmod (wrap64 ((wrap64 (t299 - 1)) + a2)) 12) + 1)) (ji14)).bind fun bt304 => (if bt304.2 = 0 then ((calendar_Calendar_Roll.f kj5 s0_0 bt304.1).bind fun bt306 => (some (bt306.1, bt306.2))) else (some (0, bt304.2)))) = some (r1, r2) := by first | (rw [hji14] at H; exact H) | (simp only [hji14] at H ⊢; exact H)
          (try rw [hji14] at A13)
          have hji14_ : (if t303 < t300 then t303 else t300) = ji14 := hji14
          replace H := Option.bind_eq_some_iff.mp H
          obtain ⟨⟨t304, t305⟩, A150, H⟩ := H
          replace H : (if t305 = 0 then ((calendar_Calendar_Roll.f kj5 s0_0 t304).bind fun bt306 => (some (bt306.1, bt306.2))) else (some (0, t305))) = some (r1, r2) := H
          have A15 := Aside0.mk A150
          clear A150
          by_cases c16 : t305 = 0
          · rw [if_pos c16] at H
            have c16b0 : (t305 == 0) = true := beq_iff_eq.mpr c16
            have c16b1 : (t305 != 0) = false := bne_eq_false_iff_eq.mpr c16
            clear c16
            replace H := Option.bind_eq_some_iff.mp H
            obtain ⟨⟨t306, t307⟩, A170, H⟩ := H
            replace H : (some (t306, t307)) = some (r1, r2) := H
            have A17 := Aside0.mk A170
            clear A170
            simp only [Option.some.injEq, Prod.mk.injEq] at H
            obtain ⟨rfl, rfl⟩ := H
            have hnb18 := NB302_0.out
            have hnc18 := NB0_302.out
            have hcz19_0 : wc.cell? ⟨gb302, 0, none⟩ = some (.int .i64 t298) := (blk_cell BK302.out 0).trans rfl
            have hcz19_1 : wc.cell? ⟨gb302, 1, none⟩ = some (.int .i64 t299) := (blk_cell BK302.out 1).trans rfl
            have hcz19_2 : wc.cell? ⟨gb302, 2, none⟩ = some (.int .i64 t300) := (blk_cell BK302.out 2).trans rfl
            have hfz19_0 := blk_frozen BK302.out 0
            have hfz19_1 := blk_frozen BK302.out 1
            have hfz19_2 := blk_frozen BK302.out 2
            try go_wp2
            have n0_ : Aside0 (((wc.setCell ⟨gb302, 0, none⟩ (.int .i64 (wrap64 (t298 + (wrap64 (Int.tdiv (wrap64 ((wrap64 (t299 - 1)) + a2)) 12)))))).setCell ⟨gb302, 1, none⟩ (.int .i64 (wrap64 ((Int.tmod (wrap64 ((wrap64 (t299 - 1)) + a2)) 12) + 1)))).heap[gb302]? = some (.cells #[.int .i64 (wrap64 (t298 + (wrap64 (Int.tdiv (wrap64 ((wrap64 (t299 - 1)) + a2)) 12)))), .int .i64 (wrap64 ((Int.tmod (wrap64 ((wrap64 (t299 - 1)) + a2)) 12) + 1)), .int .i64 t300] 24 (0, 0))) := ⟨by (with_reducible repeat (first | refine blk_drewN ?_ _ | refine blk_drew ?_ | refine blk_alloc ?_ _)); refine blk_put (cs := #[.int .i64 (wrap64 (t298 + (wrap64 (Int.tdiv (wrap64 ((wrap64 (t299 - 1)) + a2)) 12)))), .int .i64 t299, .int .i64 t300]) ?_ 1 _ rfl; (with_reducible repeat (first | refine blk_drewN ?_ _ | refine blk_drew ?_ | refine blk_alloc ?_ _)); refine blk_put (cs := #[.int .i64 t298, .int .i64 t299, .int .i64 t300]) ?_ 0 _ rfl; (with_reducible repeat (first | refine blk_drewN ?_ _ | refine blk_drew ?_ | refine blk_alloc ?_ _)); exact BK302.out⟩
            have n1_ : Aside0 (IsS57 w0 ((wc.setCell ⟨gb302, 0, none⟩ (.int .i64 (wrap64 (t298 + (wrap64 (Int.tdiv (wrap64 ((wrap64 (t299 - 1)) + a2)) 12)))))).setCell ⟨gb302, 1, none⟩ (.int .i64 (wrap64 ((Int.tmod (wrap64 ((wrap64 (t299 - 1)) + a2)) 12) + 1)))) g s0_0) := ⟨by repeat (first | (with_reducible first | exact HI0.out | apply IsS57.alloc | apply IsS57.drewN | apply IsS57.drew | refine IsS57.far ?_ NB0_302.out _ (by (with_reducible repeat (first | apply NotInts.set | apply NotInts.drewN | apply NotInts.drew | apply NotInts.alloc)); exact NotInts.of BK302.out (by decide))) | exact HI0.out)⟩
            have n2_ : Aside0 (KeepBut w ((wc.setCell ⟨gb302, 0, none⟩ (.int .i64 (wrap64 (t298 + (wrap64 (Int.tdiv (wrap64 ((wrap64 (t299 - 1)) + a2)) 12)))))).setCell ⟨gb302, 1, none⟩ (.int .i64 (wrap64 ((Int.tmod (wrap64 ((wrap64 (t299 - 1)) + a2)) 12) + 1)))) g none) := ⟨by repeat (first | (with_reducible first | exact HK.out | apply KeepBut.set_ | apply keep_drewN | apply keep_drew | apply keep_alloc | refine keep_far ?_ GW302.out _) | exact HK.out)⟩
            have n3_ : Aside0 (Below w0.heap.size w0 ((wc.setCell ⟨gb302, 0, none⟩ (.int .i64 (wrap64 (t298 + (wrap64 (Int.tdiv (wrap64 ((wrap64 (t299 - 1)) + a2)) 12)))))).setCell ⟨gb302, 1, none⟩ (.int .i64 (wrap64 ((Int.tmod (wrap64 ((wrap64 (t299 - 1)) + a2)) 12) + 1))))) := ⟨by repeat (first | (with_reducible first | exact HB.out | apply below_alloc | apply pw_below_drewN | apply below_drew1 | refine below_set ?_ (IsS57.ge HI0.out) | refine below_set ?_ GE302.out) | exact HB.out)⟩
            (try clear BK302)
            (try clear HI0)
            (try clear HK)
            (try clear HB)
            first | (have hzw20_1 : ((wc.setCell ⟨gb302, 0, none⟩ (.int .i64 (wrap64 (t298 + (wrap64 (Int.tdiv (wrap64 ((wrap64 (t299 - 1)) + a2)) 12)))))).setCell ⟨gb302, 1, none⟩ (.int .i64 (wrap64 ((Int.tmod (wrap64 ((wrap64 (t299 - 1)) + a2)) 12) + 1)))).cell? ⟨gb302, 1, none⟩ = some (.int .i64 (wrap64 ((Int.tmod (wrap64 ((wrap64 (t299 - 1)) + a2)) 12) + 1))) := (by first | exact XWords.cell_here (by first | (with_reducible assumption) | assumption) _ | (go_simp; done)); generalize ((wc.setCell ⟨gb302, 0, none⟩ (.int .i64 (wrap64 (t298 + (wrap64 (Int.tdiv (wrap64 ((wrap64 (t299 - 1)) + a2)) 12)))))).setCell ⟨gb302, 1, none⟩ (.int .i64 (wrap64 ((Int.tmod (wrap64 ((wrap64 (t299 - 1)) + a2)) 12) + 1)))) = w20 at n0_ n1_ n2_ n3_ hzw20_1 ⊢) | generalize ((wc.setCell ⟨gb302, 0, none⟩ (.int .i64 (wrap64 (t298 + (wrap64 (Int.tdiv (wrap64 ((wrap64 (t299 - 1)) + a2)) 12)))))).setCell ⟨gb302, 1, none⟩ (.int .i64 (wrap64 ((Int.tmod (wrap64 ((wrap64 (t299 - 1)) + a2)) 12) + 1)))) = w20 at n0_ n1_ n2_ n3_ ⊢
            have BK302 := n0_
            have HI0 := n1_
            have HK := n2_
            have HB := n3_
            clear n0_ n1_ n2_ n3_
            have n0_ := Aside0.mk (blk_drew BK302.out)
            have n1_ := Aside0.mk (IsS57.drew HI0.out)
            have n2_ := Aside0.mk (keep_drew HK.out)
            have n3_ := Aside0.mk (below_drew1 HB.out)
            clear BK302
            clear HI0
            clear HK
            clear HB
            have BK302 := n0_
            have HI0 := n1_
            have HK := n2_
            have HB := n3_
            clear n0_ n1_ n2_ n3_
            refine start_ (n := 10) (S := fun w' => w'.cell? ⟨gb302, 0, none⟩ = some (.int .i64 (wrap64 (t298 + (wrap64 (Int.tdiv (wrap64 ((wrap64 (t299 - 1)) + a2)) 12))))) ∧ w'.cell? ⟨gb302, 1, none⟩ = some (.int .i64 (wrap64 ((Int.tmod (wrap64 ((wrap64 (t299 - 1)) + a2)) 12) + 1))) ∧ w'.cell? ⟨gb302, 2, none⟩ = some (.int .i64 t300)) (ds := [9]) #[false, false, false, false, false, false, false, false, false, false] (by kernel_rfl) rfl rfl ⟨(blk_cell BK302.out 0).trans rfl, (blk_cell BK302.out 1).trans rfl, (blk_cell BK302.out 2).trans rfl⟩ (fun hHeld => ?_); refine with_tabW calendar_Calendar_Months.tab11 calendar_Calendar_Months.bits11 (fun HT_ HW_ => ?_)
            generalize w20.drew = w21 at BK302 HI0 HK HB hHeld ⊢
            refine pure_ (i := 0) (N := some 43) (v := ?_) (a' := ?_) #[true, false, false, false, false, false, false, false, false, false] rfl rfl (any_of HT_.out (by kernel_rfl)) (fun _ _ _ h => h) (Or.inl ⟨by rfl, ?_⟩) ?_ ?_
            rotate_left
            · intro w'
              go_simp
              with_reducible rfl
            rotate_left
            · simp only [Act.put, List.setIfInBounds_toArray, List.set_cons_zero, List.set_cons_succ, i64_w, i32_w]
              rfl
            refine pure_ (i := 2) (N := some 45) (v := ?_) (a' := ?_) #[true, false, true, false, false, false, false, false, false, false] rfl rfl (any_of HT_.out (by kernel_rfl)) (fun _ _ _ h => h) (Or.inl ⟨by rfl, ?_⟩) ?_ ?_
            rotate_left
            · intro w'
              go_simp
              with_reducible rfl
            rotate_left
            · simp only [Act.put, List.setIfInBounds_toArray, List.set_cons_zero, List.set_cons_succ, i64_w, i32_w]
              rfl
            refine pure_ (i := 4) (N := some 47) (v := ?_) (a' := ?_) #[true, false, true, false, true, false, false, false, false, false] rfl rfl (any_of HT_.out (by kernel_rfl)) (fun _ _ _ h => h) (Or.inl ⟨by rfl, ?_⟩) ?_ ?_
            rotate_left
            · intro w'
              go_simp
              with_reducible rfl
            rotate_left
            · simp only [Act.put, List.setIfInBounds_toArray, List.set_cons_zero, List.set_cons_succ, i64_w, i32_w]
              rfl
            refine take_ (i := 1) (N := some 44) (v := ?_) (a' := ?_) #[true, true, true, false, true, false, false, false, false, false] rfl rfl (take_ofW HT_.out HW_.out (by kernel_rfl)) (fun _ _ _ h => h) (Or.inl ⟨by rfl, ?_⟩) hHeld ?_ ?_
            rotate_left
            · rintro w' ⟨s0, s1, s2⟩
              go_simp
              with_reducible rfl
            rotate_left
            · simp only [Act.put, List.setIfInBounds_toArray, List.set_cons_zero, List.set_cons_succ, i64_w, i32_w]
              rfl
            refine take_ (i := 3) (N := some 46) (v := ?_) (a' := ?_) #[true, true, true, true, true, false, false, false, false, false] rfl rfl (take_ofW HT_.out HW_.out (by kernel_rfl)) (fun _ _ _ h => h) (Or.inl ⟨by rfl, ?_⟩) hHeld ?_ ?_
            rotate_left
            · rintro w' ⟨s0, s1, s2⟩
              go_simp
              with_reducible rfl
            rotate_left
            · simp only [Act.put, List.setIfInBounds_toArray, List.set_cons_zero, List.set_cons_succ, i64_w, i32_w]
              rfl
            refine take_ (i := 5) (N := some 48) (v := ?_) (a' := ?_) #[true, true, true, true, true, true, false, false, false, false] rfl rfl (take_ofW HT_.out HW_.out (by kernel_rfl)) (fun _ _ _ h => h) (Or.inl ⟨by rfl, ?_⟩) hHeld ?_ ?_
            rotate_left
            · rintro w' ⟨s0, s1, s2⟩
              go_simp
              with_reducible rfl
            rotate_left
            · simp only [Act.put, List.setIfInBounds_toArray, List.set_cons_zero, List.set_cons_succ, i64_w, i32_w]
              rfl
            refine one_ (i := 6) (N := some 49) #[true, true, true, true, true, true, true, false, false, false] rfl rfl (one_of HT_.out (by kernel_rfl)) (by decide) (fun K hK => ?_)
            refine goes_ Try.func36 (by kernel_rfl) rfl #[.int .i64 (wrap64 (t298 + (wrap64 (Int.tdiv (wrap64 ((wrap64 (t299 - 1)) + a2)) 12)))), .int .i64 (wrap64 ((Int.tmod (wrap64 ((wrap64 (t299 - 1)) + a2)) 12) + 1))] (by rfl) rfl rfl (by (try simp only [List.map_toArray, List.map_cons, List.map_nil]); first | done | rfl | (simp only [List.length_drop, List.length_take]; rfl)) ?_
            with_reducible refine (calendar_length.calls (wrap64 (t298 + (wrap64 (Int.tdiv (wrap64 ((wrap64 (t299 - 1)) + a2)) 12)))) (wrap64 ((Int.tmod (wrap64 ((wrap64 (t299 - 1)) + a2)) 12) + 1)) t303 _ A13.out).mono ?_
            rintro e w' ⟨rfl, ⟨nd, rfl⟩⟩
            refine ⟨_, rfl, ?_⟩
            refine hK.out _ _ ⟨(blk_cell BK302.out 0).trans rfl, (blk_cell BK302.out 1).trans rfl, (blk_cell BK302.out 2).trans rfl⟩ (fun hHeld => ?_)
            clear hK K
            refine norm_ (a' := ?_) ?_ ?_
            rotate_left
            · show Act.put _ (some 49) _ = _
              simp only [Act.put, List.setIfInBounds_toArray, List.set_cons_zero, List.set_cons_succ, i64_w, i32_w]
              rfl
            refine pure_ (i := 7) (N := some 50) (v := ?_) (a' := ?_) #[true, true, true, true, true, true, true, true, false, false] rfl rfl (any_of HT_.out (by kernel_rfl)) (fun _ _ _ h => h) (Or.inl ⟨by rfl, ?_⟩) ?_ ?_
            rotate_left
            · intro w'
              go_simp
              with_reducible rfl
            rotate_left
            · simp only [Act.put, List.setIfInBounds_toArray, List.set_cons_zero, List.set_cons_succ, i64_w, i32_w]
              rfl
            refine pure_ (i := 8) (N := some 51) (v := ?_) (a' := ?_) #[true, true, true, true, true, true, true, true, true, false] rfl rfl (any_of HT_.out (by kernel_rfl)) (fun _ _ _ h => h) (Or.inl ⟨by rfl, ?_⟩) ?_ ?_
            rotate_left
            · intro w'
              go_simp
              with_reducible rfl
            rotate_left
            · simp only [Act.put, List.setIfInBounds_toArray, List.set_cons_zero, List.set_cons_succ, i64_w, i32_w]
              rfl
            refine last_ (i := 9) (N := none) #[true, true, true, true, true, true, true, true, true, true] rfl rfl (one_of HT_.out (by kernel_rfl)) (by decide) (fun K hK => ?_)
            have hs22 : w21.cell? ⟨gb302, 2, none⟩ = some (.int .i64 t300) := (blk_cell BK302.out 2).trans rfl
            have hfs22 := blk_frozen BK302.out 2
            refine skip_ (w1 := ?_) (by rfl) rfl ?_ ?_
            rotate_left
            · go_simp
              rfl
            refine hK.out _ _ ?_
            clear hK K
            refine done_ (done_of HT_.out (by kernel_rfl)) ?_
            have hcz23_0 : w21.cell? ⟨gb302, 0, none⟩ = some (.int .i64 (wrap64 (t298 + (wrap64 (Int.tdiv (wrap64 ((wrap64 (t299 - 1)) + a2)) 12))))) := (blk_cell BK302.out 0).trans rfl
            have hcz23_1 : w21.cell? ⟨gb302, 1, none⟩ = some (.int .i64 (wrap64 ((Int.tmod (wrap64 ((wrap64 (t299 - 1)) + a2)) 12) + 1))) := (blk_cell BK302.out 1).trans rfl
            have hcz23_2 : w21.cell? ⟨gb302, 2, none⟩ = some (.int .i64 t300) := (blk_cell BK302.out 2).trans rfl
            have hfz23_0 := blk_frozen BK302.out 0
            have hfz23_1 := blk_frozen BK302.out 1
            have hfz23_2 := blk_frozen BK302.out 2
            try go_wp2_with (first | ((with_reducible refine gate_callee (f := 12) rfl ?_); refine goesL_ (some 54) rfl rfl Try.func12 (by kernel_rfl) rfl #[.agg #[.int .i64 (wrap64 (t298 + (wrap64 (Int.tdiv (wrap64 ((wrap64 (t299 - 1)) + a2)) 12)))), .int .i64 (wrap64 ((Int.tmod (wrap64 ((wrap64 (t299 - 1)) + a2)) 12) + 1)), .int .i64 ji14]] rfl (by (try simp only [List.map_toArray, List.map_cons, List.map_nil]); first | done | (simp only [hji14]; rfl) | rfl | (simp only [List.length_drop, List.length_take]; rfl)) ?_; (with_reducible refine (calendar_Number.calls kj5 (wrap64 (t298 + (wrap64 (Int.tdiv (wrap64 ((wrap64 (t299 - 1)) + a2)) 12)))) (wrap64 ((Int.tmod (wrap64 ((wrap64 (t299 - 1)) + a2)) 12) + 1)) ji14 t304 t305 _ A15.out).mono ?_); rintro e w24 ⟨rfl, hb⟩; refine ⟨_, rfl, ?_⟩; have n0_ := Aside0.mk (blk_below (g := gb302) (o := .cells #[.int .i64 (wrap64 (t298 + (wrap64 (Int.tdiv (wrap64 ((wrap64 (t299 - 1)) + a2)) 12)))), .int .i64 (wrap64 ((Int.tmod (wrap64 ((wrap64 (t299 - 1)) + a2)) 12) + 1)), .int .i64 ji14] 24 (0, 0)) (by (with_reducible repeat (first | refine blk_drewN ?_ _ | refine blk_drew ?_ | refine blk_alloc ?_ _)); refine blk_put (cs := #[.int .i64 (wrap64 (t298 + (wrap64 (Int.tdiv (wrap64 ((wrap64 (t299 - 1)) + a2)) 12)))), .int .i64 (wrap64 ((Int.tmod (wrap64 ((wrap64 (t299 - 1)) + a2)) 12) + 1)), .int .i64 t300]) ?_ 2 _ rfl; (with_reducible repeat (first | refine blk_drewN ?_ _ | refine blk_drew ?_ | refine blk_alloc ?_ _)); exact BK302.out) hb); have n1_ := Aside0.mk (IsS57.below (show IsS57 w0 _ g s0_0 from by repeat (first | (with_reducible first | exact HI0.out | apply IsS57.alloc | apply IsS57.drewN | apply IsS57.drew | refine IsS57.far ?_ NB0_302.out _ (by (with_reducible repeat (first | apply NotInts.set | apply NotInts.drewN | apply NotInts.drew | apply NotInts.alloc)); exact NotInts.of BK302.out (by decide))) | exact HI0.out)) hb); have n2_ := Aside0.mk (KeepBut.trans (by repeat (first | (with_reducible first | exact HK.out | apply KeepBut.set_ | apply keep_drewN | apply keep_drew | apply keep_alloc | refine keep_far ?_ GW302.out _) | exact HK.out)) (KeepBut.of_below hb g none) (.inl rfl)); have n3_ := Aside0.mk (below_step (by repeat (first | (with_reducible first | exact HB.out | apply below_alloc | apply pw_below_drewN | apply below_drew1 | refine below_set ?_ (IsS57.ge HI0.out) | refine below_set ?_ GE302.out) | exact HB.out)) hb); clear BK302; clear HI0; clear HK; clear HB; have BK302 := n0_; have HI0 := n1_; have HK := n2_; have HB := n3_; clear n0_ n1_ n2_ n3_; (try clear hb); (try clear hb2); (try clear hk); (try clear hi)) | ((with_reducible refine gate_callee (f := 31) rfl ?_); refine goesL_ (some 62) rfl rfl Try.func31 (by kernel_rfl) rfl #[.pointer (some ⟨g, 0, none⟩), .int .i64 t304] rfl (by (try simp only [List.map_toArray, List.map_cons, List.map_nil]); first | done | rfl | (simp only [List.length_drop, List.length_take]; rfl)) ?_; (with_reducible refine (calendar_Calendar_Roll.calls kj5 g s0_0 t304 t306 t307 w0 _ ?side1 ?side2 A17.out).mono ?_); (case side1 => repeat (first | (with_reducible first | exact HI0.out | apply IsS57.alloc | apply IsS57.drewN | apply IsS57.drew | refine IsS57.far ?_ NB0_302.out _ (by (with_reducible repeat (first | apply NotInts.set | apply NotInts.drewN | apply NotInts.drew | apply NotInts.alloc)); exact NotInts.of BK302.out (by decide))) | exact HI0.out)); (case side2 => repeat (first | (with_reducible first | exact HB.out | apply below_alloc | apply pw_below_drewN | apply below_drew1 | refine below_set ?_ (IsS57.ge HI0.out) | refine below_set ?_ GE302.out) | exact HB.out)); rintro e w25 ⟨rfl, hi, hb, hk⟩; refine ⟨_, rfl, ?_⟩; have n0_ := Aside0.mk (KeepBut.blk hk (g' := gb302) (o := .cells #[.int .i64 (wrap64 (t298 + (wrap64 (Int.tdiv (wrap64 ((wrap64 (t299 - 1)) + a2)) 12)))), .int .i64 (wrap64 ((Int.tmod (wrap64 ((wrap64 (t299 - 1)) + a2)) 12) + 1)), .int .i64 ji14] 24 (0, 0)) (by (with_reducible repeat (first | refine blk_drewN ?_ _ | refine blk_drew ?_ | refine blk_alloc ?_ _)); exact BK302.out) NB302_0.out (by simp)); have n1_ := Aside0.mk (KeepBut.trans (by repeat (first | (with_reducible first | exact HK.out | apply KeepBut.set_ | apply keep_drewN | apply keep_drew | apply keep_alloc | refine keep_far ?_ GW302.out _) | exact HK.out)) hk (.inl rfl)); have n2_ := Aside0.mk (hb); have n3_ := Aside0.mk (hi); clear BK302; clear HK; clear HB; clear HI0; have BK302 := n0_; have HK := n1_; have HB := n2_; have HI0 := n3_; clear n0_ n1_ n2_ n3_; (try clear hb); (try clear hb2); (try clear hk); (try clear hi)))
            go_ret2
            exact ⟨by first | rfl | (simp [errW_none, errW_some] <;> rfl) | (simp only [← hji14]; first | rfl | (simp [errW_none, errW_some] <;> rfl)) | (simp [*, errW_none, errW_some] <;> rfl), by repeat (first | (with_reducible first | exact HI0.out | apply IsS57.alloc | apply IsS57.drewN | apply IsS57.drew | refine IsS57.far ?_ NB0_302.out _ (by (with_reducible repeat (first | apply NotInts.set | apply NotInts.drewN | apply NotInts.drew | apply NotInts.alloc)); exact NotInts.of BK302.out (by decide))) | exact HI0.out), by repeat (first | (with_reducible first | exact HB.out | apply below_alloc | apply pw_below_drewN | apply below_drew1 | refine below_set ?_ (IsS57.ge HI0.out) | refine below_set ?_ GE302.out) | exact HB.out), by repeat (first | (with_reducible first | exact HK.out | apply KeepBut.set_ | apply keep_drewN | apply keep_drew | apply keep_alloc | refine keep_far ?_ GW302.out _) | exact HK.out)⟩
          · rw [if_neg c16] at H
            have c16b0 : (t305 == 0) = false := beq_eq_false_iff_ne.mpr c16
            have c16b1 : (t305 != 0) = true := bne_iff_ne.mpr c16
            simp only [Option.some.injEq, Prod.mk.injEq] at H
            obtain ⟨rfl, rfl⟩ := H
            have hnb26 := NB302_0.out
            have hnc26 := NB0_302.out
            have hcz27_0 : wc.cell? ⟨gb302, 0, none⟩ = some (.int .i64 t298) := (blk_cell BK302.out 0).trans rfl
            have hcz27_1 : wc.cell? ⟨gb302, 1, none⟩ = some (.int .i64 t299) := (blk_cell BK302.out 1).trans rfl
            have hcz27_2 : wc.cell? ⟨gb302, 2, none⟩ = some (.int .i64 t300) := (blk_cell BK302.out 2).trans rfl
            have hfz27_0 := blk_frozen BK302.out 0
            have hfz27_1 := blk_frozen BK302.out 1
            have hfz27_2 := blk_frozen BK302.out 2
            try go_wp2
            have n0_ : Aside0 (((wc.setCell ⟨gb302, 0, none⟩ (.int .i64 (wrap64 (t298 + (wrap64 (Int.tdiv (wrap64 ((wrap64 (t299 - 1)) + a2)) 12)))))).setCell ⟨gb302, 1, none⟩ (.int .i64 (wrap64 ((Int.tmod (wrap64 ((wrap64 (t299 - 1)) + a2)) 12) + 1)))).heap[gb302]? = some (.cells #[.int .i64 (wrap64 (t298 + (wrap64 (Int.tdiv (wrap64 ((wrap64 (t299 - 1)) + a2)) 12)))), .int .i64 (wrap64 ((Int.tmod (wrap64 ((wrap64 (t299 - 1)) + a2)) 12) + 1)), .int .i64 t300] 24 (0, 0))) := ⟨by (with_reducible repeat (first | refine blk_drewN ?_ _ | refine blk_drew ?_ | refine blk_alloc ?_ _)); refine blk_put (cs := #[.int .i64 (wrap64 (t298 + (wrap64 (Int.tdiv (wrap64 ((wrap64 (t299 - 1)) + a2)) 12)))), .int .i64 t299, .int .i64 t300]) ?_ 1 _ rfl; (with_reducible repeat (first | refine blk_drewN ?_ _ | refine blk_drew ?_ | refine blk_alloc ?_ _)); refine blk_put (cs := #[.int .i64 t298, .int .i64 t299, .int .i64 t300]) ?_ 0 _ rfl; (with_reducible repeat (first | refine blk_drewN ?_ _ | refine blk_drew ?_ | refine blk_alloc ?_ _)); exact BK302.out⟩
            have n1_ : Aside0 (IsS57 w0 ((wc.setCell ⟨gb302, 0, none⟩ (.int .i64 (wrap64 (t298 + (wrap64 (Int.tdiv (wrap64 ((wrap64 (t299 - 1)) + a2)) 12)))))).setCell ⟨gb302, 1, none⟩ (.int .i64 (wrap64 ((Int.tmod (wrap64 ((wrap64 (t299 - 1)) + a2)) 12) + 1)))) g s0_0) := ⟨by repeat (first | (with_reducible first | exact HI0.out | apply IsS57.alloc | apply IsS57.drewN | apply IsS57.drew | refine IsS57.far ?_ NB0_302.out _ (by (with_reducible repeat (first | apply NotInts.set | apply NotInts.drewN | apply NotInts.drew | apply NotInts.alloc)); exact NotInts.of BK302.out (by decide))) | exact HI0.out)⟩
            have n2_ : Aside0 (KeepBut w ((wc.setCell ⟨gb302, 0, none⟩ (.int .i64 (wrap64 (t298 + (wrap64 (Int.tdiv (wrap64 ((wrap64 (t299 - 1)) + a2)) 12)))))).setCell ⟨gb302, 1, none⟩ (.int .i64 (wrap64 ((Int.tmod (wrap64 ((wrap64 (t299 - 1)) + a2)) 12) + 1)))) g none) := ⟨by repeat (first | (with_reducible first | exact HK.out | apply KeepBut.set_ | apply keep_drewN | apply keep_drew | apply keep_alloc | refine keep_far ?_ GW302.out _) | exact HK.out)⟩
            have n3_ : Aside0 (Below w0.heap.size w0 ((wc.setCell ⟨gb302, 0, none⟩ (.int .i64 (wrap64 (t298 + (wrap64 (Int.tdiv (wrap64 ((wrap64 (t299 - 1)) + a2)) 12)))))).setCell ⟨gb302, 1, none⟩ (.int .i64 (wrap64 ((Int.tmod (wrap64 ((wrap64 (t299 - 1)) + a2)) 12) + 1))))) := ⟨by repeat (first | (with_reducible first | exact HB.out | apply below_alloc | apply pw_below_drewN | apply below_drew1 | refine below_set ?_ (IsS57.ge HI0.out) | refine below_set ?_ GE302.out) | exact HB.out)⟩
            (try clear BK302)
            (try clear HI0)
            (try clear HK)
            (try clear HB)
            first | (have hzw28_1 : ((wc.setCell ⟨gb302, 0, none⟩ (.int .i64 (wrap64 (t298 + (wrap64 (Int.tdiv (wrap64 ((wrap64 (t299 - 1)) + a2)) 12)))))).setCell ⟨gb302, 1, none⟩ (.int .i64 (wrap64 ((Int.tmod (wrap64 ((wrap64 (t299 - 1)) + a2)) 12) + 1)))).cell? ⟨gb302, 1, none⟩ = some (.int .i64 (wrap64 ((Int.tmod (wrap64 ((wrap64 (t299 - 1)) + a2)) 12) + 1))) := (by first | exact XWords.cell_here (by first | (with_reducible assumption) | assumption) _ | (go_simp; done)); generalize ((wc.setCell ⟨gb302, 0, none⟩ (.int .i64 (wrap64 (t298 + (wrap64 (Int.tdiv (wrap64 ((wrap64 (t299 - 1)) + a2)) 12)))))).setCell ⟨gb302, 1, none⟩ (.int .i64 (wrap64 ((Int.tmod (wrap64 ((wrap64 (t299 - 1)) + a2)) 12) + 1)))) = w28 at n0_ n1_ n2_ n3_ hzw28_1 ⊢) | generalize ((wc.setCell ⟨gb302, 0, none⟩ (.int .i64 (wrap64 (t298 + (wrap64 (Int.tdiv (wrap64 ((wrap64 (t299 - 1)) + a2)) 12)))))).setCell ⟨gb302, 1, none⟩ (.int .i64 (wrap64 ((Int.tmod (wrap64 ((wrap64 (t299 - 1)) + a2)) 12) + 1)))) = w28 at n0_ n1_ n2_ n3_ ⊢
            have BK302 := n0_
            have HI0 := n1_
            have HK := n2_
            have HB := n3_
            clear n0_ n1_ n2_ n3_
            have n0_ := Aside0.mk (blk_drew BK302.out)
            have n1_ := Aside0.mk (IsS57.drew HI0.out)
            have n2_ := Aside0.mk (keep_drew HK.out)
            have n3_ := Aside0.mk (below_drew1 HB.out)
            clear BK302
            clear HI0
            clear HK
            clear HB
            have BK302 := n0_
            have HI0 := n1_
            have HK := n2_
            have HB := n3_
            clear n0_ n1_ n2_ n3_
            refine start_ (n := 10) (S := fun w' => w'.cell? ⟨gb302, 0, none⟩ = some (.int .i64 (wrap64 (t298 + (wrap64 (Int.tdiv (wrap64 ((wrap64 (t299 - 1)) + a2)) 12))))) ∧ w'.cell? ⟨gb302, 1, none⟩ = some (.int .i64 (wrap64 ((Int.tmod (wrap64 ((wrap64 (t299 - 1)) + a2)) 12) + 1))) ∧ w'.cell? ⟨gb302, 2, none⟩ = some (.int .i64 t300)) (ds := [9]) #[false, false, false, false, false, false, false, false, false, false] (by kernel_rfl) rfl rfl ⟨(blk_cell BK302.out 0).trans rfl, (blk_cell BK302.out 1).trans rfl, (blk_cell BK302.out 2).trans rfl⟩ (fun hHeld => ?_); refine with_tabW calendar_Calendar_Months.tab11 calendar_Calendar_Months.bits11 (fun HT_ HW_ => ?_)
            generalize w28.drew = w29 at BK302 HI0 HK HB hHeld ⊢
            refine pure_ (i := 0) (N := some 43) (v := ?_) (a' := ?_) #[true, false, false, false, false, false, false, false, false, false] rfl rfl (any_of HT_.out (by kernel_rfl)) (fun _ _ _ h => h) (Or.inl ⟨by rfl, ?_⟩) ?_ ?_
            rotate_left
            · intro w'
              go_simp
              with_reducible rfl
            rotate_left
            · simp only [Act.put, List.setIfInBounds_toArray, List.set_cons_zero, List.set_cons_succ, i64_w, i32_w]
              rfl
            refine pure_ (i := 2) (N := some 45) (v := ?_) (a' := ?_) #[true, false, true, false, false, false, false, false, false, false] rfl rfl (any_of HT_.out (by kernel_rfl)) (fun _ _ _ h => h) (Or.inl ⟨by rfl, ?_⟩) ?_ ?_
            rotate_left
            · intro w'
              go_simp
              with_reducible rfl
            rotate_left
            · simp only [Act.put, List.setIfInBounds_toArray, List.set_cons_zero, List.set_cons_succ, i64_w, i32_w]
              rfl
            refine pure_ (i := 4) (N := some 47) (v := ?_) (a' := ?_) #[true, false, true, false, true, false, false, false, false, false] rfl rfl (any_of HT_.out (by kernel_rfl)) (fun _ _ _ h => h) (Or.inl ⟨by rfl, ?_⟩) ?_ ?_
            rotate_left
            · intro w'
              go_simp
              with_reducible rfl
            rotate_left
            · simp only [Act.put, List.setIfInBounds_toArray, List.set_cons_zero, List.set_cons_succ, i64_w, i32_w]
              rfl
            refine take_ (i := 1) (N := some 44) (v := ?_) (a' := ?_) #[true, true, true, false, true, false, false, false, false, false] rfl rfl (take_ofW HT_.out HW_.out (by kernel_rfl)) (fun _ _ _ h => h) (Or.inl ⟨by rfl, ?_⟩) hHeld ?_ ?_
            rotate_left
            · rintro w' ⟨s0, s1, s2⟩
              go_simp
              with_reducible rfl
            rotate_left
            · simp only [Act.put, List.setIfInBounds_toArray, List.set_cons_zero, List.set_cons_succ, i64_w, i32_w]
              rfl
            refine take_ (i := 3) (N := some 46) (v := ?_) (a' := ?_) #[true, true, true, true, true, false, false, false, false, false] rfl rfl (take_ofW HT_.out HW_.out (by kernel_rfl)) (fun _ _ _ h => h) (Or.inl ⟨by rfl, ?_⟩) hHeld ?_ ?_
            rotate_left
            · rintro w' ⟨s0, s1, s2⟩
              go_simp
              with_reducible rfl
            rotate_left
            · simp only [Act.put, List.setIfInBounds_toArray, List.set_cons_zero, List.set_cons_succ, i64_w, i32_w]
              rfl
            refine take_ (i := 5) (N := some 48) (v := ?_) (a' := ?_) #[true, true, true, true, true, true, false, false, false, false] rfl rfl (take_ofW HT_.out HW_.out (by kernel_rfl)) (fun _ _ _ h => h) (Or.inl ⟨by rfl, ?_⟩) hHeld ?_ ?_
            rotate_left
            · rintro w' ⟨s0, s1, s2⟩
              go_simp
              with_reducible rfl
            rotate_left
            · simp only [Act.put, List.setIfInBounds_toArray, List.set_cons_zero, List.set_cons_succ, i64_w, i32_w]
              rfl
            refine one_ (i := 6) (N := some 49) #[true, true, true, true, true, true, true, false, false, false] rfl rfl (one_of HT_.out (by kernel_rfl)) (by decide) (fun K hK => ?_)
            refine goes_ Try.func36 (by kernel_rfl) rfl #[.int .i64 (wrap64 (t298 + (wrap64 (Int.tdiv (wrap64 ((wrap64 (t299 - 1)) + a2)) 12)))), .int .i64 (wrap64 ((Int.tmod (wrap64 ((wrap64 (t299 - 1)) + a2)) 12) + 1))] (by rfl) rfl rfl (by (try simp only [List.map_toArray, List.map_cons, List.map_nil]); first | done | rfl | (simp only [List.length_drop, List.length_take]; rfl)) ?_
            with_reducible refine (calendar_length.calls (wrap64 (t298 + (wrap64 (Int.tdiv (wrap64 ((wrap64 (t299 - 1)) + a2)) 12)))) (wrap64 ((Int.tmod (wrap64 ((wrap64 (t299 - 1)) + a2)) 12) + 1)) t303 _ A13.out).mono ?_
            rintro e w' ⟨rfl, ⟨nd, rfl⟩⟩
            refine ⟨_, rfl, ?_⟩
            refine hK.out _ _ ⟨(blk_cell BK302.out 0).trans rfl, (blk_cell BK302.out 1).trans rfl, (blk_cell BK302.out 2).trans rfl⟩ (fun hHeld => ?_)
            clear hK K
            refine norm_ (a' := ?_) ?_ ?_
            rotate_left
            · show Act.put _ (some 49) _ = _
              simp only [Act.put, List.setIfInBounds_toArray, List.set_cons_zero, List.set_cons_succ, i64_w, i32_w]
              rfl
            refine pure_ (i := 7) (N := some 50) (v := ?_) (a' := ?_) #[true, true, true, true, true, true, true, true, false, false] rfl rfl (any_of HT_.out (by kernel_rfl)) (fun _ _ _ h => h) (Or.inl ⟨by rfl, ?_⟩) ?_ ?_
            rotate_left
            · intro w'
              go_simp
              with_reducible rfl
            rotate_left
            · simp only [Act.put, List.setIfInBounds_toArray, List.set_cons_zero, List.set_cons_succ, i64_w, i32_w]
              rfl
            refine pure_ (i := 8) (N := some 51) (v := ?_) (a' := ?_) #[true, true, true, true, true, true, true, true, true, false] rfl rfl (any_of HT_.out (by kernel_rfl)) (fun _ _ _ h => h) (Or.inl ⟨by rfl, ?_⟩) ?_ ?_
            rotate_left
            · intro w'
              go_simp
              with_reducible rfl
            rotate_left
            · simp only [Act.put, List.setIfInBounds_toArray, List.set_cons_zero, List.set_cons_succ, i64_w, i32_w]
              rfl
            refine last_ (i := 9) (N := none) #[true, true, true, true, true, true, true, true, true, true] rfl rfl (one_of HT_.out (by kernel_rfl)) (by decide) (fun K hK => ?_)
            have hs30 : w29.cell? ⟨gb302, 2, none⟩ = some (.int .i64 t300) := (blk_cell BK302.out 2).trans rfl
            have hfs30 := blk_frozen BK302.out 2
            refine skip_ (w1 := ?_) (by rfl) rfl ?_ ?_
            rotate_left
            · go_simp
              rfl
            refine hK.out _ _ ?_
            clear hK K
            refine done_ (done_of HT_.out (by kernel_rfl)) ?_
            have hcz31_0 : w29.cell? ⟨gb302, 0, none⟩ = some (.int .i64 (wrap64 (t298 + (wrap64 (Int.tdiv (wrap64 ((wrap64 (t299 - 1)) + a2)) 12))))) := (blk_cell BK302.out 0).trans rfl
            have hcz31_1 : w29.cell? ⟨gb302, 1, none⟩ = some (.int .i64 (wrap64 ((Int.tmod (wrap64 ((wrap64 (t299 - 1)) + a2)) 12) + 1))) := (blk_cell BK302.out 1).trans rfl
            have hcz31_2 : w29.cell? ⟨gb302, 2, none⟩ = some (.int .i64 t300) := (blk_cell BK302.out 2).trans rfl
            have hfz31_0 := blk_frozen BK302.out 0
            have hfz31_1 := blk_frozen BK302.out 1
            have hfz31_2 := blk_frozen BK302.out 2
            try go_wp2_with (first | ((with_reducible refine gate_callee (f := 12) rfl ?_); refine goesL_ (some 54) rfl rfl Try.func12 (by kernel_rfl) rfl #[.agg #[.int .i64 (wrap64 (t298 + (wrap64 (Int.tdiv (wrap64 ((wrap64 (t299 - 1)) + a2)) 12)))), .int .i64 (wrap64 ((Int.tmod (wrap64 ((wrap64 (t299 - 1)) + a2)) 12) + 1)), .int .i64 ji14]] rfl (by (try simp only [List.map_toArray, List.map_cons, List.map_nil]); first | done | (simp only [hji14]; rfl) | rfl | (simp only [List.length_drop, List.length_take]; rfl)) ?_; (with_reducible refine (calendar_Number.calls kj5 (wrap64 (t298 + (wrap64 (Int.tdiv (wrap64 ((wrap64 (t299 - 1)) + a2)) 12)))) (wrap64 ((Int.tmod (wrap64 ((wrap64 (t299 - 1)) + a2)) 12) + 1)) ji14 t304 t305 _ A15.out).mono ?_); rintro e w32 ⟨rfl, hb⟩; refine ⟨_, rfl, ?_⟩; have n0_ := Aside0.mk (blk_below (g := gb302) (o := .cells #[.int .i64 (wrap64 (t298 + (wrap64 (Int.tdiv (wrap64 ((wrap64 (t299 - 1)) + a2)) 12)))), .int .i64 (wrap64 ((Int.tmod (wrap64 ((wrap64 (t299 - 1)) + a2)) 12) + 1)), .int .i64 ji14] 24 (0, 0)) (by (with_reducible repeat (first | refine blk_drewN ?_ _ | refine blk_drew ?_ | refine blk_alloc ?_ _)); refine blk_put (cs := #[.int .i64 (wrap64 (t298 + (wrap64 (Int.tdiv (wrap64 ((wrap64 (t299 - 1)) + a2)) 12)))), .int .i64 (wrap64 ((Int.tmod (wrap64 ((wrap64 (t299 - 1)) + a2)) 12) + 1)), .int .i64 t300]) ?_ 2 _ rfl; (with_reducible repeat (first | refine blk_drewN ?_ _ | refine blk_drew ?_ | refine blk_alloc ?_ _)); exact BK302.out) hb); have n1_ := Aside0.mk (IsS57.below (show IsS57 w0 _ g s0_0 from by repeat (first | (with_reducible first | exact HI0.out | apply IsS57.alloc | apply IsS57.drewN | apply IsS57.drew | refine IsS57.far ?_ NB0_302.out _ (by (with_reducible repeat (first | apply NotInts.set | apply NotInts.drewN | apply NotInts.drew | apply NotInts.alloc)); exact NotInts.of BK302.out (by decide))) | exact HI0.out)) hb); have n2_ := Aside0.mk (KeepBut.trans (by repeat (first | (with_reducible first | exact HK.out | apply KeepBut.set_ | apply keep_drewN | apply keep_drew | apply keep_alloc | refine keep_far ?_ GW302.out _) | exact HK.out)) (KeepBut.of_below hb g none) (.inl rfl)); have n3_ := Aside0.mk (below_step (by repeat (first | (with_reducible first | exact HB.out | apply below_alloc | apply pw_below_drewN | apply below_drew1 | refine below_set ?_ (IsS57.ge HI0.out) | refine below_set ?_ GE302.out) | exact HB.out)) hb); clear BK302; clear HI0; clear HK; clear HB; have BK302 := n0_; have HI0 := n1_; have HK := n2_; have HB := n3_; clear n0_ n1_ n2_ n3_; (try clear hb); (try clear hb2); (try clear hk); (try clear hi)))
            go_ret2
            exact ⟨by first | rfl | (simp [errW_none, errW_some] <;> rfl) | (simp only [← hji14]; first | rfl | (simp [errW_none, errW_some] <;> rfl)) | (simp [*, errW_none, errW_some] <;> rfl), by repeat (first | (with_reducible first | exact HI0.out | apply IsS57.alloc | apply IsS57.drewN | apply IsS57.drew | refine IsS57.far ?_ NB0_302.out _ (by (with_reducible repeat (first | apply NotInts.set | apply NotInts.drewN | apply NotInts.drew | apply NotInts.alloc)); exact NotInts.of BK302.out (by decide))) | exact HI0.out), by repeat (first | (with_reducible first | exact HB.out | apply below_alloc | apply pw_below_drewN | apply below_drew1 | refine below_set ?_ (IsS57.ge HI0.out) | refine below_set ?_ GE302.out) | exact HB.out), by repeat (first | (with_reducible first | exact HK.out | apply KeepBut.set_ | apply keep_drewN | apply keep_drew | apply keep_alloc | refine keep_far ?_ GW302.out _) | exact HK.out)⟩
  · rw [if_neg c5] at H
    have c5b0 : (t301 == 0) = false := beq_eq_false_iff_ne.mpr c5
    have c5b1 : (t301 != 0) = true := bne_iff_ne.mpr c5
    simp only [Option.some.injEq, Prod.mk.injEq] at H
    obtain ⟨rfl, rfl⟩ := H
    go_enter Try.func33, Try.ntmps33
    go_wp2_with (first | ((with_reducible refine gate_callee (f := 10) rfl ?_); refine goesL_ (some 16) rfl rfl Try.func10 (by kernel_rfl) rfl #[.int .i64 a1] rfl (by (try simp only [List.map_toArray, List.map_cons, List.map_nil]); first | done | rfl | (simp only [List.length_drop, List.length_take]; rfl)) ?_; (with_reducible refine (calendar_Of.calls k a1 t298 t299 t300 t301 _ A4.out).mono ?_); rintro e w33 ⟨rfl, hb⟩; refine ⟨_, rfl, ?_⟩; have n0_ := Aside0.mk (IsS57.below (by repeat (first | (with_reducible first | exact HI0.out | apply IsS57.alloc | apply IsS57.drewN | apply IsS57.drew) | exact HI0.out)) hb); have n1_ := Aside0.mk (KeepBut.trans (by repeat (first | (with_reducible first | exact HK.out | apply KeepBut.set_ | apply keep_drewN | apply keep_drew | apply keep_alloc) | exact HK.out)) (KeepBut.of_below hb g none) (.inl rfl)); have n2_ := Aside0.mk (below_step (by repeat (first | (with_reducible first | exact HB.out | apply below_alloc | apply pw_below_drewN | apply below_drew1 | refine below_set ?_ (IsS57.ge HI0.out)) | exact HB.out)) hb); clear HI0; clear HK; clear HB; have HI0 := n0_; have HK := n1_; have HB := n2_; clear n0_ n1_ n2_; (try clear hb); (try clear hb2); (try clear hk); (try clear hi)) | ((with_reducible refine gate_dst (N := 8) rfl ?_); refine box_event ?hg (N := 8) ?hd (cs := #[.int .i64 0, .int .i64 0, .int .i64 0]) (t := 24) ?hr ?_; (case hd => rfl); (case hg => rfl); (case hr => first | (go_simp; done) | (go_simp; rfl) | (have hcq := hcq_.out; have hfq := hfq_.out; go_simp; done)); intro gb302 hg w34 hbox hb; have n0_ := Aside0.mk (IsS57.below (by repeat (first | (with_reducible first | exact HI0.out | apply IsS57.alloc | apply IsS57.drewN | apply IsS57.drew) | exact HI0.out)) hb); have n1_ := Aside0.mk (KeepBut.trans (by repeat (first | (with_reducible first | exact HK.out | apply KeepBut.set_ | apply keep_drewN | apply keep_drew | apply keep_alloc) | exact HK.out)) (KeepBut.of_below hb g none) (.inl rfl)); have n2_ := Aside0.mk (below_step (by repeat (first | (with_reducible first | exact HB.out | apply below_alloc | apply pw_below_drewN | apply below_drew1 | refine below_set ?_ (IsS57.ge HI0.out)) | exact HB.out)) hb); have n3_ := Aside0.mk (hbox); have n4_ := Aside0.mk ((by rw [hg]; exact (keep_size (w := w) (g := g) (row := none) (by repeat (first | (with_reducible first | exact HK.out | apply KeepBut.set_ | apply keep_drewN | apply keep_drew | apply keep_alloc) | exact HK.out))) : w.heap.size ≤ gb302)); have n5_ := Aside0.mk ((Nat.le_trans HW0.out (by rw [hg]; exact (keep_size (w := w) (g := g) (row := none) (by repeat (first | (with_reducible first | exact HK.out | apply KeepBut.set_ | apply keep_drewN | apply keep_drew | apply keep_alloc) | exact HK.out))) : w.heap.size ≤ gb302) : w0.heap.size ≤ gb302)); have n6_ := Aside0.mk ((by rw [hg]; exact Nat.ne_of_lt (IsS57.lt (show IsS57 w0 _ g s0_0 from by repeat (first | (with_reducible first | exact HI0.out | apply IsS57.alloc | apply IsS57.drewN | apply IsS57.drew) | exact HI0.out))) : g ≠ gb302)); have n7_ := Aside0.mk ((by rw [hg]; exact Nat.ne_of_gt (IsS57.lt (show IsS57 w0 _ g s0_0 from by repeat (first | (with_reducible first | exact HI0.out | apply IsS57.alloc | apply IsS57.drewN | apply IsS57.drew) | exact HI0.out))) : gb302 ≠ g)); clear HI0; clear HK; clear HB; have HI0 := n0_; have HK := n1_; have HB := n2_; have BK302 := n3_; have GW302 := n4_; have GE302 := n5_; have NB0_302 := n6_; have NB302_0 := n7_; clear n0_ n1_ n2_ n3_ n4_ n5_ n6_ n7_; clear hb hbox hg; have hnb35 := NB302_0.out; have hnc35 := NB0_302.out; have hcz36_0 : w34.cell? ⟨gb302, 0, none⟩ = some (.int .i64 0) := (blk_cell BK302.out 0).trans rfl; have hcz36_1 : w34.cell? ⟨gb302, 1, none⟩ = some (.int .i64 0) := (blk_cell BK302.out 1).trans rfl; have hcz36_2 : w34.cell? ⟨gb302, 2, none⟩ = some (.int .i64 0) := (blk_cell BK302.out 2).trans rfl; have hfz36_0 := blk_frozen BK302.out 0; have hfz36_1 := blk_frozen BK302.out 1; have hfz36_2 := blk_frozen BK302.out 2))
    go_ret2
    exact ⟨by first | rfl | (simp [errW_none, errW_some] <;> rfl) | (simp [*, errW_none, errW_some] <;> rfl), by repeat (first | (with_reducible first | exact HI0.out | apply IsS57.alloc | apply IsS57.drewN | apply IsS57.drew | refine IsS57.far ?_ NB0_302.out _ (by (with_reducible repeat (first | apply NotInts.set | apply NotInts.drewN | apply NotInts.drew | apply NotInts.alloc)); exact NotInts.of BK302.out (by decide))) | exact HI0.out), by repeat (first | (with_reducible first | exact HB.out | apply below_alloc | apply pw_below_drewN | apply below_drew1 | refine below_set ?_ (IsS57.ge HI0.out) | refine below_set ?_ GE302.out) | exact HB.out), by repeat (first | (with_reducible first | exact HK.out | apply KeepBut.set_ | apply keep_drewN | apply keep_drew | apply keep_alloc | refine keep_far ?_ GW302.out _) | exact HK.out)⟩
end Go.Proofs.Ytkdbolhheodfkaa.X
