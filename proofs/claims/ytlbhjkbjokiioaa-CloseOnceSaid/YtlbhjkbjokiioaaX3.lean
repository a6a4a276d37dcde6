-- a shortened text: what this claim does not name is left out (wip/xprint/prune.py of this repo)
import Derived.Test.YtlbhjkbjokiioaaXMin
import Derived.Test.YtlbhjkbjokiioaaX0
import Derived.Test.YtlbhjkbjokiioaaX2
namespace Go.Proofs.Ytlbhjkbjokiioaa.X
open Go.RowKit Go.Proofs.YtlbhjkbjokiioaaW.PrintWords Go.Proofs.YtlbhjkbjokiioaaW.PrintLast Go.Proofs.YtlbhjkbjokiioaaW.PrintMore
attribute [local go_sem] max2_int min2_int max_two min_two max_three min_three max_four min_four
set_option linter.unusedVariables false
set_option linter.unusedSimpArgs false
def q20q.j0 : Nat → Int → Int → Int → Int → Bool → Option (Int × Int)
 | 0, _, _, _, _, _ => none
 | k + 1, x0, x1, x2, x3, x28 => if x28 = true then (some (0, 1)) else ((fixnum_size.f x0).bind fun bt114 => ((fixnum_size.f x1).bind fun bt116 => ((fixnum_size.f x2).bind fun bt118 => ((fixnum_Mul.f bt114.1 bt116.1).bind fun bt120 => ((q10q.f k bt120.1 bt120.2 bt118.1).bind fun bt122 => (if bt122.1 > 0 then (some (0, 9)) else ((fixnum_up.f bt122.2.1 bt122.2.2 bt118.1 ((bt114.2 != bt116.2) != bt118.2) x3).bind fun t126 => (if t126 = true then (if (IntKind.u64.wrap (bt122.2.1 + 1)) = 0 then (some (0, 9)) else ((q16q.f k (IntKind.u64.wrap (bt122.2.1 + 1)) ((bt114.2 != bt116.2) != bt118.2)).bind fun bt127 => (some (bt127.1, bt127.2)))) else ((q16q.f k bt122.2.1 ((bt114.2 != bt116.2) != bt118.2)).bind fun bt129 => (some (bt129.1, bt129.2)))))))))))
def q20q.f (k : Nat) (a0 : Int) (a1 : Int) (a2 : Int) (a3 : Int) : Option (Int × Int) := if a2 = 0 then (q20q.j0 k a0 a1 a2 a3 true) else (if a3 < 1 then (q20q.j0 k a0 a1 a2 a3 true) else (q20q.j0 k a0 a1 a2 a3 (decide (a3 > 4))))
theorem q20q.mono_l : ∀ k, (∀ y0 y1 y2 y3 y4, LeO (q20q.j0 k y0 y1 y2 y3 y4) (q20q.j0 (k + 1) y0 y1 y2 y3 y4))
 | 0 => fun _ _ _ _ _ r h => by simp [q20q.j0] at h
 | k + 1 => by
  have ih0 := q20q.mono_l k
  · intro y0 y1 y2 y3 y4
    unfold q20q.j0
    repeat' first
    | (with_reducible exact ih0 _ _ _ _ _)
    | (with_reducible exact q10q.mono _ _ _ _)
    | (with_reducible exact q16q.mono _ _ _)
    | (with_reducible exact LeO.refl _)
    | (with_reducible exact LeO.none _)
    | (with_reducible refine LeO.ite ?_ ?_)
    | (with_reducible refine LeO.bind ?_ (fun _ => ?_))
    | exact ih0 _ _ _ _ _
    | exact q10q.mono _ _ _ _
    | exact q16q.mono _ _ _
    | exact LeO.none _
    | refine LeO.ite ?_ ?_
    | refine LeO.bind ?_ (fun _ => ?_)
theorem q20q.mono : ∀ a0 a1 a2 a3 k, LeO (q20q.f k a0 a1 a2 a3) (q20q.f (k + 1) a0 a1 a2 a3) := by
 intro a0 a1 a2 a3 k
 have ih0 := q20q.mono_l k
 unfold q20q.f
 repeat' first
  | (with_reducible exact ih0 _ _ _ _ _)
  | (with_reducible exact q10q.mono _ _ _ _)
  | (with_reducible exact q16q.mono _ _ _)
  | (with_reducible exact LeO.refl _)
  | (with_reducible exact LeO.none _)
  | (with_reducible refine LeO.ite ?_ ?_)
  | (with_reducible refine LeO.bind ?_ (fun _ => ?_))
  | exact ih0 _ _ _ _ _
  | exact q10q.mono _ _ _ _
  | exact q16q.mono _ _ _
  | exact LeO.none _
  | refine LeO.ite ?_ ?_
  | refine LeO.bind ?_ (fun _ => ?_)
set_option maxHeartbeats 8000000 in
set_option maxRecDepth 100000 in
theorem q20q.calls (k : Nat) (a0 : Int) (a1 : Int) (a2 : Int) (a3 : Int) (r1 : Int) (r2 : Int) (w : World) (h : q20q.f k a0 a1 a2 a3 = some (r1, r2)) :
 Calls Try.prog 47 #[.int .i64 a0, .int .i64 a1, .int .i64 a2, .int .i64 a3] w fun e w' => e = .returned (.tuple #[.int .i64 r1, .int .i64 r2]) ∧ Below w.heap.size w w' := by
 have hu104 := Try.underlying104
 have HB := aK (Below.refl w.heap.size w)
 have H : (if a2 = 0 then (q20q.j0 k a0 a1 a2 a3 true) else (if a3 < 1 then (q20q.j0 k a0 a1 a2 a3 true) else (q20q.j0 k a0 a1 a2 a3 (decide (a3 > 4))))) = some (r1, r2) := h
 clear h; have HC5 := Aside0.mk H; clear H
 go_enter Try.func47, Try.ntmps47
 go_upto_region 1 with (fail)
 go_cut [28] (fun v28 wc => ∃ (kq : Nat) (x28_4 : Bool), v28 = .bool x28_4 ∧ Aside0 (q20q.j0 kq a0 a1 a2 a3 x28_4 = some (r1, r2)) ∧ Aside0 (kq ≤ k) ∧ Aside0 (Below w.heap.size w wc))
 case first =>
  have H := HC5.out
  clear HC5
  by_cases c6 : a2 = 0
  · rw [if_pos c6] at H
    have c6b0 : (a2 == 0) = true := beq_iff_eq.mpr c6
    have c6b1 : (a2 != 0) = false := bne_eq_false_iff_eq.mpr c6
    clear c6
    (first | rw [c6b0] | (simp only [i64_w, i32_w]; rw [c6b0]) | skip)
    have H' := Aside0.mk H
    clear H
    go_wp2
    go_meet
    case rel => exact ⟨_, (true), ac, H', ⟨by first | omega | exact Nat.le_refl _⟩, ⟨gB HB⟩⟩
  · rw [if_neg c6] at H
    have c6b0 : (a2 == 0) = false := beq_eq_false_iff_ne.mpr c6
    have c6b1 : (a2 != 0) = true := bne_iff_ne.mpr c6
    (first | rw [c6b0] | (simp only [i64_w, i32_w]; rw [c6b0]) | skip)
    by_cases c7 : a3 < 1
    · rw [if_pos c7] at H
      have c7b0 := dT c7
      clear c7
      have H' := Aside0.mk H
      clear H
      go_wp2
      go_meet
      case rel => exact ⟨_, (true), ac, H', ⟨by first | omega | exact Nat.le_refl _⟩, ⟨gB HB⟩⟩
    · rw [if_neg c7] at H
      have c7b0 := dF c7
      clear c7
      have H' := Aside0.mk H
      clear H
      go_wp2
      go_meet
      case rel => exact ⟨_, (decide (a3 > 4)), ac, H', ⟨by first | omega | exact Nat.le_refl _⟩, ⟨gB HB⟩⟩
 case rest =>
  clear HC5
  obtain ⟨kq, x28_4, rfl, HA, HJ4, HB⟩ := hcut
  cases kq with
  | zero => exact absurd HA.out (by simp [q20q.j0])
  | succ kj4 =>
   have H := HA.out
   clear HA
   simp only [q20q.j0] at H
   by_cases c8 : x28_4 = true
   · subst c8
     replace H : (some (0, 1)) = some (r1, r2) := by rw [if_pos rfl] at H; exact H
     simp only [Option.some.injEq, Prod.mk.injEq] at H
     obtain ⟨rfl, rfl⟩ := H
     go_wp2
     go_ret2
     exact ⟨by first | rfl | (simp [errW_none, errW_some] <;> rfl) | (simp [*, errW_none, errW_some] <;> rfl), gB HB⟩
   · replace c8 := Bool.eq_false_iff.mpr c8
     subst c8
     replace H : ((fixnum_size.f a0).bind fun bt114 => ((fixnum_size.f a1).bind fun bt116 => ((fixnum_size.f a2).bind fun bt118 => ((fixnum_Mul.f bt114.1 bt116.1).bind fun bt120 => ((q10q.f kj4 bt120.1 bt120.2 bt118.1).bind fun bt122 => (if bt122.1 > 0 then (some (0, 9)) else ((fixnum_up.f bt122.2.1 bt122.2.2 bt118.1 ((bt114.2 != bt116.2) != bt118.2) a3).bind fun t126 => (if t126 = true then (if (IntKind.u64.wrap (bt122.2.1 + 1)) = 0 then (some (0, 9)) else ((q16q.f kj4 (IntKind.u64.wrap (bt122.2.1 + 1)) ((bt114.2 != bt116.2) != bt118.2)).bind fun bt127 => (some (bt127.1, bt127.2)))) else ((q16q.f kj4 bt122.2.1 ((bt114.2 != bt116.2) != bt118.2)).bind fun bt129 => (some (bt129.1, bt129.2))))))))))) = some (r1, r2) := by rw [if_neg (show ¬ (false = true) by decide)] at H; exact H
     replace H := Option.bind_eq_some_iff.mp H
     obtain ⟨⟨t114, t115⟩, A90, H⟩ := H
     replace H : ((fixnum_size.f a1).bind fun bt116 => ((fixnum_size.f a2).bind fun bt118 => ((fixnum_Mul.f t114 bt116.1).bind fun bt120 => ((q10q.f kj4 bt120.1 bt120.2 bt118.1).bind fun bt122 => (if bt122.1 > 0 then (some (0, 9)) else ((fixnum_up.f bt122.2.1 bt122.2.2 bt118.1 ((t115 != bt116.2) != bt118.2) a3).bind fun t126 => (if t126 = true then (if (IntKind.u64.wrap (bt122.2.1 + 1)) = 0 then (some (0, 9)) else ((q16q.f kj4 (IntKind.u64.wrap (bt122.2.1 + 1)) ((t115 != bt116.2) != bt118.2)).bind fun bt127 => (some (bt127.1, bt127.2)))) else ((q16q.f kj4 bt122.2.1 ((t115 != bt116.2) != bt118.2)).bind fun bt129 => (some (bt129.1, bt129.2)))))))))) = some (r1, r2) := H
     have A9 := Aside0.mk A90; clear A90
     replace H := Option.bind_eq_some_iff.mp H
     obtain ⟨⟨t116, t117⟩, A100, H⟩ := H
     replace H : ((fixnum_size.f a2).bind fun bt118 => ((fixnum_Mul.f t114 t116).bind fun bt120 => ((q10q.f kj4 bt120.1 bt120.2 bt118.1).bind fun bt122 => (if bt122.1 > 0 then (some (0, 9)) else ((fixnum_up.f bt122.2.1 bt122.2.2 bt118.1 ((t115 != t117) != bt118.2) a3).bind fun t126 => (if t126 = true then (if (IntKind.u64.wrap (bt122.2.1 + 1)) = 0 then (some (0, 9)) else ((q16q.f kj4 (IntKind.u64.wrap (bt122.2.1 + 1)) ((t115 != t117) != bt118.2)).bind fun bt127 => (some (bt127.1, bt127.2)))) else ((q16q.f kj4 bt122.2.1 ((t115 != t117) != bt118.2)).bind fun bt129 => (some (bt129.1, bt129.2))))))))) = some (r1, r2) := H
     have A10 := Aside0.mk A100; clear A100
     replace H := Option.bind_eq_some_iff.mp H
     obtain ⟨⟨t118, t119⟩, A110, H⟩ := H
     replace H : ((fixnum_Mul.f t114 t116).bind fun bt120 => ((q10q.f kj4 bt120.1 bt120.2 t118).bind fun bt122 => (if bt122.1 > 0 then (some (0, 9)) else ((fixnum_up.f bt122.2.1 bt122.2.2 t118 ((t115 != t117) != t119) a3).bind fun t126 => (if t126 = true then (if (IntKind.u64.wrap (bt122.2.1 + 1)) = 0 then (some (0, 9)) else ((q16q.f kj4 (IntKind.u64.wrap (bt122.2.1 + 1)) ((t115 != t117) != t119)).bind fun bt127 => (some (bt127.1, bt127.2)))) else ((q16q.f kj4 bt122.2.1 ((t115 != t117) != t119)).bind fun bt129 => (some (bt129.1, bt129.2)))))))) = some (r1, r2) := H
     have A11 := Aside0.mk A110; clear A110
     replace H := Option.bind_eq_some_iff.mp H
     obtain ⟨⟨t120, t121⟩, A120, H⟩ := H
     replace H : ((q10q.f kj4 t120 t121 t118).bind fun bt122 => (if bt122.1 > 0 then (some (0, 9)) else ((fixnum_up.f bt122.2.1 bt122.2.2 t118 ((t115 != t117) != t119) a3).bind fun t126 => (if t126 = true then (if (IntKind.u64.wrap (bt122.2.1 + 1)) = 0 then (some (0, 9)) else ((q16q.f kj4 (IntKind.u64.wrap (bt122.2.1 + 1)) ((t115 != t117) != t119)).bind fun bt127 => (some (bt127.1, bt127.2)))) else ((q16q.f kj4 bt122.2.1 ((t115 != t117) != t119)).bind fun bt129 => (some (bt129.1, bt129.2))))))) = some (r1, r2) := H
     have A12 := Aside0.mk A120; clear A120
     replace H := Option.bind_eq_some_iff.mp H
     obtain ⟨⟨t122, t123, t124⟩, A130, H⟩ := H
     replace H : (if t122 > 0 then (some (0, 9)) else ((fixnum_up.f t123 t124 t118 ((t115 != t117) != t119) a3).bind fun t126 => (if t126 = true then (if (IntKind.u64.wrap (t123 + 1)) = 0 then (some (0, 9)) else ((q16q.f kj4 (IntKind.u64.wrap (t123 + 1)) ((t115 != t117) != t119)).bind fun bt127 => (some (bt127.1, bt127.2)))) else ((q16q.f kj4 t123 ((t115 != t117) != t119)).bind fun bt129 => (some (bt129.1, bt129.2)))))) = some (r1, r2) := H
     have A13 := Aside0.mk A130; clear A130
     by_cases c14 : t122 > 0
     · rw [if_pos c14] at H
       have c14b0 : decide (0 < t122) = true := decide_eq_true c14
       clear c14
       simp only [Option.some.injEq, Prod.mk.injEq] at H
       obtain ⟨rfl, rfl⟩ := H
       go_wp2_with (first | ((with_reducible refine gate_callee (f := 53) rfl ?_); refine goesL_ (some 31) rfl rfl Try.func53 (by kernel_rfl) rfl #[.int .i64 a0] rfl am ?_; (with_reducible refine (fixnum_size.calls a0 t114 t115 _ A9.out).mono ?_); rintro e w' ⟨rfl, ⟨nd, rfl⟩⟩; refine ⟨_, rfl, ?_⟩; (try (rw [drewN_self wc]; generalize hq_ : World.drewN wc _ = wc; have hcq := XWords.cell_at hq_; have hfq := XWords.frozen_at hq_; have n0_ : Aside0 (Below w.heap.size w wc) := ⟨by rw [← hq_]; exact (gB HB)⟩; clear HB hq_; have HB := n0_; clear n0_))) | ((with_reducible refine gate_callee (f := 53) rfl ?_); refine goesL_ (some 36) rfl rfl Try.func53 (by kernel_rfl) rfl #[.int .i64 a1] rfl am ?_; (with_reducible refine (fixnum_size.calls a1 t116 t117 _ A10.out).mono ?_); rintro e w' ⟨rfl, ⟨nd, rfl⟩⟩; refine ⟨_, rfl, ?_⟩; (try (rw [drewN_self wc]; generalize hq_ : World.drewN wc _ = wc; have hcq := XWords.cell_at hq_; have hfq := XWords.frozen_at hq_; have n0_ : Aside0 (Below w.heap.size w wc) := ⟨by rw [← hq_]; exact (gB HB)⟩; clear HB hq_; have HB := n0_; clear n0_))) | ((with_reducible refine gate_callee (f := 53) rfl ?_); refine goesL_ (some 41) rfl rfl Try.func53 (by kernel_rfl) rfl #[.int .i64 a2] rfl am ?_; (with_reducible refine (fixnum_size.calls a2 t118 t119 _ A11.out).mono ?_); rintro e w' ⟨rfl, ⟨nd, rfl⟩⟩; refine ⟨_, rfl, ?_⟩; (try (rw [drewN_self wc]; generalize hq_ : World.drewN wc _ = wc; have hcq := XWords.cell_at hq_; have hfq := XWords.frozen_at hq_; have n0_ : Aside0 (Below w.heap.size w wc) := ⟨by rw [← hq_]; exact (gB HB)⟩; clear HB hq_; have HB := n0_; clear n0_))) | ((with_reducible refine gate_callee (f := 54) rfl ?_); refine goesL_ (some 52) rfl rfl Try.func54 (by kernel_rfl) rfl #[.int .u64 t114, .int .u64 t116] rfl am ?_; (with_reducible refine (fixnum_Mul.calls t114 t116 t120 t121 _ A12.out).mono ?_); rintro e w15 ⟨rfl, hb⟩; refine ⟨_, rfl, ?_⟩; replace HB := aK (below_step (gB HB) hb); (try clear hb); (try clear hb2); (try clear hk); (try clear hi)) | ((with_reducible refine gate_callee (f := 55) rfl ?_); refine goesL_ (some 54) rfl rfl Try.func55 (by kernel_rfl) rfl #[.agg #[.int .u64 t120, .int .u64 t121], .int .u64 t118] rfl am ?_; (with_reducible refine (q10q.calls kj4 t120 t121 t118 t122 t123 t124 _ A13.out).mono ?_); rintro e w16 ⟨rfl, hb⟩; refine ⟨_, rfl, ?_⟩; replace HB := aK (below_step (gB HB) hb); (try clear hb); (try clear hb2); (try clear hk); (try clear hi)) | ((with_reducible refine gate_dst (N := 17) rfl ?_); refine box_event ?hg (N := 17) ?hd (cs := #[.int .u64 0, .int .u64 0]) (t := 104) ?hr ?_; (case hd => rfl); (case hg => rfl); (case hr => first | (go_simp; done) | (go_simp; rfl) | (have hcq := hcq_.out; have hfq := hfq_.out; go_simp; done)); intro gb125 hg w17 hbox hb; have BK125 := aK (hbox); have GW125 := aK ((by rw [hg]; exact (below_size (gB HB)) : w.heap.size ≤ gb125)); have GE125 := aK ((by rw [hg]; exact (below_size (gB HB)) : w.heap.size ≤ gb125)); replace HB := aK (below_step (gB HB) hb); clear hb hbox hg; have hcz18_0 : w17.cell? ⟨gb125, 0, none⟩ = some (.int .u64 0) := (blk_cell BK125.out 0).trans rfl; have hcz18_1 : w17.cell? ⟨gb125, 1, none⟩ = some (.int .u64 0) := (blk_cell BK125.out 1).trans rfl; have hfz18_0 := blk_frozen BK125.out 0; have hfz18_1 := blk_frozen BK125.out 1))
       go_ret2
       exact ⟨by first | rfl | (simp [errW_none, errW_some] <;> rfl) | (simp [*, errW_none, errW_some] <;> rfl), gS HB⟩
     · rw [if_neg c14] at H
       have c14b0 : decide (0 < t122) = false := decide_eq_false c14
       clear c14
       replace H := Option.bind_eq_some_iff.mp H
       obtain ⟨t126, A190, H⟩ := H
       replace H : (if t126 = true then (if (IntKind.u64.wrap (t123 + 1)) = 0 then (some (0, 9)) else ((q16q.f kj4 (IntKind.u64.wrap (t123 + 1)) ((t115 != t117) != t119)).bind fun bt127 => (some (bt127.1, bt127.2)))) else ((q16q.f kj4 t123 ((t115 != t117) != t119)).bind fun bt129 => (some (bt129.1, bt129.2)))) = some (r1, r2) := H
       have A19 := Aside0.mk A190; clear A190
       by_cases c20 : t126 = true
       · subst c20
         replace H : (if (IntKind.u64.wrap (t123 + 1)) = 0 then (some (0, 9)) else ((q16q.f kj4 (IntKind.u64.wrap (t123 + 1)) ((t115 != t117) != t119)).bind fun bt127 => (some (bt127.1, bt127.2)))) = some (r1, r2) := by rw [if_pos rfl] at H; exact H
         by_cases c21 : (IntKind.u64.wrap (t123 + 1)) = 0
         · rw [if_pos c21] at H
           have c21b0 : ((IntKind.u64.wrap (t123 + 1)) == 0) = true := beq_iff_eq.mpr c21
           have c21b1 : ((IntKind.u64.wrap (t123 + 1)) != 0) = false := bne_eq_false_iff_eq.mpr c21
           clear c21
           simp only [Option.some.injEq, Prod.mk.injEq] at H
           obtain ⟨rfl, rfl⟩ := H
           go_wp2_with (first | ((with_reducible refine gate_callee (f := 53) rfl ?_); refine goesL_ (some 31) rfl rfl Try.func53 (by kernel_rfl) rfl #[.int .i64 a0] rfl am ?_; (with_reducible refine (fixnum_size.calls a0 t114 t115 _ A9.out).mono ?_); rintro e w' ⟨rfl, ⟨nd, rfl⟩⟩; refine ⟨_, rfl, ?_⟩; (try (rw [drewN_self wc]; generalize hq_ : World.drewN wc _ = wc; have hcq := XWords.cell_at hq_; have hfq := XWords.frozen_at hq_; have n0_ : Aside0 (Below w.heap.size w wc) := ⟨by rw [← hq_]; exact (gB HB)⟩; clear HB hq_; have HB := n0_; clear n0_))) | ((with_reducible refine gate_callee (f := 53) rfl ?_); refine goesL_ (some 36) rfl rfl Try.func53 (by kernel_rfl) rfl #[.int .i64 a1] rfl am ?_; (with_reducible refine (fixnum_size.calls a1 t116 t117 _ A10.out).mono ?_); rintro e w' ⟨rfl, ⟨nd, rfl⟩⟩; refine ⟨_, rfl, ?_⟩; (try (rw [drewN_self wc]; generalize hq_ : World.drewN wc _ = wc; have hcq := XWords.cell_at hq_; have hfq := XWords.frozen_at hq_; have n0_ : Aside0 (Below w.heap.size w wc) := ⟨by rw [← hq_]; exact (gB HB)⟩; clear HB hq_; have HB := n0_; clear n0_))) | ((with_reducible refine gate_callee (f := 53) rfl ?_); refine goesL_ (some 41) rfl rfl Try.func53 (by kernel_rfl) rfl #[.int .i64 a2] rfl am ?_; (with_reducible refine (fixnum_size.calls a2 t118 t119 _ A11.out).mono ?_); rintro e w' ⟨rfl, ⟨nd, rfl⟩⟩; refine ⟨_, rfl, ?_⟩; (try (rw [drewN_self wc]; generalize hq_ : World.drewN wc _ = wc; have hcq := XWords.cell_at hq_; have hfq := XWords.frozen_at hq_; have n0_ : Aside0 (Below w.heap.size w wc) := ⟨by rw [← hq_]; exact (gB HB)⟩; clear HB hq_; have HB := n0_; clear n0_))) | ((with_reducible refine gate_callee (f := 54) rfl ?_); refine goesL_ (some 52) rfl rfl Try.func54 (by kernel_rfl) rfl #[.int .u64 t114, .int .u64 t116] rfl am ?_; (with_reducible refine (fixnum_Mul.calls t114 t116 t120 t121 _ A12.out).mono ?_); rintro e w22 ⟨rfl, hb⟩; refine ⟨_, rfl, ?_⟩; replace HB := aK (below_step (gB HB) hb); (try clear hb); (try clear hb2); (try clear hk); (try clear hi)) | ((with_reducible refine gate_callee (f := 55) rfl ?_); refine goesL_ (some 54) rfl rfl Try.func55 (by kernel_rfl) rfl #[.agg #[.int .u64 t120, .int .u64 t121], .int .u64 t118] rfl am ?_; (with_reducible refine (q10q.calls kj4 t120 t121 t118 t122 t123 t124 _ A13.out).mono ?_); rintro e w23 ⟨rfl, hb⟩; refine ⟨_, rfl, ?_⟩; replace HB := aK (below_step (gB HB) hb); (try clear hb); (try clear hb2); (try clear hk); (try clear hi)) | ((with_reducible refine gate_dst (N := 17) rfl ?_); refine box_event ?hg (N := 17) ?hd (cs := #[.int .u64 0, .int .u64 0]) (t := 104) ?hr ?_; (case hd => rfl); (case hg => rfl); (case hr => first | (go_simp; done) | (go_simp; rfl) | (have hcq := hcq_.out; have hfq := hfq_.out; go_simp; done)); intro gb125 hg w24 hbox hb; have BK125 := aK (hbox); have GW125 := aK ((by rw [hg]; exact (below_size (gB HB)) : w.heap.size ≤ gb125)); have GE125 := aK ((by rw [hg]; exact (below_size (gB HB)) : w.heap.size ≤ gb125)); replace HB := aK (below_step (gB HB) hb); clear hb hbox hg; have hcz25_0 : w24.cell? ⟨gb125, 0, none⟩ = some (.int .u64 0) := (blk_cell BK125.out 0).trans rfl; have hcz25_1 : w24.cell? ⟨gb125, 1, none⟩ = some (.int .u64 0) := (blk_cell BK125.out 1).trans rfl; have hfz25_0 := blk_frozen BK125.out 0; have hfz25_1 := blk_frozen BK125.out 1) | ((with_reducible refine gate_callee (f := 56) rfl ?_); refine goesL_ (some 66) rfl rfl Try.func56 (by kernel_rfl) rfl #[.int .u64 t123, .int .u64 t124, .int .u64 t118, .bool ((t115 != t117) != t119), .int .i64 a3] rfl am ?_; (with_reducible refine (fixnum_up.calls t123 t124 t118 ((t115 != t117) != t119) a3 true _ A19.out).mono ?_); rintro e w' ⟨rfl, ⟨nd, rfl⟩⟩; refine ⟨_, rfl, ?_⟩))
           go_ret2
           exact ⟨by first | rfl | (simp [errW_none, errW_some] <;> rfl) | (simp [*, errW_none, errW_some] <;> rfl), gS HB⟩
         · rw [if_neg c21] at H
           have c21b0 : ((IntKind.u64.wrap (t123 + 1)) == 0) = false := beq_eq_false_iff_ne.mpr c21
           have c21b1 : ((IntKind.u64.wrap (t123 + 1)) != 0) = true := bne_iff_ne.mpr c21
           replace H := Option.bind_eq_some_iff.mp H
           obtain ⟨⟨t127, t128⟩, A260, H⟩ := H
           replace H : (some (t127, t128)) = some (r1, r2) := H
           have A26 := Aside0.mk A260; clear A260
           simp only [Option.some.injEq, Prod.mk.injEq] at H
           obtain ⟨rfl, rfl⟩ := H
           go_wp2_with (first | ((with_reducible refine gate_callee (f := 53) rfl ?_); refine goesL_ (some 31) rfl rfl Try.func53 (by kernel_rfl) rfl #[.int .i64 a0] rfl am ?_; (with_reducible refine (fixnum_size.calls a0 t114 t115 _ A9.out).mono ?_); rintro e w' ⟨rfl, ⟨nd, rfl⟩⟩; refine ⟨_, rfl, ?_⟩; (try (rw [drewN_self wc]; generalize hq_ : World.drewN wc _ = wc; have hcq := XWords.cell_at hq_; have hfq := XWords.frozen_at hq_; have n0_ : Aside0 (Below w.heap.size w wc) := ⟨by rw [← hq_]; exact (gB HB)⟩; clear HB hq_; have HB := n0_; clear n0_))) | ((with_reducible refine gate_callee (f := 53) rfl ?_); refine goesL_ (some 36) rfl rfl Try.func53 (by kernel_rfl) rfl #[.int .i64 a1] rfl am ?_; (with_reducible refine (fixnum_size.calls a1 t116 t117 _ A10.out).mono ?_); rintro e w' ⟨rfl, ⟨nd, rfl⟩⟩; refine ⟨_, rfl, ?_⟩; (try (rw [drewN_self wc]; generalize hq_ : World.drewN wc _ = wc; have hcq := XWords.cell_at hq_; have hfq := XWords.frozen_at hq_; have n0_ : Aside0 (Below w.heap.size w wc) := ⟨by rw [← hq_]; exact (gB HB)⟩; clear HB hq_; have HB := n0_; clear n0_))) | ((with_reducible refine gate_callee (f := 53) rfl ?_); refine goesL_ (some 41) rfl rfl Try.func53 (by kernel_rfl) rfl #[.int .i64 a2] rfl am ?_; (with_reducible refine (fixnum_size.calls a2 t118 t119 _ A11.out).mono ?_); rintro e w' ⟨rfl, ⟨nd, rfl⟩⟩; refine ⟨_, rfl, ?_⟩; (try (rw [drewN_self wc]; generalize hq_ : World.drewN wc _ = wc; have hcq := XWords.cell_at hq_; have hfq := XWords.frozen_at hq_; have n0_ : Aside0 (Below w.heap.size w wc) := ⟨by rw [← hq_]; exact (gB HB)⟩; clear HB hq_; have HB := n0_; clear n0_))) | ((with_reducible refine gate_callee (f := 54) rfl ?_); refine goesL_ (some 52) rfl rfl Try.func54 (by kernel_rfl) rfl #[.int .u64 t114, .int .u64 t116] rfl am ?_; (with_reducible refine (fixnum_Mul.calls t114 t116 t120 t121 _ A12.out).mono ?_); rintro e w27 ⟨rfl, hb⟩; refine ⟨_, rfl, ?_⟩; replace HB := aK (below_step (gB HB) hb); (try clear hb); (try clear hb2); (try clear hk); (try clear hi)) | ((with_reducible refine gate_callee (f := 55) rfl ?_); refine goesL_ (some 54) rfl rfl Try.func55 (by kernel_rfl) rfl #[.agg #[.int .u64 t120, .int .u64 t121], .int .u64 t118] rfl am ?_; (with_reducible refine (q10q.calls kj4 t120 t121 t118 t122 t123 t124 _ A13.out).mono ?_); rintro e w28 ⟨rfl, hb⟩; refine ⟨_, rfl, ?_⟩; replace HB := aK (below_step (gB HB) hb); (try clear hb); (try clear hb2); (try clear hk); (try clear hi)) | ((with_reducible refine gate_dst (N := 17) rfl ?_); refine box_event ?hg (N := 17) ?hd (cs := #[.int .u64 0, .int .u64 0]) (t := 104) ?hr ?_; (case hd => rfl); (case hg => rfl); (case hr => first | (go_simp; done) | (go_simp; rfl) | (have hcq := hcq_.out; have hfq := hfq_.out; go_simp; done)); intro gb125 hg w29 hbox hb; have BK125 := aK (hbox); have GW125 := aK ((by rw [hg]; exact (below_size (gB HB)) : w.heap.size ≤ gb125)); have GE125 := aK ((by rw [hg]; exact (below_size (gB HB)) : w.heap.size ≤ gb125)); replace HB := aK (below_step (gB HB) hb); clear hb hbox hg; have hcz30_0 : w29.cell? ⟨gb125, 0, none⟩ = some (.int .u64 0) := (blk_cell BK125.out 0).trans rfl; have hcz30_1 : w29.cell? ⟨gb125, 1, none⟩ = some (.int .u64 0) := (blk_cell BK125.out 1).trans rfl; have hfz30_0 := blk_frozen BK125.out 0; have hfz30_1 := blk_frozen BK125.out 1) | ((with_reducible refine gate_callee (f := 56) rfl ?_); refine goesL_ (some 66) rfl rfl Try.func56 (by kernel_rfl) rfl #[.int .u64 t123, .int .u64 t124, .int .u64 t118, .bool ((t115 != t117) != t119), .int .i64 a3] rfl am ?_; (with_reducible refine (fixnum_up.calls t123 t124 t118 ((t115 != t117) != t119) a3 true _ A19.out).mono ?_); rintro e w' ⟨rfl, ⟨nd, rfl⟩⟩; refine ⟨_, rfl, ?_⟩) | ((with_reducible refine gate_callee (f := 57) rfl ?_); refine goesL_ (some 77) rfl rfl Try.func57 (by kernel_rfl) rfl #[.int .u64 (IntKind.u64.wrap (t123 + 1)), .bool ((t115 != t117) != t119)] rfl am ?_; (with_reducible refine (q16q.calls kj4 (IntKind.u64.wrap (t123 + 1)) ((t115 != t117) != t119) t127 t128 _ A26.out).mono ?_); rintro e w' ⟨rfl, ⟨nd, rfl⟩⟩; refine ⟨_, rfl, ?_⟩))
           go_ret2
           exact ⟨by first | rfl | (simp [errW_none, errW_some] <;> rfl) | (simp [*, errW_none, errW_some] <;> rfl), gS HB⟩
       · replace c20 := Bool.eq_false_iff.mpr c20
         subst c20
         replace H : ((q16q.f kj4 t123 ((t115 != t117) != t119)).bind fun bt129 => (some (bt129.1, bt129.2))) = some (r1, r2) := by rw [if_neg (show ¬ (false = true) by decide)] at H; exact H
         replace H := Option.bind_eq_some_iff.mp H
         obtain ⟨⟨t129, t130⟩, A310, H⟩ := H
         replace H : (some (t129, t130)) = some (r1, r2) := H
         have A31 := Aside0.mk A310; clear A310
         simp only [Option.some.injEq, Prod.mk.injEq] at H
         obtain ⟨rfl, rfl⟩ := H
         go_wp2_with (first | ((with_reducible refine gate_callee (f := 53) rfl ?_); refine goesL_ (some 31) rfl rfl Try.func53 (by kernel_rfl) rfl #[.int .i64 a0] rfl am ?_; (with_reducible refine (fixnum_size.calls a0 t114 t115 _ A9.out).mono ?_); rintro e w' ⟨rfl, ⟨nd, rfl⟩⟩; refine ⟨_, rfl, ?_⟩; (try (rw [drewN_self wc]; generalize hq_ : World.drewN wc _ = wc; have hcq := XWords.cell_at hq_; have hfq := XWords.frozen_at hq_; have n0_ : Aside0 (Below w.heap.size w wc) := ⟨by rw [← hq_]; exact (gB HB)⟩; clear HB hq_; have HB := n0_; clear n0_))) | ((with_reducible refine gate_callee (f := 53) rfl ?_); refine goesL_ (some 36) rfl rfl Try.func53 (by kernel_rfl) rfl #[.int .i64 a1] rfl am ?_; (with_reducible refine (fixnum_size.calls a1 t116 t117 _ A10.out).mono ?_); rintro e w' ⟨rfl, ⟨nd, rfl⟩⟩; refine ⟨_, rfl, ?_⟩; (try (rw [drewN_self wc]; generalize hq_ : World.drewN wc _ = wc; have hcq := XWords.cell_at hq_; have hfq := XWords.frozen_at hq_; have n0_ : Aside0 (Below w.heap.size w wc) := ⟨by rw [← hq_]; exact (gB HB)⟩; clear HB hq_; have HB := n0_; clear n0_))) | ((with_reducible refine gate_callee (f := 53) rfl ?_); refine goesL_ (some 41) rfl rfl Try.func53 (by kernel_rfl) rfl #[.int .i64 a2] rfl am ?_; (with_reducible refine (fixnum_size.calls a2 t118 t119 _ A11.out).mono ?_); rintro e w' ⟨rfl, ⟨nd, rfl⟩⟩; refine ⟨_, rfl, ?_⟩; (try (rw [drewN_self wc]; generalize hq_ : World.drewN wc _ = wc; have hcq := XWords.cell_at hq_; have hfq := XWords.frozen_at hq_; have n0_ : Aside0 (Below w.heap.size w wc) := ⟨by rw [← hq_]; exact (gB HB)⟩; clear HB hq_; have HB := n0_; clear n0_))) | ((with_reducible refine gate_callee (f := 54) rfl ?_); refine goesL_ (some 52) rfl rfl Try.func54 (by kernel_rfl) rfl #[.int .u64 t114, .int .u64 t116] rfl am ?_; (with_reducible refine (fixnum_Mul.calls t114 t116 t120 t121 _ A12.out).mono ?_); rintro e w32 ⟨rfl, hb⟩; refine ⟨_, rfl, ?_⟩; replace HB := aK (below_step (gB HB) hb); (try clear hb); (try clear hb2); (try clear hk); (try clear hi)) | ((with_reducible refine gate_callee (f := 55) rfl ?_); refine goesL_ (some 54) rfl rfl Try.func55 (by kernel_rfl) rfl #[.agg #[.int .u64 t120, .int .u64 t121], .int .u64 t118] rfl am ?_; (with_reducible refine (q10q.calls kj4 t120 t121 t118 t122 t123 t124 _ A13.out).mono ?_); rintro e w33 ⟨rfl, hb⟩; refine ⟨_, rfl, ?_⟩; replace HB := aK (below_step (gB HB) hb); (try clear hb); (try clear hb2); (try clear hk); (try clear hi)) | ((with_reducible refine gate_dst (N := 17) rfl ?_); refine box_event ?hg (N := 17) ?hd (cs := #[.int .u64 0, .int .u64 0]) (t := 104) ?hr ?_; (case hd => rfl); (case hg => rfl); (case hr => first | (go_simp; done) | (go_simp; rfl) | (have hcq := hcq_.out; have hfq := hfq_.out; go_simp; done)); intro gb125 hg w34 hbox hb; have BK125 := aK (hbox); have GW125 := aK ((by rw [hg]; exact (below_size (gB HB)) : w.heap.size ≤ gb125)); have GE125 := aK ((by rw [hg]; exact (below_size (gB HB)) : w.heap.size ≤ gb125)); replace HB := aK (below_step (gB HB) hb); clear hb hbox hg; have hcz35_0 : w34.cell? ⟨gb125, 0, none⟩ = some (.int .u64 0) := (blk_cell BK125.out 0).trans rfl; have hcz35_1 : w34.cell? ⟨gb125, 1, none⟩ = some (.int .u64 0) := (blk_cell BK125.out 1).trans rfl; have hfz35_0 := blk_frozen BK125.out 0; have hfz35_1 := blk_frozen BK125.out 1) | ((with_reducible refine gate_callee (f := 56) rfl ?_); refine goesL_ (some 66) rfl rfl Try.func56 (by kernel_rfl) rfl #[.int .u64 t123, .int .u64 t124, .int .u64 t118, .bool ((t115 != t117) != t119), .int .i64 a3] rfl am ?_; (with_reducible refine (fixnum_up.calls t123 t124 t118 ((t115 != t117) != t119) a3 false _ A19.out).mono ?_); rintro e w' ⟨rfl, ⟨nd, rfl⟩⟩; refine ⟨_, rfl, ?_⟩) | ((with_reducible refine gate_callee (f := 57) rfl ?_); refine goesL_ (some 77) rfl rfl Try.func57 (by kernel_rfl) rfl #[.int .u64 t123, .bool ((t115 != t117) != t119)] rfl am ?_; (with_reducible refine (q16q.calls kj4 t123 ((t115 != t117) != t119) t129 t130 _ A31.out).mono ?_); rintro e w' ⟨rfl, ⟨nd, rfl⟩⟩; refine ⟨_, rfl, ?_⟩))
         go_ret2
         exact ⟨by first | rfl | (simp [errW_none, errW_some] <;> rfl) | (simp [*, errW_none, errW_some] <;> rfl), gS HB⟩
mutual
def q12q.j0 : Nat → Int → List Int → Bool → Option (List Int × Int)
 | 0, _, _, _ => none
 | k + 1, x0, x1, x23 => if x23 = true then (some (([] : List Int), 1)) else (q12q.l0 k x0 x1 x1 (x1.length : Int) 0)
def q12q.l0 : Nat → Int → List Int → List Int → Int → Int → Option (List Int × Int)
 | 0, _, _, _, _, _ => none
 | k + 1, x0, x1, x24, x25, x26 => if x26 < x25 then (if 0 ≤ x26 then (if x26 < (x24.length : Int) then (if (rd x24 x26) < 0 then (some (([] : List Int), 1)) else (q12q.l0 k x0 x1 x24 x25 (wrap64 (x26 + 1)))) else (none)) else (none)) else ((fixnum_Sum.f k x1).bind fun bt132 => (if bt132.2 = 0 then (if bt132.1 = 0 then (some (([] : List Int), 6)) else (if 0 ≤ (x1.length : Int) then (if ((x1.length : Int) : Int).toNat ≤ 35184372088832 then (q12q.l1 k x0 x1 bt132.1 ([]) x0 x1 (x1.length : Int) 0) else (none)) else (none))) else (some (([] : List Int), bt132.2))))
def q12q.l1 : Nat → Int → List Int → Int → List Int → Int → List Int → Int → Int → Option (List Int × Int)
 | 0, _, _, _, _, _, _, _, _ => none
 | k + 1, x0, x1, x8, x10, x11, x47, x48, x49 => if x49 < x48 then (if 0 ≤ x49 then (if x49 < (x47.length : Int) then ((q20q.f k x0 (rd x47 x49) x8 1).bind fun bt138 => (if x10.length < 17592186044416 then (q12q.l1 k x0 x1 x8 (x10 ++ [bt138.1]) (wrap64 (x11 - bt138.1)) x47 x48 (wrap64 (x49 + 1))) else (none))) else (none)) else (none)) else (q12q.l2 k x1 x10 x11 (x10.length : Int) 0)
def q12q.l2 : Nat → List Int → List Int → Int → Int → Int → Option (List Int × Int)
 | 0, _, _, _, _, _ => none
 | k + 1, x1, x10, x11, x69, x70 => if x70 < x69 then (if x11 > 0 then (if 0 ≤ x70 then (if x70 < (x1.length : Int) then (if (rd x1 x70) > 0 then (if x70 < (x10.length : Int) then (q12q.l2 k x1 (x10.set (x70 : Int).toNat (wrap64 ((rd x10 x70) + 1))) (wrap64 (x11 - 1)) x69 (wrap64 (x70 + 1))) else (none)) else (q12q.l2 k x1 x10 x11 x69 (wrap64 (x70 + 1)))) else (none)) else (none)) else (q12q.l2 k x1 x10 x11 x69 (wrap64 (x70 + 1)))) else (some (x10, 0))
end
def q12q.f (k : Nat) (a0 : Int) (l1 : List Int) : Option (List Int × Int) := if a0 < 0 then (q12q.j0 k a0 l1 true) else (q12q.j0 k a0 l1 (decide ((l1.length : Int) > 64)))
theorem q12q.mono_l : ∀ k, (∀ y0 y1 y2, LeO (q12q.j0 k y0 y1 y2) (q12q.j0 (k + 1) y0 y1 y2)) ∧ (∀ y0 y1 y2 y3 y4, LeO (q12q.l0 k y0 y1 y2 y3 y4) (q12q.l0 (k + 1) y0 y1 y2 y3 y4)) ∧ (∀ y0 y1 y2 y3 y4 y5 y6 y7, LeO (q12q.l1 k y0 y1 y2 y3 y4 y5 y6 y7) (q12q.l1 (k + 1) y0 y1 y2 y3 y4 y5 y6 y7)) ∧ (∀ y0 y1 y2 y3 y4, LeO (q12q.l2 k y0 y1 y2 y3 y4) (q12q.l2 (k + 1) y0 y1 y2 y3 y4))
 | 0 => ⟨fun _ _ _ r h => by simp [q12q.j0] at h, fun _ _ _ _ _ r h => by simp [q12q.l0] at h, fun _ _ _ _ _ _ _ _ r h => by simp [q12q.l1] at h, fun _ _ _ _ _ r h => by simp [q12q.l2] at h⟩
 | k + 1 => by
  obtain ⟨ih0, ih1, ih2, ih3⟩ := q12q.mono_l k
  refine ⟨?_, ?_, ?_, ?_⟩
  intro y0 y1 y2; unfold q12q.j0; rotate_left
  intro y0 y1 y2 y3 y4; unfold q12q.l0; rotate_left
  intro y0 y1 y2 y3 y4 y5 y6 y7; unfold q12q.l1; rotate_left
  intro y0 y1 y2 y3 y4; unfold q12q.l2; rotate_left
  all_goals repeat' first
  | (with_reducible exact ih0 _ _ _)
  | (with_reducible exact ih1 _ _ _ _ _)
  | (with_reducible exact ih2 _ _ _ _ _ _ _ _)
  | (with_reducible exact ih3 _ _ _ _ _)
  | (with_reducible exact q20q.mono _ _ _ _ _)
  | (with_reducible exact fixnum_Sum.mono _ _)
  | (with_reducible exact LeO.refl _)
  | (with_reducible exact LeO.none _)
  | (with_reducible refine LeO.ite ?_ ?_)
  | (with_reducible refine LeO.bind ?_ (fun _ => ?_))
  | exact ih0 _ _ _
  | exact ih1 _ _ _ _ _
  | exact ih2 _ _ _ _ _ _ _ _
  | exact ih3 _ _ _ _ _
  | exact q20q.mono _ _ _ _ _
  | exact fixnum_Sum.mono _ _
  | exact LeO.none _
  | refine LeO.ite ?_ ?_
  | refine LeO.bind ?_ (fun _ => ?_)
theorem q12q.mono : ∀ a0 a1 k, LeO (q12q.f k a0 a1) (q12q.f (k + 1) a0 a1) := by
 intro a0 a1 k
 obtain ⟨ih0, ih1, ih2, ih3⟩ := q12q.mono_l k
 unfold q12q.f
 repeat' first
  | (with_reducible exact ih0 _ _ _)
  | (with_reducible exact ih1 _ _ _ _ _)
  | (with_reducible exact ih2 _ _ _ _ _ _ _ _)
  | (with_reducible exact ih3 _ _ _ _ _)
  | (with_reducible exact q20q.mono _ _ _ _ _)
  | (with_reducible exact fixnum_Sum.mono _ _)
  | (with_reducible exact LeO.refl _)
  | (with_reducible exact LeO.none _)
  | (with_reducible refine LeO.ite ?_ ?_)
  | (with_reducible refine LeO.bind ?_ (fun _ => ?_))
  | exact ih0 _ _ _
  | exact ih1 _ _ _ _ _
  | exact ih2 _ _ _ _ _ _ _ _
  | exact ih3 _ _ _ _ _
  | exact q20q.mono _ _ _ _ _
  | exact fixnum_Sum.mono _ _
  | exact LeO.none _
  | refine LeO.ite ?_ ?_
  | refine LeO.bind ?_ (fun _ => ?_)
set_option maxHeartbeats 8000000 in
set_option maxRecDepth 100000 in
theorem q12q.calls (k : Nat) (a0 : Int) (A1 : Option Addr) (c1 : Nat) (l1 : List Int) (r1 : List Int) (r2 : Int) (w : World) (hr1 : Kd.C (Kd.int .i64) w A1 l1.length l1) (hc1 : l1.length ≤ c1) (h : q12q.f k a0 l1 = some (r1, r2)) :
 Calls Try.prog 24 #[.int .i64 a0, .slice A1 l1.length c1] w fun e w' => ∃ v0_ : Value, e = .returned (.tuple #[v0_, .int .i64 r2]) ∧ Kd.R (Kd.int .i64) 3 w' w.heap.size (fun _ => True) v0_ r1 ∧ Below w.heap.size w w' := by
 have HR1 := Aside0.mk hr1; have HC1 := Aside0.mk hc1; clear hr1 hc1
 have HB := aK (Below.refl w.heap.size w)
 have H : (if a0 < 0 then (q12q.j0 k a0 l1 true) else (q12q.j0 k a0 l1 (decide ((l1.length : Int) > 64)))) = some (r1, r2) := h
 clear h; have HC3 := Aside0.mk H; clear H
 go_enter Try.func24, Try.ntmps24
 go_upto_region 1 with (fail)
 go_cut [23] (fun v23 wc => ∃ (kq : Nat) (x23_2 : Bool), v23 = .bool x23_2 ∧ Aside0 (q12q.j0 kq a0 l1 x23_2 = some (r1, r2)) ∧ Aside0 (kq ≤ k) ∧ Aside0 (Below w.heap.size w wc))
 case first =>
  have H := HC3.out
  clear HC3
  by_cases c4 : a0 < 0
  · rw [if_pos c4] at H
    have c4b0 := dT c4
    clear c4
    (first | rw [c4b0] | (simp only [i64_w, i32_w]; rw [c4b0]) | skip)
    have H' := Aside0.mk H
    clear H
    go_wp2
    go_meet
    case rel => exact ⟨_, (true), ac, H', ⟨by first | omega | exact Nat.le_refl _⟩, ⟨gB HB⟩⟩
  · rw [if_neg c4] at H
    have c4b0 := dF c4
    clear c4
    (first | rw [c4b0] | (simp only [i64_w, i32_w]; rw [c4b0]) | skip)
    have H' := Aside0.mk H
    clear H
    go_wp2
    go_meet
    case rel => exact ⟨_, (decide ((l1.length : Int) > 64)), ac, H', ⟨by first | omega | exact Nat.le_refl _⟩, ⟨gB HB⟩⟩
 case rest =>
  clear HC3; (try clear c1)
  obtain ⟨kq, x23_2, rfl, HA, HJ2, HB⟩ := hcut
  cases kq with
  | zero => exact absurd HA.out (by simp [q12q.j0])
  | succ kj2 =>
   have H := HA.out
   clear HA
   simp only [q12q.j0] at H
   by_cases c5 : x23_2 = true
   · subst c5
     replace H : (some (([] : List Int), 1)) = some (r1, r2) := by rw [if_pos rfl] at H; exact H
     simp only [Option.some.injEq, Prod.mk.injEq] at H
     obtain ⟨rfl, rfl⟩ := H
     go_wp2
     go_ret2
     exact ⟨_, by first | rfl | (simp [errW_none, errW_some] <;> rfl) | (simp [*, errW_none, errW_some] <;> rfl), by first | exact Kd.R_nil _ _ _ _ _ | exact Kd.N_nil _ _ _ _ _ | exact Kd.V_nil _ _ _ _ _ | exact Kd.Q_nil _ _ _ _ _ | exact Kd.S_nil _ _ _ _ _, gB HB⟩
   · replace c5 := Bool.eq_false_iff.mpr c5
     subst c5
     replace H : (q12q.l0 kj2 a0 l1 l1 (l1.length : Int) 0) = some (r1, r2) := by rw [if_neg (show ¬ (false = true) by decide)] at H; exact H
     have H' := Aside0.mk H
     clear H
     go_wp2
     go_loopg [26] kj2 (fun kq v26 w' => ∃ (x26_2 : Int), v26 = .int .i64 x26_2 ∧ Aside0 (q12q.l0 kq a0 l1 l1 (l1.length : Int) x26_2 = some (r1, r2)) ∧ Aside0 (kq ≤ kj2) ∧ Aside0 (Below w.heap.size w w'))
     case atStart => exact ⟨(0), ac, H', ⟨Nat.le_refl _⟩, ⟨gB HB⟩⟩
     case round =>
      clear H'; (try clear c1); (try clear c5)
      obtain ⟨x26_2, rfl, HA, HK2, HB⟩ := hrel
      cases gk with
      | zero => exact absurd HA.out (by simp [q12q.l0])
      | succ k2 =>
       have H := HA.out
       clear HA
       simp only [q12q.l0] at H
       by_cases c6 : x26_2 < (l1.length : Int)
       · rw [if_pos c6] at H
         have c6b0 := dT c6
         clear c6
         by_cases c7 : 0 ≤ x26_2
         · rw [if_pos c7] at H
           have c7b0 := dT c7
           clear c7
           by_cases c8 : x26_2 < (l1.length : Int)
           · rw [if_pos c8] at H
             have c8b0 := dT c8
             clear c8
             by_cases c9 : (rd l1 x26_2) < 0
             · rw [if_pos c9] at H
               have c9b0 := dT c9
               clear c9
               simp only [Option.some.injEq, Prod.mk.injEq] at H
               obtain ⟨rfl, rfl⟩ := H
               obtain ⟨⟨p131, q131⟩, ad131, rfl, hx131_0⟩ := za (Kd.at_int HR1.out) x26_2
               replace hx131_0 := gc HB hx131_0
               go_wp2
               go_ret2
               exact ⟨_, by first | rfl | (simp [errW_none, errW_some] <;> rfl) | (simp [*, errW_none, errW_some] <;> rfl), by first | exact Kd.R_nil _ _ _ _ _ | exact Kd.N_nil _ _ _ _ _ | exact Kd.V_nil _ _ _ _ _ | exact Kd.Q_nil _ _ _ _ _ | exact Kd.S_nil _ _ _ _ _, gB HB⟩
             · rw [if_neg c9] at H
               have c9b0 := dF c9
               clear c9
               have H' := Aside0.mk H
               clear H
               obtain ⟨⟨p131, q131⟩, ad131, rfl, hx131_0⟩ := za (Kd.at_int HR1.out) x26_2
               replace hx131_0 := gc HB hx131_0
               go_wp2
               go_roundg k2
               case measure => have := HJ2.out; have := HK2.out; omega
               case rel => exact ⟨(wrap64 (x26_2 + 1)), ac, H', ⟨by have := HJ2.out; have := HK2.out; omega⟩, ⟨gB HB⟩⟩
           · rw [if_neg c8] at H
             exact absurd H (by simp)
         · rw [if_neg c7] at H
           exact absurd H (by simp)
       · rw [if_neg c6] at H
         have c6b0 := dF c6
         clear c6
         replace H := Option.bind_eq_some_iff.mp H
         obtain ⟨⟨t132, t133⟩, A100, H⟩ := H
         replace H : (if t133 = 0 then (if t132 = 0 then (some (([] : List Int), 6)) else (if 0 ≤ (l1.length : Int) then (if ((l1.length : Int) : Int).toNat ≤ 35184372088832 then (q12q.l1 k2 a0 l1 t132 ([]) a0 l1 (l1.length : Int) 0) else (none)) else (none))) else (some (([] : List Int), t133))) = some (r1, r2) := H
         have A10 := Aside0.mk A100; clear A100
         by_cases c11 : t133 = 0
         · rw [if_pos c11] at H
           have c11b0 : (t133 == 0) = true := beq_iff_eq.mpr c11
           have c11b1 : (t133 != 0) = false := bne_eq_false_iff_eq.mpr c11
           clear c11
           by_cases c12 : t132 = 0
           · rw [if_pos c12] at H
             have c12b0 : (t132 == 0) = true := beq_iff_eq.mpr c12
             have c12b1 : (t132 != 0) = false := bne_eq_false_iff_eq.mpr c12
             clear c12
             simp only [Option.some.injEq, Prod.mk.injEq] at H
             obtain ⟨rfl, rfl⟩ := H
             go_wp2_with (first | ((with_reducible refine gate_callee (f := 22) rfl ?_); refine goesL_ (some 35) rfl rfl Try.func22 (by kernel_rfl) rfl #[.slice A1 l1.length c1] rfl am ?_; (with_reducible refine (fixnum_Sum.calls k2 _ _ l1 t132 t133 _ ?side1 ?side2 A10.out).mono ?_); (case side1 => exact gC HR1 HB); (case side2 => exact HC1.out); rintro e w' ⟨rfl, ⟨nd, rfl⟩⟩; refine ⟨_, rfl, ?_⟩))
             go_ret2
             exact ⟨_, by first | rfl | (simp [errW_none, errW_some] <;> rfl) | (simp [*, errW_none, errW_some] <;> rfl), by first | exact Kd.R_nil _ _ _ _ _ | exact Kd.N_nil _ _ _ _ _ | exact Kd.V_nil _ _ _ _ _ | exact Kd.Q_nil _ _ _ _ _ | exact Kd.S_nil _ _ _ _ _, gB HB⟩
           · rw [if_neg c12] at H
             have c12b0 : (t132 == 0) = false := beq_eq_false_iff_ne.mpr c12
             have c12b1 : (t132 != 0) = true := bne_iff_ne.mpr c12
             by_cases c13 : 0 ≤ (l1.length : Int)
             · rw [if_pos c13] at H
               have c13b0 := eq_true c13
               have c13b1 : decide (0 ≤ (l1.length : Int)) = true := decide_eq_true c13
               clear c13
               by_cases c14 : ((l1.length : Int) : Int).toNat ≤ 35184372088832
               · rw [if_pos c14] at H
                 have c14b0 := eq_true c14
                 have c14b1 : decide (((l1.length : Int) : Int).toNat ≤ 35184372088832) = true := decide_eq_true c14
                 clear c14
                 obtain ⟨y134, hy_⟩ : ∃ y_ : List Int, y_ = ([]) := ⟨_, rfl⟩
                 replace H : (q12q.l1 k2 a0 l1 t132 y134 a0 l1 (l1.length : Int) 0) = some (r1, r2) := h2
                 have Ny134 := Aside0.mk hy_; clear hy_
                 have H' := Aside0.mk H
                 clear H
                 go_wp2_with (first | ((with_reducible refine gate_callee (f := 22) rfl ?_); refine goesL_ (some 35) rfl rfl Try.func22 (by kernel_rfl) rfl #[.slice A1 l1.length c1] rfl am ?_; (with_reducible refine (fixnum_Sum.calls k2 _ _ l1 t132 t133 _ ?side1 ?side2 A10.out).mono ?_); (case side1 => exact gC HR1 HB); (case side2 => exact HC1.out); rintro e w' ⟨rfl, ⟨nd, rfl⟩⟩; refine ⟨_, rfl, ?_⟩) | ((with_reducible refine gate_dst (N := 45) rfl ?_); (try (refine gate_guard (by rfl) ?_; dsimp only)); refine XWords.R_make0 (Kd.int .i64) _ 3 rfl (N := 45) rfl 32 _ _ rfl (l1.length : Int) rfl rfl Try.underlying32 (.int .i64 0) 8 info3 (by omega) (ok := fun _ => True) trivial (od) (Nat.le_trans (Nat.mul_le_mul_right _ (od : (l1.length : Int).toNat ≤ 35184372088832)) (by omega)) (Below.refl _ _) (Nat.le_refl _) ?_; intro v135 w15 ho16 hb hg_ hnew_; clear hg_ hnew_; (first | rw [← Ny134.out] at ho16 | (simp only [Int.reduceToNat] at ho16; rw [← Ny134.out] at ho16)); have HO136 := aK (Kd.R_lower ho16 (below_size (gB HB))); replace HB := aK (below_step (gB HB) hb); clear hb ho16))
                 go_loopg [10, 11, 49] k2 (fun kq v10 v11 v49 w' => ∃ (x10_3 : List Int) (x11_3 : Int) (x49_3 : Int), v11 = .int .i64 x11_3 ∧ v49 = .int .i64 x49_3 ∧ Aside0 (q12q.l1 kq a0 l1 t132 x10_3 x11_3 l1 (l1.length : Int) x49_3 = some (r1, r2)) ∧ Aside0 (kq ≤ k2) ∧ Aside0 (Kd.R (Kd.int .i64) 3 w' w.heap.size (fun _ => True) v10 x10_3) ∧ Aside0 (Below w.heap.size w w'))
                 case atStart => exact ⟨(y134), (a0), (0), ac, ac, H', ⟨Nat.le_refl _⟩, ⟨gR HO136⟩, ⟨gB HB⟩⟩
                 case round =>
                  clear H'; (try clear c1); (try clear c5); (try clear c6); (try clear c6b0); (try clear c11); (try clear c11b0); (try clear c11b1); (try clear c12); (try clear c12b0); (try clear c12b1); (try clear c13); (try clear c13b0); (try clear c13b1); (try clear c14); (try clear c14b0); (try clear c14b1)
                  obtain ⟨x10_3, x11_3, x49_3, rfl, rfl, HA, HK3, HO_10, HB⟩ := hrel
                  cases gk with
                  | zero => exact absurd HA.out (by simp [q12q.l1])
                  | succ k3 =>
                   have H := HA.out
                   clear HA
                   simp only [q12q.l1] at H
                   by_cases c17 : x49_3 < (l1.length : Int)
                   · rw [if_pos c17] at H
                     have c17b0 := dT c17
                     clear c17
                     by_cases c18 : 0 ≤ x49_3
                     · rw [if_pos c18] at H
                       have c18b0 := dT c18
                       clear c18
                       by_cases c19 : x49_3 < (l1.length : Int)
                       · rw [if_pos c19] at H
                         have c19b0 := dT c19
                         clear c19
                         replace H := Option.bind_eq_some_iff.mp H
                         obtain ⟨⟨t138, t139⟩, A200, H⟩ := H
                         replace H : (if x10_3.length < 17592186044416 then (q12q.l1 k3 a0 l1 t132 (x10_3 ++ [t138]) (wrap64 (x11_3 - t138)) l1 (l1.length : Int) (wrap64 (x49_3 + 1))) else (none)) = some (r1, r2) := H
                         have A20 := Aside0.mk A200; clear A200
                         by_cases c21 : x10_3.length < 17592186044416
                         · rw [if_pos c21] at H
                           have LMc21 := Aside0.mk c21; clear c21
                           obtain ⟨y140, hy_⟩ : ∃ y_ : List Int, y_ = (x10_3 ++ [t138]) := ⟨_, rfl⟩
                           replace H : (q12q.l1 k3 a0 l1 t132 y140 (wrap64 (x11_3 - t138)) l1 (l1.length : Int) (wrap64 (x49_3 + 1))) = some (r1, r2) := h2
                           have Ny140 := Aside0.mk hy_; clear hy_
                           have H' := Aside0.mk H
                           clear H
                           obtain ⟨⟨p137, q137⟩, ad137, rfl, hx137_0⟩ := za (Kd.at_int HR1.out) x49_3
                           replace hx137_0 := gc HB hx137_0
                           go_wp2_with (first | ((with_reducible refine gate_callee (f := 47) rfl ?_); refine goesL_ (some 57) rfl rfl Try.func47 (by kernel_rfl) rfl #[.int .i64 a0, .int .i64 (rd l1 x49_3), .int .i64 t132, .int .i64 1] rfl am ?_; (with_reducible refine (q20q.calls k3 a0 (rd l1 x49_3) t132 1 t138 t139 _ A20.out).mono ?_); rintro e w22 ⟨rfl, hb⟩; refine ⟨_, rfl, ?_⟩; replace HO_10 := aK (Kd.R_below (gR HO_10) hb); replace HB := aK (below_step (gB HB) hb); (try clear hb); (try clear hb2); (try clear hk); (try clear hi)) | ((with_reducible refine q28q (b := .append) (xs := #[.tmp 60, .tmp 62]) rfl ?_); (try (refine gate_guard (by rfl) ?_; dsimp only)); at_builtin; refine Kd.R_append (Kd.int .i64) (w0 := w) w.heap.size rfl (.tmp 60) (.tmp 62) 32 3 (.int .i64 0) 8 rfl Try.underlying32 info3 rfl (by decide) (by omega) u10 x10_3 t138 [.int .i64 t138] (fun _ => True) (fun _ => False) rfl rfl ?aP (fun _ hk => hk.elim) ?aF ?aO ?aB ?aS ?aL ?_; (case aP => exact rfl); (case aB => exact (gB HB)); (case aF => exact (fun _ _ => trivial)); (case aO => exact (gR HO_10)); (case aS => exact (below_size (gB HB))); (case aL => have := LMc21.out; omega); intro v141 w23 ho hb hg hat; rw [← Ny140.out] at ho; replace HB := aK (hb); have HO142 := aK (ho); clear HO_10; clear ho hb hg hat))
                           go_roundg k3
                           case measure => have := HJ2.out; have := HK2.out; have := HK3.out; omega
                           case rel => exact ⟨(y140), (wrap64 (x11_3 - t138)), (wrap64 (x49_3 + 1)), ac, ac, H', ⟨by have := HJ2.out; have := HK2.out; have := HK3.out; omega⟩, ⟨gR HO142⟩, ⟨gB HB⟩⟩
                         · rw [if_neg c21] at H
                           exact absurd H (by simp)
                       · rw [if_neg c19] at H
                         exact absurd H (by simp)
                     · rw [if_neg c18] at H
                       exact absurd H (by simp)
                   · rw [if_neg c17] at H
                     have c17b0 := dF c17
                     clear c17
                     have H' := Aside0.mk H
                     clear H
                     obtain ⟨Ao24, co24, eo24⟩ := Kd.R_slice HO_10.out
                     subst eo24
                     go_wp2
                     go_loopg [11, 70] k3 (fun kq v11 v70 w' => ∃ (x10_4 : List Int) (x11_4 : Int) (x70_4 : Int), v11 = .int .i64 x11_4 ∧ v70 = .int .i64 x70_4 ∧ Aside0 (q12q.l2 kq l1 x10_4 x11_4 (x10_3.length : Int) x70_4 = some (r1, r2)) ∧ Aside0 (kq ≤ k3) ∧ Aside0 (Kd.R (Kd.int .i64) 3 w' w.heap.size (fun _ => True) (.slice Ao24 x10_3.length co24) x10_4) ∧ Aside0 (Below w.heap.size w w'))
                     case atStart => exact ⟨(x10_3), (x11_3), (0), ac, ac, H', ⟨Nat.le_refl _⟩, ⟨gR HO_10⟩, ⟨gB HB⟩⟩
                     case round =>
                      clear H'; (try clear c1); (try clear c5); (try clear c6); (try clear c6b0); (try clear c11); (try clear c11b0); (try clear c11b1); (try clear c12); (try clear c12b0); (try clear c12b1); (try clear c13); (try clear c13b0); (try clear c13b1); (try clear c14); (try clear c14b0); (try clear c14b1); (try clear c17); (try clear c17b0)
                      obtain ⟨x10_4, x11_4, x70_4, rfl, rfl, HA, HK4, HO_10, HB⟩ := hrel
                      have hl10_4 := (Kd.R_reads' HO_10.out).1
                      rw [hl10_4] at HO_10
                      (try simp only [hl10_4])
                      cases gk with
                      | zero => exact absurd HA.out (by simp [q12q.l2])
                      | succ k4 =>
                       have H := HA.out
                       clear HA
                       simp only [q12q.l2] at H
                       by_cases c25 : x70_4 < (x10_3.length : Int)
                       · rw [if_pos c25] at H
                         have c25b0 := dT c25
                         (try (have c25b0l := c25b0; simp only [hl10_4] at c25b0l))
                         clear c25
                         by_cases c26 : x11_4 > 0
                         · rw [if_pos c26] at H
                           have c26b0 : decide (0 < x11_4) = true := decide_eq_true c26
                           clear c26
                           by_cases c27 : 0 ≤ x70_4
                           · rw [if_pos c27] at H
                             have c27b0 := dT c27
                             clear c27
                             by_cases c28 : x70_4 < (l1.length : Int)
                             · rw [if_pos c28] at H
                               have c28b0 := dT c28
                               clear c28
                               by_cases c29 : (rd l1 x70_4) > 0
                               · rw [if_pos c29] at H
                                 have c29b0 : decide (0 < (rd l1 x70_4)) = true := decide_eq_true c29
                                 clear c29
                                 by_cases c30 : x70_4 < (x10_4.length : Int)
                                 · rw [if_pos c30] at H
                                   have c30b0 := dT c30
                                   clear c30
                                   obtain ⟨y145, hy_⟩ : ∃ y_ : List Int, y_ = (x10_4.set (x70_4 : Int).toNat (wrap64 ((rd x10_4 x70_4) + 1))) := ⟨_, rfl⟩
                                   replace H : (q12q.l2 k4 l1 y145 (wrap64 (x11_4 - 1)) (x10_3.length : Int) (wrap64 (x70_4 + 1))) = some (r1, r2) := h2
                                   have Ny145 := Aside0.mk hy_; clear hy_
                                   have H' := Aside0.mk H
                                   clear H
                                   obtain ⟨⟨p143, q143⟩, ad143, rfl, hx143_0⟩ := za (Kd.at_int HR1.out) x70_4
                                   replace hx143_0 := gc HB hx143_0
                                   obtain ⟨⟨p144, q144⟩, ad144, rfl, hx144_0⟩ := za (Kd.at_int (Kd.R_reads' HO_10.out).2.2) x70_4
                                   have p31 : 0 ≤ (x70_4 : Int) := od
                                   have q31 : (x70_4 : Int) < ((x10_4.length : Int) : Int) := od
                                   obtain ⟨go31, co31, eo31, gb31, gl31, cl31, HG31⟩ := Kd.R_form HO_10.out (by omega)
                                   (first | cases eo31 | (injection eo31 with ea_ en_ ec_; (first | subst ea_ | (injection ea_ with ea_; subst ea_)); subst ec_; clear en_))
                                   have GB31 := Aside0.mk gb31; have GG31 := Aside0.mk HG31; clear gb31 gl31 HG31
                                   (first | simp only [add_plain] at hx144_0 | skip)
                                   obtain ⟨hx31_0, hf31_0⟩ := Kd.R_celln 0 HO_10.out (x70_4 : Int) p31 q31
                                   replace p31 := eq_true p31; replace q31 := eq_true q31
                                   have HP32 := Kd.R_putg HO_10.out (x70_4 : Int) (wrap64 ((rd x10_4 x70_4) + 1))
                                   go_wp2_with (first | ((with_reducible refine gate_store (t := 3) (p := 87) rfl ?_); refine se (t := 3) (p := 87) (w1 := (wr.setCell ⟨go31, (x70_4 : Int).toNat, none⟩ (.int .i64 (wrap64 ((rd x10_4 x70_4) + 1))))) ?_; intro w33 hw; have hg : wr.grownBy w33 (some go31) := (by rw [hw]; exact HP32.2); have hp_ : Kd.R (Kd.int .i64) 3 w33 w.heap.size (fun _ => True) (.slice (some ⟨go31, 0, none⟩) x10_4.length co24) y145 := (by rw [hw, Ny145.out]; exact HP32.1); clear HP32; replace HO_10 := aK (hp_); replace HB := aK ((by rw [hw]; exact below_set (HB.out) GB31.out : Below w.heap.size w w33)); clear hg hw hp_))
                                   (try simp only [← hl10_4])
                                   go_roundg k4
                                   case measure => have := HJ2.out; have := HK2.out; have := HK3.out; have := HK4.out; omega
                                   case rel => exact ⟨(y145), (wrap64 (x11_4 - 1)), (wrap64 (x70_4 + 1)), ac, ac, H', ⟨by have := HJ2.out; have := HK2.out; have := HK3.out; have := HK4.out; omega⟩, ⟨by (try simp only [hl10_4]); (with_reducible repeat (first | apply Kd.R_alloc | apply Kd.R_drewN | apply Kd.R_drew)); exact HO_10.out⟩, ⟨gB HB⟩⟩
                                 · rw [if_neg c30] at H
                                   exact absurd H (by simp)
                               · rw [if_neg c29] at H
                                 have c29b0 : decide (0 < (rd l1 x70_4)) = false := decide_eq_false c29
                                 clear c29
                                 have H' := Aside0.mk H
                                 clear H
                                 obtain ⟨⟨p143, q143⟩, ad143, rfl, hx143_0⟩ := za (Kd.at_int HR1.out) x70_4
                                 replace hx143_0 := gc HB hx143_0
                                 go_wp2
                                 (try simp only [← hl10_4])
                                 go_roundg k4
                                 case measure => have := HJ2.out; have := HK2.out; have := HK3.out; have := HK4.out; omega
                                 case rel => exact ⟨(x10_4), (x11_4), (wrap64 (x70_4 + 1)), ac, ac, H', ⟨by have := HJ2.out; have := HK2.out; have := HK3.out; have := HK4.out; omega⟩, ⟨by (try simp only [hl10_4]); (with_reducible repeat (first | apply Kd.R_alloc | apply Kd.R_drewN | apply Kd.R_drew)); exact HO_10.out⟩, ⟨gB HB⟩⟩
                             · rw [if_neg c28] at H
                               exact absurd H (by simp)
                           · rw [if_neg c27] at H
                             exact absurd H (by simp)
                         · rw [if_neg c26] at H
                           have c26b0 : decide (0 < x11_4) = false := decide_eq_false c26
                           clear c26
                           have H' := Aside0.mk H
                           clear H
                           go_wp2
                           (try simp only [← hl10_4])
                           go_roundg k4
                           case measure => have := HJ2.out; have := HK2.out; have := HK3.out; have := HK4.out; omega
                           case rel => exact ⟨(x10_4), (x11_4), (wrap64 (x70_4 + 1)), ac, ac, H', ⟨by have := HJ2.out; have := HK2.out; have := HK3.out; have := HK4.out; omega⟩, ⟨by (try simp only [hl10_4]); (with_reducible repeat (first | apply Kd.R_alloc | apply Kd.R_drewN | apply Kd.R_drew)); exact HO_10.out⟩, ⟨gB HB⟩⟩
                       · rw [if_neg c25] at H
                         have c25b0 := dF c25
                         (try (have c25b0l := c25b0; simp only [hl10_4] at c25b0l))
                         clear c25
                         simp only [Option.some.injEq, Prod.mk.injEq] at H
                         obtain ⟨rfl, rfl⟩ := H
                         go_wp2
                         go_ret2
                         exact ⟨_, by first | rfl | (simp [errW_none, errW_some] <;> rfl) | (simp [*, errW_none, errW_some] <;> rfl), gR HO_10, gB HB⟩
               · rw [if_neg c14] at H
                 exact absurd H (by simp)
             · rw [if_neg c13] at H
               exact absurd H (by simp)
         · rw [if_neg c11] at H
           have c11b0 : (t133 == 0) = false := beq_eq_false_iff_ne.mpr c11
           have c11b1 : (t133 != 0) = true := bne_iff_ne.mpr c11
           simp only [Option.some.injEq, Prod.mk.injEq] at H
           obtain ⟨rfl, rfl⟩ := H
           go_wp2_with (first | ((with_reducible refine gate_callee (f := 22) rfl ?_); refine goesL_ (some 35) rfl rfl Try.func22 (by kernel_rfl) rfl #[.slice A1 l1.length c1] rfl am ?_; (with_reducible refine (fixnum_Sum.calls k2 _ _ l1 t132 t133 _ ?side1 ?side2 A10.out).mono ?_); (case side1 => exact gC HR1 HB); (case side2 => exact HC1.out); rintro e w' ⟨rfl, ⟨nd, rfl⟩⟩; refine ⟨_, rfl, ?_⟩))
           go_ret2
           exact ⟨_, by first | rfl | (simp [errW_none, errW_some] <;> rfl) | (simp [*, errW_none, errW_some] <;> rfl), by first | exact Kd.R_nil _ _ _ _ _ | exact Kd.N_nil _ _ _ _ _ | exact Kd.V_nil _ _ _ _ _ | exact Kd.Q_nil _ _ _ _ _ | exact Kd.S_nil _ _ _ _ _, gB HB⟩
end Go.Proofs.Ytlbhjkbjokiioaa.X
