-- a shortened text: what this claim does not name is left out (wip/xprint/prune.py of this repo)
import Derived.Test.YtlbhjkbjokiioaaXMin
import Derived.Test.YtlbhjkbjokiioaaX0
import Derived.Test.YtlbhjkbjokiioaaX6
namespace Go.Proofs.Ytlbhjkbjokiioaa.X
open Go.RowKit Go.Proofs.YtlbhjkbjokiioaaW.PrintWords Go.Proofs.YtlbhjkbjokiioaaW.PrintLast Go.Proofs.YtlbhjkbjokiioaaW.PrintMore
attribute [local go_sem] max2_int min2_int max_two min_two max_three min_three max_four min_four
set_option linter.unusedVariables false
set_option linter.unusedSimpArgs false
mutual
def q1q.l0 : Nat → List (S79) → Int → Int → Int → Option ((List (S79)))
 | 0, _, _, _, _ => none
 | k + 1, x0, x1, x2, x8 => if x8 < x2 then (q1q.l1 k x0 x1 x2 x8 x8) else (some x0)
def q1q.l1 : Nat → List (S79) → Int → Int → Int → Int → Option ((List (S79)))
 | 0, _, _, _, _, _ => none
 | k + 1, x0, x1, x2, x8, x9 => if x9 > x1 then (if 0 ≤ x9 then (if x9 < (x0.length : Int) then (if 0 ≤ (wrap64 (x9 - 1)) then (if (wrap64 (x9 - 1)) < (x0.length : Int) then ((q21q.f ((rd_T79 x0 x9).f0) ((rd_T79 x0 x9).f1) ((rd_T79 x0 x9).f2) ((rd_T79 x0 x9).f3) ((rd_T79 x0 (wrap64 (x9 - 1))).f0) ((rd_T79 x0 (wrap64 (x9 - 1))).f1) ((rd_T79 x0 (wrap64 (x9 - 1))).f2) ((rd_T79 x0 (wrap64 (x9 - 1))).f3)).bind fun t224 => (if t224 < 0 then (q1q.l1 k ((x0.set (x9 : Int).toNat (⟨(rd_T79 x0 (wrap64 (x9 - 1))).f0, (rd_T79 x0 (wrap64 (x9 - 1))).f1, (rd_T79 x0 (wrap64 (x9 - 1))).f2, (rd_T79 x0 (wrap64 (x9 - 1))).f3⟩ : S79)).set ((wrap64 (x9 - 1)) : Int).toNat (⟨(rd_T79 x0 x9).f0, (rd_T79 x0 x9).f1, (rd_T79 x0 x9).f2, (rd_T79 x0 x9).f3⟩ : S79)) x1 x2 x8 (wrap64 (x9 - 1))) else (q1q.l0 k x0 x1 x2 (wrap64 (x8 + 1))))) else (none)) else (none)) else (none)) else (none)) else (q1q.l0 k x0 x1 x2 (wrap64 (x8 + 1)))
end
def q1q.f (k : Nat) (l0 : List (S79)) (a1 : Int) (a2 : Int)  : Option ((List (S79))) := q1q.l0 k l0 a1 a2 (wrap64 (a1 + 1))
theorem q1q.mono_l : ∀ k, (∀ y0 y1 y2 y3, LeO (q1q.l0 k y0 y1 y2 y3) (q1q.l0 (k + 1) y0 y1 y2 y3)) ∧ (∀ y0 y1 y2 y3 y4, LeO (q1q.l1 k y0 y1 y2 y3 y4) (q1q.l1 (k + 1) y0 y1 y2 y3 y4))
 | 0 => ⟨fun _ _ _ _ r h => by simp [q1q.l0] at h, fun _ _ _ _ _ r h => by simp [q1q.l1] at h⟩
 | k + 1 => by
  obtain ⟨ih0, ih1⟩ := q1q.mono_l k
  refine ⟨?_, ?_⟩
  intro y0 y1 y2 y3; unfold q1q.l0; rotate_left
  intro y0 y1 y2 y3 y4; unfold q1q.l1; rotate_left
  all_goals repeat' first
  | (with_reducible exact ih0 _ _ _ _)
  | (with_reducible exact ih1 _ _ _ _ _)
  | (with_reducible exact LeO.refl _)
  | (with_reducible exact LeO.none _)
  | (with_reducible refine LeO.ite ?_ ?_)
  | (with_reducible refine LeO.bind ?_ (fun _ => ?_))
  | exact ih0 _ _ _ _
  | exact ih1 _ _ _ _ _
  | exact LeO.none _
  | refine LeO.ite ?_ ?_
  | refine LeO.bind ?_ (fun _ => ?_)
theorem q1q.mono : ∀ a0 a1 a2 k, LeO (q1q.f k a0 a1 a2) (q1q.f (k + 1) a0 a1 a2) := by
 intro a0 a1 a2 k
 obtain ⟨ih0, ih1⟩ := q1q.mono_l k
 unfold q1q.f
 repeat' first
  | (with_reducible exact ih0 _ _ _ _)
  | (with_reducible exact ih1 _ _ _ _ _)
  | (with_reducible exact LeO.refl _)
  | (with_reducible exact LeO.none _)
  | (with_reducible refine LeO.ite ?_ ?_)
  | (with_reducible refine LeO.bind ?_ (fun _ => ?_))
  | exact ih0 _ _ _ _
  | exact ih1 _ _ _ _ _
  | exact LeO.none _
  | refine LeO.ite ?_ ?_
  | refine LeO.bind ?_ (fun _ => ?_)
def q1q.T4 : Bool × List (List Nat × List Nat) := (true, [([], []), ([], []), ([0, 1], [0, 1]), ([2], [2]), ([3], [3]), ([3], [3]), ([3], [3]), ([5, 6, 3], [3, 5, 6]), ([7, 3], [3, 7]), ([3], [3]), ([3], [3]), ([10, 3], [3, 10]), ([9, 11, 3], [3, 9, 11]), ([12, 3], [3, 12]), ([4, 8, 13, 3, 3], [3, 4, 8, 13]), ([14, 3], [3, 14]), ([3, 15], [3, 15])])
def q1q.B4 : List Nat := [0, 0, 3, 7, 15, 15, 15, 111, 239, 15, 15, 1039, 3599, 7695, 16383, 32767, 65535]
theorem q1q.tab4 : rtab .any (opsOf Try.f58 4) = q1q.T4 := by kernel_rfl
theorem q1q.bits4 : waitsOk q1q.T4.2 q1q.B4 = true := by kernel_rfl
def q1q.T6 : Bool × List (List Nat × List Nat) := (true, [([], []), ([], []), ([], []), ([], []), ([3], [3]), ([], []), ([], []), ([6], [6]), ([5, 7], [5, 7]), ([8], [8]), ([], []), ([], []), ([10, 11], [10, 11]), ([12], [12]), ([0, 1, 0, 1, 5, 6, 7, 8, 9, 13], [0, 1]), ([14, 9, 0, 1, 5, 6, 7, 8, 9, 13], [9, 14]), ([2, 4, 0, 1, 2, 3, 4, 5, 6, 7, 8, 9, 10, 11, 12, 13, 14, 15], [2, 4]), ([16, 13, 15, 0, 1, 2, 3, 4, 5, 6, 7, 8, 9, 10, 11, 12, 13, 14, 15], [13, 16])])
def q1q.B6 : List Nat := [0, 0, 0, 0, 8, 0, 0, 64, 224, 480, 0, 0, 3072, 7168, 16355, 32739, 65535, 131071]
theorem q1q.tab6 : rtab .any (opsOf Try.f58 6) = q1q.T6 := by kernel_rfl
theorem q1q.bits6 : waitsOk q1q.T6.2 q1q.B6 = true := by kernel_rfl
set_option maxHeartbeats 8000000 in
set_option maxRecDepth 100000 in
theorem q1q.calls (k : Nat) (P0_ : Nat → Prop) (u9000_ : Value) (l0 : List (S79)) (a1 : Int) (a2 : Int)  (r : List (S79)) (w0 w : World) (hB : Below w0.heap.size w0 w) (ho0 : Kd.R k79 79 w w0.heap.size P0_ u9000_ l0) (h : q1q.f k l0 a1 a2 = some r) :
 Calls Try.prog 58 #[u9000_, .int .i64 a1, .int .i64 a2, .func (.func 33) #[] #[]] w fun e w' => e = .returned (.tuple #[]) ∧ Kd.R k79 79 w' w0.heap.size (fun k_ => (P0_ k_ ∨ w.heap.size ≤ k_)) u9000_ r ∧ Below w0.heap.size w0 w' ∧ Kept w w' (fun k_ => P0_ k_) := by
 have hu79 := Try.underlying79
 have HO0 := aK (show Kd.R k79 79 w w0.heap.size (fun k_ => (P0_ k_ ∨ w.heap.size ≤ k_)) u9000_ l0 from Kd.R_mono ho0 (fun k_ hk => (.inl hk)))
 have HK := aK (Kept.refl w (fun k_ => P0_ k_))
 have HW0 := Aside0.mk hB.size
 have HB := Aside0.mk hB; clear hB
 have H : (q1q.l0 k l0 a1 a2 (wrap64 (a1 + 1))) = some r := h
 clear h
 have H' := Aside0.mk H
 clear H
 go_enter Try.func58, Try.ntmps58
 go_wp2
 go_loopg [8] k (fun kq v8 w' => ∃ (x0_1 : List (S79)) (x8_1 : Int), v8 = .int .i64 x8_1 ∧ Aside0 (q1q.l0 kq x0_1 a1 a2 x8_1 = some r) ∧ Aside0 (kq ≤ k) ∧ Aside0 (Kd.R k79 79 w' w0.heap.size (fun k_ => (P0_ k_ ∨ w.heap.size ≤ k_)) u9000_ x0_1) ∧ Aside0 (Kept w w' (fun k_ => P0_ k_)) ∧ Aside0 (Below w0.heap.size w0 w'))
 case atStart => exact ⟨(l0), (wrap64 (a1 + 1)), ac, H', ⟨Nat.le_refl _⟩, ⟨gR HO0⟩, ⟨gP HK⟩, ⟨gB HB⟩⟩
 case round =>
  clear H'
  obtain ⟨x0_1, x8_1, rfl, HA, HK1, HO_0, HK, HB⟩ := hrel
  cases gk with
  | zero => exact absurd HA.out (by simp [q1q.l0])
  | succ k1 =>
   have H := HA.out
   clear HA
   simp only [q1q.l0] at H
   by_cases c5 : x8_1 < a2
   · rw [if_pos c5] at H
     have c5b0 := dT c5
     clear c5
     have H' := Aside0.mk H
     clear H
     go_wp2
     go_loopg [9] k1 (fun kq v9 w' => ∃ (x0_2 : List (S79)) (x9_2 : Int), v9 = .int .i64 x9_2 ∧ Aside0 (q1q.l1 kq x0_2 a1 a2 x8_1 x9_2 = some r) ∧ Aside0 (kq ≤ k1) ∧ Aside0 (Kd.R k79 79 w' w0.heap.size (fun k_ => (P0_ k_ ∨ w.heap.size ≤ k_)) u9000_ x0_2) ∧ Aside0 (Kept w w' (fun k_ => P0_ k_)) ∧ Aside0 (Below w0.heap.size w0 w'))
     case atStart => exact ⟨(x0_1), (x8_1), ac, H', ⟨Nat.le_refl _⟩, ⟨gR HO_0⟩, ⟨gP HK⟩, ⟨gB HB⟩⟩
     case round =>
      clear H'; (try clear c5); (try clear c5b0)
      obtain ⟨x0_2, x9_2, rfl, HA, HK2, HO_0, HK, HB⟩ := hrel
      cases gk with
      | zero => exact absurd HA.out (by simp [q1q.l1])
      | succ k2 =>
       have H := HA.out
       clear HA
       simp only [q1q.l1] at H
       by_cases c6 : x9_2 > a1
       · rw [if_pos c6] at H
         have c6b0 : decide (a1 < x9_2) = true := decide_eq_true c6
         clear c6
         by_cases c7 : 0 ≤ x9_2
         · rw [if_pos c7] at H
           have c7b0 := dT c7
           clear c7
           by_cases c8 : x9_2 < (x0_2.length : Int)
           · rw [if_pos c8] at H
             have c8b0 := dT c8
             clear c8
             obtain ⟨ji9, hji9⟩ : ∃ j_ : Int, (wrap64 (x9_2 - 1)) = j_ := ⟨_, rfl⟩
             replace H : (if 0 ≤ (ji9) then (if (ji9) < (x0_2.length : Int) then ((q21q.f ((rd_T79 x0_2 x9_2).f0) ((rd_T79 x0_2 x9_2).f1) ((rd_T79 x0_2 x9_2).f2) ((rd_T79 x0_2 x9_2).f3) ((rd_T79 x0_2 (ji9)).f0) ((rd_T79 x0_2 (ji9)).f1) ((rd_T79 x0_2 (ji9)).f2) ((rd_T79 x0_2 (ji9)).f3)).bind fun t224 => (if t224 < 0 then (q1q.l1 k2 ((x0_2.set (x9_2 : Int).toNat (⟨(rd_T79 x0_2 (ji9)).f0, (rd_T79 x0_2 (ji9)).f1, (rd_T79 x0_2 (ji9)).f2, (rd_T79 x0_2 (ji9)).f3⟩ : S79)).set ((ji9) : Int).toNat (⟨(rd_T79 x0_2 x9_2).f0, (rd_T79 x0_2 x9_2).f1, (rd_T79 x0_2 x9_2).f2, (rd_T79 x0_2 x9_2).f3⟩ : S79)) a1 a2 x8_1 ji9) else (q1q.l0 k2 x0_2 a1 a2 (wrap64 (x8_1 + 1))))) else (none)) else (none)) = some r := by first | (rw [hji9] at H; exact H) | (simp only [hji9] at H ⊢; exact H)
             have hji9w : (IntKind.i64.wrap (x9_2 - 1)) = ji9 := (i64_w _).trans hji9
             by_cases c10 : 0 ≤ (ji9)
             · rw [if_pos c10] at H
               have c10b0 := dT c10
               clear c10
               by_cases c11 : (ji9) < (x0_2.length : Int)
               · rw [if_pos c11] at H
                 have c11b0 := dT c11
                 clear c11
                 replace H := Option.bind_eq_some_iff.mp H
                 obtain ⟨t224, A120, H⟩ := H
                 replace H : (if t224 < 0 then (q1q.l1 k2 ((x0_2.set (x9_2 : Int).toNat (⟨(rd_T79 x0_2 (ji9)).f0, (rd_T79 x0_2 (ji9)).f1, (rd_T79 x0_2 (ji9)).f2, (rd_T79 x0_2 (ji9)).f3⟩ : S79)).set ((ji9) : Int).toNat (⟨(rd_T79 x0_2 x9_2).f0, (rd_T79 x0_2 x9_2).f1, (rd_T79 x0_2 x9_2).f2, (rd_T79 x0_2 x9_2).f3⟩ : S79)) a1 a2 x8_1 ji9) else (q1q.l0 k2 x0_2 a1 a2 (wrap64 (x8_1 + 1)))) = some r := H
                 have A12 := Aside0.mk A120; clear A120
                 by_cases c13 : t224 < 0
                 · rw [if_pos c13] at H
                   have c13b0 := dT c13
                   clear c13
                   obtain ⟨y227, hy_⟩ : ∃ y_ : List (S79), y_ = (x0_2.set (x9_2 : Int).toNat (⟨(rd_T79 x0_2 (ji9)).f0, (rd_T79 x0_2 (ji9)).f1, (rd_T79 x0_2 (ji9)).f2, (rd_T79 x0_2 (ji9)).f3⟩ : S79)) := ⟨_, rfl⟩
                   replace H : (q1q.l1 k2 (y227.set ((ji9) : Int).toNat (⟨(rd_T79 x0_2 x9_2).f0, (rd_T79 x0_2 x9_2).f1, (rd_T79 x0_2 x9_2).f2, (rd_T79 x0_2 x9_2).f3⟩ : S79)) a1 a2 x8_1 ji9) = some r := h2
                   have Ny227 := Aside0.mk hy_; clear hy_
                   obtain ⟨y228, hy_⟩ : ∃ y_ : List (S79), y_ = (y227.set ((ji9) : Int).toNat (⟨(rd_T79 x0_2 x9_2).f0, (rd_T79 x0_2 x9_2).f1, (rd_T79 x0_2 x9_2).f2, (rd_T79 x0_2 x9_2).f3⟩ : S79)) := ⟨_, rfl⟩
                   replace H : (q1q.l1 k2 y228 a1 a2 x8_1 ji9) = some r := h2
                   have Ny228 := Aside0.mk hy_; clear hy_
                   have H' := Aside0.mk H
                   clear H
                   try go_wp2
                   have n0_ := aK (Kd.R_drew HO_0.out)
                   have n1_ := aK (Kept.drew HK.out)
                   have n2_ := aK (below_drew1 HB.out)
                   clear HO_0; clear HK; clear HB
                   have HO_0 := n0_
                   have HK := n1_
                   have HB := n2_
                   clear n0_ n1_ n2_
                   obtain ⟨Ao17, co17, eo17⟩ := Kd.R_slice HO_0.out
                   (first | subst eo17 | (injection eo17 with f1_ f2_ f3_; have f4_ := f1_.symm; have f5_ := f3_.symm; clear f1_ f2_ f3_; subst f4_; subst f5_))
                   obtain ⟨⟨p222, q222⟩, ad222, rfl, hx222_0, hx222_1, hx222_2, hx222_3⟩ := za (at_T79 (Kd.R_reads' HO_0.out).2.2) x9_2
                   obtain ⟨⟨p223, q223⟩, ad223, e223, hx223_0, hx223_1, hx223_2, hx223_3⟩ := za (at_T79 (Kd.R_reads' HO_0.out).2.2) (ji9)
                   obtain rfl : ad222 = ad223 := (by injection e223)
                   refine start_ (n := 17) (S := fun w' => w'.cell? (ad222.add ((x9_2).toNat * 4)) = some (.int .i64 ((rd_T79 x0_2 x9_2).f0)) ∧ w'.cell? ⟨(ad222.add ((x9_2).toNat * 4)).block, (ad222.add ((x9_2).toNat * 4)).off + 1, none⟩ = some (.string ((rd_T79 x0_2 x9_2).f1)) ∧ w'.cell? ⟨(ad222.add ((x9_2).toNat * 4)).block, (ad222.add ((x9_2).toNat * 4)).off + 2, none⟩ = some (.int .i64 ((rd_T79 x0_2 x9_2).f2)) ∧ w'.cell? ⟨(ad222.add ((x9_2).toNat * 4)).block, (ad222.add ((x9_2).toNat * 4)).off + 3, none⟩ = some (.int .i64 ((rd_T79 x0_2 x9_2).f3)) ∧ w'.cell? (ad222.add (((ji9)).toNat * 4)) = some (.int .i64 ((rd_T79 x0_2 (ji9)).f0)) ∧ w'.cell? ⟨(ad222.add (((ji9)).toNat * 4)).block, (ad222.add (((ji9)).toNat * 4)).off + 1, none⟩ = some (.string ((rd_T79 x0_2 (ji9)).f1)) ∧ w'.cell? ⟨(ad222.add (((ji9)).toNat * 4)).block, (ad222.add (((ji9)).toNat * 4)).off + 2, none⟩ = some (.int .i64 ((rd_T79 x0_2 (ji9)).f2)) ∧ w'.cell? ⟨(ad222.add (((ji9)).toNat * 4)).block, (ad222.add (((ji9)).toNat * 4)).off + 3, none⟩ = some (.int .i64 ((rd_T79 x0_2 (ji9)).f3))) (ds := []) (pf 17 0) (by kernel_rfl) rfl rfl ⟨hx222_0, hx222_1, hx222_2, hx222_3, hx223_0, hx223_1, hx223_2, hx223_3⟩ (fun hHeld => ?_); refine with_tabW q1q.tab4 q1q.bits4 (fun HT_ HW_ => ?_)
                   generalize wr.drew = w16 at HO_0 HK HB hx222_0 hx222_1 hx222_2 hx222_3 hx223_0 hx223_1 hx223_2 hx223_3 hHeld ⊢
                   refine pA (i := 0) (N := some 18) HT_ (pf 17 1) ?_
                   refine pA (i := 1) (N := some 19) HT_ (pf 17 2) ?_
                   refine pA (i := 2) (N := some 20) HT_ (pf 17 3) ?_
                   refine pA (i := 3) (N := some 21) HT_ (pf 17 4) ?_
                   refine pA (i := 4) (N := some 22) HT_ (pf 17 5) ?_
                   refine pA (i := 5) (N := some 23) HT_ (pf 17 6) ?_
                   refine pA (i := 6) (N := some 24) HT_ (pf 17 7) ?_
                   refine pA (i := 7) (N := some 25) HT_ (pf 17 8) ?_
                   refine pA (i := 9) (N := some 27) HT_ (ba 17 767) ?_
                   refine pA (i := 10) (N := some 28) HT_ (ba 17 1791) ?_
                   refine pA (i := 11) (N := some 29) HT_ (ba 17 3839) ?_
                   refine pA (i := 12) (N := some 30) HT_ (ba 17 7935) ?_
                   refine take_ (i := 8) (N := some 26) (v := ?_) (a' := ?_) (pf 17 13) rfl rfl (take_ofW HT_.out HW_.out (by kernel_rfl)) (fun _ _ _ h => h) (Or.inl ⟨by rfl, ?_⟩) hHeld ?_ ?_
                   rotate_left
                   · rintro w' ⟨s0, s1, s2, s3, s4, s5, s6, s7⟩
                     go_simp
                     with_reducible rfl
                   rotate_left
                   · simp only [Act.put, sA, sB, sC, i64_w, i32_w]
                     rfl
                   refine take_ (i := 13) (N := some 31) (v := ?_) (a' := ?_) (pf 17 14) rfl rfl (take_ofW HT_.out HW_.out (by kernel_rfl)) (fun _ _ _ h => h) (Or.inl ⟨by rfl, ?_⟩) hHeld ?_ ?_
                   rotate_left
                   · rintro w' ⟨s0, s1, s2, s3, s4, s5, s6, s7⟩
                     go_simp
                     with_reducible rfl
                   rotate_left
                   · simp only [Act.put, sA, sB, sC, i64_w, i32_w]
                     rfl
                   refine one_ (i := 14) (N := some 32) (pf 17 15) rfl rfl (one_of HT_.out (by kernel_rfl)) (by decide) (fun K hK => ?_)
                   refine goesV_ (by rfl) Try.func33 (by kernel_rfl) rfl #[.agg #[.int .i64 ((rd_T79 x0_2 x9_2).f0), .string ((rd_T79 x0_2 x9_2).f1), .int .i64 ((rd_T79 x0_2 x9_2).f2), .int .i64 ((rd_T79 x0_2 x9_2).f3)], .agg #[.int .i64 ((rd_T79 x0_2 (ji9)).f0), .string ((rd_T79 x0_2 (ji9)).f1), .int .i64 ((rd_T79 x0_2 (ji9)).f2), .int .i64 ((rd_T79 x0_2 (ji9)).f3)]] (by rfl) rfl rfl (by (try simp only [List.map_toArray, List.map_cons, List.map_nil]); first | done | (simp only [hji9]; rfl) | rfl | (simp only [List.length_drop, List.length_take]; rfl)) ?_
                   with_reducible refine (q21q.calls ((rd_T79 x0_2 x9_2).f0) ((rd_T79 x0_2 x9_2).f1) ((rd_T79 x0_2 x9_2).f2) ((rd_T79 x0_2 x9_2).f3) ((rd_T79 x0_2 (ji9)).f0) ((rd_T79 x0_2 (ji9)).f1) ((rd_T79 x0_2 (ji9)).f2) ((rd_T79 x0_2 (ji9)).f3) t224 _ A12.out).mono ?_
                   rintro e w18 ⟨rfl, hb⟩
                   have HS0_ := (hb.cell (World.block_lt_of_cell? _ _ (hHeld.1))).trans (hHeld.1)
                   have HS1_ := (hb.cell (World.block_lt_of_cell? _ _ (hHeld.2.1))).trans (hHeld.2.1)
                   have HS2_ := (hb.cell (World.block_lt_of_cell? _ _ (hHeld.2.2.1))).trans (hHeld.2.2.1)
                   have HS3_ := (hb.cell (World.block_lt_of_cell? _ _ (hHeld.2.2.2.1))).trans (hHeld.2.2.2.1)
                   have HS4_ := (hb.cell (World.block_lt_of_cell? _ _ (hHeld.2.2.2.2.1))).trans (hHeld.2.2.2.2.1)
                   have HS5_ := (hb.cell (World.block_lt_of_cell? _ _ (hHeld.2.2.2.2.2.1))).trans (hHeld.2.2.2.2.2.1)
                   have HS6_ := (hb.cell (World.block_lt_of_cell? _ _ (hHeld.2.2.2.2.2.2.1))).trans (hHeld.2.2.2.2.2.2.1)
                   have HS7_ := (hb.cell (World.block_lt_of_cell? _ _ (hHeld.2.2.2.2.2.2.2))).trans (hHeld.2.2.2.2.2.2.2)
                   refine ⟨_, rfl, ?_⟩
                   have n0_ := aK (Kd.R_below (gR HO_0) hb)
                   have n1_ := aK (Kept.below (S := (fun k_ => P0_ k_)) (gP HK) hb)
                   have n2_ := aK (below_step (gB HB) hb)
                   clear HO_0; clear HK; clear HB
                   have HO_0 := n0_
                   have HK := n1_
                   have HB := n2_
                   clear n0_ n1_ n2_
                   try clear hb
                   try clear hb2
                   try clear hk
                   try clear hi
                   refine hK.out _ _ ⟨HS0_, HS1_, HS2_, HS3_, HS4_, HS5_, HS6_, HS7_⟩ (fun hHeld => ?_)
                   clear hK K
                   refine norm_ (a' := ?_) ?_ ?_
                   rotate_left
                   · show Act.put _ (some 32) _ = _
                     simp only [Act.put, sA, sB, sC, i64_w, i32_w]
                     rfl
                   refine pA (i := 15) (N := some 33) HT_ (pf 17 16) ?_
                   refine pA (i := 16) (N := some 34) HT_ (pf 17 17) ?_
                   refine done_ (done_of HT_.out (by kernel_rfl)) ?_
                   try go_wp2
                   have n0_ := aK (Kd.R_drew HO_0.out)
                   have n1_ := aK (Kept.drew HK.out)
                   have n2_ := aK (below_drew1 HB.out)
                   clear HO_0; clear HK; clear HB
                   have HO_0 := n0_
                   have HK := n1_
                   have HB := n2_
                   clear n0_ n1_ n2_
                   obtain ⟨⟨p225, q225⟩, ad225, e225, hx225_0, hx225_1, hx225_2, hx225_3⟩ := za (at_T79 (Kd.R_reads' HO_0.out).2.2) (ji9)
                   obtain rfl : ad222 = ad225 := (by injection e225)
                   obtain ⟨⟨p226, q226⟩, ad226, e226, hx226_0, hx226_1, hx226_2, hx226_3⟩ := za (at_T79 (Kd.R_reads' HO_0.out).2.2) x9_2
                   obtain rfl : ad222 = ad226 := (by injection e226)
                   have p14 : 0 ≤ (x9_2 : Int) := od
                   have q14 : (x9_2 : Int) < ((x0_2.length : Int) : Int) := od
                   obtain ⟨go14, co14, eo14, gb14, gl14, cl14, HG14⟩ := Kd.R_form HO_0.out (by omega)
                   (first | cases eo14 | (injection eo14 with ea_ en_ ec_; (first | subst ea_ | (injection ea_ with ea_; subst ea_)); subst ec_; clear en_))
                   have GB14 := Aside0.mk gb14; have GG14 := Aside0.mk HG14; clear gb14 gl14 HG14
                   have HMgo14 := aK (show (P0_ go14 ∨ w.heap.size ≤ go14) from (HO_0.out.1 _ rfl))
                   (first | simp only [add_plain] at hx222_0 | skip)
                   (first | simp only [add_plain] at hx222_1 | skip)
                   (first | simp only [add_plain] at hx222_2 | skip)
                   (first | simp only [add_plain] at hx222_3 | skip)
                   (first | simp only [add_plain] at hx223_0 | skip)
                   (first | simp only [add_plain] at hx223_1 | skip)
                   (first | simp only [add_plain] at hx223_2 | skip)
                   (first | simp only [add_plain] at hx223_3 | skip)
                   (first | simp only [add_plain] at hx225_0 | skip)
                   (first | simp only [add_plain] at hx225_1 | skip)
                   (first | simp only [add_plain] at hx225_2 | skip)
                   (first | simp only [add_plain] at hx225_3 | skip)
                   (first | simp only [add_plain] at hx226_0 | skip)
                   (first | simp only [add_plain] at hx226_1 | skip)
                   (first | simp only [add_plain] at hx226_2 | skip)
                   (first | simp only [add_plain] at hx226_3 | skip)
                   obtain ⟨ce14, hcl14, hM14, hcc14, hfr14⟩ := Kd.R_elem HO_0.out z79 (x9_2 : Int) p14 q14
                   obtain rfl := k79_openM hM14
                   have hx14_0 : World.cell? _ ⟨go14, (x9_2 : Int).toNat * 4, none⟩ = some (.int .i64 ((rd_T79 x0_2 x9_2).f0)) := hcc14 0 _ rfl
                   have hx14_1 : World.cell? _ ⟨go14, (x9_2 : Int).toNat * 4 + 1, none⟩ = some (.string ((rd_T79 x0_2 x9_2).f1)) := hcc14 1 _ rfl
                   have hx14_2 : World.cell? _ ⟨go14, (x9_2 : Int).toNat * 4 + 2, none⟩ = some (.int .i64 ((rd_T79 x0_2 x9_2).f2)) := hcc14 2 _ rfl
                   have hx14_3 : World.cell? _ ⟨go14, (x9_2 : Int).toNat * 4 + 3, none⟩ = some (.int .i64 ((rd_T79 x0_2 x9_2).f3)) := hcc14 3 _ rfl
                   have hf14_0 : World.frozen? _ ⟨go14, (x9_2 : Int).toNat * 4, none⟩ = false := hfr14 0
                   have hf14_1 : World.frozen? _ ⟨go14, (x9_2 : Int).toNat * 4 + 1, none⟩ = false := hfr14 1
                   have hf14_2 : World.frozen? _ ⟨go14, (x9_2 : Int).toNat * 4 + 2, none⟩ = false := hfr14 2
                   have hf14_3 : World.frozen? _ ⟨go14, (x9_2 : Int).toNat * 4 + 3, none⟩ = false := hfr14 3
                   clear hcl14 hcc14 hfr14 hM14; replace p14 := eq_true p14; replace q14 := eq_true q14
                   obtain ⟨ce20, hcl20, hM20, hcc20, hfr20⟩ := Kd.R_elem HO_0.out z79 (x9_2 : Int) (od) (by have h_ : (x9_2 : Int) < ((x0_2.length : Int) : Int) := od; first | exact h_ | (have e_ := (Kd.R_reads' HO_0.out).1; omega) | simpa using h_)
                   obtain rfl := k79_openM hM20
                   have HP20 := (Kd.R_seg HO_0.out (x9_2 : Int) (od) (by have h_ : (x9_2 : Int) < ((x0_2.length : Int) : Int) := od; first | exact h_ | (have e_ := (Kd.R_reads' HO_0.out).1; omega) | simpa using h_) (seg := [.int .i64 ((rd_T79 x0_2 (ji9)).f0), .string ((rd_T79 x0_2 (ji9)).f1), .int .i64 ((rd_T79 x0_2 (ji9)).f2), .int .i64 ((rd_T79 x0_2 (ji9)).f3)]) (j := 0) hcl20 hcc20 (show 4 ≤ 4 from by decide) (x' := (⟨(rd_T79 x0_2 (ji9)).f0, (rd_T79 x0_2 (ji9)).f1, (rd_T79 x0_2 (ji9)).f2, (rd_T79 x0_2 (ji9)).f3⟩ : S79)) (k79_mkM _ _ _ (⟨(rd_T79 x0_2 (ji9)).f0, (rd_T79 x0_2 (ji9)).f1, (rd_T79 x0_2 (ji9)).f2, (rd_T79 x0_2 (ji9)).f3⟩ : S79) ) (fun _ hk => hk)).1
                   rw [← Ny227.out] at HP20
                   have HQ20 := Aside0.mk HP20; clear hcl20 hcc20 hfr20 hM20 HP20
                   have p15 : 0 ≤ ((ji9) : Int) := od
                   have q15 : ((ji9) : Int) < ((x0_2.length : Int) : Int) := od
                   obtain ⟨ce15, hcl15, hM15, hcc15, hfr15⟩ := Kd.R_elem HQ20.out z79 ((ji9) : Int) p15 q15
                   obtain rfl := k79_openM hM15
                   have hx15_0 : World.cell? _ ⟨go14, ((ji9) : Int).toNat * 4, none⟩ = some (.int .i64 ((rd_T79 y227 (ji9)).f0)) := hcc15 0 _ rfl
                   have hx15_1 : World.cell? _ ⟨go14, ((ji9) : Int).toNat * 4 + 1, none⟩ = some (.string ((rd_T79 y227 (ji9)).f1)) := hcc15 1 _ rfl
                   have hx15_2 : World.cell? _ ⟨go14, ((ji9) : Int).toNat * 4 + 2, none⟩ = some (.int .i64 ((rd_T79 y227 (ji9)).f2)) := hcc15 2 _ rfl
                   have hx15_3 : World.cell? _ ⟨go14, ((ji9) : Int).toNat * 4 + 3, none⟩ = some (.int .i64 ((rd_T79 y227 (ji9)).f3)) := hcc15 3 _ rfl
                   have hf15_0 : World.frozen? _ ⟨go14, ((ji9) : Int).toNat * 4, none⟩ = false := hfr15 0
                   have hf15_1 : World.frozen? _ ⟨go14, ((ji9) : Int).toNat * 4 + 1, none⟩ = false := hfr15 1
                   have hf15_2 : World.frozen? _ ⟨go14, ((ji9) : Int).toNat * 4 + 2, none⟩ = false := hfr15 2
                   have hf15_3 : World.frozen? _ ⟨go14, ((ji9) : Int).toNat * 4 + 3, none⟩ = false := hfr15 3
                   clear hcl15 hcc15 hfr15 hM15; replace p15 := eq_true p15; replace q15 := eq_true q15
                   obtain ⟨ce21, hcl21, hM21, hcc21, hfr21⟩ := Kd.R_elem HQ20.out z79 ((ji9) : Int) (od) (by have h_ : ((ji9) : Int) < ((x0_2.length : Int) : Int) := od; first | exact h_ | (have e_ := (Kd.R_reads' HO_0.out).1; omega) | simpa using h_)
                   obtain rfl := k79_openM hM21
                   have HP21 := (Kd.R_seg HQ20.out ((ji9) : Int) (od) (by have h_ : ((ji9) : Int) < ((x0_2.length : Int) : Int) := od; first | exact h_ | (have e_ := (Kd.R_reads' HO_0.out).1; omega) | simpa using h_) (seg := [.int .i64 ((rd_T79 x0_2 x9_2).f0), .string ((rd_T79 x0_2 x9_2).f1), .int .i64 ((rd_T79 x0_2 x9_2).f2), .int .i64 ((rd_T79 x0_2 x9_2).f3)]) (j := 0) hcl21 hcc21 (show 4 ≤ 4 from by decide) (x' := (⟨(rd_T79 x0_2 x9_2).f0, (rd_T79 x0_2 x9_2).f1, (rd_T79 x0_2 x9_2).f2, (rd_T79 x0_2 x9_2).f3⟩ : S79)) (k79_mkM _ _ _ (⟨(rd_T79 x0_2 x9_2).f0, (rd_T79 x0_2 x9_2).f1, (rd_T79 x0_2 x9_2).f2, (rd_T79 x0_2 x9_2).f3⟩ : S79) ) (fun _ hk => hk)).1
                   rw [← Ny228.out] at HP21
                   have HQ21 := Aside0.mk HP21; clear hcl21 hcc21 hfr21 hM21 HP21
                   refine start_ (n := 18) (S := fun w' => w'.cell? ⟨go14, ((ji9)).toNat * 4, none⟩ = some (.int .i64 ((rd_T79 x0_2 (ji9)).f0)) ∧ w'.cell? ⟨go14, ((ji9)).toNat * 4 + 1, none⟩ = some (.string ((rd_T79 x0_2 (ji9)).f1)) ∧ w'.cell? ⟨go14, ((ji9)).toNat * 4 + 2, none⟩ = some (.int .i64 ((rd_T79 x0_2 (ji9)).f2)) ∧ w'.cell? ⟨go14, ((ji9)).toNat * 4 + 3, none⟩ = some (.int .i64 ((rd_T79 x0_2 (ji9)).f3)) ∧ w'.cell? ⟨go14, ((x9_2).toNat * 4), none⟩ = some (.int .i64 ((rd_T79 x0_2 x9_2).f0)) ∧ w'.cell? ⟨go14, ((x9_2).toNat * 4) + 1, none⟩ = some (.string ((rd_T79 x0_2 x9_2).f1)) ∧ w'.cell? ⟨go14, ((x9_2).toNat * 4) + 2, none⟩ = some (.int .i64 ((rd_T79 x0_2 x9_2).f2)) ∧ w'.cell? ⟨go14, ((x9_2).toNat * 4) + 3, none⟩ = some (.int .i64 ((rd_T79 x0_2 x9_2).f3))) (ds := [15, 17]) (pf 18 0) (by kernel_rfl) rfl rfl ⟨hx225_0, hx225_1, hx225_2, hx225_3, hx226_0, hx226_1, hx226_2, hx226_3⟩ (fun hHeld => ?_); refine with_tabW q1q.tab6 q1q.bits6 (fun HT_ HW_ => ?_)
                   generalize w18.drew = w19 at HO_0 HK HB GG14 HQ20 HQ21 hf14_0 hf14_1 hf14_2 hf14_3 hf15_0 hf15_1 hf15_2 hf15_3 hx14_0 hx14_1 hx14_2 hx14_3 hx15_0 hx15_1 hx15_2 hx15_3 hx222_0 hx222_1 hx222_2 hx222_3 hx223_0 hx223_1 hx223_2 hx223_3 hx225_0 hx225_1 hx225_2 hx225_3 hx226_0 hx226_1 hx226_2 hx226_3 hHeld ⊢
                   refine pA (i := 0) (N := some 37) HT_ (pf 18 1) ?_
                   refine pA (i := 1) (N := some 38) HT_ (pf 18 2) ?_
                   refine pA (i := 2) (N := some 39) HT_ (pf 18 3) ?_
                   refine pA (i := 3) (N := some 40) HT_ (pf 18 4) ?_
                   refine pA (i := 4) (N := some 41) HT_ (pf 18 5) ?_
                   refine pA (i := 5) (N := some 42) HT_ (pf 18 6) ?_
                   refine pA (i := 6) (N := some 43) HT_ (pf 18 7) ?_
                   refine pA (i := 7) (N := some 44) HT_ (pf 18 8) ?_
                   refine pA (i := 8) (N := some 45) HT_ (pf 18 9) ?_
                   refine pA (i := 10) (N := some 47) HT_ (ba 18 1535) ?_
                   refine pA (i := 11) (N := some 48) HT_ (ba 18 3583) ?_
                   refine pA (i := 12) (N := some 49) HT_ (ba 18 7679) ?_
                   refine take_ (i := 9) (N := some 46) (v := ?_) (a' := ?_) (pf 18 13) rfl rfl (take_ofW HT_.out HW_.out (by kernel_rfl)) (fun _ _ _ h => h) (Or.inl ⟨by rfl, ?_⟩) hHeld ?_ ?_
                   rotate_left
                   · rintro w' ⟨s0, s1, s2, s3, s4, s5, s6, s7⟩
                     go_simp
                     with_reducible rfl
                   rotate_left
                   · simp only [Act.put, sA, sB, sC, i64_w, i32_w]
                     rfl
                   refine take_ (i := 13) (N := some 50) (v := ?_) (a' := ?_) (pf 18 14) rfl rfl (take_ofW HT_.out HW_.out (by kernel_rfl)) (fun _ _ _ h => h) (Or.inl ⟨by rfl, ?_⟩) hHeld ?_ ?_
                   rotate_left
                   · rintro w' ⟨s0, s1, s2, s3, s4, s5, s6, s7⟩
                     go_simp
                     with_reducible rfl
                   rotate_left
                   · simp only [Act.put, sA, sB, sC, i64_w, i32_w]
                     rfl
                   refine pA (i := 14) (N := some 51) HT_ (pf 18 15) ?_
                   refine last_ (i := 15) (N := none) (pf 18 16) rfl rfl (one_of HT_.out (by kernel_rfl)) (by decide) (fun K hK => ?_)
                   refine skip_ (by rfl) rfl (st_skip HO_0 z79 (x9_2 : Int) (od) (by have h_ : (x9_2 : Int) < ((x0_2.length : Int) : Int) := od; first | exact h_ | (have e_ := (Kd.R_reads' HO_0.out).1; omega) | simpa using h_) [.int .i64 ((rd_T79 x0_2 (ji9)).f0), .string ((rd_T79 x0_2 (ji9)).f1), .int .i64 ((rd_T79 x0_2 (ji9)).f2), .int .i64 ((rd_T79 x0_2 (ji9)).f3)] rfl (by rfl) rfl (by go_simp) rfl (by kernel_rfl) (by simp [Value.oneCell'])) ?_
                   refine hK.out _ _ ?_
                   clear hK K
                   generalize hz_ : World.setCells w19 go14 (Int.toNat (x9_2 : Int) * k79.sz + 0) [.int .i64 ((rd_T79 x0_2 (ji9)).f0), .string ((rd_T79 x0_2 (ji9)).f1), .int .i64 ((rd_T79 x0_2 (ji9)).f2), .int .i64 ((rd_T79 x0_2 (ji9)).f3)] = wz_ at HQ20 HQ21 ⊢
                   refine pA (i := 16) (N := some 52) HT_ (pf 18 17) ?_
                   refine last_ (i := 17) (N := none) (pf 18 18) rfl rfl (one_of HT_.out (by kernel_rfl)) (by decide) (fun K hK => ?_)
                   refine skip_ (by rfl) rfl (st_skip HQ20 z79 ((ji9) : Int) (od) (by have h_ : ((ji9) : Int) < ((x0_2.length : Int) : Int) := od; first | exact h_ | (have e_ := (Kd.R_reads' HO_0.out).1; omega) | simpa using h_) [.int .i64 ((rd_T79 x0_2 x9_2).f0), .string ((rd_T79 x0_2 x9_2).f1), .int .i64 ((rd_T79 x0_2 x9_2).f2), .int .i64 ((rd_T79 x0_2 x9_2).f3)] rfl (by rfl) rfl (by go_simp) rfl (by kernel_rfl) (by simp [Value.oneCell'])) ?_
                   refine hK.out _ _ ?_
                   clear hK K; subst hz_
                   refine done_ (done_of HT_.out (by kernel_rfl)) ?_
                   try go_wp2
                   go_roundg k2
                   case measure => have := HK1.out; have := HK2.out; omega
                   case rel => exact ⟨(y228), (ji9), (by first | rfl | (simp; done) | (simp only [← hji9] <;> (first | rfl | simp)) | (simp [*]; done)), H', ⟨by have := HK1.out; have := HK2.out; omega⟩, ⟨gR HQ21⟩, ⟨gQ HK⟩, ⟨gS HB⟩⟩
                 · rw [if_neg c13] at H
                   have c13b0 := dF c13
                   clear c13
                   have H' := Aside0.mk H
                   clear H
                   try go_wp2
                   have n0_ := aK (Kd.R_drew HO_0.out)
                   have n1_ := aK (Kept.drew HK.out)
                   have n2_ := aK (below_drew1 HB.out)
                   clear HO_0; clear HK; clear HB
                   have HO_0 := n0_
                   have HK := n1_
                   have HB := n2_
                   clear n0_ n1_ n2_
                   obtain ⟨Ao23, co23, eo23⟩ := Kd.R_slice HO_0.out
                   (first | subst eo23 | (injection eo23 with f1_ f2_ f3_; have f4_ := f1_.symm; have f5_ := f3_.symm; clear f1_ f2_ f3_; subst f4_; subst f5_))
                   obtain ⟨⟨p222, q222⟩, ad222, rfl, hx222_0, hx222_1, hx222_2, hx222_3⟩ := za (at_T79 (Kd.R_reads' HO_0.out).2.2) x9_2
                   obtain ⟨⟨p223, q223⟩, ad223, e223, hx223_0, hx223_1, hx223_2, hx223_3⟩ := za (at_T79 (Kd.R_reads' HO_0.out).2.2) (ji9)
                   obtain rfl : ad222 = ad223 := (by injection e223)
                   refine start_ (n := 17) (S := fun w' => w'.cell? (ad222.add ((x9_2).toNat * 4)) = some (.int .i64 ((rd_T79 x0_2 x9_2).f0)) ∧ w'.cell? ⟨(ad222.add ((x9_2).toNat * 4)).block, (ad222.add ((x9_2).toNat * 4)).off + 1, none⟩ = some (.string ((rd_T79 x0_2 x9_2).f1)) ∧ w'.cell? ⟨(ad222.add ((x9_2).toNat * 4)).block, (ad222.add ((x9_2).toNat * 4)).off + 2, none⟩ = some (.int .i64 ((rd_T79 x0_2 x9_2).f2)) ∧ w'.cell? ⟨(ad222.add ((x9_2).toNat * 4)).block, (ad222.add ((x9_2).toNat * 4)).off + 3, none⟩ = some (.int .i64 ((rd_T79 x0_2 x9_2).f3)) ∧ w'.cell? (ad222.add (((ji9)).toNat * 4)) = some (.int .i64 ((rd_T79 x0_2 (ji9)).f0)) ∧ w'.cell? ⟨(ad222.add (((ji9)).toNat * 4)).block, (ad222.add (((ji9)).toNat * 4)).off + 1, none⟩ = some (.string ((rd_T79 x0_2 (ji9)).f1)) ∧ w'.cell? ⟨(ad222.add (((ji9)).toNat * 4)).block, (ad222.add (((ji9)).toNat * 4)).off + 2, none⟩ = some (.int .i64 ((rd_T79 x0_2 (ji9)).f2)) ∧ w'.cell? ⟨(ad222.add (((ji9)).toNat * 4)).block, (ad222.add (((ji9)).toNat * 4)).off + 3, none⟩ = some (.int .i64 ((rd_T79 x0_2 (ji9)).f3))) (ds := []) (pf 17 0) (by kernel_rfl) rfl rfl ⟨hx222_0, hx222_1, hx222_2, hx222_3, hx223_0, hx223_1, hx223_2, hx223_3⟩ (fun hHeld => ?_); refine with_tabW q1q.tab4 q1q.bits4 (fun HT_ HW_ => ?_)
                   generalize wr.drew = w22 at HO_0 HK HB hx222_0 hx222_1 hx222_2 hx222_3 hx223_0 hx223_1 hx223_2 hx223_3 hHeld ⊢
                   refine pA (i := 0) (N := some 18) HT_ (pf 17 1) ?_
                   refine pA (i := 1) (N := some 19) HT_ (pf 17 2) ?_
                   refine pA (i := 2) (N := some 20) HT_ (pf 17 3) ?_
                   refine pA (i := 3) (N := some 21) HT_ (pf 17 4) ?_
                   refine pA (i := 4) (N := some 22) HT_ (pf 17 5) ?_
                   refine pA (i := 5) (N := some 23) HT_ (pf 17 6) ?_
                   refine pA (i := 6) (N := some 24) HT_ (pf 17 7) ?_
                   refine pA (i := 7) (N := some 25) HT_ (pf 17 8) ?_
                   refine pA (i := 9) (N := some 27) HT_ (ba 17 767) ?_
                   refine pA (i := 10) (N := some 28) HT_ (ba 17 1791) ?_
                   refine pA (i := 11) (N := some 29) HT_ (ba 17 3839) ?_
                   refine pA (i := 12) (N := some 30) HT_ (ba 17 7935) ?_
                   refine take_ (i := 8) (N := some 26) (v := ?_) (a' := ?_) (pf 17 13) rfl rfl (take_ofW HT_.out HW_.out (by kernel_rfl)) (fun _ _ _ h => h) (Or.inl ⟨by rfl, ?_⟩) hHeld ?_ ?_
                   rotate_left
                   · rintro w' ⟨s0, s1, s2, s3, s4, s5, s6, s7⟩
                     go_simp
                     with_reducible rfl
                   rotate_left
                   · simp only [Act.put, sA, sB, sC, i64_w, i32_w]
                     rfl
                   refine take_ (i := 13) (N := some 31) (v := ?_) (a' := ?_) (pf 17 14) rfl rfl (take_ofW HT_.out HW_.out (by kernel_rfl)) (fun _ _ _ h => h) (Or.inl ⟨by rfl, ?_⟩) hHeld ?_ ?_
                   rotate_left
                   · rintro w' ⟨s0, s1, s2, s3, s4, s5, s6, s7⟩
                     go_simp
                     with_reducible rfl
                   rotate_left
                   · simp only [Act.put, sA, sB, sC, i64_w, i32_w]
                     rfl
                   refine one_ (i := 14) (N := some 32) (pf 17 15) rfl rfl (one_of HT_.out (by kernel_rfl)) (by decide) (fun K hK => ?_)
                   refine goesV_ (by rfl) Try.func33 (by kernel_rfl) rfl #[.agg #[.int .i64 ((rd_T79 x0_2 x9_2).f0), .string ((rd_T79 x0_2 x9_2).f1), .int .i64 ((rd_T79 x0_2 x9_2).f2), .int .i64 ((rd_T79 x0_2 x9_2).f3)], .agg #[.int .i64 ((rd_T79 x0_2 (ji9)).f0), .string ((rd_T79 x0_2 (ji9)).f1), .int .i64 ((rd_T79 x0_2 (ji9)).f2), .int .i64 ((rd_T79 x0_2 (ji9)).f3)]] (by rfl) rfl rfl (by (try simp only [List.map_toArray, List.map_cons, List.map_nil]); first | done | (simp only [hji9]; rfl) | rfl | (simp only [List.length_drop, List.length_take]; rfl)) ?_
                   with_reducible refine (q21q.calls ((rd_T79 x0_2 x9_2).f0) ((rd_T79 x0_2 x9_2).f1) ((rd_T79 x0_2 x9_2).f2) ((rd_T79 x0_2 x9_2).f3) ((rd_T79 x0_2 (ji9)).f0) ((rd_T79 x0_2 (ji9)).f1) ((rd_T79 x0_2 (ji9)).f2) ((rd_T79 x0_2 (ji9)).f3) t224 _ A12.out).mono ?_
                   rintro e w24 ⟨rfl, hb⟩
                   have HS0_ := (hb.cell (World.block_lt_of_cell? _ _ (hHeld.1))).trans (hHeld.1)
                   have HS1_ := (hb.cell (World.block_lt_of_cell? _ _ (hHeld.2.1))).trans (hHeld.2.1)
                   have HS2_ := (hb.cell (World.block_lt_of_cell? _ _ (hHeld.2.2.1))).trans (hHeld.2.2.1)
                   have HS3_ := (hb.cell (World.block_lt_of_cell? _ _ (hHeld.2.2.2.1))).trans (hHeld.2.2.2.1)
                   have HS4_ := (hb.cell (World.block_lt_of_cell? _ _ (hHeld.2.2.2.2.1))).trans (hHeld.2.2.2.2.1)
                   have HS5_ := (hb.cell (World.block_lt_of_cell? _ _ (hHeld.2.2.2.2.2.1))).trans (hHeld.2.2.2.2.2.1)
                   have HS6_ := (hb.cell (World.block_lt_of_cell? _ _ (hHeld.2.2.2.2.2.2.1))).trans (hHeld.2.2.2.2.2.2.1)
                   have HS7_ := (hb.cell (World.block_lt_of_cell? _ _ (hHeld.2.2.2.2.2.2.2))).trans (hHeld.2.2.2.2.2.2.2)
                   refine ⟨_, rfl, ?_⟩
                   have n0_ := aK (Kd.R_below (gR HO_0) hb)
                   have n1_ := aK (Kept.below (S := (fun k_ => P0_ k_)) (gP HK) hb)
                   have n2_ := aK (below_step (gB HB) hb)
                   clear HO_0; clear HK; clear HB
                   have HO_0 := n0_
                   have HK := n1_
                   have HB := n2_
                   clear n0_ n1_ n2_
                   try clear hb
                   try clear hb2
                   try clear hk
                   try clear hi
                   refine hK.out _ _ ⟨HS0_, HS1_, HS2_, HS3_, HS4_, HS5_, HS6_, HS7_⟩ (fun hHeld => ?_)
                   clear hK K
                   refine norm_ (a' := ?_) ?_ ?_
                   rotate_left
                   · show Act.put _ (some 32) _ = _
                     simp only [Act.put, sA, sB, sC, i64_w, i32_w]
                     rfl
                   refine pA (i := 15) (N := some 33) HT_ (pf 17 16) ?_
                   refine pA (i := 16) (N := some 34) HT_ (pf 17 17) ?_
                   refine done_ (done_of HT_.out (by kernel_rfl)) ?_
                   try go_wp2
                   go_roundg k2
                   case measure => have := HK1.out; have := HK2.out; omega
                   case rel => exact ⟨(x0_2), (wrap64 (x8_1 + 1)), ac, H', ⟨by have := HK1.out; have := HK2.out; omega⟩, ⟨gR HO_0⟩, ⟨gP HK⟩, ⟨gB HB⟩⟩
               · rw [if_neg c11] at H
                 exact absurd H (by simp)
             · rw [if_neg c10] at H
               exact absurd H (by simp)
           · rw [if_neg c8] at H
             exact absurd H (by simp)
         · rw [if_neg c7] at H
           exact absurd H (by simp)
       · rw [if_neg c6] at H
         have c6b0 : decide (a1 < x9_2) = false := decide_eq_false c6
         clear c6
         have H' := Aside0.mk H
         clear H
         try go_wp2
         have n0_ := aK (Kd.R_drew HO_0.out)
         have n1_ := aK (Kept.drew HK.out)
         have n2_ := aK (below_drew1 HB.out)
         clear HO_0; clear HK; clear HB
         have HO_0 := n0_
         have HK := n1_
         have HB := n2_
         clear n0_ n1_ n2_
         refine start_ (n := 17) (S := fun w' => True) (ds := []) (pf 17 0) (by kernel_rfl) rfl rfl trivial (fun hHeld => ?_); refine with_tabW q1q.tab4 q1q.bits4 (fun HT_ HW_ => ?_)
         generalize wr.drew = w25 at HO_0 HK HB hHeld ⊢
         refine pA (i := 0) (N := some 18) HT_ (pf 17 1) ?_
         refine pA (i := 1) (N := some 19) HT_ (pf 17 2) ?_
         refine pA (i := 2) (N := some 20) HT_ (pf 17 3) ?_
         refine pA (i := 3) (N := some 21) HT_ (pf 17 4) ?_
         refine pure_ (i := 4) (N := some 22) (v := undef) (a' := ?_) (pf 17 5) rfl rfl (any_of HT_.out (by kernel_rfl)) (fun _ _ _ h => h) (Or.inr ⟨by rfl, rfl⟩) ?_ ?_
         rotate_left
         · simp only [Act.put, sA, sB, sC, i64_w, i32_w]
           rfl
         refine pure_ (i := 5) (N := some 23) (v := undef) (a' := ?_) (pf 17 6) rfl rfl (any_of HT_.out (by kernel_rfl)) (fun _ _ _ h => h) (Or.inr ⟨by rfl, rfl⟩) ?_ ?_
         rotate_left
         · simp only [Act.put, sA, sB, sC, i64_w, i32_w]
           rfl
         refine pure_ (i := 6) (N := some 24) (v := undef) (a' := ?_) (pf 17 7) rfl rfl (any_of HT_.out (by kernel_rfl)) (fun _ _ _ h => h) (Or.inr ⟨by rfl, rfl⟩) ?_ ?_
         rotate_left
         · simp only [Act.put, sA, sB, sC, i64_w, i32_w]
           rfl
         refine pure_ (i := 7) (N := some 25) (v := undef) (a' := ?_) (pf 17 8) rfl rfl (any_of HT_.out (by kernel_rfl)) (fun _ _ _ h => h) (Or.inr ⟨by rfl, rfl⟩) ?_ ?_
         rotate_left
         · simp only [Act.put, sA, sB, sC, i64_w, i32_w]
           rfl
         refine pure_ (i := 8) (N := some 26) (v := undef) (a' := ?_) (pf 17 9) rfl rfl (any_of HT_.out (by kernel_rfl)) (fun _ _ _ h => h) (Or.inr ⟨by rfl, rfl⟩) ?_ ?_
         rotate_left
         · simp only [Act.put, sA, sB, sC, i64_w, i32_w]
           rfl
         refine pure_ (i := 9) (N := some 27) (v := undef) (a' := ?_) (pf 17 10) rfl rfl (any_of HT_.out (by kernel_rfl)) (fun _ _ _ h => h) (Or.inr ⟨by rfl, rfl⟩) ?_ ?_
         rotate_left
         · simp only [Act.put, sA, sB, sC, i64_w, i32_w]
           rfl
         refine pure_ (i := 10) (N := some 28) (v := undef) (a' := ?_) (pf 17 11) rfl rfl (any_of HT_.out (by kernel_rfl)) (fun _ _ _ h => h) (Or.inr ⟨by rfl, rfl⟩) ?_ ?_
         rotate_left
         · simp only [Act.put, sA, sB, sC, i64_w, i32_w]
           rfl
         refine pure_ (i := 11) (N := some 29) (v := undef) (a' := ?_) (pf 17 12) rfl rfl (any_of HT_.out (by kernel_rfl)) (fun _ _ _ h => h) (Or.inr ⟨by rfl, rfl⟩) ?_ ?_
         rotate_left
         · simp only [Act.put, sA, sB, sC, i64_w, i32_w]
           rfl
         refine pure_ (i := 12) (N := some 30) (v := undef) (a' := ?_) (pf 17 13) rfl rfl (any_of HT_.out (by kernel_rfl)) (fun _ _ _ h => h) (Or.inr ⟨by rfl, rfl⟩) ?_ ?_
         rotate_left
         · simp only [Act.put, sA, sB, sC, i64_w, i32_w]
           rfl
         refine pure_ (i := 13) (N := some 31) (v := undef) (a' := ?_) (pf 17 14) rfl rfl (any_of HT_.out (by kernel_rfl)) (fun _ _ _ h => h) (Or.inr ⟨by rfl, rfl⟩) ?_ ?_
         rotate_left
         · simp only [Act.put, sA, sB, sC, i64_w, i32_w]
           rfl
         refine pure_ (i := 14) (N := some 32) (v := undef) (a' := ?_) (pf 17 15) rfl rfl (any_of HT_.out (by kernel_rfl)) (fun _ _ _ h => h) (Or.inr ⟨by rfl, rfl⟩) ?_ ?_
         rotate_left
         · simp only [Act.put, sA, sB, sC, i64_w, i32_w]
           rfl
         refine pure_ (i := 15) (N := some 33) (v := undef) (a' := ?_) (pf 17 16) rfl rfl (any_of HT_.out (by kernel_rfl)) (fun _ _ _ h => h) (Or.inr ⟨by rfl, rfl⟩) ?_ ?_
         rotate_left
         · simp only [Act.put, sA, sB, sC, i64_w, i32_w]
           rfl
         refine pA (i := 16) (N := some 34) HT_ (pf 17 17) ?_
         refine done_ (done_of HT_.out (by kernel_rfl)) ?_
         try go_wp2
         go_roundg k2
         case measure => have := HK1.out; have := HK2.out; omega
         case rel => exact ⟨(x0_2), (wrap64 (x8_1 + 1)), ac, H', ⟨by have := HK1.out; have := HK2.out; omega⟩, ⟨gR HO_0⟩, ⟨gP HK⟩, ⟨gB HB⟩⟩
   · rw [if_neg c5] at H
     have c5b0 := dF c5
     clear c5
     obtain rfl := Option.some.inj H
     go_wp2
     first | go_end0 | ((try simp only [Exit.inBlock, Exit.then]); refine bodyPost_ret (results_none rfl _ _ _) rfl ?_)
     exact ⟨by first | rfl | (simp [errW_none, errW_some] <;> rfl) | (simp [*, errW_none, errW_some] <;> rfl), gR HO_0, gB HB, gP HK⟩
end Go.Proofs.Ytlbhjkbjokiioaa.X
