-- a shortened text: what this claim does not name is left out (wip/xprint/prune.py of this repo)
import Derived.Test.YtlbhjkbjokiioaaXMin
import Derived.Test.YtlbhjkbjokiioaaX0
import Derived.Test.YtlbhjkbjokiioaaX6
import Derived.Test.YtlbhjkbjokiioaaX8
import Derived.Test.YtlbhjkbjokiioaaX9a
namespace Go.Proofs.Ytlbhjkbjokiioaa.X
open Go.RowKit Go.Proofs.YtlbhjkbjokiioaaW.PrintWords Go.Proofs.YtlbhjkbjokiioaaW.PrintLast Go.Proofs.YtlbhjkbjokiioaaW.PrintMore
attribute [local go_sem] max2_int min2_int max_two min_two max_three min_three max_four min_four
set_option linter.unusedVariables false
set_option linter.unusedSimpArgs false
set_option maxHeartbeats 8000000 in
set_option maxRecDepth 100000 in
theorem q0q.part1 (k : Nat) (ih : ∀ m, m < k + 1 → q0q.Con m) (P0_ : Nat → Prop) (u9000_ : Value) (l0 : List (S79)) (a1 : Int) (a2 : Int) (a3 : Int) (r : List (S79)) (w0 w : World) (hB : Below w0.heap.size w0 w) (ho0 : Kd.R k79 79 w w0.heap.size P0_ u9000_ l0) (c6 : ¬ ((wrap64 (a2 - a1)) = 1)) (c33 : ((wrap64 (a3 - a2)) = 1)) (H : (q0q.l2 k l0 a2 a1 a2) = some r) : Calls Try.prog 59 #[u9000_, .int .i64 a1, .int .i64 a2, .int .i64 a3, .func (.func 33) #[] #[]] w fun e w' => e = .returned (.tuple #[]) ∧ Kd.R k79 79 w' w0.heap.size (fun k_ => (P0_ k_ ∨ w.heap.size ≤ k_)) u9000_ r ∧ Below w0.heap.size w0 w' ∧ Kept w w' (fun k_ => P0_ k_) := by
 have hu79 := Try.underlying79
 have HO0 := aK (show Kd.R k79 79 w w0.heap.size (fun k_ => (P0_ k_ ∨ w.heap.size ≤ k_)) u9000_ l0 from Kd.R_mono ho0 (fun k_ hk => (.inl hk)))
 have HK := aK (Kept.refl w (fun k_ => P0_ k_))
 have HW0 := Aside0.mk hB.size
 have HB := Aside0.mk hB; clear hB
 have c6b0 : ((wrap64 (a2 - a1)) == 1) = false := beq_eq_false_iff_ne.mpr c6
 have c6b1 : ((wrap64 (a2 - a1)) != 1) = true := bne_iff_ne.mpr c6
 have c33b0 : ((wrap64 (a3 - a2)) == 1) = true := beq_iff_eq.mpr c33
 have c33b1 : ((wrap64 (a3 - a2)) != 1) = false := bne_eq_false_iff_eq.mpr c33
 clear c33
 have H' := Aside0.mk H
 clear H
 go_enter Try.func59, Try.ntmps59
 go_wp2
 go_loopg [14, 15] k (fun kq v14 v15 w' => ∃ (x14_1 : Int) (x15_1 : Int), v14 = .int .i64 x14_1 ∧ v15 = .int .i64 x15_1 ∧ Aside0 (q0q.l2 kq l0 a2 x14_1 x15_1 = some r) ∧ Aside0 (kq ≤ k) ∧ Aside0 (Kd.R k79 79 w' w0.heap.size (fun k_ => (P0_ k_ ∨ w.heap.size ≤ k_)) u9000_ l0) ∧ Aside0 (Kept w w' (fun k_ => P0_ k_)) ∧ Aside0 (Below w0.heap.size w0 w'))
 case atStart => exact ⟨(a1), (a2), ac, ac, H', ⟨Nat.le_refl _⟩, ⟨gR HO0⟩, ⟨gP HK⟩, ⟨gB HB⟩⟩
 case round =>
  clear H'; (try clear c6); (try clear c6b0); (try clear c6b1); (try clear c33); (try clear c33b0); (try clear c33b1)
  obtain ⟨x14_1, x15_1, rfl, rfl, HA, HK1, HO_0, HK, HB⟩ := hrel
  cases gk with
  | zero => exact absurd HA.out (by simp [q0q.l2])
  | succ k1 =>
   have H := HA.out
   clear HA
   simp only [q0q.l2] at H
   by_cases c34 : x14_1 < x15_1
   · rw [if_pos c34] at H
     have c34b0 := dT c34
     clear c34
     by_cases c35 : 0 ≤ a2
     · rw [if_pos c35] at H
       have c35b0 := dT c35
       clear c35
       by_cases c36 : a2 < (l0.length : Int)
       · rw [if_pos c36] at H
         have c36b0 := dT c36
         clear c36
         obtain ⟨ji37, hji37⟩ : ∃ j_ : Int, (wrap64 ((IntKind.u64.wrap (wrap64 (x14_1 + x15_1))) / 2)) = j_ := ⟨_, rfl⟩
         replace H : (if 0 ≤ (ji37) then (if (ji37) < (l0.length : Int) then ((q21q.f ((rd_T79 l0 a2).f0) ((rd_T79 l0 a2).f1) ((rd_T79 l0 a2).f2) ((rd_T79 l0 a2).f3) ((rd_T79 l0 (ji37)).f0) ((rd_T79 l0 (ji37)).f1) ((rd_T79 l0 (ji37)).f2) ((rd_T79 l0 (ji37)).f3)).bind fun t245 => (if t245 < 0 then (q0q.l2 k1 l0 a2 x14_1 ji37) else (q0q.l2 k1 l0 a2 (wrap64 ((ji37) + 1)) x15_1))) else (none)) else (none)) = some r := by first | (rw [hji37] at H; exact H) | (simp only [hji37] at H ⊢; exact H)
         have hji37w : (IntKind.i64.wrap ((IntKind.u64.wrap (wrap64 (x14_1 + x15_1))) / 2)) = ji37 := (i64_w _).trans hji37
         by_cases c38 : 0 ≤ (ji37)
         · rw [if_pos c38] at H
           have c38b0 := dT c38
           clear c38
           by_cases c39 : (ji37) < (l0.length : Int)
           · rw [if_pos c39] at H
             have c39b0 := dT c39
             clear c39
             replace H := Option.bind_eq_some_iff.mp H
             obtain ⟨t245, A400, H⟩ := H
             replace H : (if t245 < 0 then (q0q.l2 k1 l0 a2 x14_1 ji37) else (q0q.l2 k1 l0 a2 (wrap64 ((ji37) + 1)) x15_1)) = some r := H
             have A40 := Aside0.mk A400; clear A400
             by_cases c41 : t245 < 0
             · rw [if_pos c41] at H
               have c41b0 := dT c41
               clear c41
               have H' := Aside0.mk H
               clear H
               try go_wp2
               have n0_ := aK (Kd.R_drew HO_0.out)
               have n1_ := aK (Kept.drew HK.out)
               have n2_ := aK (below_drew1 HB.out)
               clear HO_0; clear HK; clear HB
               have HO_0 := n0_
               have HK := n1_
               have HB := n2_
               clear n0_ n1_ n2_
               obtain ⟨Ao43, co43, eo43⟩ := Kd.R_slice HO_0.out
               (first | subst eo43 | (injection eo43 with f1_ f2_ f3_; have f4_ := f1_.symm; have f5_ := f3_.symm; clear f1_ f2_ f3_; subst f4_; subst f5_))
               obtain ⟨⟨p243, q243⟩, ad243, rfl, hx243_0, hx243_1, hx243_2, hx243_3⟩ := za (at_T79 (Kd.R_reads' HO_0.out).2.2) a2
               obtain ⟨⟨p244, q244⟩, ad244, e244, hx244_0, hx244_1, hx244_2, hx244_3⟩ := za (at_T79 (Kd.R_reads' HO_0.out).2.2) (ji37)
               obtain rfl : ad243 = ad244 := (by injection e244)
               refine start_ (n := 12) (S := fun w' => w'.cell? (ad243.add ((a2).toNat * 4)) = some (.int .i64 ((rd_T79 l0 a2).f0)) ∧ w'.cell? ⟨(ad243.add ((a2).toNat * 4)).block, (ad243.add ((a2).toNat * 4)).off + 1, none⟩ = some (.string ((rd_T79 l0 a2).f1)) ∧ w'.cell? ⟨(ad243.add ((a2).toNat * 4)).block, (ad243.add ((a2).toNat * 4)).off + 2, none⟩ = some (.int .i64 ((rd_T79 l0 a2).f2)) ∧ w'.cell? ⟨(ad243.add ((a2).toNat * 4)).block, (ad243.add ((a2).toNat * 4)).off + 3, none⟩ = some (.int .i64 ((rd_T79 l0 a2).f3)) ∧ w'.cell? (ad243.add (((ji37)).toNat * 4)) = some (.int .i64 ((rd_T79 l0 (ji37)).f0)) ∧ w'.cell? ⟨(ad243.add (((ji37)).toNat * 4)).block, (ad243.add (((ji37)).toNat * 4)).off + 1, none⟩ = some (.string ((rd_T79 l0 (ji37)).f1)) ∧ w'.cell? ⟨(ad243.add (((ji37)).toNat * 4)).block, (ad243.add (((ji37)).toNat * 4)).off + 2, none⟩ = some (.int .i64 ((rd_T79 l0 (ji37)).f2)) ∧ w'.cell? ⟨(ad243.add (((ji37)).toNat * 4)).block, (ad243.add (((ji37)).toNat * 4)).off + 3, none⟩ = some (.int .i64 ((rd_T79 l0 (ji37)).f3))) (ds := []) (pf 12 0) (by kernel_rfl) rfl rfl ⟨hx243_0, hx243_1, hx243_2, hx243_3, hx244_0, hx244_1, hx244_2, hx244_3⟩ (fun hHeld => ?_); refine with_tabW q0q.tab17 q0q.bits17 (fun HT_ HW_ => ?_)
               generalize wr.drew = w42 at HO_0 HK HB hx243_0 hx243_1 hx243_2 hx243_3 hx244_0 hx244_1 hx244_2 hx244_3 hHeld ⊢
               refine pA (i := 0) (N := some 92) HT_ (pf 12 1) ?_
               refine pA (i := 1) (N := some 93) HT_ (pf 12 2) ?_
               refine pA (i := 2) (N := some 94) HT_ (pf 12 3) ?_
               refine pA (i := 3) (N := some 95) HT_ (pf 12 4) ?_
               refine pA (i := 5) (N := some 97) HT_ (ba 12 47) ?_
               refine pA (i := 6) (N := some 98) HT_ (ba 12 111) ?_
               refine pA (i := 7) (N := some 99) HT_ (ba 12 239) ?_
               refine take_ (i := 4) (N := some 96) (v := ?_) (a' := ?_) (pf 12 8) rfl rfl (take_ofW HT_.out HW_.out (by kernel_rfl)) (fun _ _ _ h => h) (Or.inl ⟨by rfl, ?_⟩) hHeld ?_ ?_
               rotate_left
               · rintro w' ⟨s0, s1, s2, s3, s4, s5, s6, s7⟩
                 go_simp
                 with_reducible rfl
               rotate_left
               · simp only [Act.put, sA, sB, sC, i64_w, i32_w]
                 rfl
               refine take_ (i := 8) (N := some 100) (v := ?_) (a' := ?_) (pf 12 9) rfl rfl (take_ofW HT_.out HW_.out (by kernel_rfl)) (fun _ _ _ h => h) (Or.inl ⟨by rfl, ?_⟩) hHeld ?_ ?_
               rotate_left
               · rintro w' ⟨s0, s1, s2, s3, s4, s5, s6, s7⟩
                 go_simp
                 with_reducible rfl
               rotate_left
               · simp only [Act.put, sA, sB, sC, i64_w, i32_w]
                 rfl
               refine one_ (i := 9) (N := some 101) (pf 12 10) rfl rfl (one_of HT_.out (by kernel_rfl)) (by decide) (fun K hK => ?_)
               refine goesV_ (by rfl) Try.func33 (by kernel_rfl) rfl #[.agg #[.int .i64 ((rd_T79 l0 a2).f0), .string ((rd_T79 l0 a2).f1), .int .i64 ((rd_T79 l0 a2).f2), .int .i64 ((rd_T79 l0 a2).f3)], .agg #[.int .i64 ((rd_T79 l0 (ji37)).f0), .string ((rd_T79 l0 (ji37)).f1), .int .i64 ((rd_T79 l0 (ji37)).f2), .int .i64 ((rd_T79 l0 (ji37)).f3)]] (by rfl) rfl rfl (by (try simp only [List.map_toArray, List.map_cons, List.map_nil]); first | done | (simp only [hji37]; rfl) | rfl | (simp only [List.length_drop, List.length_take]; rfl)) ?_
               with_reducible refine (q21q.calls ((rd_T79 l0 a2).f0) ((rd_T79 l0 a2).f1) ((rd_T79 l0 a2).f2) ((rd_T79 l0 a2).f3) ((rd_T79 l0 (ji37)).f0) ((rd_T79 l0 (ji37)).f1) ((rd_T79 l0 (ji37)).f2) ((rd_T79 l0 (ji37)).f3) t245 _ A40.out).mono ?_
               rintro e w44 ⟨rfl, hb⟩
               have HS0_ := (hb.cell (World.block_lt_of_cell? _ _ (hHeld.1))).trans (hHeld.1)
               have HS1_ := (hb.cell (World.block_lt_of_cell? _ _ (hHeld.2.1))).trans (hHeld.2.1)
               have HS2_ := (hb.cell (World.block_lt_of_cell? _ _ (hHeld.2.2.1))).trans (hHeld.2.2.1)
               have HS3_ := (hb.cell (World.block_lt_of_cell? _ _ (hHeld.2.2.2.1))).trans (hHeld.2.2.2.1)
               have HS4_ := (hb.cell (World.block_lt_of_cell? _ _ (hHeld.2.2.2.2.1))).trans (hHeld.2.2.2.2.1)
               have HS5_ := (hb.cell (World.block_lt_of_cell? _ _ (hHeld.2.2.2.2.2.1))).trans (hHeld.2.2.2.2.2.1)
               have HS6_ := (hb.cell (World.block_lt_of_cell? _ _ (hHeld.2.2.2.2.2.2.1))).trans (hHeld.2.2.2.2.2.2.1)
               have HS7_ := (hb.cell (World.block_lt_of_cell? _ _ (hHeld.2.2.2.2.2.2.2))).trans (hHeld.2.2.2.2.2.2.2)
               refine ⟨_, rfl, ?_⟩
               have n0_ := aK (Kd.R_below (gR HO_0) hb)
               have n1_ := aK (Kept.below (S := (fun k_ => P0_ k_)) (gP HK) hb)
               have n2_ := aK (below_step (gB HB) hb)
               clear HO_0; clear HK; clear HB
               have HO_0 := n0_
               have HK := n1_
               have HB := n2_
               clear n0_ n1_ n2_
               try clear hb
               try clear hb2
               try clear hk
               try clear hi
               refine hK.out _ _ ⟨HS0_, HS1_, HS2_, HS3_, HS4_, HS5_, HS6_, HS7_⟩ (fun hHeld => ?_)
               clear hK K
               refine norm_ (a' := ?_) ?_ ?_
               rotate_left
               · show Act.put _ (some 101) _ = _
                 simp only [Act.put, sA, sB, sC, i64_w, i32_w]
                 rfl
               refine pA (i := 10) (N := some 102) HT_ (pf 12 11) ?_
               refine pA (i := 11) (N := some 103) HT_ (pf 12 12) ?_
               refine done_ (done_of HT_.out (by kernel_rfl)) ?_
               try go_wp2
               go_roundg k1
               case measure => have := HK1.out; omega
               case rel => exact ⟨(x14_1), (ji37), ac, (by first | rfl | (simp; done) | (simp only [← hji37] <;> (first | rfl | simp)) | (simp [*]; done)), H', ⟨by have := HK1.out; omega⟩, ⟨gR HO_0⟩, ⟨gP HK⟩, ⟨gB HB⟩⟩
             · rw [if_neg c41] at H
               have c41b0 := dF c41
               clear c41
               have H' := Aside0.mk H
               clear H
               try go_wp2
               have n0_ := aK (Kd.R_drew HO_0.out)
               have n1_ := aK (Kept.drew HK.out)
               have n2_ := aK (below_drew1 HB.out)
               clear HO_0; clear HK; clear HB
               have HO_0 := n0_
               have HK := n1_
               have HB := n2_
               clear n0_ n1_ n2_
               obtain ⟨Ao46, co46, eo46⟩ := Kd.R_slice HO_0.out
               (first | subst eo46 | (injection eo46 with f1_ f2_ f3_; have f4_ := f1_.symm; have f5_ := f3_.symm; clear f1_ f2_ f3_; subst f4_; subst f5_))
               obtain ⟨⟨p243, q243⟩, ad243, rfl, hx243_0, hx243_1, hx243_2, hx243_3⟩ := za (at_T79 (Kd.R_reads' HO_0.out).2.2) a2
               obtain ⟨⟨p244, q244⟩, ad244, e244, hx244_0, hx244_1, hx244_2, hx244_3⟩ := za (at_T79 (Kd.R_reads' HO_0.out).2.2) (ji37)
               obtain rfl : ad243 = ad244 := (by injection e244)
               refine start_ (n := 12) (S := fun w' => w'.cell? (ad243.add ((a2).toNat * 4)) = some (.int .i64 ((rd_T79 l0 a2).f0)) ∧ w'.cell? ⟨(ad243.add ((a2).toNat * 4)).block, (ad243.add ((a2).toNat * 4)).off + 1, none⟩ = some (.string ((rd_T79 l0 a2).f1)) ∧ w'.cell? ⟨(ad243.add ((a2).toNat * 4)).block, (ad243.add ((a2).toNat * 4)).off + 2, none⟩ = some (.int .i64 ((rd_T79 l0 a2).f2)) ∧ w'.cell? ⟨(ad243.add ((a2).toNat * 4)).block, (ad243.add ((a2).toNat * 4)).off + 3, none⟩ = some (.int .i64 ((rd_T79 l0 a2).f3)) ∧ w'.cell? (ad243.add (((ji37)).toNat * 4)) = some (.int .i64 ((rd_T79 l0 (ji37)).f0)) ∧ w'.cell? ⟨(ad243.add (((ji37)).toNat * 4)).block, (ad243.add (((ji37)).toNat * 4)).off + 1, none⟩ = some (.string ((rd_T79 l0 (ji37)).f1)) ∧ w'.cell? ⟨(ad243.add (((ji37)).toNat * 4)).block, (ad243.add (((ji37)).toNat * 4)).off + 2, none⟩ = some (.int .i64 ((rd_T79 l0 (ji37)).f2)) ∧ w'.cell? ⟨(ad243.add (((ji37)).toNat * 4)).block, (ad243.add (((ji37)).toNat * 4)).off + 3, none⟩ = some (.int .i64 ((rd_T79 l0 (ji37)).f3))) (ds := []) (pf 12 0) (by kernel_rfl) rfl rfl ⟨hx243_0, hx243_1, hx243_2, hx243_3, hx244_0, hx244_1, hx244_2, hx244_3⟩ (fun hHeld => ?_); refine with_tabW q0q.tab17 q0q.bits17 (fun HT_ HW_ => ?_)
               generalize wr.drew = w45 at HO_0 HK HB hx243_0 hx243_1 hx243_2 hx243_3 hx244_0 hx244_1 hx244_2 hx244_3 hHeld ⊢
               refine pA (i := 0) (N := some 92) HT_ (pf 12 1) ?_
               refine pA (i := 1) (N := some 93) HT_ (pf 12 2) ?_
               refine pA (i := 2) (N := some 94) HT_ (pf 12 3) ?_
               refine pA (i := 3) (N := some 95) HT_ (pf 12 4) ?_
               refine pA (i := 5) (N := some 97) HT_ (ba 12 47) ?_
               refine pA (i := 6) (N := some 98) HT_ (ba 12 111) ?_
               refine pA (i := 7) (N := some 99) HT_ (ba 12 239) ?_
               refine take_ (i := 4) (N := some 96) (v := ?_) (a' := ?_) (pf 12 8) rfl rfl (take_ofW HT_.out HW_.out (by kernel_rfl)) (fun _ _ _ h => h) (Or.inl ⟨by rfl, ?_⟩) hHeld ?_ ?_
               rotate_left
               · rintro w' ⟨s0, s1, s2, s3, s4, s5, s6, s7⟩
                 go_simp
                 with_reducible rfl
               rotate_left
               · simp only [Act.put, sA, sB, sC, i64_w, i32_w]
                 rfl
               refine take_ (i := 8) (N := some 100) (v := ?_) (a' := ?_) (pf 12 9) rfl rfl (take_ofW HT_.out HW_.out (by kernel_rfl)) (fun _ _ _ h => h) (Or.inl ⟨by rfl, ?_⟩) hHeld ?_ ?_
               rotate_left
               · rintro w' ⟨s0, s1, s2, s3, s4, s5, s6, s7⟩
                 go_simp
                 with_reducible rfl
               rotate_left
               · simp only [Act.put, sA, sB, sC, i64_w, i32_w]
                 rfl
               refine one_ (i := 9) (N := some 101) (pf 12 10) rfl rfl (one_of HT_.out (by kernel_rfl)) (by decide) (fun K hK => ?_)
               refine goesV_ (by rfl) Try.func33 (by kernel_rfl) rfl #[.agg #[.int .i64 ((rd_T79 l0 a2).f0), .string ((rd_T79 l0 a2).f1), .int .i64 ((rd_T79 l0 a2).f2), .int .i64 ((rd_T79 l0 a2).f3)], .agg #[.int .i64 ((rd_T79 l0 (ji37)).f0), .string ((rd_T79 l0 (ji37)).f1), .int .i64 ((rd_T79 l0 (ji37)).f2), .int .i64 ((rd_T79 l0 (ji37)).f3)]] (by rfl) rfl rfl (by (try simp only [List.map_toArray, List.map_cons, List.map_nil]); first | done | (simp only [hji37]; rfl) | rfl | (simp only [List.length_drop, List.length_take]; rfl)) ?_
               with_reducible refine (q21q.calls ((rd_T79 l0 a2).f0) ((rd_T79 l0 a2).f1) ((rd_T79 l0 a2).f2) ((rd_T79 l0 a2).f3) ((rd_T79 l0 (ji37)).f0) ((rd_T79 l0 (ji37)).f1) ((rd_T79 l0 (ji37)).f2) ((rd_T79 l0 (ji37)).f3) t245 _ A40.out).mono ?_
               rintro e w47 ⟨rfl, hb⟩
               have HS0_ := (hb.cell (World.block_lt_of_cell? _ _ (hHeld.1))).trans (hHeld.1)
               have HS1_ := (hb.cell (World.block_lt_of_cell? _ _ (hHeld.2.1))).trans (hHeld.2.1)
               have HS2_ := (hb.cell (World.block_lt_of_cell? _ _ (hHeld.2.2.1))).trans (hHeld.2.2.1)
               have HS3_ := (hb.cell (World.block_lt_of_cell? _ _ (hHeld.2.2.2.1))).trans (hHeld.2.2.2.1)
               have HS4_ := (hb.cell (World.block_lt_of_cell? _ _ (hHeld.2.2.2.2.1))).trans (hHeld.2.2.2.2.1)
               have HS5_ := (hb.cell (World.block_lt_of_cell? _ _ (hHeld.2.2.2.2.2.1))).trans (hHeld.2.2.2.2.2.1)
               have HS6_ := (hb.cell (World.block_lt_of_cell? _ _ (hHeld.2.2.2.2.2.2.1))).trans (hHeld.2.2.2.2.2.2.1)
               have HS7_ := (hb.cell (World.block_lt_of_cell? _ _ (hHeld.2.2.2.2.2.2.2))).trans (hHeld.2.2.2.2.2.2.2)
               refine ⟨_, rfl, ?_⟩
               have n0_ := aK (Kd.R_below (gR HO_0) hb)
               have n1_ := aK (Kept.below (S := (fun k_ => P0_ k_)) (gP HK) hb)
               have n2_ := aK (below_step (gB HB) hb)
               clear HO_0; clear HK; clear HB
               have HO_0 := n0_
               have HK := n1_
               have HB := n2_
               clear n0_ n1_ n2_
               try clear hb
               try clear hb2
               try clear hk
               try clear hi
               refine hK.out _ _ ⟨HS0_, HS1_, HS2_, HS3_, HS4_, HS5_, HS6_, HS7_⟩ (fun hHeld => ?_)
               clear hK K
               refine norm_ (a' := ?_) ?_ ?_
               rotate_left
               · show Act.put _ (some 101) _ = _
                 simp only [Act.put, sA, sB, sC, i64_w, i32_w]
                 rfl
               refine pA (i := 10) (N := some 102) HT_ (pf 12 11) ?_
               refine pA (i := 11) (N := some 103) HT_ (pf 12 12) ?_
               refine done_ (done_of HT_.out (by kernel_rfl)) ?_
               try go_wp2
               go_roundg k1
               case measure => have := HK1.out; omega
               case rel => exact ⟨(wrap64 ((ji37) + 1)), (x15_1), (by first | rfl | (simp; done) | (simp only [← hji37] <;> (first | rfl | simp)) | (simp [*]; done)), ac, H', ⟨by have := HK1.out; omega⟩, ⟨gR HO_0⟩, ⟨gP HK⟩, ⟨gB HB⟩⟩
           · rw [if_neg c39] at H
             exact absurd H (by simp)
         · rw [if_neg c38] at H
           exact absurd H (by simp)
       · rw [if_neg c36] at H
         exact absurd H (by simp)
     · rw [if_neg c35] at H
       exact absurd H (by simp)
   · rw [if_neg c34] at H
     have c34b0 := dF c34
     clear c34
     have H' := Aside0.mk H
     clear H
     go_wp2
     go_loopg [17] k1 (fun kq v17 w' => ∃ (x0_2 : List (S79)) (x17_2 : Int), v17 = .int .i64 x17_2 ∧ Aside0 (q0q.l3 kq x0_2 x14_1 x17_2 = some r) ∧ Aside0 (kq ≤ k1) ∧ Aside0 (Kd.R k79 79 w' w0.heap.size (fun k_ => (P0_ k_ ∨ w.heap.size ≤ k_)) u9000_ x0_2) ∧ Aside0 (Kept w w' (fun k_ => P0_ k_)) ∧ Aside0 (Below w0.heap.size w0 w'))
     case atStart => exact ⟨(l0), (a2), ac, H', ⟨Nat.le_refl _⟩, ⟨gR HO_0⟩, ⟨gP HK⟩, ⟨gB HB⟩⟩
     case round =>
      clear H'; (try clear c6); (try clear c6b0); (try clear c6b1); (try clear c33); (try clear c33b0); (try clear c33b1); (try clear c34); (try clear c34b0)
      obtain ⟨x0_2, x17_2, rfl, HA, HK2, HO_0, HK, HB⟩ := hrel
      cases gk with
      | zero => exact absurd HA.out (by simp [q0q.l3])
      | succ k2 =>
       have H := HA.out
       clear HA
       simp only [q0q.l3] at H
       by_cases c48 : x17_2 > x14_1
       · rw [if_pos c48] at H
         have c48b0 : decide (x14_1 < x17_2) = true := decide_eq_true c48
         clear c48
         obtain ⟨ji49, hji49⟩ : ∃ j_ : Int, (wrap64 (x17_2 - 1)) = j_ := ⟨_, rfl⟩
         replace H : (if 0 ≤ (ji49) then (if (ji49) < (x0_2.length : Int) then (if 0 ≤ x17_2 then (if x17_2 < (x0_2.length : Int) then (q0q.l3 k2 ((x0_2.set (x17_2 : Int).toNat (⟨(rd_T79 x0_2 (ji49)).f0, (rd_T79 x0_2 (ji49)).f1, (rd_T79 x0_2 (ji49)).f2, (rd_T79 x0_2 (ji49)).f3⟩ : S79)).set ((ji49) : Int).toNat (⟨(rd_T79 x0_2 x17_2).f0, (rd_T79 x0_2 x17_2).f1, (rd_T79 x0_2 x17_2).f2, (rd_T79 x0_2 x17_2).f3⟩ : S79)) x14_1 ji49) else (none)) else (none)) else (none)) else (none)) = some r := by first | (rw [hji49] at H; exact H) | (simp only [hji49] at H ⊢; exact H)
         have hji49w : (IntKind.i64.wrap (x17_2 - 1)) = ji49 := (i64_w _).trans hji49
         by_cases c50 : 0 ≤ (ji49)
         · rw [if_pos c50] at H
           have c50b0 := dT c50
           clear c50
           by_cases c51 : (ji49) < (x0_2.length : Int)
           · rw [if_pos c51] at H
             have c51b0 := dT c51
             clear c51
             by_cases c52 : 0 ≤ x17_2
             · rw [if_pos c52] at H
               have c52b0 := dT c52
               clear c52
               by_cases c53 : x17_2 < (x0_2.length : Int)
               · rw [if_pos c53] at H
                 have c53b0 := dT c53
                 clear c53
                 obtain ⟨y248, hy_⟩ : ∃ y_ : List (S79), y_ = (x0_2.set (x17_2 : Int).toNat (⟨(rd_T79 x0_2 (ji49)).f0, (rd_T79 x0_2 (ji49)).f1, (rd_T79 x0_2 (ji49)).f2, (rd_T79 x0_2 (ji49)).f3⟩ : S79)) := ⟨_, rfl⟩
                 replace H : (q0q.l3 k2 (y248.set ((ji49) : Int).toNat (⟨(rd_T79 x0_2 x17_2).f0, (rd_T79 x0_2 x17_2).f1, (rd_T79 x0_2 x17_2).f2, (rd_T79 x0_2 x17_2).f3⟩ : S79)) x14_1 ji49) = some r := h2
                 have Ny248 := Aside0.mk hy_; clear hy_
                 obtain ⟨y249, hy_⟩ : ∃ y_ : List (S79), y_ = (y248.set ((ji49) : Int).toNat (⟨(rd_T79 x0_2 x17_2).f0, (rd_T79 x0_2 x17_2).f1, (rd_T79 x0_2 x17_2).f2, (rd_T79 x0_2 x17_2).f3⟩ : S79)) := ⟨_, rfl⟩
                 replace H : (q0q.l3 k2 y249 x14_1 ji49) = some r := h2
                 have Ny249 := Aside0.mk hy_; clear hy_
                 have H' := Aside0.mk H
                 clear H
                 try go_wp2
                 have n0_ := aK (Kd.R_drew HO_0.out)
                 have n1_ := aK (Kept.drew HK.out)
                 have n2_ := aK (below_drew1 HB.out)
                 clear HO_0; clear HK; clear HB
                 have HO_0 := n0_
                 have HK := n1_
                 have HB := n2_
                 clear n0_ n1_ n2_
                 obtain ⟨Ao57, co57, eo57⟩ := Kd.R_slice HO_0.out
                 (first | subst eo57 | (injection eo57 with f1_ f2_ f3_; have f4_ := f1_.symm; have f5_ := f3_.symm; clear f1_ f2_ f3_; subst f4_; subst f5_))
                 obtain ⟨⟨p246, q246⟩, ad246, rfl, hx246_0, hx246_1, hx246_2, hx246_3⟩ := za (at_T79 (Kd.R_reads' HO_0.out).2.2) (ji49)
                 obtain ⟨⟨p247, q247⟩, ad247, e247, hx247_0, hx247_1, hx247_2, hx247_3⟩ := za (at_T79 (Kd.R_reads' HO_0.out).2.2) x17_2
                 obtain rfl : ad246 = ad247 := (by injection e247)
                 have p54 : 0 ≤ (x17_2 : Int) := od
                 have q54 : (x17_2 : Int) < ((x0_2.length : Int) : Int) := od
                 obtain ⟨go54, co54, eo54, gb54, gl54, cl54, HG54⟩ := Kd.R_form HO_0.out (by omega)
                 (first | cases eo54 | (injection eo54 with ea_ en_ ec_; (first | subst ea_ | (injection ea_ with ea_; subst ea_)); subst ec_; clear en_))
                 have GB54 := Aside0.mk gb54; have GG54 := Aside0.mk HG54; clear gb54 gl54 HG54
                 have HMgo54 := aK (show (P0_ go54 ∨ w.heap.size ≤ go54) from (HO_0.out.1 _ rfl))
                 (first | simp only [add_plain] at hx246_0 | skip)
                 (first | simp only [add_plain] at hx246_1 | skip)
                 (first | simp only [add_plain] at hx246_2 | skip)
                 (first | simp only [add_plain] at hx246_3 | skip)
                 (first | simp only [add_plain] at hx247_0 | skip)
                 (first | simp only [add_plain] at hx247_1 | skip)
                 (first | simp only [add_plain] at hx247_2 | skip)
                 (first | simp only [add_plain] at hx247_3 | skip)
                 obtain ⟨ce54, hcl54, hM54, hcc54, hfr54⟩ := Kd.R_elem HO_0.out z79 (x17_2 : Int) p54 q54
                 obtain rfl := k79_openM hM54
                 have hx54_0 : World.cell? _ ⟨go54, (x17_2 : Int).toNat * 4, none⟩ = some (.int .i64 ((rd_T79 x0_2 x17_2).f0)) := hcc54 0 _ rfl
                 have hx54_1 : World.cell? _ ⟨go54, (x17_2 : Int).toNat * 4 + 1, none⟩ = some (.string ((rd_T79 x0_2 x17_2).f1)) := hcc54 1 _ rfl
                 have hx54_2 : World.cell? _ ⟨go54, (x17_2 : Int).toNat * 4 + 2, none⟩ = some (.int .i64 ((rd_T79 x0_2 x17_2).f2)) := hcc54 2 _ rfl
                 have hx54_3 : World.cell? _ ⟨go54, (x17_2 : Int).toNat * 4 + 3, none⟩ = some (.int .i64 ((rd_T79 x0_2 x17_2).f3)) := hcc54 3 _ rfl
                 have hf54_0 : World.frozen? _ ⟨go54, (x17_2 : Int).toNat * 4, none⟩ = false := hfr54 0
                 have hf54_1 : World.frozen? _ ⟨go54, (x17_2 : Int).toNat * 4 + 1, none⟩ = false := hfr54 1
                 have hf54_2 : World.frozen? _ ⟨go54, (x17_2 : Int).toNat * 4 + 2, none⟩ = false := hfr54 2
                 have hf54_3 : World.frozen? _ ⟨go54, (x17_2 : Int).toNat * 4 + 3, none⟩ = false := hfr54 3
                 clear hcl54 hcc54 hfr54 hM54; replace p54 := eq_true p54; replace q54 := eq_true q54
                 obtain ⟨ce58, hcl58, hM58, hcc58, hfr58⟩ := Kd.R_elem HO_0.out z79 (x17_2 : Int) (od) (by have h_ : (x17_2 : Int) < ((x0_2.length : Int) : Int) := od; first | exact h_ | (have e_ := (Kd.R_reads' HO_0.out).1; omega) | simpa using h_)
                 obtain rfl := k79_openM hM58
                 have HP58 := (Kd.R_seg HO_0.out (x17_2 : Int) (od) (by have h_ : (x17_2 : Int) < ((x0_2.length : Int) : Int) := od; first | exact h_ | (have e_ := (Kd.R_reads' HO_0.out).1; omega) | simpa using h_) (seg := [.int .i64 ((rd_T79 x0_2 (ji49)).f0), .string ((rd_T79 x0_2 (ji49)).f1), .int .i64 ((rd_T79 x0_2 (ji49)).f2), .int .i64 ((rd_T79 x0_2 (ji49)).f3)]) (j := 0) hcl58 hcc58 (show 4 ≤ 4 from by decide) (x' := (⟨(rd_T79 x0_2 (ji49)).f0, (rd_T79 x0_2 (ji49)).f1, (rd_T79 x0_2 (ji49)).f2, (rd_T79 x0_2 (ji49)).f3⟩ : S79)) (k79_mkM _ _ _ (⟨(rd_T79 x0_2 (ji49)).f0, (rd_T79 x0_2 (ji49)).f1, (rd_T79 x0_2 (ji49)).f2, (rd_T79 x0_2 (ji49)).f3⟩ : S79) ) (fun _ hk => hk)).1
                 rw [← Ny248.out] at HP58
                 have HQ58 := Aside0.mk HP58; clear hcl58 hcc58 hfr58 hM58 HP58
                 have p55 : 0 ≤ ((ji49) : Int) := od
                 have q55 : ((ji49) : Int) < ((x0_2.length : Int) : Int) := od
                 obtain ⟨ce55, hcl55, hM55, hcc55, hfr55⟩ := Kd.R_elem HQ58.out z79 ((ji49) : Int) p55 q55
                 obtain rfl := k79_openM hM55
                 have hx55_0 : World.cell? _ ⟨go54, ((ji49) : Int).toNat * 4, none⟩ = some (.int .i64 ((rd_T79 y248 (ji49)).f0)) := hcc55 0 _ rfl
                 have hx55_1 : World.cell? _ ⟨go54, ((ji49) : Int).toNat * 4 + 1, none⟩ = some (.string ((rd_T79 y248 (ji49)).f1)) := hcc55 1 _ rfl
                 have hx55_2 : World.cell? _ ⟨go54, ((ji49) : Int).toNat * 4 + 2, none⟩ = some (.int .i64 ((rd_T79 y248 (ji49)).f2)) := hcc55 2 _ rfl
                 have hx55_3 : World.cell? _ ⟨go54, ((ji49) : Int).toNat * 4 + 3, none⟩ = some (.int .i64 ((rd_T79 y248 (ji49)).f3)) := hcc55 3 _ rfl
                 have hf55_0 : World.frozen? _ ⟨go54, ((ji49) : Int).toNat * 4, none⟩ = false := hfr55 0
                 have hf55_1 : World.frozen? _ ⟨go54, ((ji49) : Int).toNat * 4 + 1, none⟩ = false := hfr55 1
                 have hf55_2 : World.frozen? _ ⟨go54, ((ji49) : Int).toNat * 4 + 2, none⟩ = false := hfr55 2
                 have hf55_3 : World.frozen? _ ⟨go54, ((ji49) : Int).toNat * 4 + 3, none⟩ = false := hfr55 3
                 clear hcl55 hcc55 hfr55 hM55; replace p55 := eq_true p55; replace q55 := eq_true q55
                 obtain ⟨ce59, hcl59, hM59, hcc59, hfr59⟩ := Kd.R_elem HQ58.out z79 ((ji49) : Int) (od) (by have h_ : ((ji49) : Int) < ((x0_2.length : Int) : Int) := od; first | exact h_ | (have e_ := (Kd.R_reads' HO_0.out).1; omega) | simpa using h_)
                 obtain rfl := k79_openM hM59
                 have HP59 := (Kd.R_seg HQ58.out ((ji49) : Int) (od) (by have h_ : ((ji49) : Int) < ((x0_2.length : Int) : Int) := od; first | exact h_ | (have e_ := (Kd.R_reads' HO_0.out).1; omega) | simpa using h_) (seg := [.int .i64 ((rd_T79 x0_2 x17_2).f0), .string ((rd_T79 x0_2 x17_2).f1), .int .i64 ((rd_T79 x0_2 x17_2).f2), .int .i64 ((rd_T79 x0_2 x17_2).f3)]) (j := 0) hcl59 hcc59 (show 4 ≤ 4 from by decide) (x' := (⟨(rd_T79 x0_2 x17_2).f0, (rd_T79 x0_2 x17_2).f1, (rd_T79 x0_2 x17_2).f2, (rd_T79 x0_2 x17_2).f3⟩ : S79)) (k79_mkM _ _ _ (⟨(rd_T79 x0_2 x17_2).f0, (rd_T79 x0_2 x17_2).f1, (rd_T79 x0_2 x17_2).f2, (rd_T79 x0_2 x17_2).f3⟩ : S79) ) (fun _ hk => hk)).1
                 rw [← Ny249.out] at HP59
                 have HQ59 := Aside0.mk HP59; clear hcl59 hcc59 hfr59 hM59 HP59
                 refine start_ (n := 18) (S := fun w' => w'.cell? ⟨go54, ((ji49)).toNat * 4, none⟩ = some (.int .i64 ((rd_T79 x0_2 (ji49)).f0)) ∧ w'.cell? ⟨go54, ((ji49)).toNat * 4 + 1, none⟩ = some (.string ((rd_T79 x0_2 (ji49)).f1)) ∧ w'.cell? ⟨go54, ((ji49)).toNat * 4 + 2, none⟩ = some (.int .i64 ((rd_T79 x0_2 (ji49)).f2)) ∧ w'.cell? ⟨go54, ((ji49)).toNat * 4 + 3, none⟩ = some (.int .i64 ((rd_T79 x0_2 (ji49)).f3)) ∧ w'.cell? ⟨go54, ((x17_2).toNat * 4), none⟩ = some (.int .i64 ((rd_T79 x0_2 x17_2).f0)) ∧ w'.cell? ⟨go54, ((x17_2).toNat * 4) + 1, none⟩ = some (.string ((rd_T79 x0_2 x17_2).f1)) ∧ w'.cell? ⟨go54, ((x17_2).toNat * 4) + 2, none⟩ = some (.int .i64 ((rd_T79 x0_2 x17_2).f2)) ∧ w'.cell? ⟨go54, ((x17_2).toNat * 4) + 3, none⟩ = some (.int .i64 ((rd_T79 x0_2 x17_2).f3))) (ds := [15, 17]) (pf 18 0) (by kernel_rfl) rfl rfl ⟨hx246_0, hx246_1, hx246_2, hx246_3, hx247_0, hx247_1, hx247_2, hx247_3⟩ (fun hHeld => ?_); refine with_tabW q0q.tab23 q0q.bits23 (fun HT_ HW_ => ?_)
                 generalize wr.drew = w56 at HO_0 HK HB GG54 HQ58 HQ59 hf54_0 hf54_1 hf54_2 hf54_3 hf55_0 hf55_1 hf55_2 hf55_3 hx246_0 hx246_1 hx246_2 hx246_3 hx247_0 hx247_1 hx247_2 hx247_3 hx54_0 hx54_1 hx54_2 hx54_3 hx55_0 hx55_1 hx55_2 hx55_3 hHeld ⊢
                 refine pA (i := 0) (N := some 113) HT_ (pf 18 1) ?_
                 refine pA (i := 1) (N := some 114) HT_ (pf 18 2) ?_
                 refine pA (i := 2) (N := some 115) HT_ (pf 18 3) ?_
                 refine pA (i := 3) (N := some 116) HT_ (pf 18 4) ?_
                 refine pA (i := 4) (N := some 117) HT_ (pf 18 5) ?_
                 refine pA (i := 5) (N := some 118) HT_ (pf 18 6) ?_
                 refine pA (i := 6) (N := some 119) HT_ (pf 18 7) ?_
                 refine pA (i := 7) (N := some 120) HT_ (pf 18 8) ?_
                 refine pA (i := 8) (N := some 121) HT_ (pf 18 9) ?_
                 refine pA (i := 10) (N := some 123) HT_ (ba 18 1535) ?_
                 refine pA (i := 11) (N := some 124) HT_ (ba 18 3583) ?_
                 refine pA (i := 12) (N := some 125) HT_ (ba 18 7679) ?_
                 refine take_ (i := 9) (N := some 122) (v := ?_) (a' := ?_) (pf 18 13) rfl rfl (take_ofW HT_.out HW_.out (by kernel_rfl)) (fun _ _ _ h => h) (Or.inl ⟨by rfl, ?_⟩) hHeld ?_ ?_
                 rotate_left
                 · rintro w' ⟨s0, s1, s2, s3, s4, s5, s6, s7⟩
                   go_simp
                   with_reducible rfl
                 rotate_left
                 · simp only [Act.put, sA, sB, sC, i64_w, i32_w]
                   rfl
                 refine take_ (i := 13) (N := some 126) (v := ?_) (a' := ?_) (pf 18 14) rfl rfl (take_ofW HT_.out HW_.out (by kernel_rfl)) (fun _ _ _ h => h) (Or.inl ⟨by rfl, ?_⟩) hHeld ?_ ?_
                 rotate_left
                 · rintro w' ⟨s0, s1, s2, s3, s4, s5, s6, s7⟩
                   go_simp
                   with_reducible rfl
                 rotate_left
                 · simp only [Act.put, sA, sB, sC, i64_w, i32_w]
                   rfl
                 refine pA (i := 14) (N := some 127) HT_ (pf 18 15) ?_
                 refine last_ (i := 15) (N := none) (pf 18 16) rfl rfl (one_of HT_.out (by kernel_rfl)) (by decide) (fun K hK => ?_)
                 refine skip_ (by rfl) rfl (st_skip HO_0 z79 (x17_2 : Int) (od) (by have h_ : (x17_2 : Int) < ((x0_2.length : Int) : Int) := od; first | exact h_ | (have e_ := (Kd.R_reads' HO_0.out).1; omega) | simpa using h_) [.int .i64 ((rd_T79 x0_2 (ji49)).f0), .string ((rd_T79 x0_2 (ji49)).f1), .int .i64 ((rd_T79 x0_2 (ji49)).f2), .int .i64 ((rd_T79 x0_2 (ji49)).f3)] rfl (by rfl) rfl (by go_simp) rfl (by kernel_rfl) (by simp [Value.oneCell'])) ?_
                 refine hK.out _ _ ?_
                 clear hK K
                 generalize hz_ : World.setCells w56 go54 (Int.toNat (x17_2 : Int) * k79.sz + 0) [.int .i64 ((rd_T79 x0_2 (ji49)).f0), .string ((rd_T79 x0_2 (ji49)).f1), .int .i64 ((rd_T79 x0_2 (ji49)).f2), .int .i64 ((rd_T79 x0_2 (ji49)).f3)] = wz_ at HQ58 HQ59 ⊢
                 refine pA (i := 16) (N := some 128) HT_ (pf 18 17) ?_
                 refine last_ (i := 17) (N := none) (pf 18 18) rfl rfl (one_of HT_.out (by kernel_rfl)) (by decide) (fun K hK => ?_)
                 refine skip_ (by rfl) rfl (st_skip HQ58 z79 ((ji49) : Int) (od) (by have h_ : ((ji49) : Int) < ((x0_2.length : Int) : Int) := od; first | exact h_ | (have e_ := (Kd.R_reads' HO_0.out).1; omega) | simpa using h_) [.int .i64 ((rd_T79 x0_2 x17_2).f0), .string ((rd_T79 x0_2 x17_2).f1), .int .i64 ((rd_T79 x0_2 x17_2).f2), .int .i64 ((rd_T79 x0_2 x17_2).f3)] rfl (by rfl) rfl (by go_simp) rfl (by kernel_rfl) (by simp [Value.oneCell'])) ?_
                 refine hK.out _ _ ?_
                 clear hK K; subst hz_
                 refine done_ (done_of HT_.out (by kernel_rfl)) ?_
                 try go_wp2
                 go_roundg k2
                 case measure => have := HK1.out; have := HK2.out; omega
                 case rel => exact ⟨(y249), (ji49), (by first | rfl | (simp; done) | (simp only [← hji49] <;> (first | rfl | simp)) | (simp [*]; done)), H', ⟨by have := HK1.out; have := HK2.out; omega⟩, ⟨gR HQ59⟩, ⟨gQ HK⟩, ⟨gS HB⟩⟩
               · rw [if_neg c53] at H
                 exact absurd H (by simp)
             · rw [if_neg c52] at H
               exact absurd H (by simp)
           · rw [if_neg c51] at H
             exact absurd H (by simp)
         · rw [if_neg c50] at H
           exact absurd H (by simp)
       · rw [if_neg c48] at H
         have c48b0 : decide (x14_1 < x17_2) = false := decide_eq_false c48
         clear c48
         obtain rfl := Option.some.inj H
         go_wp2
         first | go_end0 | ((try simp only [Exit.inBlock, Exit.then]); refine bodyPost_ret (results_none rfl _ _ _) rfl ?_)
         exact ⟨by first | rfl | (simp [errW_none, errW_some] <;> rfl) | (simp [*, errW_none, errW_some] <;> rfl), gR HO_0, gB HB, gP HK⟩
end Go.Proofs.Ytlbhjkbjokiioaa.X
