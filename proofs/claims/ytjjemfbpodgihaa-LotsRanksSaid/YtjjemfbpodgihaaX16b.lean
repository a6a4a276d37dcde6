-- a shortened text: what this claim does not name is left out (wip/xprint/prune.py of this repo)
import Derived.Test.YtjjemfbpodgihaaXMin
import Derived.Test.YtjjemfbpodgihaaX0
import Derived.Test.YtjjemfbpodgihaaX13
import Derived.Test.YtjjemfbpodgihaaX15
import Derived.Test.YtjjemfbpodgihaaX16a
namespace Go.Proofs.Ytjjemfbpodgihaa.X
open Go.RowKit Go.Proofs.YtjjemfbpodgihaaW.PrintWords Go.Proofs.YtjjemfbpodgihaaW.PrintLast Go.Proofs.YtjjemfbpodgihaaW.PrintMore
attribute [local go_sem] max2_int min2_int max_two min_two max_three min_three max_four min_four
set_option linter.unusedVariables false
set_option linter.unusedSimpArgs false
set_option maxHeartbeats 8000000 in
set_option maxRecDepth 100000 in
theorem slices_symMergeCmpFunc_haircut_Item.part1 (k : Nat) (ih : ∀ m, m < k + 1 → slices_symMergeCmpFunc_haircut_Item.Con m) (P0_ : Nat → Prop) (u9000_ : Value) (l0 : List (S47)) (a1 : Int) (a2 : Int) (a3 : Int) (r : List (S47)) (w0 w : World) (hB : Below w0.heap.size w0 w) (ho0 : Kd.R k47 47 w w0.heap.size P0_ u9000_ l0) (c6 : ¬ ((wrap64 (a2 - a1)) = 1)) (c33 : ((wrap64 (a3 - a2)) = 1)) (H : (slices_symMergeCmpFunc_haircut_Item.l2 k l0 a2 a1 a2) = some r) : Calls Try.prog 51 #[u9000_, .int .i64 a1, .int .i64 a2, .int .i64 a3, .func (.func 39) #[] #[]] w fun e w' => e = .returned (.tuple #[]) ∧ Kd.R k47 47 w' w0.heap.size (fun k_ => (P0_ k_ ∨ w.heap.size ≤ k_)) u9000_ r ∧ Below w0.heap.size w0 w' ∧ Kept w w' (fun k_ => P0_ k_) := by
 have hu47 := Try.underlying47
 have HO0 := Aside0.mk (show Kd.R k47 47 w w0.heap.size (fun k_ => (P0_ k_ ∨ w.heap.size ≤ k_)) u9000_ l0 from Kd.R_mono ho0 (fun k_ hk => (.inl hk)))
 have HK := Aside0.mk (Kept.refl w (fun k_ => P0_ k_))
 have HW0 := Aside0.mk hB.size
 have HB := Aside0.mk hB; clear hB
 have c6b0 : ((wrap64 (a2 - a1)) == 1) = false := beq_eq_false_iff_ne.mpr c6
 have c6b1 : ((wrap64 (a2 - a1)) != 1) = true := bne_iff_ne.mpr c6
 have c33b0 : ((wrap64 (a3 - a2)) == 1) = true := beq_iff_eq.mpr c33
 have c33b1 : ((wrap64 (a3 - a2)) != 1) = false := bne_eq_false_iff_eq.mpr c33
 clear c33
 have H' := Aside0.mk H
 clear H
 go_enter Try.func51, Try.ntmps51
 go_wp2
 go_loopg [14, 15] k (fun kq v14 v15 w' => ∃ (x14_1 : Int) (x15_1 : Int), v14 = .int .i64 x14_1 ∧ v15 = .int .i64 x15_1 ∧ Aside0 (slices_symMergeCmpFunc_haircut_Item.l2 kq l0 a2 x14_1 x15_1 = some r) ∧ Aside0 (kq ≤ k) ∧ Aside0 (Kd.R k47 47 w' w0.heap.size (fun k_ => (P0_ k_ ∨ w.heap.size ≤ k_)) u9000_ l0) ∧ Aside0 (Kept w w' (fun k_ => P0_ k_)) ∧ Aside0 (Below w0.heap.size w0 w'))
 case atStart => exact ⟨(a1), (a2), ac, ac, H', ⟨Nat.le_refl _⟩, ⟨gR HO0⟩, ⟨gP HK⟩, ⟨gB HB⟩⟩
 case round =>
  clear H'; (try clear c1); (try clear c2); (try clear p2); (try clear q2); (try clear hx2); (try clear c3); (try clear p3); (try clear q3); (try clear hx3); (try clear p4); (try clear q4); (try clear hx4); (try clear c5); (try clear c6); (try clear c6b0); (try clear c6b1); (try clear p6); (try clear c7); (try clear c7b0); (try clear c9); (try clear c9b0); (try clear c10); (try clear c10b0); (try clear c11); (try clear c11b0); (try clear c12); (try clear c12b0); (try clear c14); (try clear c14b0); (try clear c21); (try clear c21b0); (try clear c23); (try clear c23b0); (try clear c24); (try clear c24b0); (try clear c25); (try clear c25b0); (try clear c26); (try clear c26b0); (try clear c27); (try clear p27); (try clear q27); (try clear hx27); (try clear hf27); (try clear c28); (try clear p28); (try clear q28); (try clear hx28); (try clear hf28); (try clear c31); (try clear c32); (try clear c33); (try clear c33b0); (try clear c33b1); (try clear hx27_0); (try clear hx27_1); (try clear hx27_2); (try clear hx27_3); (try clear hx27_4); (try clear hx27_5); (try clear hx27_6); (try clear hx27_7); (try clear hx27_8); (try clear hx28_0); (try clear hx28_1); (try clear hx28_2); (try clear hx28_3); (try clear hx28_4); (try clear hx28_5); (try clear hx28_6); (try clear hx28_7); (try clear hx28_8); (try clear hx398_0); (try clear hx398_1); (try clear hx398_2); (try clear hx398_3); (try clear hx398_4); (try clear hx398_5); (try clear hx398_6); (try clear hx398_7); (try clear hx398_8); (try clear hx399_0); (try clear hx399_1); (try clear hx399_2); (try clear hx399_3); (try clear hx399_4); (try clear hx399_5); (try clear hx399_6); (try clear hx399_7); (try clear hx399_8); (try clear hx401_0); (try clear hx401_1); (try clear hx401_2); (try clear hx401_3); (try clear hx401_4); (try clear hx401_5); (try clear hx401_6); (try clear hx401_7); (try clear hx401_8); (try clear hx402_0); (try clear hx402_1); (try clear hx402_2); (try clear hx402_3); (try clear hx402_4); (try clear hx402_5); (try clear hx402_6); (try clear hx402_7); (try clear hx402_8); (try clear p2); (try clear p27); (try clear p28); (try clear p3); (try clear p398); (try clear p399); (try clear p401); (try clear p402); (try clear p6); (try clear q27); (try clear q28); (try clear q3); (try clear q398); (try clear q399); (try clear q401); (try clear q402)
  obtain ⟨x14_1, x15_1, rfl, rfl, HA, HK1, HO_0, HK, HB⟩ := hrel
  cases gk with
  | zero => exact absurd HA.out (by simp [slices_symMergeCmpFunc_haircut_Item.l2])
  | succ k1 =>
   have H := HA.out
   clear HA
   simp only [slices_symMergeCmpFunc_haircut_Item.l2] at H
   by_cases c34 : x14_1 < x15_1
   · rw [if_pos c34] at H
     have c34b0 : decide (x14_1 < x15_1) = true := decide_eq_true c34
     clear c34
     by_cases c35 : 0 ≤ a2
     · rw [if_pos c35] at H
       have c35b0 : decide (0 ≤ a2) = true := decide_eq_true c35
       clear c35
       by_cases c36 : a2 < (l0.length : Int)
       · rw [if_pos c36] at H
         have c36b0 : decide (a2 < (l0.length : Int)) = true := decide_eq_true c36
         clear c36
         obtain ⟨ji37, hji37⟩ : ∃ j_ : Int, (wrap64 ((IntKind.u64.wrap (wrap64 (x14_1 + x15_1))) / 2)) = j_ := ⟨_, rfl⟩
         replace H : (if 0 ≤ (ji37) then (if (ji37) < (l0.length : Int) then ((lots_order.f k1 ((rd_T47 l0 a2).f0.f0) ((rd_T47 l0 a2).f0.f1) ((rd_T47 l0 a2).f1.f0) ((rd_T47 l0 a2).f1.f1) ((rd_T47 l0 a2).f1.f2) ((rd_T47 l0 a2).f1.f3) ((rd_T47 l0 a2).f1.f4) ((rd_T47 l0 a2).f2) ((rd_T47 l0 a2).f3) ((rd_T47 l0 (ji37)).f0.f0) ((rd_T47 l0 (ji37)).f0.f1) ((rd_T47 l0 (ji37)).f1.f0) ((rd_T47 l0 (ji37)).f1.f1) ((rd_T47 l0 (ji37)).f1.f2) ((rd_T47 l0 (ji37)).f1.f3) ((rd_T47 l0 (ji37)).f1.f4) ((rd_T47 l0 (ji37)).f2) ((rd_T47 l0 (ji37)).f3)).bind fun t407 => (if t407 < 0 then (slices_symMergeCmpFunc_haircut_Item.l2 k1 l0 a2 x14_1 ji37) else (slices_symMergeCmpFunc_haircut_Item.l2 k1 l0 a2 (wrap64 ((ji37) + 1)) x15_1))) else (none)) else (none)) = some r := by first | (rw [hji37] at H; exact H) | (simp only [hji37] at H ⊢; exact H)
         have hji37w : (IntKind.i64.wrap ((IntKind.u64.wrap (wrap64 (x14_1 + x15_1))) / 2)) = ji37 := (i64_w _).trans hji37
         by_cases c38 : 0 ≤ (ji37)
         · rw [if_pos c38] at H
           have c38b0 : decide (0 ≤ (ji37)) = true := decide_eq_true c38
           clear c38
           by_cases c39 : (ji37) < (l0.length : Int)
           · rw [if_pos c39] at H
             have c39b0 : decide ((ji37) < (l0.length : Int)) = true := decide_eq_true c39
             clear c39
             replace H := Option.bind_eq_some_iff.mp H
             obtain ⟨t407, A400, H⟩ := H
             replace H : (if t407 < 0 then (slices_symMergeCmpFunc_haircut_Item.l2 k1 l0 a2 x14_1 ji37) else (slices_symMergeCmpFunc_haircut_Item.l2 k1 l0 a2 (wrap64 ((ji37) + 1)) x15_1)) = some r := H
             have A40 := Aside0.mk A400; clear A400
             by_cases c41 : t407 < 0
             · rw [if_pos c41] at H
               have c41b0 : decide (t407 < 0) = true := decide_eq_true c41
               clear c41
               have H' := Aside0.mk H
               clear H
               try go_wp2
               have n0_ := Aside0.mk (Kd.R_drew HO_0.out)
               have n1_ := Aside0.mk (Kept.drew HK.out)
               have n2_ := Aside0.mk (below_drew1 HB.out)
               clear HO_0; clear HK; clear HB
               have HO_0 := n0_
               have HK := n1_
               have HB := n2_
               clear n0_ n1_ n2_
               obtain ⟨Ao43, co43, eo43⟩ := Kd.R_slice HO_0.out
               (first | subst eo43 | (injection eo43 with f1_ f2_ f3_; have f4_ := f1_.symm; have f5_ := f3_.symm; clear f1_ f2_ f3_; subst f4_; subst f5_))
               have p405 : 0 ≤ (a2 : Int) := od
               have q405 : a2 < (l0.length : Int) := od
               obtain ⟨ad405, e405, hx405_0, hx405_1, hx405_2, hx405_3, hx405_4, hx405_5, hx405_6, hx405_7, hx405_8⟩ := at_T47 (Kd.R_reads' HO_0.out).2.2 a2 p405 q405
               cases e405; replace p405 := eq_true p405; replace q405 := eq_true q405
               have p406 : 0 ≤ ((ji37) : Int) := od
               have q406 : (ji37) < (l0.length : Int) := od
               obtain ⟨ad406, e406, hx406_0, hx406_1, hx406_2, hx406_3, hx406_4, hx406_5, hx406_6, hx406_7, hx406_8⟩ := at_T47 (Kd.R_reads' HO_0.out).2.2 (ji37) p406 q406
               obtain rfl : ad405 = ad406 := (by injection e406)
               replace p406 := eq_true p406; replace q406 := eq_true q406
               refine start_ (n := 12) (S := fun w' => w'.cell? (ad405.add ((a2).toNat * 9)) = some (.string ((rd_T47 l0 a2).f0.f0)) ∧ w'.cell? ⟨(ad405.add ((a2).toNat * 9)).block, (ad405.add ((a2).toNat * 9)).off + 1, none⟩ = some (.int .i64 ((rd_T47 l0 a2).f0.f1)) ∧ w'.cell? ⟨(ad405.add ((a2).toNat * 9)).block, (ad405.add ((a2).toNat * 9)).off + 2, none⟩ = some (.string ((rd_T47 l0 a2).f1.f0)) ∧ w'.cell? ⟨(ad405.add ((a2).toNat * 9)).block, (ad405.add ((a2).toNat * 9)).off + 3, none⟩ = some (.int .i64 ((rd_T47 l0 a2).f1.f1)) ∧ w'.cell? ⟨(ad405.add ((a2).toNat * 9)).block, (ad405.add ((a2).toNat * 9)).off + 4, none⟩ = some (.int .i64 ((rd_T47 l0 a2).f1.f2)) ∧ w'.cell? ⟨(ad405.add ((a2).toNat * 9)).block, (ad405.add ((a2).toNat * 9)).off + 5, none⟩ = some (.int .i64 ((rd_T47 l0 a2).f1.f3)) ∧ w'.cell? ⟨(ad405.add ((a2).toNat * 9)).block, (ad405.add ((a2).toNat * 9)).off + 6, none⟩ = some (.string ((rd_T47 l0 a2).f1.f4)) ∧ w'.cell? ⟨(ad405.add ((a2).toNat * 9)).block, (ad405.add ((a2).toNat * 9)).off + 7, none⟩ = some (.int .i64 ((rd_T47 l0 a2).f2)) ∧ w'.cell? ⟨(ad405.add ((a2).toNat * 9)).block, (ad405.add ((a2).toNat * 9)).off + 8, none⟩ = some (.int .i64 ((rd_T47 l0 a2).f3)) ∧ w'.cell? (ad405.add (((ji37)).toNat * 9)) = some (.string ((rd_T47 l0 (ji37)).f0.f0)) ∧ w'.cell? ⟨(ad405.add (((ji37)).toNat * 9)).block, (ad405.add (((ji37)).toNat * 9)).off + 1, none⟩ = some (.int .i64 ((rd_T47 l0 (ji37)).f0.f1)) ∧ w'.cell? ⟨(ad405.add (((ji37)).toNat * 9)).block, (ad405.add (((ji37)).toNat * 9)).off + 2, none⟩ = some (.string ((rd_T47 l0 (ji37)).f1.f0)) ∧ w'.cell? ⟨(ad405.add (((ji37)).toNat * 9)).block, (ad405.add (((ji37)).toNat * 9)).off + 3, none⟩ = some (.int .i64 ((rd_T47 l0 (ji37)).f1.f1)) ∧ w'.cell? ⟨(ad405.add (((ji37)).toNat * 9)).block, (ad405.add (((ji37)).toNat * 9)).off + 4, none⟩ = some (.int .i64 ((rd_T47 l0 (ji37)).f1.f2)) ∧ w'.cell? ⟨(ad405.add (((ji37)).toNat * 9)).block, (ad405.add (((ji37)).toNat * 9)).off + 5, none⟩ = some (.int .i64 ((rd_T47 l0 (ji37)).f1.f3)) ∧ w'.cell? ⟨(ad405.add (((ji37)).toNat * 9)).block, (ad405.add (((ji37)).toNat * 9)).off + 6, none⟩ = some (.string ((rd_T47 l0 (ji37)).f1.f4)) ∧ w'.cell? ⟨(ad405.add (((ji37)).toNat * 9)).block, (ad405.add (((ji37)).toNat * 9)).off + 7, none⟩ = some (.int .i64 ((rd_T47 l0 (ji37)).f2)) ∧ w'.cell? ⟨(ad405.add (((ji37)).toNat * 9)).block, (ad405.add (((ji37)).toNat * 9)).off + 8, none⟩ = some (.int .i64 ((rd_T47 l0 (ji37)).f3))) (ds := []) (pf 12 0) (by kernel_rfl) rfl rfl ⟨hx405_0, hx405_1, hx405_2, hx405_3, hx405_4, hx405_5, hx405_6, hx405_7, hx405_8, hx406_0, hx406_1, hx406_2, hx406_3, hx406_4, hx406_5, hx406_6, hx406_7, hx406_8⟩ (fun hHeld => ?_); refine with_tabW slices_symMergeCmpFunc_haircut_Item.tab17 slices_symMergeCmpFunc_haircut_Item.bits17 (fun HT_ HW_ => ?_)
               generalize wr.drew = w42 at HO_0 HK HB hx405_0 hx405_1 hx405_2 hx405_3 hx405_4 hx405_5 hx405_6 hx405_7 hx405_8 hx406_0 hx406_1 hx406_2 hx406_3 hx406_4 hx406_5 hx406_6 hx406_7 hx406_8 hHeld ⊢
               refine pA (i := 0) (N := some 92) HT_ (pf 12 1) ?_
               refine pA (i := 1) (N := some 93) HT_ (pf 12 2) ?_
               refine pA (i := 2) (N := some 94) HT_ (pf 12 3) ?_
               refine pA (i := 3) (N := some 95) HT_ (pf 12 4) ?_
               refine pA (i := 5) (N := some 97) HT_ qx16_6 ?_
               refine pA (i := 6) (N := some 98) HT_ qx16_7 ?_
               refine pA (i := 7) (N := some 99) HT_ qx16_8 ?_
               refine take_ (i := 4) (N := some 96) (v := ?_) (a' := ?_) (pf 12 8) rfl rfl (take_ofW HT_.out HW_.out (by kernel_rfl)) (fun _ _ _ h => h) (Or.inl ⟨by rfl, ?_⟩) hHeld ?_ ?_
               rotate_left
               · rintro w' ⟨s0, s1, s2, s3, s4, s5, s6, s7, s8, s9, s10, s11, s12, s13, s14, s15, s16, s17⟩
                 go_simp
                 with_reducible rfl
               rotate_left
               · simp only [Act.put, sA, sB, sC, i64_w, i32_w]
                 rfl
               refine take_ (i := 8) (N := some 100) (v := ?_) (a' := ?_) (pf 12 9) rfl rfl (take_ofW HT_.out HW_.out (by kernel_rfl)) (fun _ _ _ h => h) (Or.inl ⟨by rfl, ?_⟩) hHeld ?_ ?_
               rotate_left
               · rintro w' ⟨s0, s1, s2, s3, s4, s5, s6, s7, s8, s9, s10, s11, s12, s13, s14, s15, s16, s17⟩
                 go_simp
                 with_reducible rfl
               rotate_left
               · simp only [Act.put, sA, sB, sC, i64_w, i32_w]
                 rfl
               refine one_ (i := 9) (N := some 101) (pf 12 10) rfl rfl (one_of HT_.out (by kernel_rfl)) (by decide) (fun K hK => ?_)
               refine goesV_ (by rfl) Try.func39 (by kernel_rfl) rfl #[.agg #[.string ((rd_T47 l0 a2).f0.f0), .int .i64 ((rd_T47 l0 a2).f0.f1), .string ((rd_T47 l0 a2).f1.f0), .int .i64 ((rd_T47 l0 a2).f1.f1), .int .i64 ((rd_T47 l0 a2).f1.f2), .int .i64 ((rd_T47 l0 a2).f1.f3), .string ((rd_T47 l0 a2).f1.f4), .int .i64 ((rd_T47 l0 a2).f2), .int .i64 ((rd_T47 l0 a2).f3)], .agg #[.string ((rd_T47 l0 (ji37)).f0.f0), .int .i64 ((rd_T47 l0 (ji37)).f0.f1), .string ((rd_T47 l0 (ji37)).f1.f0), .int .i64 ((rd_T47 l0 (ji37)).f1.f1), .int .i64 ((rd_T47 l0 (ji37)).f1.f2), .int .i64 ((rd_T47 l0 (ji37)).f1.f3), .string ((rd_T47 l0 (ji37)).f1.f4), .int .i64 ((rd_T47 l0 (ji37)).f2), .int .i64 ((rd_T47 l0 (ji37)).f3)]] (by rfl) rfl rfl (by (try simp only [List.map_toArray, List.map_cons, List.map_nil]); first | done | (simp only [hji37]; rfl) | rfl | (simp only [List.length_drop, List.length_take]; rfl)) ?_
               with_reducible refine (lots_order.calls k1 ((rd_T47 l0 a2).f0.f0) ((rd_T47 l0 a2).f0.f1) ((rd_T47 l0 a2).f1.f0) ((rd_T47 l0 a2).f1.f1) ((rd_T47 l0 a2).f1.f2) ((rd_T47 l0 a2).f1.f3) ((rd_T47 l0 a2).f1.f4) ((rd_T47 l0 a2).f2) ((rd_T47 l0 a2).f3) ((rd_T47 l0 (ji37)).f0.f0) ((rd_T47 l0 (ji37)).f0.f1) ((rd_T47 l0 (ji37)).f1.f0) ((rd_T47 l0 (ji37)).f1.f1) ((rd_T47 l0 (ji37)).f1.f2) ((rd_T47 l0 (ji37)).f1.f3) ((rd_T47 l0 (ji37)).f1.f4) ((rd_T47 l0 (ji37)).f2) ((rd_T47 l0 (ji37)).f3) t407 _ A40.out).mono ?_
               rintro e w44 ⟨rfl, hb⟩
               have HS0_ := (hb.cell (World.block_lt_of_cell? _ _ (hHeld.1))).trans (hHeld.1)
               have HS1_ := (hb.cell (World.block_lt_of_cell? _ _ (hHeld.2.1))).trans (hHeld.2.1)
               have HS2_ := (hb.cell (World.block_lt_of_cell? _ _ (hHeld.2.2.1))).trans (hHeld.2.2.1)
               have HS3_ := (hb.cell (World.block_lt_of_cell? _ _ (hHeld.2.2.2.1))).trans (hHeld.2.2.2.1)
               have HS4_ := (hb.cell (World.block_lt_of_cell? _ _ (hHeld.2.2.2.2.1))).trans (hHeld.2.2.2.2.1)
               have HS5_ := (hb.cell (World.block_lt_of_cell? _ _ (hHeld.2.2.2.2.2.1))).trans (hHeld.2.2.2.2.2.1)
               have HS6_ := (hb.cell (World.block_lt_of_cell? _ _ (hHeld.2.2.2.2.2.2.1))).trans (hHeld.2.2.2.2.2.2.1)
               have HS7_ := (hb.cell (World.block_lt_of_cell? _ _ (hHeld.2.2.2.2.2.2.2.1))).trans (hHeld.2.2.2.2.2.2.2.1)
               have HS8_ := (hb.cell (World.block_lt_of_cell? _ _ (hHeld.2.2.2.2.2.2.2.2.1))).trans (hHeld.2.2.2.2.2.2.2.2.1)
               have HS9_ := (hb.cell (World.block_lt_of_cell? _ _ (hHeld.2.2.2.2.2.2.2.2.2.1))).trans (hHeld.2.2.2.2.2.2.2.2.2.1)
               have HS10_ := (hb.cell (World.block_lt_of_cell? _ _ (hHeld.2.2.2.2.2.2.2.2.2.2.1))).trans (hHeld.2.2.2.2.2.2.2.2.2.2.1)
               have HS11_ := (hb.cell (World.block_lt_of_cell? _ _ (hHeld.2.2.2.2.2.2.2.2.2.2.2.1))).trans (hHeld.2.2.2.2.2.2.2.2.2.2.2.1)
               have HS12_ := (hb.cell (World.block_lt_of_cell? _ _ (hHeld.2.2.2.2.2.2.2.2.2.2.2.2.1))).trans (hHeld.2.2.2.2.2.2.2.2.2.2.2.2.1)
               have HS13_ := (hb.cell (World.block_lt_of_cell? _ _ (hHeld.2.2.2.2.2.2.2.2.2.2.2.2.2.1))).trans (hHeld.2.2.2.2.2.2.2.2.2.2.2.2.2.1)
               have HS14_ := (hb.cell (World.block_lt_of_cell? _ _ (hHeld.2.2.2.2.2.2.2.2.2.2.2.2.2.2.1))).trans (hHeld.2.2.2.2.2.2.2.2.2.2.2.2.2.2.1)
               have HS15_ := (hb.cell (World.block_lt_of_cell? _ _ (hHeld.2.2.2.2.2.2.2.2.2.2.2.2.2.2.2.1))).trans (hHeld.2.2.2.2.2.2.2.2.2.2.2.2.2.2.2.1)
               have HS16_ := (hb.cell (World.block_lt_of_cell? _ _ (hHeld.2.2.2.2.2.2.2.2.2.2.2.2.2.2.2.2.1))).trans (hHeld.2.2.2.2.2.2.2.2.2.2.2.2.2.2.2.2.1)
               have HS17_ := (hb.cell (World.block_lt_of_cell? _ _ (hHeld.2.2.2.2.2.2.2.2.2.2.2.2.2.2.2.2.2))).trans (hHeld.2.2.2.2.2.2.2.2.2.2.2.2.2.2.2.2.2)
               refine ⟨_, rfl, ?_⟩
               have n0_ := Aside0.mk (Kd.R_below (gR HO_0) hb)
               have n1_ := Aside0.mk (Kept.below (S := (fun k_ => P0_ k_)) (gP HK) hb)
               have n2_ := Aside0.mk (below_step (gB HB) hb)
               clear HO_0; clear HK; clear HB
               have HO_0 := n0_
               have HK := n1_
               have HB := n2_
               clear n0_ n1_ n2_
               try clear hb
               try clear hb2
               try clear hk
               try clear hi
               refine hK.out _ _ ⟨HS0_, HS1_, HS2_, HS3_, HS4_, HS5_, HS6_, HS7_, HS8_, HS9_, HS10_, HS11_, HS12_, HS13_, HS14_, HS15_, HS16_, HS17_⟩ (fun hHeld => ?_)
               clear hK K
               refine norm_ (a' := ?_) ?_ ?_
               rotate_left
               · show Act.put _ (some 101) _ = _
                 simp only [Act.put, sA, sB, sC, i64_w, i32_w]
                 rfl
               refine pA (i := 10) (N := some 102) HT_ (pf 12 11) ?_
               refine pA (i := 11) (N := some 103) HT_ (pf 12 12) ?_
               refine done_ (done_of HT_.out (by kernel_rfl)) ?_
               try go_wp2
               go_roundg k1
               case measure => have := HK1.out; omega
               case rel => exact ⟨(x14_1), (ji37), ac, (by first | rfl | (simp; done) | (simp only [← hji37] <;> (first | rfl | simp)) | (simp [*]; done)), H', ⟨by have := HK1.out; omega⟩, ⟨gR HO_0⟩, ⟨gP HK⟩, ⟨gB HB⟩⟩
             · rw [if_neg c41] at H
               have c41b0 : decide (t407 < 0) = false := decide_eq_false c41
               clear c41
               have H' := Aside0.mk H
               clear H
               try go_wp2
               have n0_ := Aside0.mk (Kd.R_drew HO_0.out)
               have n1_ := Aside0.mk (Kept.drew HK.out)
               have n2_ := Aside0.mk (below_drew1 HB.out)
               clear HO_0; clear HK; clear HB
               have HO_0 := n0_
               have HK := n1_
               have HB := n2_
               clear n0_ n1_ n2_
               obtain ⟨Ao46, co46, eo46⟩ := Kd.R_slice HO_0.out
               (first | subst eo46 | (injection eo46 with f1_ f2_ f3_; have f4_ := f1_.symm; have f5_ := f3_.symm; clear f1_ f2_ f3_; subst f4_; subst f5_))
               have p405 : 0 ≤ (a2 : Int) := od
               have q405 : a2 < (l0.length : Int) := od
               obtain ⟨ad405, e405, hx405_0, hx405_1, hx405_2, hx405_3, hx405_4, hx405_5, hx405_6, hx405_7, hx405_8⟩ := at_T47 (Kd.R_reads' HO_0.out).2.2 a2 p405 q405
               cases e405; replace p405 := eq_true p405; replace q405 := eq_true q405
               have p406 : 0 ≤ ((ji37) : Int) := od
               have q406 : (ji37) < (l0.length : Int) := od
               obtain ⟨ad406, e406, hx406_0, hx406_1, hx406_2, hx406_3, hx406_4, hx406_5, hx406_6, hx406_7, hx406_8⟩ := at_T47 (Kd.R_reads' HO_0.out).2.2 (ji37) p406 q406
               obtain rfl : ad405 = ad406 := (by injection e406)
               replace p406 := eq_true p406; replace q406 := eq_true q406
               refine start_ (n := 12) (S := fun w' => w'.cell? (ad405.add ((a2).toNat * 9)) = some (.string ((rd_T47 l0 a2).f0.f0)) ∧ w'.cell? ⟨(ad405.add ((a2).toNat * 9)).block, (ad405.add ((a2).toNat * 9)).off + 1, none⟩ = some (.int .i64 ((rd_T47 l0 a2).f0.f1)) ∧ w'.cell? ⟨(ad405.add ((a2).toNat * 9)).block, (ad405.add ((a2).toNat * 9)).off + 2, none⟩ = some (.string ((rd_T47 l0 a2).f1.f0)) ∧ w'.cell? ⟨(ad405.add ((a2).toNat * 9)).block, (ad405.add ((a2).toNat * 9)).off + 3, none⟩ = some (.int .i64 ((rd_T47 l0 a2).f1.f1)) ∧ w'.cell? ⟨(ad405.add ((a2).toNat * 9)).block, (ad405.add ((a2).toNat * 9)).off + 4, none⟩ = some (.int .i64 ((rd_T47 l0 a2).f1.f2)) ∧ w'.cell? ⟨(ad405.add ((a2).toNat * 9)).block, (ad405.add ((a2).toNat * 9)).off + 5, none⟩ = some (.int .i64 ((rd_T47 l0 a2).f1.f3)) ∧ w'.cell? ⟨(ad405.add ((a2).toNat * 9)).block, (ad405.add ((a2).toNat * 9)).off + 6, none⟩ = some (.string ((rd_T47 l0 a2).f1.f4)) ∧ w'.cell? ⟨(ad405.add ((a2).toNat * 9)).block, (ad405.add ((a2).toNat * 9)).off + 7, none⟩ = some (.int .i64 ((rd_T47 l0 a2).f2)) ∧ w'.cell? ⟨(ad405.add ((a2).toNat * 9)).block, (ad405.add ((a2).toNat * 9)).off + 8, none⟩ = some (.int .i64 ((rd_T47 l0 a2).f3)) ∧ w'.cell? (ad405.add (((ji37)).toNat * 9)) = some (.string ((rd_T47 l0 (ji37)).f0.f0)) ∧ w'.cell? ⟨(ad405.add (((ji37)).toNat * 9)).block, (ad405.add (((ji37)).toNat * 9)).off + 1, none⟩ = some (.int .i64 ((rd_T47 l0 (ji37)).f0.f1)) ∧ w'.cell? ⟨(ad405.add (((ji37)).toNat * 9)).block, (ad405.add (((ji37)).toNat * 9)).off + 2, none⟩ = some (.string ((rd_T47 l0 (ji37)).f1.f0)) ∧ w'.cell? ⟨(ad405.add (((ji37)).toNat * 9)).block, (ad405.add (((ji37)).toNat * 9)).off + 3, none⟩ = some (.int .i64 ((rd_T47 l0 (ji37)).f1.f1)) ∧ w'.cell? ⟨(ad405.add (((ji37)).toNat * 9)).block, (ad405.add (((ji37)).toNat * 9)).off + 4, none⟩ = some (.int .i64 ((rd_T47 l0 (ji37)).f1.f2)) ∧ w'.cell? ⟨(ad405.add (((ji37)).toNat * 9)).block, (ad405.add (((ji37)).toNat * 9)).off + 5, none⟩ = some (.int .i64 ((rd_T47 l0 (ji37)).f1.f3)) ∧ w'.cell? ⟨(ad405.add (((ji37)).toNat * 9)).block, (ad405.add (((ji37)).toNat * 9)).off + 6, none⟩ = some (.string ((rd_T47 l0 (ji37)).f1.f4)) ∧ w'.cell? ⟨(ad405.add (((ji37)).toNat * 9)).block, (ad405.add (((ji37)).toNat * 9)).off + 7, none⟩ = some (.int .i64 ((rd_T47 l0 (ji37)).f2)) ∧ w'.cell? ⟨(ad405.add (((ji37)).toNat * 9)).block, (ad405.add (((ji37)).toNat * 9)).off + 8, none⟩ = some (.int .i64 ((rd_T47 l0 (ji37)).f3))) (ds := []) (pf 12 0) (by kernel_rfl) rfl rfl ⟨hx405_0, hx405_1, hx405_2, hx405_3, hx405_4, hx405_5, hx405_6, hx405_7, hx405_8, hx406_0, hx406_1, hx406_2, hx406_3, hx406_4, hx406_5, hx406_6, hx406_7, hx406_8⟩ (fun hHeld => ?_); refine with_tabW slices_symMergeCmpFunc_haircut_Item.tab17 slices_symMergeCmpFunc_haircut_Item.bits17 (fun HT_ HW_ => ?_)
               generalize wr.drew = w45 at HO_0 HK HB hx405_0 hx405_1 hx405_2 hx405_3 hx405_4 hx405_5 hx405_6 hx405_7 hx405_8 hx406_0 hx406_1 hx406_2 hx406_3 hx406_4 hx406_5 hx406_6 hx406_7 hx406_8 hHeld ⊢
               refine pA (i := 0) (N := some 92) HT_ (pf 12 1) ?_
               refine pA (i := 1) (N := some 93) HT_ (pf 12 2) ?_
               refine pA (i := 2) (N := some 94) HT_ (pf 12 3) ?_
               refine pA (i := 3) (N := some 95) HT_ (pf 12 4) ?_
               refine pA (i := 5) (N := some 97) HT_ qx16_6 ?_
               refine pA (i := 6) (N := some 98) HT_ qx16_7 ?_
               refine pA (i := 7) (N := some 99) HT_ qx16_8 ?_
               refine take_ (i := 4) (N := some 96) (v := ?_) (a' := ?_) (pf 12 8) rfl rfl (take_ofW HT_.out HW_.out (by kernel_rfl)) (fun _ _ _ h => h) (Or.inl ⟨by rfl, ?_⟩) hHeld ?_ ?_
               rotate_left
               · rintro w' ⟨s0, s1, s2, s3, s4, s5, s6, s7, s8, s9, s10, s11, s12, s13, s14, s15, s16, s17⟩
                 go_simp
                 with_reducible rfl
               rotate_left
               · simp only [Act.put, sA, sB, sC, i64_w, i32_w]
                 rfl
               refine take_ (i := 8) (N := some 100) (v := ?_) (a' := ?_) (pf 12 9) rfl rfl (take_ofW HT_.out HW_.out (by kernel_rfl)) (fun _ _ _ h => h) (Or.inl ⟨by rfl, ?_⟩) hHeld ?_ ?_
               rotate_left
               · rintro w' ⟨s0, s1, s2, s3, s4, s5, s6, s7, s8, s9, s10, s11, s12, s13, s14, s15, s16, s17⟩
                 go_simp
                 with_reducible rfl
               rotate_left
               · simp only [Act.put, sA, sB, sC, i64_w, i32_w]
                 rfl
               refine one_ (i := 9) (N := some 101) (pf 12 10) rfl rfl (one_of HT_.out (by kernel_rfl)) (by decide) (fun K hK => ?_)
               refine goesV_ (by rfl) Try.func39 (by kernel_rfl) rfl #[.agg #[.string ((rd_T47 l0 a2).f0.f0), .int .i64 ((rd_T47 l0 a2).f0.f1), .string ((rd_T47 l0 a2).f1.f0), .int .i64 ((rd_T47 l0 a2).f1.f1), .int .i64 ((rd_T47 l0 a2).f1.f2), .int .i64 ((rd_T47 l0 a2).f1.f3), .string ((rd_T47 l0 a2).f1.f4), .int .i64 ((rd_T47 l0 a2).f2), .int .i64 ((rd_T47 l0 a2).f3)], .agg #[.string ((rd_T47 l0 (ji37)).f0.f0), .int .i64 ((rd_T47 l0 (ji37)).f0.f1), .string ((rd_T47 l0 (ji37)).f1.f0), .int .i64 ((rd_T47 l0 (ji37)).f1.f1), .int .i64 ((rd_T47 l0 (ji37)).f1.f2), .int .i64 ((rd_T47 l0 (ji37)).f1.f3), .string ((rd_T47 l0 (ji37)).f1.f4), .int .i64 ((rd_T47 l0 (ji37)).f2), .int .i64 ((rd_T47 l0 (ji37)).f3)]] (by rfl) rfl rfl (by (try simp only [List.map_toArray, List.map_cons, List.map_nil]); first | done | (simp only [hji37]; rfl) | rfl | (simp only [List.length_drop, List.length_take]; rfl)) ?_
               with_reducible refine (lots_order.calls k1 ((rd_T47 l0 a2).f0.f0) ((rd_T47 l0 a2).f0.f1) ((rd_T47 l0 a2).f1.f0) ((rd_T47 l0 a2).f1.f1) ((rd_T47 l0 a2).f1.f2) ((rd_T47 l0 a2).f1.f3) ((rd_T47 l0 a2).f1.f4) ((rd_T47 l0 a2).f2) ((rd_T47 l0 a2).f3) ((rd_T47 l0 (ji37)).f0.f0) ((rd_T47 l0 (ji37)).f0.f1) ((rd_T47 l0 (ji37)).f1.f0) ((rd_T47 l0 (ji37)).f1.f1) ((rd_T47 l0 (ji37)).f1.f2) ((rd_T47 l0 (ji37)).f1.f3) ((rd_T47 l0 (ji37)).f1.f4) ((rd_T47 l0 (ji37)).f2) ((rd_T47 l0 (ji37)).f3) t407 _ A40.out).mono ?_
               rintro e w47 ⟨rfl, hb⟩
               have HS0_ := (hb.cell (World.block_lt_of_cell? _ _ (hHeld.1))).trans (hHeld.1)
               have HS1_ := (hb.cell (World.block_lt_of_cell? _ _ (hHeld.2.1))).trans (hHeld.2.1)
               have HS2_ := (hb.cell (World.block_lt_of_cell? _ _ (hHeld.2.2.1))).trans (hHeld.2.2.1)
               have HS3_ := (hb.cell (World.block_lt_of_cell? _ _ (hHeld.2.2.2.1))).trans (hHeld.2.2.2.1)
               have HS4_ := (hb.cell (World.block_lt_of_cell? _ _ (hHeld.2.2.2.2.1))).trans (hHeld.2.2.2.2.1)
               have HS5_ := (hb.cell (World.block_lt_of_cell? _ _ (hHeld.2.2.2.2.2.1))).trans (hHeld.2.2.2.2.2.1)
               have HS6_ := (hb.cell (World.block_lt_of_cell? _ _ (hHeld.2.2.2.2.2.2.1))).trans (hHeld.2.2.2.2.2.2.1)
               have HS7_ := (hb.cell (World.block_lt_of_cell? _ _ (hHeld.2.2.2.2.2.2.2.1))).trans (hHeld.2.2.2.2.2.2.2.1)
               have HS8_ := (hb.cell (World.block_lt_of_cell? _ _ (hHeld.2.2.2.2.2.2.2.2.1))).trans (hHeld.2.2.2.2.2.2.2.2.1)
               have HS9_ := (hb.cell (World.block_lt_of_cell? _ _ (hHeld.2.2.2.2.2.2.2.2.2.1))).trans (hHeld.2.2.2.2.2.2.2.2.2.1)
               have HS10_ := (hb.cell (World.block_lt_of_cell? _ _ (hHeld.2.2.2.2.2.2.2.2.2.2.1))).trans (hHeld.2.2.2.2.2.2.2.2.2.2.1)
               have HS11_ := (hb.cell (World.block_lt_of_cell? _ _ (hHeld.2.2.2.2.2.2.2.2.2.2.2.1))).trans (hHeld.2.2.2.2.2.2.2.2.2.2.2.1)
               have HS12_ := (hb.cell (World.block_lt_of_cell? _ _ (hHeld.2.2.2.2.2.2.2.2.2.2.2.2.1))).trans (hHeld.2.2.2.2.2.2.2.2.2.2.2.2.1)
               have HS13_ := (hb.cell (World.block_lt_of_cell? _ _ (hHeld.2.2.2.2.2.2.2.2.2.2.2.2.2.1))).trans (hHeld.2.2.2.2.2.2.2.2.2.2.2.2.2.1)
               have HS14_ := (hb.cell (World.block_lt_of_cell? _ _ (hHeld.2.2.2.2.2.2.2.2.2.2.2.2.2.2.1))).trans (hHeld.2.2.2.2.2.2.2.2.2.2.2.2.2.2.1)
               have HS15_ := (hb.cell (World.block_lt_of_cell? _ _ (hHeld.2.2.2.2.2.2.2.2.2.2.2.2.2.2.2.1))).trans (hHeld.2.2.2.2.2.2.2.2.2.2.2.2.2.2.2.1)
               have HS16_ := (hb.cell (World.block_lt_of_cell? _ _ (hHeld.2.2.2.2.2.2.2.2.2.2.2.2.2.2.2.2.1))).trans (hHeld.2.2.2.2.2.2.2.2.2.2.2.2.2.2.2.2.1)
               have HS17_ := (hb.cell (World.block_lt_of_cell? _ _ (hHeld.2.2.2.2.2.2.2.2.2.2.2.2.2.2.2.2.2))).trans (hHeld.2.2.2.2.2.2.2.2.2.2.2.2.2.2.2.2.2)
               refine ⟨_, rfl, ?_⟩
               have n0_ := Aside0.mk (Kd.R_below (gR HO_0) hb)
               have n1_ := Aside0.mk (Kept.below (S := (fun k_ => P0_ k_)) (gP HK) hb)
               have n2_ := Aside0.mk (below_step (gB HB) hb)
               clear HO_0; clear HK; clear HB
               have HO_0 := n0_
               have HK := n1_
               have HB := n2_
               clear n0_ n1_ n2_
               try clear hb
               try clear hb2
               try clear hk
               try clear hi
               refine hK.out _ _ ⟨HS0_, HS1_, HS2_, HS3_, HS4_, HS5_, HS6_, HS7_, HS8_, HS9_, HS10_, HS11_, HS12_, HS13_, HS14_, HS15_, HS16_, HS17_⟩ (fun hHeld => ?_)
               clear hK K
               refine norm_ (a' := ?_) ?_ ?_
               rotate_left
               · show Act.put _ (some 101) _ = _
                 simp only [Act.put, sA, sB, sC, i64_w, i32_w]
                 rfl
               refine pA (i := 10) (N := some 102) HT_ (pf 12 11) ?_
               refine pA (i := 11) (N := some 103) HT_ (pf 12 12) ?_
               refine done_ (done_of HT_.out (by kernel_rfl)) ?_
               try go_wp2
               go_roundg k1
               case measure => have := HK1.out; omega
               case rel => exact ⟨(wrap64 ((ji37) + 1)), (x15_1), (by first | rfl | (simp; done) | (simp only [← hji37] <;> (first | rfl | simp)) | (simp [*]; done)), ac, H', ⟨by have := HK1.out; omega⟩, ⟨gR HO_0⟩, ⟨gP HK⟩, ⟨gB HB⟩⟩
           · rw [if_neg c39] at H
             exact absurd H (by simp)
         · rw [if_neg c38] at H
           exact absurd H (by simp)
       · rw [if_neg c36] at H
         exact absurd H (by simp)
     · rw [if_neg c35] at H
       exact absurd H (by simp)
   · rw [if_neg c34] at H
     have c34b0 : decide (x14_1 < x15_1) = false := decide_eq_false c34
     clear c34
     have H' := Aside0.mk H
     clear H
     go_wp2
     go_loopg [17] k1 (fun kq v17 w' => ∃ (x0_2 : List (S47)) (x17_2 : Int), v17 = .int .i64 x17_2 ∧ Aside0 (slices_symMergeCmpFunc_haircut_Item.l3 kq x0_2 x14_1 x17_2 = some r) ∧ Aside0 (kq ≤ k1) ∧ Aside0 (Kd.R k47 47 w' w0.heap.size (fun k_ => (P0_ k_ ∨ w.heap.size ≤ k_)) u9000_ x0_2) ∧ Aside0 (Kept w w' (fun k_ => P0_ k_)) ∧ Aside0 (Below w0.heap.size w0 w'))
     case atStart => exact ⟨(l0), (a2), ac, H', ⟨Nat.le_refl _⟩, ⟨gR HO_0⟩, ⟨gP HK⟩, ⟨gB HB⟩⟩
     case round =>
      clear H'; (try clear c1); (try clear c2); (try clear p2); (try clear q2); (try clear hx2); (try clear c3); (try clear p3); (try clear q3); (try clear hx3); (try clear c4); (try clear p4); (try clear q4); (try clear hx4); (try clear c5); (try clear c6); (try clear c6b0); (try clear c6b1); (try clear p6); (try clear c7); (try clear c7b0); (try clear c9); (try clear c9b0); (try clear c10); (try clear c10b0); (try clear c11); (try clear c11b0); (try clear c12); (try clear c12b0); (try clear c14); (try clear c14b0); (try clear c21); (try clear c21b0); (try clear c23); (try clear c23b0); (try clear c24); (try clear c24b0); (try clear c25); (try clear c25b0); (try clear c26); (try clear c26b0); (try clear c27); (try clear p27); (try clear q27); (try clear hx27); (try clear hf27); (try clear c28); (try clear p28); (try clear q28); (try clear hx28); (try clear hf28); (try clear c31); (try clear c32); (try clear c33); (try clear c33b0); (try clear c33b1); (try clear c34); (try clear c34b0); (try clear c35); (try clear c35b0); (try clear c36); (try clear c36b0); (try clear c38); (try clear c38b0); (try clear c39); (try clear c39b0); (try clear p39); (try clear q39); (try clear hx39); (try clear p40); (try clear q40); (try clear hx40); (try clear c41); (try clear c41b0); (try clear hx27_0); (try clear hx27_1); (try clear hx27_2); (try clear hx27_3); (try clear hx27_4); (try clear hx27_5); (try clear hx27_6); (try clear hx27_7); (try clear hx27_8); (try clear hx28_0); (try clear hx28_1); (try clear hx28_2); (try clear hx28_3); (try clear hx28_4); (try clear hx28_5); (try clear hx28_6); (try clear hx28_7); (try clear hx28_8); (try clear hx398_0); (try clear hx398_1); (try clear hx398_2); (try clear hx398_3); (try clear hx398_4); (try clear hx398_5); (try clear hx398_6); (try clear hx398_7); (try clear hx398_8); (try clear hx399_0); (try clear hx399_1); (try clear hx399_2); (try clear hx399_3); (try clear hx399_4); (try clear hx399_5); (try clear hx399_6); (try clear hx399_7); (try clear hx399_8); (try clear hx401_0); (try clear hx401_1); (try clear hx401_2); (try clear hx401_3); (try clear hx401_4); (try clear hx401_5); (try clear hx401_6); (try clear hx401_7); (try clear hx401_8); (try clear hx402_0); (try clear hx402_1); (try clear hx402_2); (try clear hx402_3); (try clear hx402_4); (try clear hx402_5); (try clear hx402_6); (try clear hx402_7); (try clear hx402_8); (try clear hx405_0); (try clear hx405_1); (try clear hx405_2); (try clear hx405_3); (try clear hx405_4); (try clear hx405_5); (try clear hx405_6); (try clear hx405_7); (try clear hx405_8); (try clear hx406_0); (try clear hx406_1); (try clear hx406_2); (try clear hx406_3); (try clear hx406_4); (try clear hx406_5); (try clear hx406_6); (try clear hx406_7); (try clear hx406_8); (try clear p2); (try clear p27); (try clear p28); (try clear p3); (try clear p398); (try clear p399); (try clear p4); (try clear p401); (try clear p402); (try clear p405); (try clear p406); (try clear p6); (try clear q2)
      (try clear q27); (try clear q28); (try clear q3); (try clear q398); (try clear q399); (try clear q4); (try clear q401); (try clear q402); (try clear q405); (try clear q406)
      obtain ⟨x0_2, x17_2, rfl, HA, HK2, HO_0, HK, HB⟩ := hrel
      cases gk with
      | zero => exact absurd HA.out (by simp [slices_symMergeCmpFunc_haircut_Item.l3])
      | succ k2 =>
       have H := HA.out
       clear HA
       simp only [slices_symMergeCmpFunc_haircut_Item.l3] at H
       by_cases c48 : x17_2 > x14_1
       · rw [if_pos c48] at H
         have c48b0 : decide (x14_1 < x17_2) = true := decide_eq_true c48
         clear c48
         obtain ⟨ji49, hji49⟩ : ∃ j_ : Int, (wrap64 (x17_2 - 1)) = j_ := ⟨_, rfl⟩
         replace H : (if 0 ≤ (ji49) then (if (ji49) < (x0_2.length : Int) then (if 0 ≤ x17_2 then (if x17_2 < (x0_2.length : Int) then (slices_symMergeCmpFunc_haircut_Item.l3 k2 ((x0_2.set (x17_2 : Int).toNat (⟨(⟨(rd_T47 x0_2 (ji49)).f0.f0, (rd_T47 x0_2 (ji49)).f0.f1⟩ : S43), (⟨(rd_T47 x0_2 (ji49)).f1.f0, (rd_T47 x0_2 (ji49)).f1.f1, (rd_T47 x0_2 (ji49)).f1.f2, (rd_T47 x0_2 (ji49)).f1.f3, (rd_T47 x0_2 (ji49)).f1.f4⟩ : S45), (rd_T47 x0_2 (ji49)).f2, (rd_T47 x0_2 (ji49)).f3⟩ : S47)).set ((ji49) : Int).toNat (⟨(⟨(rd_T47 x0_2 x17_2).f0.f0, (rd_T47 x0_2 x17_2).f0.f1⟩ : S43), (⟨(rd_T47 x0_2 x17_2).f1.f0, (rd_T47 x0_2 x17_2).f1.f1, (rd_T47 x0_2 x17_2).f1.f2, (rd_T47 x0_2 x17_2).f1.f3, (rd_T47 x0_2 x17_2).f1.f4⟩ : S45), (rd_T47 x0_2 x17_2).f2, (rd_T47 x0_2 x17_2).f3⟩ : S47)) x14_1 ji49) else (none)) else (none)) else (none)) else (none)) = some r := by first | (rw [hji49] at H; exact H) | (simp only [hji49] at H ⊢; exact H)
         have hji49w : (IntKind.i64.wrap (x17_2 - 1)) = ji49 := (i64_w _).trans hji49
         by_cases c50 : 0 ≤ (ji49)
         · rw [if_pos c50] at H
           have c50b0 : decide (0 ≤ (ji49)) = true := decide_eq_true c50
           clear c50
           by_cases c51 : (ji49) < (x0_2.length : Int)
           · rw [if_pos c51] at H
             have c51b0 : decide ((ji49) < (x0_2.length : Int)) = true := decide_eq_true c51
             clear c51
             by_cases c52 : 0 ≤ x17_2
             · rw [if_pos c52] at H
               have c52b0 : decide (0 ≤ x17_2) = true := decide_eq_true c52
               clear c52
               by_cases c53 : x17_2 < (x0_2.length : Int)
               · rw [if_pos c53] at H
                 have c53b0 : decide (x17_2 < (x0_2.length : Int)) = true := decide_eq_true c53
                 clear c53
                 obtain ⟨y410, hy410⟩ : ∃ y_ : List (S47), y_ = (x0_2.set (x17_2 : Int).toNat (⟨(⟨(rd_T47 x0_2 (ji49)).f0.f0, (rd_T47 x0_2 (ji49)).f0.f1⟩ : S43), (⟨(rd_T47 x0_2 (ji49)).f1.f0, (rd_T47 x0_2 (ji49)).f1.f1, (rd_T47 x0_2 (ji49)).f1.f2, (rd_T47 x0_2 (ji49)).f1.f3, (rd_T47 x0_2 (ji49)).f1.f4⟩ : S45), (rd_T47 x0_2 (ji49)).f2, (rd_T47 x0_2 (ji49)).f3⟩ : S47)) := ⟨_, rfl⟩
                 replace H : (slices_symMergeCmpFunc_haircut_Item.l3 k2 (y410.set ((ji49) : Int).toNat (⟨(⟨(rd_T47 x0_2 x17_2).f0.f0, (rd_T47 x0_2 x17_2).f0.f1⟩ : S43), (⟨(rd_T47 x0_2 x17_2).f1.f0, (rd_T47 x0_2 x17_2).f1.f1, (rd_T47 x0_2 x17_2).f1.f2, (rd_T47 x0_2 x17_2).f1.f3, (rd_T47 x0_2 x17_2).f1.f4⟩ : S45), (rd_T47 x0_2 x17_2).f2, (rd_T47 x0_2 x17_2).f3⟩ : S47)) x14_1 ji49) = some r := by first | (rw [hy410]; with_reducible exact H) | (have H2_ := (Option.bind_some _ _).symm.trans H; rw [hy410]; with_reducible exact H2_) | (have H2_ := (Option.bind_some _ _).symm.trans H; with_reducible exact H2_) | with_reducible exact H | (rw [hy410]; exact H) | exact H
                 have Ny410 := Aside0.mk hy410; clear hy410
                 obtain ⟨y411, hy411⟩ : ∃ y_ : List (S47), y_ = (y410.set ((ji49) : Int).toNat (⟨(⟨(rd_T47 x0_2 x17_2).f0.f0, (rd_T47 x0_2 x17_2).f0.f1⟩ : S43), (⟨(rd_T47 x0_2 x17_2).f1.f0, (rd_T47 x0_2 x17_2).f1.f1, (rd_T47 x0_2 x17_2).f1.f2, (rd_T47 x0_2 x17_2).f1.f3, (rd_T47 x0_2 x17_2).f1.f4⟩ : S45), (rd_T47 x0_2 x17_2).f2, (rd_T47 x0_2 x17_2).f3⟩ : S47)) := ⟨_, rfl⟩
                 replace H : (slices_symMergeCmpFunc_haircut_Item.l3 k2 y411 x14_1 ji49) = some r := by first | (rw [hy411]; with_reducible exact H) | (have H2_ := (Option.bind_some _ _).symm.trans H; rw [hy411]; with_reducible exact H2_) | (have H2_ := (Option.bind_some _ _).symm.trans H; with_reducible exact H2_) | with_reducible exact H | (rw [hy411]; exact H) | exact H
                 have Ny411 := Aside0.mk hy411; clear hy411
                 have H' := Aside0.mk H
                 clear H
                 try go_wp2
                 have n0_ := Aside0.mk (Kd.R_drew HO_0.out)
                 have n1_ := Aside0.mk (Kept.drew HK.out)
                 have n2_ := Aside0.mk (below_drew1 HB.out)
                 clear HO_0; clear HK; clear HB
                 have HO_0 := n0_
                 have HK := n1_
                 have HB := n2_
                 clear n0_ n1_ n2_
                 obtain ⟨Ao57, co57, eo57⟩ := Kd.R_slice HO_0.out
                 (first | subst eo57 | (injection eo57 with f1_ f2_ f3_; have f4_ := f1_.symm; have f5_ := f3_.symm; clear f1_ f2_ f3_; subst f4_; subst f5_))
                 have p408 : 0 ≤ ((ji49) : Int) := od
                 have q408 : (ji49) < (x0_2.length : Int) := od
                 obtain ⟨ad408, e408, hx408_0, hx408_1, hx408_2, hx408_3, hx408_4, hx408_5, hx408_6, hx408_7, hx408_8⟩ := at_T47 (Kd.R_reads' HO_0.out).2.2 (ji49) p408 q408
                 cases e408; replace p408 := eq_true p408; replace q408 := eq_true q408
                 have p409 : 0 ≤ (x17_2 : Int) := od
                 have q409 : x17_2 < (x0_2.length : Int) := od
                 obtain ⟨ad409, e409, hx409_0, hx409_1, hx409_2, hx409_3, hx409_4, hx409_5, hx409_6, hx409_7, hx409_8⟩ := at_T47 (Kd.R_reads' HO_0.out).2.2 x17_2 p409 q409
                 obtain rfl : ad408 = ad409 := (by injection e409)
                 replace p409 := eq_true p409; replace q409 := eq_true q409
                 have p54 : 0 ≤ (x17_2 : Int) := od
                 have q54 : (x17_2 : Int) < ((x0_2.length : Int) : Int) := od
                 obtain ⟨go54, co54, eo54, gb54, gl54, cl54, HG54⟩ := Kd.R_form HO_0.out (by omega)
                 (first | cases eo54 | (injection eo54 with ea_ en_ ec_; (first | subst ea_ | (injection ea_ with ea_; subst ea_)); subst ec_; clear en_))
                 have GB54 := Aside0.mk gb54; have GG54 := Aside0.mk HG54; clear gb54 gl54 HG54
                 have HMgo54 := Aside0.mk (show (P0_ go54 ∨ w.heap.size ≤ go54) from (HO_0.out.1 _ rfl))
                 (first | simp only [add_plain] at hx408_0 | skip)
                 (first | simp only [add_plain] at hx408_1 | skip)
                 (first | simp only [add_plain] at hx408_2 | skip)
                 (first | simp only [add_plain] at hx408_3 | skip)
                 (first | simp only [add_plain] at hx408_4 | skip)
                 (first | simp only [add_plain] at hx408_5 | skip)
                 (first | simp only [add_plain] at hx408_6 | skip)
                 (first | simp only [add_plain] at hx408_7 | skip)
                 (first | simp only [add_plain] at hx408_8 | skip)
                 (first | simp only [add_plain] at hx409_0 | skip)
                 (first | simp only [add_plain] at hx409_1 | skip)
                 (first | simp only [add_plain] at hx409_2 | skip)
                 (first | simp only [add_plain] at hx409_3 | skip)
                 (first | simp only [add_plain] at hx409_4 | skip)
                 (first | simp only [add_plain] at hx409_5 | skip)
                 (first | simp only [add_plain] at hx409_6 | skip)
                 (first | simp only [add_plain] at hx409_7 | skip)
                 (first | simp only [add_plain] at hx409_8 | skip)
                 obtain ⟨ce54, hcl54, hM54, hcc54, hfr54⟩ := Kd.R_elem HO_0.out z47 (x17_2 : Int) p54 q54
                 obtain rfl := k47_openM hM54
                 have hx54_0 : World.cell? _ ⟨go54, (x17_2 : Int).toNat * 9, none⟩ = some (.string ((rd_T47 x0_2 x17_2).f0.f0)) := hcc54 0 _ rfl
                 have hx54_1 : World.cell? _ ⟨go54, (x17_2 : Int).toNat * 9 + 1, none⟩ = some (.int .i64 ((rd_T47 x0_2 x17_2).f0.f1)) := hcc54 1 _ rfl
                 have hx54_2 : World.cell? _ ⟨go54, (x17_2 : Int).toNat * 9 + 2, none⟩ = some (.string ((rd_T47 x0_2 x17_2).f1.f0)) := hcc54 2 _ rfl
                 have hx54_3 : World.cell? _ ⟨go54, (x17_2 : Int).toNat * 9 + 3, none⟩ = some (.int .i64 ((rd_T47 x0_2 x17_2).f1.f1)) := hcc54 3 _ rfl
                 have hx54_4 : World.cell? _ ⟨go54, (x17_2 : Int).toNat * 9 + 4, none⟩ = some (.int .i64 ((rd_T47 x0_2 x17_2).f1.f2)) := hcc54 4 _ rfl
                 have hx54_5 : World.cell? _ ⟨go54, (x17_2 : Int).toNat * 9 + 5, none⟩ = some (.int .i64 ((rd_T47 x0_2 x17_2).f1.f3)) := hcc54 5 _ rfl
                 have hx54_6 : World.cell? _ ⟨go54, (x17_2 : Int).toNat * 9 + 6, none⟩ = some (.string ((rd_T47 x0_2 x17_2).f1.f4)) := hcc54 6 _ rfl
                 have hx54_7 : World.cell? _ ⟨go54, (x17_2 : Int).toNat * 9 + 7, none⟩ = some (.int .i64 ((rd_T47 x0_2 x17_2).f2)) := hcc54 7 _ rfl
                 have hx54_8 : World.cell? _ ⟨go54, (x17_2 : Int).toNat * 9 + 8, none⟩ = some (.int .i64 ((rd_T47 x0_2 x17_2).f3)) := hcc54 8 _ rfl
                 have hf54_0 : World.frozen? _ ⟨go54, (x17_2 : Int).toNat * 9, none⟩ = false := hfr54 0
                 have hf54_1 : World.frozen? _ ⟨go54, (x17_2 : Int).toNat * 9 + 1, none⟩ = false := hfr54 1
                 have hf54_2 : World.frozen? _ ⟨go54, (x17_2 : Int).toNat * 9 + 2, none⟩ = false := hfr54 2
                 have hf54_3 : World.frozen? _ ⟨go54, (x17_2 : Int).toNat * 9 + 3, none⟩ = false := hfr54 3
                 have hf54_4 : World.frozen? _ ⟨go54, (x17_2 : Int).toNat * 9 + 4, none⟩ = false := hfr54 4
                 have hf54_5 : World.frozen? _ ⟨go54, (x17_2 : Int).toNat * 9 + 5, none⟩ = false := hfr54 5
                 have hf54_6 : World.frozen? _ ⟨go54, (x17_2 : Int).toNat * 9 + 6, none⟩ = false := hfr54 6
                 have hf54_7 : World.frozen? _ ⟨go54, (x17_2 : Int).toNat * 9 + 7, none⟩ = false := hfr54 7
                 have hf54_8 : World.frozen? _ ⟨go54, (x17_2 : Int).toNat * 9 + 8, none⟩ = false := hfr54 8
                 clear hcl54 hcc54 hfr54 hM54; replace p54 := eq_true p54; replace q54 := eq_true q54
                 obtain ⟨ce58, hcl58, hM58, hcc58, hfr58⟩ := Kd.R_elem HO_0.out z47 (x17_2 : Int) (od) (by have h_ : (x17_2 : Int) < ((x0_2.length : Int) : Int) := od; first | exact h_ | (have e_ := (Kd.R_reads' HO_0.out).1; omega) | simpa using h_)
                 obtain rfl := k47_openM hM58
                 have HP58 := (Kd.R_seg HO_0.out (x17_2 : Int) (od) (by have h_ : (x17_2 : Int) < ((x0_2.length : Int) : Int) := od; first | exact h_ | (have e_ := (Kd.R_reads' HO_0.out).1; omega) | simpa using h_) (seg := [.string ((rd_T47 x0_2 (ji49)).f0.f0), .int .i64 ((rd_T47 x0_2 (ji49)).f0.f1), .string ((rd_T47 x0_2 (ji49)).f1.f0), .int .i64 ((rd_T47 x0_2 (ji49)).f1.f1), .int .i64 ((rd_T47 x0_2 (ji49)).f1.f2), .int .i64 ((rd_T47 x0_2 (ji49)).f1.f3), .string ((rd_T47 x0_2 (ji49)).f1.f4), .int .i64 ((rd_T47 x0_2 (ji49)).f2), .int .i64 ((rd_T47 x0_2 (ji49)).f3)]) (j := 0) hcl58 hcc58 (show 9 ≤ 9 from by decide) (x' := (⟨(⟨(rd_T47 x0_2 (ji49)).f0.f0, (rd_T47 x0_2 (ji49)).f0.f1⟩ : S43), (⟨(rd_T47 x0_2 (ji49)).f1.f0, (rd_T47 x0_2 (ji49)).f1.f1, (rd_T47 x0_2 (ji49)).f1.f2, (rd_T47 x0_2 (ji49)).f1.f3, (rd_T47 x0_2 (ji49)).f1.f4⟩ : S45), (rd_T47 x0_2 (ji49)).f2, (rd_T47 x0_2 (ji49)).f3⟩ : S47)) (k47_mkM _ _ _ (⟨(⟨(rd_T47 x0_2 (ji49)).f0.f0, (rd_T47 x0_2 (ji49)).f0.f1⟩ : S43), (⟨(rd_T47 x0_2 (ji49)).f1.f0, (rd_T47 x0_2 (ji49)).f1.f1, (rd_T47 x0_2 (ji49)).f1.f2, (rd_T47 x0_2 (ji49)).f1.f3, (rd_T47 x0_2 (ji49)).f1.f4⟩ : S45), (rd_T47 x0_2 (ji49)).f2, (rd_T47 x0_2 (ji49)).f3⟩ : S47) ) (fun _ hk => hk)).1
                 rw [← Ny410.out] at HP58
                 have HQ58 := Aside0.mk HP58; clear hcl58 hcc58 hfr58 hM58 HP58
                 have p55 : 0 ≤ ((ji49) : Int) := od
                 have q55 : ((ji49) : Int) < ((x0_2.length : Int) : Int) := od
                 obtain ⟨ce55, hcl55, hM55, hcc55, hfr55⟩ := Kd.R_elem HQ58.out z47 ((ji49) : Int) p55 q55
                 obtain rfl := k47_openM hM55
                 have hx55_0 : World.cell? _ ⟨go54, ((ji49) : Int).toNat * 9, none⟩ = some (.string ((rd_T47 y410 (ji49)).f0.f0)) := hcc55 0 _ rfl
                 have hx55_1 : World.cell? _ ⟨go54, ((ji49) : Int).toNat * 9 + 1, none⟩ = some (.int .i64 ((rd_T47 y410 (ji49)).f0.f1)) := hcc55 1 _ rfl
                 have hx55_2 : World.cell? _ ⟨go54, ((ji49) : Int).toNat * 9 + 2, none⟩ = some (.string ((rd_T47 y410 (ji49)).f1.f0)) := hcc55 2 _ rfl
                 have hx55_3 : World.cell? _ ⟨go54, ((ji49) : Int).toNat * 9 + 3, none⟩ = some (.int .i64 ((rd_T47 y410 (ji49)).f1.f1)) := hcc55 3 _ rfl
                 have hx55_4 : World.cell? _ ⟨go54, ((ji49) : Int).toNat * 9 + 4, none⟩ = some (.int .i64 ((rd_T47 y410 (ji49)).f1.f2)) := hcc55 4 _ rfl
                 have hx55_5 : World.cell? _ ⟨go54, ((ji49) : Int).toNat * 9 + 5, none⟩ = some (.int .i64 ((rd_T47 y410 (ji49)).f1.f3)) := hcc55 5 _ rfl
                 have hx55_6 : World.cell? _ ⟨go54, ((ji49) : Int).toNat * 9 + 6, none⟩ = some (.string ((rd_T47 y410 (ji49)).f1.f4)) := hcc55 6 _ rfl
                 have hx55_7 : World.cell? _ ⟨go54, ((ji49) : Int).toNat * 9 + 7, none⟩ = some (.int .i64 ((rd_T47 y410 (ji49)).f2)) := hcc55 7 _ rfl
                 have hx55_8 : World.cell? _ ⟨go54, ((ji49) : Int).toNat * 9 + 8, none⟩ = some (.int .i64 ((rd_T47 y410 (ji49)).f3)) := hcc55 8 _ rfl
                 have hf55_0 : World.frozen? _ ⟨go54, ((ji49) : Int).toNat * 9, none⟩ = false := hfr55 0
                 have hf55_1 : World.frozen? _ ⟨go54, ((ji49) : Int).toNat * 9 + 1, none⟩ = false := hfr55 1
                 have hf55_2 : World.frozen? _ ⟨go54, ((ji49) : Int).toNat * 9 + 2, none⟩ = false := hfr55 2
                 have hf55_3 : World.frozen? _ ⟨go54, ((ji49) : Int).toNat * 9 + 3, none⟩ = false := hfr55 3
                 have hf55_4 : World.frozen? _ ⟨go54, ((ji49) : Int).toNat * 9 + 4, none⟩ = false := hfr55 4
                 have hf55_5 : World.frozen? _ ⟨go54, ((ji49) : Int).toNat * 9 + 5, none⟩ = false := hfr55 5
                 have hf55_6 : World.frozen? _ ⟨go54, ((ji49) : Int).toNat * 9 + 6, none⟩ = false := hfr55 6
                 have hf55_7 : World.frozen? _ ⟨go54, ((ji49) : Int).toNat * 9 + 7, none⟩ = false := hfr55 7
                 have hf55_8 : World.frozen? _ ⟨go54, ((ji49) : Int).toNat * 9 + 8, none⟩ = false := hfr55 8
                 clear hcl55 hcc55 hfr55 hM55; replace p55 := eq_true p55; replace q55 := eq_true q55
                 obtain ⟨ce59, hcl59, hM59, hcc59, hfr59⟩ := Kd.R_elem HQ58.out z47 ((ji49) : Int) (od) (by have h_ : ((ji49) : Int) < ((x0_2.length : Int) : Int) := od; first | exact h_ | (have e_ := (Kd.R_reads' HO_0.out).1; omega) | simpa using h_)
                 obtain rfl := k47_openM hM59
                 have HP59 := (Kd.R_seg HQ58.out ((ji49) : Int) (od) (by have h_ : ((ji49) : Int) < ((x0_2.length : Int) : Int) := od; first | exact h_ | (have e_ := (Kd.R_reads' HO_0.out).1; omega) | simpa using h_) (seg := [.string ((rd_T47 x0_2 x17_2).f0.f0), .int .i64 ((rd_T47 x0_2 x17_2).f0.f1), .string ((rd_T47 x0_2 x17_2).f1.f0), .int .i64 ((rd_T47 x0_2 x17_2).f1.f1), .int .i64 ((rd_T47 x0_2 x17_2).f1.f2), .int .i64 ((rd_T47 x0_2 x17_2).f1.f3), .string ((rd_T47 x0_2 x17_2).f1.f4), .int .i64 ((rd_T47 x0_2 x17_2).f2), .int .i64 ((rd_T47 x0_2 x17_2).f3)]) (j := 0) hcl59 hcc59 (show 9 ≤ 9 from by decide) (x' := (⟨(⟨(rd_T47 x0_2 x17_2).f0.f0, (rd_T47 x0_2 x17_2).f0.f1⟩ : S43), (⟨(rd_T47 x0_2 x17_2).f1.f0, (rd_T47 x0_2 x17_2).f1.f1, (rd_T47 x0_2 x17_2).f1.f2, (rd_T47 x0_2 x17_2).f1.f3, (rd_T47 x0_2 x17_2).f1.f4⟩ : S45), (rd_T47 x0_2 x17_2).f2, (rd_T47 x0_2 x17_2).f3⟩ : S47)) (k47_mkM _ _ _ (⟨(⟨(rd_T47 x0_2 x17_2).f0.f0, (rd_T47 x0_2 x17_2).f0.f1⟩ : S43), (⟨(rd_T47 x0_2 x17_2).f1.f0, (rd_T47 x0_2 x17_2).f1.f1, (rd_T47 x0_2 x17_2).f1.f2, (rd_T47 x0_2 x17_2).f1.f3, (rd_T47 x0_2 x17_2).f1.f4⟩ : S45), (rd_T47 x0_2 x17_2).f2, (rd_T47 x0_2 x17_2).f3⟩ : S47) ) (fun _ hk => hk)).1
                 rw [← Ny411.out] at HP59
                 have HQ59 := Aside0.mk HP59; clear hcl59 hcc59 hfr59 hM59 HP59
                 refine start_ (n := 18) (S := fun w' => w'.cell? ⟨go54, ((ji49)).toNat * 9, none⟩ = some (.string ((rd_T47 x0_2 (ji49)).f0.f0)) ∧ w'.cell? ⟨go54, ((ji49)).toNat * 9 + 1, none⟩ = some (.int .i64 ((rd_T47 x0_2 (ji49)).f0.f1)) ∧ w'.cell? ⟨go54, ((ji49)).toNat * 9 + 2, none⟩ = some (.string ((rd_T47 x0_2 (ji49)).f1.f0)) ∧ w'.cell? ⟨go54, ((ji49)).toNat * 9 + 3, none⟩ = some (.int .i64 ((rd_T47 x0_2 (ji49)).f1.f1)) ∧ w'.cell? ⟨go54, ((ji49)).toNat * 9 + 4, none⟩ = some (.int .i64 ((rd_T47 x0_2 (ji49)).f1.f2)) ∧ w'.cell? ⟨go54, ((ji49)).toNat * 9 + 5, none⟩ = some (.int .i64 ((rd_T47 x0_2 (ji49)).f1.f3)) ∧ w'.cell? ⟨go54, ((ji49)).toNat * 9 + 6, none⟩ = some (.string ((rd_T47 x0_2 (ji49)).f1.f4)) ∧ w'.cell? ⟨go54, ((ji49)).toNat * 9 + 7, none⟩ = some (.int .i64 ((rd_T47 x0_2 (ji49)).f2)) ∧ w'.cell? ⟨go54, ((ji49)).toNat * 9 + 8, none⟩ = some (.int .i64 ((rd_T47 x0_2 (ji49)).f3)) ∧ w'.cell? ⟨go54, ((x17_2).toNat * 9), none⟩ = some (.string ((rd_T47 x0_2 x17_2).f0.f0)) ∧ w'.cell? ⟨go54, ((x17_2).toNat * 9) + 1, none⟩ = some (.int .i64 ((rd_T47 x0_2 x17_2).f0.f1)) ∧ w'.cell? ⟨go54, ((x17_2).toNat * 9) + 2, none⟩ = some (.string ((rd_T47 x0_2 x17_2).f1.f0)) ∧ w'.cell? ⟨go54, ((x17_2).toNat * 9) + 3, none⟩ = some (.int .i64 ((rd_T47 x0_2 x17_2).f1.f1)) ∧ w'.cell? ⟨go54, ((x17_2).toNat * 9) + 4, none⟩ = some (.int .i64 ((rd_T47 x0_2 x17_2).f1.f2)) ∧ w'.cell? ⟨go54, ((x17_2).toNat * 9) + 5, none⟩ = some (.int .i64 ((rd_T47 x0_2 x17_2).f1.f3)) ∧ w'.cell? ⟨go54, ((x17_2).toNat * 9) + 6, none⟩ = some (.string ((rd_T47 x0_2 x17_2).f1.f4)) ∧ w'.cell? ⟨go54, ((x17_2).toNat * 9) + 7, none⟩ = some (.int .i64 ((rd_T47 x0_2 x17_2).f2)) ∧ w'.cell? ⟨go54, ((x17_2).toNat * 9) + 8, none⟩ = some (.int .i64 ((rd_T47 x0_2 x17_2).f3))) (ds := [15, 17]) (pf 18 0) (by kernel_rfl) rfl rfl ⟨hx408_0, hx408_1, hx408_2, hx408_3, hx408_4, hx408_5, hx408_6, hx408_7, hx408_8, hx409_0, hx409_1, hx409_2, hx409_3, hx409_4, hx409_5, hx409_6, hx409_7, hx409_8⟩ (fun hHeld => ?_); refine with_tabW slices_symMergeCmpFunc_haircut_Item.tab23 slices_symMergeCmpFunc_haircut_Item.bits23 (fun HT_ HW_ => ?_)
                 generalize wr.drew = w56 at HO_0 HK HB GG54 HQ58 HQ59 hf54_0 hf54_1 hf54_2 hf54_3 hf54_4 hf54_5 hf54_6 hf54_7 hf54_8 hf55_0 hf55_1 hf55_2 hf55_3 hf55_4 hf55_5 hf55_6 hf55_7 hf55_8 hx408_0 hx408_1 hx408_2 hx408_3 hx408_4 hx408_5 hx408_6 hx408_7 hx408_8 hx409_0 hx409_1 hx409_2 hx409_3 hx409_4 hx409_5 hx409_6 hx409_7 hx409_8 hx54_0 hx54_1 hx54_2 hx54_3 hx54_4 hx54_5 hx54_6 hx54_7 hx54_8 hx55_0 hx55_1 hx55_2 hx55_3 hx55_4 hx55_5 hx55_6 hx55_7 hx55_8 hHeld ⊢
                 refine pA (i := 0) (N := some 113) HT_ (pf 18 1) ?_
                 refine pA (i := 1) (N := some 114) HT_ (pf 18 2) ?_
                 refine pA (i := 2) (N := some 115) HT_ (pf 18 3) ?_
                 refine pA (i := 3) (N := some 116) HT_ (pf 18 4) ?_
                 refine pA (i := 4) (N := some 117) HT_ (pf 18 5) ?_
                 refine pA (i := 5) (N := some 118) HT_ (pf 18 6) ?_
                 refine pA (i := 6) (N := some 119) HT_ (pf 18 7) ?_
                 refine pA (i := 7) (N := some 120) HT_ (pf 18 8) ?_
                 refine pA (i := 8) (N := some 121) HT_ (pf 18 9) ?_
                 refine pA (i := 10) (N := some 123) HT_ qx16_3 ?_
                 refine pA (i := 11) (N := some 124) HT_ qx16_4 ?_
                 refine pA (i := 12) (N := some 125) HT_ qx16_5 ?_
                 refine take_ (i := 9) (N := some 122) (v := ?_) (a' := ?_) (pf 18 13) rfl rfl (take_ofW HT_.out HW_.out (by kernel_rfl)) (fun _ _ _ h => h) (Or.inl ⟨by rfl, ?_⟩) hHeld ?_ ?_
                 rotate_left
                 · rintro w' ⟨s0, s1, s2, s3, s4, s5, s6, s7, s8, s9, s10, s11, s12, s13, s14, s15, s16, s17⟩
                   go_simp
                   with_reducible rfl
                 rotate_left
                 · simp only [Act.put, sA, sB, sC, i64_w, i32_w]
                   rfl
                 refine take_ (i := 13) (N := some 126) (v := ?_) (a' := ?_) (pf 18 14) rfl rfl (take_ofW HT_.out HW_.out (by kernel_rfl)) (fun _ _ _ h => h) (Or.inl ⟨by rfl, ?_⟩) hHeld ?_ ?_
                 rotate_left
                 · rintro w' ⟨s0, s1, s2, s3, s4, s5, s6, s7, s8, s9, s10, s11, s12, s13, s14, s15, s16, s17⟩
                   go_simp
                   with_reducible rfl
                 rotate_left
                 · simp only [Act.put, sA, sB, sC, i64_w, i32_w]
                   rfl
                 refine pA (i := 14) (N := some 127) HT_ (pf 18 15) ?_
                 refine last_ (i := 15) (N := none) (pf 18 16) rfl rfl (one_of HT_.out (by kernel_rfl)) (by decide) (fun K hK => ?_)
                 refine skip_ (by rfl) rfl (st_skip HO_0 z47 (x17_2 : Int) (od) (by have h_ : (x17_2 : Int) < ((x0_2.length : Int) : Int) := od; first | exact h_ | (have e_ := (Kd.R_reads' HO_0.out).1; omega) | simpa using h_) [.string ((rd_T47 x0_2 (ji49)).f0.f0), .int .i64 ((rd_T47 x0_2 (ji49)).f0.f1), .string ((rd_T47 x0_2 (ji49)).f1.f0), .int .i64 ((rd_T47 x0_2 (ji49)).f1.f1), .int .i64 ((rd_T47 x0_2 (ji49)).f1.f2), .int .i64 ((rd_T47 x0_2 (ji49)).f1.f3), .string ((rd_T47 x0_2 (ji49)).f1.f4), .int .i64 ((rd_T47 x0_2 (ji49)).f2), .int .i64 ((rd_T47 x0_2 (ji49)).f3)] rfl (by rfl) rfl (by go_simp) rfl (by kernel_rfl) (by simp [Value.oneCell'])) ?_
                 refine hK.out _ _ ?_
                 clear hK K
                 generalize hz_ : World.setCells w56 go54 (Int.toNat (x17_2 : Int) * k47.sz + 0) [.string ((rd_T47 x0_2 (ji49)).f0.f0), .int .i64 ((rd_T47 x0_2 (ji49)).f0.f1), .string ((rd_T47 x0_2 (ji49)).f1.f0), .int .i64 ((rd_T47 x0_2 (ji49)).f1.f1), .int .i64 ((rd_T47 x0_2 (ji49)).f1.f2), .int .i64 ((rd_T47 x0_2 (ji49)).f1.f3), .string ((rd_T47 x0_2 (ji49)).f1.f4), .int .i64 ((rd_T47 x0_2 (ji49)).f2), .int .i64 ((rd_T47 x0_2 (ji49)).f3)] = wz_ at HQ58 HQ59 ⊢
                 refine pA (i := 16) (N := some 128) HT_ (pf 18 17) ?_
                 refine last_ (i := 17) (N := none) (pf 18 18) rfl rfl (one_of HT_.out (by kernel_rfl)) (by decide) (fun K hK => ?_)
                 refine skip_ (by rfl) rfl (st_skip HQ58 z47 ((ji49) : Int) (od) (by have h_ : ((ji49) : Int) < ((x0_2.length : Int) : Int) := od; first | exact h_ | (have e_ := (Kd.R_reads' HO_0.out).1; omega) | simpa using h_) [.string ((rd_T47 x0_2 x17_2).f0.f0), .int .i64 ((rd_T47 x0_2 x17_2).f0.f1), .string ((rd_T47 x0_2 x17_2).f1.f0), .int .i64 ((rd_T47 x0_2 x17_2).f1.f1), .int .i64 ((rd_T47 x0_2 x17_2).f1.f2), .int .i64 ((rd_T47 x0_2 x17_2).f1.f3), .string ((rd_T47 x0_2 x17_2).f1.f4), .int .i64 ((rd_T47 x0_2 x17_2).f2), .int .i64 ((rd_T47 x0_2 x17_2).f3)] rfl (by rfl) rfl (by go_simp) rfl (by kernel_rfl) (by simp [Value.oneCell'])) ?_
                 refine hK.out _ _ ?_
                 clear hK K; subst hz_
                 refine done_ (done_of HT_.out (by kernel_rfl)) ?_
                 try go_wp2
                 go_roundg k2
                 case measure => have := HK1.out; have := HK2.out; omega
                 case rel => exact ⟨(y411), (ji49), (by first | rfl | (simp; done) | (simp only [← hji49] <;> (first | rfl | simp)) | (simp [*]; done)), H', ⟨by have := HK1.out; have := HK2.out; omega⟩, ⟨gR HQ59⟩, ⟨gQ HK⟩, ⟨gS HB⟩⟩
               · rw [if_neg c53] at H
                 exact absurd H (by simp)
             · rw [if_neg c52] at H
               exact absurd H (by simp)
           · rw [if_neg c51] at H
             exact absurd H (by simp)
         · rw [if_neg c50] at H
           exact absurd H (by simp)
       · rw [if_neg c48] at H
         have c48b0 : decide (x14_1 < x17_2) = false := decide_eq_false c48
         clear c48
         obtain rfl := Option.some.inj H
         go_wp2
         first | go_end0 | ((try simp only [Exit.inBlock, Exit.then]); refine bodyPost_ret (results_none rfl _ _ _) rfl ?_)
         exact ⟨by first | rfl | (simp [errW_none, errW_some] <;> rfl) | (simp [*, errW_none, errW_some] <;> rfl), gR HO_0, gB HB, gP HK⟩
end Go.Proofs.Ytjjemfbpodgihaa.X
