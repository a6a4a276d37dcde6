-- a shortened text: what this claim does not name is left out (wip/xprint/prune.py of this repo)
import Derived.Test.YtlbhjkbjokiioaaXMin
import Derived.Test.YtlbhjkbjokiioaaX0
import Derived.Test.YtlbhjkbjokiioaaX6
import Derived.Test.YtlbhjkbjokiioaaX8
import Derived.Test.YtlbhjkbjokiioaaX9b
namespace Go.Proofs.Ytlbhjkbjokiioaa.X
open Go.RowKit Go.Proofs.YtlbhjkbjokiioaaW.PrintWords Go.Proofs.YtlbhjkbjokiioaaW.PrintLast Go.Proofs.YtlbhjkbjokiioaaW.PrintMore
attribute [local go_sem] max2_int min2_int max_two min_two max_three min_three max_four min_four
set_option linter.unusedVariables false
set_option linter.unusedSimpArgs false
set_option maxHeartbeats 8000000 in
set_option maxRecDepth 100000 in
theorem q0q.part2 (k : Nat) (ih : ∀ m, m < k + 1 → q0q.Con m) (P0_ : Nat → Prop) (u9000_ : Value) (l0 : List (S79)) (a1 : Int) (a2 : Int) (a3 : Int) (r : List (S79)) (w0 w : World) (hB : Below w0.heap.size w0 w) (ho0 : Kd.R k79 79 w w0.heap.size P0_ u9000_ l0) (c6 : ¬ ((wrap64 (a2 - a1)) = 1)) (c33 : ¬ ((wrap64 (a3 - a2)) = 1)) (H : (if a2 > (wrap64 ((IntKind.u64.wrap (wrap64 (a1 + a3))) / 2)) then (q0q.j4 k l0 a1 a2 a3 (wrap64 ((IntKind.u64.wrap (wrap64 (a1 + a3))) / 2)) (wrap64 ((wrap64 ((IntKind.u64.wrap (wrap64 (a1 + a3))) / 2)) + a2)) (wrap64 ((wrap64 ((wrap64 ((IntKind.u64.wrap (wrap64 (a1 + a3))) / 2)) + a2)) - a3)) (wrap64 ((IntKind.u64.wrap (wrap64 (a1 + a3))) / 2))) else (q0q.j4 k l0 a1 a2 a3 (wrap64 ((IntKind.u64.wrap (wrap64 (a1 + a3))) / 2)) (wrap64 ((wrap64 ((IntKind.u64.wrap (wrap64 (a1 + a3))) / 2)) + a2)) a1 a2)) = some r) : Calls Try.prog 59 #[u9000_, .int .i64 a1, .int .i64 a2, .int .i64 a3, .func (.func 33) #[] #[]] w fun e w' => e = .returned (.tuple #[]) ∧ Kd.R k79 79 w' w0.heap.size (fun k_ => (P0_ k_ ∨ w.heap.size ≤ k_)) u9000_ r ∧ Below w0.heap.size w0 w' ∧ Kept w w' (fun k_ => P0_ k_) := by
 have hu79 := Try.underlying79
 have HO0 := aK (show Kd.R k79 79 w w0.heap.size (fun k_ => (P0_ k_ ∨ w.heap.size ≤ k_)) u9000_ l0 from Kd.R_mono ho0 (fun k_ hk => (.inl hk)))
 have HK := aK (Kept.refl w (fun k_ => P0_ k_))
 have HW0 := Aside0.mk hB.size
 have HB := Aside0.mk hB; clear hB
 have c6b0 : ((wrap64 (a2 - a1)) == 1) = false := beq_eq_false_iff_ne.mpr c6
 have c6b1 : ((wrap64 (a2 - a1)) != 1) = true := bne_iff_ne.mpr c6
 have c33b0 : ((wrap64 (a3 - a2)) == 1) = false := beq_eq_false_iff_ne.mpr c33
 have c33b1 : ((wrap64 (a3 - a2)) != 1) = true := bne_iff_ne.mpr c33
 have HC60 := Aside0.mk H; clear H
 go_enter Try.func59, Try.ntmps59
 go_upto_if 140 with (fail)
 go_cut [20, 21] (fun v20 v21 wc => ∃ (kq : Nat) (x20_59 : Int) (x21_59 : Int), v20 = .int .i64 x20_59 ∧ v21 = .int .i64 x21_59 ∧ Aside0 (q0q.j4 kq l0 a1 a2 a3 (wrap64 ((IntKind.u64.wrap (wrap64 (a1 + a3))) / 2)) (wrap64 ((wrap64 ((IntKind.u64.wrap (wrap64 (a1 + a3))) / 2)) + a2)) x20_59 x21_59 = some r) ∧ Aside0 (kq ≤ k) ∧ Aside0 (Kd.R k79 79 wc w0.heap.size (fun k_ => (P0_ k_ ∨ w.heap.size ≤ k_)) u9000_ l0) ∧ Aside0 (Kept w wc (fun k_ => P0_ k_)) ∧ Aside0 (Below w0.heap.size w0 wc))
 case first =>
  have H := HC60.out
  clear HC60
  by_cases c61 : a2 > (wrap64 ((IntKind.u64.wrap (wrap64 (a1 + a3))) / 2))
  · rw [if_pos c61] at H
    have c61b0 : decide ((wrap64 ((IntKind.u64.wrap (wrap64 (a1 + a3))) / 2)) < a2) = true := decide_eq_true c61
    clear c61
    (first | rw [c61b0] | (simp only [i64_w, i32_w]; rw [c61b0]) | skip)
    have H' := Aside0.mk H
    clear H
    go_wp2
    go_meet
    case rel => exact ⟨_, (wrap64 ((wrap64 ((wrap64 ((IntKind.u64.wrap (wrap64 (a1 + a3))) / 2)) + a2)) - a3)), (wrap64 ((IntKind.u64.wrap (wrap64 (a1 + a3))) / 2)), ac, ac, H', ⟨by first | omega | exact Nat.le_refl _⟩, ⟨gR HO0⟩, ⟨gP HK⟩, ⟨gB HB⟩⟩
  · rw [if_neg c61] at H
    have c61b0 : decide ((wrap64 ((IntKind.u64.wrap (wrap64 (a1 + a3))) / 2)) < a2) = false := decide_eq_false c61
    clear c61
    (first | rw [c61b0] | (simp only [i64_w, i32_w]; rw [c61b0]) | skip)
    have H' := Aside0.mk H
    clear H
    go_wp2
    go_meet
    case rel => exact ⟨_, (a1), (a2), ac, ac, H', ⟨by first | omega | exact Nat.le_refl _⟩, ⟨gR HO0⟩, ⟨gP HK⟩, ⟨gB HB⟩⟩
 case rest =>
  clear HC60; (try clear c6); (try clear c6b0); (try clear c6b1); (try clear c33); (try clear c33b0); (try clear c33b1)
  obtain ⟨kq, x20_59, x21_59, rfl, rfl, HA, HJ59, HO_0, HK, HB⟩ := hcut
  cases kq with
  | zero => exact absurd HA.out (by simp [q0q.j4])
  | succ kj59 =>
   have H := HA.out
   clear HA
   simp only [q0q.j4] at H
   have H' := Aside0.mk H
   clear H
   go_wp2
   go_loopg [20, 21] kj59 (fun kq v20 v21 w' => ∃ (x20_2 : Int) (x21_2 : Int), v20 = .int .i64 x20_2 ∧ v21 = .int .i64 x21_2 ∧ Aside0 (q0q.l4 kq l0 a1 a2 a3 (wrap64 ((IntKind.u64.wrap (wrap64 (a1 + a3))) / 2)) (wrap64 ((wrap64 ((IntKind.u64.wrap (wrap64 (a1 + a3))) / 2)) + a2)) x20_2 x21_2 (wrap64 ((wrap64 ((wrap64 ((IntKind.u64.wrap (wrap64 (a1 + a3))) / 2)) + a2)) - 1)) = some r) ∧ Aside0 (kq ≤ kj59) ∧ Aside0 (Kd.R k79 79 w' w0.heap.size (fun k_ => (P0_ k_ ∨ w.heap.size ≤ k_)) u9000_ l0) ∧ Aside0 (Kept w w' (fun k_ => P0_ k_)) ∧ Aside0 (Below w0.heap.size w0 w'))
   case atStart => exact ⟨(x20_59), (x21_59), ac, ac, H', ⟨Nat.le_refl _⟩, ⟨gR HO_0⟩, ⟨gP HK⟩, ⟨gB HB⟩⟩
   case round =>
    clear H'; (try clear c6); (try clear c6b0); (try clear c6b1); (try clear c33); (try clear c33b0); (try clear c33b1)
    obtain ⟨x20_2, x21_2, rfl, rfl, HA, HK2, HO_0, HK, HB⟩ := hrel
    cases gk with
    | zero => exact absurd HA.out (by simp [q0q.l4])
    | succ k2 =>
     have H := HA.out
     clear HA
     simp only [q0q.l4] at H
     by_cases c62 : x20_2 < x21_2
     · rw [if_pos c62] at H
       have c62b0 := dT c62
       clear c62
       obtain ⟨ji63, hji63⟩ : ∃ j_ : Int, (wrap64 ((wrap64 ((wrap64 ((wrap64 ((IntKind.u64.wrap (wrap64 (a1 + a3))) / 2)) + a2)) - 1)) - (wrap64 ((IntKind.u64.wrap (wrap64 (x20_2 + x21_2))) / 2)))) = j_ := ⟨_, rfl⟩
       replace H : (if 0 ≤ (ji63) then (if (ji63) < (l0.length : Int) then (if 0 ≤ (wrap64 ((IntKind.u64.wrap (wrap64 (x20_2 + x21_2))) / 2)) then (if (wrap64 ((IntKind.u64.wrap (wrap64 (x20_2 + x21_2))) / 2)) < (l0.length : Int) then ((q21q.f ((rd_T79 l0 (ji63)).f0) ((rd_T79 l0 (ji63)).f1) ((rd_T79 l0 (ji63)).f2) ((rd_T79 l0 (ji63)).f3) ((rd_T79 l0 (wrap64 ((IntKind.u64.wrap (wrap64 (x20_2 + x21_2))) / 2))).f0) ((rd_T79 l0 (wrap64 ((IntKind.u64.wrap (wrap64 (x20_2 + x21_2))) / 2))).f1) ((rd_T79 l0 (wrap64 ((IntKind.u64.wrap (wrap64 (x20_2 + x21_2))) / 2))).f2) ((rd_T79 l0 (wrap64 ((IntKind.u64.wrap (wrap64 (x20_2 + x21_2))) / 2))).f3)).bind fun t252 => (if t252 < 0 then (q0q.l4 k2 l0 a1 a2 a3 (wrap64 ((IntKind.u64.wrap (wrap64 (a1 + a3))) / 2)) (wrap64 ((wrap64 ((IntKind.u64.wrap (wrap64 (a1 + a3))) / 2)) + a2)) x20_2 (wrap64 ((IntKind.u64.wrap (wrap64 (x20_2 + x21_2))) / 2)) (wrap64 ((wrap64 ((wrap64 ((IntKind.u64.wrap (wrap64 (a1 + a3))) / 2)) + a2)) - 1))) else (q0q.l4 k2 l0 a1 a2 a3 (wrap64 ((IntKind.u64.wrap (wrap64 (a1 + a3))) / 2)) (wrap64 ((wrap64 ((IntKind.u64.wrap (wrap64 (a1 + a3))) / 2)) + a2)) (wrap64 ((wrap64 ((IntKind.u64.wrap (wrap64 (x20_2 + x21_2))) / 2)) + 1)) x21_2 (wrap64 ((wrap64 ((wrap64 ((IntKind.u64.wrap (wrap64 (a1 + a3))) / 2)) + a2)) - 1))))) else (none)) else (none)) else (none)) else (none)) = some r := by first | (rw [hji63] at H; exact H) | (simp only [hji63] at H ⊢; exact H)
       have hji63w : (IntKind.i64.wrap ((wrap64 ((wrap64 ((wrap64 ((IntKind.u64.wrap (wrap64 (a1 + a3))) / 2)) + a2)) - 1)) - (wrap64 ((IntKind.u64.wrap (wrap64 (x20_2 + x21_2))) / 2)))) = ji63 := (i64_w _).trans hji63
       by_cases c64 : 0 ≤ (ji63)
       · rw [if_pos c64] at H
         have c64b0 := dT c64
         clear c64
         by_cases c65 : (ji63) < (l0.length : Int)
         · rw [if_pos c65] at H
           have c65b0 := dT c65
           clear c65
           obtain ⟨ji66, hji66⟩ : ∃ j_ : Int, (wrap64 ((IntKind.u64.wrap (wrap64 (x20_2 + x21_2))) / 2)) = j_ := ⟨_, rfl⟩
           replace H : (if 0 ≤ (ji66) then (if (ji66) < (l0.length : Int) then ((q21q.f ((rd_T79 l0 (ji63)).f0) ((rd_T79 l0 (ji63)).f1) ((rd_T79 l0 (ji63)).f2) ((rd_T79 l0 (ji63)).f3) ((rd_T79 l0 (ji66)).f0) ((rd_T79 l0 (ji66)).f1) ((rd_T79 l0 (ji66)).f2) ((rd_T79 l0 (ji66)).f3)).bind fun t252 => (if t252 < 0 then (q0q.l4 k2 l0 a1 a2 a3 (wrap64 ((IntKind.u64.wrap (wrap64 (a1 + a3))) / 2)) (wrap64 ((wrap64 ((IntKind.u64.wrap (wrap64 (a1 + a3))) / 2)) + a2)) x20_2 ji66 (wrap64 ((wrap64 ((wrap64 ((IntKind.u64.wrap (wrap64 (a1 + a3))) / 2)) + a2)) - 1))) else (q0q.l4 k2 l0 a1 a2 a3 (wrap64 ((IntKind.u64.wrap (wrap64 (a1 + a3))) / 2)) (wrap64 ((wrap64 ((IntKind.u64.wrap (wrap64 (a1 + a3))) / 2)) + a2)) (wrap64 ((ji66) + 1)) x21_2 (wrap64 ((wrap64 ((wrap64 ((IntKind.u64.wrap (wrap64 (a1 + a3))) / 2)) + a2)) - 1))))) else (none)) else (none)) = some r := by first | (rw [hji66] at H; exact H) | (simp only [hji66] at H ⊢; exact H)
           (try rw [hji66] at hji63)
           (try rw [hji66] at hji63w)
           have hji66w : (IntKind.i64.wrap ((IntKind.u64.wrap (wrap64 (x20_2 + x21_2))) / 2)) = ji66 := (i64_w _).trans hji66
           by_cases c67 : 0 ≤ (ji66)
           · rw [if_pos c67] at H
             have c67b0 := dT c67
             clear c67
             by_cases c68 : (ji66) < (l0.length : Int)
             · rw [if_pos c68] at H
               have c68b0 := dT c68
               clear c68
               replace H := Option.bind_eq_some_iff.mp H
               obtain ⟨t252, A690, H⟩ := H
               replace H : (if t252 < 0 then (q0q.l4 k2 l0 a1 a2 a3 (wrap64 ((IntKind.u64.wrap (wrap64 (a1 + a3))) / 2)) (wrap64 ((wrap64 ((IntKind.u64.wrap (wrap64 (a1 + a3))) / 2)) + a2)) x20_2 ji66 (wrap64 ((wrap64 ((wrap64 ((IntKind.u64.wrap (wrap64 (a1 + a3))) / 2)) + a2)) - 1))) else (q0q.l4 k2 l0 a1 a2 a3 (wrap64 ((IntKind.u64.wrap (wrap64 (a1 + a3))) / 2)) (wrap64 ((wrap64 ((IntKind.u64.wrap (wrap64 (a1 + a3))) / 2)) + a2)) (wrap64 ((ji66) + 1)) x21_2 (wrap64 ((wrap64 ((wrap64 ((IntKind.u64.wrap (wrap64 (a1 + a3))) / 2)) + a2)) - 1)))) = some r := H
               have A69 := Aside0.mk A690; clear A690
               by_cases c70 : t252 < 0
               · rw [if_pos c70] at H
                 have c70b0 := dT c70
                 clear c70
                 have H' := Aside0.mk H
                 clear H
                 try go_wp2
                 have n0_ := aK (Kd.R_drew HO_0.out)
                 have n1_ := aK (Kept.drew HK.out)
                 have n2_ := aK (below_drew1 HB.out)
                 clear HO_0; clear HK; clear HB
                 have HO_0 := n0_
                 have HK := n1_
                 have HB := n2_
                 clear n0_ n1_ n2_
                 obtain ⟨Ao72, co72, eo72⟩ := Kd.R_slice HO_0.out
                 (first | subst eo72 | (injection eo72 with f1_ f2_ f3_; have f4_ := f1_.symm; have f5_ := f3_.symm; clear f1_ f2_ f3_; subst f4_; subst f5_))
                 obtain ⟨⟨p250, q250⟩, ad250, rfl, hx250_0, hx250_1, hx250_2, hx250_3⟩ := za (at_T79 (Kd.R_reads' HO_0.out).2.2) (ji63)
                 obtain ⟨⟨p251, q251⟩, ad251, e251, hx251_0, hx251_1, hx251_2, hx251_3⟩ := za (at_T79 (Kd.R_reads' HO_0.out).2.2) (ji66)
                 obtain rfl : ad250 = ad251 := (by injection e251)
                 refine start_ (n := 14) (S := fun w' => w'.cell? (ad250.add (((ji63)).toNat * 4)) = some (.int .i64 ((rd_T79 l0 (ji63)).f0)) ∧ w'.cell? ⟨(ad250.add (((ji63)).toNat * 4)).block, (ad250.add (((ji63)).toNat * 4)).off + 1, none⟩ = some (.string ((rd_T79 l0 (ji63)).f1)) ∧ w'.cell? ⟨(ad250.add (((ji63)).toNat * 4)).block, (ad250.add (((ji63)).toNat * 4)).off + 2, none⟩ = some (.int .i64 ((rd_T79 l0 (ji63)).f2)) ∧ w'.cell? ⟨(ad250.add (((ji63)).toNat * 4)).block, (ad250.add (((ji63)).toNat * 4)).off + 3, none⟩ = some (.int .i64 ((rd_T79 l0 (ji63)).f3)) ∧ w'.cell? (ad250.add (((ji66)).toNat * 4)) = some (.int .i64 ((rd_T79 l0 (ji66)).f0)) ∧ w'.cell? ⟨(ad250.add (((ji66)).toNat * 4)).block, (ad250.add (((ji66)).toNat * 4)).off + 1, none⟩ = some (.string ((rd_T79 l0 (ji66)).f1)) ∧ w'.cell? ⟨(ad250.add (((ji66)).toNat * 4)).block, (ad250.add (((ji66)).toNat * 4)).off + 2, none⟩ = some (.int .i64 ((rd_T79 l0 (ji66)).f2)) ∧ w'.cell? ⟨(ad250.add (((ji66)).toNat * 4)).block, (ad250.add (((ji66)).toNat * 4)).off + 3, none⟩ = some (.int .i64 ((rd_T79 l0 (ji66)).f3))) (ds := []) (pf 14 0) (by kernel_rfl) rfl rfl ⟨hx250_0, hx250_1, hx250_2, hx250_3, hx251_0, hx251_1, hx251_2, hx251_3⟩ (fun hHeld => ?_); refine with_tabW q0q.tab35 q0q.bits35 (fun HT_ HW_ => ?_)
                 generalize wr.drew = w71 at HO_0 HK HB hx250_0 hx250_1 hx250_2 hx250_3 hx251_0 hx251_1 hx251_2 hx251_3 hHeld ⊢
                 refine pA (i := 0) (N := some 158) HT_ (pf 14 1) ?_
                 refine pA (i := 1) (N := some 159) HT_ (pf 14 2) ?_
                 refine pA (i := 2) (N := some 160) HT_ (pf 14 3) ?_
                 refine pA (i := 3) (N := some 161) HT_ (pf 14 4) ?_
                 refine pA (i := 4) (N := some 162) HT_ (pf 14 5) ?_
                 refine pA (i := 5) (N := some 163) HT_ (pf 14 6) ?_
                 refine pA (i := 7) (N := some 165) HT_ (ba 14 191) ?_
                 refine pA (i := 8) (N := some 166) HT_ (ba 14 447) ?_
                 refine pA (i := 9) (N := some 167) HT_ (ba 14 959) ?_
                 refine take_ (i := 6) (N := some 164) (v := ?_) (a' := ?_) (pf 14 10) rfl rfl (take_ofW HT_.out HW_.out (by kernel_rfl)) (fun _ _ _ h => h) (Or.inl ⟨by rfl, ?_⟩) hHeld ?_ ?_
                 rotate_left
                 · rintro w' ⟨s0, s1, s2, s3, s4, s5, s6, s7⟩
                   go_simp
                   with_reducible rfl
                 rotate_left
                 · simp only [Act.put, sA, sB, sC, i64_w, i32_w]
                   rfl
                 refine take_ (i := 10) (N := some 168) (v := ?_) (a' := ?_) (pf 14 11) rfl rfl (take_ofW HT_.out HW_.out (by kernel_rfl)) (fun _ _ _ h => h) (Or.inl ⟨by rfl, ?_⟩) hHeld ?_ ?_
                 rotate_left
                 · rintro w' ⟨s0, s1, s2, s3, s4, s5, s6, s7⟩
                   go_simp
                   with_reducible rfl
                 rotate_left
                 · simp only [Act.put, sA, sB, sC, i64_w, i32_w]
                   rfl
                 refine one_ (i := 11) (N := some 169) (pf 14 12) rfl rfl (one_of HT_.out (by kernel_rfl)) (by decide) (fun K hK => ?_)
                 refine goesV_ (by rfl) Try.func33 (by kernel_rfl) rfl #[.agg #[.int .i64 ((rd_T79 l0 (ji63)).f0), .string ((rd_T79 l0 (ji63)).f1), .int .i64 ((rd_T79 l0 (ji63)).f2), .int .i64 ((rd_T79 l0 (ji63)).f3)], .agg #[.int .i64 ((rd_T79 l0 (ji66)).f0), .string ((rd_T79 l0 (ji66)).f1), .int .i64 ((rd_T79 l0 (ji66)).f2), .int .i64 ((rd_T79 l0 (ji66)).f3)]] (by rfl) rfl rfl (by (try simp only [List.map_toArray, List.map_cons, List.map_nil]); first | done | (simp only [hji63, hji66]; rfl) | rfl | (simp only [List.length_drop, List.length_take]; rfl)) ?_
                 with_reducible refine (q21q.calls ((rd_T79 l0 (ji63)).f0) ((rd_T79 l0 (ji63)).f1) ((rd_T79 l0 (ji63)).f2) ((rd_T79 l0 (ji63)).f3) ((rd_T79 l0 (ji66)).f0) ((rd_T79 l0 (ji66)).f1) ((rd_T79 l0 (ji66)).f2) ((rd_T79 l0 (ji66)).f3) t252 _ A69.out).mono ?_
                 rintro e w73 ⟨rfl, hb⟩
                 have HS0_ := (hb.cell (World.block_lt_of_cell? _ _ (hHeld.1))).trans (hHeld.1)
                 have HS1_ := (hb.cell (World.block_lt_of_cell? _ _ (hHeld.2.1))).trans (hHeld.2.1)
                 have HS2_ := (hb.cell (World.block_lt_of_cell? _ _ (hHeld.2.2.1))).trans (hHeld.2.2.1)
                 have HS3_ := (hb.cell (World.block_lt_of_cell? _ _ (hHeld.2.2.2.1))).trans (hHeld.2.2.2.1)
                 have HS4_ := (hb.cell (World.block_lt_of_cell? _ _ (hHeld.2.2.2.2.1))).trans (hHeld.2.2.2.2.1)
                 have HS5_ := (hb.cell (World.block_lt_of_cell? _ _ (hHeld.2.2.2.2.2.1))).trans (hHeld.2.2.2.2.2.1)
                 have HS6_ := (hb.cell (World.block_lt_of_cell? _ _ (hHeld.2.2.2.2.2.2.1))).trans (hHeld.2.2.2.2.2.2.1)
                 have HS7_ := (hb.cell (World.block_lt_of_cell? _ _ (hHeld.2.2.2.2.2.2.2))).trans (hHeld.2.2.2.2.2.2.2)
                 refine ⟨_, rfl, ?_⟩
                 have n0_ := aK (Kd.R_below (gR HO_0) hb)
                 have n1_ := aK (Kept.below (S := (fun k_ => P0_ k_)) (gP HK) hb)
                 have n2_ := aK (below_step (gB HB) hb)
                 clear HO_0; clear HK; clear HB
                 have HO_0 := n0_
                 have HK := n1_
                 have HB := n2_
                 clear n0_ n1_ n2_
                 try clear hb
                 try clear hb2
                 try clear hk
                 try clear hi
                 refine hK.out _ _ ⟨HS0_, HS1_, HS2_, HS3_, HS4_, HS5_, HS6_, HS7_⟩ (fun hHeld => ?_)
                 clear hK K
                 refine norm_ (a' := ?_) ?_ ?_
                 rotate_left
                 · show Act.put _ (some 169) _ = _
                   simp only [Act.put, sA, sB, sC, i64_w, i32_w]
                   rfl
                 refine pA (i := 12) (N := some 170) HT_ (pf 14 13) ?_
                 refine pA (i := 13) (N := some 171) HT_ (pf 14 14) ?_
                 refine done_ (done_of HT_.out (by kernel_rfl)) ?_
                 try go_wp2
                 go_roundg k2
                 case measure => have := HJ59.out; have := HK2.out; omega
                 case rel => exact ⟨(x20_2), (ji66), ac, (by first | rfl | (simp; done) | (simp only [← hji66] <;> (first | rfl | simp)) | (simp [*]; done)), H', ⟨by have := HJ59.out; have := HK2.out; omega⟩, ⟨gR HO_0⟩, ⟨gP HK⟩, ⟨gB HB⟩⟩
               · rw [if_neg c70] at H
                 have c70b0 := dF c70
                 clear c70
                 have H' := Aside0.mk H
                 clear H
                 try go_wp2
                 have n0_ := aK (Kd.R_drew HO_0.out)
                 have n1_ := aK (Kept.drew HK.out)
                 have n2_ := aK (below_drew1 HB.out)
                 clear HO_0; clear HK; clear HB
                 have HO_0 := n0_
                 have HK := n1_
                 have HB := n2_
                 clear n0_ n1_ n2_
                 obtain ⟨Ao75, co75, eo75⟩ := Kd.R_slice HO_0.out
                 (first | subst eo75 | (injection eo75 with f1_ f2_ f3_; have f4_ := f1_.symm; have f5_ := f3_.symm; clear f1_ f2_ f3_; subst f4_; subst f5_))
                 obtain ⟨⟨p250, q250⟩, ad250, rfl, hx250_0, hx250_1, hx250_2, hx250_3⟩ := za (at_T79 (Kd.R_reads' HO_0.out).2.2) (ji63)
                 obtain ⟨⟨p251, q251⟩, ad251, e251, hx251_0, hx251_1, hx251_2, hx251_3⟩ := za (at_T79 (Kd.R_reads' HO_0.out).2.2) (ji66)
                 obtain rfl : ad250 = ad251 := (by injection e251)
                 refine start_ (n := 14) (S := fun w' => w'.cell? (ad250.add (((ji63)).toNat * 4)) = some (.int .i64 ((rd_T79 l0 (ji63)).f0)) ∧ w'.cell? ⟨(ad250.add (((ji63)).toNat * 4)).block, (ad250.add (((ji63)).toNat * 4)).off + 1, none⟩ = some (.string ((rd_T79 l0 (ji63)).f1)) ∧ w'.cell? ⟨(ad250.add (((ji63)).toNat * 4)).block, (ad250.add (((ji63)).toNat * 4)).off + 2, none⟩ = some (.int .i64 ((rd_T79 l0 (ji63)).f2)) ∧ w'.cell? ⟨(ad250.add (((ji63)).toNat * 4)).block, (ad250.add (((ji63)).toNat * 4)).off + 3, none⟩ = some (.int .i64 ((rd_T79 l0 (ji63)).f3)) ∧ w'.cell? (ad250.add (((ji66)).toNat * 4)) = some (.int .i64 ((rd_T79 l0 (ji66)).f0)) ∧ w'.cell? ⟨(ad250.add (((ji66)).toNat * 4)).block, (ad250.add (((ji66)).toNat * 4)).off + 1, none⟩ = some (.string ((rd_T79 l0 (ji66)).f1)) ∧ w'.cell? ⟨(ad250.add (((ji66)).toNat * 4)).block, (ad250.add (((ji66)).toNat * 4)).off + 2, none⟩ = some (.int .i64 ((rd_T79 l0 (ji66)).f2)) ∧ w'.cell? ⟨(ad250.add (((ji66)).toNat * 4)).block, (ad250.add (((ji66)).toNat * 4)).off + 3, none⟩ = some (.int .i64 ((rd_T79 l0 (ji66)).f3))) (ds := []) (pf 14 0) (by kernel_rfl) rfl rfl ⟨hx250_0, hx250_1, hx250_2, hx250_3, hx251_0, hx251_1, hx251_2, hx251_3⟩ (fun hHeld => ?_); refine with_tabW q0q.tab35 q0q.bits35 (fun HT_ HW_ => ?_)
                 generalize wr.drew = w74 at HO_0 HK HB hx250_0 hx250_1 hx250_2 hx250_3 hx251_0 hx251_1 hx251_2 hx251_3 hHeld ⊢
                 refine pA (i := 0) (N := some 158) HT_ (pf 14 1) ?_
                 refine pA (i := 1) (N := some 159) HT_ (pf 14 2) ?_
                 refine pA (i := 2) (N := some 160) HT_ (pf 14 3) ?_
                 refine pA (i := 3) (N := some 161) HT_ (pf 14 4) ?_
                 refine pA (i := 4) (N := some 162) HT_ (pf 14 5) ?_
                 refine pA (i := 5) (N := some 163) HT_ (pf 14 6) ?_
                 refine pA (i := 7) (N := some 165) HT_ (ba 14 191) ?_
                 refine pA (i := 8) (N := some 166) HT_ (ba 14 447) ?_
                 refine pA (i := 9) (N := some 167) HT_ (ba 14 959) ?_
                 refine take_ (i := 6) (N := some 164) (v := ?_) (a' := ?_) (pf 14 10) rfl rfl (take_ofW HT_.out HW_.out (by kernel_rfl)) (fun _ _ _ h => h) (Or.inl ⟨by rfl, ?_⟩) hHeld ?_ ?_
                 rotate_left
                 · rintro w' ⟨s0, s1, s2, s3, s4, s5, s6, s7⟩
                   go_simp
                   with_reducible rfl
                 rotate_left
                 · simp only [Act.put, sA, sB, sC, i64_w, i32_w]
                   rfl
                 refine take_ (i := 10) (N := some 168) (v := ?_) (a' := ?_) (pf 14 11) rfl rfl (take_ofW HT_.out HW_.out (by kernel_rfl)) (fun _ _ _ h => h) (Or.inl ⟨by rfl, ?_⟩) hHeld ?_ ?_
                 rotate_left
                 · rintro w' ⟨s0, s1, s2, s3, s4, s5, s6, s7⟩
                   go_simp
                   with_reducible rfl
                 rotate_left
                 · simp only [Act.put, sA, sB, sC, i64_w, i32_w]
                   rfl
                 refine one_ (i := 11) (N := some 169) (pf 14 12) rfl rfl (one_of HT_.out (by kernel_rfl)) (by decide) (fun K hK => ?_)
                 refine goesV_ (by rfl) Try.func33 (by kernel_rfl) rfl #[.agg #[.int .i64 ((rd_T79 l0 (ji63)).f0), .string ((rd_T79 l0 (ji63)).f1), .int .i64 ((rd_T79 l0 (ji63)).f2), .int .i64 ((rd_T79 l0 (ji63)).f3)], .agg #[.int .i64 ((rd_T79 l0 (ji66)).f0), .string ((rd_T79 l0 (ji66)).f1), .int .i64 ((rd_T79 l0 (ji66)).f2), .int .i64 ((rd_T79 l0 (ji66)).f3)]] (by rfl) rfl rfl (by (try simp only [List.map_toArray, List.map_cons, List.map_nil]); first | done | (simp only [hji63, hji66]; rfl) | rfl | (simp only [List.length_drop, List.length_take]; rfl)) ?_
                 with_reducible refine (q21q.calls ((rd_T79 l0 (ji63)).f0) ((rd_T79 l0 (ji63)).f1) ((rd_T79 l0 (ji63)).f2) ((rd_T79 l0 (ji63)).f3) ((rd_T79 l0 (ji66)).f0) ((rd_T79 l0 (ji66)).f1) ((rd_T79 l0 (ji66)).f2) ((rd_T79 l0 (ji66)).f3) t252 _ A69.out).mono ?_
                 rintro e w76 ⟨rfl, hb⟩
                 have HS0_ := (hb.cell (World.block_lt_of_cell? _ _ (hHeld.1))).trans (hHeld.1)
                 have HS1_ := (hb.cell (World.block_lt_of_cell? _ _ (hHeld.2.1))).trans (hHeld.2.1)
                 have HS2_ := (hb.cell (World.block_lt_of_cell? _ _ (hHeld.2.2.1))).trans (hHeld.2.2.1)
                 have HS3_ := (hb.cell (World.block_lt_of_cell? _ _ (hHeld.2.2.2.1))).trans (hHeld.2.2.2.1)
                 have HS4_ := (hb.cell (World.block_lt_of_cell? _ _ (hHeld.2.2.2.2.1))).trans (hHeld.2.2.2.2.1)
                 have HS5_ := (hb.cell (World.block_lt_of_cell? _ _ (hHeld.2.2.2.2.2.1))).trans (hHeld.2.2.2.2.2.1)
                 have HS6_ := (hb.cell (World.block_lt_of_cell? _ _ (hHeld.2.2.2.2.2.2.1))).trans (hHeld.2.2.2.2.2.2.1)
                 have HS7_ := (hb.cell (World.block_lt_of_cell? _ _ (hHeld.2.2.2.2.2.2.2))).trans (hHeld.2.2.2.2.2.2.2)
                 refine ⟨_, rfl, ?_⟩
                 have n0_ := aK (Kd.R_below (gR HO_0) hb)
                 have n1_ := aK (Kept.below (S := (fun k_ => P0_ k_)) (gP HK) hb)
                 have n2_ := aK (below_step (gB HB) hb)
                 clear HO_0; clear HK; clear HB
                 have HO_0 := n0_
                 have HK := n1_
                 have HB := n2_
                 clear n0_ n1_ n2_
                 try clear hb
                 try clear hb2
                 try clear hk
                 try clear hi
                 refine hK.out _ _ ⟨HS0_, HS1_, HS2_, HS3_, HS4_, HS5_, HS6_, HS7_⟩ (fun hHeld => ?_)
                 clear hK K
                 refine norm_ (a' := ?_) ?_ ?_
                 rotate_left
                 · show Act.put _ (some 169) _ = _
                   simp only [Act.put, sA, sB, sC, i64_w, i32_w]
                   rfl
                 refine pA (i := 12) (N := some 170) HT_ (pf 14 13) ?_
                 refine pA (i := 13) (N := some 171) HT_ (pf 14 14) ?_
                 refine done_ (done_of HT_.out (by kernel_rfl)) ?_
                 try go_wp2
                 go_roundg k2
                 case measure => have := HJ59.out; have := HK2.out; omega
                 case rel => exact ⟨(wrap64 ((ji66) + 1)), (x21_2), (by first | rfl | (simp; done) | (simp only [← hji66] <;> (first | rfl | simp)) | (simp [*]; done)), ac, H', ⟨by have := HJ59.out; have := HK2.out; omega⟩, ⟨gR HO_0⟩, ⟨gP HK⟩, ⟨gB HB⟩⟩
             · rw [if_neg c68] at H
               exact absurd H (by simp)
           · rw [if_neg c67] at H
             exact absurd H (by simp)
         · rw [if_neg c65] at H
           exact absurd H (by simp)
       · rw [if_neg c64] at H
         exact absurd H (by simp)
     · rw [if_neg c62] at H
       have c62b0 := dF c62
       clear c62; have HC77 := Aside0.mk H; clear H
       go_upto_region 39 with (fail)
       go_cut [185] (fun v185 wc => ∃ (kq : Nat) (x185_76 : Bool), v185 = .bool x185_76 ∧ Aside0 (q0q.j6 kq l0 a1 a2 a3 (wrap64 ((IntKind.u64.wrap (wrap64 (a1 + a3))) / 2)) x20_2 (wrap64 ((wrap64 ((wrap64 ((IntKind.u64.wrap (wrap64 (a1 + a3))) / 2)) + a2)) - x20_2)) x185_76 = some r) ∧ Aside0 (kq ≤ k2) ∧ Aside0 (Kd.R k79 79 wc w0.heap.size (fun k_ => (P0_ k_ ∨ w.heap.size ≤ k_)) u9000_ l0) ∧ Aside0 (Kept w wc (fun k_ => P0_ k_)) ∧ Aside0 (Below w0.heap.size w0 wc))
       case first =>
        have H := HC77.out
        clear HC77
        by_cases c78 : x20_2 < a2
        · rw [if_pos c78] at H
          have c78b0 := dT c78
          clear c78
          (first | rw [c78b0] | (simp only [i64_w, i32_w]; rw [c78b0]) | skip)
          have H' := Aside0.mk H
          clear H
          go_wp2
          go_meet
          case rel => exact ⟨_, (decide (a2 < (wrap64 ((wrap64 ((wrap64 ((IntKind.u64.wrap (wrap64 (a1 + a3))) / 2)) + a2)) - x20_2)))), ac, H', ⟨by have := HJ59.out; have := HK2.out; first | omega | exact Nat.le_refl _⟩, ⟨gR HO_0⟩, ⟨gP HK⟩, ⟨gB HB⟩⟩
        · rw [if_neg c78] at H
          have c78b0 := dF c78
          clear c78
          (first | rw [c78b0] | (simp only [i64_w, i32_w]; rw [c78b0]) | skip)
          have H' := Aside0.mk H
          clear H
          go_wp2
          go_meet
          case rel => exact ⟨_, (false), ac, H', ⟨by have := HJ59.out; have := HK2.out; first | omega | exact Nat.le_refl _⟩, ⟨gR HO_0⟩, ⟨gP HK⟩, ⟨gB HB⟩⟩
       case rest =>
        clear HC77; (try clear c6); (try clear c6b0); (try clear c6b1); (try clear c33); (try clear c33b0); (try clear c33b1); (try clear c62); (try clear c62b0)
        obtain ⟨kq, x185_76, rfl, HA, HJ76, HO_0, HK, HB⟩ := hcut
        cases kq with
        | zero => exact absurd HA.out (by simp [q0q.j6])
        | succ kj76 =>
         have H := HA.out
         clear HA
         simp only [q0q.j6] at H
         have HC79 := Aside0.mk H; clear H
         go_upto_if 185 with (fail)
         go_cut [] (fun wc => ∃ (kq : Nat) (x0_78 : List (S79)), Aside0 (q0q.j7 kq x0_78 a1 a3 (wrap64 ((IntKind.u64.wrap (wrap64 (a1 + a3))) / 2)) x20_2 (wrap64 ((wrap64 ((wrap64 ((IntKind.u64.wrap (wrap64 (a1 + a3))) / 2)) + a2)) - x20_2)) = some r) ∧ Aside0 (kq ≤ kj76) ∧ Aside0 (Kd.R k79 79 wc w0.heap.size (fun k_ => (P0_ k_ ∨ w.heap.size ≤ k_)) u9000_ x0_78) ∧ Aside0 (Kept w wc (fun k_ => P0_ k_)) ∧ Aside0 (Below w0.heap.size w0 wc))
         case first =>
          have H := HC79.out
          clear HC79
          by_cases c80 : x185_76 = true
          · subst c80
            replace H : ((q6q.f kj76 l0 x20_2 a2 (wrap64 ((wrap64 ((wrap64 ((IntKind.u64.wrap (wrap64 (a1 + a3))) / 2)) + a2)) - x20_2))).bind fun t253 => (q0q.j7 kj76 t253 a1 a3 (wrap64 ((IntKind.u64.wrap (wrap64 (a1 + a3))) / 2)) x20_2 (wrap64 ((wrap64 ((wrap64 ((IntKind.u64.wrap (wrap64 (a1 + a3))) / 2)) + a2)) - x20_2)))) = some r := by rw [if_pos rfl] at H; exact H
            replace H := Option.bind_eq_some_iff.mp H
            obtain ⟨t253, A810, H⟩ := H
            replace H : (q0q.j7 kj76 t253 a1 a3 (wrap64 ((IntKind.u64.wrap (wrap64 (a1 + a3))) / 2)) x20_2 (wrap64 ((wrap64 ((wrap64 ((IntKind.u64.wrap (wrap64 (a1 + a3))) / 2)) + a2)) - x20_2))) = some r := H
            have A81 := Aside0.mk A810; clear A810
            have H' := Aside0.mk H
            clear H
            obtain ⟨Ao82, co82, eo82⟩ := Kd.R_slice HO_0.out
            subst eo82
            go_wp2_with (first | ((with_reducible refine gate_callee (f := 60) rfl ?_); refine goesL_ (some 191) rfl rfl Try.func60 (by kernel_rfl) rfl #[.slice Ao82 l0.length co82, .int .i64 x20_2, .int .i64 a2, .int .i64 (wrap64 ((wrap64 ((wrap64 ((IntKind.u64.wrap (wrap64 (a1 + a3))) / 2)) + a2)) - x20_2)), .func (.func 33) #[] #[]] rfl am ?_; (with_reducible refine (q6q.calls kj76 (fun k_ => some k_ = (.slice Ao82 l0.length co82 : Value).ownBlock) (.slice Ao82 l0.length co82) l0 x20_2 a2 (wrap64 ((wrap64 ((wrap64 ((IntKind.u64.wrap (wrap64 (a1 + a3))) / 2)) + a2)) - x20_2))  t253 w0 _ ?side1 ?side2 A81.out).mono ?_); (case side1 => exact gB HB); (case side2 => exact Kd.R_tight rfl HO_0.out); rintro e w83 ⟨rfl, hy_, hb, hkp⟩; refine ⟨_, rfl, ?_⟩; replace HK := aK (Kept.then_ (S := (fun k_ => P0_ k_)) (gP HK) hkp (fun k_ hs_ => (fun e_ => (HO_0.out.1 k_ e_.symm)) hs_)); replace HO_0 := aK (Kd.R_reok rfl hy_ (fun k_ e_ => HO_0.out.1 k_ e_)); replace HB := aK (hb); (try clear hb); (try clear hkp); (try clear hy_)))
            go_meet
            case rel => exact ⟨_, (t253), H', ⟨by have := HJ59.out; have := HK2.out; have := HJ76.out; first | omega | exact Nat.le_refl _⟩, ⟨gR HO_0⟩, ⟨gP HK⟩, ⟨gB HB⟩⟩
          · replace c80 := Bool.eq_false_iff.mpr c80
            subst c80
            replace H : (q0q.j7 kj76 l0 a1 a3 (wrap64 ((IntKind.u64.wrap (wrap64 (a1 + a3))) / 2)) x20_2 (wrap64 ((wrap64 ((wrap64 ((IntKind.u64.wrap (wrap64 (a1 + a3))) / 2)) + a2)) - x20_2))) = some r := by rw [if_neg (show ¬ (false = true) by decide)] at H; exact H
            have H' := Aside0.mk H
            clear H
            go_wp2
            go_meet
            case rel => exact ⟨_, (l0), H', ⟨by have := HJ59.out; have := HK2.out; have := HJ76.out; first | omega | exact Nat.le_refl _⟩, ⟨gR HO_0⟩, ⟨gP HK⟩, ⟨gB HB⟩⟩
         case rest =>
          clear HC79; (try clear c6); (try clear c6b0); (try clear c6b1); (try clear c33); (try clear c33b0); (try clear c33b1); (try clear c62); (try clear c62b0)
          obtain ⟨kq, x0_78, HA, HJ78, HO_0, HK, HB⟩ := hcut
          cases kq with
          | zero => exact absurd HA.out (by simp [q0q.j7])
          | succ kj78 =>
           have H := HA.out
           clear HA
           simp only [q0q.j7] at H
           have HC84 := Aside0.mk H; clear H
           go_upto_region 41 with (fail)
           go_cut [199] (fun v199 wc => ∃ (kq : Nat) (x199_83 : Bool), v199 = .bool x199_83 ∧ Aside0 (q0q.j8 kq x0_78 a1 a3 (wrap64 ((IntKind.u64.wrap (wrap64 (a1 + a3))) / 2)) x20_2 (wrap64 ((wrap64 ((wrap64 ((IntKind.u64.wrap (wrap64 (a1 + a3))) / 2)) + a2)) - x20_2)) x199_83 = some r) ∧ Aside0 (kq ≤ kj78) ∧ Aside0 (Kd.R k79 79 wc w0.heap.size (fun k_ => (P0_ k_ ∨ w.heap.size ≤ k_)) u9000_ x0_78) ∧ Aside0 (Kept w wc (fun k_ => P0_ k_)) ∧ Aside0 (Below w0.heap.size w0 wc))
           case first =>
            have H := HC84.out
            clear HC84
            by_cases c85 : a1 < x20_2
            · rw [if_pos c85] at H
              have c85b0 := dT c85
              clear c85
              (first | rw [c85b0] | (simp only [i64_w, i32_w]; rw [c85b0]) | skip)
              have H' := Aside0.mk H
              clear H
              go_wp2
              go_meet
              case rel => exact ⟨_, (decide (x20_2 < (wrap64 ((IntKind.u64.wrap (wrap64 (a1 + a3))) / 2)))), ac, H', ⟨by have := HJ59.out; have := HK2.out; have := HJ76.out; have := HJ78.out; first | omega | exact Nat.le_refl _⟩, ⟨gR HO_0⟩, ⟨gP HK⟩, ⟨gB HB⟩⟩
            · rw [if_neg c85] at H
              have c85b0 := dF c85
              clear c85
              (first | rw [c85b0] | (simp only [i64_w, i32_w]; rw [c85b0]) | skip)
              have H' := Aside0.mk H
              clear H
              go_wp2
              go_meet
              case rel => exact ⟨_, (false), ac, H', ⟨by have := HJ59.out; have := HK2.out; have := HJ76.out; have := HJ78.out; first | omega | exact Nat.le_refl _⟩, ⟨gR HO_0⟩, ⟨gP HK⟩, ⟨gB HB⟩⟩
           case rest =>
            clear HC84; (try clear c6); (try clear c6b0); (try clear c6b1); (try clear c33); (try clear c33b0); (try clear c33b1); (try clear c62); (try clear c62b0)
            obtain ⟨kq, x199_83, rfl, HA, HJ83, HO_0, HK, HB⟩ := hcut
            cases kq with
            | zero => exact absurd HA.out (by simp [q0q.j8])
            | succ kj83 =>
             have H := HA.out
             clear HA
             simp only [q0q.j8] at H
             by_cases c86 : x199_83 = true
             · subst c86
               replace H : ((q0q.f kj83 x0_78 a1 x20_2 (wrap64 ((IntKind.u64.wrap (wrap64 (a1 + a3))) / 2))).bind fun t254 => (if (wrap64 ((IntKind.u64.wrap (wrap64 (a1 + a3))) / 2)) < (wrap64 ((wrap64 ((wrap64 ((IntKind.u64.wrap (wrap64 (a1 + a3))) / 2)) + a2)) - x20_2)) then (if (wrap64 ((wrap64 ((wrap64 ((IntKind.u64.wrap (wrap64 (a1 + a3))) / 2)) + a2)) - x20_2)) < a3 then ((q0q.f kj83 t254 (wrap64 ((IntKind.u64.wrap (wrap64 (a1 + a3))) / 2)) (wrap64 ((wrap64 ((wrap64 ((IntKind.u64.wrap (wrap64 (a1 + a3))) / 2)) + a2)) - x20_2)) a3).bind fun t255 => (some t255)) else (some t254)) else (some t254))) = some r := by rw [if_pos rfl] at H; exact H
               replace H := Option.bind_eq_some_iff.mp H
               obtain ⟨t254, A870, H⟩ := H
               replace H : (if (wrap64 ((IntKind.u64.wrap (wrap64 (a1 + a3))) / 2)) < (wrap64 ((wrap64 ((wrap64 ((IntKind.u64.wrap (wrap64 (a1 + a3))) / 2)) + a2)) - x20_2)) then (if (wrap64 ((wrap64 ((wrap64 ((IntKind.u64.wrap (wrap64 (a1 + a3))) / 2)) + a2)) - x20_2)) < a3 then ((q0q.f kj83 t254 (wrap64 ((IntKind.u64.wrap (wrap64 (a1 + a3))) / 2)) (wrap64 ((wrap64 ((wrap64 ((IntKind.u64.wrap (wrap64 (a1 + a3))) / 2)) + a2)) - x20_2)) a3).bind fun t255 => (some t255)) else (some t254)) else (some t254)) = some r := H
               have A87 := Aside0.mk A870; clear A870
               by_cases c88 : (wrap64 ((IntKind.u64.wrap (wrap64 (a1 + a3))) / 2)) < (wrap64 ((wrap64 ((wrap64 ((IntKind.u64.wrap (wrap64 (a1 + a3))) / 2)) + a2)) - x20_2))
               · rw [if_pos c88] at H
                 have c88b0 := dT c88
                 clear c88
                 by_cases c89 : (wrap64 ((wrap64 ((wrap64 ((IntKind.u64.wrap (wrap64 (a1 + a3))) / 2)) + a2)) - x20_2)) < a3
                 · rw [if_pos c89] at H
                   have c89b0 := dT c89
                   clear c89
                   replace H := Option.bind_eq_some_iff.mp H
                   obtain ⟨t255, A900, H⟩ := H
                   replace H : (some t255) = some r := H
                   have A90 := Aside0.mk A900; clear A900
                   obtain rfl := Option.some.inj H
                   obtain ⟨Ao91, co91, eo91⟩ := Kd.R_slice HO_0.out
                   subst eo91
                   go_wp2_with (first | ((with_reducible refine gate_callee (f := 59) rfl ?_); refine goesL_ (some 205) rfl rfl Try.func59 (by kernel_rfl) rfl #[.slice Ao91 x0_78.length co91, .int .i64 a1, .int .i64 x20_2, .int .i64 (wrap64 ((IntKind.u64.wrap (wrap64 (a1 + a3))) / 2)), .func (.func 33) #[] #[]] rfl am ?_; (with_reducible refine (ih kj83 (by have := HJ59.out; have := HK2.out; have := HJ76.out; have := HJ78.out; have := HJ83.out; omega) (fun k_ => some k_ = (.slice Ao91 x0_78.length co91 : Value).ownBlock) (.slice Ao91 x0_78.length co91) x0_78 a1 x20_2 (wrap64 ((IntKind.u64.wrap (wrap64 (a1 + a3))) / 2))  t254 w0 _ ?side1 ?side2 A87.out).mono ?_); (case side1 => exact gB HB); (case side2 => exact Kd.R_tight rfl HO_0.out); rintro e w92 ⟨rfl, hy_, hb, hkp⟩; refine ⟨_, rfl, ?_⟩; replace HK := aK (Kept.then_ (S := (fun k_ => P0_ k_)) (gP HK) hkp (fun k_ hs_ => (fun e_ => (HO_0.out.1 k_ e_.symm)) hs_)); replace HO_0 := aK (Kd.R_reok rfl hy_ (fun k_ e_ => HO_0.out.1 k_ e_)); replace HB := aK (hb); (try clear hb); (try clear hkp); (try clear hy_)) | ((with_reducible refine gate_callee (f := 59) rfl ?_); refine goesL_ (some 219) rfl rfl Try.func59 (by kernel_rfl) rfl #[.slice Ao91 x0_78.length co91, .int .i64 (wrap64 ((IntKind.u64.wrap (wrap64 (a1 + a3))) / 2)), .int .i64 (wrap64 ((wrap64 ((wrap64 ((IntKind.u64.wrap (wrap64 (a1 + a3))) / 2)) + a2)) - x20_2)), .int .i64 a3, .func (.func 33) #[] #[]] rfl am ?_; (with_reducible refine (ih kj83 (by have := HJ59.out; have := HK2.out; have := HJ76.out; have := HJ78.out; have := HJ83.out; omega) (fun k_ => some k_ = (.slice Ao91 x0_78.length co91 : Value).ownBlock) (.slice Ao91 x0_78.length co91) t254 (wrap64 ((IntKind.u64.wrap (wrap64 (a1 + a3))) / 2)) (wrap64 ((wrap64 ((wrap64 ((IntKind.u64.wrap (wrap64 (a1 + a3))) / 2)) + a2)) - x20_2)) a3  t255 w0 _ ?side1 ?side2 A90.out).mono ?_); (case side1 => exact gB HB); (case side2 => exact Kd.R_tight rfl HO_0.out); rintro e w93 ⟨rfl, hy_, hb, hkp⟩; refine ⟨_, rfl, ?_⟩; replace HK := aK (Kept.then_ (S := (fun k_ => P0_ k_)) (gP HK) hkp (fun k_ hs_ => (fun e_ => (HO_0.out.1 k_ e_.symm)) hs_)); replace HO_0 := aK (Kd.R_reok rfl hy_ (fun k_ e_ => HO_0.out.1 k_ e_)); replace HB := aK (hb); (try clear hb); (try clear hkp); (try clear hy_)))
                   first | go_end0 | ((try simp only [Exit.inBlock, Exit.then]); refine bodyPost_ret (results_none rfl _ _ _) rfl ?_)
                   exact ⟨by first | rfl | (simp [errW_none, errW_some] <;> rfl) | (simp [*, errW_none, errW_some] <;> rfl), gR HO_0, gB HB, gP HK⟩
                 · rw [if_neg c89] at H
                   have c89b0 := dF c89
                   clear c89
                   obtain rfl := Option.some.inj H
                   obtain ⟨Ao94, co94, eo94⟩ := Kd.R_slice HO_0.out
                   subst eo94
                   go_wp2_with (first | ((with_reducible refine gate_callee (f := 59) rfl ?_); refine goesL_ (some 205) rfl rfl Try.func59 (by kernel_rfl) rfl #[.slice Ao94 x0_78.length co94, .int .i64 a1, .int .i64 x20_2, .int .i64 (wrap64 ((IntKind.u64.wrap (wrap64 (a1 + a3))) / 2)), .func (.func 33) #[] #[]] rfl am ?_; (with_reducible refine (ih kj83 (by have := HJ59.out; have := HK2.out; have := HJ76.out; have := HJ78.out; have := HJ83.out; omega) (fun k_ => some k_ = (.slice Ao94 x0_78.length co94 : Value).ownBlock) (.slice Ao94 x0_78.length co94) x0_78 a1 x20_2 (wrap64 ((IntKind.u64.wrap (wrap64 (a1 + a3))) / 2))  t254 w0 _ ?side1 ?side2 A87.out).mono ?_); (case side1 => exact gB HB); (case side2 => exact Kd.R_tight rfl HO_0.out); rintro e w95 ⟨rfl, hy_, hb, hkp⟩; refine ⟨_, rfl, ?_⟩; replace HK := aK (Kept.then_ (S := (fun k_ => P0_ k_)) (gP HK) hkp (fun k_ hs_ => (fun e_ => (HO_0.out.1 k_ e_.symm)) hs_)); replace HO_0 := aK (Kd.R_reok rfl hy_ (fun k_ e_ => HO_0.out.1 k_ e_)); replace HB := aK (hb); (try clear hb); (try clear hkp); (try clear hy_)))
                   first | go_end0 | ((try simp only [Exit.inBlock, Exit.then]); refine bodyPost_ret (results_none rfl _ _ _) rfl ?_)
                   exact ⟨by first | rfl | (simp [errW_none, errW_some] <;> rfl) | (simp [*, errW_none, errW_some] <;> rfl), gR HO_0, gB HB, gP HK⟩
               · rw [if_neg c88] at H
                 have c88b0 := dF c88
                 clear c88
                 obtain rfl := Option.some.inj H
                 obtain ⟨Ao96, co96, eo96⟩ := Kd.R_slice HO_0.out
                 subst eo96
                 go_wp2_with (first | ((with_reducible refine gate_callee (f := 59) rfl ?_); refine goesL_ (some 205) rfl rfl Try.func59 (by kernel_rfl) rfl #[.slice Ao96 x0_78.length co96, .int .i64 a1, .int .i64 x20_2, .int .i64 (wrap64 ((IntKind.u64.wrap (wrap64 (a1 + a3))) / 2)), .func (.func 33) #[] #[]] rfl am ?_; (with_reducible refine (ih kj83 (by have := HJ59.out; have := HK2.out; have := HJ76.out; have := HJ78.out; have := HJ83.out; omega) (fun k_ => some k_ = (.slice Ao96 x0_78.length co96 : Value).ownBlock) (.slice Ao96 x0_78.length co96) x0_78 a1 x20_2 (wrap64 ((IntKind.u64.wrap (wrap64 (a1 + a3))) / 2))  t254 w0 _ ?side1 ?side2 A87.out).mono ?_); (case side1 => exact gB HB); (case side2 => exact Kd.R_tight rfl HO_0.out); rintro e w97 ⟨rfl, hy_, hb, hkp⟩; refine ⟨_, rfl, ?_⟩; replace HK := aK (Kept.then_ (S := (fun k_ => P0_ k_)) (gP HK) hkp (fun k_ hs_ => (fun e_ => (HO_0.out.1 k_ e_.symm)) hs_)); replace HO_0 := aK (Kd.R_reok rfl hy_ (fun k_ e_ => HO_0.out.1 k_ e_)); replace HB := aK (hb); (try clear hb); (try clear hkp); (try clear hy_)))
                 first | go_end0 | ((try simp only [Exit.inBlock, Exit.then]); refine bodyPost_ret (results_none rfl _ _ _) rfl ?_)
                 exact ⟨by first | rfl | (simp [errW_none, errW_some] <;> rfl) | (simp [*, errW_none, errW_some] <;> rfl), gR HO_0, gB HB, gP HK⟩
             · replace c86 := Bool.eq_false_iff.mpr c86
               subst c86
               replace H : (if (wrap64 ((IntKind.u64.wrap (wrap64 (a1 + a3))) / 2)) < (wrap64 ((wrap64 ((wrap64 ((IntKind.u64.wrap (wrap64 (a1 + a3))) / 2)) + a2)) - x20_2)) then (if (wrap64 ((wrap64 ((wrap64 ((IntKind.u64.wrap (wrap64 (a1 + a3))) / 2)) + a2)) - x20_2)) < a3 then ((q0q.f kj83 x0_78 (wrap64 ((IntKind.u64.wrap (wrap64 (a1 + a3))) / 2)) (wrap64 ((wrap64 ((wrap64 ((IntKind.u64.wrap (wrap64 (a1 + a3))) / 2)) + a2)) - x20_2)) a3).bind fun t256 => (some t256)) else (some x0_78)) else (some x0_78)) = some r := by rw [if_neg (show ¬ (false = true) by decide)] at H; exact H
               by_cases c98 : (wrap64 ((IntKind.u64.wrap (wrap64 (a1 + a3))) / 2)) < (wrap64 ((wrap64 ((wrap64 ((IntKind.u64.wrap (wrap64 (a1 + a3))) / 2)) + a2)) - x20_2))
               · rw [if_pos c98] at H
                 have c98b0 := dT c98
                 clear c98
                 by_cases c99 : (wrap64 ((wrap64 ((wrap64 ((IntKind.u64.wrap (wrap64 (a1 + a3))) / 2)) + a2)) - x20_2)) < a3
                 · rw [if_pos c99] at H
                   have c99b0 := dT c99
                   clear c99
                   replace H := Option.bind_eq_some_iff.mp H
                   obtain ⟨t256, A1000, H⟩ := H
                   replace H : (some t256) = some r := H
                   have A100 := Aside0.mk A1000; clear A1000
                   obtain rfl := Option.some.inj H
                   obtain ⟨Ao101, co101, eo101⟩ := Kd.R_slice HO_0.out
                   subst eo101
                   go_wp2_with (first | ((with_reducible refine gate_callee (f := 59) rfl ?_); refine goesL_ (some 219) rfl rfl Try.func59 (by kernel_rfl) rfl #[.slice Ao101 x0_78.length co101, .int .i64 (wrap64 ((IntKind.u64.wrap (wrap64 (a1 + a3))) / 2)), .int .i64 (wrap64 ((wrap64 ((wrap64 ((IntKind.u64.wrap (wrap64 (a1 + a3))) / 2)) + a2)) - x20_2)), .int .i64 a3, .func (.func 33) #[] #[]] rfl am ?_; (with_reducible refine (ih kj83 (by have := HJ59.out; have := HK2.out; have := HJ76.out; have := HJ78.out; have := HJ83.out; omega) (fun k_ => some k_ = (.slice Ao101 x0_78.length co101 : Value).ownBlock) (.slice Ao101 x0_78.length co101) x0_78 (wrap64 ((IntKind.u64.wrap (wrap64 (a1 + a3))) / 2)) (wrap64 ((wrap64 ((wrap64 ((IntKind.u64.wrap (wrap64 (a1 + a3))) / 2)) + a2)) - x20_2)) a3  t256 w0 _ ?side1 ?side2 A100.out).mono ?_); (case side1 => exact gB HB); (case side2 => exact Kd.R_tight rfl HO_0.out); rintro e w102 ⟨rfl, hy_, hb, hkp⟩; refine ⟨_, rfl, ?_⟩; replace HK := aK (Kept.then_ (S := (fun k_ => P0_ k_)) (gP HK) hkp (fun k_ hs_ => (fun e_ => (HO_0.out.1 k_ e_.symm)) hs_)); replace HO_0 := aK (Kd.R_reok rfl hy_ (fun k_ e_ => HO_0.out.1 k_ e_)); replace HB := aK (hb); (try clear hb); (try clear hkp); (try clear hy_)))
                   first | go_end0 | ((try simp only [Exit.inBlock, Exit.then]); refine bodyPost_ret (results_none rfl _ _ _) rfl ?_)
                   exact ⟨by first | rfl | (simp [errW_none, errW_some] <;> rfl) | (simp [*, errW_none, errW_some] <;> rfl), gR HO_0, gB HB, gP HK⟩
                 · rw [if_neg c99] at H
                   have c99b0 := dF c99
                   clear c99
                   obtain rfl := Option.some.inj H
                   go_wp2
                   first | go_end0 | ((try simp only [Exit.inBlock, Exit.then]); refine bodyPost_ret (results_none rfl _ _ _) rfl ?_)
                   exact ⟨by first | rfl | (simp [errW_none, errW_some] <;> rfl) | (simp [*, errW_none, errW_some] <;> rfl), gR HO_0, gB HB, gP HK⟩
               · rw [if_neg c98] at H
                 have c98b0 := dF c98
                 clear c98
                 obtain rfl := Option.some.inj H
                 go_wp2
                 first | go_end0 | ((try simp only [Exit.inBlock, Exit.then]); refine bodyPost_ret (results_none rfl _ _ _) rfl ?_)
                 exact ⟨by first | rfl | (simp [errW_none, errW_some] <;> rfl) | (simp [*, errW_none, errW_some] <;> rfl), gR HO_0, gB HB, gP HK⟩
set_option maxHeartbeats 8000000 in
set_option maxRecDepth 100000 in
theorem q0q.calls (k : Nat) : ∀ (P0_ : Nat → Prop) (u9000_ : Value) (l0 : List (S79)) (a1 : Int) (a2 : Int) (a3 : Int)  (r : List (S79)) (w0 w : World) (hB : Below w0.heap.size w0 w) (ho0 : Kd.R k79 79 w w0.heap.size P0_ u9000_ l0) (h : q0q.f k l0 a1 a2 a3 = some r),
 Calls Try.prog 59 #[u9000_, .int .i64 a1, .int .i64 a2, .int .i64 a3, .func (.func 33) #[] #[]] w fun e w' => e = .returned (.tuple #[]) ∧ Kd.R k79 79 w' w0.heap.size (fun k_ => (P0_ k_ ∨ w.heap.size ≤ k_)) u9000_ r ∧ Below w0.heap.size w0 w' ∧ Kept w w' (fun k_ => P0_ k_) := by
 induction k using Nat.strongRecOn with
 | _ k ih =>
 intro P0_ u9000_ l0 a1 a2 a3 r w0 w hB ho0 h
 cases k with
 | zero => exact absurd h (by simp [q0q.f])
 | succ k =>
 simp only [q0q.f] at h
 have H : (if (wrap64 (a2 - a1)) = 1 then (q0q.l0 k l0 a1 a2 a3) else (if (wrap64 (a3 - a2)) = 1 then (q0q.l2 k l0 a2 a1 a2) else (if a2 > (wrap64 ((IntKind.u64.wrap (wrap64 (a1 + a3))) / 2)) then (q0q.j4 k l0 a1 a2 a3 (wrap64 ((IntKind.u64.wrap (wrap64 (a1 + a3))) / 2)) (wrap64 ((wrap64 ((IntKind.u64.wrap (wrap64 (a1 + a3))) / 2)) + a2)) (wrap64 ((wrap64 ((wrap64 ((IntKind.u64.wrap (wrap64 (a1 + a3))) / 2)) + a2)) - a3)) (wrap64 ((IntKind.u64.wrap (wrap64 (a1 + a3))) / 2))) else (q0q.j4 k l0 a1 a2 a3 (wrap64 ((IntKind.u64.wrap (wrap64 (a1 + a3))) / 2)) (wrap64 ((wrap64 ((IntKind.u64.wrap (wrap64 (a1 + a3))) / 2)) + a2)) a1 a2)))) = some r := h
 by_cases c6 : (wrap64 (a2 - a1)) = 1
 · rw [if_pos c6] at H; exact q0q.part0 k (fun m_ hm_ => ih m_ hm_) P0_ u9000_ l0 a1 a2 a3 r w0 w hB ho0 c6 H
 rw [if_neg c6] at H
 by_cases c33 : (wrap64 (a3 - a2)) = 1
 · rw [if_pos c33] at H; exact q0q.part1 k (fun m_ hm_ => ih m_ hm_) P0_ u9000_ l0 a1 a2 a3 r w0 w hB ho0 c6 c33 H
 rw [if_neg c33] at H
 exact q0q.part2 k (fun m_ hm_ => ih m_ hm_) P0_ u9000_ l0 a1 a2 a3 r w0 w hB ho0 c6 c33 H
end Go.Proofs.Ytlbhjkbjokiioaa.X
