-- a shortened text: what this claim does not name is left out (wip/xprint/prune.py of this repo)
import Derived.Test.YtjjemfbpodgihaaXMin
import Derived.Test.YtjjemfbpodgihaaX0
import Derived.Test.YtjjemfbpodgihaaX4
import Derived.Test.YtjjemfbpodgihaaINS
namespace Go.Proofs.Ytjjemfbpodgihaa.X
open Go.RowKit Go.Proofs.YtjjemfbpodgihaaW.PrintWords Go.Proofs.YtjjemfbpodgihaaW.PrintLast Go.Proofs.YtjjemfbpodgihaaW.PrintMore
attribute [local go_sem] max2_int min2_int max_two min_two max_three min_three max_four min_four
set_option linter.unusedVariables false
set_option linter.unusedSimpArgs false
abbrev qx6_0 : Array Bool := #[true, false, true, false, false, false, false, false, false]
abbrev qx6_1 : Array Bool := #[true, false, true, true, false, false, false, false, false]
abbrev qx6_2 : Array Bool := #[true, false, true, true, true, false, false, false, false]
abbrev qx6_3 : Array Bool := #[true, false, true, true, true, true, false, false, false]
def lots_add.f (k : Nat) (l0 : List (S43)) (a1_0 : ByteArray) (a1_1 : Int) : Option ((List (S43)) × Int) := (lots_place.f k l0 a1_0).bind fun bt132 => (if bt132.2 = true then (if 0 ≤ bt132.1 then (if bt132.1 < (l0.length : Int) then (if a1_1 > (wrap64 (1125899906842624 - ((rd_T43 l0 bt132.1).f1))) then (some (([] : List (S43)), 9)) else (some ((l0.set (bt132.1 : Int).toNat (⟨(rd_T43 l0 bt132.1).f0, wrap64 (((rd_T43 l0 bt132.1).f1) + a1_1)⟩ : S43)), 0))) else (none)) else (none)) else (if (l0.length : Int) ≥ 64 then (some (([] : List (S43)), 2)) else ((slices_Insert_api_Lot_api_Lot.f l0 bt132.1 (([(⟨a1_0, a1_1⟩ : S43)] : List (S43)))).bind fun t140 => (some (t140, 0)))))
theorem lots_add.mono : ∀ a0 a1 a2 k, LeO (lots_add.f k a0 a1 a2) (lots_add.f (k + 1) a0 a1 a2) := by
 intro a0 a1 a2 k
 unfold lots_add.f
 repeat' first
  | (with_reducible exact lots_place.mono _ _ _)
  | (with_reducible exact LeO.refl _)
  | (with_reducible exact LeO.none _)
  | (with_reducible refine LeO.ite ?_ ?_)
  | (with_reducible refine LeO.bind ?_ (fun _ => ?_))
  | exact lots_place.mono _ _ _
  | exact LeO.none _
  | refine LeO.ite ?_ ?_
  | refine LeO.bind ?_ (fun _ => ?_)
def lots_add.T6 : Bool × List (List Nat × List Nat) := (true, [([], []), ([0], [0]), ([], []), ([], []), ([2, 3], [2, 3]), ([4], [4]), ([5], [5]), ([6], [6]), ([1, 7], [1, 7])])
def lots_add.B6 : List Nat := [0, 1, 0, 0, 12, 28, 60, 124, 255]
theorem lots_add.tab6 : rtab .any (opsOf Try.f31 6) = lots_add.T6 := by kernel_rfl
theorem lots_add.bits6 : waitsOk lots_add.T6.2 lots_add.B6 = true := by kernel_rfl
def lots_add.T8 : Bool × List (List Nat × List Nat) := (true, [([], []), ([], []), ([0, 1], [0, 1]), ([2], [2]), ([3], [3]), ([], []), ([5], [5]), ([4, 6], [4, 6]), ([0, 1, 0, 1, 2, 3, 4, 5, 6, 7], [0, 1]), ([8, 0, 1, 2, 3, 4, 5, 6, 7], [8]), ([9, 7, 0, 1, 2, 3, 4, 5, 6, 7], [7, 9])])
def lots_add.B8 : List Nat := [0, 0, 3, 7, 15, 0, 32, 127, 255, 511, 1023]
theorem lots_add.tab8 : rtab .any (opsOf Try.f31 8) = lots_add.T8 := by kernel_rfl
theorem lots_add.bits8 : waitsOk lots_add.T8.2 lots_add.B8 = true := by kernel_rfl
set_option maxHeartbeats 8000000 in
set_option maxRecDepth 100000 in
theorem lots_add.calls (k : Nat) (P0_ : Nat → Prop) (u9000_ : Value) (l0 : List (S43)) (a1_0 : ByteArray) (a1_1 : Int) (r1 : List (S43)) (r2 : Int) (w0 w : World) (hB : Below w0.heap.size w0 w) (ho0 : Kd.R k43 43 w w0.heap.size P0_ u9000_ l0) (h : lots_add.f k l0 a1_0 a1_1 = some (r1, r2)) :
 Calls Try.prog 31 #[u9000_, .agg #[.string a1_0, .int .i64 a1_1]] w fun e w' => ∃ v0_ : Value, e = .returned (.tuple #[v0_, .int .i64 r2]) ∧ Kd.R k43 43 w' w0.heap.size (fun k_ => (P0_ k_ ∨ w.heap.size ≤ k_)) v0_ r1 ∧ Below w0.heap.size w0 w' ∧ Kept w w' (fun k_ => P0_ k_) := by
 have hu43 := Try.underlying43
 have HO0 := Aside0.mk (show Kd.R k43 43 w w0.heap.size (fun k_ => (P0_ k_ ∨ w.heap.size ≤ k_)) u9000_ l0 from Kd.R_mono ho0 (fun k_ hk => (.inl hk)))
 have HK := Aside0.mk (Kept.refl w (fun k_ => P0_ k_))
 have HW0 := Aside0.mk hB.size
 have HB := Aside0.mk hB; clear hB
 have H : ((lots_place.f k l0 a1_0).bind fun bt132 => (if bt132.2 = true then (if 0 ≤ bt132.1 then (if bt132.1 < (l0.length : Int) then (if a1_1 > (wrap64 (1125899906842624 - ((rd_T43 l0 bt132.1).f1))) then (some (([] : List (S43)), 9)) else (some ((l0.set (bt132.1 : Int).toNat (⟨(rd_T43 l0 bt132.1).f0, wrap64 (((rd_T43 l0 bt132.1).f1) + a1_1)⟩ : S43)), 0))) else (none)) else (none)) else (if (l0.length : Int) ≥ 64 then (some (([] : List (S43)), 2)) else ((slices_Insert_api_Lot_api_Lot.f l0 bt132.1 (([(⟨a1_0, a1_1⟩ : S43)] : List (S43)))).bind fun t140 => (some (t140, 0)))))) = some (r1, r2) := h
 clear h
 replace H := Option.bind_eq_some_iff.mp H
 obtain ⟨⟨t132, t133⟩, A30, H⟩ := H
 replace H : (if t133 = true then (if 0 ≤ t132 then (if t132 < (l0.length : Int) then (if a1_1 > (wrap64 (1125899906842624 - ((rd_T43 l0 t132).f1))) then (some (([] : List (S43)), 9)) else (some ((l0.set (t132 : Int).toNat (⟨(rd_T43 l0 t132).f0, wrap64 (((rd_T43 l0 t132).f1) + a1_1)⟩ : S43)), 0))) else (none)) else (none)) else (if (l0.length : Int) ≥ 64 then (some (([] : List (S43)), 2)) else ((slices_Insert_api_Lot_api_Lot.f l0 t132 (([(⟨a1_0, a1_1⟩ : S43)] : List (S43)))).bind fun t140 => (some (t140, 0))))) = some (r1, r2) := H
 have A3 := Aside0.mk A30; clear A30
 by_cases c4 : t133 = true
 · subst c4
   have H1 : (if 0 ≤ t132 then (if t132 < (l0.length : Int) then (if a1_1 > (wrap64 (1125899906842624 - ((rd_T43 l0 t132).f1))) then (some (([] : List (S43)), 9)) else (some ((l0.set (t132 : Int).toNat (⟨(rd_T43 l0 t132).f0, wrap64 (((rd_T43 l0 t132).f1) + a1_1)⟩ : S43)), 0))) else (none)) else (none)) = some (r1, r2) := by rw [if_pos rfl] at H; exact H
   clear H
   have H := H1
   clear H1
   by_cases c5 : 0 ≤ t132
   · rw [if_pos c5] at H
     have c5b0 : decide (0 ≤ t132) = true := decide_eq_true c5
     clear c5
     by_cases c6 : t132 < (l0.length : Int)
     · rw [if_pos c6] at H
       have c6b0 : decide (t132 < (l0.length : Int)) = true := decide_eq_true c6
       clear c6
       by_cases c7 : a1_1 > (wrap64 (1125899906842624 - ((rd_T43 l0 t132).f1)))
       · rw [if_pos c7] at H
         have c7b0 : decide ((wrap64 (1125899906842624 - ((rd_T43 l0 t132).f1))) < a1_1) = true := decide_eq_true c7
         clear c7
         simp only [Option.some.injEq, Prod.mk.injEq] at H
         obtain ⟨rfl, rfl⟩ := H
         go_enter Try.func31, Try.ntmps31
         try go_wp2_with (first | ((with_reducible refine gate_dst (N := 3) rfl ?_); refine box_event ?hg (N := 3) ?hd (cs := #[.string a1_0, .int .i64 a1_1]) (t := 43) ?hr ?_; (case hd => rfl); (case hg => rfl); (case hr => first | (go_simp; done) | (go_simp; rfl) | (have hcq := hcq_.out; have hfq := hfq_.out; go_simp; done)); intro gb131 hg w8 hbox hb; have n0_ := Aside0.mk (Kd.R_below (Kd.R_elderB (gR HO0) gb131 (Nat.le_of_eq hg.symm)) hb); have n1_ := Aside0.mk (Kept.below (S := (fun k_ => P0_ k_)) (gP HK) hb); have n2_ := Aside0.mk (below_step (gB HB) hb); have n3_ := Aside0.mk (hbox); have n4_ := Aside0.mk ((by rw [hg]; exact (by first | exact HK.out.1 | exact (show Kept w _ (fun k_ => P0_ k_) from gP HK).1) : w.heap.size ≤ gb131)); have n5_ := Aside0.mk ((by rw [hg]; exact (below_size (gB HB)) : w0.heap.size ≤ gb131)); clear HO0; clear HK; clear HB; have HO0 := n0_; have HK := n1_; have HB := n2_; have BK131 := n3_; have GW131 := n4_; have GE131 := n5_; clear n0_ n1_ n2_ n3_ n4_ n5_; clear hb hbox hg; have hcz9_0 : w8.cell? ⟨gb131, 0, none⟩ = some (.string a1_0) := (blk_cell BK131.out 0).trans rfl; have hcz9_1 : w8.cell? ⟨gb131, 1, none⟩ = some (.int .i64 a1_1) := (blk_cell BK131.out 1).trans rfl; have hfz9_0 := blk_frozen BK131.out 0; have hfz9_1 := blk_frozen BK131.out 1; obtain ⟨Ao10, co10, eo10⟩ := Kd.R_slice HO0.out; subst eo10) | ((with_reducible refine gate_callee (f := 33) rfl ?_); refine goesL_ (some 12) rfl rfl Try.func33 (by kernel_rfl) rfl #[.slice Ao10 l0.length co10, .string a1_0] rfl am ?_; (with_reducible refine (lots_place.calls k _ _ l0 a1_0 t132 true _ ?side1 ?side2 A3.out).mono ?_); (case side1 => repeat (first | exact (Kd.R_reads' HO0.out).2.2 | (with_reducible refine Kd.C_alloc ?_ _) | (with_reducible refine Kd.C_drewN ?_ _) | (with_reducible refine Kd.C_drew ?_))); (case side2 => exact (Kd.R_reads' HO0.out).2.1); rintro e w11 ⟨rfl, hb⟩; refine ⟨_, rfl, ?_⟩; have n0_ := Aside0.mk (Kd.R_below (gR HO0) hb); have n1_ := Aside0.mk (blk_below (g := gb131) (o := .cells #[.string a1_0, .int .i64 a1_1] 43 (0, 0)) (gK BK131) hb); have n2_ := Aside0.mk (Kept.below (S := (fun k_ => P0_ k_)) (by repeat (first | (with_reducible first | exact HK.out | apply Kept.alloc | apply Kept.drewN | apply Kept.drew | refine Kept.setCell ?_ (.inr GW131.out) _) | exact HK.out)) hb); have n3_ := Aside0.mk (below_step (gS HB) hb); clear HO0; clear BK131; clear HK; clear HB; have HO0 := n0_; have BK131 := n1_; have HK := n2_; have HB := n3_; clear n0_ n1_ n2_ n3_; (try clear hb); (try clear hb2); (try clear hk); (try clear hi)))
         have n0_ := Aside0.mk (Kd.R_drew HO0.out)
         have n1_ := Aside0.mk (blk_drew BK131.out)
         have n2_ := Aside0.mk (Kept.drew HK.out)
         have n3_ := Aside0.mk (below_drew1 HB.out)
         clear HO0; clear BK131; clear HK; clear HB
         have HO0 := n0_
         have BK131 := n1_
         have HK := n2_
         have HB := n3_
         clear n0_ n1_ n2_ n3_
         have p134 : 0 ≤ (t132 : Int) := od
         have q134 : t132 < (l0.length : Int) := od
         obtain ⟨ad134, e134, hx134_0, hx134_1⟩ := at_T43 (Kd.R_reads' HO0.out).2.2 t132 p134 q134
         cases e134; replace p134 := eq_true p134; replace q134 := eq_true q134
         refine start_ (n := 9) (S := fun w' => w'.cell? ⟨gb131, 0, none⟩ = some (.string a1_0) ∧ w'.cell? ⟨gb131, 1, none⟩ = some (.int .i64 a1_1) ∧ w'.cell? (ad134.add ((t132).toNat * 2)) = some (.string ((rd_T43 l0 t132).f0)) ∧ w'.cell? ⟨(ad134.add ((t132).toNat * 2)).block, (ad134.add ((t132).toNat * 2)).off + 1, none⟩ = some (.int .i64 ((rd_T43 l0 t132).f1))) (ds := []) (pf 9 0) (by kernel_rfl) rfl rfl ⟨(blk_cell BK131.out 0).trans rfl, (blk_cell BK131.out 1).trans rfl, hx134_0, hx134_1⟩ (fun hHeld => ?_); refine with_tabW lots_add.tab6 lots_add.bits6 (fun HT_ HW_ => ?_)
         generalize w11.drew = w12 at HO0 BK131 HK HB hx134_0 hx134_1 hHeld ⊢
         refine pA (i := 0) (N := some 25) HT_ (pf 9 1) ?_
         refine pA (i := 2) (N := some 27) HT_ qx6_0 ?_
         refine pA (i := 3) (N := some 28) HT_ qx6_1 ?_
         refine pA (i := 4) (N := some 29) HT_ qx6_2 ?_
         refine pA (i := 5) (N := some 30) HT_ qx6_3 ?_
         refine take_ (i := 1) (N := some 26) (v := ?_) (a' := ?_) (pf 9 6) rfl rfl (take_ofW HT_.out HW_.out (by kernel_rfl)) (fun _ _ _ h => h) (Or.inl ⟨by rfl, ?_⟩) hHeld ?_ ?_
         rotate_left
         · rintro w' ⟨s0, s1, s2, s3⟩
           go_simp
           with_reducible rfl
         rotate_left
         · simp only [Act.put, sA, sB, sC, i64_w, i32_w]
           rfl
         refine take_ (i := 6) (N := some 31) (v := ?_) (a' := ?_) (pf 9 7) rfl rfl (take_ofW HT_.out HW_.out (by kernel_rfl)) (fun _ _ _ h => h) (Or.inl ⟨by rfl, ?_⟩) hHeld ?_ ?_
         rotate_left
         · rintro w' ⟨s0, s1, s2, s3⟩
           go_simp
           with_reducible rfl
         rotate_left
         · simp only [Act.put, sA, sB, sC, i64_w, i32_w]
           rfl
         refine pA (i := 7) (N := some 32) HT_ (pf 9 8) ?_
         refine pA (i := 8) (N := some 33) HT_ (pf 9 9) ?_
         refine done_ (done_of HT_.out (by kernel_rfl)) ?_
         try go_wp2
         go_ret2
         exact ⟨_, by first | rfl | (simp [errW_none, errW_some] <;> rfl) | (simp [*, errW_none, errW_some] <;> rfl), by first | exact Kd.R_nil _ _ _ _ _ | exact Kd.N_nil _ _ _ _ _ | exact Kd.V_nil _ _ _ _ _ | exact Kd.Q_nil _ _ _ _ _ | exact Kd.S_nil _ _ _ _ _, gS HB, by repeat (first | (with_reducible first | exact HK.out | apply Kept.alloc | apply Kept.drewN | apply Kept.drew | refine Kept.setCell ?_ (.inr GW131.out) _) | exact HK.out)⟩
       · rw [if_neg c7] at H
         have c7b0 : decide ((wrap64 (1125899906842624 - ((rd_T43 l0 t132).f1))) < a1_1) = false := decide_eq_false c7
         clear c7
         obtain ⟨y136, hy136⟩ : ∃ y_ : List (S43), y_ = (l0.set (t132 : Int).toNat (⟨(rd_T43 l0 t132).f0, wrap64 (((rd_T43 l0 t132).f1) + a1_1)⟩ : S43)) := ⟨_, rfl⟩
         replace H : (some (y136, 0)) = some (r1, r2) := by first | (rw [hy136]; with_reducible exact H) | (have H2_ := (Option.bind_some _ _).symm.trans H; rw [hy136]; with_reducible exact H2_) | (have H2_ := (Option.bind_some _ _).symm.trans H; with_reducible exact H2_) | with_reducible exact H | (rw [hy136]; exact H) | exact H
         have Ny136 := Aside0.mk hy136; clear hy136
         simp only [Option.some.injEq, Prod.mk.injEq] at H
         obtain ⟨rfl, rfl⟩ := H
         go_enter Try.func31, Try.ntmps31
         try go_wp2_with (first | ((with_reducible refine gate_dst (N := 3) rfl ?_); refine box_event ?hg (N := 3) ?hd (cs := #[.string a1_0, .int .i64 a1_1]) (t := 43) ?hr ?_; (case hd => rfl); (case hg => rfl); (case hr => first | (go_simp; done) | (go_simp; rfl) | (have hcq := hcq_.out; have hfq := hfq_.out; go_simp; done)); intro gb131 hg w14 hbox hb; have n0_ := Aside0.mk (Kd.R_below (Kd.R_elderB (gR HO0) gb131 (Nat.le_of_eq hg.symm)) hb); have n1_ := Aside0.mk (Kept.below (S := (fun k_ => P0_ k_)) (gP HK) hb); have n2_ := Aside0.mk (below_step (gB HB) hb); have n3_ := Aside0.mk (hbox); have n4_ := Aside0.mk ((by rw [hg]; exact (by first | exact HK.out.1 | exact (show Kept w _ (fun k_ => P0_ k_) from gP HK).1) : w.heap.size ≤ gb131)); have n5_ := Aside0.mk ((by rw [hg]; exact (below_size (gB HB)) : w0.heap.size ≤ gb131)); clear HO0; clear HK; clear HB; have HO0 := n0_; have HK := n1_; have HB := n2_; have BK131 := n3_; have GW131 := n4_; have GE131 := n5_; clear n0_ n1_ n2_ n3_ n4_ n5_; clear hb hbox hg; have hcz15_0 : w14.cell? ⟨gb131, 0, none⟩ = some (.string a1_0) := (blk_cell BK131.out 0).trans rfl; have hcz15_1 : w14.cell? ⟨gb131, 1, none⟩ = some (.int .i64 a1_1) := (blk_cell BK131.out 1).trans rfl; have hfz15_0 := blk_frozen BK131.out 0; have hfz15_1 := blk_frozen BK131.out 1; obtain ⟨Ao16, co16, eo16⟩ := Kd.R_slice HO0.out; subst eo16) | ((with_reducible refine gate_callee (f := 33) rfl ?_); refine goesL_ (some 12) rfl rfl Try.func33 (by kernel_rfl) rfl #[.slice Ao16 l0.length co16, .string a1_0] rfl am ?_; (with_reducible refine (lots_place.calls k _ _ l0 a1_0 t132 true _ ?side1 ?side2 A3.out).mono ?_); (case side1 => repeat (first | exact (Kd.R_reads' HO0.out).2.2 | (with_reducible refine Kd.C_alloc ?_ _) | (with_reducible refine Kd.C_drewN ?_ _) | (with_reducible refine Kd.C_drew ?_))); (case side2 => exact (Kd.R_reads' HO0.out).2.1); rintro e w17 ⟨rfl, hb⟩; refine ⟨_, rfl, ?_⟩; have n0_ := Aside0.mk (Kd.R_below (gR HO0) hb); have n1_ := Aside0.mk (blk_below (g := gb131) (o := .cells #[.string a1_0, .int .i64 a1_1] 43 (0, 0)) (gK BK131) hb); have n2_ := Aside0.mk (Kept.below (S := (fun k_ => P0_ k_)) (by repeat (first | (with_reducible first | exact HK.out | apply Kept.alloc | apply Kept.drewN | apply Kept.drew | refine Kept.setCell ?_ (.inr GW131.out) _) | exact HK.out)) hb); have n3_ := Aside0.mk (below_step (gS HB) hb); clear HO0; clear BK131; clear HK; clear HB; have HO0 := n0_; have BK131 := n1_; have HK := n2_; have HB := n3_; clear n0_ n1_ n2_ n3_; (try clear hb); (try clear hb2); (try clear hk); (try clear hi)))
         have n0_ := Aside0.mk (Kd.R_drew HO0.out)
         have n1_ := Aside0.mk (blk_drew BK131.out)
         have n2_ := Aside0.mk (Kept.drew HK.out)
         have n3_ := Aside0.mk (below_drew1 HB.out)
         clear HO0; clear BK131; clear HK; clear HB
         have HO0 := n0_
         have BK131 := n1_
         have HK := n2_
         have HB := n3_
         clear n0_ n1_ n2_ n3_
         have p134 : 0 ≤ (t132 : Int) := od
         have q134 : t132 < (l0.length : Int) := od
         obtain ⟨ad134, e134, hx134_0, hx134_1⟩ := at_T43 (Kd.R_reads' HO0.out).2.2 t132 p134 q134
         cases e134; replace p134 := eq_true p134; replace q134 := eq_true q134
         refine start_ (n := 9) (S := fun w' => w'.cell? ⟨gb131, 0, none⟩ = some (.string a1_0) ∧ w'.cell? ⟨gb131, 1, none⟩ = some (.int .i64 a1_1) ∧ w'.cell? (ad134.add ((t132).toNat * 2)) = some (.string ((rd_T43 l0 t132).f0)) ∧ w'.cell? ⟨(ad134.add ((t132).toNat * 2)).block, (ad134.add ((t132).toNat * 2)).off + 1, none⟩ = some (.int .i64 ((rd_T43 l0 t132).f1))) (ds := []) (pf 9 0) (by kernel_rfl) rfl rfl ⟨(blk_cell BK131.out 0).trans rfl, (blk_cell BK131.out 1).trans rfl, hx134_0, hx134_1⟩ (fun hHeld => ?_); refine with_tabW lots_add.tab6 lots_add.bits6 (fun HT_ HW_ => ?_)
         generalize w17.drew = w18 at HO0 BK131 HK HB hx134_0 hx134_1 hHeld ⊢
         refine pA (i := 0) (N := some 25) HT_ (pf 9 1) ?_
         refine pA (i := 2) (N := some 27) HT_ qx6_0 ?_
         refine pA (i := 3) (N := some 28) HT_ qx6_1 ?_
         refine pA (i := 4) (N := some 29) HT_ qx6_2 ?_
         refine pA (i := 5) (N := some 30) HT_ qx6_3 ?_
         refine take_ (i := 1) (N := some 26) (v := ?_) (a' := ?_) (pf 9 6) rfl rfl (take_ofW HT_.out HW_.out (by kernel_rfl)) (fun _ _ _ h => h) (Or.inl ⟨by rfl, ?_⟩) hHeld ?_ ?_
         rotate_left
         · rintro w' ⟨s0, s1, s2, s3⟩
           go_simp
           with_reducible rfl
         rotate_left
         · simp only [Act.put, sA, sB, sC, i64_w, i32_w]
           rfl
         refine take_ (i := 6) (N := some 31) (v := ?_) (a' := ?_) (pf 9 7) rfl rfl (take_ofW HT_.out HW_.out (by kernel_rfl)) (fun _ _ _ h => h) (Or.inl ⟨by rfl, ?_⟩) hHeld ?_ ?_
         rotate_left
         · rintro w' ⟨s0, s1, s2, s3⟩
           go_simp
           with_reducible rfl
         rotate_left
         · simp only [Act.put, sA, sB, sC, i64_w, i32_w]
           rfl
         refine pA (i := 7) (N := some 32) HT_ (pf 9 8) ?_
         refine pA (i := 8) (N := some 33) HT_ (pf 9 9) ?_
         refine done_ (done_of HT_.out (by kernel_rfl)) ?_
         try go_wp2
         have n0_ := Aside0.mk (Kd.R_drew HO0.out)
         have n1_ := Aside0.mk (blk_drew BK131.out)
         have n2_ := Aside0.mk (Kept.drew HK.out)
         have n3_ := Aside0.mk (below_drew1 HB.out)
         clear HO0; clear BK131; clear HK; clear HB
         have HO0 := n0_
         have BK131 := n1_
         have HK := n2_
         have HB := n3_
         clear n0_ n1_ n2_ n3_
         have p135 : 0 ≤ (t132 : Int) := od
         have q135 : t132 < (l0.length : Int) := od
         obtain ⟨ad135, e135, hx135_0, hx135_1⟩ := at_T43 (Kd.R_reads' HO0.out).2.2 t132 p135 q135
         obtain rfl : ad134 = ad135 := (by injection e135)
         replace p135 := eq_true p135; replace q135 := eq_true q135
         have p13 : 0 ≤ (t132 : Int) := od
         have q13 : (t132 : Int) < ((l0.length : Int) : Int) := od
         obtain ⟨go13, co13, eo13, gb13, gl13, cl13, HG13⟩ := Kd.R_form HO0.out (by omega)
         (first | cases eo13 | (injection eo13 with ea_ en_ ec_; (first | subst ea_ | (injection ea_ with ea_; subst ea_)); subst ec_; clear en_))
         have GB13 := Aside0.mk gb13; have GG13 := Aside0.mk HG13; clear gb13 gl13 HG13
         have HMgo13 := Aside0.mk (show (P0_ go13 ∨ w.heap.size ≤ go13) from (HO0.out.1 _ rfl).1)
         (first | simp only [add_plain] at hx134_0 | skip)
         (first | simp only [add_plain] at hx134_1 | skip)
         (first | simp only [add_plain] at hx135_0 | skip)
         (first | simp only [add_plain] at hx135_1 | skip)
         obtain ⟨ce13, hcl13, hM13, hcc13, hfr13⟩ := Kd.R_elem HO0.out z43 (t132 : Int) p13 q13
         obtain rfl := k43_openM hM13
         have hx13_0 : World.cell? _ ⟨go13, (t132 : Int).toNat * 2, none⟩ = some (.string ((rd_T43 l0 t132).f0)) := hcc13 0 _ rfl
         have hx13_1 : World.cell? _ ⟨go13, (t132 : Int).toNat * 2 + 1, none⟩ = some (.int .i64 ((rd_T43 l0 t132).f1)) := hcc13 1 _ rfl
         have hf13_0 : World.frozen? _ ⟨go13, (t132 : Int).toNat * 2, none⟩ = false := hfr13 0
         have hf13_1 : World.frozen? _ ⟨go13, (t132 : Int).toNat * 2 + 1, none⟩ = false := hfr13 1
         clear hcl13 hcc13 hfr13 hM13; replace p13 := eq_true p13; replace q13 := eq_true q13
         obtain ⟨ce20, hcl20, hM20, hcc20, hfr20⟩ := Kd.R_elem HO0.out z43 (t132 : Int) (od) (by have h_ : (t132 : Int) < ((l0.length : Int) : Int) := od; first | exact h_ | (have e_ := (Kd.R_reads' HO0.out).1; omega) | simpa using h_)
         obtain rfl := k43_openM hM20
         have HP20 := (Kd.R_seg HO0.out (t132 : Int) (od) (by have h_ : (t132 : Int) < ((l0.length : Int) : Int) := od; first | exact h_ | (have e_ := (Kd.R_reads' HO0.out).1; omega) | simpa using h_) (seg := [.int .i64 (wrap64 (((rd_T43 l0 t132).f1) + a1_1))]) (j := 1) hcl20 hcc20 (show 2 ≤ 2 from by decide) (x' := (⟨(rd_T43 l0 t132).f0, wrap64 (((rd_T43 l0 t132).f1) + a1_1)⟩ : S43)) (k43_mkM _ _ _ (⟨(rd_T43 l0 t132).f0, wrap64 (((rd_T43 l0 t132).f1) + a1_1)⟩ : S43) ) (fun _ hk => hk)).1
         rw [← Ny136.out] at HP20
         have HQ20 := Aside0.mk HP20; clear hcl20 hcc20 hfr20 hM20 HP20
         refine start_ (n := 11) (S := fun w' => w'.cell? ⟨gb131, 0, none⟩ = some (.string a1_0) ∧ w'.cell? ⟨gb131, 1, none⟩ = some (.int .i64 a1_1) ∧ w'.cell? ⟨go13, ((t132).toNat * 2), none⟩ = some (.string ((rd_T43 l0 t132).f0)) ∧ w'.cell? ⟨go13, ((t132).toNat * 2) + 1, none⟩ = some (.int .i64 ((rd_T43 l0 t132).f1))) (ds := [10]) (pf 11 0) (by kernel_rfl) rfl rfl ⟨(blk_cell BK131.out 0).trans rfl, (blk_cell BK131.out 1).trans rfl, hx135_0, hx135_1⟩ (fun hHeld => ?_); refine with_tabW lots_add.tab8 lots_add.bits8 (fun HT_ HW_ => ?_)
         generalize w18.drew = w19 at HO0 BK131 HK HB GG13 HQ20 hf13_0 hf13_1 hx134_0 hx134_1 hx135_0 hx135_1 hx13_0 hx13_1 hHeld ⊢
         refine pA (i := 0) (N := some 34) HT_ (pf 11 1) ?_
         refine pA (i := 1) (N := some 35) HT_ (pf 11 2) ?_
         refine pA (i := 2) (N := some 36) HT_ (pf 11 3) ?_
         refine pA (i := 3) (N := some 37) HT_ (pf 11 4) ?_
         refine pA (i := 5) (N := some 39) HT_ #[true, true, true, true, false, true, false, false, false, false, false] ?_
         refine take_ (i := 4) (N := some 38) (v := ?_) (a' := ?_) (pf 11 6) rfl rfl (take_ofW HT_.out HW_.out (by kernel_rfl)) (fun _ _ _ h => h) (Or.inl ⟨by rfl, ?_⟩) hHeld ?_ ?_
         rotate_left
         · rintro w' ⟨s0, s1, s2, s3⟩
           go_simp
           with_reducible rfl
         rotate_left
         · simp only [Act.put, sA, sB, sC, i64_w, i32_w]
           rfl
         refine take_ (i := 6) (N := some 40) (v := ?_) (a' := ?_) (pf 11 7) rfl rfl (take_ofW HT_.out HW_.out (by kernel_rfl)) (fun _ _ _ h => h) (Or.inl ⟨by rfl, ?_⟩) hHeld ?_ ?_
         rotate_left
         · rintro w' ⟨s0, s1, s2, s3⟩
           go_simp
           with_reducible rfl
         rotate_left
         · simp only [Act.put, sA, sB, sC, i64_w, i32_w]
           rfl
         refine pA (i := 7) (N := some 41) HT_ (pf 11 8) ?_
         refine pA (i := 8) (N := some 42) HT_ (pf 11 9) ?_
         refine pA (i := 9) (N := some 43) HT_ (pf 11 10) ?_
         refine last_ (i := 10) (N := none) (pf 11 11) rfl rfl (one_of HT_.out (by kernel_rfl)) (by decide) (fun K hK => ?_)
         refine skip_ (w1 := ?_) (by rfl) rfl ?_ ?_
         rotate_left
         · go_simp
           rfl
         refine hK.out _ _ ?_
         clear hK K
         refine done_ (done_of HT_.out (by kernel_rfl)) ?_
         try go_wp2
         go_ret2
         exact ⟨_, by first | rfl | (simp [errW_none, errW_some] <;> rfl) | (simp [*, errW_none, errW_some] <;> rfl), gR ⟨Kd.R_mono HQ20.out (fun _ hk => hk.1)⟩, gS HB, by repeat (first | (with_reducible first | exact HK.out | apply Kept.alloc | apply Kept.drewN | apply Kept.drew | refine Kept.setCell ?_ HMgo13.out _ | refine Kept.setCell ?_ (.inr GW131.out) _) | exact HK.out)⟩
     · rw [if_neg c6] at H
       exact absurd H (by simp)
   · rw [if_neg c5] at H
     exact absurd H (by simp)
 · replace c4 := Bool.eq_false_iff.mpr c4
   subst c4
   have H1 : (if (l0.length : Int) ≥ 64 then (some (([] : List (S43)), 2)) else ((slices_Insert_api_Lot_api_Lot.f l0 t132 (([(⟨a1_0, a1_1⟩ : S43)] : List (S43)))).bind fun t140 => (some (t140, 0)))) = some (r1, r2) := by rw [if_neg (show ¬ (false = true) by decide)] at H; exact H
   clear H
   have H := H1
   clear H1
   by_cases c21 : (l0.length : Int) ≥ 64
   · rw [if_pos c21] at H
     have c21b0 : decide (64 ≤ (l0.length : Int)) = true := decide_eq_true c21
     have c21b1 : decide (64 ≤ l0.length) = true := decide_eq_true (by omega)
     clear c21
     simp only [Option.some.injEq, Prod.mk.injEq] at H
     obtain ⟨rfl, rfl⟩ := H
     go_enter Try.func31, Try.ntmps31
     go_wp2_with (first | ((with_reducible refine gate_dst (N := 3) rfl ?_); refine box_event ?hg (N := 3) ?hd (cs := #[.string a1_0, .int .i64 a1_1]) (t := 43) ?hr ?_; (case hd => rfl); (case hg => rfl); (case hr => first | (go_simp; done) | (go_simp; rfl) | (have hcq := hcq_.out; have hfq := hfq_.out; go_simp; done)); intro gb131 hg w22 hbox hb; have n0_ := Aside0.mk (Kd.R_below (Kd.R_elderB (gR HO0) gb131 (Nat.le_of_eq hg.symm)) hb); have n1_ := Aside0.mk (Kept.below (S := (fun k_ => P0_ k_)) (gP HK) hb); have n2_ := Aside0.mk (below_step (gB HB) hb); have n3_ := Aside0.mk (hbox); have n4_ := Aside0.mk ((by rw [hg]; exact (by first | exact HK.out.1 | exact (show Kept w _ (fun k_ => P0_ k_) from gP HK).1) : w.heap.size ≤ gb131)); have n5_ := Aside0.mk ((by rw [hg]; exact (below_size (gB HB)) : w0.heap.size ≤ gb131)); clear HO0; clear HK; clear HB; have HO0 := n0_; have HK := n1_; have HB := n2_; have BK131 := n3_; have GW131 := n4_; have GE131 := n5_; clear n0_ n1_ n2_ n3_ n4_ n5_; clear hb hbox hg; have hcz23_0 : w22.cell? ⟨gb131, 0, none⟩ = some (.string a1_0) := (blk_cell BK131.out 0).trans rfl; have hcz23_1 : w22.cell? ⟨gb131, 1, none⟩ = some (.int .i64 a1_1) := (blk_cell BK131.out 1).trans rfl; have hfz23_0 := blk_frozen BK131.out 0; have hfz23_1 := blk_frozen BK131.out 1; obtain ⟨Ao24, co24, eo24⟩ := Kd.R_slice HO0.out; subst eo24) | ((with_reducible refine gate_callee (f := 33) rfl ?_); refine goesL_ (some 12) rfl rfl Try.func33 (by kernel_rfl) rfl #[.slice Ao24 l0.length co24, .string a1_0] rfl am ?_; (with_reducible refine (lots_place.calls k _ _ l0 a1_0 t132 false _ ?side1 ?side2 A3.out).mono ?_); (case side1 => repeat (first | exact (Kd.R_reads' HO0.out).2.2 | (with_reducible refine Kd.C_alloc ?_ _) | (with_reducible refine Kd.C_drewN ?_ _) | (with_reducible refine Kd.C_drew ?_))); (case side2 => exact (Kd.R_reads' HO0.out).2.1); rintro e w25 ⟨rfl, hb⟩; refine ⟨_, rfl, ?_⟩; have n0_ := Aside0.mk (Kd.R_below (gR HO0) hb); have n1_ := Aside0.mk (blk_below (g := gb131) (o := .cells #[.string a1_0, .int .i64 a1_1] 43 (0, 0)) (gK BK131) hb); have n2_ := Aside0.mk (Kept.below (S := (fun k_ => P0_ k_)) (by repeat (first | (with_reducible first | exact HK.out | apply Kept.alloc | apply Kept.drewN | apply Kept.drew | refine Kept.setCell ?_ (.inr GW131.out) _) | exact HK.out)) hb); have n3_ := Aside0.mk (below_step (gS HB) hb); clear HO0; clear BK131; clear HK; clear HB; have HO0 := n0_; have BK131 := n1_; have HK := n2_; have HB := n3_; clear n0_ n1_ n2_ n3_; (try clear hb); (try clear hb2); (try clear hk); (try clear hi)))
     go_ret2
     exact ⟨_, by first | rfl | (simp [errW_none, errW_some] <;> rfl) | (simp [*, errW_none, errW_some] <;> rfl), by first | exact Kd.R_nil _ _ _ _ _ | exact Kd.N_nil _ _ _ _ _ | exact Kd.V_nil _ _ _ _ _ | exact Kd.Q_nil _ _ _ _ _ | exact Kd.S_nil _ _ _ _ _, gS HB, by repeat (first | (with_reducible first | exact HK.out | apply Kept.alloc | apply Kept.drewN | apply Kept.drew | refine Kept.setCell ?_ (.inr GW131.out) _) | exact HK.out)⟩
   · rw [if_neg c21] at H
     have c21b0 : decide (64 ≤ (l0.length : Int)) = false := decide_eq_false c21
     have c21b1 : decide (64 ≤ l0.length) = false := decide_eq_false (by omega)
     clear c21
     obtain ⟨y137, hy137⟩ : ∃ y_ : List (S43), y_ = (([(⟨a1_0, a1_1⟩ : S43)] : List (S43))) := ⟨_, rfl⟩
     replace H : ((slices_Insert_api_Lot_api_Lot.f l0 t132 y137).bind fun t140 => (some (t140, 0))) = some (r1, r2) := by first | (rw [hy137]; with_reducible exact H) | (have H2_ := (Option.bind_some _ _).symm.trans H; rw [hy137]; with_reducible exact H2_) | (have H2_ := (Option.bind_some _ _).symm.trans H; with_reducible exact H2_) | with_reducible exact H | (rw [hy137]; exact H) | exact H
     have Ny137 := Aside0.mk hy137; clear hy137
     replace H := Option.bind_eq_some_iff.mp H
     obtain ⟨t140, A260, H⟩ := H
     replace H : (some (t140, 0)) = some (r1, r2) := H
     have A26 := Aside0.mk A260; clear A260
     simp only [Option.some.injEq, Prod.mk.injEq] at H
     obtain ⟨rfl, rfl⟩ := H
     go_enter Try.func31, Try.ntmps31
     go_wp2_with (first | ((with_reducible refine gate_dst (N := 3) rfl ?_); refine box_event ?hg (N := 3) ?hd (cs := #[.string a1_0, .int .i64 a1_1]) (t := 43) ?hr ?_; (case hd => rfl); (case hg => rfl); (case hr => first | (go_simp; done) | (go_simp; rfl) | (have hcq := hcq_.out; have hfq := hfq_.out; go_simp; done)); intro gb131 hg w27 hbox hb; have n0_ := Aside0.mk (Kd.R_below (Kd.R_elderB (gR HO0) gb131 (Nat.le_of_eq hg.symm)) hb); have n1_ := Aside0.mk (Kept.below (S := (fun k_ => P0_ k_)) (gP HK) hb); have n2_ := Aside0.mk (below_step (gB HB) hb); have n3_ := Aside0.mk (hbox); have n4_ := Aside0.mk ((by rw [hg]; exact (by first | exact HK.out.1 | exact (show Kept w _ (fun k_ => P0_ k_) from gP HK).1) : w.heap.size ≤ gb131)); have n5_ := Aside0.mk ((by rw [hg]; exact (below_size (gB HB)) : w0.heap.size ≤ gb131)); clear HO0; clear HK; clear HB; have HO0 := n0_; have HK := n1_; have HB := n2_; have BK131 := n3_; have GW131 := n4_; have GE131 := n5_; clear n0_ n1_ n2_ n3_ n4_ n5_; clear hb hbox hg; have hcz28_0 : w27.cell? ⟨gb131, 0, none⟩ = some (.string a1_0) := (blk_cell BK131.out 0).trans rfl; have hcz28_1 : w27.cell? ⟨gb131, 1, none⟩ = some (.int .i64 a1_1) := (blk_cell BK131.out 1).trans rfl; have hfz28_0 := blk_frozen BK131.out 0; have hfz28_1 := blk_frozen BK131.out 1; obtain ⟨Ao29, co29, eo29⟩ := Kd.R_slice HO0.out; subst eo29) | ((with_reducible refine gate_callee (f := 33) rfl ?_); refine goesL_ (some 12) rfl rfl Try.func33 (by kernel_rfl) rfl #[.slice Ao29 l0.length co29, .string a1_0] rfl am ?_; (with_reducible refine (lots_place.calls k _ _ l0 a1_0 t132 false _ ?side1 ?side2 A3.out).mono ?_); (case side1 => repeat (first | exact (Kd.R_reads' HO0.out).2.2 | (with_reducible refine Kd.C_alloc ?_ _) | (with_reducible refine Kd.C_drewN ?_ _) | (with_reducible refine Kd.C_drew ?_))); (case side2 => exact (Kd.R_reads' HO0.out).2.1); rintro e w30 ⟨rfl, hb⟩; refine ⟨_, rfl, ?_⟩; have n0_ := Aside0.mk (Kd.R_below (gR HO0) hb); have n1_ := Aside0.mk (blk_below (g := gb131) (o := .cells #[.string a1_0, .int .i64 a1_1] 43 (0, 0)) (gK BK131) hb); have n2_ := Aside0.mk (Kept.below (S := (fun k_ => P0_ k_)) (by repeat (first | (with_reducible first | exact HK.out | apply Kept.alloc | apply Kept.drewN | apply Kept.drew | refine Kept.setCell ?_ (.inr GW131.out) _) | exact HK.out)) hb); have n3_ := Aside0.mk (below_step (gS HB) hb); clear HO0; clear BK131; clear HK; clear HB; have HO0 := n0_; have BK131 := n1_; have HK := n2_; have HB := n3_; clear n0_ n1_ n2_ n3_; (try clear hb); (try clear hb2); (try clear hk); (try clear hi); have hcz31_0 : w30.cell? ⟨gb131, 0, none⟩ = some (.string a1_0) := (blk_cell BK131.out 0).trans rfl; have hcz31_1 : w30.cell? ⟨gb131, 1, none⟩ = some (.int .i64 a1_1) := (blk_cell BK131.out 1).trans rfl; have hfz31_0 := blk_frozen BK131.out 0; have hfz31_1 := blk_frozen BK131.out 1) | ((with_reducible refine gate_dst (N := 23) rfl ?_); refine Kd.R_lit k43 _ 43 ?hg (N := 23) ?hd (xs := ([(⟨a1_0, a1_1⟩ : S43)] : List (S43))) (inner := [.string a1_0, .int .i64 a1_1]) (ok := fun _ => True) (okp := fun _ => True) ?hr ?hp (fun _ hk => hk) trivial (Below.refl _ _) (Nat.le_refl _) (by simp) ?_; (case hd => rfl); (case hg => rfl); (case hr => first | (go_simp; done) | (go_simp; rfl) | (have hcq := hcq_.out; have hfq := hfq_.out; go_simp; done)); (case hp => exact (Reps.c2 (show Kd.M k43 _ _ _ (⟨a1_0, a1_1⟩ : S43) [.string a1_0, .int .i64 a1_1] from (k43_mkM _ _ _ (⟨a1_0, a1_1⟩ : S43) )) (Reps.none _ _))); intro v138 w32 ho33 hb hg_ hnew_; clear hg_ hnew_; (first | rw [← Ny137.out] at ho33 | (simp only [Int.reduceToNat] at ho33; rw [← Ny137.out] at ho33)); have n0_ := Aside0.mk (Kd.R_elder' (gR HO0) (Kd.R_base ho33) hb); have n1_ := Aside0.mk (Kd.R_lower (Kd.R_newB (Kd.R_new' (Kd.R_newM (M := fun k_ => (P0_ k_ ∨ w.heap.size ≤ k_)) ho33 (by first | exact HK.out.1 | exact (show Kept w _ (fun k_ => P0_ k_) from by repeat (first | (with_reducible first | exact HK.out | apply Kept.alloc | apply Kept.drewN | apply Kept.drew | refine Kept.setCell ?_ (.inr GW131.out) _) | exact HK.out)).1) (fun k_ h_ => .inr h_)) (Kd.R_lt (gR HO0))) (g := gb131) (o := .cells #[.string a1_0, .int .i64 a1_1] 43 (0, 0)) (gK BK131)) (below_size (gS HB))); have n2_ := Aside0.mk (blk_below (g := gb131) (o := .cells #[.string a1_0, .int .i64 a1_1] 43 (0, 0)) (gK BK131) hb); have n3_ := Aside0.mk (Kept.below (S := (fun k_ => P0_ k_)) (by repeat (first | (with_reducible first | exact HK.out | apply Kept.alloc | apply Kept.drewN | apply Kept.drew | refine Kept.setCell ?_ (.inr GW131.out) _) | exact HK.out)) hb); have n4_ := Aside0.mk (below_step (gS HB) hb); clear HO0; clear BK131; clear HK; clear HB; have HO0 := n0_; have HO139 := n1_; have BK131 := n2_; have HK := n3_; have HB := n4_; clear n0_ n1_ n2_ n3_ n4_; clear hb ho33; obtain ⟨Ao34, co34, eo34⟩ := Kd.R_slice HO139.out; subst eo34) | ((with_reducible refine gate_callee (f := 40) rfl ?_); refine goesL_ (some 24) rfl rfl Try.func40 (by kernel_rfl) rfl #[.slice Ao29 l0.length co29, .int .i64 t132, .slice Ao34 y137.length co34] rfl am ?_; (with_reducible refine (slices_Insert_api_Lot_api_Lot.calls (fun k_ => some k_ = (.slice Ao29 l0.length co29 : Value).ownBlock) (.slice Ao29 l0.length co29) l0 t132 (fun k_ => some k_ = (.slice Ao34 y137.length co34 : Value).ownBlock) (.slice Ao34 y137.length co34) y137 t140 w0 _ ?side1 ?side2 ?side3 ?side4 ?side5 A26.out).mono ?_); (case side1 => repeat (first | (with_reducible first | exact HB.out | apply below_alloc | apply pw_below_drewN | apply below_drew1 | refine below_set ?_ GE131.out) | exact HB.out)); (case side2 => exact Kd.R_tight rfl HO0.out); (case side3 => exact fun k_ e_ => (HO0.out.1 k_ e_.symm).2); (case side4 => exact Kd.R_tight rfl HO139.out); (case side5 => exact fun k_ e_ => (HO139.out.1 k_ e_.symm).1.2); rintro e w35 ⟨v141, rfl, ho0, hb, hkp⟩; refine ⟨_, rfl, ?_⟩; have n0_ := Aside0.mk (blk_kept (gK BK131) hkp (fun hs_ => Or.elim hs_ (fun e_ => (fun e_ => (Kd.R_away HO0.out (fun _ hk => hk.1.2)) e_) e_) (fun e_ => (fun e_ => (Kd.R_away HO139.out (fun _ hk => hk.2)) e_) e_))); have n1_ := Aside0.mk (Kd.R_mono (ok' := fun k_ => (P0_ k_ ∨ w.heap.size ≤ k_) ∧ k_ ≠ gb131) ho0 (fun k_ hk_ => ⟨Or.elim hk_ (fun hs_ => Or.elim hs_ (fun hs_ => (HO0.out.1 k_ (hs_).symm).1.1) (fun hs_ => (HO139.out.1 k_ (hs_).symm).1.1.1)) (fun hn_ => (.inr (Nat.le_trans (by first | exact HK.out.1 | exact (show Kept w _ (fun k_ => P0_ k_) from by repeat (first | (with_reducible first | exact HK.out | apply Kept.alloc | apply Kept.drewN | apply Kept.drew | refine Kept.setCell ?_ (.inr GW131.out) _) | exact HK.out)).1) hn_))), Or.elim hk_ (fun hs_ => Or.elim hs_ (fun hs_ => fun e_ => (Kd.R_away HO0.out (fun _ hk => hk.1.2)) (by rw [← e_]; exact hs_)) (fun hs_ => fun e_ => (Kd.R_away HO139.out (fun _ hk => hk.2)) (by rw [← e_]; exact hs_))) (fun hn_ => (Kd.freshB (g := gb131) (o := .cells #[.string a1_0, .int .i64 a1_1] 43 (0, 0)) (gK BK131) k_ hn_))⟩)); have n2_ := Aside0.mk (Kept.then_ (S := (fun k_ => P0_ k_)) (by repeat (first | (with_reducible first | exact HK.out | apply Kept.alloc | apply Kept.drewN | apply Kept.drew | refine Kept.setCell ?_ (.inr GW131.out) _) | exact HK.out)) hkp (fun k_ hs_ => Or.elim hs_ (fun e_ => (fun e_ => (HO0.out.1 k_ e_.symm).1.1) e_) (fun e_ => (fun e_ => (HO139.out.1 k_ e_.symm).1.1.1) e_))); have n3_ := Aside0.mk (hb); clear BK131; clear HK; clear HB; clear HO0; clear HO139; have BK131 := n0_; have HO142 := n1_; have HK := n2_; have HB := n3_; clear n0_ n1_ n2_ n3_; (try clear hb); (try clear hkp); (try clear ho0)))
     go_ret2
     exact ⟨_, by first | rfl | (simp [errW_none, errW_some] <;> rfl) | (simp [*, errW_none, errW_some] <;> rfl), gR ⟨Kd.R_mono HO142.out (fun _ hk => hk.1)⟩, gS HB, by repeat (first | (with_reducible first | exact HK.out | apply Kept.alloc | apply Kept.drewN | apply Kept.drew | refine Kept.setCell ?_ (.inr GW131.out) _) | exact HK.out)⟩
def lots_Plus.l0 : Nat → List (S43) → List (S43) → Int → Int → Option ((List (S43)) × Int)
 | 0, _, _, _, _ => none
 | k + 1, x6, x12, x13, x14 => if x14 < x13 then (if 0 ≤ x14 then (if x14 < (x12.length : Int) then ((lots_add.f k x6 ((rd_T43 x12 x14).f0) ((rd_T43 x12 x14).f1)).bind fun bt148 => (if bt148.2 = 0 then (lots_Plus.l0 k bt148.1 x12 x13 (wrap64 (x14 + 1))) else (some (([] : List (S43)), bt148.2)))) else (none)) else (none)) else (some (x6, 0))
def lots_Plus.f (k : Nat) (l0 : List (S43)) (l1 : List (S43)) : Option ((List (S43)) × Int) := (slices_Clone_api_Lot_api_Lot.f l0).bind fun t143 => (lots_Plus.l0 k t143 l1 (l1.length : Int) 0)
theorem lots_Plus.mono_l : ∀ k, (∀ y0 y1 y2 y3, LeO (lots_Plus.l0 k y0 y1 y2 y3) (lots_Plus.l0 (k + 1) y0 y1 y2 y3))
 | 0 => fun _ _ _ _ r h => by simp [lots_Plus.l0] at h
 | k + 1 => by
  have ih0 := lots_Plus.mono_l k
  · intro y0 y1 y2 y3
    unfold lots_Plus.l0
    repeat' first
    | (with_reducible exact ih0 _ _ _ _)
    | (with_reducible exact lots_add.mono _ _ _ _)
    | (with_reducible exact LeO.refl _)
    | (with_reducible exact LeO.none _)
    | (with_reducible refine LeO.ite ?_ ?_)
    | (with_reducible refine LeO.bind ?_ (fun _ => ?_))
    | exact ih0 _ _ _ _
    | exact lots_add.mono _ _ _ _
    | exact LeO.none _
    | refine LeO.ite ?_ ?_
    | refine LeO.bind ?_ (fun _ => ?_)
theorem lots_Plus.mono : ∀ a0 a1 k, LeO (lots_Plus.f k a0 a1) (lots_Plus.f (k + 1) a0 a1) := by
 intro a0 a1 k
 have ih0 := lots_Plus.mono_l k
 unfold lots_Plus.f
 repeat' first
  | (with_reducible exact ih0 _ _ _ _)
  | (with_reducible exact lots_add.mono _ _ _ _)
  | (with_reducible exact LeO.refl _)
  | (with_reducible exact LeO.none _)
  | (with_reducible refine LeO.ite ?_ ?_)
  | (with_reducible refine LeO.bind ?_ (fun _ => ?_))
  | exact ih0 _ _ _ _
  | exact lots_add.mono _ _ _ _
  | exact LeO.none _
  | refine LeO.ite ?_ ?_
  | refine LeO.bind ?_ (fun _ => ?_)
set_option maxHeartbeats 8000000 in
set_option maxRecDepth 100000 in
theorem lots_Plus.calls (k : Nat) (A0 : Option Addr) (c0 : Nat) (l0 : List (S43)) (A1 : Option Addr) (c1 : Nat) (l1 : List (S43)) (r1 : List (S43)) (r2 : Int) (w : World) (hr0 : Kd.C k43 w A0 l0.length l0) (hc0 : l0.length ≤ c0) (hr1 : Kd.C k43 w A1 l1.length l1) (hc1 : l1.length ≤ c1) (h : lots_Plus.f k l0 l1 = some (r1, r2)) :
 Calls Try.prog 9 #[.slice A0 l0.length c0, .slice A1 l1.length c1] w fun e w' => ∃ v0_ : Value, e = .returned (.tuple #[v0_, .int .i64 r2]) ∧ Kd.R k43 43 w' w.heap.size (fun _ => True) v0_ r1 ∧ Below w.heap.size w w' := by
 have hu43 := Try.underlying43
 have HR0 := Aside0.mk hr0; have HC0 := Aside0.mk hc0; clear hr0 hc0; have HR1 := Aside0.mk hr1; have HC1 := Aside0.mk hc1; clear hr1 hc1
 have HB := Aside0.mk (Below.refl w.heap.size w)
 have H : ((slices_Clone_api_Lot_api_Lot.f l0).bind fun t143 => (lots_Plus.l0 k t143 l1 (l1.length : Int) 0)) = some (r1, r2) := h
 clear h
 replace H := Option.bind_eq_some_iff.mp H
 obtain ⟨t143, A30, H⟩ := H
 replace H : (lots_Plus.l0 k t143 l1 (l1.length : Int) 0) = some (r1, r2) := H
 have A3 := Aside0.mk A30; clear A30
 have H' := Aside0.mk H
 clear H
 go_enter Try.func9, Try.ntmps9
 go_wp2_with (first | ((with_reducible refine gate_callee (f := 30) rfl ?_); refine goesL_ (some 11) rfl rfl Try.func30 (by kernel_rfl) rfl #[.slice A0 l0.length c0] rfl am ?_; (with_reducible refine (slices_Clone_api_Lot_api_Lot.calls _ _ l0 t143 _ ?side1 ?side2 A3.out).mono ?_); (case side1 => repeat (first | exact HR0.out | (with_reducible refine Kd.C_alloc ?_ _) | (with_reducible refine Kd.C_drewN ?_ _) | (with_reducible refine Kd.C_drew ?_))); (case side2 => exact HC0.out); rintro e w4 ⟨v144, rfl, ho0, hb⟩; refine ⟨_, rfl, ?_⟩; have n0_ := Aside0.mk (Kd.R_lower ho0 (below_size (gB HB))); have n1_ := Aside0.mk (below_step (gB HB) hb); clear HB; have HO145 := n0_; have HB := n1_; clear n0_ n1_; (try clear hb); (try clear hb2); (try clear hk); (try clear hi); (try clear ho0)))
 go_loopg [6, 14] k (fun kq v6 v14 w' => ∃ (x6_1 : List (S43)) (x14_1 : Int), v14 = .int .i64 x14_1 ∧ Aside0 (lots_Plus.l0 kq x6_1 l1 (l1.length : Int) x14_1 = some (r1, r2)) ∧ Aside0 (kq ≤ k) ∧ Aside0 (Kd.R k43 43 w' w.heap.size (fun _ => True) v6 x6_1) ∧ Aside0 (Below w.heap.size w w'))
 case atStart => exact ⟨(t143), (0), ac, H', ⟨Nat.le_refl _⟩, ⟨gR HO145⟩, ⟨gB HB⟩⟩
 case round =>
  clear H'; (try clear c1); (try clear p2); (try clear c3)
  obtain ⟨x6_1, x14_1, rfl, HA, HK1, HO_6, HB⟩ := hrel
  cases gk with
  | zero => exact absurd HA.out (by simp [lots_Plus.l0])
  | succ k1 =>
   have H := HA.out
   clear HA
   simp only [lots_Plus.l0] at H
   by_cases c5 : x14_1 < (l1.length : Int)
   · rw [if_pos c5] at H
     have c5b0 : decide (x14_1 < (l1.length : Int)) = true := decide_eq_true c5
     clear c5
     by_cases c6 : 0 ≤ x14_1
     · rw [if_pos c6] at H
       have c6b0 : decide (0 ≤ x14_1) = true := decide_eq_true c6
       clear c6
       by_cases c7 : x14_1 < (l1.length : Int)
       · rw [if_pos c7] at H
         have c7b0 : decide (x14_1 < (l1.length : Int)) = true := decide_eq_true c7
         clear c7
         replace H := Option.bind_eq_some_iff.mp H
         obtain ⟨⟨t148, t151⟩, A80, H⟩ := H
         replace H : (if t151 = 0 then (lots_Plus.l0 k1 t148 l1 (l1.length : Int) (wrap64 (x14_1 + 1))) else (some (([] : List (S43)), t151))) = some (r1, r2) := H
         have A8 := Aside0.mk A80; clear A80
         by_cases c9 : t151 = 0
         · rw [if_pos c9] at H
           have c9b0 : (t151 == 0) = true := beq_iff_eq.mpr c9
           have c9b1 : (t151 != 0) = false := bne_eq_false_iff_eq.mpr c9
           clear c9
           have H' := Aside0.mk H
           clear H
           have p146 : 0 ≤ (x14_1 : Int) := od
           have q146 : x14_1 < (l1.length : Int) := od
           obtain ⟨ad146, e146, hx146_0, hx146_1⟩ := at_T43 HR1.out x14_1 p146 q146
           cases e146
           replace hx146_0 := (HB.out.cell (World.block_lt_of_cell? w _ hx146_0)).trans hx146_0
           replace hx146_1 := (HB.out.cell (World.block_lt_of_cell? w _ hx146_1)).trans hx146_1
           replace p146 := eq_true p146; replace q146 := eq_true q146
           go_wp2_with (first | ((with_reducible refine gate_dst (N := 9) rfl ?_); refine box_event ?hg (N := 9) ?hd (cs := #[.string (⟨#[]⟩ : ByteArray), .int .i64 0]) (t := 43) ?hr ?_; (case hd => rfl); (case hg => rfl); (case hr => first | (go_simp; done) | (go_simp; rfl) | (have hcq := hcq_.out; have hfq := hfq_.out; go_simp; done)); intro gb147 hg w10 hbox hb; have n0_ := Aside0.mk (Kd.R_below (Kd.R_elderB (gR HO_6) gb147 (Nat.le_of_eq hg.symm)) hb); have n1_ := Aside0.mk (below_step (gB HB) hb); have n2_ := Aside0.mk (hbox); have n3_ := Aside0.mk ((by rw [hg]; exact (below_size (gB HB)) : w.heap.size ≤ gb147)); have n4_ := Aside0.mk ((by rw [hg]; exact (below_size (gB HB)) : w.heap.size ≤ gb147)); clear HO_6; clear HB; have HO_6 := n0_; have HB := n1_; have BK147 := n2_; have GW147 := n3_; have GE147 := n4_; clear n0_ n1_ n2_ n3_ n4_; clear hb hbox hg; have hcz11_0 : w10.cell? ⟨gb147, 0, none⟩ = some (.string (⟨#[]⟩ : ByteArray)) := (blk_cell BK147.out 0).trans rfl; have hcz11_1 : w10.cell? ⟨gb147, 1, none⟩ = some (.int .i64 0) := (blk_cell BK147.out 1).trans rfl; have hfz11_0 := blk_frozen BK147.out 0; have hfz11_1 := blk_frozen BK147.out 1) | ((with_reducible refine gate_store (t := 43) (p := 9) rfl ?_); refine store_event (t := 43) (p := 9) (v := ?vo_w12) (w1 := ((w10.setCell ⟨gb147, 0, none⟩ (.string ((rd_T43 l1 x14_1).f0))).setCell ⟨gb147, 1, none⟩ (.int .i64 ((rd_T43 l1 x14_1).f1)))) ?hg ?ho ?hn ?hr ?_; (case ho => rfl); (case hg => rfl); (case hn => rfl); (case hr => first | (go_simp; done) | (go_simp; rfl) | (have hcq := hcq_.out; have hfq := hfq_.out; go_simp; done)); intro w12 hw; have n0_ : Aside0 (Kd.R k43 43 w12 w.heap.size (fun k_ => k_ ≠ gb147) u6 x6_1) := ⟨(by rw [hw]; exact (gR ⟨Kd.R_mono (Kd.R_far (p := ⟨gb147, 1, none⟩) (Kd.R_far (p := ⟨gb147, 0, none⟩) (Kd.R_mono HO_6.out (fun k_ hk => (⟨hk, hk.2⟩ : _ ∧ k_ ≠ gb147))) (fun _ hk => hk.2) (.string ((rd_T43 l1 x14_1).f0))) (fun _ hk => hk.2) (.int .i64 ((rd_T43 l1 x14_1).f1))) (fun _ hk => hk.1.2)⟩))⟩; have n1_ : Aside0 (w12.heap[gb147]? = some (.cells #[.string ((rd_T43 l1 x14_1).f0), .int .i64 ((rd_T43 l1 x14_1).f1)] 43 (0, 0))) := ⟨(by rw [hw]; exact (by (with_reducible repeat (first | refine blk_drewN ?_ _ | refine blk_drew ?_ | refine blk_alloc ?_ _)); refine blk_put (cs := #[.string ((rd_T43 l1 x14_1).f0), .int .i64 0]) ?_ 1 _ rfl; (with_reducible repeat (first | refine blk_drewN ?_ _ | refine blk_drew ?_ | refine blk_alloc ?_ _)); refine blk_put (cs := #[.string (⟨#[]⟩ : ByteArray), .int .i64 0]) ?_ 0 _ rfl; (with_reducible repeat (first | refine blk_drewN ?_ _ | refine blk_drew ?_ | refine blk_alloc ?_ _)); exact BK147.out))⟩; have n2_ : Aside0 (Below w.heap.size w w12) := ⟨(by rw [hw]; exact (gS HB))⟩; clear hw; clear HO_6; clear BK147; clear HB; have HO_6 := n0_; have BK147 := n1_; have HB := n2_; clear n0_ n1_ n2_; have hcz13_0 : w12.cell? ⟨gb147, 0, none⟩ = some (.string ((rd_T43 l1 x14_1).f0)) := (blk_cell BK147.out 0).trans rfl; have hcz13_1 : w12.cell? ⟨gb147, 1, none⟩ = some (.int .i64 ((rd_T43 l1 x14_1).f1)) := (blk_cell BK147.out 1).trans rfl; have hfz13_0 := blk_frozen BK147.out 0; have hfz13_1 := blk_frozen BK147.out 1; obtain ⟨Ao14, co14, eo14⟩ := Kd.R_slice HO_6.out; subst eo14) | ((with_reducible refine gate_callee (f := 31) rfl ?_); refine goesL_ (some 21) rfl rfl Try.func31 (by kernel_rfl) rfl #[.slice Ao14 x6_1.length co14, .agg #[.string ((rd_T43 l1 x14_1).f0), .int .i64 ((rd_T43 l1 x14_1).f1)]] rfl am ?_; (with_reducible refine (lots_add.calls k1 (fun k_ => some k_ = (.slice Ao14 x6_1.length co14 : Value).ownBlock) (.slice Ao14 x6_1.length co14) x6_1 ((rd_T43 l1 x14_1).f0) ((rd_T43 l1 x14_1).f1) t148 t151 w _ ?side1 ?side2 A8.out).mono ?_); (case side1 => repeat (first | (with_reducible first | exact HB.out | apply below_alloc | apply pw_below_drewN | apply below_drew1 | refine below_set ?_ GE147.out) | exact HB.out)); (case side2 => exact Kd.R_tight rfl HO_6.out); rintro e w15 ⟨v149, rfl, ho0, hb, hkp⟩; refine ⟨_, rfl, ?_⟩; have n0_ := Aside0.mk (blk_kept (gK BK147) hkp (fun hs_ => (fun e_ => (Kd.R_away HO_6.out (fun _ hk => hk)) e_) hs_)); have n1_ := Aside0.mk (Kd.R_mono (ok' := fun k_ => k_ ≠ gb147) ho0 (fun k_ hk_ => Or.elim hk_ (fun hs_ => fun e_ => (Kd.R_away HO_6.out (fun _ hk => hk)) (by rw [← e_]; exact hs_)) (fun hn_ => (Kd.freshB (g := gb147) (o := .cells #[.string ((rd_T43 l1 x14_1).f0), .int .i64 ((rd_T43 l1 x14_1).f1)] 43 (0, 0)) (gK BK147) k_ hn_)))); have n2_ := Aside0.mk (hb); clear BK147; clear HB; clear HO_6; have BK147 := n0_; have HO150 := n1_; have HB := n2_; clear n0_ n1_ n2_; (try clear hb); (try clear hkp); (try clear ho0)))
           go_roundg k1
           case measure => have := HK1.out; omega
           case rel => exact ⟨(t148), (wrap64 (x14_1 + 1)), ac, H', ⟨by have := HK1.out; omega⟩, ⟨gR ⟨Kd.R_mono HO150.out (fun _ hk => trivial)⟩⟩, ⟨gS HB⟩⟩
         · rw [if_neg c9] at H
           have c9b0 : (t151 == 0) = false := beq_eq_false_iff_ne.mpr c9
           have c9b1 : (t151 != 0) = true := bne_iff_ne.mpr c9
           simp only [Option.some.injEq, Prod.mk.injEq] at H
           obtain ⟨rfl, rfl⟩ := H
           have p146 : 0 ≤ (x14_1 : Int) := od
           have q146 : x14_1 < (l1.length : Int) := od
           obtain ⟨ad146, e146, hx146_0, hx146_1⟩ := at_T43 HR1.out x14_1 p146 q146
           cases e146
           replace hx146_0 := (HB.out.cell (World.block_lt_of_cell? w _ hx146_0)).trans hx146_0
           replace hx146_1 := (HB.out.cell (World.block_lt_of_cell? w _ hx146_1)).trans hx146_1
           replace p146 := eq_true p146; replace q146 := eq_true q146
           go_wp2_with (first | ((with_reducible refine gate_dst (N := 9) rfl ?_); refine box_event ?hg (N := 9) ?hd (cs := #[.string (⟨#[]⟩ : ByteArray), .int .i64 0]) (t := 43) ?hr ?_; (case hd => rfl); (case hg => rfl); (case hr => first | (go_simp; done) | (go_simp; rfl) | (have hcq := hcq_.out; have hfq := hfq_.out; go_simp; done)); intro gb147 hg w16 hbox hb; have n0_ := Aside0.mk (Kd.R_below (Kd.R_elderB (gR HO_6) gb147 (Nat.le_of_eq hg.symm)) hb); have n1_ := Aside0.mk (below_step (gB HB) hb); have n2_ := Aside0.mk (hbox); have n3_ := Aside0.mk ((by rw [hg]; exact (below_size (gB HB)) : w.heap.size ≤ gb147)); have n4_ := Aside0.mk ((by rw [hg]; exact (below_size (gB HB)) : w.heap.size ≤ gb147)); clear HO_6; clear HB; have HO_6 := n0_; have HB := n1_; have BK147 := n2_; have GW147 := n3_; have GE147 := n4_; clear n0_ n1_ n2_ n3_ n4_; clear hb hbox hg; have hcz17_0 : w16.cell? ⟨gb147, 0, none⟩ = some (.string (⟨#[]⟩ : ByteArray)) := (blk_cell BK147.out 0).trans rfl; have hcz17_1 : w16.cell? ⟨gb147, 1, none⟩ = some (.int .i64 0) := (blk_cell BK147.out 1).trans rfl; have hfz17_0 := blk_frozen BK147.out 0; have hfz17_1 := blk_frozen BK147.out 1) | ((with_reducible refine gate_store (t := 43) (p := 9) rfl ?_); refine store_event (t := 43) (p := 9) (v := ?vo_w18) (w1 := ((w16.setCell ⟨gb147, 0, none⟩ (.string ((rd_T43 l1 x14_1).f0))).setCell ⟨gb147, 1, none⟩ (.int .i64 ((rd_T43 l1 x14_1).f1)))) ?hg ?ho ?hn ?hr ?_; (case ho => rfl); (case hg => rfl); (case hn => rfl); (case hr => first | (go_simp; done) | (go_simp; rfl) | (have hcq := hcq_.out; have hfq := hfq_.out; go_simp; done)); intro w18 hw; have n0_ : Aside0 (Kd.R k43 43 w18 w.heap.size (fun k_ => k_ ≠ gb147) u6 x6_1) := ⟨(by rw [hw]; exact (gR ⟨Kd.R_mono (Kd.R_far (p := ⟨gb147, 1, none⟩) (Kd.R_far (p := ⟨gb147, 0, none⟩) (Kd.R_mono HO_6.out (fun k_ hk => (⟨hk, hk.2⟩ : _ ∧ k_ ≠ gb147))) (fun _ hk => hk.2) (.string ((rd_T43 l1 x14_1).f0))) (fun _ hk => hk.2) (.int .i64 ((rd_T43 l1 x14_1).f1))) (fun _ hk => hk.1.2)⟩))⟩; have n1_ : Aside0 (w18.heap[gb147]? = some (.cells #[.string ((rd_T43 l1 x14_1).f0), .int .i64 ((rd_T43 l1 x14_1).f1)] 43 (0, 0))) := ⟨(by rw [hw]; exact (by (with_reducible repeat (first | refine blk_drewN ?_ _ | refine blk_drew ?_ | refine blk_alloc ?_ _)); refine blk_put (cs := #[.string ((rd_T43 l1 x14_1).f0), .int .i64 0]) ?_ 1 _ rfl; (with_reducible repeat (first | refine blk_drewN ?_ _ | refine blk_drew ?_ | refine blk_alloc ?_ _)); refine blk_put (cs := #[.string (⟨#[]⟩ : ByteArray), .int .i64 0]) ?_ 0 _ rfl; (with_reducible repeat (first | refine blk_drewN ?_ _ | refine blk_drew ?_ | refine blk_alloc ?_ _)); exact BK147.out))⟩; have n2_ : Aside0 (Below w.heap.size w w18) := ⟨(by rw [hw]; exact (gS HB))⟩; clear hw; clear HO_6; clear BK147; clear HB; have HO_6 := n0_; have BK147 := n1_; have HB := n2_; clear n0_ n1_ n2_; have hcz19_0 : w18.cell? ⟨gb147, 0, none⟩ = some (.string ((rd_T43 l1 x14_1).f0)) := (blk_cell BK147.out 0).trans rfl; have hcz19_1 : w18.cell? ⟨gb147, 1, none⟩ = some (.int .i64 ((rd_T43 l1 x14_1).f1)) := (blk_cell BK147.out 1).trans rfl; have hfz19_0 := blk_frozen BK147.out 0; have hfz19_1 := blk_frozen BK147.out 1; obtain ⟨Ao20, co20, eo20⟩ := Kd.R_slice HO_6.out; subst eo20) | ((with_reducible refine gate_callee (f := 31) rfl ?_); refine goesL_ (some 21) rfl rfl Try.func31 (by kernel_rfl) rfl #[.slice Ao20 x6_1.length co20, .agg #[.string ((rd_T43 l1 x14_1).f0), .int .i64 ((rd_T43 l1 x14_1).f1)]] rfl am ?_; (with_reducible refine (lots_add.calls k1 (fun k_ => some k_ = (.slice Ao20 x6_1.length co20 : Value).ownBlock) (.slice Ao20 x6_1.length co20) x6_1 ((rd_T43 l1 x14_1).f0) ((rd_T43 l1 x14_1).f1) t148 t151 w _ ?side1 ?side2 A8.out).mono ?_); (case side1 => repeat (first | (with_reducible first | exact HB.out | apply below_alloc | apply pw_below_drewN | apply below_drew1 | refine below_set ?_ GE147.out) | exact HB.out)); (case side2 => exact Kd.R_tight rfl HO_6.out); rintro e w21 ⟨v149, rfl, ho0, hb, hkp⟩; refine ⟨_, rfl, ?_⟩; have n0_ := Aside0.mk (blk_kept (gK BK147) hkp (fun hs_ => (fun e_ => (Kd.R_away HO_6.out (fun _ hk => hk)) e_) hs_)); have n1_ := Aside0.mk (Kd.R_mono (ok' := fun k_ => k_ ≠ gb147) ho0 (fun k_ hk_ => Or.elim hk_ (fun hs_ => fun e_ => (Kd.R_away HO_6.out (fun _ hk => hk)) (by rw [← e_]; exact hs_)) (fun hn_ => (Kd.freshB (g := gb147) (o := .cells #[.string ((rd_T43 l1 x14_1).f0), .int .i64 ((rd_T43 l1 x14_1).f1)] 43 (0, 0)) (gK BK147) k_ hn_)))); have n2_ := Aside0.mk (hb); clear BK147; clear HB; clear HO_6; have BK147 := n0_; have HO150 := n1_; have HB := n2_; clear n0_ n1_ n2_; (try clear hb); (try clear hkp); (try clear ho0)))
           go_ret2
           exact ⟨_, by first | rfl | (simp [errW_none, errW_some] <;> rfl) | (simp [*, errW_none, errW_some] <;> rfl), by first | exact Kd.R_nil _ _ _ _ _ | exact Kd.N_nil _ _ _ _ _ | exact Kd.V_nil _ _ _ _ _ | exact Kd.Q_nil _ _ _ _ _ | exact Kd.S_nil _ _ _ _ _, gS HB⟩
       · rw [if_neg c7] at H
         exact absurd H (by simp)
     · rw [if_neg c6] at H
       exact absurd H (by simp)
   · rw [if_neg c5] at H
     have c5b0 : decide (x14_1 < (l1.length : Int)) = false := decide_eq_false c5
     clear c5
     simp only [Option.some.injEq, Prod.mk.injEq] at H
     obtain ⟨rfl, rfl⟩ := H
     go_wp2
     go_ret2
     exact ⟨_, by first | rfl | (simp [errW_none, errW_some] <;> rfl) | (simp [*, errW_none, errW_some] <;> rfl), gR HO_6, gB HB⟩
end Go.Proofs.Ytjjemfbpodgihaa.X
