-- a shortened text: what this claim does not name is left out (wip/xprint/prune.py of this repo)
import Derived.Test.YtjjemfbpodgihaaXMin
import Derived.Test.YtjjemfbpodgihaaX0
import Derived.Test.YtjjemfbpodgihaaX4
import Derived.Test.YtjjemfbpodgihaaDEL
namespace Go.Proofs.Ytjjemfbpodgihaa.X
open Go.RowKit Go.Proofs.YtjjemfbpodgihaaW.PrintWords Go.Proofs.YtjjemfbpodgihaaW.PrintLast Go.Proofs.YtjjemfbpodgihaaW.PrintMore
attribute [local go_sem] max2_int min2_int max_two min_two max_three min_three max_four min_four
set_option linter.unusedVariables false
set_option linter.unusedSimpArgs false
abbrev qx7_0 : Array Bool := #[true, true, true, true, false, true, false, false, false, false, false]
mutual
def lots_Minus.l0 : Nat → List (S43) → List (S43) → Int → Int → Option ((List (S43)) × Int)
 | 0, _, _, _, _ => none
 | k + 1, x6, x13, x14, x15 => if x15 < x14 then (if 0 ≤ x15 then (if x15 < (x13.length : Int) then ((lots_place.f k x6 ((rd_T43 x13 x15).f0)).bind fun bt157 => (if bt157.2 = true then (if 0 ≤ bt157.1 then (if bt157.1 < (x6.length : Int) then (lots_Minus.j1 k x6 bt157.1 x13 x14 x15 (decide (((rd_T43 x6 bt157.1).f1) < ((rd_T43 x13 x15).f1))) ((rd_T43 x13 x15).f0) ((rd_T43 x13 x15).f1)) else (none)) else (none)) else (lots_Minus.j1 k x6 bt157.1 x13 x14 x15 true ((rd_T43 x13 x15).f0) ((rd_T43 x13 x15).f1)))) else (none)) else (none)) else (some (x6, 0))
def lots_Minus.j1 : Nat → List (S43) → Int → List (S43) → Int → Int → Bool → ByteArray → Int → Option ((List (S43)) × Int)
 | 0, _, _, _, _, _, _, _, _ => none
 | k + 1, x6, x9, x13, x14, x15, x37, x157000, x157001 => if x37 = true then (some (([] : List (S43)), 20)) else (if 0 ≤ x9 then (if x9 < (x6.length : Int) then ((some (x6.set (x9 : Int).toNat (⟨(rd_T43 x6 x9).f0, wrap64 (((rd_T43 x6 x9).f1) - x157001)⟩ : S43) : List (S43))).bind fun y161 => (if (wrap64 (((rd_T43 x6 x9).f1) - x157001)) = 0 then ((slices_Delete_api_Lot_api_Lot.f y161 x9 (wrap64 (x9 + 1))).bind fun t163 => (lots_Minus.l0 k t163 x13 x14 (wrap64 (x15 + 1)))) else (lots_Minus.l0 k y161 x13 x14 (wrap64 (x15 + 1))))) else (none)) else (none))
end
def lots_Minus.f (k : Nat) (l0 : List (S43)) (l1 : List (S43)) : Option ((List (S43)) × Int) := (slices_Clone_api_Lot_api_Lot.f l0).bind fun t152 => (lots_Minus.l0 k t152 l1 (l1.length : Int) 0)
theorem lots_Minus.mono_l : ∀ k, (∀ y0 y1 y2 y3, LeO (lots_Minus.l0 k y0 y1 y2 y3) (lots_Minus.l0 (k + 1) y0 y1 y2 y3)) ∧ (∀ y0 y1 y2 y3 y4 y5 y6 y7, LeO (lots_Minus.j1 k y0 y1 y2 y3 y4 y5 y6 y7) (lots_Minus.j1 (k + 1) y0 y1 y2 y3 y4 y5 y6 y7))
 | 0 => ⟨fun _ _ _ _ r h => by simp [lots_Minus.l0] at h, fun _ _ _ _ _ _ _ _ r h => by simp [lots_Minus.j1] at h⟩
 | k + 1 => by
  obtain ⟨ih0, ih1⟩ := lots_Minus.mono_l k
  refine ⟨?_, ?_⟩
  intro y0 y1 y2 y3; unfold lots_Minus.l0; rotate_left
  intro y0 y1 y2 y3 y4 y5 y6 y7; unfold lots_Minus.j1; rotate_left
  all_goals repeat' first
  | (with_reducible exact ih0 _ _ _ _)
  | (with_reducible exact ih1 _ _ _ _ _ _ _ _)
  | (with_reducible exact lots_place.mono _ _ _)
  | (with_reducible exact LeO.refl _)
  | (with_reducible exact LeO.none _)
  | (with_reducible refine LeO.ite ?_ ?_)
  | (with_reducible refine LeO.bind ?_ (fun _ => ?_))
  | exact ih0 _ _ _ _
  | exact ih1 _ _ _ _ _ _ _ _
  | exact lots_place.mono _ _ _
  | exact LeO.none _
  | refine LeO.ite ?_ ?_
  | refine LeO.bind ?_ (fun _ => ?_)
theorem lots_Minus.mono : ∀ a0 a1 k, LeO (lots_Minus.f k a0 a1) (lots_Minus.f (k + 1) a0 a1) := by
 intro a0 a1 k
 obtain ⟨ih0, ih1⟩ := lots_Minus.mono_l k
 unfold lots_Minus.f
 repeat' first
  | (with_reducible exact ih0 _ _ _ _)
  | (with_reducible exact ih1 _ _ _ _ _ _ _ _)
  | (with_reducible exact lots_place.mono _ _ _)
  | (with_reducible exact LeO.refl _)
  | (with_reducible exact LeO.none _)
  | (with_reducible refine LeO.ite ?_ ?_)
  | (with_reducible refine LeO.bind ?_ (fun _ => ?_))
  | exact ih0 _ _ _ _
  | exact ih1 _ _ _ _ _ _ _ _
  | exact lots_place.mono _ _ _
  | exact LeO.none _
  | refine LeO.ite ?_ ?_
  | refine LeO.bind ?_ (fun _ => ?_)
def lots_Minus.T6 : Bool × List (List Nat × List Nat) := (true, [([], []), ([0], [0]), ([1], [1]), ([2], [2]), ([2], [2]), ([3, 4, 2], [2, 3, 4]), ([5, 2], [2, 5]), ([6, 2], [2, 6]), ([2], [2]), ([8, 2], [2, 8]), ([7, 9, 2], [2, 7, 9]), ([2, 10], [2, 10])])
def lots_Minus.B6 : List Nat := [0, 1, 3, 7, 7, 31, 63, 127, 7, 263, 1023, 2047]
theorem lots_Minus.tab6 : rtab .any (opsOf Try.f11 6) = lots_Minus.T6 := by kernel_rfl
theorem lots_Minus.bits6 : waitsOk lots_Minus.T6.2 lots_Minus.B6 = true := by kernel_rfl
def lots_Minus.T8 : Bool × List (List Nat × List Nat) := (true, [([], []), ([], []), ([0, 1], [0, 1]), ([2], [2]), ([3], [3]), ([], []), ([5], [5]), ([4, 6], [4, 6]), ([0, 1, 0, 1, 2, 3, 4, 5, 6, 7], [0, 1]), ([8, 0, 1, 2, 3, 4, 5, 6, 7], [8]), ([9, 7, 0, 1, 2, 3, 4, 5, 6, 7], [7, 9])])
def lots_Minus.B8 : List Nat := [0, 0, 3, 7, 15, 0, 32, 127, 255, 511, 1023]
theorem lots_Minus.tab8 : rtab .any (opsOf Try.f11 8) = lots_Minus.T8 := by kernel_rfl
theorem lots_Minus.bits8 : waitsOk lots_Minus.T8.2 lots_Minus.B8 = true := by kernel_rfl
set_option maxHeartbeats 8000000 in
set_option maxRecDepth 100000 in
theorem lots_Minus.calls (k : Nat) (A0 : Option Addr) (c0 : Nat) (l0 : List (S43)) (A1 : Option Addr) (c1 : Nat) (l1 : List (S43)) (r1 : List (S43)) (r2 : Int) (w : World) (hr0 : Kd.C k43 w A0 l0.length l0) (hc0 : l0.length ≤ c0) (hr1 : Kd.C k43 w A1 l1.length l1) (hc1 : l1.length ≤ c1) (h : lots_Minus.f k l0 l1 = some (r1, r2)) :
 Calls Try.prog 11 #[.slice A0 l0.length c0, .slice A1 l1.length c1] w fun e w' => ∃ v0_ : Value, e = .returned (.tuple #[v0_, .int .i64 r2]) ∧ Kd.R k43 43 w' w.heap.size (fun _ => True) v0_ r1 ∧ Below w.heap.size w w' := by
 have hu43 := Try.underlying43
 have HR0 := Aside0.mk hr0; have HC0 := Aside0.mk hc0; clear hr0 hc0; have HR1 := Aside0.mk hr1; have HC1 := Aside0.mk hc1; clear hr1 hc1
 have HB := Aside0.mk (Below.refl w.heap.size w)
 have H : ((slices_Clone_api_Lot_api_Lot.f l0).bind fun t152 => (lots_Minus.l0 k t152 l1 (l1.length : Int) 0)) = some (r1, r2) := h
 clear h
 replace H := Option.bind_eq_some_iff.mp H
 obtain ⟨t152, A30, H⟩ := H
 replace H : (lots_Minus.l0 k t152 l1 (l1.length : Int) 0) = some (r1, r2) := H
 have A3 := Aside0.mk A30; clear A30
 have H' := Aside0.mk H
 clear H
 go_enter Try.func11, Try.ntmps11
 go_wp2_with (first | ((with_reducible refine gate_callee (f := 30) rfl ?_); refine goesL_ (some 12) rfl rfl Try.func30 (by kernel_rfl) rfl #[.slice A0 l0.length c0] rfl am ?_; (with_reducible refine (slices_Clone_api_Lot_api_Lot.calls _ _ l0 t152 _ ?side1 ?side2 A3.out).mono ?_); (case side1 => repeat (first | exact HR0.out | (with_reducible refine Kd.C_alloc ?_ _) | (with_reducible refine Kd.C_drewN ?_ _) | (with_reducible refine Kd.C_drew ?_))); (case side2 => exact HC0.out); rintro e w4 ⟨v153, rfl, ho0, hb⟩; refine ⟨_, rfl, ?_⟩; have n0_ := Aside0.mk (Kd.R_lower ho0 (below_size (gB HB))); have n1_ := Aside0.mk (below_step (gB HB) hb); clear HB; have HO154 := n0_; have HB := n1_; clear n0_ n1_; (try clear hb); (try clear hb2); (try clear hk); (try clear hi); (try clear ho0)))
 go_loopg [6, 15] k (fun kq v6 v15 w' => ∃ (x6_1 : List (S43)) (x15_1 : Int), v15 = .int .i64 x15_1 ∧ Aside0 (lots_Minus.l0 kq x6_1 l1 (l1.length : Int) x15_1 = some (r1, r2)) ∧ Aside0 (kq ≤ k) ∧ Aside0 (Kd.R k43 43 w' w.heap.size (fun _ => True) v6 x6_1) ∧ Aside0 (Below w.heap.size w w'))
 case atStart => exact ⟨(t152), (0), ac, H', ⟨Nat.le_refl _⟩, ⟨gR HO154⟩, ⟨gB HB⟩⟩
 case round =>
  clear H'; (try clear c1); (try clear p2); (try clear c3)
  obtain ⟨x6_1, x15_1, rfl, HA, HK1, HO_6, HB⟩ := hrel
  cases gk with
  | zero => exact absurd HA.out (by simp [lots_Minus.l0])
  | succ k1 =>
   have H := HA.out
   clear HA
   simp only [lots_Minus.l0] at H
   by_cases c5 : x15_1 < (l1.length : Int)
   · rw [if_pos c5] at H
     have c5b0 : decide (x15_1 < (l1.length : Int)) = true := decide_eq_true c5
     clear c5
     by_cases c6 : 0 ≤ x15_1
     · rw [if_pos c6] at H
       have c6b0 : decide (0 ≤ x15_1) = true := decide_eq_true c6
       clear c6
       by_cases c7 : x15_1 < (l1.length : Int)
       · rw [if_pos c7] at H
         have c7b0 : decide (x15_1 < (l1.length : Int)) = true := decide_eq_true c7
         clear c7
         replace H := Option.bind_eq_some_iff.mp H
         obtain ⟨⟨t157, t158⟩, A80, H⟩ := H
         replace H : (if t158 = true then (if 0 ≤ t157 then (if t157 < (x6_1.length : Int) then (lots_Minus.j1 k1 x6_1 t157 l1 (l1.length : Int) x15_1 (decide (((rd_T43 x6_1 t157).f1) < ((rd_T43 l1 x15_1).f1))) ((rd_T43 l1 x15_1).f0) ((rd_T43 l1 x15_1).f1)) else (none)) else (none)) else (lots_Minus.j1 k1 x6_1 t157 l1 (l1.length : Int) x15_1 true ((rd_T43 l1 x15_1).f0) ((rd_T43 l1 x15_1).f1))) = some (r1, r2) := H
         have A8 := Aside0.mk A80; clear A80; have HC9 := Aside0.mk H; clear H
         have p155 : 0 ≤ (x15_1 : Int) := od
         have q155 : x15_1 < (l1.length : Int) := od
         obtain ⟨ad155, e155, hx155_0, hx155_1⟩ := at_T43 HR1.out x15_1 p155 q155
         cases e155
         replace hx155_0 := (HB.out.cell (World.block_lt_of_cell? w _ hx155_0)).trans hx155_0
         replace hx155_1 := (HB.out.cell (World.block_lt_of_cell? w _ hx155_1)).trans hx155_1
         replace p155 := eq_true p155; replace q155 := eq_true q155
         go_upto_region 6 with (first | ((with_reducible refine gate_dst (N := 8) rfl ?_); refine box_event ?hg (N := 8) ?hd (cs := #[.string (⟨#[]⟩ : ByteArray), .int .i64 0]) (t := 43) ?hr ?_; (case hd => rfl); (case hg => rfl); (case hr => first | (go_simp; done) | (go_simp; rfl) | (have hcq := hcq_.out; have hfq := hfq_.out; go_simp; done)); intro gb156 hg w10 hbox hb; have n0_ := Aside0.mk (Kd.R_below (Kd.R_elderB (gR HO_6) gb156 (Nat.le_of_eq hg.symm)) hb); have n1_ := Aside0.mk (below_step (gB HB) hb); have n2_ := Aside0.mk (hbox); have n3_ := Aside0.mk ((by rw [hg]; exact (below_size (gB HB)) : w.heap.size ≤ gb156)); have n4_ := Aside0.mk ((by rw [hg]; exact (below_size (gB HB)) : w.heap.size ≤ gb156)); clear HO_6; clear HB; have HO_6 := n0_; have HB := n1_; have BK156 := n2_; have GW156 := n3_; have GE156 := n4_; clear n0_ n1_ n2_ n3_ n4_; clear hb hbox hg; have hcz11_0 : w10.cell? ⟨gb156, 0, none⟩ = some (.string (⟨#[]⟩ : ByteArray)) := (blk_cell BK156.out 0).trans rfl; have hcz11_1 : w10.cell? ⟨gb156, 1, none⟩ = some (.int .i64 0) := (blk_cell BK156.out 1).trans rfl; have hfz11_0 := blk_frozen BK156.out 0; have hfz11_1 := blk_frozen BK156.out 1; obtain ⟨Ao12, co12, eo12⟩ := Kd.R_slice HO_6.out; subst eo12) | ((with_reducible refine gate_callee (f := 33) rfl ?_); refine goesL_ (some 23) rfl rfl Try.func33 (by kernel_rfl) rfl #[.slice Ao12 x6_1.length co12, .string ((rd_T43 l1 x15_1).f0)] rfl am ?_; (with_reducible refine (lots_place.calls k1 _ _ x6_1 ((rd_T43 l1 x15_1).f0) t157 t158 _ ?side1 ?side2 A8.out).mono ?_); (case side1 => refine (Kd.R_reads' (e := 43) (base := w.heap.size) (ok := fun k_ => (True ∧ k_ ≠ gb156)) (n := x6_1.length) (c := co12) ?_).2.2; exact (gR ⟨(Kd.R_mono (Kd.R_far (p := ⟨gb156, 1, none⟩) (Kd.R_far (p := ⟨gb156, 0, none⟩) (Kd.R_mono HO_6.out (fun k_ hk => (⟨hk, hk.2⟩ : _ ∧ k_ ≠ gb156))) (fun _ hk => hk.2) (.string ((rd_T43 l1 x15_1).f0))) (fun _ hk => hk.2) (.int .i64 ((rd_T43 l1 x15_1).f1))) (fun _ h_ => h_.1))⟩)); (case side2 => exact (Kd.R_reads' HO_6.out).2.1); rintro e w13 ⟨rfl, hb⟩; refine ⟨_, rfl, ?_⟩; have n0_ := Aside0.mk (Kd.R_below (gR ⟨(Kd.R_mono (Kd.R_far (p := ⟨gb156, 1, none⟩) (Kd.R_far (p := ⟨gb156, 0, none⟩) (Kd.R_mono HO_6.out (fun k_ hk => (⟨hk, hk.2⟩ : _ ∧ k_ ≠ gb156))) (fun _ hk => hk.2) (.string ((rd_T43 l1 x15_1).f0))) (fun _ hk => hk.2) (.int .i64 ((rd_T43 l1 x15_1).f1))) (fun _ h_ => h_.1))⟩) hb); have n1_ := Aside0.mk (blk_below (g := gb156) (o := .cells #[.string ((rd_T43 l1 x15_1).f0), .int .i64 ((rd_T43 l1 x15_1).f1)] 43 (0, 0)) (by (with_reducible repeat (first | refine blk_drewN ?_ _ | refine blk_drew ?_ | refine blk_alloc ?_ _)); refine blk_put (cs := #[.string ((rd_T43 l1 x15_1).f0), .int .i64 0]) ?_ 1 _ rfl; (with_reducible repeat (first | refine blk_drewN ?_ _ | refine blk_drew ?_ | refine blk_alloc ?_ _)); refine blk_put (cs := #[.string (⟨#[]⟩ : ByteArray), .int .i64 0]) ?_ 0 _ rfl; (with_reducible repeat (first | refine blk_drewN ?_ _ | refine blk_drew ?_ | refine blk_alloc ?_ _)); exact BK156.out) hb); have n2_ := Aside0.mk (below_step (gS HB) hb); clear HO_6; clear BK156; clear HB; have HO_6 := n0_; have BK156 := n1_; have HB := n2_; clear n0_ n1_ n2_; (try clear hb); (try clear hb2); (try clear hk); (try clear hi)))
         (try simp only [Act.put, sA, sB, sC])
         go_cut [37] (fun v37 wc => ∃ (kq : Nat) (x37_8 : Bool), v37 = .bool x37_8 ∧ Aside0 (lots_Minus.j1 kq x6_1 t157 l1 (l1.length : Int) x15_1 x37_8 ((rd_T43 l1 x15_1).f0) ((rd_T43 l1 x15_1).f1) = some (r1, r2)) ∧ Aside0 (kq ≤ k1) ∧ Aside0 (Kd.R k43 43 wc w.heap.size (fun k_ => k_ ≠ gb156) (.slice Ao12 x6_1.length co12) x6_1) ∧ Aside0 (wc.heap[gb156]? = some (.cells #[.string ((rd_T43 l1 x15_1).f0), .int .i64 ((rd_T43 l1 x15_1).f1)] 43 (0, 0))) ∧ Aside0 (Below w.heap.size w wc))
         case first =>
          have H := HC9.out
          clear HC9
          by_cases c14 : t158 = true
          · subst c14
            have H1 : (if 0 ≤ t157 then (if t157 < (x6_1.length : Int) then (lots_Minus.j1 k1 x6_1 t157 l1 (l1.length : Int) x15_1 (decide (((rd_T43 x6_1 t157).f1) < ((rd_T43 l1 x15_1).f1))) ((rd_T43 l1 x15_1).f0) ((rd_T43 l1 x15_1).f1)) else (none)) else (none)) = some (r1, r2) := by rw [if_pos rfl] at H; exact H
            clear H
            have H := H1
            clear H1
            by_cases c15 : 0 ≤ t157
            · rw [if_pos c15] at H
              have c15b0 : decide (0 ≤ t157) = true := decide_eq_true c15
              clear c15
              (first | rw [c15b0] | (simp only [i64_w, i32_w]; rw [c15b0]) | skip)
              by_cases c16 : t157 < (x6_1.length : Int)
              · rw [if_pos c16] at H
                have c16b0 : decide (t157 < (x6_1.length : Int)) = true := decide_eq_true c16
                clear c16
                have H' := Aside0.mk H
                clear H
                try go_wp2
                have n0_ := Aside0.mk (Kd.R_drew HO_6.out)
                have n1_ := Aside0.mk (blk_drew BK156.out)
                have n2_ := Aside0.mk (below_drew1 HB.out)
                clear HO_6; clear BK156; clear HB
                have HO_6 := n0_
                have BK156 := n1_
                have HB := n2_
                clear n0_ n1_ n2_
                have p159 : 0 ≤ (t157 : Int) := od
                have q159 : t157 < (x6_1.length : Int) := od
                obtain ⟨ad159, e159, hx159_0, hx159_1⟩ := at_T43 (Kd.R_reads' HO_6.out).2.2 t157 p159 q159
                cases e159; replace p159 := eq_true p159; replace q159 := eq_true q159
                refine start_ (n := 12) (S := fun w' => w'.cell? ⟨gb156, 0, none⟩ = some (.string ((rd_T43 l1 x15_1).f0)) ∧ w'.cell? ⟨gb156, 1, none⟩ = some (.int .i64 ((rd_T43 l1 x15_1).f1)) ∧ w'.cell? (ad159.add ((t157).toNat * 2)) = some (.string ((rd_T43 x6_1 t157).f0)) ∧ w'.cell? ⟨(ad159.add ((t157).toNat * 2)).block, (ad159.add ((t157).toNat * 2)).off + 1, none⟩ = some (.int .i64 ((rd_T43 x6_1 t157).f1))) (ds := []) (pf 12 0) (by kernel_rfl) rfl rfl ⟨(blk_cell BK156.out 0).trans rfl, (blk_cell BK156.out 1).trans rfl, hx159_0, hx159_1⟩ (fun hHeld => ?_); refine with_tabW lots_Minus.tab6 lots_Minus.bits6 (fun HT_ HW_ => ?_)
                generalize w13.drew = w17 at HO_6 BK156 HB hx159_0 hx159_1 hHeld ⊢
                refine pA (i := 0) (N := some 26) HT_ (pf 12 1) ?_
                refine pA (i := 1) (N := some 27) HT_ (pf 12 2) ?_
                refine pA (i := 2) (N := some 28) HT_ (pf 12 3) ?_
                refine pA (i := 3) (N := some 29) HT_ (pf 12 4) ?_
                refine pA (i := 4) (N := some 30) HT_ (pf 12 5) ?_
                refine pA (i := 5) (N := some 31) HT_ (pf 12 6) ?_
                refine pA (i := 6) (N := some 32) HT_ (pf 12 7) ?_
                refine pA (i := 8) (N := some 34) HT_ #[true, true, true, true, true, true, true, false, true, false, false, false] ?_
                refine take_ (i := 7) (N := some 33) (v := ?_) (a' := ?_) (pf 12 9) rfl rfl (take_ofW HT_.out HW_.out (by kernel_rfl)) (fun _ _ _ h => h) (Or.inl ⟨by rfl, ?_⟩) hHeld ?_ ?_
                rotate_left
                · rintro w' ⟨s0, s1, s2, s3⟩
                  go_simp
                  with_reducible rfl
                rotate_left
                · simp only [Act.put, sA, sB, sC, i64_w, i32_w]
                  rfl
                refine take_ (i := 9) (N := some 35) (v := ?_) (a' := ?_) (pf 12 10) rfl rfl (take_ofW HT_.out HW_.out (by kernel_rfl)) (fun _ _ _ h => h) (Or.inl ⟨by rfl, ?_⟩) hHeld ?_ ?_
                rotate_left
                · rintro w' ⟨s0, s1, s2, s3⟩
                  go_simp
                  with_reducible rfl
                rotate_left
                · simp only [Act.put, sA, sB, sC, i64_w, i32_w]
                  rfl
                refine pA (i := 10) (N := some 36) HT_ (pf 12 11) ?_
                refine pA (i := 11) (N := some 37) HT_ (pf 12 12) ?_
                refine done_ (done_of HT_.out (by kernel_rfl)) ?_
                try go_wp2
                go_meet
                case rel => exact ⟨_, (decide (((rd_T43 x6_1 t157).f1) < ((rd_T43 l1 x15_1).f1))), ac, H', ⟨by have := HK1.out; first | omega | exact Nat.le_refl _⟩, ⟨gR ⟨Kd.R_mono HO_6.out (fun _ hk => hk.2)⟩⟩, ⟨gK BK156⟩, ⟨gS HB⟩⟩
              · rw [if_neg c16] at H
                exact absurd H (by simp)
            · rw [if_neg c15] at H
              exact absurd H (by simp)
          · replace c14 := Bool.eq_false_iff.mpr c14
            subst c14
            have H1 : (lots_Minus.j1 k1 x6_1 t157 l1 (l1.length : Int) x15_1 true ((rd_T43 l1 x15_1).f0) ((rd_T43 l1 x15_1).f1)) = some (r1, r2) := by rw [if_neg (show ¬ (false = true) by decide)] at H; exact H
            clear H
            have H := H1
            clear H1
            have H' := Aside0.mk H
            clear H
            try go_wp2
            have n0_ := Aside0.mk (Kd.R_drew HO_6.out)
            have n1_ := Aside0.mk (blk_drew BK156.out)
            have n2_ := Aside0.mk (below_drew1 HB.out)
            clear HO_6; clear BK156; clear HB
            have HO_6 := n0_
            have BK156 := n1_
            have HB := n2_
            clear n0_ n1_ n2_
            refine start_ (n := 12) (S := fun w' => True) (ds := []) (pf 12 0) (by kernel_rfl) rfl rfl trivial (fun hHeld => ?_); refine with_tabW lots_Minus.tab6 lots_Minus.bits6 (fun HT_ HW_ => ?_)
            generalize w13.drew = w18 at HO_6 BK156 HB hHeld ⊢
            refine pA (i := 0) (N := some 26) HT_ (pf 12 1) ?_
            refine pA (i := 1) (N := some 27) HT_ (pf 12 2) ?_
            refine pA (i := 2) (N := some 28) HT_ (pf 12 3) ?_
            refine pure_ (i := 3) (N := some 29) (v := undef) (a' := ?_) (pf 12 4) rfl rfl (any_of HT_.out (by kernel_rfl)) (fun _ _ _ h => h) (Or.inr ⟨by rfl, rfl⟩) ?_ ?_
            rotate_left
            · simp only [Act.put, sA, sB, sC, i64_w, i32_w]
              rfl
            refine pure_ (i := 4) (N := some 30) (v := undef) (a' := ?_) (pf 12 5) rfl rfl (any_of HT_.out (by kernel_rfl)) (fun _ _ _ h => h) (Or.inr ⟨by rfl, rfl⟩) ?_ ?_
            rotate_left
            · simp only [Act.put, sA, sB, sC, i64_w, i32_w]
              rfl
            refine pure_ (i := 5) (N := some 31) (v := undef) (a' := ?_) (pf 12 6) rfl rfl (any_of HT_.out (by kernel_rfl)) (fun _ _ _ h => h) (Or.inr ⟨by rfl, rfl⟩) ?_ ?_
            rotate_left
            · simp only [Act.put, sA, sB, sC, i64_w, i32_w]
              rfl
            refine pure_ (i := 6) (N := some 32) (v := undef) (a' := ?_) (pf 12 7) rfl rfl (any_of HT_.out (by kernel_rfl)) (fun _ _ _ h => h) (Or.inr ⟨by rfl, rfl⟩) ?_ ?_
            rotate_left
            · simp only [Act.put, sA, sB, sC, i64_w, i32_w]
              rfl
            refine pure_ (i := 7) (N := some 33) (v := undef) (a' := ?_) (pf 12 8) rfl rfl (any_of HT_.out (by kernel_rfl)) (fun _ _ _ h => h) (Or.inr ⟨by rfl, rfl⟩) ?_ ?_
            rotate_left
            · simp only [Act.put, sA, sB, sC, i64_w, i32_w]
              rfl
            refine pure_ (i := 8) (N := some 34) (v := undef) (a' := ?_) (pf 12 9) rfl rfl (any_of HT_.out (by kernel_rfl)) (fun _ _ _ h => h) (Or.inr ⟨by rfl, rfl⟩) ?_ ?_
            rotate_left
            · simp only [Act.put, sA, sB, sC, i64_w, i32_w]
              rfl
            refine pure_ (i := 9) (N := some 35) (v := undef) (a' := ?_) (pf 12 10) rfl rfl (any_of HT_.out (by kernel_rfl)) (fun _ _ _ h => h) (Or.inr ⟨by rfl, rfl⟩) ?_ ?_
            rotate_left
            · simp only [Act.put, sA, sB, sC, i64_w, i32_w]
              rfl
            refine pure_ (i := 10) (N := some 36) (v := undef) (a' := ?_) (pf 12 11) rfl rfl (any_of HT_.out (by kernel_rfl)) (fun _ _ _ h => h) (Or.inr ⟨by rfl, rfl⟩) ?_ ?_
            rotate_left
            · simp only [Act.put, sA, sB, sC, i64_w, i32_w]
              rfl
            refine pA (i := 11) (N := some 37) HT_ (pf 12 12) ?_
            refine done_ (done_of HT_.out (by kernel_rfl)) ?_
            try go_wp2
            go_meet
            case rel => exact ⟨_, (true), ac, H', ⟨by have := HK1.out; first | omega | exact Nat.le_refl _⟩, ⟨gR ⟨Kd.R_mono HO_6.out (fun _ hk => hk.2)⟩⟩, ⟨gK BK156⟩, ⟨gS HB⟩⟩
         case rest =>
          clear HC9; (try clear c1); (try clear p1); (try clear q1); (try clear hx1); (try clear p2); (try clear c3); (try clear c5); (try clear c5b0); (try clear c6); (try clear c6b0); (try clear c7); (try clear c7b0); (try clear c11); (try clear c14); (try clear c15); (try clear c15b0); (try clear p15); (try clear q15); (try clear hx15); (try clear c16); (try clear c16b0); (try clear hcz11_0); (try clear hcz11_1); (try clear hfz11_0); (try clear hfz11_1); (try clear hx155_0); (try clear hx155_1); (try clear hx159_0); (try clear hx159_1); (try clear p155); (try clear p159); (try clear p2); (try clear q155); (try clear q159)
          obtain ⟨kq, x37_8, rfl, HA, HJ8, HO_6, BK156, HB⟩ := hcut
          cases kq with
          | zero => exact absurd HA.out (by simp [lots_Minus.j1])
          | succ kj8 =>
           have H := HA.out
           clear HA
           simp only [lots_Minus.j1] at H
           by_cases c19 : x37_8 = true
           · subst c19
             have H1 : (some (([] : List (S43)), 20)) = some (r1, r2) := by rw [if_pos rfl] at H; exact H
             clear H
             have H := H1
             clear H1
             simp only [Option.some.injEq, Prod.mk.injEq] at H
             obtain ⟨rfl, rfl⟩ := H
             go_wp2
             go_ret2
             exact ⟨_, by first | rfl | (simp [errW_none, errW_some] <;> rfl) | (simp [*, errW_none, errW_some] <;> rfl), by first | exact Kd.R_nil _ _ _ _ _ | exact Kd.N_nil _ _ _ _ _ | exact Kd.V_nil _ _ _ _ _ | exact Kd.Q_nil _ _ _ _ _ | exact Kd.S_nil _ _ _ _ _, gS HB⟩
           · replace c19 := Bool.eq_false_iff.mpr c19
             subst c19
             have H1 : (if 0 ≤ t157 then (if t157 < (x6_1.length : Int) then ((some (x6_1.set (t157 : Int).toNat (⟨(rd_T43 x6_1 t157).f0, wrap64 (((rd_T43 x6_1 t157).f1) - ((rd_T43 l1 x15_1).f1))⟩ : S43) : List (S43))).bind fun y161 => (if (wrap64 (((rd_T43 x6_1 t157).f1) - ((rd_T43 l1 x15_1).f1))) = 0 then ((slices_Delete_api_Lot_api_Lot.f y161 t157 (wrap64 (t157 + 1))).bind fun t163 => (lots_Minus.l0 kj8 t163 l1 (l1.length : Int) (wrap64 (x15_1 + 1)))) else (lots_Minus.l0 kj8 y161 l1 (l1.length : Int) (wrap64 (x15_1 + 1))))) else (none)) else (none)) = some (r1, r2) := by rw [if_neg (show ¬ (false = true) by decide)] at H; exact H
             clear H
             have H := H1
             clear H1
             by_cases c20 : 0 ≤ t157
             · rw [if_pos c20] at H
               have c20b0 : decide (0 ≤ t157) = true := decide_eq_true c20
               clear c20
               by_cases c21 : t157 < (x6_1.length : Int)
               · rw [if_pos c21] at H
                 have c21b0 : decide (t157 < (x6_1.length : Int)) = true := decide_eq_true c21
                 clear c21
                 obtain ⟨y161, hy161⟩ : ∃ y_ : List (S43), y_ = (x6_1.set (t157 : Int).toNat (⟨(rd_T43 x6_1 t157).f0, wrap64 (((rd_T43 x6_1 t157).f1) - ((rd_T43 l1 x15_1).f1))⟩ : S43)) := ⟨_, rfl⟩
                 replace H : (if (wrap64 (((rd_T43 x6_1 t157).f1) - ((rd_T43 l1 x15_1).f1))) = 0 then ((slices_Delete_api_Lot_api_Lot.f y161 t157 (wrap64 (t157 + 1))).bind fun t163 => (lots_Minus.l0 kj8 t163 l1 (l1.length : Int) (wrap64 (x15_1 + 1)))) else (lots_Minus.l0 kj8 y161 l1 (l1.length : Int) (wrap64 (x15_1 + 1)))) = some (r1, r2) := by first | (rw [hy161]; with_reducible exact H) | (have H2_ := (Option.bind_some _ _).symm.trans H; rw [hy161]; with_reducible exact H2_) | (have H2_ := (Option.bind_some _ _).symm.trans H; with_reducible exact H2_) | with_reducible exact H | (rw [hy161]; exact H) | exact H
                 have Ny161 := Aside0.mk hy161; clear hy161
                 by_cases c24 : (wrap64 (((rd_T43 x6_1 t157).f1) - ((rd_T43 l1 x15_1).f1))) = 0
                 · rw [if_pos c24] at H
                   have c24b0 : ((wrap64 (((rd_T43 x6_1 t157).f1) - ((rd_T43 l1 x15_1).f1))) == 0) = true := beq_iff_eq.mpr c24
                   have c24b1 : ((wrap64 (((rd_T43 x6_1 t157).f1) - ((rd_T43 l1 x15_1).f1))) != 0) = false := bne_eq_false_iff_eq.mpr c24
                   clear c24
                   replace H := Option.bind_eq_some_iff.mp H
                   obtain ⟨t163, A250, H⟩ := H
                   replace H : (lots_Minus.l0 kj8 t163 l1 (l1.length : Int) (wrap64 (x15_1 + 1))) = some (r1, r2) := H
                   have A25 := Aside0.mk A250; clear A250
                   have H' := Aside0.mk H
                   clear H
                   try go_wp2
                   have n0_ := Aside0.mk (Kd.R_drew HO_6.out)
                   have n1_ := Aside0.mk (blk_drew BK156.out)
                   have n2_ := Aside0.mk (below_drew1 HB.out)
                   clear HO_6; clear BK156; clear HB
                   have HO_6 := n0_
                   have BK156 := n1_
                   have HB := n2_
                   clear n0_ n1_ n2_
                   have p160 : 0 ≤ (t157 : Int) := od
                   have q160 : t157 < (x6_1.length : Int) := od
                   obtain ⟨ad160, e160, hx160_0, hx160_1⟩ := at_T43 (Kd.R_reads' HO_6.out).2.2 t157 p160 q160
                   cases e160; replace p160 := eq_true p160; replace q160 := eq_true q160
                   have p22 : 0 ≤ (t157 : Int) := od
                   have q22 : (t157 : Int) < ((x6_1.length : Int) : Int) := od
                   obtain ⟨go22, co22, eo22, gb22, gl22, cl22, HG22⟩ := Kd.R_form HO_6.out (by omega)
                   (first | cases eo22 | (injection eo22 with ea_ en_ ec_; (first | subst ea_ | (injection ea_ with ea_; subst ea_)); subst ec_; clear en_))
                   have GB22 := Aside0.mk gb22; have GG22 := Aside0.mk HG22; clear gb22 gl22 HG22
                   (first | simp only [add_plain] at hx160_0 | skip)
                   (first | simp only [add_plain] at hx160_1 | skip)
                   obtain ⟨ce22, hcl22, hM22, hcc22, hfr22⟩ := Kd.R_elem HO_6.out z43 (t157 : Int) p22 q22
                   obtain rfl := k43_openM hM22
                   have hx22_0 : World.cell? _ ⟨go22, (t157 : Int).toNat * 2, none⟩ = some (.string ((rd_T43 x6_1 t157).f0)) := hcc22 0 _ rfl
                   have hx22_1 : World.cell? _ ⟨go22, (t157 : Int).toNat * 2 + 1, none⟩ = some (.int .i64 ((rd_T43 x6_1 t157).f1)) := hcc22 1 _ rfl
                   have hf22_0 : World.frozen? _ ⟨go22, (t157 : Int).toNat * 2, none⟩ = false := hfr22 0
                   have hf22_1 : World.frozen? _ ⟨go22, (t157 : Int).toNat * 2 + 1, none⟩ = false := hfr22 1
                   clear hcl22 hcc22 hfr22 hM22; replace p22 := eq_true p22; replace q22 := eq_true q22
                   obtain ⟨ce27, hcl27, hM27, hcc27, hfr27⟩ := Kd.R_elem HO_6.out z43 (t157 : Int) (od) (by have h_ : (t157 : Int) < ((x6_1.length : Int) : Int) := od; first | exact h_ | (have e_ := (Kd.R_reads' HO_6.out).1; omega) | simpa using h_)
                   obtain rfl := k43_openM hM27
                   have HP27 := (Kd.R_seg HO_6.out (t157 : Int) (od) (by have h_ : (t157 : Int) < ((x6_1.length : Int) : Int) := od; first | exact h_ | (have e_ := (Kd.R_reads' HO_6.out).1; omega) | simpa using h_) (seg := [.int .i64 (wrap64 (((rd_T43 x6_1 t157).f1) - ((rd_T43 l1 x15_1).f1)))]) (j := 1) hcl27 hcc27 (show 2 ≤ 2 from by decide) (x' := (⟨(rd_T43 x6_1 t157).f0, wrap64 (((rd_T43 x6_1 t157).f1) - ((rd_T43 l1 x15_1).f1))⟩ : S43)) (k43_mkM _ _ _ (⟨(rd_T43 x6_1 t157).f0, wrap64 (((rd_T43 x6_1 t157).f1) - ((rd_T43 l1 x15_1).f1))⟩ : S43) ) (fun _ hk => hk)).1
                   rw [← Ny161.out] at HP27
                   have HQ27 := Aside0.mk HP27; clear hcl27 hcc27 hfr27 hM27 HP27
                   refine start_ (n := 11) (S := fun w' => w'.cell? ⟨gb156, 0, none⟩ = some (.string ((rd_T43 l1 x15_1).f0)) ∧ w'.cell? ⟨gb156, 1, none⟩ = some (.int .i64 ((rd_T43 l1 x15_1).f1)) ∧ w'.cell? ⟨go22, ((t157).toNat * 2), none⟩ = some (.string ((rd_T43 x6_1 t157).f0)) ∧ w'.cell? ⟨go22, ((t157).toNat * 2) + 1, none⟩ = some (.int .i64 ((rd_T43 x6_1 t157).f1))) (ds := [10]) (pf 11 0) (by kernel_rfl) rfl rfl ⟨(blk_cell BK156.out 0).trans rfl, (blk_cell BK156.out 1).trans rfl, hx160_0, hx160_1⟩ (fun hHeld => ?_); refine with_tabW lots_Minus.tab8 lots_Minus.bits8 (fun HT_ HW_ => ?_)
                   generalize wc.drew = w26 at HO_6 BK156 HB GG22 HQ27 hf22_0 hf22_1 hx160_0 hx160_1 hx22_0 hx22_1 hHeld ⊢
                   refine pA (i := 0) (N := some 38) HT_ (pf 11 1) ?_
                   refine pA (i := 1) (N := some 39) HT_ (pf 11 2) ?_
                   refine pA (i := 2) (N := some 40) HT_ (pf 11 3) ?_
                   refine pA (i := 3) (N := some 41) HT_ (pf 11 4) ?_
                   refine pA (i := 5) (N := some 43) HT_ qx7_0 ?_
                   refine take_ (i := 4) (N := some 42) (v := ?_) (a' := ?_) (pf 11 6) rfl rfl (take_ofW HT_.out HW_.out (by kernel_rfl)) (fun _ _ _ h => h) (Or.inl ⟨by rfl, ?_⟩) hHeld ?_ ?_
                   rotate_left
                   · rintro w' ⟨s0, s1, s2, s3⟩
                     go_simp
                     with_reducible rfl
                   rotate_left
                   · simp only [Act.put, sA, sB, sC, i64_w, i32_w]
                     rfl
                   refine take_ (i := 6) (N := some 44) (v := ?_) (a' := ?_) (pf 11 7) rfl rfl (take_ofW HT_.out HW_.out (by kernel_rfl)) (fun _ _ _ h => h) (Or.inl ⟨by rfl, ?_⟩) hHeld ?_ ?_
                   rotate_left
                   · rintro w' ⟨s0, s1, s2, s3⟩
                     go_simp
                     with_reducible rfl
                   rotate_left
                   · simp only [Act.put, sA, sB, sC, i64_w, i32_w]
                     rfl
                   refine pA (i := 7) (N := some 45) HT_ (pf 11 8) ?_
                   refine pA (i := 8) (N := some 46) HT_ (pf 11 9) ?_
                   refine pA (i := 9) (N := some 47) HT_ (pf 11 10) ?_
                   refine last_ (i := 10) (N := none) (pf 11 11) rfl rfl (one_of HT_.out (by kernel_rfl)) (by decide) (fun K hK => ?_)
                   refine skip_ (w1 := ?_) (by rfl) rfl ?_ ?_
                   rotate_left
                   · go_simp
                     rfl
                   refine hK.out _ _ ?_
                   clear hK K
                   refine done_ (done_of HT_.out (by kernel_rfl)) ?_
                   have n0_ : Aside0 (Kd.R k43 43 (w26.setCell ⟨go22, (t157 : Int).toNat * 2 + 1, none⟩ (.int .i64 (wrap64 (((rd_T43 x6_1 t157).f1) - ((rd_T43 l1 x15_1).f1))))) w.heap.size (fun k_ => k_ ≠ gb156) (.slice (some ⟨go22, 0, none⟩) x6_1.length co12) y161) := ⟨gR HQ27⟩
                   have n1_ : Aside0 ((w26.setCell ⟨go22, (t157 : Int).toNat * 2 + 1, none⟩ (.int .i64 (wrap64 (((rd_T43 x6_1 t157).f1) - ((rd_T43 l1 x15_1).f1))))).heap[gb156]? = some (.cells #[.string ((rd_T43 l1 x15_1).f0), .int .i64 ((rd_T43 l1 x15_1).f1)] 43 (0, 0))) := ⟨by (with_reducible repeat (first | refine blk_drewN ?_ _ | refine blk_drew ?_ | refine blk_alloc ?_ _)); refine blk_far ?_ (by have h_ := Kd.R_away HO_6.out (fun _ hk => hk); intro e_; exact h_ (by rw [e_]; rfl)) _; (with_reducible repeat (first | refine blk_drewN ?_ _ | refine blk_drew ?_ | refine blk_alloc ?_ _)); exact BK156.out⟩
                   have n2_ : Aside0 (Below w.heap.size w (w26.setCell ⟨go22, (t157 : Int).toNat * 2 + 1, none⟩ (.int .i64 (wrap64 (((rd_T43 x6_1 t157).f1) - ((rd_T43 l1 x15_1).f1)))))) := ⟨gS HB⟩
                   try clear HO_6
                   try clear BK156
                   try clear HB
                   first | (have hzw28_0 : (w26.setCell ⟨go22, (t157 : Int).toNat * 2 + 1, none⟩ (.int .i64 (wrap64 (((rd_T43 x6_1 t157).f1) - ((rd_T43 l1 x15_1).f1))))).cell? ⟨go22, (t157 : Int).toNat * 2 + 1, none⟩ = some (.int .i64 (wrap64 (((rd_T43 x6_1 t157).f1) - ((rd_T43 l1 x15_1).f1)))) := (by first | exact XWords.cell_here (by first | (with_reducible assumption) | assumption) _ | (go_simp; done)); generalize (w26.setCell ⟨go22, (t157 : Int).toNat * 2 + 1, none⟩ (.int .i64 (wrap64 (((rd_T43 x6_1 t157).f1) - ((rd_T43 l1 x15_1).f1))))) = w28 at n0_ n1_ n2_ hzw28_0 ⊢) | generalize (w26.setCell ⟨go22, (t157 : Int).toNat * 2 + 1, none⟩ (.int .i64 (wrap64 (((rd_T43 x6_1 t157).f1) - ((rd_T43 l1 x15_1).f1))))) = w28 at n0_ n1_ n2_ ⊢
                   have HO_6 := n0_
                   have BK156 := n1_
                   have HB := n2_
                   clear n0_ n1_ n2_
                   have p23 : 0 ≤ (t157 : Int) := od
                   have q23 : (t157 : Int) < ((x6_1.length : Int) : Int) := od
                   replace p23 := eq_true p23; replace q23 := eq_true q23
                   try go_wp2_with (first | ((with_reducible refine gate_callee (f := 34) rfl ?_); refine goesL_ (some 58) rfl rfl Try.func34 (by kernel_rfl) rfl #[.slice (some ⟨go22, 0, none⟩) x6_1.length co12, .int .i64 t157, .int .i64 (wrap64 (t157 + 1))] rfl am ?_; (with_reducible refine (slices_Delete_api_Lot_api_Lot.calls (fun k_ => some k_ = (.slice (some ⟨go22, 0, none⟩) x6_1.length co12 : Value).ownBlock) (.slice (some ⟨go22, 0, none⟩) x6_1.length co12) y161 t157 (wrap64 (t157 + 1)) t163 w _ ?side1 ?side2 A25.out).mono ?_); (case side1 => repeat (first | (with_reducible first | exact HB.out | apply below_alloc | apply pw_below_drewN | apply below_drew1 | refine below_set ?_ GE156.out) | exact HB.out)); (case side2 => exact Kd.R_tight rfl HO_6.out); rintro e w29 ⟨v164, rfl, ho0, hb, hkp⟩; refine ⟨_, rfl, ?_⟩; have n0_ := Aside0.mk (blk_kept (gK BK156) hkp (fun hs_ => (fun e_ => (Kd.R_away HO_6.out (fun _ hk => hk)) e_) hs_)); have n1_ := Aside0.mk (Kd.R_mono (ok' := fun k_ => k_ ≠ gb156) ho0 (fun k_ hk_ => Or.elim hk_ (fun hs_ => fun e_ => (Kd.R_away HO_6.out (fun _ hk => hk)) (by rw [← e_]; exact hs_)) (fun hn_ => (Kd.freshB (g := gb156) (o := .cells #[.string ((rd_T43 l1 x15_1).f0), .int .i64 ((rd_T43 l1 x15_1).f1)] 43 (0, 0)) (gK BK156) k_ hn_)))); have n2_ := Aside0.mk (hb); clear BK156; clear HB; clear HO_6; have BK156 := n0_; have HO165 := n1_; have HB := n2_; clear n0_ n1_ n2_; (try clear hb); (try clear hkp); (try clear ho0)))
                   go_roundg kj8
                   case measure => have := HK1.out; have := HJ8.out; omega
                   case rel => exact ⟨(t163), (wrap64 (x15_1 + 1)), ac, H', ⟨by have := HK1.out; have := HJ8.out; omega⟩, ⟨gR ⟨Kd.R_mono HO165.out (fun _ hk => trivial)⟩⟩, ⟨gS HB⟩⟩
                 · rw [if_neg c24] at H
                   have c24b0 : ((wrap64 (((rd_T43 x6_1 t157).f1) - ((rd_T43 l1 x15_1).f1))) == 0) = false := beq_eq_false_iff_ne.mpr c24
                   have c24b1 : ((wrap64 (((rd_T43 x6_1 t157).f1) - ((rd_T43 l1 x15_1).f1))) != 0) = true := bne_iff_ne.mpr c24
                   have H' := Aside0.mk H
                   clear H
                   try go_wp2
                   have n0_ := Aside0.mk (Kd.R_drew HO_6.out)
                   have n1_ := Aside0.mk (blk_drew BK156.out)
                   have n2_ := Aside0.mk (below_drew1 HB.out)
                   clear HO_6; clear BK156; clear HB
                   have HO_6 := n0_
                   have BK156 := n1_
                   have HB := n2_
                   clear n0_ n1_ n2_
                   have p160 : 0 ≤ (t157 : Int) := od
                   have q160 : t157 < (x6_1.length : Int) := od
                   obtain ⟨ad160, e160, hx160_0, hx160_1⟩ := at_T43 (Kd.R_reads' HO_6.out).2.2 t157 p160 q160
                   cases e160; replace p160 := eq_true p160; replace q160 := eq_true q160
                   have p22 : 0 ≤ (t157 : Int) := od
                   have q22 : (t157 : Int) < ((x6_1.length : Int) : Int) := od
                   obtain ⟨go22, co22, eo22, gb22, gl22, cl22, HG22⟩ := Kd.R_form HO_6.out (by omega)
                   (first | cases eo22 | (injection eo22 with ea_ en_ ec_; (first | subst ea_ | (injection ea_ with ea_; subst ea_)); subst ec_; clear en_))
                   have GB22 := Aside0.mk gb22; have GG22 := Aside0.mk HG22; clear gb22 gl22 HG22
                   (first | simp only [add_plain] at hx160_0 | skip)
                   (first | simp only [add_plain] at hx160_1 | skip)
                   obtain ⟨ce22, hcl22, hM22, hcc22, hfr22⟩ := Kd.R_elem HO_6.out z43 (t157 : Int) p22 q22
                   obtain rfl := k43_openM hM22
                   have hx22_0 : World.cell? _ ⟨go22, (t157 : Int).toNat * 2, none⟩ = some (.string ((rd_T43 x6_1 t157).f0)) := hcc22 0 _ rfl
                   have hx22_1 : World.cell? _ ⟨go22, (t157 : Int).toNat * 2 + 1, none⟩ = some (.int .i64 ((rd_T43 x6_1 t157).f1)) := hcc22 1 _ rfl
                   have hf22_0 : World.frozen? _ ⟨go22, (t157 : Int).toNat * 2, none⟩ = false := hfr22 0
                   have hf22_1 : World.frozen? _ ⟨go22, (t157 : Int).toNat * 2 + 1, none⟩ = false := hfr22 1
                   clear hcl22 hcc22 hfr22 hM22; replace p22 := eq_true p22; replace q22 := eq_true q22
                   obtain ⟨ce31, hcl31, hM31, hcc31, hfr31⟩ := Kd.R_elem HO_6.out z43 (t157 : Int) (od) (by have h_ : (t157 : Int) < ((x6_1.length : Int) : Int) := od; first | exact h_ | (have e_ := (Kd.R_reads' HO_6.out).1; omega) | simpa using h_)
                   obtain rfl := k43_openM hM31
                   have HP31 := (Kd.R_seg HO_6.out (t157 : Int) (od) (by have h_ : (t157 : Int) < ((x6_1.length : Int) : Int) := od; first | exact h_ | (have e_ := (Kd.R_reads' HO_6.out).1; omega) | simpa using h_) (seg := [.int .i64 (wrap64 (((rd_T43 x6_1 t157).f1) - ((rd_T43 l1 x15_1).f1)))]) (j := 1) hcl31 hcc31 (show 2 ≤ 2 from by decide) (x' := (⟨(rd_T43 x6_1 t157).f0, wrap64 (((rd_T43 x6_1 t157).f1) - ((rd_T43 l1 x15_1).f1))⟩ : S43)) (k43_mkM _ _ _ (⟨(rd_T43 x6_1 t157).f0, wrap64 (((rd_T43 x6_1 t157).f1) - ((rd_T43 l1 x15_1).f1))⟩ : S43) ) (fun _ hk => hk)).1
                   rw [← Ny161.out] at HP31
                   have HQ31 := Aside0.mk HP31; clear hcl31 hcc31 hfr31 hM31 HP31
                   refine start_ (n := 11) (S := fun w' => w'.cell? ⟨gb156, 0, none⟩ = some (.string ((rd_T43 l1 x15_1).f0)) ∧ w'.cell? ⟨gb156, 1, none⟩ = some (.int .i64 ((rd_T43 l1 x15_1).f1)) ∧ w'.cell? ⟨go22, ((t157).toNat * 2), none⟩ = some (.string ((rd_T43 x6_1 t157).f0)) ∧ w'.cell? ⟨go22, ((t157).toNat * 2) + 1, none⟩ = some (.int .i64 ((rd_T43 x6_1 t157).f1))) (ds := [10]) (pf 11 0) (by kernel_rfl) rfl rfl ⟨(blk_cell BK156.out 0).trans rfl, (blk_cell BK156.out 1).trans rfl, hx160_0, hx160_1⟩ (fun hHeld => ?_); refine with_tabW lots_Minus.tab8 lots_Minus.bits8 (fun HT_ HW_ => ?_)
                   generalize wc.drew = w30 at HO_6 BK156 HB GG22 HQ31 hf22_0 hf22_1 hx160_0 hx160_1 hx22_0 hx22_1 hHeld ⊢
                   refine pA (i := 0) (N := some 38) HT_ (pf 11 1) ?_
                   refine pA (i := 1) (N := some 39) HT_ (pf 11 2) ?_
                   refine pA (i := 2) (N := some 40) HT_ (pf 11 3) ?_
                   refine pA (i := 3) (N := some 41) HT_ (pf 11 4) ?_
                   refine pA (i := 5) (N := some 43) HT_ qx7_0 ?_
                   refine take_ (i := 4) (N := some 42) (v := ?_) (a' := ?_) (pf 11 6) rfl rfl (take_ofW HT_.out HW_.out (by kernel_rfl)) (fun _ _ _ h => h) (Or.inl ⟨by rfl, ?_⟩) hHeld ?_ ?_
                   rotate_left
                   · rintro w' ⟨s0, s1, s2, s3⟩
                     go_simp
                     with_reducible rfl
                   rotate_left
                   · simp only [Act.put, sA, sB, sC, i64_w, i32_w]
                     rfl
                   refine take_ (i := 6) (N := some 44) (v := ?_) (a' := ?_) (pf 11 7) rfl rfl (take_ofW HT_.out HW_.out (by kernel_rfl)) (fun _ _ _ h => h) (Or.inl ⟨by rfl, ?_⟩) hHeld ?_ ?_
                   rotate_left
                   · rintro w' ⟨s0, s1, s2, s3⟩
                     go_simp
                     with_reducible rfl
                   rotate_left
                   · simp only [Act.put, sA, sB, sC, i64_w, i32_w]
                     rfl
                   refine pA (i := 7) (N := some 45) HT_ (pf 11 8) ?_
                   refine pA (i := 8) (N := some 46) HT_ (pf 11 9) ?_
                   refine pA (i := 9) (N := some 47) HT_ (pf 11 10) ?_
                   refine last_ (i := 10) (N := none) (pf 11 11) rfl rfl (one_of HT_.out (by kernel_rfl)) (by decide) (fun K hK => ?_)
                   refine skip_ (w1 := ?_) (by rfl) rfl ?_ ?_
                   rotate_left
                   · go_simp
                     rfl
                   refine hK.out _ _ ?_
                   clear hK K
                   refine done_ (done_of HT_.out (by kernel_rfl)) ?_
                   have p23 : 0 ≤ (t157 : Int) := od
                   have q23 : (t157 : Int) < ((x6_1.length : Int) : Int) := od
                   replace p23 := eq_true p23; replace q23 := eq_true q23
                   try go_wp2
                   go_roundg kj8
                   case measure => have := HK1.out; have := HJ8.out; omega
                   case rel => exact ⟨(y161), (wrap64 (x15_1 + 1)), ac, H', ⟨by have := HK1.out; have := HJ8.out; omega⟩, ⟨gR ⟨Kd.R_mono HQ31.out (fun _ hk => trivial)⟩⟩, ⟨gS HB⟩⟩
               · rw [if_neg c21] at H
                 exact absurd H (by simp)
             · rw [if_neg c20] at H
               exact absurd H (by simp)
       · rw [if_neg c7] at H
         exact absurd H (by simp)
     · rw [if_neg c6] at H
       exact absurd H (by simp)
   · rw [if_neg c5] at H
     have c5b0 : decide (x15_1 < (l1.length : Int)) = false := decide_eq_false c5
     clear c5
     simp only [Option.some.injEq, Prod.mk.injEq] at H
     obtain ⟨rfl, rfl⟩ := H
     go_wp2
     go_ret2
     exact ⟨_, by first | rfl | (simp [errW_none, errW_some] <;> rfl) | (simp [*, errW_none, errW_some] <;> rfl), gR HO_6, gB HB⟩
end Go.Proofs.Ytjjemfbpodgihaa.X
