-- a shortened text: what this claim does not name is left out (wip/xprint/prune.py of this repo)
import Derived.Test.YtjjemfbpodgihaaXMin
import Derived.Test.YtjjemfbpodgihaaX0
namespace Go.Proofs.Ytjjemfbpodgihaa.X
open Go.RowKit Go.Proofs.YtjjemfbpodgihaaW.PrintWords Go.Proofs.YtjjemfbpodgihaaW.PrintLast Go.Proofs.YtjjemfbpodgihaaW.PrintMore
attribute [local go_sem] max2_int min2_int max_two min_two max_three min_three max_four min_four
set_option linter.unusedVariables false
set_option linter.unusedSimpArgs false
def slices_swapRangeCmpFunc_haircut_Item.l0 : Nat → List (S47) → Int → Int → Int → Int → Option ((List (S47)))
 | 0, _, _, _, _, _ => none
 | k + 1, x0, x1, x2, x3, x10 => if x10 < x3 then (if 0 ≤ (wrap64 (x2 + x10)) then (if (wrap64 (x2 + x10)) < (x0.length : Int) then (if 0 ≤ (wrap64 (x1 + x10)) then (if (wrap64 (x1 + x10)) < (x0.length : Int) then (slices_swapRangeCmpFunc_haircut_Item.l0 k ((x0.set ((wrap64 (x1 + x10)) : Int).toNat (⟨(⟨(rd_T47 x0 (wrap64 (x2 + x10))).f0.f0, (rd_T47 x0 (wrap64 (x2 + x10))).f0.f1⟩ : S43), (⟨(rd_T47 x0 (wrap64 (x2 + x10))).f1.f0, (rd_T47 x0 (wrap64 (x2 + x10))).f1.f1, (rd_T47 x0 (wrap64 (x2 + x10))).f1.f2, (rd_T47 x0 (wrap64 (x2 + x10))).f1.f3, (rd_T47 x0 (wrap64 (x2 + x10))).f1.f4⟩ : S45), (rd_T47 x0 (wrap64 (x2 + x10))).f2, (rd_T47 x0 (wrap64 (x2 + x10))).f3⟩ : S47)).set ((wrap64 (x2 + x10)) : Int).toNat (⟨(⟨(rd_T47 x0 (wrap64 (x1 + x10))).f0.f0, (rd_T47 x0 (wrap64 (x1 + x10))).f0.f1⟩ : S43), (⟨(rd_T47 x0 (wrap64 (x1 + x10))).f1.f0, (rd_T47 x0 (wrap64 (x1 + x10))).f1.f1, (rd_T47 x0 (wrap64 (x1 + x10))).f1.f2, (rd_T47 x0 (wrap64 (x1 + x10))).f1.f3, (rd_T47 x0 (wrap64 (x1 + x10))).f1.f4⟩ : S45), (rd_T47 x0 (wrap64 (x1 + x10))).f2, (rd_T47 x0 (wrap64 (x1 + x10))).f3⟩ : S47)) x1 x2 x3 (wrap64 (x10 + 1))) else (none)) else (none)) else (none)) else (none)) else (some x0)
def slices_swapRangeCmpFunc_haircut_Item.f (k : Nat) (l0 : List (S47)) (a1 : Int) (a2 : Int) (a3 : Int)  : Option ((List (S47))) := slices_swapRangeCmpFunc_haircut_Item.l0 k l0 a1 a2 a3 0
theorem slices_swapRangeCmpFunc_haircut_Item.mono_l : ∀ k, (∀ y0 y1 y2 y3 y4, LeO (slices_swapRangeCmpFunc_haircut_Item.l0 k y0 y1 y2 y3 y4) (slices_swapRangeCmpFunc_haircut_Item.l0 (k + 1) y0 y1 y2 y3 y4))
 | 0 => fun _ _ _ _ _ r h => by simp [slices_swapRangeCmpFunc_haircut_Item.l0] at h
 | k + 1 => by
  have ih0 := slices_swapRangeCmpFunc_haircut_Item.mono_l k
  · intro y0 y1 y2 y3 y4
    unfold slices_swapRangeCmpFunc_haircut_Item.l0
    repeat' first
    | (with_reducible exact ih0 _ _ _ _ _)
    | (with_reducible exact LeO.refl _)
    | (with_reducible exact LeO.none _)
    | (with_reducible refine LeO.ite ?_ ?_)
    | (with_reducible refine LeO.bind ?_ (fun _ => ?_))
    | exact ih0 _ _ _ _ _
    | exact LeO.none _
    | refine LeO.ite ?_ ?_
    | refine LeO.bind ?_ (fun _ => ?_)
theorem slices_swapRangeCmpFunc_haircut_Item.mono : ∀ a0 a1 a2 a3 k, LeO (slices_swapRangeCmpFunc_haircut_Item.f k a0 a1 a2 a3) (slices_swapRangeCmpFunc_haircut_Item.f (k + 1) a0 a1 a2 a3) := by
 intro a0 a1 a2 a3 k
 have ih0 := slices_swapRangeCmpFunc_haircut_Item.mono_l k
 unfold slices_swapRangeCmpFunc_haircut_Item.f
 repeat' first
  | (with_reducible exact ih0 _ _ _ _ _)
  | (with_reducible exact LeO.refl _)
  | (with_reducible exact LeO.none _)
  | (with_reducible refine LeO.ite ?_ ?_)
  | (with_reducible refine LeO.bind ?_ (fun _ => ?_))
  | exact ih0 _ _ _ _ _
  | exact LeO.none _
  | refine LeO.ite ?_ ?_
  | refine LeO.bind ?_ (fun _ => ?_)
def slices_swapRangeCmpFunc_haircut_Item.T3 : Bool × List (List Nat × List Nat) := (true, [([], []), ([], []), ([], []), ([1, 2], [1, 2]), ([], []), ([], []), ([], []), ([5, 6], [5, 6]), ([], []), ([], []), ([], []), ([9, 10], [9, 10]), ([8, 11], [8, 11]), ([12], [12]), ([], []), ([], []), ([], []), ([15, 16], [15, 16]), ([14, 17], [14, 17]), ([18], [18]), ([0, 3, 0, 1, 2, 3, 8, 9, 10, 11, 12, 13, 19], [0, 3]), ([20, 13, 0, 1, 2, 3, 8, 9, 10, 11, 12, 13, 19], [13, 20]), ([4, 7, 0, 1, 2, 3, 4, 5, 6, 7, 8, 9, 10, 11, 12, 13, 14, 15, 16, 17, 18, 19, 20, 21], [4, 7]), ([22, 19, 21, 0, 1, 2, 3, 4, 5, 6, 7, 8, 9, 10, 11, 12, 13, 14, 15, 16, 17, 18, 19, 20, 21], [19, 22])])
def slices_swapRangeCmpFunc_haircut_Item.B3 : List Nat := [0, 0, 0, 6, 0, 0, 0, 96, 0, 0, 0, 1536, 3840, 7936, 0, 0, 0, 98304, 245760, 507904, 1048335, 2096911, 4194303, 8388607]
theorem slices_swapRangeCmpFunc_haircut_Item.tab3 : rtab .any (opsOf Try.f56 3) = slices_swapRangeCmpFunc_haircut_Item.T3 := by kernel_rfl
theorem slices_swapRangeCmpFunc_haircut_Item.bits3 : waitsOk slices_swapRangeCmpFunc_haircut_Item.T3.2 slices_swapRangeCmpFunc_haircut_Item.B3 = true := by kernel_rfl
set_option maxHeartbeats 8000000 in
set_option maxRecDepth 100000 in
theorem slices_swapRangeCmpFunc_haircut_Item.calls (k : Nat) (P0_ : Nat → Prop) (u9000_ : Value) (l0 : List (S47)) (a1 : Int) (a2 : Int) (a3 : Int)  (r : List (S47)) (w0 w : World) (hB : Below w0.heap.size w0 w) (ho0 : Kd.R k47 47 w w0.heap.size P0_ u9000_ l0) (h : slices_swapRangeCmpFunc_haircut_Item.f k l0 a1 a2 a3 = some r) :
 Calls Try.prog 56 #[u9000_, .int .i64 a1, .int .i64 a2, .int .i64 a3, .func (.func 39) #[] #[]] w fun e w' => e = .returned (.tuple #[]) ∧ Kd.R k47 47 w' w0.heap.size (fun k_ => (P0_ k_ ∨ w.heap.size ≤ k_)) u9000_ r ∧ Below w0.heap.size w0 w' ∧ Kept w w' (fun k_ => P0_ k_) := by
 have hu47 := Try.underlying47
 have HO0 := Aside0.mk (show Kd.R k47 47 w w0.heap.size (fun k_ => (P0_ k_ ∨ w.heap.size ≤ k_)) u9000_ l0 from Kd.R_mono ho0 (fun k_ hk => (.inl hk)))
 have HK := Aside0.mk (Kept.refl w (fun k_ => P0_ k_))
 have HW0 := Aside0.mk hB.size
 have HB := Aside0.mk hB; clear hB
 have H : (slices_swapRangeCmpFunc_haircut_Item.l0 k l0 a1 a2 a3 0) = some r := h
 clear h
 have H' := Aside0.mk H
 clear H
 go_enter Try.func56, Try.ntmps56
 go_wp2
 go_loopg [10] k (fun kq v10 w' => ∃ (x0_1 : List (S47)) (x10_1 : Int), v10 = .int .i64 x10_1 ∧ Aside0 (slices_swapRangeCmpFunc_haircut_Item.l0 kq x0_1 a1 a2 a3 x10_1 = some r) ∧ Aside0 (kq ≤ k) ∧ Aside0 (Kd.R k47 47 w' w0.heap.size (fun k_ => (P0_ k_ ∨ w.heap.size ≤ k_)) u9000_ x0_1) ∧ Aside0 (Kept w w' (fun k_ => P0_ k_)) ∧ Aside0 (Below w0.heap.size w0 w'))
 case atStart => exact ⟨(l0), (0), ac, H', ⟨Nat.le_refl _⟩, ⟨gR HO0⟩, ⟨gP HK⟩, ⟨gB HB⟩⟩
 case round =>
  clear H'; (try clear p2); (try clear c5)
  obtain ⟨x0_1, x10_1, rfl, HA, HK1, HO_0, HK, HB⟩ := hrel
  cases gk with
  | zero => exact absurd HA.out (by simp [slices_swapRangeCmpFunc_haircut_Item.l0])
  | succ k1 =>
   have H := HA.out
   clear HA
   simp only [slices_swapRangeCmpFunc_haircut_Item.l0] at H
   by_cases c6 : x10_1 < a3
   · rw [if_pos c6] at H
     have c6b0 : decide (x10_1 < a3) = true := decide_eq_true c6
     clear c6
     obtain ⟨ji7, hji7⟩ : ∃ j_ : Int, (wrap64 (a2 + x10_1)) = j_ := ⟨_, rfl⟩
     replace H : (if 0 ≤ (ji7) then (if (ji7) < (x0_1.length : Int) then (if 0 ≤ (wrap64 (a1 + x10_1)) then (if (wrap64 (a1 + x10_1)) < (x0_1.length : Int) then (slices_swapRangeCmpFunc_haircut_Item.l0 k1 ((x0_1.set ((wrap64 (a1 + x10_1)) : Int).toNat (⟨(⟨(rd_T47 x0_1 (ji7)).f0.f0, (rd_T47 x0_1 (ji7)).f0.f1⟩ : S43), (⟨(rd_T47 x0_1 (ji7)).f1.f0, (rd_T47 x0_1 (ji7)).f1.f1, (rd_T47 x0_1 (ji7)).f1.f2, (rd_T47 x0_1 (ji7)).f1.f3, (rd_T47 x0_1 (ji7)).f1.f4⟩ : S45), (rd_T47 x0_1 (ji7)).f2, (rd_T47 x0_1 (ji7)).f3⟩ : S47)).set ((ji7) : Int).toNat (⟨(⟨(rd_T47 x0_1 (wrap64 (a1 + x10_1))).f0.f0, (rd_T47 x0_1 (wrap64 (a1 + x10_1))).f0.f1⟩ : S43), (⟨(rd_T47 x0_1 (wrap64 (a1 + x10_1))).f1.f0, (rd_T47 x0_1 (wrap64 (a1 + x10_1))).f1.f1, (rd_T47 x0_1 (wrap64 (a1 + x10_1))).f1.f2, (rd_T47 x0_1 (wrap64 (a1 + x10_1))).f1.f3, (rd_T47 x0_1 (wrap64 (a1 + x10_1))).f1.f4⟩ : S45), (rd_T47 x0_1 (wrap64 (a1 + x10_1))).f2, (rd_T47 x0_1 (wrap64 (a1 + x10_1))).f3⟩ : S47)) a1 a2 a3 (wrap64 (x10_1 + 1))) else (none)) else (none)) else (none)) else (none)) = some r := by first | (rw [hji7] at H; exact H) | (simp only [hji7] at H ⊢; exact H)
     have hji7w : (IntKind.i64.wrap (a2 + x10_1)) = ji7 := (i64_w _).trans hji7
     by_cases c8 : 0 ≤ (ji7)
     · rw [if_pos c8] at H
       have c8b0 : decide (0 ≤ (ji7)) = true := decide_eq_true c8
       clear c8
       by_cases c9 : (ji7) < (x0_1.length : Int)
       · rw [if_pos c9] at H
         have c9b0 : decide ((ji7) < (x0_1.length : Int)) = true := decide_eq_true c9
         clear c9
         obtain ⟨ji10, hji10⟩ : ∃ j_ : Int, (wrap64 (a1 + x10_1)) = j_ := ⟨_, rfl⟩
         replace H : (if 0 ≤ (ji10) then (if (ji10) < (x0_1.length : Int) then (slices_swapRangeCmpFunc_haircut_Item.l0 k1 ((x0_1.set ((ji10) : Int).toNat (⟨(⟨(rd_T47 x0_1 (ji7)).f0.f0, (rd_T47 x0_1 (ji7)).f0.f1⟩ : S43), (⟨(rd_T47 x0_1 (ji7)).f1.f0, (rd_T47 x0_1 (ji7)).f1.f1, (rd_T47 x0_1 (ji7)).f1.f2, (rd_T47 x0_1 (ji7)).f1.f3, (rd_T47 x0_1 (ji7)).f1.f4⟩ : S45), (rd_T47 x0_1 (ji7)).f2, (rd_T47 x0_1 (ji7)).f3⟩ : S47)).set ((ji7) : Int).toNat (⟨(⟨(rd_T47 x0_1 (ji10)).f0.f0, (rd_T47 x0_1 (ji10)).f0.f1⟩ : S43), (⟨(rd_T47 x0_1 (ji10)).f1.f0, (rd_T47 x0_1 (ji10)).f1.f1, (rd_T47 x0_1 (ji10)).f1.f2, (rd_T47 x0_1 (ji10)).f1.f3, (rd_T47 x0_1 (ji10)).f1.f4⟩ : S45), (rd_T47 x0_1 (ji10)).f2, (rd_T47 x0_1 (ji10)).f3⟩ : S47)) a1 a2 a3 (wrap64 (x10_1 + 1))) else (none)) else (none)) = some r := by first | (rw [hji10] at H; exact H) | (simp only [hji10] at H ⊢; exact H)
         have hji10w : (IntKind.i64.wrap (a1 + x10_1)) = ji10 := (i64_w _).trans hji10
         by_cases c11 : 0 ≤ (ji10)
         · rw [if_pos c11] at H
           have c11b0 : decide (0 ≤ (ji10)) = true := decide_eq_true c11
           clear c11
           by_cases c12 : (ji10) < (x0_1.length : Int)
           · rw [if_pos c12] at H
             have c12b0 : decide ((ji10) < (x0_1.length : Int)) = true := decide_eq_true c12
             clear c12
             obtain ⟨y393, hy393⟩ : ∃ y_ : List (S47), y_ = (x0_1.set ((ji10) : Int).toNat (⟨(⟨(rd_T47 x0_1 (ji7)).f0.f0, (rd_T47 x0_1 (ji7)).f0.f1⟩ : S43), (⟨(rd_T47 x0_1 (ji7)).f1.f0, (rd_T47 x0_1 (ji7)).f1.f1, (rd_T47 x0_1 (ji7)).f1.f2, (rd_T47 x0_1 (ji7)).f1.f3, (rd_T47 x0_1 (ji7)).f1.f4⟩ : S45), (rd_T47 x0_1 (ji7)).f2, (rd_T47 x0_1 (ji7)).f3⟩ : S47)) := ⟨_, rfl⟩
             replace H : (slices_swapRangeCmpFunc_haircut_Item.l0 k1 (y393.set ((ji7) : Int).toNat (⟨(⟨(rd_T47 x0_1 (ji10)).f0.f0, (rd_T47 x0_1 (ji10)).f0.f1⟩ : S43), (⟨(rd_T47 x0_1 (ji10)).f1.f0, (rd_T47 x0_1 (ji10)).f1.f1, (rd_T47 x0_1 (ji10)).f1.f2, (rd_T47 x0_1 (ji10)).f1.f3, (rd_T47 x0_1 (ji10)).f1.f4⟩ : S45), (rd_T47 x0_1 (ji10)).f2, (rd_T47 x0_1 (ji10)).f3⟩ : S47)) a1 a2 a3 (wrap64 (x10_1 + 1))) = some r := by first | (rw [hy393]; with_reducible exact H) | (have H2_ := (Option.bind_some _ _).symm.trans H; rw [hy393]; with_reducible exact H2_) | (have H2_ := (Option.bind_some _ _).symm.trans H; with_reducible exact H2_) | with_reducible exact H | (rw [hy393]; exact H) | exact H
             have Ny393 := Aside0.mk hy393; clear hy393
             obtain ⟨y394, hy394⟩ : ∃ y_ : List (S47), y_ = (y393.set ((ji7) : Int).toNat (⟨(⟨(rd_T47 x0_1 (ji10)).f0.f0, (rd_T47 x0_1 (ji10)).f0.f1⟩ : S43), (⟨(rd_T47 x0_1 (ji10)).f1.f0, (rd_T47 x0_1 (ji10)).f1.f1, (rd_T47 x0_1 (ji10)).f1.f2, (rd_T47 x0_1 (ji10)).f1.f3, (rd_T47 x0_1 (ji10)).f1.f4⟩ : S45), (rd_T47 x0_1 (ji10)).f2, (rd_T47 x0_1 (ji10)).f3⟩ : S47)) := ⟨_, rfl⟩
             replace H : (slices_swapRangeCmpFunc_haircut_Item.l0 k1 y394 a1 a2 a3 (wrap64 (x10_1 + 1))) = some r := by first | (rw [hy394]; with_reducible exact H) | (have H2_ := (Option.bind_some _ _).symm.trans H; rw [hy394]; with_reducible exact H2_) | (have H2_ := (Option.bind_some _ _).symm.trans H; with_reducible exact H2_) | with_reducible exact H | (rw [hy394]; exact H) | exact H
             have Ny394 := Aside0.mk hy394; clear hy394
             have H' := Aside0.mk H
             clear H
             try go_wp2
             have n0_ := Aside0.mk (Kd.R_drew HO_0.out)
             have n1_ := Aside0.mk (Kept.drew HK.out)
             have n2_ := Aside0.mk (below_drew1 HB.out)
             clear HO_0; clear HK; clear HB
             have HO_0 := n0_
             have HK := n1_
             have HB := n2_
             clear n0_ n1_ n2_
             obtain ⟨Ao16, co16, eo16⟩ := Kd.R_slice HO_0.out
             (first | subst eo16 | (injection eo16 with f1_ f2_ f3_; have f4_ := f1_.symm; have f5_ := f3_.symm; clear f1_ f2_ f3_; subst f4_; subst f5_))
             have p391 : 0 ≤ ((ji7) : Int) := od
             have q391 : (ji7) < (x0_1.length : Int) := od
             obtain ⟨ad391, e391, hx391_0, hx391_1, hx391_2, hx391_3, hx391_4, hx391_5, hx391_6, hx391_7, hx391_8⟩ := at_T47 (Kd.R_reads' HO_0.out).2.2 (ji7) p391 q391
             cases e391; replace p391 := eq_true p391; replace q391 := eq_true q391
             have p392 : 0 ≤ ((ji10) : Int) := od
             have q392 : (ji10) < (x0_1.length : Int) := od
             obtain ⟨ad392, e392, hx392_0, hx392_1, hx392_2, hx392_3, hx392_4, hx392_5, hx392_6, hx392_7, hx392_8⟩ := at_T47 (Kd.R_reads' HO_0.out).2.2 (ji10) p392 q392
             obtain rfl : ad391 = ad392 := (by injection e392)
             replace p392 := eq_true p392; replace q392 := eq_true q392
             have p13 : 0 ≤ ((ji10) : Int) := od
             have q13 : ((ji10) : Int) < ((x0_1.length : Int) : Int) := od
             obtain ⟨go13, co13, eo13, gb13, gl13, cl13, HG13⟩ := Kd.R_form HO_0.out (by omega)
             (first | cases eo13 | (injection eo13 with ea_ en_ ec_; (first | subst ea_ | (injection ea_ with ea_; subst ea_)); subst ec_; clear en_))
             have GB13 := Aside0.mk gb13; have GG13 := Aside0.mk HG13; clear gb13 gl13 HG13
             have HMgo13 := Aside0.mk (show (P0_ go13 ∨ w.heap.size ≤ go13) from (HO_0.out.1 _ rfl))
             (first | simp only [add_plain] at hx391_0 | skip)
             (first | simp only [add_plain] at hx391_1 | skip)
             (first | simp only [add_plain] at hx391_2 | skip)
             (first | simp only [add_plain] at hx391_3 | skip)
             (first | simp only [add_plain] at hx391_4 | skip)
             (first | simp only [add_plain] at hx391_5 | skip)
             (first | simp only [add_plain] at hx391_6 | skip)
             (first | simp only [add_plain] at hx391_7 | skip)
             (first | simp only [add_plain] at hx391_8 | skip)
             (first | simp only [add_plain] at hx392_0 | skip)
             (first | simp only [add_plain] at hx392_1 | skip)
             (first | simp only [add_plain] at hx392_2 | skip)
             (first | simp only [add_plain] at hx392_3 | skip)
             (first | simp only [add_plain] at hx392_4 | skip)
             (first | simp only [add_plain] at hx392_5 | skip)
             (first | simp only [add_plain] at hx392_6 | skip)
             (first | simp only [add_plain] at hx392_7 | skip)
             (first | simp only [add_plain] at hx392_8 | skip)
             obtain ⟨ce13, hcl13, hM13, hcc13, hfr13⟩ := Kd.R_elem HO_0.out z47 ((ji10) : Int) p13 q13
             obtain rfl := k47_openM hM13
             have hx13_0 : World.cell? _ ⟨go13, ((ji10) : Int).toNat * 9, none⟩ = some (.string ((rd_T47 x0_1 (ji10)).f0.f0)) := hcc13 0 _ rfl
             have hx13_1 : World.cell? _ ⟨go13, ((ji10) : Int).toNat * 9 + 1, none⟩ = some (.int .i64 ((rd_T47 x0_1 (ji10)).f0.f1)) := hcc13 1 _ rfl
             have hx13_2 : World.cell? _ ⟨go13, ((ji10) : Int).toNat * 9 + 2, none⟩ = some (.string ((rd_T47 x0_1 (ji10)).f1.f0)) := hcc13 2 _ rfl
             have hx13_3 : World.cell? _ ⟨go13, ((ji10) : Int).toNat * 9 + 3, none⟩ = some (.int .i64 ((rd_T47 x0_1 (ji10)).f1.f1)) := hcc13 3 _ rfl
             have hx13_4 : World.cell? _ ⟨go13, ((ji10) : Int).toNat * 9 + 4, none⟩ = some (.int .i64 ((rd_T47 x0_1 (ji10)).f1.f2)) := hcc13 4 _ rfl
             have hx13_5 : World.cell? _ ⟨go13, ((ji10) : Int).toNat * 9 + 5, none⟩ = some (.int .i64 ((rd_T47 x0_1 (ji10)).f1.f3)) := hcc13 5 _ rfl
             have hx13_6 : World.cell? _ ⟨go13, ((ji10) : Int).toNat * 9 + 6, none⟩ = some (.string ((rd_T47 x0_1 (ji10)).f1.f4)) := hcc13 6 _ rfl
             have hx13_7 : World.cell? _ ⟨go13, ((ji10) : Int).toNat * 9 + 7, none⟩ = some (.int .i64 ((rd_T47 x0_1 (ji10)).f2)) := hcc13 7 _ rfl
             have hx13_8 : World.cell? _ ⟨go13, ((ji10) : Int).toNat * 9 + 8, none⟩ = some (.int .i64 ((rd_T47 x0_1 (ji10)).f3)) := hcc13 8 _ rfl
             have hf13_0 : World.frozen? _ ⟨go13, ((ji10) : Int).toNat * 9, none⟩ = false := hfr13 0
             have hf13_1 : World.frozen? _ ⟨go13, ((ji10) : Int).toNat * 9 + 1, none⟩ = false := hfr13 1
             have hf13_2 : World.frozen? _ ⟨go13, ((ji10) : Int).toNat * 9 + 2, none⟩ = false := hfr13 2
             have hf13_3 : World.frozen? _ ⟨go13, ((ji10) : Int).toNat * 9 + 3, none⟩ = false := hfr13 3
             have hf13_4 : World.frozen? _ ⟨go13, ((ji10) : Int).toNat * 9 + 4, none⟩ = false := hfr13 4
             have hf13_5 : World.frozen? _ ⟨go13, ((ji10) : Int).toNat * 9 + 5, none⟩ = false := hfr13 5
             have hf13_6 : World.frozen? _ ⟨go13, ((ji10) : Int).toNat * 9 + 6, none⟩ = false := hfr13 6
             have hf13_7 : World.frozen? _ ⟨go13, ((ji10) : Int).toNat * 9 + 7, none⟩ = false := hfr13 7
             have hf13_8 : World.frozen? _ ⟨go13, ((ji10) : Int).toNat * 9 + 8, none⟩ = false := hfr13 8
             clear hcl13 hcc13 hfr13 hM13; replace p13 := eq_true p13; replace q13 := eq_true q13
             obtain ⟨ce17, hcl17, hM17, hcc17, hfr17⟩ := Kd.R_elem HO_0.out z47 ((ji10) : Int) (od) (by have h_ : ((ji10) : Int) < ((x0_1.length : Int) : Int) := od; first | exact h_ | (have e_ := (Kd.R_reads' HO_0.out).1; omega) | simpa using h_)
             obtain rfl := k47_openM hM17
             have HP17 := (Kd.R_seg HO_0.out ((ji10) : Int) (od) (by have h_ : ((ji10) : Int) < ((x0_1.length : Int) : Int) := od; first | exact h_ | (have e_ := (Kd.R_reads' HO_0.out).1; omega) | simpa using h_) (seg := [.string ((rd_T47 x0_1 (ji7)).f0.f0), .int .i64 ((rd_T47 x0_1 (ji7)).f0.f1), .string ((rd_T47 x0_1 (ji7)).f1.f0), .int .i64 ((rd_T47 x0_1 (ji7)).f1.f1), .int .i64 ((rd_T47 x0_1 (ji7)).f1.f2), .int .i64 ((rd_T47 x0_1 (ji7)).f1.f3), .string ((rd_T47 x0_1 (ji7)).f1.f4), .int .i64 ((rd_T47 x0_1 (ji7)).f2), .int .i64 ((rd_T47 x0_1 (ji7)).f3)]) (j := 0) hcl17 hcc17 (show 9 ≤ 9 from by decide) (x' := (⟨(⟨(rd_T47 x0_1 (ji7)).f0.f0, (rd_T47 x0_1 (ji7)).f0.f1⟩ : S43), (⟨(rd_T47 x0_1 (ji7)).f1.f0, (rd_T47 x0_1 (ji7)).f1.f1, (rd_T47 x0_1 (ji7)).f1.f2, (rd_T47 x0_1 (ji7)).f1.f3, (rd_T47 x0_1 (ji7)).f1.f4⟩ : S45), (rd_T47 x0_1 (ji7)).f2, (rd_T47 x0_1 (ji7)).f3⟩ : S47)) (k47_mkM _ _ _ (⟨(⟨(rd_T47 x0_1 (ji7)).f0.f0, (rd_T47 x0_1 (ji7)).f0.f1⟩ : S43), (⟨(rd_T47 x0_1 (ji7)).f1.f0, (rd_T47 x0_1 (ji7)).f1.f1, (rd_T47 x0_1 (ji7)).f1.f2, (rd_T47 x0_1 (ji7)).f1.f3, (rd_T47 x0_1 (ji7)).f1.f4⟩ : S45), (rd_T47 x0_1 (ji7)).f2, (rd_T47 x0_1 (ji7)).f3⟩ : S47) ) (fun _ hk => hk)).1
             rw [← Ny393.out] at HP17
             have HQ17 := Aside0.mk HP17; clear hcl17 hcc17 hfr17 hM17 HP17
             have p14 : 0 ≤ ((ji7) : Int) := od
             have q14 : ((ji7) : Int) < ((x0_1.length : Int) : Int) := od
             obtain ⟨ce14, hcl14, hM14, hcc14, hfr14⟩ := Kd.R_elem HQ17.out z47 ((ji7) : Int) p14 q14
             obtain rfl := k47_openM hM14
             have hx14_0 : World.cell? _ ⟨go13, ((ji7) : Int).toNat * 9, none⟩ = some (.string ((rd_T47 y393 (ji7)).f0.f0)) := hcc14 0 _ rfl
             have hx14_1 : World.cell? _ ⟨go13, ((ji7) : Int).toNat * 9 + 1, none⟩ = some (.int .i64 ((rd_T47 y393 (ji7)).f0.f1)) := hcc14 1 _ rfl
             have hx14_2 : World.cell? _ ⟨go13, ((ji7) : Int).toNat * 9 + 2, none⟩ = some (.string ((rd_T47 y393 (ji7)).f1.f0)) := hcc14 2 _ rfl
             have hx14_3 : World.cell? _ ⟨go13, ((ji7) : Int).toNat * 9 + 3, none⟩ = some (.int .i64 ((rd_T47 y393 (ji7)).f1.f1)) := hcc14 3 _ rfl
             have hx14_4 : World.cell? _ ⟨go13, ((ji7) : Int).toNat * 9 + 4, none⟩ = some (.int .i64 ((rd_T47 y393 (ji7)).f1.f2)) := hcc14 4 _ rfl
             have hx14_5 : World.cell? _ ⟨go13, ((ji7) : Int).toNat * 9 + 5, none⟩ = some (.int .i64 ((rd_T47 y393 (ji7)).f1.f3)) := hcc14 5 _ rfl
             have hx14_6 : World.cell? _ ⟨go13, ((ji7) : Int).toNat * 9 + 6, none⟩ = some (.string ((rd_T47 y393 (ji7)).f1.f4)) := hcc14 6 _ rfl
             have hx14_7 : World.cell? _ ⟨go13, ((ji7) : Int).toNat * 9 + 7, none⟩ = some (.int .i64 ((rd_T47 y393 (ji7)).f2)) := hcc14 7 _ rfl
             have hx14_8 : World.cell? _ ⟨go13, ((ji7) : Int).toNat * 9 + 8, none⟩ = some (.int .i64 ((rd_T47 y393 (ji7)).f3)) := hcc14 8 _ rfl
             have hf14_0 : World.frozen? _ ⟨go13, ((ji7) : Int).toNat * 9, none⟩ = false := hfr14 0
             have hf14_1 : World.frozen? _ ⟨go13, ((ji7) : Int).toNat * 9 + 1, none⟩ = false := hfr14 1
             have hf14_2 : World.frozen? _ ⟨go13, ((ji7) : Int).toNat * 9 + 2, none⟩ = false := hfr14 2
             have hf14_3 : World.frozen? _ ⟨go13, ((ji7) : Int).toNat * 9 + 3, none⟩ = false := hfr14 3
             have hf14_4 : World.frozen? _ ⟨go13, ((ji7) : Int).toNat * 9 + 4, none⟩ = false := hfr14 4
             have hf14_5 : World.frozen? _ ⟨go13, ((ji7) : Int).toNat * 9 + 5, none⟩ = false := hfr14 5
             have hf14_6 : World.frozen? _ ⟨go13, ((ji7) : Int).toNat * 9 + 6, none⟩ = false := hfr14 6
             have hf14_7 : World.frozen? _ ⟨go13, ((ji7) : Int).toNat * 9 + 7, none⟩ = false := hfr14 7
             have hf14_8 : World.frozen? _ ⟨go13, ((ji7) : Int).toNat * 9 + 8, none⟩ = false := hfr14 8
             clear hcl14 hcc14 hfr14 hM14; replace p14 := eq_true p14; replace q14 := eq_true q14
             obtain ⟨ce18, hcl18, hM18, hcc18, hfr18⟩ := Kd.R_elem HQ17.out z47 ((ji7) : Int) (od) (by have h_ : ((ji7) : Int) < ((x0_1.length : Int) : Int) := od; first | exact h_ | (have e_ := (Kd.R_reads' HO_0.out).1; omega) | simpa using h_)
             obtain rfl := k47_openM hM18
             have HP18 := (Kd.R_seg HQ17.out ((ji7) : Int) (od) (by have h_ : ((ji7) : Int) < ((x0_1.length : Int) : Int) := od; first | exact h_ | (have e_ := (Kd.R_reads' HO_0.out).1; omega) | simpa using h_) (seg := [.string ((rd_T47 x0_1 (ji10)).f0.f0), .int .i64 ((rd_T47 x0_1 (ji10)).f0.f1), .string ((rd_T47 x0_1 (ji10)).f1.f0), .int .i64 ((rd_T47 x0_1 (ji10)).f1.f1), .int .i64 ((rd_T47 x0_1 (ji10)).f1.f2), .int .i64 ((rd_T47 x0_1 (ji10)).f1.f3), .string ((rd_T47 x0_1 (ji10)).f1.f4), .int .i64 ((rd_T47 x0_1 (ji10)).f2), .int .i64 ((rd_T47 x0_1 (ji10)).f3)]) (j := 0) hcl18 hcc18 (show 9 ≤ 9 from by decide) (x' := (⟨(⟨(rd_T47 x0_1 (ji10)).f0.f0, (rd_T47 x0_1 (ji10)).f0.f1⟩ : S43), (⟨(rd_T47 x0_1 (ji10)).f1.f0, (rd_T47 x0_1 (ji10)).f1.f1, (rd_T47 x0_1 (ji10)).f1.f2, (rd_T47 x0_1 (ji10)).f1.f3, (rd_T47 x0_1 (ji10)).f1.f4⟩ : S45), (rd_T47 x0_1 (ji10)).f2, (rd_T47 x0_1 (ji10)).f3⟩ : S47)) (k47_mkM _ _ _ (⟨(⟨(rd_T47 x0_1 (ji10)).f0.f0, (rd_T47 x0_1 (ji10)).f0.f1⟩ : S43), (⟨(rd_T47 x0_1 (ji10)).f1.f0, (rd_T47 x0_1 (ji10)).f1.f1, (rd_T47 x0_1 (ji10)).f1.f2, (rd_T47 x0_1 (ji10)).f1.f3, (rd_T47 x0_1 (ji10)).f1.f4⟩ : S45), (rd_T47 x0_1 (ji10)).f2, (rd_T47 x0_1 (ji10)).f3⟩ : S47) ) (fun _ hk => hk)).1
             rw [← Ny394.out] at HP18
             have HQ18 := Aside0.mk HP18; clear hcl18 hcc18 hfr18 hM18 HP18
             refine start_ (n := 24) (S := fun w' => w'.cell? ⟨go13, ((ji7)).toNat * 9, none⟩ = some (.string ((rd_T47 x0_1 (ji7)).f0.f0)) ∧ w'.cell? ⟨go13, ((ji7)).toNat * 9 + 1, none⟩ = some (.int .i64 ((rd_T47 x0_1 (ji7)).f0.f1)) ∧ w'.cell? ⟨go13, ((ji7)).toNat * 9 + 2, none⟩ = some (.string ((rd_T47 x0_1 (ji7)).f1.f0)) ∧ w'.cell? ⟨go13, ((ji7)).toNat * 9 + 3, none⟩ = some (.int .i64 ((rd_T47 x0_1 (ji7)).f1.f1)) ∧ w'.cell? ⟨go13, ((ji7)).toNat * 9 + 4, none⟩ = some (.int .i64 ((rd_T47 x0_1 (ji7)).f1.f2)) ∧ w'.cell? ⟨go13, ((ji7)).toNat * 9 + 5, none⟩ = some (.int .i64 ((rd_T47 x0_1 (ji7)).f1.f3)) ∧ w'.cell? ⟨go13, ((ji7)).toNat * 9 + 6, none⟩ = some (.string ((rd_T47 x0_1 (ji7)).f1.f4)) ∧ w'.cell? ⟨go13, ((ji7)).toNat * 9 + 7, none⟩ = some (.int .i64 ((rd_T47 x0_1 (ji7)).f2)) ∧ w'.cell? ⟨go13, ((ji7)).toNat * 9 + 8, none⟩ = some (.int .i64 ((rd_T47 x0_1 (ji7)).f3)) ∧ w'.cell? ⟨go13, ((ji10)).toNat * 9, none⟩ = some (.string ((rd_T47 x0_1 (ji10)).f0.f0)) ∧ w'.cell? ⟨go13, ((ji10)).toNat * 9 + 1, none⟩ = some (.int .i64 ((rd_T47 x0_1 (ji10)).f0.f1)) ∧ w'.cell? ⟨go13, ((ji10)).toNat * 9 + 2, none⟩ = some (.string ((rd_T47 x0_1 (ji10)).f1.f0)) ∧ w'.cell? ⟨go13, ((ji10)).toNat * 9 + 3, none⟩ = some (.int .i64 ((rd_T47 x0_1 (ji10)).f1.f1)) ∧ w'.cell? ⟨go13, ((ji10)).toNat * 9 + 4, none⟩ = some (.int .i64 ((rd_T47 x0_1 (ji10)).f1.f2)) ∧ w'.cell? ⟨go13, ((ji10)).toNat * 9 + 5, none⟩ = some (.int .i64 ((rd_T47 x0_1 (ji10)).f1.f3)) ∧ w'.cell? ⟨go13, ((ji10)).toNat * 9 + 6, none⟩ = some (.string ((rd_T47 x0_1 (ji10)).f1.f4)) ∧ w'.cell? ⟨go13, ((ji10)).toNat * 9 + 7, none⟩ = some (.int .i64 ((rd_T47 x0_1 (ji10)).f2)) ∧ w'.cell? ⟨go13, ((ji10)).toNat * 9 + 8, none⟩ = some (.int .i64 ((rd_T47 x0_1 (ji10)).f3))) (ds := [21, 23]) (pf 24 0) (by kernel_rfl) rfl rfl ⟨hx391_0, hx391_1, hx391_2, hx391_3, hx391_4, hx391_5, hx391_6, hx391_7, hx391_8, hx392_0, hx392_1, hx392_2, hx392_3, hx392_4, hx392_5, hx392_6, hx392_7, hx392_8⟩ (fun hHeld => ?_); refine with_tabW slices_swapRangeCmpFunc_haircut_Item.tab3 slices_swapRangeCmpFunc_haircut_Item.bits3 (fun HT_ HW_ => ?_)
             generalize wr.drew = w15 at HO_0 HK HB GG13 HQ17 HQ18 hf13_0 hf13_1 hf13_2 hf13_3 hf13_4 hf13_5 hf13_6 hf13_7 hf13_8 hf14_0 hf14_1 hf14_2 hf14_3 hf14_4 hf14_5 hf14_6 hf14_7 hf14_8 hx13_0 hx13_1 hx13_2 hx13_3 hx13_4 hx13_5 hx13_6 hx13_7 hx13_8 hx14_0 hx14_1 hx14_2 hx14_3 hx14_4 hx14_5 hx14_6 hx14_7 hx14_8 hx391_0 hx391_1 hx391_2 hx391_3 hx391_4 hx391_5 hx391_6 hx391_7 hx391_8 hx392_0 hx392_1 hx392_2 hx392_3 hx392_4 hx392_5 hx392_6 hx392_7 hx392_8 hHeld ⊢
             refine pA (i := 0) (N := some 16) HT_ (pf 24 1) ?_
             refine pA (i := 1) (N := some 17) HT_ (pf 24 2) ?_
             refine pA (i := 2) (N := some 18) HT_ (pf 24 3) ?_
             refine pA (i := 3) (N := some 19) HT_ (pf 24 4) ?_
             refine pA (i := 4) (N := some 20) HT_ (pf 24 5) ?_
             refine pA (i := 5) (N := some 21) HT_ (pf 24 6) ?_
             refine pA (i := 6) (N := some 22) HT_ (pf 24 7) ?_
             refine pA (i := 7) (N := some 23) HT_ (pf 24 8) ?_
             refine pA (i := 8) (N := some 24) HT_ (pf 24 9) ?_
             refine pA (i := 9) (N := some 25) HT_ (pf 24 10) ?_
             refine pA (i := 10) (N := some 26) HT_ (pf 24 11) ?_
             refine pA (i := 11) (N := some 27) HT_ (pf 24 12) ?_
             refine pA (i := 12) (N := some 28) HT_ (pf 24 13) ?_
             refine pA (i := 14) (N := some 30) HT_ #[true, true, true, true, true, true, true, true, true, true, true, true, true, false, true, false, false, false, false, false, false, false, false, false] ?_
             refine pA (i := 15) (N := some 31) HT_ #[true, true, true, true, true, true, true, true, true, true, true, true, true, false, true, true, false, false, false, false, false, false, false, false] ?_
             refine pA (i := 16) (N := some 32) HT_ #[true, true, true, true, true, true, true, true, true, true, true, true, true, false, true, true, true, false, false, false, false, false, false, false] ?_
             refine pA (i := 17) (N := some 33) HT_ #[true, true, true, true, true, true, true, true, true, true, true, true, true, false, true, true, true, true, false, false, false, false, false, false] ?_
             refine pA (i := 18) (N := some 34) HT_ #[true, true, true, true, true, true, true, true, true, true, true, true, true, false, true, true, true, true, true, false, false, false, false, false] ?_
             refine take_ (i := 13) (N := some 29) (v := ?_) (a' := ?_) (pf 24 19) rfl rfl (take_ofW HT_.out HW_.out (by kernel_rfl)) (fun _ _ _ h => h) (Or.inl ⟨by rfl, ?_⟩) hHeld ?_ ?_
             rotate_left
             · rintro w' ⟨s0, s1, s2, s3, s4, s5, s6, s7, s8, s9, s10, s11, s12, s13, s14, s15, s16, s17⟩
               go_simp
               with_reducible rfl
             rotate_left
             · simp only [Act.put, sA, sB, sC, i64_w, i32_w]
               rfl
             refine take_ (i := 19) (N := some 35) (v := ?_) (a' := ?_) (pf 24 20) rfl rfl (take_ofW HT_.out HW_.out (by kernel_rfl)) (fun _ _ _ h => h) (Or.inl ⟨by rfl, ?_⟩) hHeld ?_ ?_
             rotate_left
             · rintro w' ⟨s0, s1, s2, s3, s4, s5, s6, s7, s8, s9, s10, s11, s12, s13, s14, s15, s16, s17⟩
               go_simp
               with_reducible rfl
             rotate_left
             · simp only [Act.put, sA, sB, sC, i64_w, i32_w]
               rfl
             refine pA (i := 20) (N := some 36) HT_ (pf 24 21) ?_
             refine last_ (i := 21) (N := none) (pf 24 22) rfl rfl (one_of HT_.out (by kernel_rfl)) (by decide) (fun K hK => ?_)
             refine skip_ (by rfl) rfl (st_skip HO_0 z47 ((ji10) : Int) (od) (by have h_ : ((ji10) : Int) < ((x0_1.length : Int) : Int) := od; first | exact h_ | (have e_ := (Kd.R_reads' HO_0.out).1; omega) | simpa using h_) [.string ((rd_T47 x0_1 (ji7)).f0.f0), .int .i64 ((rd_T47 x0_1 (ji7)).f0.f1), .string ((rd_T47 x0_1 (ji7)).f1.f0), .int .i64 ((rd_T47 x0_1 (ji7)).f1.f1), .int .i64 ((rd_T47 x0_1 (ji7)).f1.f2), .int .i64 ((rd_T47 x0_1 (ji7)).f1.f3), .string ((rd_T47 x0_1 (ji7)).f1.f4), .int .i64 ((rd_T47 x0_1 (ji7)).f2), .int .i64 ((rd_T47 x0_1 (ji7)).f3)] rfl (by rfl) rfl (by go_simp) rfl (by kernel_rfl) (by simp [Value.oneCell'])) ?_
             refine hK.out _ _ ?_
             clear hK K
             generalize hz_ : World.setCells w15 go13 (Int.toNat ((ji10) : Int) * k47.sz + 0) [.string ((rd_T47 x0_1 (ji7)).f0.f0), .int .i64 ((rd_T47 x0_1 (ji7)).f0.f1), .string ((rd_T47 x0_1 (ji7)).f1.f0), .int .i64 ((rd_T47 x0_1 (ji7)).f1.f1), .int .i64 ((rd_T47 x0_1 (ji7)).f1.f2), .int .i64 ((rd_T47 x0_1 (ji7)).f1.f3), .string ((rd_T47 x0_1 (ji7)).f1.f4), .int .i64 ((rd_T47 x0_1 (ji7)).f2), .int .i64 ((rd_T47 x0_1 (ji7)).f3)] = wz_ at HQ17 HQ18 ⊢
             refine pA (i := 22) (N := some 37) HT_ (pf 24 23) ?_
             refine last_ (i := 23) (N := none) (pf 24 24) rfl rfl (one_of HT_.out (by kernel_rfl)) (by decide) (fun K hK => ?_)
             refine skip_ (by rfl) rfl (st_skip HQ17 z47 ((ji7) : Int) (od) (by have h_ : ((ji7) : Int) < ((x0_1.length : Int) : Int) := od; first | exact h_ | (have e_ := (Kd.R_reads' HO_0.out).1; omega) | simpa using h_) [.string ((rd_T47 x0_1 (ji10)).f0.f0), .int .i64 ((rd_T47 x0_1 (ji10)).f0.f1), .string ((rd_T47 x0_1 (ji10)).f1.f0), .int .i64 ((rd_T47 x0_1 (ji10)).f1.f1), .int .i64 ((rd_T47 x0_1 (ji10)).f1.f2), .int .i64 ((rd_T47 x0_1 (ji10)).f1.f3), .string ((rd_T47 x0_1 (ji10)).f1.f4), .int .i64 ((rd_T47 x0_1 (ji10)).f2), .int .i64 ((rd_T47 x0_1 (ji10)).f3)] rfl (by rfl) rfl (by go_simp) rfl (by kernel_rfl) (by simp [Value.oneCell'])) ?_
             refine hK.out _ _ ?_
             clear hK K; subst hz_
             refine done_ (done_of HT_.out (by kernel_rfl)) ?_
             try go_wp2
             go_roundg k1
             case measure => have := HK1.out; omega
             case rel => exact ⟨(y394), (wrap64 (x10_1 + 1)), ac, H', ⟨by have := HK1.out; omega⟩, ⟨gR HQ18⟩, ⟨gQ HK⟩, ⟨gS HB⟩⟩
           · rw [if_neg c12] at H
             exact absurd H (by simp)
         · rw [if_neg c11] at H
           exact absurd H (by simp)
       · rw [if_neg c9] at H
         exact absurd H (by simp)
     · rw [if_neg c8] at H
       exact absurd H (by simp)
   · rw [if_neg c6] at H
     have c6b0 : decide (x10_1 < a3) = false := decide_eq_false c6
     clear c6
     obtain rfl := Option.some.inj H
     go_wp2
     first | go_end0 | ((try simp only [Exit.inBlock, Exit.then]); refine bodyPost_ret (results_none rfl _ _ _) rfl ?_)
     exact ⟨by first | rfl | (simp [errW_none, errW_some] <;> rfl) | (simp [*, errW_none, errW_some] <;> rfl), gR HO_0, gB HB, gP HK⟩
def slices_rotateCmpFunc_haircut_Item.l0 : Nat → List (S47) → Int → Int → Int → Option ((List (S47)))
 | 0, _, _, _, _ => none
 | k + 1, x0, x2, x10, x11 => if x10 = x11 then ((slices_swapRangeCmpFunc_haircut_Item.f k x0 (wrap64 (x2 - x10)) x2 x10).bind fun t395 => (some t395)) else (if x10 > x11 then ((slices_swapRangeCmpFunc_haircut_Item.f k x0 (wrap64 (x2 - x10)) x2 x11).bind fun t396 => (slices_rotateCmpFunc_haircut_Item.l0 k t396 x2 (wrap64 (x10 - x11)) x11)) else ((slices_swapRangeCmpFunc_haircut_Item.f k x0 (wrap64 (x2 - x10)) (wrap64 ((wrap64 (x2 + x11)) - x10)) x10).bind fun t397 => (slices_rotateCmpFunc_haircut_Item.l0 k t397 x2 x10 (wrap64 (x11 - x10)))))
def slices_rotateCmpFunc_haircut_Item.f (k : Nat) (l0 : List (S47)) (a1 : Int) (a2 : Int) (a3 : Int)  : Option ((List (S47))) := slices_rotateCmpFunc_haircut_Item.l0 k l0 a2 (wrap64 (a2 - a1)) (wrap64 (a3 - a2))
theorem slices_rotateCmpFunc_haircut_Item.mono_l : ∀ k, (∀ y0 y1 y2 y3, LeO (slices_rotateCmpFunc_haircut_Item.l0 k y0 y1 y2 y3) (slices_rotateCmpFunc_haircut_Item.l0 (k + 1) y0 y1 y2 y3))
 | 0 => fun _ _ _ _ r h => by simp [slices_rotateCmpFunc_haircut_Item.l0] at h
 | k + 1 => by
  have ih0 := slices_rotateCmpFunc_haircut_Item.mono_l k
  · intro y0 y1 y2 y3
    unfold slices_rotateCmpFunc_haircut_Item.l0
    repeat' first
    | (with_reducible exact ih0 _ _ _ _)
    | (with_reducible exact slices_swapRangeCmpFunc_haircut_Item.mono _ _ _ _ _)
    | (with_reducible exact LeO.refl _)
    | (with_reducible exact LeO.none _)
    | (with_reducible refine LeO.ite ?_ ?_)
    | (with_reducible refine LeO.bind ?_ (fun _ => ?_))
    | exact ih0 _ _ _ _
    | exact slices_swapRangeCmpFunc_haircut_Item.mono _ _ _ _ _
    | exact LeO.none _
    | refine LeO.ite ?_ ?_
    | refine LeO.bind ?_ (fun _ => ?_)
theorem slices_rotateCmpFunc_haircut_Item.mono : ∀ a0 a1 a2 a3 k, LeO (slices_rotateCmpFunc_haircut_Item.f k a0 a1 a2 a3) (slices_rotateCmpFunc_haircut_Item.f (k + 1) a0 a1 a2 a3) := by
 intro a0 a1 a2 a3 k
 have ih0 := slices_rotateCmpFunc_haircut_Item.mono_l k
 unfold slices_rotateCmpFunc_haircut_Item.f
 repeat' first
  | (with_reducible exact ih0 _ _ _ _)
  | (with_reducible exact slices_swapRangeCmpFunc_haircut_Item.mono _ _ _ _ _)
  | (with_reducible exact LeO.refl _)
  | (with_reducible exact LeO.none _)
  | (with_reducible refine LeO.ite ?_ ?_)
  | (with_reducible refine LeO.bind ?_ (fun _ => ?_))
  | exact ih0 _ _ _ _
  | exact slices_swapRangeCmpFunc_haircut_Item.mono _ _ _ _ _
  | exact LeO.none _
  | refine LeO.ite ?_ ?_
  | refine LeO.bind ?_ (fun _ => ?_)
set_option maxHeartbeats 8000000 in
set_option maxRecDepth 100000 in
theorem slices_rotateCmpFunc_haircut_Item.calls (k : Nat) (P0_ : Nat → Prop) (u9000_ : Value) (l0 : List (S47)) (a1 : Int) (a2 : Int) (a3 : Int)  (r : List (S47)) (w0 w : World) (hB : Below w0.heap.size w0 w) (ho0 : Kd.R k47 47 w w0.heap.size P0_ u9000_ l0) (h : slices_rotateCmpFunc_haircut_Item.f k l0 a1 a2 a3 = some r) :
 Calls Try.prog 54 #[u9000_, .int .i64 a1, .int .i64 a2, .int .i64 a3, .func (.func 39) #[] #[]] w fun e w' => e = .returned (.tuple #[]) ∧ Kd.R k47 47 w' w0.heap.size (fun k_ => (P0_ k_ ∨ w.heap.size ≤ k_)) u9000_ r ∧ Below w0.heap.size w0 w' ∧ Kept w w' (fun k_ => P0_ k_) := by
 have HO0 := Aside0.mk (show Kd.R k47 47 w w0.heap.size (fun k_ => (P0_ k_ ∨ w.heap.size ≤ k_)) u9000_ l0 from Kd.R_mono ho0 (fun k_ hk => (.inl hk)))
 have HK := Aside0.mk (Kept.refl w (fun k_ => P0_ k_))
 have HW0 := Aside0.mk hB.size
 have HB := Aside0.mk hB; clear hB
 have H : (slices_rotateCmpFunc_haircut_Item.l0 k l0 a2 (wrap64 (a2 - a1)) (wrap64 (a3 - a2))) = some r := h
 clear h
 have H' := Aside0.mk H
 clear H
 go_enter Try.func54, Try.ntmps54
 go_wp2
 go_loopg [10, 11] k (fun kq v10 v11 w' => ∃ (x0_1 : List (S47)) (x10_1 : Int) (x11_1 : Int), v10 = .int .i64 x10_1 ∧ v11 = .int .i64 x11_1 ∧ Aside0 (slices_rotateCmpFunc_haircut_Item.l0 kq x0_1 a2 x10_1 x11_1 = some r) ∧ Aside0 (kq ≤ k) ∧ Aside0 (Kd.R k47 47 w' w0.heap.size (fun k_ => (P0_ k_ ∨ w.heap.size ≤ k_)) u9000_ x0_1) ∧ Aside0 (Kept w w' (fun k_ => P0_ k_)) ∧ Aside0 (Below w0.heap.size w0 w'))
 case atStart => exact ⟨(l0), (wrap64 (a2 - a1)), (wrap64 (a3 - a2)), ac, ac, H', ⟨Nat.le_refl _⟩, ⟨gR HO0⟩, ⟨gP HK⟩, ⟨gB HB⟩⟩
 case round =>
  clear H'; (try clear p2); (try clear c5)
  obtain ⟨x0_1, x10_1, x11_1, rfl, rfl, HA, HK1, HO_0, HK, HB⟩ := hrel
  cases gk with
  | zero => exact absurd HA.out (by simp [slices_rotateCmpFunc_haircut_Item.l0])
  | succ k1 =>
   have H := HA.out
   clear HA
   simp only [slices_rotateCmpFunc_haircut_Item.l0] at H
   by_cases c6 : x10_1 = x11_1
   · rw [if_pos c6] at H
     have c6b0 : (x10_1 == x11_1) = true := beq_iff_eq.mpr c6
     have c6b1 : (x10_1 != x11_1) = false := bne_eq_false_iff_eq.mpr c6
     clear c6
     replace H := Option.bind_eq_some_iff.mp H
     obtain ⟨t395, A70, H⟩ := H
     replace H : (some t395) = some r := H
     have A7 := Aside0.mk A70; clear A70
     obtain rfl := Option.some.inj H
     obtain ⟨Ao8, co8, eo8⟩ := Kd.R_slice HO_0.out
     subst eo8
     go_wp2_with (first | ((with_reducible refine gate_callee (f := 56) rfl ?_); refine goesL_ (some 57) rfl rfl Try.func56 (by kernel_rfl) rfl #[.slice Ao8 x0_1.length co8, .int .i64 (wrap64 (a2 - x10_1)), .int .i64 a2, .int .i64 x10_1, .func (.func 39) #[] #[]] rfl am ?_; (with_reducible refine (slices_swapRangeCmpFunc_haircut_Item.calls k1 (fun k_ => some k_ = (.slice Ao8 x0_1.length co8 : Value).ownBlock) (.slice Ao8 x0_1.length co8) x0_1 (wrap64 (a2 - x10_1)) a2 x10_1  t395 w0 _ ?side1 ?side2 A7.out).mono ?_); (case side1 => exact gB HB); (case side2 => exact Kd.R_tight rfl HO_0.out); rintro e w9 ⟨rfl, hy0, hb, hkp⟩; refine ⟨_, rfl, ?_⟩; have n0_ := Aside0.mk (Kd.R_reok rfl hy0 (fun k_ e_ => HO_0.out.1 k_ e_)); have n1_ := Aside0.mk (Kept.then_ (S := (fun k_ => P0_ k_)) (gP HK) hkp (fun k_ hs_ => (fun e_ => (HO_0.out.1 k_ e_.symm)) hs_)); have n2_ := Aside0.mk (hb); clear HO_0; clear HK; clear HB; have HO_0 := n0_; have HK := n1_; have HB := n2_; clear n0_ n1_ n2_; (try clear hb); (try clear hkp); (try clear hy0)))
     first | go_end0 | ((try simp only [Exit.inBlock, Exit.then]); refine bodyPost_ret (results_none rfl _ _ _) rfl ?_)
     exact ⟨by first | rfl | (simp [errW_none, errW_some] <;> rfl) | (simp [*, errW_none, errW_some] <;> rfl), gR HO_0, gB HB, gP HK⟩
   · rw [if_neg c6] at H
     have c6b0 : (x10_1 == x11_1) = false := beq_eq_false_iff_ne.mpr c6
     have c6b1 : (x10_1 != x11_1) = true := bne_iff_ne.mpr c6
     by_cases c10 : x10_1 > x11_1
     · rw [if_pos c10] at H
       have c10b0 : decide (x11_1 < x10_1) = true := decide_eq_true c10
       clear c10
       replace H := Option.bind_eq_some_iff.mp H
       obtain ⟨t396, A110, H⟩ := H
       replace H : (slices_rotateCmpFunc_haircut_Item.l0 k1 t396 a2 (wrap64 (x10_1 - x11_1)) x11_1) = some r := H
       have A11 := Aside0.mk A110; clear A110
       have H' := Aside0.mk H
       clear H
       obtain ⟨Ao12, co12, eo12⟩ := Kd.R_slice HO_0.out
       subst eo12
       go_wp2_with (first | ((with_reducible refine gate_callee (f := 56) rfl ?_); refine goesL_ (some 31) rfl rfl Try.func56 (by kernel_rfl) rfl #[.slice Ao12 x0_1.length co12, .int .i64 (wrap64 (a2 - x10_1)), .int .i64 a2, .int .i64 x11_1, .func (.func 39) #[] #[]] rfl am ?_; (with_reducible refine (slices_swapRangeCmpFunc_haircut_Item.calls k1 (fun k_ => some k_ = (.slice Ao12 x0_1.length co12 : Value).ownBlock) (.slice Ao12 x0_1.length co12) x0_1 (wrap64 (a2 - x10_1)) a2 x11_1  t396 w0 _ ?side1 ?side2 A11.out).mono ?_); (case side1 => exact gB HB); (case side2 => exact Kd.R_tight rfl HO_0.out); rintro e w13 ⟨rfl, hy0, hb, hkp⟩; refine ⟨_, rfl, ?_⟩; have n0_ := Aside0.mk (Kd.R_reok rfl hy0 (fun k_ e_ => HO_0.out.1 k_ e_)); have n1_ := Aside0.mk (Kept.then_ (S := (fun k_ => P0_ k_)) (gP HK) hkp (fun k_ hs_ => (fun e_ => (HO_0.out.1 k_ e_.symm)) hs_)); have n2_ := Aside0.mk (hb); clear HO_0; clear HK; clear HB; have HO_0 := n0_; have HK := n1_; have HB := n2_; clear n0_ n1_ n2_; (try clear hb); (try clear hkp); (try clear hy0)))
       go_roundg k1
       case measure => have := HK1.out; omega
       case rel => exact ⟨(t396), (wrap64 (x10_1 - x11_1)), (x11_1), ac, ac, H', ⟨by have := HK1.out; omega⟩, ⟨gR HO_0⟩, ⟨gP HK⟩, ⟨gB HB⟩⟩
     · rw [if_neg c10] at H
       have c10b0 : decide (x11_1 < x10_1) = false := decide_eq_false c10
       clear c10
       replace H := Option.bind_eq_some_iff.mp H
       obtain ⟨t397, A140, H⟩ := H
       replace H : (slices_rotateCmpFunc_haircut_Item.l0 k1 t397 a2 x10_1 (wrap64 (x11_1 - x10_1))) = some r := H
       have A14 := Aside0.mk A140; clear A140
       have H' := Aside0.mk H
       clear H
       obtain ⟨Ao15, co15, eo15⟩ := Kd.R_slice HO_0.out
       subst eo15
       go_wp2_with (first | ((with_reducible refine gate_callee (f := 56) rfl ?_); refine goesL_ (some 46) rfl rfl Try.func56 (by kernel_rfl) rfl #[.slice Ao15 x0_1.length co15, .int .i64 (wrap64 (a2 - x10_1)), .int .i64 (wrap64 ((wrap64 (a2 + x11_1)) - x10_1)), .int .i64 x10_1, .func (.func 39) #[] #[]] rfl am ?_; (with_reducible refine (slices_swapRangeCmpFunc_haircut_Item.calls k1 (fun k_ => some k_ = (.slice Ao15 x0_1.length co15 : Value).ownBlock) (.slice Ao15 x0_1.length co15) x0_1 (wrap64 (a2 - x10_1)) (wrap64 ((wrap64 (a2 + x11_1)) - x10_1)) x10_1  t397 w0 _ ?side1 ?side2 A14.out).mono ?_); (case side1 => exact gB HB); (case side2 => exact Kd.R_tight rfl HO_0.out); rintro e w16 ⟨rfl, hy0, hb, hkp⟩; refine ⟨_, rfl, ?_⟩; have n0_ := Aside0.mk (Kd.R_reok rfl hy0 (fun k_ e_ => HO_0.out.1 k_ e_)); have n1_ := Aside0.mk (Kept.then_ (S := (fun k_ => P0_ k_)) (gP HK) hkp (fun k_ hs_ => (fun e_ => (HO_0.out.1 k_ e_.symm)) hs_)); have n2_ := Aside0.mk (hb); clear HO_0; clear HK; clear HB; have HO_0 := n0_; have HK := n1_; have HB := n2_; clear n0_ n1_ n2_; (try clear hb); (try clear hkp); (try clear hy0)))
       go_roundg k1
       case measure => have := HK1.out; omega
       case rel => exact ⟨(t397), (x10_1), (wrap64 (x11_1 - x10_1)), ac, ac, H', ⟨by have := HK1.out; omega⟩, ⟨gR HO_0⟩, ⟨gP HK⟩, ⟨gB HB⟩⟩
end Go.Proofs.Ytjjemfbpodgihaa.X
