-- a shortened text: what this claim does not name is left out (wip/xprint/prune.py of this repo)
import Derived.Test.YtjjemfbpodgihaaXMin
import Derived.Test.YtjjemfbpodgihaaX0
import Derived.Test.YtjjemfbpodgihaaX11
namespace Go.Proofs.Ytjjemfbpodgihaa.X
open Go.RowKit Go.Proofs.YtjjemfbpodgihaaW.PrintWords Go.Proofs.YtjjemfbpodgihaaW.PrintLast Go.Proofs.YtjjemfbpodgihaaW.PrintMore
attribute [local go_sem] max2_int min2_int max_two min_two max_three min_three max_four min_four
set_option linter.unusedVariables false
set_option linter.unusedSimpArgs false
abbrev qx12_0 : Array Bool := #[true, true, true, true, true, true, false, true, false, false, false, false, false, false]
abbrev qx12_1 : Array Bool := #[true, true, true, true, true, true, false, true, true, false, false, false, false, false]
abbrev qx12_2 : Array Bool := #[true, true, true, true, true, true, false, true, true, true, false, false, false, false]
abbrev qx12_3 : Array Bool := #[true, true, true, true, true, true, false, true, true, true, true, false, false, false]
mutual
def lombardref17_Rank.l0 : Nat → List (S65) → List (S65) → Int → Option ((List (S65)))
 | 0, _, _, _ => none
 | k + 1, x0, x3, x4 => if x4 < (x0.length : Int) then (lombardref17_Rank.l1 k x0 x3 x4 (x3.length : Int)) else (some x3)
def lombardref17_Rank.l1 : Nat → List (S65) → List (S65) → Int → Int → Option ((List (S65)))
 | 0, _, _, _, _ => none
 | k + 1, x0, x3, x4, x5 => if x5 > 0 then (if 0 ≤ x4 then (if x4 < (x0.length : Int) then (if 0 ≤ (wrap64 (x5 - 1)) then (if (wrap64 (x5 - 1)) < (x3.length : Int) then ((lombardref17_Ahead.f ((rd_T65 x0 x4).f0.f0) ((rd_T65 x0 x4).f0.f1) ((rd_T65 x0 x4).f1.f0) ((rd_T65 x0 x4).f1.f1) ((rd_T65 x0 x4).f1.f2) ((rd_T65 x0 x4).f1.f3) ((rd_T65 x0 x4).f1.f4) ((rd_T65 x0 x4).f2) ((rd_T65 x0 x4).f3) ((rd_T65 x3 (wrap64 (x5 - 1))).f0.f0) ((rd_T65 x3 (wrap64 (x5 - 1))).f0.f1) ((rd_T65 x3 (wrap64 (x5 - 1))).f1.f0) ((rd_T65 x3 (wrap64 (x5 - 1))).f1.f1) ((rd_T65 x3 (wrap64 (x5 - 1))).f1.f2) ((rd_T65 x3 (wrap64 (x5 - 1))).f1.f3) ((rd_T65 x3 (wrap64 (x5 - 1))).f1.f4) ((rd_T65 x3 (wrap64 (x5 - 1))).f2) ((rd_T65 x3 (wrap64 (x5 - 1))).f3)).bind fun t323 => (if t323 = true then (lombardref17_Rank.l1 k x0 x3 x4 (wrap64 (x5 - 1))) else ((some (([] : List (S65)) : List (S65))).bind fun y324 => (if 0 ≤ x5 then (if x5 ≤ (x3.length : Int) then ((some (x3.take (x5 : Int).toNat : List (S65))).bind fun y327 => (if y324.length + y327.length < 1466015503701 then ((some (y324 ++ y327 : List (S65))).bind fun y331 => (if y331.length < 1466015503701 then ((some (y331 ++ [(⟨(⟨(rd_T65 x0 x4).f0.f0, (rd_T65 x0 x4).f0.f1⟩ : S43), (⟨(rd_T65 x0 x4).f1.f0, (rd_T65 x0 x4).f1.f1, (rd_T65 x0 x4).f1.f2, (rd_T65 x0 x4).f1.f3, (rd_T65 x0 x4).f1.f4⟩ : S45), (rd_T65 x0 x4).f2, (rd_T65 x0 x4).f3⟩ : S65)] : List (S65))).bind fun y335 => ((some (x3.drop (x5 : Int).toNat : List (S65))).bind fun y338 => (if y335.length + y338.length < 1466015503701 then (lombardref17_Rank.l0 k x0 (y335 ++ y338) (wrap64 (x4 + 1))) else (none)))) else (none))) else (none))) else (none)) else (none))))) else (none)) else (none)) else (none)) else (none)) else ((some (([] : List (S65)) : List (S65))).bind fun y345 => (if 0 ≤ x5 then (if x5 ≤ (x3.length : Int) then ((some (x3.take (x5 : Int).toNat : List (S65))).bind fun y348 => (if y345.length + y348.length < 1466015503701 then ((some (y345 ++ y348 : List (S65))).bind fun y352 => (if 0 ≤ x4 then (if x4 < (x0.length : Int) then (if y352.length < 1466015503701 then ((some (y352 ++ [(⟨(⟨(rd_T65 x0 x4).f0.f0, (rd_T65 x0 x4).f0.f1⟩ : S43), (⟨(rd_T65 x0 x4).f1.f0, (rd_T65 x0 x4).f1.f1, (rd_T65 x0 x4).f1.f2, (rd_T65 x0 x4).f1.f3, (rd_T65 x0 x4).f1.f4⟩ : S45), (rd_T65 x0 x4).f2, (rd_T65 x0 x4).f3⟩ : S65)] : List (S65))).bind fun y356 => ((some (x3.drop (x5 : Int).toNat : List (S65))).bind fun y359 => (if y356.length + y359.length < 1466015503701 then (lombardref17_Rank.l0 k x0 (y356 ++ y359) (wrap64 (x4 + 1))) else (none)))) else (none)) else (none)) else (none))) else (none))) else (none)) else (none)))
end
def lombardref17_Rank.f (k : Nat) (l0 : List (S65)) : Option ((List (S65))) := lombardref17_Rank.l0 k l0 ([] : List (S65)) 0
theorem lombardref17_Rank.mono_l : ∀ k, (∀ y0 y1 y2, LeO (lombardref17_Rank.l0 k y0 y1 y2) (lombardref17_Rank.l0 (k + 1) y0 y1 y2)) ∧ (∀ y0 y1 y2 y3, LeO (lombardref17_Rank.l1 k y0 y1 y2 y3) (lombardref17_Rank.l1 (k + 1) y0 y1 y2 y3))
 | 0 => ⟨fun _ _ _ r h => by simp [lombardref17_Rank.l0] at h, fun _ _ _ _ r h => by simp [lombardref17_Rank.l1] at h⟩
 | k + 1 => by
  obtain ⟨ih0, ih1⟩ := lombardref17_Rank.mono_l k
  refine ⟨?_, ?_⟩
  intro y0 y1 y2; unfold lombardref17_Rank.l0; rotate_left
  intro y0 y1 y2 y3; unfold lombardref17_Rank.l1; rotate_left
  all_goals repeat' first
  | (with_reducible exact ih0 _ _ _)
  | (with_reducible exact ih1 _ _ _ _)
  | (with_reducible exact LeO.refl _)
  | (with_reducible exact LeO.none _)
  | (with_reducible refine LeO.ite ?_ ?_)
  | (with_reducible refine LeO.bind ?_ (fun _ => ?_))
  | exact ih0 _ _ _
  | exact ih1 _ _ _ _
  | exact LeO.none _
  | refine LeO.ite ?_ ?_
  | refine LeO.bind ?_ (fun _ => ?_)
theorem lombardref17_Rank.mono : ∀ a0 k, LeO (lombardref17_Rank.f k a0) (lombardref17_Rank.f (k + 1) a0) := by
 intro a0 k
 obtain ⟨ih0, ih1⟩ := lombardref17_Rank.mono_l k
 unfold lombardref17_Rank.f
 repeat' first
  | (with_reducible exact ih0 _ _ _)
  | (with_reducible exact ih1 _ _ _ _)
  | (with_reducible exact LeO.refl _)
  | (with_reducible exact LeO.none _)
  | (with_reducible refine LeO.ite ?_ ?_)
  | (with_reducible refine LeO.bind ?_ (fun _ => ?_))
  | exact ih0 _ _ _
  | exact ih1 _ _ _ _
  | exact LeO.none _
  | refine LeO.ite ?_ ?_
  | refine LeO.bind ?_ (fun _ => ?_)
def lombardref17_Rank.T6 : Bool × List (List Nat × List Nat) := (true, [([], []), ([0], [0]), ([1], [1]), ([2], [2]), ([2], [2]), ([3, 4, 2], [2, 3, 4]), ([5, 2], [2, 5]), ([2], [2]), ([2], [2]), ([8, 2], [2, 8]), ([7, 9, 2], [2, 7, 9]), ([10, 2], [2, 10]), ([6, 11, 2, 2], [2, 6, 11]), ([2, 12], [2, 12])])
def lombardref17_Rank.B6 : List Nat := [0, 1, 3, 7, 7, 31, 63, 7, 7, 263, 903, 1927, 4095, 8191]
theorem lombardref17_Rank.tab6 : rtab .any (opsOf Try.f23 6) = lombardref17_Rank.T6 := by kernel_rfl
theorem lombardref17_Rank.bits6 : waitsOk lombardref17_Rank.T6.2 lombardref17_Rank.B6 = true := by kernel_rfl
set_option maxHeartbeats 8000000 in
set_option maxRecDepth 100000 in
theorem lombardref17_Rank.calls (k : Nat) (A0 : Option Addr) (c0 : Nat) (l0 : List (S65)) (r : List (S65)) (w : World) (hr0 : Kd.C k65 w A0 l0.length l0) (hc0 : l0.length ≤ c0) (h : lombardref17_Rank.f k l0 = some r) :
 Calls Try.prog 23 #[.slice A0 l0.length c0] w fun e w' => ∃ v0_ : Value, e = .returned (v0_) ∧ Kd.R k65 65 w' w.heap.size (fun _ => True) v0_ r ∧ Below w.heap.size w w' := by
 have hu65 := Try.underlying65
 have HR0 := Aside0.mk hr0; have HC0 := Aside0.mk hc0; clear hr0 hc0
 have HB := Aside0.mk (Below.refl w.heap.size w)
 have H : (lombardref17_Rank.l0 k l0 ([] : List (S65)) 0) = some r := h
 clear h
 have H' := Aside0.mk H
 clear H
 go_enter Try.func23, Try.ntmps23
 go_wp2
 go_loopg [3, 4] k (fun kq v3 v4 w' => ∃ (x3_1 : List (S65)) (x4_1 : Int), v4 = .int .i64 x4_1 ∧ Aside0 (lombardref17_Rank.l0 kq l0 x3_1 x4_1 = some r) ∧ Aside0 (kq ≤ k) ∧ Aside0 (Kd.R k65 65 w' w.heap.size (fun _ => True) v3 x3_1) ∧ Aside0 (Below w.heap.size w w'))
 case atStart => exact ⟨(([] : List (S65))), (0), ac, H', ⟨Nat.le_refl _⟩, ⟨by first | exact Kd.R_nil _ _ _ _ _ | exact Kd.N_nil _ _ _ _ _ | exact Kd.V_nil _ _ _ _ _ | exact Kd.Q_nil _ _ _ _ _ | exact Kd.S_nil _ _ _ _ _⟩, ⟨gB HB⟩⟩
 case round =>
  clear H'
  obtain ⟨x3_1, x4_1, rfl, HA, HK1, HO_3, HB⟩ := hrel
  cases gk with
  | zero => exact absurd HA.out (by simp [lombardref17_Rank.l0])
  | succ k1 =>
   have H := HA.out
   clear HA
   simp only [lombardref17_Rank.l0] at H
   by_cases c2 : x4_1 < (l0.length : Int)
   · rw [if_pos c2] at H
     have c2b0 : decide (x4_1 < (l0.length : Int)) = true := decide_eq_true c2
     clear c2
     have H' := Aside0.mk H
     clear H
     obtain ⟨Ao3, co3, eo3⟩ := Kd.R_slice HO_3.out
     subst eo3
     go_wp2
     go_loopg [5] k1 (fun kq v5 w' => ∃ (x5_2 : Int), v5 = .int .i64 x5_2 ∧ Aside0 (lombardref17_Rank.l1 kq l0 x3_1 x4_1 x5_2 = some r) ∧ Aside0 (kq ≤ k1) ∧ Aside0 (Kd.R k65 65 w' w.heap.size (fun _ => True) (.slice Ao3 x3_1.length co3) x3_1) ∧ Aside0 (Below w.heap.size w w'))
     case atStart => exact ⟨((x3_1.length : Int)), ac, H', ⟨Nat.le_refl _⟩, ⟨gR HO_3⟩, ⟨gB HB⟩⟩
     case round =>
      clear H'; (try clear c2); (try clear c2b0); (try clear p2)
      obtain ⟨x5_2, rfl, HA, HK2, HO_3, HB⟩ := hrel
      cases gk with
      | zero => exact absurd HA.out (by simp [lombardref17_Rank.l1])
      | succ k2 =>
       have H := HA.out
       clear HA
       simp only [lombardref17_Rank.l1] at H
       by_cases c4 : x5_2 > 0
       · rw [if_pos c4] at H
         have c4b0 : decide (0 < x5_2) = true := decide_eq_true c4
         clear c4
         by_cases c5 : 0 ≤ x4_1
         · rw [if_pos c5] at H
           have c5b0 : decide (0 ≤ x4_1) = true := decide_eq_true c5
           clear c5
           by_cases c6 : x4_1 < (l0.length : Int)
           · rw [if_pos c6] at H
             have c6b0 : decide (x4_1 < (l0.length : Int)) = true := decide_eq_true c6
             clear c6
             obtain ⟨ji7, hji7⟩ : ∃ j_ : Int, (wrap64 (x5_2 - 1)) = j_ := ⟨_, rfl⟩
             replace H : (if 0 ≤ (ji7) then (if (ji7) < (x3_1.length : Int) then ((lombardref17_Ahead.f ((rd_T65 l0 x4_1).f0.f0) ((rd_T65 l0 x4_1).f0.f1) ((rd_T65 l0 x4_1).f1.f0) ((rd_T65 l0 x4_1).f1.f1) ((rd_T65 l0 x4_1).f1.f2) ((rd_T65 l0 x4_1).f1.f3) ((rd_T65 l0 x4_1).f1.f4) ((rd_T65 l0 x4_1).f2) ((rd_T65 l0 x4_1).f3) ((rd_T65 x3_1 (ji7)).f0.f0) ((rd_T65 x3_1 (ji7)).f0.f1) ((rd_T65 x3_1 (ji7)).f1.f0) ((rd_T65 x3_1 (ji7)).f1.f1) ((rd_T65 x3_1 (ji7)).f1.f2) ((rd_T65 x3_1 (ji7)).f1.f3) ((rd_T65 x3_1 (ji7)).f1.f4) ((rd_T65 x3_1 (ji7)).f2) ((rd_T65 x3_1 (ji7)).f3)).bind fun t323 => (if t323 = true then (lombardref17_Rank.l1 k2 l0 x3_1 x4_1 ji7) else ((some (([] : List (S65)) : List (S65))).bind fun y324 => (if 0 ≤ x5_2 then (if x5_2 ≤ (x3_1.length : Int) then ((some (x3_1.take (x5_2 : Int).toNat : List (S65))).bind fun y327 => (if y324.length + y327.length < 1466015503701 then ((some (y324 ++ y327 : List (S65))).bind fun y331 => (if y331.length < 1466015503701 then ((some (y331 ++ [(⟨(⟨(rd_T65 l0 x4_1).f0.f0, (rd_T65 l0 x4_1).f0.f1⟩ : S43), (⟨(rd_T65 l0 x4_1).f1.f0, (rd_T65 l0 x4_1).f1.f1, (rd_T65 l0 x4_1).f1.f2, (rd_T65 l0 x4_1).f1.f3, (rd_T65 l0 x4_1).f1.f4⟩ : S45), (rd_T65 l0 x4_1).f2, (rd_T65 l0 x4_1).f3⟩ : S65)] : List (S65))).bind fun y335 => ((some (x3_1.drop (x5_2 : Int).toNat : List (S65))).bind fun y338 => (if y335.length + y338.length < 1466015503701 then (lombardref17_Rank.l0 k2 l0 (y335 ++ y338) (wrap64 (x4_1 + 1))) else (none)))) else (none))) else (none))) else (none)) else (none))))) else (none)) else (none)) = some r := by first | (rw [hji7] at H; exact H) | (simp only [hji7] at H ⊢; exact H)
             have hji7w : (IntKind.i64.wrap (x5_2 - 1)) = ji7 := (i64_w _).trans hji7
             by_cases c8 : 0 ≤ (ji7)
             · rw [if_pos c8] at H
               have c8b0 : decide (0 ≤ (ji7)) = true := decide_eq_true c8
               clear c8
               by_cases c9 : (ji7) < (x3_1.length : Int)
               · rw [if_pos c9] at H
                 have c9b0 : decide ((ji7) < (x3_1.length : Int)) = true := decide_eq_true c9
                 clear c9
                 replace H := Option.bind_eq_some_iff.mp H
                 obtain ⟨t323, A100, H⟩ := H
                 replace H : (if t323 = true then (lombardref17_Rank.l1 k2 l0 x3_1 x4_1 ji7) else ((some (([] : List (S65)) : List (S65))).bind fun y324 => (if 0 ≤ x5_2 then (if x5_2 ≤ (x3_1.length : Int) then ((some (x3_1.take (x5_2 : Int).toNat : List (S65))).bind fun y327 => (if y324.length + y327.length < 1466015503701 then ((some (y324 ++ y327 : List (S65))).bind fun y331 => (if y331.length < 1466015503701 then ((some (y331 ++ [(⟨(⟨(rd_T65 l0 x4_1).f0.f0, (rd_T65 l0 x4_1).f0.f1⟩ : S43), (⟨(rd_T65 l0 x4_1).f1.f0, (rd_T65 l0 x4_1).f1.f1, (rd_T65 l0 x4_1).f1.f2, (rd_T65 l0 x4_1).f1.f3, (rd_T65 l0 x4_1).f1.f4⟩ : S45), (rd_T65 l0 x4_1).f2, (rd_T65 l0 x4_1).f3⟩ : S65)] : List (S65))).bind fun y335 => ((some (x3_1.drop (x5_2 : Int).toNat : List (S65))).bind fun y338 => (if y335.length + y338.length < 1466015503701 then (lombardref17_Rank.l0 k2 l0 (y335 ++ y338) (wrap64 (x4_1 + 1))) else (none)))) else (none))) else (none))) else (none)) else (none)))) = some r := H
                 have A10 := Aside0.mk A100; clear A100
                 by_cases c11 : t323 = true
                 · subst c11
                   have H1 : (lombardref17_Rank.l1 k2 l0 x3_1 x4_1 ji7) = some r := by rw [if_pos rfl] at H; exact H
                   clear H
                   have H := H1
                   clear H1
                   have H' := Aside0.mk H
                   clear H
                   try go_wp2
                   have n0_ := Aside0.mk (Kd.R_drew HO_3.out)
                   have n1_ := Aside0.mk (below_drew1 HB.out)
                   clear HO_3; clear HB
                   have HO_3 := n0_
                   have HB := n1_
                   clear n0_ n1_
                   have p321 : 0 ≤ (x4_1 : Int) := od
                   have q321 : x4_1 < (l0.length : Int) := od
                   obtain ⟨ad321, e321, hx321_0, hx321_1, hx321_2, hx321_3, hx321_4, hx321_5, hx321_6, hx321_7, hx321_8⟩ := at_T65 HR0.out x4_1 p321 q321
                   have hw321_8 := hx321_8
                   have hw321_7 := hx321_7
                   have hw321_6 := hx321_6
                   have hw321_5 := hx321_5
                   have hw321_4 := hx321_4
                   have hw321_3 := hx321_3
                   have hw321_2 := hx321_2
                   have hw321_1 := hx321_1
                   have hw321_0 := hx321_0
                   cases e321
                   replace hx321_0 := (HB.out.cell (World.block_lt_of_cell? w _ hx321_0)).trans hx321_0
                   replace hx321_1 := (HB.out.cell (World.block_lt_of_cell? w _ hx321_1)).trans hx321_1
                   replace hx321_2 := (HB.out.cell (World.block_lt_of_cell? w _ hx321_2)).trans hx321_2
                   replace hx321_3 := (HB.out.cell (World.block_lt_of_cell? w _ hx321_3)).trans hx321_3
                   replace hx321_4 := (HB.out.cell (World.block_lt_of_cell? w _ hx321_4)).trans hx321_4
                   replace hx321_5 := (HB.out.cell (World.block_lt_of_cell? w _ hx321_5)).trans hx321_5
                   replace hx321_6 := (HB.out.cell (World.block_lt_of_cell? w _ hx321_6)).trans hx321_6
                   replace hx321_7 := (HB.out.cell (World.block_lt_of_cell? w _ hx321_7)).trans hx321_7
                   replace hx321_8 := (HB.out.cell (World.block_lt_of_cell? w _ hx321_8)).trans hx321_8
                   replace p321 := eq_true p321; replace q321 := eq_true q321
                   have p322 : 0 ≤ ((ji7) : Int) := od
                   have q322 : (ji7) < (x3_1.length : Int) := od
                   obtain ⟨ad322, e322, hx322_0, hx322_1, hx322_2, hx322_3, hx322_4, hx322_5, hx322_6, hx322_7, hx322_8⟩ := at_T65 (Kd.R_reads' HO_3.out).2.2 (ji7) p322 q322
                   cases e322; replace p322 := eq_true p322; replace q322 := eq_true q322
                   refine start_ (n := 14) (S := fun w' => w'.cell? (ad321.add ((x4_1).toNat * 9)) = some (.string ((rd_T65 l0 x4_1).f0.f0)) ∧ w'.cell? ⟨(ad321.add ((x4_1).toNat * 9)).block, (ad321.add ((x4_1).toNat * 9)).off + 1, none⟩ = some (.int .i64 ((rd_T65 l0 x4_1).f0.f1)) ∧ w'.cell? ⟨(ad321.add ((x4_1).toNat * 9)).block, (ad321.add ((x4_1).toNat * 9)).off + 2, none⟩ = some (.string ((rd_T65 l0 x4_1).f1.f0)) ∧ w'.cell? ⟨(ad321.add ((x4_1).toNat * 9)).block, (ad321.add ((x4_1).toNat * 9)).off + 3, none⟩ = some (.int .i64 ((rd_T65 l0 x4_1).f1.f1)) ∧ w'.cell? ⟨(ad321.add ((x4_1).toNat * 9)).block, (ad321.add ((x4_1).toNat * 9)).off + 4, none⟩ = some (.int .i64 ((rd_T65 l0 x4_1).f1.f2)) ∧ w'.cell? ⟨(ad321.add ((x4_1).toNat * 9)).block, (ad321.add ((x4_1).toNat * 9)).off + 5, none⟩ = some (.int .i64 ((rd_T65 l0 x4_1).f1.f3)) ∧ w'.cell? ⟨(ad321.add ((x4_1).toNat * 9)).block, (ad321.add ((x4_1).toNat * 9)).off + 6, none⟩ = some (.string ((rd_T65 l0 x4_1).f1.f4)) ∧ w'.cell? ⟨(ad321.add ((x4_1).toNat * 9)).block, (ad321.add ((x4_1).toNat * 9)).off + 7, none⟩ = some (.int .i64 ((rd_T65 l0 x4_1).f2)) ∧ w'.cell? ⟨(ad321.add ((x4_1).toNat * 9)).block, (ad321.add ((x4_1).toNat * 9)).off + 8, none⟩ = some (.int .i64 ((rd_T65 l0 x4_1).f3)) ∧ w'.cell? (ad322.add (((ji7)).toNat * 9)) = some (.string ((rd_T65 x3_1 (ji7)).f0.f0)) ∧ w'.cell? ⟨(ad322.add (((ji7)).toNat * 9)).block, (ad322.add (((ji7)).toNat * 9)).off + 1, none⟩ = some (.int .i64 ((rd_T65 x3_1 (ji7)).f0.f1)) ∧ w'.cell? ⟨(ad322.add (((ji7)).toNat * 9)).block, (ad322.add (((ji7)).toNat * 9)).off + 2, none⟩ = some (.string ((rd_T65 x3_1 (ji7)).f1.f0)) ∧ w'.cell? ⟨(ad322.add (((ji7)).toNat * 9)).block, (ad322.add (((ji7)).toNat * 9)).off + 3, none⟩ = some (.int .i64 ((rd_T65 x3_1 (ji7)).f1.f1)) ∧ w'.cell? ⟨(ad322.add (((ji7)).toNat * 9)).block, (ad322.add (((ji7)).toNat * 9)).off + 4, none⟩ = some (.int .i64 ((rd_T65 x3_1 (ji7)).f1.f2)) ∧ w'.cell? ⟨(ad322.add (((ji7)).toNat * 9)).block, (ad322.add (((ji7)).toNat * 9)).off + 5, none⟩ = some (.int .i64 ((rd_T65 x3_1 (ji7)).f1.f3)) ∧ w'.cell? ⟨(ad322.add (((ji7)).toNat * 9)).block, (ad322.add (((ji7)).toNat * 9)).off + 6, none⟩ = some (.string ((rd_T65 x3_1 (ji7)).f1.f4)) ∧ w'.cell? ⟨(ad322.add (((ji7)).toNat * 9)).block, (ad322.add (((ji7)).toNat * 9)).off + 7, none⟩ = some (.int .i64 ((rd_T65 x3_1 (ji7)).f2)) ∧ w'.cell? ⟨(ad322.add (((ji7)).toNat * 9)).block, (ad322.add (((ji7)).toNat * 9)).off + 8, none⟩ = some (.int .i64 ((rd_T65 x3_1 (ji7)).f3))) (ds := []) (pf 14 0) (by kernel_rfl) rfl rfl ⟨((HB.out.cell (World.block_lt_of_cell? w _ hw321_0)).trans hw321_0), ((HB.out.cell (World.block_lt_of_cell? w _ hw321_1)).trans hw321_1), ((HB.out.cell (World.block_lt_of_cell? w _ hw321_2)).trans hw321_2), ((HB.out.cell (World.block_lt_of_cell? w _ hw321_3)).trans hw321_3), ((HB.out.cell (World.block_lt_of_cell? w _ hw321_4)).trans hw321_4), ((HB.out.cell (World.block_lt_of_cell? w _ hw321_5)).trans hw321_5), ((HB.out.cell (World.block_lt_of_cell? w _ hw321_6)).trans hw321_6), ((HB.out.cell (World.block_lt_of_cell? w _ hw321_7)).trans hw321_7), ((HB.out.cell (World.block_lt_of_cell? w _ hw321_8)).trans hw321_8), hx322_0, hx322_1, hx322_2, hx322_3, hx322_4, hx322_5, hx322_6, hx322_7, hx322_8⟩ (fun hHeld => ?_); refine with_tabW lombardref17_Rank.tab6 lombardref17_Rank.bits6 (fun HT_ HW_ => ?_)
                   generalize wr.drew = w12 at HO_3 HB hx321_0 hx321_1 hx321_2 hx321_3 hx321_4 hx321_5 hx321_6 hx321_7 hx321_8 hx322_0 hx322_1 hx322_2 hx322_3 hx322_4 hx322_5 hx322_6 hx322_7 hx322_8 hHeld ⊢
                   refine pA (i := 0) (N := some 15) HT_ (pf 14 1) ?_
                   refine pA (i := 1) (N := some 16) HT_ (pf 14 2) ?_
                   refine pA (i := 2) (N := some 17) HT_ (pf 14 3) ?_
                   refine pA (i := 3) (N := some 18) HT_ (pf 14 4) ?_
                   refine pA (i := 4) (N := some 19) HT_ (pf 14 5) ?_
                   refine pA (i := 5) (N := some 20) HT_ (pf 14 6) ?_
                   refine pA (i := 7) (N := some 22) HT_ qx12_0 ?_
                   refine pA (i := 8) (N := some 23) HT_ qx12_1 ?_
                   refine pA (i := 9) (N := some 24) HT_ qx12_2 ?_
                   refine pA (i := 10) (N := some 25) HT_ qx12_3 ?_
                   refine take_ (i := 6) (N := some 21) (v := ?_) (a' := ?_) (pf 14 11) rfl rfl (take_ofW HT_.out HW_.out (by kernel_rfl)) (fun _ _ _ h => h) (Or.inl ⟨by rfl, ?_⟩) hHeld ?_ ?_
                   rotate_left
                   · rintro w' ⟨s0, s1, s2, s3, s4, s5, s6, s7, s8, s9, s10, s11, s12, s13, s14, s15, s16, s17⟩
                     go_simp
                     with_reducible rfl
                   rotate_left
                   · simp only [Act.put, sA, sB, sC, i64_w, i32_w]
                     rfl
                   refine take_ (i := 11) (N := some 26) (v := ?_) (a' := ?_) (pf 14 12) rfl rfl (take_ofW HT_.out HW_.out (by kernel_rfl)) (fun _ _ _ h => h) (Or.inl ⟨by rfl, ?_⟩) hHeld ?_ ?_
                   rotate_left
                   · rintro w' ⟨s0, s1, s2, s3, s4, s5, s6, s7, s8, s9, s10, s11, s12, s13, s14, s15, s16, s17⟩
                     go_simp
                     with_reducible rfl
                   rotate_left
                   · simp only [Act.put, sA, sB, sC, i64_w, i32_w]
                     rfl
                   refine one_ (i := 12) (N := some 27) (pf 14 13) rfl rfl (one_of HT_.out (by kernel_rfl)) (by decide) (fun K hK => ?_)
                   refine goes_ Try.func36 (by kernel_rfl) rfl #[.agg #[.string ((rd_T65 l0 x4_1).f0.f0), .int .i64 ((rd_T65 l0 x4_1).f0.f1), .string ((rd_T65 l0 x4_1).f1.f0), .int .i64 ((rd_T65 l0 x4_1).f1.f1), .int .i64 ((rd_T65 l0 x4_1).f1.f2), .int .i64 ((rd_T65 l0 x4_1).f1.f3), .string ((rd_T65 l0 x4_1).f1.f4), .int .i64 ((rd_T65 l0 x4_1).f2), .int .i64 ((rd_T65 l0 x4_1).f3)], .agg #[.string ((rd_T65 x3_1 (ji7)).f0.f0), .int .i64 ((rd_T65 x3_1 (ji7)).f0.f1), .string ((rd_T65 x3_1 (ji7)).f1.f0), .int .i64 ((rd_T65 x3_1 (ji7)).f1.f1), .int .i64 ((rd_T65 x3_1 (ji7)).f1.f2), .int .i64 ((rd_T65 x3_1 (ji7)).f1.f3), .string ((rd_T65 x3_1 (ji7)).f1.f4), .int .i64 ((rd_T65 x3_1 (ji7)).f2), .int .i64 ((rd_T65 x3_1 (ji7)).f3)]] (by rfl) rfl rfl (by (try simp only [List.map_toArray, List.map_cons, List.map_nil]); first | done | (simp only [hji7]; rfl) | rfl | (simp only [List.length_drop, List.length_take]; rfl)) ?_
                   with_reducible refine (lombardref17_Ahead.calls ((rd_T65 l0 x4_1).f0.f0) ((rd_T65 l0 x4_1).f0.f1) ((rd_T65 l0 x4_1).f1.f0) ((rd_T65 l0 x4_1).f1.f1) ((rd_T65 l0 x4_1).f1.f2) ((rd_T65 l0 x4_1).f1.f3) ((rd_T65 l0 x4_1).f1.f4) ((rd_T65 l0 x4_1).f2) ((rd_T65 l0 x4_1).f3) ((rd_T65 x3_1 (ji7)).f0.f0) ((rd_T65 x3_1 (ji7)).f0.f1) ((rd_T65 x3_1 (ji7)).f1.f0) ((rd_T65 x3_1 (ji7)).f1.f1) ((rd_T65 x3_1 (ji7)).f1.f2) ((rd_T65 x3_1 (ji7)).f1.f3) ((rd_T65 x3_1 (ji7)).f1.f4) ((rd_T65 x3_1 (ji7)).f2) ((rd_T65 x3_1 (ji7)).f3) true _ A10.out).mono ?_
                   rintro e w13 ⟨rfl, hb⟩
                   have HS9_ := (hb.cell (World.block_lt_of_cell? _ _ (hHeld.2.2.2.2.2.2.2.2.2.1))).trans (hHeld.2.2.2.2.2.2.2.2.2.1)
                   have HS10_ := (hb.cell (World.block_lt_of_cell? _ _ (hHeld.2.2.2.2.2.2.2.2.2.2.1))).trans (hHeld.2.2.2.2.2.2.2.2.2.2.1)
                   have HS11_ := (hb.cell (World.block_lt_of_cell? _ _ (hHeld.2.2.2.2.2.2.2.2.2.2.2.1))).trans (hHeld.2.2.2.2.2.2.2.2.2.2.2.1)
                   have HS12_ := (hb.cell (World.block_lt_of_cell? _ _ (hHeld.2.2.2.2.2.2.2.2.2.2.2.2.1))).trans (hHeld.2.2.2.2.2.2.2.2.2.2.2.2.1)
                   have HS13_ := (hb.cell (World.block_lt_of_cell? _ _ (hHeld.2.2.2.2.2.2.2.2.2.2.2.2.2.1))).trans (hHeld.2.2.2.2.2.2.2.2.2.2.2.2.2.1)
                   have HS14_ := (hb.cell (World.block_lt_of_cell? _ _ (hHeld.2.2.2.2.2.2.2.2.2.2.2.2.2.2.1))).trans (hHeld.2.2.2.2.2.2.2.2.2.2.2.2.2.2.1)
                   have HS15_ := (hb.cell (World.block_lt_of_cell? _ _ (hHeld.2.2.2.2.2.2.2.2.2.2.2.2.2.2.2.1))).trans (hHeld.2.2.2.2.2.2.2.2.2.2.2.2.2.2.2.1)
                   have HS16_ := (hb.cell (World.block_lt_of_cell? _ _ (hHeld.2.2.2.2.2.2.2.2.2.2.2.2.2.2.2.2.1))).trans (hHeld.2.2.2.2.2.2.2.2.2.2.2.2.2.2.2.2.1)
                   have HS17_ := (hb.cell (World.block_lt_of_cell? _ _ (hHeld.2.2.2.2.2.2.2.2.2.2.2.2.2.2.2.2.2))).trans (hHeld.2.2.2.2.2.2.2.2.2.2.2.2.2.2.2.2.2)
                   refine ⟨_, rfl, ?_⟩
                   have n0_ := Aside0.mk (Kd.R_below (gR HO_3) hb)
                   have n1_ := Aside0.mk (below_step (gB HB) hb)
                   clear HO_3; clear HB
                   have HO_3 := n0_
                   have HB := n1_
                   clear n0_ n1_
                   try clear hb
                   try clear hb2
                   try clear hk
                   try clear hi
                   refine hK.out _ _ ⟨((HB.out.cell (World.block_lt_of_cell? w _ hw321_0)).trans hw321_0), ((HB.out.cell (World.block_lt_of_cell? w _ hw321_1)).trans hw321_1), ((HB.out.cell (World.block_lt_of_cell? w _ hw321_2)).trans hw321_2), ((HB.out.cell (World.block_lt_of_cell? w _ hw321_3)).trans hw321_3), ((HB.out.cell (World.block_lt_of_cell? w _ hw321_4)).trans hw321_4), ((HB.out.cell (World.block_lt_of_cell? w _ hw321_5)).trans hw321_5), ((HB.out.cell (World.block_lt_of_cell? w _ hw321_6)).trans hw321_6), ((HB.out.cell (World.block_lt_of_cell? w _ hw321_7)).trans hw321_7), ((HB.out.cell (World.block_lt_of_cell? w _ hw321_8)).trans hw321_8), HS9_, HS10_, HS11_, HS12_, HS13_, HS14_, HS15_, HS16_, HS17_⟩ (fun hHeld => ?_)
                   clear hK K
                   refine norm_ (a' := ?_) ?_ ?_
                   rotate_left
                   · show Act.put _ (some 27) _ = _
                     simp only [Act.put, sA, sB, sC, i64_w, i32_w]
                     rfl
                   refine pA (i := 13) (N := some 28) HT_ (pf 14 14) ?_
                   refine done_ (done_of HT_.out (by kernel_rfl)) ?_
                   try go_wp2
                   go_roundg k2
                   case measure => have := HK1.out; have := HK2.out; omega
                   case rel => exact ⟨(ji7), (by first | rfl | (simp; done) | (simp only [← hji7] <;> (first | rfl | simp)) | (simp [*]; done)), H', ⟨by have := HK1.out; have := HK2.out; omega⟩, ⟨gR HO_3⟩, ⟨gB HB⟩⟩
                 · replace c11 := Bool.eq_false_iff.mpr c11
                   subst c11
                   have H1 : ((some (([] : List (S65)) : List (S65))).bind fun y324 => (if 0 ≤ x5_2 then (if x5_2 ≤ (x3_1.length : Int) then ((some (x3_1.take (x5_2 : Int).toNat : List (S65))).bind fun y327 => (if y324.length + y327.length < 1466015503701 then ((some (y324 ++ y327 : List (S65))).bind fun y331 => (if y331.length < 1466015503701 then ((some (y331 ++ [(⟨(⟨(rd_T65 l0 x4_1).f0.f0, (rd_T65 l0 x4_1).f0.f1⟩ : S43), (⟨(rd_T65 l0 x4_1).f1.f0, (rd_T65 l0 x4_1).f1.f1, (rd_T65 l0 x4_1).f1.f2, (rd_T65 l0 x4_1).f1.f3, (rd_T65 l0 x4_1).f1.f4⟩ : S45), (rd_T65 l0 x4_1).f2, (rd_T65 l0 x4_1).f3⟩ : S65)] : List (S65))).bind fun y335 => ((some (x3_1.drop (x5_2 : Int).toNat : List (S65))).bind fun y338 => (if y335.length + y338.length < 1466015503701 then (lombardref17_Rank.l0 k2 l0 (y335 ++ y338) (wrap64 (x4_1 + 1))) else (none)))) else (none))) else (none))) else (none)) else (none))) = some r := by rw [if_neg (show ¬ (false = true) by decide)] at H; exact H
                   clear H
                   have H := H1
                   clear H1
                   obtain ⟨y324, hy324⟩ : ∃ y_ : List (S65), y_ = (([] : List (S65))) := ⟨_, rfl⟩
                   replace H : (if 0 ≤ x5_2 then (if x5_2 ≤ (x3_1.length : Int) then ((some (x3_1.take (x5_2 : Int).toNat : List (S65))).bind fun y327 => (if y324.length + y327.length < 1466015503701 then ((some (y324 ++ y327 : List (S65))).bind fun y331 => (if y331.length < 1466015503701 then ((some (y331 ++ [(⟨(⟨(rd_T65 l0 x4_1).f0.f0, (rd_T65 l0 x4_1).f0.f1⟩ : S43), (⟨(rd_T65 l0 x4_1).f1.f0, (rd_T65 l0 x4_1).f1.f1, (rd_T65 l0 x4_1).f1.f2, (rd_T65 l0 x4_1).f1.f3, (rd_T65 l0 x4_1).f1.f4⟩ : S45), (rd_T65 l0 x4_1).f2, (rd_T65 l0 x4_1).f3⟩ : S65)] : List (S65))).bind fun y335 => ((some (x3_1.drop (x5_2 : Int).toNat : List (S65))).bind fun y338 => (if y335.length + y338.length < 1466015503701 then (lombardref17_Rank.l0 k2 l0 (y335 ++ y338) (wrap64 (x4_1 + 1))) else (none)))) else (none))) else (none))) else (none)) else (none)) = some r := by first | (rw [hy324]; with_reducible exact H) | (have H2_ := (Option.bind_some _ _).symm.trans H; rw [hy324]; with_reducible exact H2_) | (have H2_ := (Option.bind_some _ _).symm.trans H; with_reducible exact H2_) | with_reducible exact H | (rw [hy324]; exact H) | exact H
                   have Ny324 := Aside0.mk hy324; clear hy324
                   by_cases c14 : 0 ≤ x5_2
                   · rw [if_pos c14] at H
                     have c14b0 := eq_true c14
                     have c14b1 : decide (0 ≤ x5_2) = true := decide_eq_true c14
                     clear c14
                     by_cases c15 : x5_2 ≤ (x3_1.length : Int)
                     · rw [if_pos c15] at H
                       have c15b0 := eq_true c15
                       have c15b1 : decide (x5_2 ≤ (x3_1.length : Int)) = true := decide_eq_true c15
                       clear c15
                       obtain ⟨y327, hy327⟩ : ∃ y_ : List (S65), y_ = (x3_1.take (x5_2 : Int).toNat) := ⟨_, rfl⟩
                       replace H : (if y324.length + y327.length < 1466015503701 then ((some (y324 ++ y327 : List (S65))).bind fun y331 => (if y331.length < 1466015503701 then ((some (y331 ++ [(⟨(⟨(rd_T65 l0 x4_1).f0.f0, (rd_T65 l0 x4_1).f0.f1⟩ : S43), (⟨(rd_T65 l0 x4_1).f1.f0, (rd_T65 l0 x4_1).f1.f1, (rd_T65 l0 x4_1).f1.f2, (rd_T65 l0 x4_1).f1.f3, (rd_T65 l0 x4_1).f1.f4⟩ : S45), (rd_T65 l0 x4_1).f2, (rd_T65 l0 x4_1).f3⟩ : S65)] : List (S65))).bind fun y335 => ((some (x3_1.drop (x5_2 : Int).toNat : List (S65))).bind fun y338 => (if y335.length + y338.length < 1466015503701 then (lombardref17_Rank.l0 k2 l0 (y335 ++ y338) (wrap64 (x4_1 + 1))) else (none)))) else (none))) else (none)) = some r := by first | (rw [hy327]; with_reducible exact H) | (have H2_ := (Option.bind_some _ _).symm.trans H; rw [hy327]; with_reducible exact H2_) | (have H2_ := (Option.bind_some _ _).symm.trans H; with_reducible exact H2_) | with_reducible exact H | (rw [hy327]; exact H) | exact H
                       have Ny327 := Aside0.mk hy327; clear hy327
                       by_cases c16 : y324.length + y327.length < 1466015503701
                       · rw [if_pos c16] at H
                         have LMc16 := Aside0.mk c16; clear c16
                         obtain ⟨y331, hy331⟩ : ∃ y_ : List (S65), y_ = (y324 ++ y327) := ⟨_, rfl⟩
                         replace H : (if y331.length < 1466015503701 then ((some (y331 ++ [(⟨(⟨(rd_T65 l0 x4_1).f0.f0, (rd_T65 l0 x4_1).f0.f1⟩ : S43), (⟨(rd_T65 l0 x4_1).f1.f0, (rd_T65 l0 x4_1).f1.f1, (rd_T65 l0 x4_1).f1.f2, (rd_T65 l0 x4_1).f1.f3, (rd_T65 l0 x4_1).f1.f4⟩ : S45), (rd_T65 l0 x4_1).f2, (rd_T65 l0 x4_1).f3⟩ : S65)] : List (S65))).bind fun y335 => ((some (x3_1.drop (x5_2 : Int).toNat : List (S65))).bind fun y338 => (if y335.length + y338.length < 1466015503701 then (lombardref17_Rank.l0 k2 l0 (y335 ++ y338) (wrap64 (x4_1 + 1))) else (none)))) else (none)) = some r := by first | (rw [hy331]; with_reducible exact H) | (have H2_ := (Option.bind_some _ _).symm.trans H; rw [hy331]; with_reducible exact H2_) | (have H2_ := (Option.bind_some _ _).symm.trans H; with_reducible exact H2_) | with_reducible exact H | (rw [hy331]; exact H) | exact H
                         have Ny331 := Aside0.mk hy331; clear hy331
                         by_cases c17 : y331.length < 1466015503701
                         · rw [if_pos c17] at H
                           have LMc17 := Aside0.mk c17; clear c17
                           obtain ⟨y335, hy335⟩ : ∃ y_ : List (S65), y_ = (y331 ++ [(⟨(⟨(rd_T65 l0 x4_1).f0.f0, (rd_T65 l0 x4_1).f0.f1⟩ : S43), (⟨(rd_T65 l0 x4_1).f1.f0, (rd_T65 l0 x4_1).f1.f1, (rd_T65 l0 x4_1).f1.f2, (rd_T65 l0 x4_1).f1.f3, (rd_T65 l0 x4_1).f1.f4⟩ : S45), (rd_T65 l0 x4_1).f2, (rd_T65 l0 x4_1).f3⟩ : S65)]) := ⟨_, rfl⟩
                           replace H : ((some (x3_1.drop (x5_2 : Int).toNat : List (S65))).bind fun y338 => (if y335.length + y338.length < 1466015503701 then (lombardref17_Rank.l0 k2 l0 (y335 ++ y338) (wrap64 (x4_1 + 1))) else (none))) = some r := by first | (rw [hy335]; with_reducible exact H) | (have H2_ := (Option.bind_some _ _).symm.trans H; rw [hy335]; with_reducible exact H2_) | (have H2_ := (Option.bind_some _ _).symm.trans H; with_reducible exact H2_) | with_reducible exact H | (rw [hy335]; exact H) | exact H
                           have Ny335 := Aside0.mk hy335; clear hy335
                           have c18b0 := eq_true (od : 0 ≤ x5_2)
                           have c19b0 := eq_true (od : x5_2 ≤ (x3_1.length : Int))
                           obtain ⟨y338, hy338⟩ : ∃ y_ : List (S65), y_ = (x3_1.drop (x5_2 : Int).toNat) := ⟨_, rfl⟩
                           replace H : (if y335.length + y338.length < 1466015503701 then (lombardref17_Rank.l0 k2 l0 (y335 ++ y338) (wrap64 (x4_1 + 1))) else (none)) = some r := by first | (rw [hy338]; with_reducible exact H) | (have H2_ := (Option.bind_some _ _).symm.trans H; rw [hy338]; with_reducible exact H2_) | (have H2_ := (Option.bind_some _ _).symm.trans H; with_reducible exact H2_) | with_reducible exact H | (rw [hy338]; exact H) | exact H
                           have Ny338 := Aside0.mk hy338; clear hy338
                           by_cases c20 : y335.length + y338.length < 1466015503701
                           · rw [if_pos c20] at H
                             have LMc20 := Aside0.mk c20; clear c20
                             obtain ⟨y342, hy342⟩ : ∃ y_ : List (S65), y_ = (y335 ++ y338) := ⟨_, rfl⟩
                             replace H : (lombardref17_Rank.l0 k2 l0 y342 (wrap64 (x4_1 + 1))) = some r := by first | (rw [hy342]; with_reducible exact H) | (have H2_ := (Option.bind_some _ _).symm.trans H; rw [hy342]; with_reducible exact H2_) | (have H2_ := (Option.bind_some _ _).symm.trans H; with_reducible exact H2_) | with_reducible exact H | (rw [hy342]; exact H) | exact H
                             have Ny342 := Aside0.mk hy342; clear hy342
                             have H' := Aside0.mk H
                             clear H
                             try go_wp2
                             have n0_ := Aside0.mk (Kd.R_drew HO_3.out)
                             have n1_ := Aside0.mk (below_drew1 HB.out)
                             clear HO_3; clear HB
                             have HO_3 := n0_
                             have HB := n1_
                             clear n0_ n1_
                             have p321 : 0 ≤ (x4_1 : Int) := od
                             have q321 : x4_1 < (l0.length : Int) := od
                             obtain ⟨ad321, e321, hx321_0, hx321_1, hx321_2, hx321_3, hx321_4, hx321_5, hx321_6, hx321_7, hx321_8⟩ := at_T65 HR0.out x4_1 p321 q321
                             have hw321_8 := hx321_8
                             have hw321_7 := hx321_7
                             have hw321_6 := hx321_6
                             have hw321_5 := hx321_5
                             have hw321_4 := hx321_4
                             have hw321_3 := hx321_3
                             have hw321_2 := hx321_2
                             have hw321_1 := hx321_1
                             have hw321_0 := hx321_0
                             cases e321
                             replace hx321_0 := (HB.out.cell (World.block_lt_of_cell? w _ hx321_0)).trans hx321_0
                             replace hx321_1 := (HB.out.cell (World.block_lt_of_cell? w _ hx321_1)).trans hx321_1
                             replace hx321_2 := (HB.out.cell (World.block_lt_of_cell? w _ hx321_2)).trans hx321_2
                             replace hx321_3 := (HB.out.cell (World.block_lt_of_cell? w _ hx321_3)).trans hx321_3
                             replace hx321_4 := (HB.out.cell (World.block_lt_of_cell? w _ hx321_4)).trans hx321_4
                             replace hx321_5 := (HB.out.cell (World.block_lt_of_cell? w _ hx321_5)).trans hx321_5
                             replace hx321_6 := (HB.out.cell (World.block_lt_of_cell? w _ hx321_6)).trans hx321_6
                             replace hx321_7 := (HB.out.cell (World.block_lt_of_cell? w _ hx321_7)).trans hx321_7
                             replace hx321_8 := (HB.out.cell (World.block_lt_of_cell? w _ hx321_8)).trans hx321_8
                             replace p321 := eq_true p321; replace q321 := eq_true q321
                             have p322 : 0 ≤ ((ji7) : Int) := od
                             have q322 : (ji7) < (x3_1.length : Int) := od
                             obtain ⟨ad322, e322, hx322_0, hx322_1, hx322_2, hx322_3, hx322_4, hx322_5, hx322_6, hx322_7, hx322_8⟩ := at_T65 (Kd.R_reads' HO_3.out).2.2 (ji7) p322 q322
                             cases e322; replace p322 := eq_true p322; replace q322 := eq_true q322
                             refine start_ (n := 14) (S := fun w' => w'.cell? (ad321.add ((x4_1).toNat * 9)) = some (.string ((rd_T65 l0 x4_1).f0.f0)) ∧ w'.cell? ⟨(ad321.add ((x4_1).toNat * 9)).block, (ad321.add ((x4_1).toNat * 9)).off + 1, none⟩ = some (.int .i64 ((rd_T65 l0 x4_1).f0.f1)) ∧ w'.cell? ⟨(ad321.add ((x4_1).toNat * 9)).block, (ad321.add ((x4_1).toNat * 9)).off + 2, none⟩ = some (.string ((rd_T65 l0 x4_1).f1.f0)) ∧ w'.cell? ⟨(ad321.add ((x4_1).toNat * 9)).block, (ad321.add ((x4_1).toNat * 9)).off + 3, none⟩ = some (.int .i64 ((rd_T65 l0 x4_1).f1.f1)) ∧ w'.cell? ⟨(ad321.add ((x4_1).toNat * 9)).block, (ad321.add ((x4_1).toNat * 9)).off + 4, none⟩ = some (.int .i64 ((rd_T65 l0 x4_1).f1.f2)) ∧ w'.cell? ⟨(ad321.add ((x4_1).toNat * 9)).block, (ad321.add ((x4_1).toNat * 9)).off + 5, none⟩ = some (.int .i64 ((rd_T65 l0 x4_1).f1.f3)) ∧ w'.cell? ⟨(ad321.add ((x4_1).toNat * 9)).block, (ad321.add ((x4_1).toNat * 9)).off + 6, none⟩ = some (.string ((rd_T65 l0 x4_1).f1.f4)) ∧ w'.cell? ⟨(ad321.add ((x4_1).toNat * 9)).block, (ad321.add ((x4_1).toNat * 9)).off + 7, none⟩ = some (.int .i64 ((rd_T65 l0 x4_1).f2)) ∧ w'.cell? ⟨(ad321.add ((x4_1).toNat * 9)).block, (ad321.add ((x4_1).toNat * 9)).off + 8, none⟩ = some (.int .i64 ((rd_T65 l0 x4_1).f3)) ∧ w'.cell? (ad322.add (((ji7)).toNat * 9)) = some (.string ((rd_T65 x3_1 (ji7)).f0.f0)) ∧ w'.cell? ⟨(ad322.add (((ji7)).toNat * 9)).block, (ad322.add (((ji7)).toNat * 9)).off + 1, none⟩ = some (.int .i64 ((rd_T65 x3_1 (ji7)).f0.f1)) ∧ w'.cell? ⟨(ad322.add (((ji7)).toNat * 9)).block, (ad322.add (((ji7)).toNat * 9)).off + 2, none⟩ = some (.string ((rd_T65 x3_1 (ji7)).f1.f0)) ∧ w'.cell? ⟨(ad322.add (((ji7)).toNat * 9)).block, (ad322.add (((ji7)).toNat * 9)).off + 3, none⟩ = some (.int .i64 ((rd_T65 x3_1 (ji7)).f1.f1)) ∧ w'.cell? ⟨(ad322.add (((ji7)).toNat * 9)).block, (ad322.add (((ji7)).toNat * 9)).off + 4, none⟩ = some (.int .i64 ((rd_T65 x3_1 (ji7)).f1.f2)) ∧ w'.cell? ⟨(ad322.add (((ji7)).toNat * 9)).block, (ad322.add (((ji7)).toNat * 9)).off + 5, none⟩ = some (.int .i64 ((rd_T65 x3_1 (ji7)).f1.f3)) ∧ w'.cell? ⟨(ad322.add (((ji7)).toNat * 9)).block, (ad322.add (((ji7)).toNat * 9)).off + 6, none⟩ = some (.string ((rd_T65 x3_1 (ji7)).f1.f4)) ∧ w'.cell? ⟨(ad322.add (((ji7)).toNat * 9)).block, (ad322.add (((ji7)).toNat * 9)).off + 7, none⟩ = some (.int .i64 ((rd_T65 x3_1 (ji7)).f2)) ∧ w'.cell? ⟨(ad322.add (((ji7)).toNat * 9)).block, (ad322.add (((ji7)).toNat * 9)).off + 8, none⟩ = some (.int .i64 ((rd_T65 x3_1 (ji7)).f3))) (ds := []) (pf 14 0) (by kernel_rfl) rfl rfl ⟨((HB.out.cell (World.block_lt_of_cell? w _ hw321_0)).trans hw321_0), ((HB.out.cell (World.block_lt_of_cell? w _ hw321_1)).trans hw321_1), ((HB.out.cell (World.block_lt_of_cell? w _ hw321_2)).trans hw321_2), ((HB.out.cell (World.block_lt_of_cell? w _ hw321_3)).trans hw321_3), ((HB.out.cell (World.block_lt_of_cell? w _ hw321_4)).trans hw321_4), ((HB.out.cell (World.block_lt_of_cell? w _ hw321_5)).trans hw321_5), ((HB.out.cell (World.block_lt_of_cell? w _ hw321_6)).trans hw321_6), ((HB.out.cell (World.block_lt_of_cell? w _ hw321_7)).trans hw321_7), ((HB.out.cell (World.block_lt_of_cell? w _ hw321_8)).trans hw321_8), hx322_0, hx322_1, hx322_2, hx322_3, hx322_4, hx322_5, hx322_6, hx322_7, hx322_8⟩ (fun hHeld => ?_); refine with_tabW lombardref17_Rank.tab6 lombardref17_Rank.bits6 (fun HT_ HW_ => ?_)
                             generalize wr.drew = w21 at HO_3 HB hx321_0 hx321_1 hx321_2 hx321_3 hx321_4 hx321_5 hx321_6 hx321_7 hx321_8 hx322_0 hx322_1 hx322_2 hx322_3 hx322_4 hx322_5 hx322_6 hx322_7 hx322_8 hHeld ⊢
                             refine pA (i := 0) (N := some 15) HT_ (pf 14 1) ?_
                             refine pA (i := 1) (N := some 16) HT_ (pf 14 2) ?_
                             refine pA (i := 2) (N := some 17) HT_ (pf 14 3) ?_
                             refine pA (i := 3) (N := some 18) HT_ (pf 14 4) ?_
                             refine pA (i := 4) (N := some 19) HT_ (pf 14 5) ?_
                             refine pA (i := 5) (N := some 20) HT_ (pf 14 6) ?_
                             refine pA (i := 7) (N := some 22) HT_ qx12_0 ?_
                             refine pA (i := 8) (N := some 23) HT_ qx12_1 ?_
                             refine pA (i := 9) (N := some 24) HT_ qx12_2 ?_
                             refine pA (i := 10) (N := some 25) HT_ qx12_3 ?_
                             refine take_ (i := 6) (N := some 21) (v := ?_) (a' := ?_) (pf 14 11) rfl rfl (take_ofW HT_.out HW_.out (by kernel_rfl)) (fun _ _ _ h => h) (Or.inl ⟨by rfl, ?_⟩) hHeld ?_ ?_
                             rotate_left
                             · rintro w' ⟨s0, s1, s2, s3, s4, s5, s6, s7, s8, s9, s10, s11, s12, s13, s14, s15, s16, s17⟩
                               go_simp
                               with_reducible rfl
                             rotate_left
                             · simp only [Act.put, sA, sB, sC, i64_w, i32_w]
                               rfl
                             refine take_ (i := 11) (N := some 26) (v := ?_) (a' := ?_) (pf 14 12) rfl rfl (take_ofW HT_.out HW_.out (by kernel_rfl)) (fun _ _ _ h => h) (Or.inl ⟨by rfl, ?_⟩) hHeld ?_ ?_
                             rotate_left
                             · rintro w' ⟨s0, s1, s2, s3, s4, s5, s6, s7, s8, s9, s10, s11, s12, s13, s14, s15, s16, s17⟩
                               go_simp
                               with_reducible rfl
                             rotate_left
                             · simp only [Act.put, sA, sB, sC, i64_w, i32_w]
                               rfl
                             refine one_ (i := 12) (N := some 27) (pf 14 13) rfl rfl (one_of HT_.out (by kernel_rfl)) (by decide) (fun K hK => ?_)
                             refine goes_ Try.func36 (by kernel_rfl) rfl #[.agg #[.string ((rd_T65 l0 x4_1).f0.f0), .int .i64 ((rd_T65 l0 x4_1).f0.f1), .string ((rd_T65 l0 x4_1).f1.f0), .int .i64 ((rd_T65 l0 x4_1).f1.f1), .int .i64 ((rd_T65 l0 x4_1).f1.f2), .int .i64 ((rd_T65 l0 x4_1).f1.f3), .string ((rd_T65 l0 x4_1).f1.f4), .int .i64 ((rd_T65 l0 x4_1).f2), .int .i64 ((rd_T65 l0 x4_1).f3)], .agg #[.string ((rd_T65 x3_1 (ji7)).f0.f0), .int .i64 ((rd_T65 x3_1 (ji7)).f0.f1), .string ((rd_T65 x3_1 (ji7)).f1.f0), .int .i64 ((rd_T65 x3_1 (ji7)).f1.f1), .int .i64 ((rd_T65 x3_1 (ji7)).f1.f2), .int .i64 ((rd_T65 x3_1 (ji7)).f1.f3), .string ((rd_T65 x3_1 (ji7)).f1.f4), .int .i64 ((rd_T65 x3_1 (ji7)).f2), .int .i64 ((rd_T65 x3_1 (ji7)).f3)]] (by rfl) rfl rfl (by (try simp only [List.map_toArray, List.map_cons, List.map_nil]); first | done | (simp only [hji7]; rfl) | rfl | (simp only [List.length_drop, List.length_take]; rfl)) ?_
                             with_reducible refine (lombardref17_Ahead.calls ((rd_T65 l0 x4_1).f0.f0) ((rd_T65 l0 x4_1).f0.f1) ((rd_T65 l0 x4_1).f1.f0) ((rd_T65 l0 x4_1).f1.f1) ((rd_T65 l0 x4_1).f1.f2) ((rd_T65 l0 x4_1).f1.f3) ((rd_T65 l0 x4_1).f1.f4) ((rd_T65 l0 x4_1).f2) ((rd_T65 l0 x4_1).f3) ((rd_T65 x3_1 (ji7)).f0.f0) ((rd_T65 x3_1 (ji7)).f0.f1) ((rd_T65 x3_1 (ji7)).f1.f0) ((rd_T65 x3_1 (ji7)).f1.f1) ((rd_T65 x3_1 (ji7)).f1.f2) ((rd_T65 x3_1 (ji7)).f1.f3) ((rd_T65 x3_1 (ji7)).f1.f4) ((rd_T65 x3_1 (ji7)).f2) ((rd_T65 x3_1 (ji7)).f3) false _ A10.out).mono ?_
                             rintro e w22 ⟨rfl, hb⟩
                             have HS9_ := (hb.cell (World.block_lt_of_cell? _ _ (hHeld.2.2.2.2.2.2.2.2.2.1))).trans (hHeld.2.2.2.2.2.2.2.2.2.1)
                             have HS10_ := (hb.cell (World.block_lt_of_cell? _ _ (hHeld.2.2.2.2.2.2.2.2.2.2.1))).trans (hHeld.2.2.2.2.2.2.2.2.2.2.1)
                             have HS11_ := (hb.cell (World.block_lt_of_cell? _ _ (hHeld.2.2.2.2.2.2.2.2.2.2.2.1))).trans (hHeld.2.2.2.2.2.2.2.2.2.2.2.1)
                             have HS12_ := (hb.cell (World.block_lt_of_cell? _ _ (hHeld.2.2.2.2.2.2.2.2.2.2.2.2.1))).trans (hHeld.2.2.2.2.2.2.2.2.2.2.2.2.1)
                             have HS13_ := (hb.cell (World.block_lt_of_cell? _ _ (hHeld.2.2.2.2.2.2.2.2.2.2.2.2.2.1))).trans (hHeld.2.2.2.2.2.2.2.2.2.2.2.2.2.1)
                             have HS14_ := (hb.cell (World.block_lt_of_cell? _ _ (hHeld.2.2.2.2.2.2.2.2.2.2.2.2.2.2.1))).trans (hHeld.2.2.2.2.2.2.2.2.2.2.2.2.2.2.1)
                             have HS15_ := (hb.cell (World.block_lt_of_cell? _ _ (hHeld.2.2.2.2.2.2.2.2.2.2.2.2.2.2.2.1))).trans (hHeld.2.2.2.2.2.2.2.2.2.2.2.2.2.2.2.1)
                             have HS16_ := (hb.cell (World.block_lt_of_cell? _ _ (hHeld.2.2.2.2.2.2.2.2.2.2.2.2.2.2.2.2.1))).trans (hHeld.2.2.2.2.2.2.2.2.2.2.2.2.2.2.2.2.1)
                             have HS17_ := (hb.cell (World.block_lt_of_cell? _ _ (hHeld.2.2.2.2.2.2.2.2.2.2.2.2.2.2.2.2.2))).trans (hHeld.2.2.2.2.2.2.2.2.2.2.2.2.2.2.2.2.2)
                             refine ⟨_, rfl, ?_⟩
                             have n0_ := Aside0.mk (Kd.R_below (gR HO_3) hb)
                             have n1_ := Aside0.mk (below_step (gB HB) hb)
                             clear HO_3; clear HB
                             have HO_3 := n0_
                             have HB := n1_
                             clear n0_ n1_
                             try clear hb
                             try clear hb2
                             try clear hk
                             try clear hi
                             refine hK.out _ _ ⟨((HB.out.cell (World.block_lt_of_cell? w _ hw321_0)).trans hw321_0), ((HB.out.cell (World.block_lt_of_cell? w _ hw321_1)).trans hw321_1), ((HB.out.cell (World.block_lt_of_cell? w _ hw321_2)).trans hw321_2), ((HB.out.cell (World.block_lt_of_cell? w _ hw321_3)).trans hw321_3), ((HB.out.cell (World.block_lt_of_cell? w _ hw321_4)).trans hw321_4), ((HB.out.cell (World.block_lt_of_cell? w _ hw321_5)).trans hw321_5), ((HB.out.cell (World.block_lt_of_cell? w _ hw321_6)).trans hw321_6), ((HB.out.cell (World.block_lt_of_cell? w _ hw321_7)).trans hw321_7), ((HB.out.cell (World.block_lt_of_cell? w _ hw321_8)).trans hw321_8), HS9_, HS10_, HS11_, HS12_, HS13_, HS14_, HS15_, HS16_, HS17_⟩ (fun hHeld => ?_)
                             clear hK K
                             refine norm_ (a' := ?_) ?_ ?_
                             rotate_left
                             · show Act.put _ (some 27) _ = _
                               simp only [Act.put, sA, sB, sC, i64_w, i32_w]
                               rfl
                             refine pA (i := 13) (N := some 28) HT_ (pf 14 14) ?_
                             refine done_ (done_of HT_.out (by kernel_rfl)) ?_
                             try go_wp2_with (first | ((with_reducible refine gate_dst (N := 31) rfl ?_); refine Kd.R_lit k65 _ 65 ?hg (N := 31) ?hd (xs := ([] : List (S65))) (inner := []) (ok := fun _ => True) (okp := fun _ => True) ?hr ?hp (fun _ hk => hk) trivial (Below.refl _ _) (Nat.le_refl _) (by simp) ?_; (case hd => rfl); (case hg => rfl); (case hr => first | (go_simp; done) | (go_simp; rfl) | (have hcq := hcq_.out; have hfq := hfq_.out; go_simp; done)); (case hp => exact (Reps.none _ _)); intro v325 w23 ho24 hb hg_ hnew_; clear hg_ hnew_; (first | rw [← Ny324.out] at ho24 | (simp only [Int.reduceToNat] at ho24; rw [← Ny324.out] at ho24)); have n0_ := Aside0.mk (Kd.R_elder' (gR HO_3) (Kd.R_base ho24) hb); have n1_ := Aside0.mk (Kd.R_lower (Kd.R_new' ho24 (Kd.R_lt (gR HO_3))) (below_size (gB HB))); have n2_ := Aside0.mk (below_step (gB HB) hb); clear HO_3; clear HB; have HO_3 := n0_; have HO326 := n1_; have HB := n2_; clear n0_ n1_ n2_; clear hb ho24; have q25 : (x5_2 : Int) ≤ ((x3_1.length : Int) : Int) := od; obtain ⟨i025, hi025, _, hsz25, _⟩ := info_parts info65; have hroom25 : x3_1.length ≤ co3 := (Kd.R_reads' HO_3.out).2.1; have hC25 : Kd.C k65 _ (some ad322) x3_1.length x3_1 := (Kd.R_reads' HO_3.out).2.2; have hcut25 := cut_to (P := Try.prog) 40 65 .i64 Try.underlying40 hi025 (some ad322) x3_1.length co3 x5_2 (od) q25 hroom25; have hr25 := Kd.C_take (m := (x5_2 : Int).toNat) hC25 (by omega); have hy25 : y327.length = (x5_2 : Int).toNat := (by rw [Ny327.out, List.length_take]; omega); rw [← Ny327.out] at hr25; rw [← hy25] at hcut25; have HR330 := Aside0.mk hr25; have HC330 := Aside0.mk (show y327.length ≤ co3 from by omega); clear hr25 hC25 hroom25 hi025 hsz25; have KY25 := Aside0.mk hy25; clear hy25; have KL25 := Aside0.mk (show (x5_2 : Int).toNat ≤ x3_1.length from by omega); replace q25 := eq_true q25) | ((with_reducible refine gate_builtin (b := .append) (xs := #[.tmp 31, .tmp 34]) rfl ?_); at_builtin; refine Kd.R_append_rows k65 (w0 := w) w.heap.size rfl (.tmp 31) (.tmp 34) 40 65 (.agg #[(.string ⟨#[]⟩), (.int .i64 0), (.string ⟨#[]⟩), (.int .i64 0), (.int .i64 0), (.int .i64 0), (.string ⟨#[]⟩), (.int .i64 0), (.int .i64 0)]) 96 rfl Try.underlying40 info65 rfl (by decide) (by omega) v325 y324 y327 _ _ _ (fun k_ => some k_ ≠ (.slice (some ad322) x3_1.length co3 : Value).ownBlock) (fun _ => False) rfl rfl ?aO ?aR (fun _ _ h => h) (fun _ h => h.elim) ?aF ?aB ?aS ?aL ?_; (case aR => repeat (first | exact (by repeat (first | (with_reducible exact HR330.out) | (with_reducible refine Kd.C_alloc ?_ _) | (with_reducible refine Kd.C_drewN ?_ _) | (with_reducible refine Kd.C_drew ?_) | exact HR330.out)) | (with_reducible refine Kd.C_alloc ?_ _) | (with_reducible refine Kd.C_drewN ?_ _) | (with_reducible refine Kd.C_drew ?_))); (case aB => exact (gB HB)); (case aF => exact (fun k_ hk => Kd.fresh' (Kd.R_lt (gR HO_3)) k_ hk)); (case aO => exact (gR ⟨Kd.R_mono HO326.out (fun _ hk => hk.2)⟩)); (case aS => exact (below_size (gB HB))); (case aL => have := LMc16.out; omega); intro v332 w26 ho hb hg hat; rw [← Ny331.out] at ho; have n0_ := Aside0.mk (Kd.R_after (ok := (fun _ => True)) (gR HO_3) hg hat); have n1_ := Aside0.mk (hb); have n2_ := Aside0.mk ((show Kd.C k65 w26 (some ad322) y327.length y327 from by rw [Ny327.out]; exact Kd.C_take (m := (x5_2 : Int).toNat) ((Kd.R_reads' (Kd.R_after (ok := (fun _ => True)) (gR HO_3) hg hat)).2.2) KL25.out)); have n3_ := Aside0.mk (ho); clear HO_3; clear HB; clear HR330; clear HO326; have HO_3 := n0_; have HB := n1_; have HR330 := n2_; have HO333 := n3_; clear n0_ n1_ n2_ n3_; clear ho hb hg hat; have p334 : 0 ≤ (x4_1 : Int) := od; have q334 : x4_1 < (l0.length : Int) := od; obtain ⟨ad334, e334, hx334_0, hx334_1, hx334_2, hx334_3, hx334_4, hx334_5, hx334_6, hx334_7, hx334_8⟩ := at_T65 HR0.out x4_1 p334 q334; obtain rfl : ad321 = ad334 := (by injection e334); replace hx334_0 := (HB.out.cell (World.block_lt_of_cell? w _ hx334_0)).trans hx334_0; replace hx334_1 := (HB.out.cell (World.block_lt_of_cell? w _ hx334_1)).trans hx334_1; replace hx334_2 := (HB.out.cell (World.block_lt_of_cell? w _ hx334_2)).trans hx334_2; replace hx334_3 := (HB.out.cell (World.block_lt_of_cell? w _ hx334_3)).trans hx334_3; replace hx334_4 := (HB.out.cell (World.block_lt_of_cell? w _ hx334_4)).trans hx334_4; replace hx334_5 := (HB.out.cell (World.block_lt_of_cell? w _ hx334_5)).trans hx334_5; replace hx334_6 := (HB.out.cell (World.block_lt_of_cell? w _ hx334_6)).trans hx334_6; replace hx334_7 := (HB.out.cell (World.block_lt_of_cell? w _ hx334_7)).trans hx334_7; replace hx334_8 := (HB.out.cell (World.block_lt_of_cell? w _ hx334_8)).trans hx334_8; replace p334 := eq_true p334; replace q334 := eq_true q334) | ((with_reducible refine gate_builtin (b := .append) (xs := #[.tmp 36, .tmp 41]) rfl ?_); at_builtin; refine Kd.R_append k65 (w0 := w) w.heap.size rfl (.tmp 36) (.tmp 41) 40 65 (.agg #[(.string ⟨#[]⟩), (.int .i64 0), (.string ⟨#[]⟩), (.int .i64 0), (.int .i64 0), (.int .i64 0), (.string ⟨#[]⟩), (.int .i64 0), (.int .i64 0)]) 96 rfl Try.underlying40 info65 rfl (by decide) (by omega) v332 y331 (⟨(⟨(rd_T65 l0 x4_1).f0.f0, (rd_T65 l0 x4_1).f0.f1⟩ : S43), (⟨(rd_T65 l0 x4_1).f1.f0, (rd_T65 l0 x4_1).f1.f1, (rd_T65 l0 x4_1).f1.f2, (rd_T65 l0 x4_1).f1.f3, (rd_T65 l0 x4_1).f1.f4⟩ : S45), (rd_T65 l0 x4_1).f2, (rd_T65 l0 x4_1).f3⟩ : S65) [.string ((rd_T65 l0 x4_1).f0.f0), .int .i64 ((rd_T65 l0 x4_1).f0.f1), .string ((rd_T65 l0 x4_1).f1.f0), .int .i64 ((rd_T65 l0 x4_1).f1.f1), .int .i64 ((rd_T65 l0 x4_1).f1.f2), .int .i64 ((rd_T65 l0 x4_1).f1.f3), .string ((rd_T65 l0 x4_1).f1.f4), .int .i64 ((rd_T65 l0 x4_1).f2), .int .i64 ((rd_T65 l0 x4_1).f3)] (fun k_ => some k_ ≠ (.slice (some ad322) x3_1.length co3 : Value).ownBlock) (fun _ => False) rfl rfl ?aP (fun _ hk => hk.elim) ?aF ?aO ?aB ?aS ?aL ?_; (case aP => exact k65_mkM _ _ _ (⟨(⟨(rd_T65 l0 x4_1).f0.f0, (rd_T65 l0 x4_1).f0.f1⟩ : S43), (⟨(rd_T65 l0 x4_1).f1.f0, (rd_T65 l0 x4_1).f1.f1, (rd_T65 l0 x4_1).f1.f2, (rd_T65 l0 x4_1).f1.f3, (rd_T65 l0 x4_1).f1.f4⟩ : S45), (rd_T65 l0 x4_1).f2, (rd_T65 l0 x4_1).f3⟩ : S65)); (case aB => exact (gB HB)); (case aF => exact (fun k_ hk => Kd.fresh' (Kd.R_lt (gR HO_3)) k_ hk)); (case aO => exact (gR HO333)); (case aS => exact (below_size (gB HB))); (case aL => have := LMc17.out; omega); intro v336 w27 ho hb hg hat; rw [← Ny335.out] at ho; have n0_ := Aside0.mk (Kd.R_after (ok := (fun _ => True)) (gR HO_3) hg hat); have n1_ := Aside0.mk (hb); have n2_ := Aside0.mk ((show Kd.C k65 w27 (some ad322) y327.length y327 from by rw [Ny327.out]; exact Kd.C_take (m := (x5_2 : Int).toNat) ((Kd.R_reads' (Kd.R_after (ok := (fun _ => True)) (gR HO_3) hg hat)).2.2) KL25.out)); have n3_ := Aside0.mk (ho); clear HO_3; clear HB; clear HR330; clear HO333; have HO_3 := n0_; have HB := n1_; have HR330 := n2_; have HO337 := n3_; clear n0_ n1_ n2_ n3_; clear ho hb hg hat; have q28 : (x5_2 : Int) ≤ ((x3_1.length : Int) : Int) := od; obtain ⟨i028, hi028, _, hsz28, _⟩ := info_parts info65; have hroom28 : x3_1.length ≤ co3 := (Kd.R_reads' HO_3.out).2.1; have hC28 : Kd.C k65 _ (some ad322) x3_1.length x3_1 := (Kd.R_reads' HO_3.out).2.2; have q028 : (0 : Int) ≤ (x5_2 : Int) := od; have hcut28 := cut_from (P := Try.prog) 40 65 .i64 Try.underlying40 hi028 9 hsz28 (some ad322) x3_1.length co3 x5_2 q028 q28; have hr28 := Kd.C_drop (m := (x5_2 : Int).toNat) (c := co3) hC28 (by omega) hroom28; obtain ⟨A28, hA28⟩ : ∃ A1, A1 = (if co3 = (x5_2 : Int).toNat then (some ad322) else ((some ad322) : Option Addr).map (·.add ((x5_2 : Int).toNat * 9))) := ⟨_, rfl⟩; obtain ⟨c28, hc28⟩ : ∃ c1, c1 = co3 - (x5_2 : Int).toNat := ⟨_, rfl⟩; have hy28 : y338.length = x3_1.length - (x5_2 : Int).toNat := (by rw [Ny338.out, List.length_drop] <;> omega); rw [show (x3_1).drop (x5_2 : Int).toNat = y338 from Ny338.out.symm] at hr28; replace hr28 : Kd.C k65 _ A28 y338.length y338 := (by rw [hA28]; exact hr28); rw [← hy28, ← hA28, ← hc28] at hcut28; have HR341 := Aside0.mk hr28; have HC341 := Aside0.mk (show y338.length ≤ c28 from by rw [hy28, hc28]; exact Nat.sub_le_sub_right hroom28 _); clear hr28 hC28 hroom28 hi028 hsz28 hc28; have KY28 := Aside0.mk hy28; have KA28 := Aside0.mk hA28; clear hy28 hA28; have KL28 := Aside0.mk (show (x5_2 : Int).toNat ≤ x3_1.length from by omega); replace q28 := eq_true q28) | ((with_reducible refine gate_builtin (b := .append) (xs := #[.tmp 43, .tmp 46]) rfl ?_); at_builtin; refine Kd.R_append_rows k65 (w0 := w) w.heap.size rfl (.tmp 43) (.tmp 46) 40 65 (.agg #[(.string ⟨#[]⟩), (.int .i64 0), (.string ⟨#[]⟩), (.int .i64 0), (.int .i64 0), (.int .i64 0), (.string ⟨#[]⟩), (.int .i64 0), (.int .i64 0)]) 96 rfl Try.underlying40 info65 rfl (by decide) (by omega) v336 y335 y338 _ _ _ (fun k_ => some k_ ≠ (.slice (some ad322) x3_1.length co3 : Value).ownBlock) (fun _ => False) rfl rfl ?aO ?aR (fun _ _ h => h) (fun _ h => h.elim) ?aF ?aB ?aS ?aL ?_; (case aR => repeat (first | exact (by repeat (first | (with_reducible exact HR341.out) | (with_reducible refine Kd.C_alloc ?_ _) | (with_reducible refine Kd.C_drewN ?_ _) | (with_reducible refine Kd.C_drew ?_) | exact HR341.out)) | (with_reducible refine Kd.C_alloc ?_ _) | (with_reducible refine Kd.C_drewN ?_ _) | (with_reducible refine Kd.C_drew ?_))); (case aB => exact (gB HB)); (case aF => exact (fun k_ hk => Kd.fresh' (Kd.R_lt (gR HO_3)) k_ hk)); (case aO => exact (gR HO337)); (case aS => exact (below_size (gB HB))); (case aL => have := LMc20.out; omega); intro v343 w29 ho hb hg hat; rw [← Ny342.out] at ho; have n0_ := Aside0.mk (Kd.R_after (ok := (fun _ => True)) (gR HO_3) hg hat); have n1_ := Aside0.mk (hb); have n2_ := Aside0.mk ((show Kd.C k65 w29 (some ad322) y327.length y327 from by rw [Ny327.out]; exact Kd.C_take (m := (x5_2 : Int).toNat) ((Kd.R_reads' (Kd.R_after (ok := (fun _ => True)) (gR HO_3) hg hat)).2.2) KL25.out)); have n3_ := Aside0.mk ((show Kd.C k65 w29 A28 y338.length y338 from by rw [Ny338.out, KA28.out]; exact Kd.C_drop (m := (x5_2 : Int).toNat) (c := co3) ((Kd.R_reads' (Kd.R_after (ok := (fun _ => True)) (gR HO_3) hg hat)).2.2) KL28.out ((Kd.R_reads' (Kd.R_after (ok := (fun _ => True)) (gR HO_3) hg hat)).2.1))); have n4_ := Aside0.mk (ho); clear HO_3; clear HB; clear HR330; clear HR341; clear HO337; have HO_3 := n0_; have HB := n1_; have HR330 := n2_; have HR341 := n3_; have HO344 := n4_; clear n0_ n1_ n2_ n3_ n4_; clear ho hb hg hat))
                             go_roundg k2
                             case measure => have := HK1.out; have := HK2.out; omega
                             case rel => exact ⟨(y342), (wrap64 (x4_1 + 1)), ac, H', ⟨by have := HK1.out; have := HK2.out; omega⟩, ⟨gR ⟨Kd.R_mono HO344.out (fun _ hk => trivial)⟩⟩, ⟨gB HB⟩⟩
                           · rw [if_neg c20] at H
                             exact absurd H (by simp)
                         · rw [if_neg c17] at H
                           exact absurd H (by simp)
                       · rw [if_neg c16] at H
                         exact absurd H (by simp)
                     · rw [if_neg c15] at H
                       exact absurd H (by simp)
                   · rw [if_neg c14] at H
                     exact absurd H (by simp)
               · rw [if_neg c9] at H
                 exact absurd H (by simp)
             · rw [if_neg c8] at H
               exact absurd H (by simp)
           · rw [if_neg c6] at H
             exact absurd H (by simp)
         · rw [if_neg c5] at H
           exact absurd H (by simp)
       · rw [if_neg c4] at H
         have c4b0 : decide (0 < x5_2) = false := decide_eq_false c4
         clear c4
         obtain ⟨y345, hy345⟩ : ∃ y_ : List (S65), y_ = (([] : List (S65))) := ⟨_, rfl⟩
         replace H : (if 0 ≤ x5_2 then (if x5_2 ≤ (x3_1.length : Int) then ((some (x3_1.take (x5_2 : Int).toNat : List (S65))).bind fun y348 => (if y345.length + y348.length < 1466015503701 then ((some (y345 ++ y348 : List (S65))).bind fun y352 => (if 0 ≤ x4_1 then (if x4_1 < (l0.length : Int) then (if y352.length < 1466015503701 then ((some (y352 ++ [(⟨(⟨(rd_T65 l0 x4_1).f0.f0, (rd_T65 l0 x4_1).f0.f1⟩ : S43), (⟨(rd_T65 l0 x4_1).f1.f0, (rd_T65 l0 x4_1).f1.f1, (rd_T65 l0 x4_1).f1.f2, (rd_T65 l0 x4_1).f1.f3, (rd_T65 l0 x4_1).f1.f4⟩ : S45), (rd_T65 l0 x4_1).f2, (rd_T65 l0 x4_1).f3⟩ : S65)] : List (S65))).bind fun y356 => ((some (x3_1.drop (x5_2 : Int).toNat : List (S65))).bind fun y359 => (if y356.length + y359.length < 1466015503701 then (lombardref17_Rank.l0 k2 l0 (y356 ++ y359) (wrap64 (x4_1 + 1))) else (none)))) else (none)) else (none)) else (none))) else (none))) else (none)) else (none)) = some r := by first | (rw [hy345]; with_reducible exact H) | (have H2_ := (Option.bind_some _ _).symm.trans H; rw [hy345]; with_reducible exact H2_) | (have H2_ := (Option.bind_some _ _).symm.trans H; with_reducible exact H2_) | with_reducible exact H | (rw [hy345]; exact H) | exact H
         have Ny345 := Aside0.mk hy345; clear hy345
         by_cases c30 : 0 ≤ x5_2
         · rw [if_pos c30] at H
           have c30b0 := eq_true c30
           have c30b1 : decide (0 ≤ x5_2) = true := decide_eq_true c30
           clear c30
           by_cases c31 : x5_2 ≤ (x3_1.length : Int)
           · rw [if_pos c31] at H
             have c31b0 := eq_true c31
             have c31b1 : decide (x5_2 ≤ (x3_1.length : Int)) = true := decide_eq_true c31
             clear c31
             obtain ⟨y348, hy348⟩ : ∃ y_ : List (S65), y_ = (x3_1.take (x5_2 : Int).toNat) := ⟨_, rfl⟩
             replace H : (if y345.length + y348.length < 1466015503701 then ((some (y345 ++ y348 : List (S65))).bind fun y352 => (if 0 ≤ x4_1 then (if x4_1 < (l0.length : Int) then (if y352.length < 1466015503701 then ((some (y352 ++ [(⟨(⟨(rd_T65 l0 x4_1).f0.f0, (rd_T65 l0 x4_1).f0.f1⟩ : S43), (⟨(rd_T65 l0 x4_1).f1.f0, (rd_T65 l0 x4_1).f1.f1, (rd_T65 l0 x4_1).f1.f2, (rd_T65 l0 x4_1).f1.f3, (rd_T65 l0 x4_1).f1.f4⟩ : S45), (rd_T65 l0 x4_1).f2, (rd_T65 l0 x4_1).f3⟩ : S65)] : List (S65))).bind fun y356 => ((some (x3_1.drop (x5_2 : Int).toNat : List (S65))).bind fun y359 => (if y356.length + y359.length < 1466015503701 then (lombardref17_Rank.l0 k2 l0 (y356 ++ y359) (wrap64 (x4_1 + 1))) else (none)))) else (none)) else (none)) else (none))) else (none)) = some r := by first | (rw [hy348]; with_reducible exact H) | (have H2_ := (Option.bind_some _ _).symm.trans H; rw [hy348]; with_reducible exact H2_) | (have H2_ := (Option.bind_some _ _).symm.trans H; with_reducible exact H2_) | with_reducible exact H | (rw [hy348]; exact H) | exact H
             have Ny348 := Aside0.mk hy348; clear hy348
             by_cases c32 : y345.length + y348.length < 1466015503701
             · rw [if_pos c32] at H
               have LMc32 := Aside0.mk c32; clear c32
               obtain ⟨y352, hy352⟩ : ∃ y_ : List (S65), y_ = (y345 ++ y348) := ⟨_, rfl⟩
               replace H : (if 0 ≤ x4_1 then (if x4_1 < (l0.length : Int) then (if y352.length < 1466015503701 then ((some (y352 ++ [(⟨(⟨(rd_T65 l0 x4_1).f0.f0, (rd_T65 l0 x4_1).f0.f1⟩ : S43), (⟨(rd_T65 l0 x4_1).f1.f0, (rd_T65 l0 x4_1).f1.f1, (rd_T65 l0 x4_1).f1.f2, (rd_T65 l0 x4_1).f1.f3, (rd_T65 l0 x4_1).f1.f4⟩ : S45), (rd_T65 l0 x4_1).f2, (rd_T65 l0 x4_1).f3⟩ : S65)] : List (S65))).bind fun y356 => ((some (x3_1.drop (x5_2 : Int).toNat : List (S65))).bind fun y359 => (if y356.length + y359.length < 1466015503701 then (lombardref17_Rank.l0 k2 l0 (y356 ++ y359) (wrap64 (x4_1 + 1))) else (none)))) else (none)) else (none)) else (none)) = some r := by first | (rw [hy352]; with_reducible exact H) | (have H2_ := (Option.bind_some _ _).symm.trans H; rw [hy352]; with_reducible exact H2_) | (have H2_ := (Option.bind_some _ _).symm.trans H; with_reducible exact H2_) | with_reducible exact H | (rw [hy352]; exact H) | exact H
               have Ny352 := Aside0.mk hy352; clear hy352
               by_cases c33 : 0 ≤ x4_1
               · rw [if_pos c33] at H
                 have c33b0 : decide (0 ≤ x4_1) = true := decide_eq_true c33
                 clear c33
                 by_cases c34 : x4_1 < (l0.length : Int)
                 · rw [if_pos c34] at H
                   have c34b0 : decide (x4_1 < (l0.length : Int)) = true := decide_eq_true c34
                   clear c34
                   by_cases c35 : y352.length < 1466015503701
                   · rw [if_pos c35] at H
                     have LMc35 := Aside0.mk c35; clear c35
                     obtain ⟨y356, hy356⟩ : ∃ y_ : List (S65), y_ = (y352 ++ [(⟨(⟨(rd_T65 l0 x4_1).f0.f0, (rd_T65 l0 x4_1).f0.f1⟩ : S43), (⟨(rd_T65 l0 x4_1).f1.f0, (rd_T65 l0 x4_1).f1.f1, (rd_T65 l0 x4_1).f1.f2, (rd_T65 l0 x4_1).f1.f3, (rd_T65 l0 x4_1).f1.f4⟩ : S45), (rd_T65 l0 x4_1).f2, (rd_T65 l0 x4_1).f3⟩ : S65)]) := ⟨_, rfl⟩
                     replace H : ((some (x3_1.drop (x5_2 : Int).toNat : List (S65))).bind fun y359 => (if y356.length + y359.length < 1466015503701 then (lombardref17_Rank.l0 k2 l0 (y356 ++ y359) (wrap64 (x4_1 + 1))) else (none))) = some r := by first | (rw [hy356]; with_reducible exact H) | (have H2_ := (Option.bind_some _ _).symm.trans H; rw [hy356]; with_reducible exact H2_) | (have H2_ := (Option.bind_some _ _).symm.trans H; with_reducible exact H2_) | with_reducible exact H | (rw [hy356]; exact H) | exact H
                     have Ny356 := Aside0.mk hy356; clear hy356
                     have c36b0 := eq_true (od : 0 ≤ x5_2)
                     have c37b0 := eq_true (od : x5_2 ≤ (x3_1.length : Int))
                     obtain ⟨y359, hy359⟩ : ∃ y_ : List (S65), y_ = (x3_1.drop (x5_2 : Int).toNat) := ⟨_, rfl⟩
                     replace H : (if y356.length + y359.length < 1466015503701 then (lombardref17_Rank.l0 k2 l0 (y356 ++ y359) (wrap64 (x4_1 + 1))) else (none)) = some r := by first | (rw [hy359]; with_reducible exact H) | (have H2_ := (Option.bind_some _ _).symm.trans H; rw [hy359]; with_reducible exact H2_) | (have H2_ := (Option.bind_some _ _).symm.trans H; with_reducible exact H2_) | with_reducible exact H | (rw [hy359]; exact H) | exact H
                     have Ny359 := Aside0.mk hy359; clear hy359
                     by_cases c38 : y356.length + y359.length < 1466015503701
                     · rw [if_pos c38] at H
                       have LMc38 := Aside0.mk c38; clear c38
                       obtain ⟨y363, hy363⟩ : ∃ y_ : List (S65), y_ = (y356 ++ y359) := ⟨_, rfl⟩
                       replace H : (lombardref17_Rank.l0 k2 l0 y363 (wrap64 (x4_1 + 1))) = some r := by first | (rw [hy363]; with_reducible exact H) | (have H2_ := (Option.bind_some _ _).symm.trans H; rw [hy363]; with_reducible exact H2_) | (have H2_ := (Option.bind_some _ _).symm.trans H; with_reducible exact H2_) | with_reducible exact H | (rw [hy363]; exact H) | exact H
                       have Ny363 := Aside0.mk hy363; clear hy363
                       have H' := Aside0.mk H
                       clear H
                       try go_wp2
                       have n0_ := Aside0.mk (Kd.R_drew HO_3.out)
                       have n1_ := Aside0.mk (below_drew1 HB.out)
                       clear HO_3; clear HB
                       have HO_3 := n0_
                       have HB := n1_
                       clear n0_ n1_
                       refine start_ (n := 14) (S := fun w' => True) (ds := []) (pf 14 0) (by kernel_rfl) rfl rfl trivial (fun hHeld => ?_); refine with_tabW lombardref17_Rank.tab6 lombardref17_Rank.bits6 (fun HT_ HW_ => ?_)
                       generalize wr.drew = w39 at HO_3 HB hHeld ⊢
                       refine pA (i := 0) (N := some 15) HT_ (pf 14 1) ?_
                       refine pA (i := 1) (N := some 16) HT_ (pf 14 2) ?_
                       refine pA (i := 2) (N := some 17) HT_ (pf 14 3) ?_
                       refine pure_ (i := 3) (N := some 18) (v := undef) (a' := ?_) (pf 14 4) rfl rfl (any_of HT_.out (by kernel_rfl)) (fun _ _ _ h => h) (Or.inr ⟨by rfl, rfl⟩) ?_ ?_
                       rotate_left
                       · simp only [Act.put, sA, sB, sC, i64_w, i32_w]
                         rfl
                       refine pure_ (i := 4) (N := some 19) (v := undef) (a' := ?_) (pf 14 5) rfl rfl (any_of HT_.out (by kernel_rfl)) (fun _ _ _ h => h) (Or.inr ⟨by rfl, rfl⟩) ?_ ?_
                       rotate_left
                       · simp only [Act.put, sA, sB, sC, i64_w, i32_w]
                         rfl
                       refine pure_ (i := 5) (N := some 20) (v := undef) (a' := ?_) (pf 14 6) rfl rfl (any_of HT_.out (by kernel_rfl)) (fun _ _ _ h => h) (Or.inr ⟨by rfl, rfl⟩) ?_ ?_
                       rotate_left
                       · simp only [Act.put, sA, sB, sC, i64_w, i32_w]
                         rfl
                       refine pure_ (i := 6) (N := some 21) (v := undef) (a' := ?_) (pf 14 7) rfl rfl (any_of HT_.out (by kernel_rfl)) (fun _ _ _ h => h) (Or.inr ⟨by rfl, rfl⟩) ?_ ?_
                       rotate_left
                       · simp only [Act.put, sA, sB, sC, i64_w, i32_w]
                         rfl
                       refine pure_ (i := 7) (N := some 22) (v := undef) (a' := ?_) (pf 14 8) rfl rfl (any_of HT_.out (by kernel_rfl)) (fun _ _ _ h => h) (Or.inr ⟨by rfl, rfl⟩) ?_ ?_
                       rotate_left
                       · simp only [Act.put, sA, sB, sC, i64_w, i32_w]
                         rfl
                       refine pure_ (i := 8) (N := some 23) (v := undef) (a' := ?_) (pf 14 9) rfl rfl (any_of HT_.out (by kernel_rfl)) (fun _ _ _ h => h) (Or.inr ⟨by rfl, rfl⟩) ?_ ?_
                       rotate_left
                       · simp only [Act.put, sA, sB, sC, i64_w, i32_w]
                         rfl
                       refine pure_ (i := 9) (N := some 24) (v := undef) (a' := ?_) (pf 14 10) rfl rfl (any_of HT_.out (by kernel_rfl)) (fun _ _ _ h => h) (Or.inr ⟨by rfl, rfl⟩) ?_ ?_
                       rotate_left
                       · simp only [Act.put, sA, sB, sC, i64_w, i32_w]
                         rfl
                       refine pure_ (i := 10) (N := some 25) (v := undef) (a' := ?_) (pf 14 11) rfl rfl (any_of HT_.out (by kernel_rfl)) (fun _ _ _ h => h) (Or.inr ⟨by rfl, rfl⟩) ?_ ?_
                       rotate_left
                       · simp only [Act.put, sA, sB, sC, i64_w, i32_w]
                         rfl
                       refine pure_ (i := 11) (N := some 26) (v := undef) (a' := ?_) (pf 14 12) rfl rfl (any_of HT_.out (by kernel_rfl)) (fun _ _ _ h => h) (Or.inr ⟨by rfl, rfl⟩) ?_ ?_
                       rotate_left
                       · simp only [Act.put, sA, sB, sC, i64_w, i32_w]
                         rfl
                       refine pure_ (i := 12) (N := some 27) (v := undef) (a' := ?_) (pf 14 13) rfl rfl (any_of HT_.out (by kernel_rfl)) (fun _ _ _ h => h) (Or.inr ⟨by rfl, rfl⟩) ?_ ?_
                       rotate_left
                       · simp only [Act.put, sA, sB, sC, i64_w, i32_w]
                         rfl
                       refine pA (i := 13) (N := some 28) HT_ (pf 14 14) ?_
                       refine done_ (done_of HT_.out (by kernel_rfl)) ?_
                       try go_wp2_with (first | ((with_reducible refine gate_dst (N := 31) rfl ?_); refine Kd.R_lit k65 _ 65 ?hg (N := 31) ?hd (xs := ([] : List (S65))) (inner := []) (ok := fun _ => True) (okp := fun _ => True) ?hr ?hp (fun _ hk => hk) trivial (Below.refl _ _) (Nat.le_refl _) (by simp) ?_; (case hd => rfl); (case hg => rfl); (case hr => first | (go_simp; done) | (go_simp; rfl) | (have hcq := hcq_.out; have hfq := hfq_.out; go_simp; done)); (case hp => exact (Reps.none _ _)); intro v346 w40 ho41 hb hg_ hnew_; clear hg_ hnew_; (first | rw [← Ny345.out] at ho41 | (simp only [Int.reduceToNat] at ho41; rw [← Ny345.out] at ho41)); have n0_ := Aside0.mk (Kd.R_elder' (gR HO_3) (Kd.R_base ho41) hb); have n1_ := Aside0.mk (Kd.R_lower (Kd.R_new' ho41 (Kd.R_lt (gR HO_3))) (below_size (gB HB))); have n2_ := Aside0.mk (below_step (gB HB) hb); clear HO_3; clear HB; have HO_3 := n0_; have HO347 := n1_; have HB := n2_; clear n0_ n1_ n2_; clear hb ho41; have q42 : (x5_2 : Int) ≤ ((x3_1.length : Int) : Int) := od; obtain ⟨i042, hi042, _, hsz42, _⟩ := info_parts info65; have hroom42 : x3_1.length ≤ co3 := (Kd.R_reads' HO_3.out).2.1; have hC42 : Kd.C k65 _ Ao3 x3_1.length x3_1 := (Kd.R_reads' HO_3.out).2.2; have hcut42 := cut_to (P := Try.prog) 40 65 .i64 Try.underlying40 hi042 Ao3 x3_1.length co3 x5_2 (od) q42 hroom42; have hr42 := Kd.C_take (m := (x5_2 : Int).toNat) hC42 (by omega); have hy42 : y348.length = (x5_2 : Int).toNat := (by rw [Ny348.out, List.length_take]; omega); rw [← Ny348.out] at hr42; rw [← hy42] at hcut42; have HR351 := Aside0.mk hr42; have HC351 := Aside0.mk (show y348.length ≤ co3 from by omega); clear hr42 hC42 hroom42 hi042 hsz42; have KY42 := Aside0.mk hy42; clear hy42; have KL42 := Aside0.mk (show (x5_2 : Int).toNat ≤ x3_1.length from by omega); replace q42 := eq_true q42) | ((with_reducible refine gate_builtin (b := .append) (xs := #[.tmp 31, .tmp 34]) rfl ?_); at_builtin; refine Kd.R_append_rows k65 (w0 := w) w.heap.size rfl (.tmp 31) (.tmp 34) 40 65 (.agg #[(.string ⟨#[]⟩), (.int .i64 0), (.string ⟨#[]⟩), (.int .i64 0), (.int .i64 0), (.int .i64 0), (.string ⟨#[]⟩), (.int .i64 0), (.int .i64 0)]) 96 rfl Try.underlying40 info65 rfl (by decide) (by omega) v346 y345 y348 _ _ _ (fun k_ => some k_ ≠ (.slice Ao3 x3_1.length co3 : Value).ownBlock) (fun _ => False) rfl rfl ?aO ?aR (fun _ _ h => h) (fun _ h => h.elim) ?aF ?aB ?aS ?aL ?_; (case aR => repeat (first | exact (by repeat (first | (with_reducible exact HR351.out) | (with_reducible refine Kd.C_alloc ?_ _) | (with_reducible refine Kd.C_drewN ?_ _) | (with_reducible refine Kd.C_drew ?_) | exact HR351.out)) | (with_reducible refine Kd.C_alloc ?_ _) | (with_reducible refine Kd.C_drewN ?_ _) | (with_reducible refine Kd.C_drew ?_))); (case aB => exact (gB HB)); (case aF => exact (fun k_ hk => Kd.fresh' (Kd.R_lt (gR HO_3)) k_ hk)); (case aO => exact (gR ⟨Kd.R_mono HO347.out (fun _ hk => hk.2)⟩)); (case aS => exact (below_size (gB HB))); (case aL => have := LMc32.out; omega); intro v353 w43 ho hb hg hat; rw [← Ny352.out] at ho; have n0_ := Aside0.mk (Kd.R_after (ok := (fun _ => True)) (gR HO_3) hg hat); have n1_ := Aside0.mk (hb); have n2_ := Aside0.mk ((show Kd.C k65 w43 Ao3 y348.length y348 from by rw [Ny348.out]; exact Kd.C_take (m := (x5_2 : Int).toNat) ((Kd.R_reads' (Kd.R_after (ok := (fun _ => True)) (gR HO_3) hg hat)).2.2) KL42.out)); have n3_ := Aside0.mk (ho); clear HO_3; clear HB; clear HR351; clear HO347; have HO_3 := n0_; have HB := n1_; have HR351 := n2_; have HO354 := n3_; clear n0_ n1_ n2_ n3_; clear ho hb hg hat; have p355 : 0 ≤ (x4_1 : Int) := od; have q355 : x4_1 < (l0.length : Int) := od; obtain ⟨ad355, e355, hx355_0, hx355_1, hx355_2, hx355_3, hx355_4, hx355_5, hx355_6, hx355_7, hx355_8⟩ := at_T65 HR0.out x4_1 p355 q355; cases e355; replace hx355_0 := (HB.out.cell (World.block_lt_of_cell? w _ hx355_0)).trans hx355_0; replace hx355_1 := (HB.out.cell (World.block_lt_of_cell? w _ hx355_1)).trans hx355_1; replace hx355_2 := (HB.out.cell (World.block_lt_of_cell? w _ hx355_2)).trans hx355_2; replace hx355_3 := (HB.out.cell (World.block_lt_of_cell? w _ hx355_3)).trans hx355_3; replace hx355_4 := (HB.out.cell (World.block_lt_of_cell? w _ hx355_4)).trans hx355_4; replace hx355_5 := (HB.out.cell (World.block_lt_of_cell? w _ hx355_5)).trans hx355_5; replace hx355_6 := (HB.out.cell (World.block_lt_of_cell? w _ hx355_6)).trans hx355_6; replace hx355_7 := (HB.out.cell (World.block_lt_of_cell? w _ hx355_7)).trans hx355_7; replace hx355_8 := (HB.out.cell (World.block_lt_of_cell? w _ hx355_8)).trans hx355_8; replace p355 := eq_true p355; replace q355 := eq_true q355) | ((with_reducible refine gate_builtin (b := .append) (xs := #[.tmp 36, .tmp 41]) rfl ?_); at_builtin; refine Kd.R_append k65 (w0 := w) w.heap.size rfl (.tmp 36) (.tmp 41) 40 65 (.agg #[(.string ⟨#[]⟩), (.int .i64 0), (.string ⟨#[]⟩), (.int .i64 0), (.int .i64 0), (.int .i64 0), (.string ⟨#[]⟩), (.int .i64 0), (.int .i64 0)]) 96 rfl Try.underlying40 info65 rfl (by decide) (by omega) v353 y352 (⟨(⟨(rd_T65 l0 x4_1).f0.f0, (rd_T65 l0 x4_1).f0.f1⟩ : S43), (⟨(rd_T65 l0 x4_1).f1.f0, (rd_T65 l0 x4_1).f1.f1, (rd_T65 l0 x4_1).f1.f2, (rd_T65 l0 x4_1).f1.f3, (rd_T65 l0 x4_1).f1.f4⟩ : S45), (rd_T65 l0 x4_1).f2, (rd_T65 l0 x4_1).f3⟩ : S65) [.string ((rd_T65 l0 x4_1).f0.f0), .int .i64 ((rd_T65 l0 x4_1).f0.f1), .string ((rd_T65 l0 x4_1).f1.f0), .int .i64 ((rd_T65 l0 x4_1).f1.f1), .int .i64 ((rd_T65 l0 x4_1).f1.f2), .int .i64 ((rd_T65 l0 x4_1).f1.f3), .string ((rd_T65 l0 x4_1).f1.f4), .int .i64 ((rd_T65 l0 x4_1).f2), .int .i64 ((rd_T65 l0 x4_1).f3)] (fun k_ => some k_ ≠ (.slice Ao3 x3_1.length co3 : Value).ownBlock) (fun _ => False) rfl rfl ?aP (fun _ hk => hk.elim) ?aF ?aO ?aB ?aS ?aL ?_; (case aP => exact k65_mkM _ _ _ (⟨(⟨(rd_T65 l0 x4_1).f0.f0, (rd_T65 l0 x4_1).f0.f1⟩ : S43), (⟨(rd_T65 l0 x4_1).f1.f0, (rd_T65 l0 x4_1).f1.f1, (rd_T65 l0 x4_1).f1.f2, (rd_T65 l0 x4_1).f1.f3, (rd_T65 l0 x4_1).f1.f4⟩ : S45), (rd_T65 l0 x4_1).f2, (rd_T65 l0 x4_1).f3⟩ : S65)); (case aB => exact (gB HB)); (case aF => exact (fun k_ hk => Kd.fresh' (Kd.R_lt (gR HO_3)) k_ hk)); (case aO => exact (gR HO354)); (case aS => exact (below_size (gB HB))); (case aL => have := LMc35.out; omega); intro v357 w44 ho hb hg hat; rw [← Ny356.out] at ho; have n0_ := Aside0.mk (Kd.R_after (ok := (fun _ => True)) (gR HO_3) hg hat); have n1_ := Aside0.mk (hb); have n2_ := Aside0.mk ((show Kd.C k65 w44 Ao3 y348.length y348 from by rw [Ny348.out]; exact Kd.C_take (m := (x5_2 : Int).toNat) ((Kd.R_reads' (Kd.R_after (ok := (fun _ => True)) (gR HO_3) hg hat)).2.2) KL42.out)); have n3_ := Aside0.mk (ho); clear HO_3; clear HB; clear HR351; clear HO354; have HO_3 := n0_; have HB := n1_; have HR351 := n2_; have HO358 := n3_; clear n0_ n1_ n2_ n3_; clear ho hb hg hat; have q45 : (x5_2 : Int) ≤ ((x3_1.length : Int) : Int) := od; obtain ⟨i045, hi045, _, hsz45, _⟩ := info_parts info65; have hroom45 : x3_1.length ≤ co3 := (Kd.R_reads' HO_3.out).2.1; have hC45 : Kd.C k65 _ Ao3 x3_1.length x3_1 := (Kd.R_reads' HO_3.out).2.2; have q045 : (0 : Int) ≤ (x5_2 : Int) := od; have hcut45 := cut_from (P := Try.prog) 40 65 .i64 Try.underlying40 hi045 9 hsz45 Ao3 x3_1.length co3 x5_2 q045 q45; have hr45 := Kd.C_drop (m := (x5_2 : Int).toNat) (c := co3) hC45 (by omega) hroom45; obtain ⟨A45, hA45⟩ : ∃ A1, A1 = (if co3 = (x5_2 : Int).toNat then Ao3 else (Ao3 : Option Addr).map (·.add ((x5_2 : Int).toNat * 9))) := ⟨_, rfl⟩; obtain ⟨c45, hc45⟩ : ∃ c1, c1 = co3 - (x5_2 : Int).toNat := ⟨_, rfl⟩; have hy45 : y359.length = x3_1.length - (x5_2 : Int).toNat := (by rw [Ny359.out, List.length_drop] <;> omega); rw [show (x3_1).drop (x5_2 : Int).toNat = y359 from Ny359.out.symm] at hr45; replace hr45 : Kd.C k65 _ A45 y359.length y359 := (by rw [hA45]; exact hr45); rw [← hy45, ← hA45, ← hc45] at hcut45; have HR362 := Aside0.mk hr45; have HC362 := Aside0.mk (show y359.length ≤ c45 from by rw [hy45, hc45]; exact Nat.sub_le_sub_right hroom45 _); clear hr45 hC45 hroom45 hi045 hsz45 hc45; have KY45 := Aside0.mk hy45; have KA45 := Aside0.mk hA45; clear hy45 hA45; have KL45 := Aside0.mk (show (x5_2 : Int).toNat ≤ x3_1.length from by omega); replace q45 := eq_true q45) | ((with_reducible refine gate_builtin (b := .append) (xs := #[.tmp 43, .tmp 46]) rfl ?_); at_builtin; refine Kd.R_append_rows k65 (w0 := w) w.heap.size rfl (.tmp 43) (.tmp 46) 40 65 (.agg #[(.string ⟨#[]⟩), (.int .i64 0), (.string ⟨#[]⟩), (.int .i64 0), (.int .i64 0), (.int .i64 0), (.string ⟨#[]⟩), (.int .i64 0), (.int .i64 0)]) 96 rfl Try.underlying40 info65 rfl (by decide) (by omega) v357 y356 y359 _ _ _ (fun k_ => some k_ ≠ (.slice Ao3 x3_1.length co3 : Value).ownBlock) (fun _ => False) rfl rfl ?aO ?aR (fun _ _ h => h) (fun _ h => h.elim) ?aF ?aB ?aS ?aL ?_; (case aR => repeat (first | exact (by repeat (first | (with_reducible exact HR362.out) | (with_reducible refine Kd.C_alloc ?_ _) | (with_reducible refine Kd.C_drewN ?_ _) | (with_reducible refine Kd.C_drew ?_) | exact HR362.out)) | (with_reducible refine Kd.C_alloc ?_ _) | (with_reducible refine Kd.C_drewN ?_ _) | (with_reducible refine Kd.C_drew ?_))); (case aB => exact (gB HB)); (case aF => exact (fun k_ hk => Kd.fresh' (Kd.R_lt (gR HO_3)) k_ hk)); (case aO => exact (gR HO358)); (case aS => exact (below_size (gB HB))); (case aL => have := LMc38.out; omega); intro v364 w46 ho hb hg hat; rw [← Ny363.out] at ho; have n0_ := Aside0.mk (Kd.R_after (ok := (fun _ => True)) (gR HO_3) hg hat); have n1_ := Aside0.mk (hb); have n2_ := Aside0.mk ((show Kd.C k65 w46 Ao3 y348.length y348 from by rw [Ny348.out]; exact Kd.C_take (m := (x5_2 : Int).toNat) ((Kd.R_reads' (Kd.R_after (ok := (fun _ => True)) (gR HO_3) hg hat)).2.2) KL42.out)); have n3_ := Aside0.mk ((show Kd.C k65 w46 A45 y359.length y359 from by rw [Ny359.out, KA45.out]; exact Kd.C_drop (m := (x5_2 : Int).toNat) (c := co3) ((Kd.R_reads' (Kd.R_after (ok := (fun _ => True)) (gR HO_3) hg hat)).2.2) KL45.out ((Kd.R_reads' (Kd.R_after (ok := (fun _ => True)) (gR HO_3) hg hat)).2.1))); have n4_ := Aside0.mk (ho); clear HO_3; clear HB; clear HR351; clear HR362; clear HO358; have HO_3 := n0_; have HB := n1_; have HR351 := n2_; have HR362 := n3_; have HO365 := n4_; clear n0_ n1_ n2_ n3_ n4_; clear ho hb hg hat))
                       go_roundg k2
                       case measure => have := HK1.out; have := HK2.out; omega
                       case rel => exact ⟨(y363), (wrap64 (x4_1 + 1)), ac, H', ⟨by have := HK1.out; have := HK2.out; omega⟩, ⟨gR ⟨Kd.R_mono HO365.out (fun _ hk => trivial)⟩⟩, ⟨gB HB⟩⟩
                     · rw [if_neg c38] at H
                       exact absurd H (by simp)
                   · rw [if_neg c35] at H
                     exact absurd H (by simp)
                 · rw [if_neg c34] at H
                   exact absurd H (by simp)
               · rw [if_neg c33] at H
                 exact absurd H (by simp)
             · rw [if_neg c32] at H
               exact absurd H (by simp)
           · rw [if_neg c31] at H
             exact absurd H (by simp)
         · rw [if_neg c30] at H
           exact absurd H (by simp)
   · rw [if_neg c2] at H
     have c2b0 : decide (x4_1 < (l0.length : Int)) = false := decide_eq_false c2
     clear c2
     obtain rfl := Option.some.inj H
     go_wp2
     go_ret
     exact ⟨_, by first | rfl | (simp [errW_none, errW_some] <;> rfl) | (simp [*, errW_none, errW_some] <;> rfl), gR HO_3, gB HB⟩
def slices_Clone_haircut_Item_haircut_Item.f (l0 : List (S47)) : Option ((List (S47))) := (some (([] : List (S47)) : List (S47))).bind fun y366 => (if y366.length + l0.length < 1466015503701 then (some (y366 ++ l0)) else (none))
theorem slices_Clone_haircut_Item_haircut_Item.eqnil (a : Option Addr) (n c : Nat) (w : World) : (binOp .eql 50 (.slice a n c) (.slice none 0 0)).run Try.prog w = .ok (.bool a.isNone) w := Lib.run_eql_slice_nil w 50 47 a n c 0 0 Try.underlying50
attribute [local go_sem] slices_Clone_haircut_Item_haircut_Item.eqnil
set_option maxHeartbeats 8000000 in
set_option maxRecDepth 100000 in
theorem slices_Clone_haircut_Item_haircut_Item.calls (A0 : Option Addr) (c0 : Nat) (l0 : List (S47)) (r : List (S47)) (w : World) (hr0 : Kd.C k47 w A0 l0.length l0) (hc0 : l0.length ≤ c0) (h : slices_Clone_haircut_Item_haircut_Item.f l0 = some r) :
 Calls Try.prog 37 #[.slice A0 l0.length c0] w fun e w' => ∃ v0_ : Value, e = .returned (v0_) ∧ Kd.R k47 47 w' w.heap.size (fun _ => True) v0_ r ∧ Below w.heap.size w w' := by
 cases A0 with
 | none =>
  have hl : l0 = [] := by
   cases l0 with
   | nil => rfl
   | cons x xs => exact absurd hr0 (by intro h_; obtain ⟨ad_, cs_, e_, _⟩ := Kd.C_get h_ x 0 (by omega) (by simp); cases e_)
  subst hl
  have hz : r = [] := by simpa [slices_Clone_haircut_Item_haircut_Item.f] using h.symm
  subst hz
  go_enter Try.func37, Try.ntmps37
  go_wp2
  go_ret
  exact ⟨_, rfl, Kd.R_nil _ _ _ _ _, Below.refl _ _⟩
 | some ad_ =>
  have HR0 := Aside0.mk hr0; have HC0 := Aside0.mk hc0; clear hr0 hc0
  have HB := Aside0.mk (Below.refl w.heap.size w)
  have H : ((some (([] : List (S47)) : List (S47))).bind fun y366 => (if y366.length + l0.length < 1466015503701 then (some (y366 ++ l0)) else (none))) = some r := h
  clear h
  obtain ⟨y366, hy366⟩ : ∃ y_ : List (S47), y_ = (([] : List (S47))) := ⟨_, rfl⟩
  replace H : (if y366.length + l0.length < 1466015503701 then (some (y366 ++ l0)) else (none)) = some r := by first | (rw [hy366]; with_reducible exact H) | (have H2_ := (Option.bind_some _ _).symm.trans H; rw [hy366]; with_reducible exact H2_) | (have H2_ := (Option.bind_some _ _).symm.trans H; with_reducible exact H2_) | with_reducible exact H | (rw [hy366]; exact H) | exact H
  have Ny366 := Aside0.mk hy366; clear hy366
  by_cases c2 : y366.length + l0.length < 1466015503701
  · rw [if_pos c2] at H
    have LMc2 := Aside0.mk c2; clear c2
    obtain ⟨y369, hy369⟩ : ∃ y_ : List (S47), y_ = (y366 ++ l0) := ⟨_, rfl⟩
    replace H : (some y369) = some r := by first | (rw [hy369]; with_reducible exact H) | (have H2_ := (Option.bind_some _ _).symm.trans H; rw [hy369]; with_reducible exact H2_) | (have H2_ := (Option.bind_some _ _).symm.trans H; with_reducible exact H2_) | with_reducible exact H | (rw [hy369]; exact H) | exact H
    have Ny369 := Aside0.mk hy369; clear hy369
    obtain rfl := Option.some.inj H
    go_enter Try.func37, Try.ntmps37
    go_wp2_with (first | ((with_reducible refine gate_dst (N := 5) rfl ?_); refine Kd.R_lit k47 _ 47 ?hg (N := 5) ?hd (xs := ([] : List (S47))) (inner := []) (ok := fun _ => True) (okp := fun _ => True) ?hr ?hp (fun _ hk => hk) trivial (Below.refl _ _) (Nat.le_refl _) (by simp) ?_; (case hd => rfl); (case hg => rfl); (case hr => first | (go_simp; done) | (go_simp; rfl) | (have hcq := hcq_.out; have hfq := hfq_.out; go_simp; done)); (case hp => exact (Reps.none _ _)); intro v367 w3 ho4 hb hg_ hnew_; clear hg_ hnew_; (first | rw [← Ny366.out] at ho4 | (simp only [Int.reduceToNat] at ho4; rw [← Ny366.out] at ho4)); have n0_ := Aside0.mk (Kd.R_lower ho4 (below_size (gB HB))); have n1_ := Aside0.mk (below_step (gB HB) hb); clear HB; have HO368 := n0_; have HB := n1_; clear n0_ n1_; clear hb ho4) | ((with_reducible refine gate_builtin (b := .append) (xs := #[.tmp 5, .tmp 6]) rfl ?_); at_builtin; refine Kd.R_append_rows k47 (w0 := w) w.heap.size rfl (.tmp 5) (.tmp 6) 50 47 (.agg #[(.string ⟨#[]⟩), (.int .i64 0), (.string ⟨#[]⟩), (.int .i64 0), (.int .i64 0), (.int .i64 0), (.string ⟨#[]⟩), (.int .i64 0), (.int .i64 0)]) 96 rfl Try.underlying50 info47 rfl (by decide) (by omega) v367 y366 l0 _ _ _ (fun _ => True) (fun _ => False) rfl rfl ?aO ?aR (fun _ _ h => h) (fun _ h => h.elim) ?aF ?aB ?aS ?aL ?_; (case aR => exact gC HR0 HB); (case aB => exact (gB HB)); (case aF => exact (fun _ _ => trivial)); (case aO => exact (gR HO368)); (case aS => exact (below_size (gB HB))); (case aL => have := LMc2.out; omega); intro v370 w5 ho hb hg hat; rw [← Ny369.out] at ho; have n0_ := Aside0.mk (hb); have n1_ := Aside0.mk (ho); clear HB; clear HO368; have HB := n0_; have HO371 := n1_; clear n0_ n1_; clear ho hb hg hat))
    go_ret
    exact ⟨_, by first | rfl | (simp [errW_none, errW_some] <;> rfl) | (simp [*, errW_none, errW_some] <;> rfl), gR HO371, gB HB⟩
  · rw [if_neg c2] at H
    exact absurd H (by simp)
end Go.Proofs.Ytjjemfbpodgihaa.X
