-- a shortened text: what this claim does not name is left out (wip/xprint/prune.py of this repo)
import Derived.Test.YtlbhjkbjokiioaaXMin
import Derived.Test.YtlbhjkbjokiioaaX0
import Derived.Test.YtlbhjkbjokiioaaX13
namespace Go.Proofs.Ytlbhjkbjokiioaa.X
open Go.RowKit Go.Proofs.YtlbhjkbjokiioaaW.PrintWords Go.Proofs.YtlbhjkbjokiioaaW.PrintLast Go.Proofs.YtlbhjkbjokiioaaW.PrintMore
attribute [local go_sem] max2_int min2_int max_two min_two max_three min_three max_four min_four
set_option linter.unusedVariables false
set_option linter.unusedSimpArgs false
def q17q.l0 : Nat → List Int → List Int → List Int → Int → Int → Option (List Int)
 | 0, _, _, _, _, _ => none
 | k + 1, x0, x1, x5, x6, x7 => if x7 < (x0.length : Int) then (if 0 ≤ x7 then (if x7 < (x1.length : Int) then (if x5.length < 17592186044416 then (q17q.l0 k x0 x1 (x5 ++ [Int.tmod (IntKind.u64.wrap ((IntKind.u64.wrap ((IntKind.u64.wrap ((rd x0 x7) + 65536)) - x6)) - (rd x1 x7))) 65536]) (IntKind.u64.wrap (1 - (IntKind.u64.wrap (Int.tdiv (IntKind.u64.wrap ((IntKind.u64.wrap ((IntKind.u64.wrap ((rd x0 x7) + 65536)) - x6)) - (rd x1 x7))) 65536)))) (wrap64 (x7 + 1))) else (none)) else (if x5.length < 17592186044416 then (q17q.l0 k x0 x1 (x5 ++ [Int.tmod (IntKind.u64.wrap ((IntKind.u64.wrap ((rd x0 x7) + 65536)) - x6)) 65536]) (IntKind.u64.wrap (1 - (IntKind.u64.wrap (Int.tdiv (IntKind.u64.wrap ((IntKind.u64.wrap ((rd x0 x7) + 65536)) - x6)) 65536)))) (wrap64 (x7 + 1))) else (none))) else (none)) else ((q7q.f k x5).bind fun t378 => (some t378))
def q17q.f (k : Nat) (l0 : List Int) (l1 : List Int) : Option (List Int) := q17q.l0 k l0 l1 ([] : List Int) 0 0
theorem q17q.mono_l : ∀ k, (∀ y0 y1 y2 y3 y4, LeO (q17q.l0 k y0 y1 y2 y3 y4) (q17q.l0 (k + 1) y0 y1 y2 y3 y4))
 | 0 => fun _ _ _ _ _ r h => by simp [q17q.l0] at h
 | k + 1 => by
  have ih0 := q17q.mono_l k
  · intro y0 y1 y2 y3 y4
    unfold q17q.l0
    repeat' first
    | (with_reducible exact ih0 _ _ _ _ _)
    | (with_reducible exact q7q.mono _ _)
    | (with_reducible exact LeO.refl _)
    | (with_reducible exact LeO.none _)
    | (with_reducible refine LeO.ite ?_ ?_)
    | (with_reducible refine LeO.bind ?_ (fun _ => ?_))
    | exact ih0 _ _ _ _ _
    | exact q7q.mono _ _
    | exact LeO.none _
    | refine LeO.ite ?_ ?_
    | refine LeO.bind ?_ (fun _ => ?_)
theorem q17q.mono : ∀ a0 a1 k, LeO (q17q.f k a0 a1) (q17q.f (k + 1) a0 a1) := by
 intro a0 a1 k
 have ih0 := q17q.mono_l k
 unfold q17q.f
 repeat' first
  | (with_reducible exact ih0 _ _ _ _ _)
  | (with_reducible exact q7q.mono _ _)
  | (with_reducible exact LeO.refl _)
  | (with_reducible exact LeO.none _)
  | (with_reducible refine LeO.ite ?_ ?_)
  | (with_reducible refine LeO.bind ?_ (fun _ => ?_))
  | exact ih0 _ _ _ _ _
  | exact q7q.mono _ _
  | exact LeO.none _
  | refine LeO.ite ?_ ?_
  | refine LeO.bind ?_ (fun _ => ?_)
set_option maxHeartbeats 8000000 in
set_option maxRecDepth 100000 in
theorem q17q.calls (k : Nat) (A0 : Option Addr) (c0 : Nat) (l0 : List Int) (A1 : Option Addr) (c1 : Nat) (l1 : List Int) (r : List Int) (w : World) (hr0 : Kd.C (Kd.int .u64) w A0 l0.length l0) (hc0 : l0.length ≤ c0) (hr1 : Kd.C (Kd.int .u64) w A1 l1.length l1) (hc1 : l1.length ≤ c1) (h : q17q.f k l0 l1 = some r) :
 Calls Try.prog 52 #[.slice A0 l0.length c0, .slice A1 l1.length c1] w fun e w' => ∃ v0_ : Value, e = .returned (v0_) ∧ Kd.R (Kd.int .u64) 93 w' w.heap.size (fun _ => True) v0_ r ∧ Below w.heap.size w w' := by
 have HR0 := Aside0.mk hr0; have HC0 := Aside0.mk hc0; clear hr0 hc0; have HR1 := Aside0.mk hr1; have HC1 := Aside0.mk hc1; clear hr1 hc1
 have HB := aK (Below.refl w.heap.size w)
 have H : (q17q.l0 k l0 l1 ([] : List Int) 0 0) = some r := h
 clear h
 have H' := Aside0.mk H
 clear H
 go_enter Try.func52, Try.ntmps52
 go_wp2
 go_loopg [5, 6, 7] k (fun kq v5 v6 v7 w' => ∃ (x5_1 : List Int) (x6_1 : Int) (x7_1 : Int), v6 = .int .u64 x6_1 ∧ v7 = .int .i64 x7_1 ∧ Aside0 (q17q.l0 kq l0 l1 x5_1 x6_1 x7_1 = some r) ∧ Aside0 (kq ≤ k) ∧ Aside0 (Kd.R (Kd.int .u64) 93 w' w.heap.size (fun _ => True) v5 x5_1) ∧ Aside0 (Below w.heap.size w w'))
 case atStart => exact ⟨(([] : List Int)), (0), (0), ac, ac, H', ⟨Nat.le_refl _⟩, ⟨by first | exact Kd.R_nil _ _ _ _ _ | exact Kd.N_nil _ _ _ _ _ | exact Kd.V_nil _ _ _ _ _ | exact Kd.Q_nil _ _ _ _ _ | exact Kd.S_nil _ _ _ _ _⟩, ⟨gB HB⟩⟩
 case round =>
  clear H'; (try clear c1)
  obtain ⟨x5_1, x6_1, x7_1, rfl, rfl, HA, HK1, HO_5, HB⟩ := hrel
  cases gk with
  | zero => exact absurd HA.out (by simp [q17q.l0])
  | succ k1 =>
   have H := HA.out
   clear HA
   simp only [q17q.l0] at H
   by_cases c3 : x7_1 < (l0.length : Int)
   · rw [if_pos c3] at H
     have c3b0 := dT c3
     clear c3
     by_cases c4 : 0 ≤ x7_1
     · rw [if_pos c4] at H
       have c4b0 := dT c4
       clear c4
       by_cases c5 : x7_1 < (l1.length : Int)
       · rw [if_pos c5] at H
         have c5b0 := dT c5
         clear c5
         by_cases c6 : x5_1.length < 17592186044416
         · rw [if_pos c6] at H
           have LMc6 := Aside0.mk c6; clear c6
           obtain ⟨y372, hy_⟩ : ∃ y_ : List Int, y_ = (x5_1 ++ [Int.tmod (IntKind.u64.wrap ((IntKind.u64.wrap ((IntKind.u64.wrap ((rd l0 x7_1) + 65536)) - x6_1)) - (rd l1 x7_1))) 65536]) := ⟨_, rfl⟩
           replace H : (q17q.l0 k1 l0 l1 y372 (IntKind.u64.wrap (1 - (IntKind.u64.wrap (Int.tdiv (IntKind.u64.wrap ((IntKind.u64.wrap ((IntKind.u64.wrap ((rd l0 x7_1) + 65536)) - x6_1)) - (rd l1 x7_1))) 65536)))) (wrap64 (x7_1 + 1))) = some r := h2
           have Ny372 := Aside0.mk hy_; clear hy_
           have H' := Aside0.mk H
           clear H
           obtain ⟨⟨p370, q370⟩, ad370, rfl, hx370_0⟩ := za (Kd.at_int HR0.out) x7_1
           replace hx370_0 := gc HB hx370_0
           obtain ⟨⟨p371, q371⟩, ad371, rfl, hx371_0⟩ := za (Kd.at_int HR1.out) x7_1
           replace hx371_0 := gc HB hx371_0
           go_wp2_with (first | ((with_reducible refine q28q (b := .append) (xs := #[.tmp 32, .tmp 35]) rfl ?_); at_builtin; refine Kd.R_append (Kd.int .u64) (w0 := w) w.heap.size rfl (.tmp 32) (.tmp 35) 87 93 (.int .u64 0) 8 rfl Try.underlying87 info93 rfl (by decide) (by omega) u5 x5_1 (Int.tmod (IntKind.u64.wrap ((IntKind.u64.wrap ((IntKind.u64.wrap ((rd l0 x7_1) + 65536)) - x6_1)) - (rd l1 x7_1))) 65536) [.int .u64 (Int.tmod (IntKind.u64.wrap ((IntKind.u64.wrap ((IntKind.u64.wrap ((rd l0 x7_1) + 65536)) - x6_1)) - (rd l1 x7_1))) 65536)] (fun _ => True) (fun _ => False) rfl rfl ?aP (fun _ hk => hk.elim) ?aF ?aO ?aB ?aS ?aL ?_; (case aP => exact rfl); (case aB => exact (gB HB)); (case aF => exact (fun _ _ => trivial)); (case aO => exact (gR HO_5)); (case aS => exact (below_size (gB HB))); (case aL => have := LMc6.out; omega); intro v373 w7 ho hb hg hat; rw [← Ny372.out] at ho; replace HB := aK (hb); have HO374 := aK (ho); clear HO_5; clear ho hb hg hat))
           go_roundg k1
           case measure => have := HK1.out; omega
           case rel => exact ⟨(y372), (IntKind.u64.wrap (1 - (IntKind.u64.wrap (Int.tdiv (IntKind.u64.wrap ((IntKind.u64.wrap ((IntKind.u64.wrap ((rd l0 x7_1) + 65536)) - x6_1)) - (rd l1 x7_1))) 65536)))), (wrap64 (x7_1 + 1)), ac, ac, H', ⟨by have := HK1.out; omega⟩, ⟨gR HO374⟩, ⟨gB HB⟩⟩
         · rw [if_neg c6] at H
           exact absurd H (by simp)
       · rw [if_neg c5] at H
         have c5b0 := dF c5
         clear c5
         by_cases c8 : x5_1.length < 17592186044416
         · rw [if_pos c8] at H
           have LMc8 := Aside0.mk c8; clear c8
           obtain ⟨y375, hy_⟩ : ∃ y_ : List Int, y_ = (x5_1 ++ [Int.tmod (IntKind.u64.wrap ((IntKind.u64.wrap ((rd l0 x7_1) + 65536)) - x6_1)) 65536]) := ⟨_, rfl⟩
           replace H : (q17q.l0 k1 l0 l1 y375 (IntKind.u64.wrap (1 - (IntKind.u64.wrap (Int.tdiv (IntKind.u64.wrap ((IntKind.u64.wrap ((rd l0 x7_1) + 65536)) - x6_1)) 65536)))) (wrap64 (x7_1 + 1))) = some r := h2
           have Ny375 := Aside0.mk hy_; clear hy_
           have H' := Aside0.mk H
           clear H
           obtain ⟨⟨p370, q370⟩, ad370, rfl, hx370_0⟩ := za (Kd.at_int HR0.out) x7_1
           replace hx370_0 := gc HB hx370_0
           go_wp2_with (first | ((with_reducible refine q28q (b := .append) (xs := #[.tmp 32, .tmp 35]) rfl ?_); at_builtin; refine Kd.R_append (Kd.int .u64) (w0 := w) w.heap.size rfl (.tmp 32) (.tmp 35) 87 93 (.int .u64 0) 8 rfl Try.underlying87 info93 rfl (by decide) (by omega) u5 x5_1 (Int.tmod (IntKind.u64.wrap ((IntKind.u64.wrap ((rd l0 x7_1) + 65536)) - x6_1)) 65536) [.int .u64 (Int.tmod (IntKind.u64.wrap ((IntKind.u64.wrap ((rd l0 x7_1) + 65536)) - x6_1)) 65536)] (fun _ => True) (fun _ => False) rfl rfl ?aP (fun _ hk => hk.elim) ?aF ?aO ?aB ?aS ?aL ?_; (case aP => exact rfl); (case aB => exact (gB HB)); (case aF => exact (fun _ _ => trivial)); (case aO => exact (gR HO_5)); (case aS => exact (below_size (gB HB))); (case aL => have := LMc8.out; omega); intro v376 w9 ho hb hg hat; rw [← Ny375.out] at ho; replace HB := aK (hb); have HO377 := aK (ho); clear HO_5; clear ho hb hg hat))
           go_roundg k1
           case measure => have := HK1.out; omega
           case rel => exact ⟨(y375), (IntKind.u64.wrap (1 - (IntKind.u64.wrap (Int.tdiv (IntKind.u64.wrap ((IntKind.u64.wrap ((rd l0 x7_1) + 65536)) - x6_1)) 65536)))), (wrap64 (x7_1 + 1)), ac, ac, H', ⟨by have := HK1.out; omega⟩, ⟨gR HO377⟩, ⟨gB HB⟩⟩
         · rw [if_neg c8] at H
           exact absurd H (by simp)
     · rw [if_neg c4] at H
       exact absurd H (by simp)
   · rw [if_neg c3] at H
     have c3b0 := dF c3
     clear c3
     replace H := Option.bind_eq_some_iff.mp H
     obtain ⟨t378, A100, H⟩ := H
     replace H : (some t378) = some r := H
     have A10 := Aside0.mk A100; clear A100
     obtain rfl := Option.some.inj H
     obtain ⟨Ao11, co11, eo11⟩ := Kd.R_slice HO_5.out
     subst eo11
     go_wp2_with (first | ((with_reducible refine gate_callee (f := 51) rfl ?_); refine goesL_ (some 41) rfl rfl Try.func51 (by kernel_rfl) rfl #[.slice Ao11 x5_1.length co11] rfl am ?_; (with_reducible refine (q7q.calls k1 (fun k_ => some k_ = (.slice Ao11 x5_1.length co11 : Value).ownBlock) (.slice Ao11 x5_1.length co11) x5_1 t378 w _ ?side1 ?side2 A10.out).mono ?_); (case side1 => exact gB HB); (case side2 => exact Kd.R_tight rfl HO_5.out); rintro e w12 ⟨v379, rfl, ho0, hb, hkp⟩; refine ⟨_, rfl, ?_⟩; have HO380 := aK (Kd.R_mono (ok' := fun k_ => True) ho0 (fun k_ hk_ => trivial)); replace HB := aK (hb); clear HO_5; (try clear hb); (try clear hkp); (try clear ho0)))
     go_ret
     exact ⟨_, by first | rfl | (simp [errW_none, errW_some] <;> rfl) | (simp [*, errW_none, errW_some] <;> rfl), gR HO380, gB HB⟩
mutual
def q9q.l0 : Nat → List Int → List Int → List Int → List Int → Int → Option (List Int × List Int)
 | 0, _, _, _, _, _ => none
 | k + 1, x0, x1, x6, x7, x8 => if x8 ≥ 0 then (if 0 ≤ x8 then (if x8 < (x0.length : Int) then ((some (([rd x0 x8] : List Int) : List Int)).bind fun y388 => (if y388.length + x7.length < 17592186044416 then ((q7q.f k (y388 ++ x7)).bind fun t394 => (q9q.l1 k x0 x1 x6 t394 x8 0 65536)) else (none))) else (none)) else (none)) else ((q7q.f k x6).bind fun t384 => (some (t384, x7)))
def q9q.l1 : Nat → List Int → List Int → List Int → List Int → Int → Int → Int → Option (List Int × List Int)
 | 0, _, _, _, _, _, _, _ => none
 | k + 1, x0, x1, x6, x7, x8, x9, x10 => if (IntKind.u64.wrap (x10 - x9)) > 1 then ((q13q.f k (IntKind.u64.wrap (Int.tdiv (IntKind.u64.wrap (x9 + x10)) 2))).bind fun t407 => ((q4q.f k t407 x1).bind fun t410 => ((q11q.f k t410 x7).bind fun t413 => (if t413 ≤ 0 then (q9q.l1 k x0 x1 x6 x7 x8 (IntKind.u64.wrap (Int.tdiv (IntKind.u64.wrap (x9 + x10)) 2)) x10) else (q9q.l1 k x0 x1 x6 x7 x8 x9 (IntKind.u64.wrap (Int.tdiv (IntKind.u64.wrap (x9 + x10)) 2))))))) else (if 0 ≤ x8 then (if x8 < (x6.length : Int) then ((q13q.f k x9).bind fun t398 => ((q4q.f k t398 x1).bind fun t401 => ((q17q.f k x7 t401).bind fun t404 => (q9q.l0 k x0 x1 (x6.set (x8 : Int).toNat x9) t404 (wrap64 (x8 - 1)))))) else (none)) else (none))
end
def q9q.f (k : Nat) (l0 : List Int) (l1 : List Int) : Option (List Int × List Int) := if 0 ≤ (l0.length : Int) then (if ((l0.length : Int) : Int).toNat ≤ 35184372088832 then (q9q.l0 k l0 l1 (List.replicate ((l0.length : Int) : Int).toNat 0) ([] : List Int) (wrap64 ((l0.length : Int) - 1))) else (none)) else (none)
theorem q9q.mono_l : ∀ k, (∀ y0 y1 y2 y3 y4, LeO (q9q.l0 k y0 y1 y2 y3 y4) (q9q.l0 (k + 1) y0 y1 y2 y3 y4)) ∧ (∀ y0 y1 y2 y3 y4 y5 y6, LeO (q9q.l1 k y0 y1 y2 y3 y4 y5 y6) (q9q.l1 (k + 1) y0 y1 y2 y3 y4 y5 y6))
 | 0 => ⟨fun _ _ _ _ _ r h => by simp [q9q.l0] at h, fun _ _ _ _ _ _ _ r h => by simp [q9q.l1] at h⟩
 | k + 1 => by
  obtain ⟨ih0, ih1⟩ := q9q.mono_l k
  refine ⟨?_, ?_⟩
  intro y0 y1 y2 y3 y4; unfold q9q.l0; rotate_left
  intro y0 y1 y2 y3 y4 y5 y6; unfold q9q.l1; rotate_left
  all_goals repeat' first
  | (with_reducible exact ih0 _ _ _ _ _)
  | (with_reducible exact ih1 _ _ _ _ _ _ _)
  | (with_reducible exact q11q.mono _ _ _)
  | (with_reducible exact q4q.mono _ _ _)
  | (with_reducible exact q13q.mono _ _)
  | (with_reducible exact q17q.mono _ _ _)
  | (with_reducible exact q7q.mono _ _)
  | (with_reducible exact LeO.refl _)
  | (with_reducible exact LeO.none _)
  | (with_reducible refine LeO.ite ?_ ?_)
  | (with_reducible refine LeO.bind ?_ (fun _ => ?_))
  | exact ih0 _ _ _ _ _
  | exact ih1 _ _ _ _ _ _ _
  | exact q11q.mono _ _ _
  | exact q4q.mono _ _ _
  | exact q13q.mono _ _
  | exact q17q.mono _ _ _
  | exact q7q.mono _ _
  | exact LeO.none _
  | refine LeO.ite ?_ ?_
  | refine LeO.bind ?_ (fun _ => ?_)
theorem q9q.mono : ∀ a0 a1 k, LeO (q9q.f k a0 a1) (q9q.f (k + 1) a0 a1) := by
 intro a0 a1 k
 obtain ⟨ih0, ih1⟩ := q9q.mono_l k
 unfold q9q.f
 repeat' first
  | (with_reducible exact ih0 _ _ _ _ _)
  | (with_reducible exact ih1 _ _ _ _ _ _ _)
  | (with_reducible exact q11q.mono _ _ _)
  | (with_reducible exact q4q.mono _ _ _)
  | (with_reducible exact q13q.mono _ _)
  | (with_reducible exact q17q.mono _ _ _)
  | (with_reducible exact q7q.mono _ _)
  | (with_reducible exact LeO.refl _)
  | (with_reducible exact LeO.none _)
  | (with_reducible refine LeO.ite ?_ ?_)
  | (with_reducible refine LeO.bind ?_ (fun _ => ?_))
  | exact ih0 _ _ _ _ _
  | exact ih1 _ _ _ _ _ _ _
  | exact q11q.mono _ _ _
  | exact q4q.mono _ _ _
  | exact q13q.mono _ _
  | exact q17q.mono _ _ _
  | exact q7q.mono _ _
  | exact LeO.none _
  | refine LeO.ite ?_ ?_
  | refine LeO.bind ?_ (fun _ => ?_)
set_option maxHeartbeats 8000000 in
set_option maxRecDepth 100000 in
theorem q9q.calls (k : Nat) (A0 : Option Addr) (c0 : Nat) (l0 : List Int) (A1 : Option Addr) (c1 : Nat) (l1 : List Int) (r1 : List Int) (r2 : List Int) (w : World) (hr0 : Kd.C (Kd.int .u64) w A0 l0.length l0) (hc0 : l0.length ≤ c0) (hr1 : Kd.C (Kd.int .u64) w A1 l1.length l1) (hc1 : l1.length ≤ c1) (h : q9q.f k l0 l1 = some (r1, r2)) :
 Calls Try.prog 40 #[.slice A0 l0.length c0, .slice A1 l1.length c1] w fun e w' => ∃ v0_ v1_ : Value, e = .returned (.tuple #[v0_, v1_]) ∧ Kd.R (Kd.int .u64) 93 w' w.heap.size (fun k_ => some k_ ≠ (v1_ : Value).ownBlock) v0_ r1 ∧ Kd.R (Kd.int .u64) 93 w' w.heap.size (fun k_ => some k_ ≠ (v0_ : Value).ownBlock) v1_ r2 ∧ Below w.heap.size w w' := by
 have HR0 := Aside0.mk hr0; have HC0 := Aside0.mk hc0; clear hr0 hc0; have HR1 := Aside0.mk hr1; have HC1 := Aside0.mk hc1; clear hr1 hc1
 have HB := aK (Below.refl w.heap.size w)
 have H : (if 0 ≤ (l0.length : Int) then (if ((l0.length : Int) : Int).toNat ≤ 35184372088832 then (q9q.l0 k l0 l1 (List.replicate ((l0.length : Int) : Int).toNat 0) ([] : List Int) (wrap64 ((l0.length : Int) - 1))) else (none)) else (none)) = some (r1, r2) := h
 clear h
 by_cases c3 : 0 ≤ (l0.length : Int)
 · rw [if_pos c3] at H
   have c3b0 := eq_true c3
   have c3b1 : decide (0 ≤ (l0.length : Int)) = true := decide_eq_true c3
   clear c3
   by_cases c4 : ((l0.length : Int) : Int).toNat ≤ 35184372088832
   · rw [if_pos c4] at H
     have c4b0 := eq_true c4
     have c4b1 : decide (((l0.length : Int) : Int).toNat ≤ 35184372088832) = true := decide_eq_true c4
     clear c4
     obtain ⟨y381, hy_⟩ : ∃ y_ : List Int, y_ = (List.replicate ((l0.length : Int) : Int).toNat 0) := ⟨_, rfl⟩
     replace H : (q9q.l0 k l0 l1 y381 ([] : List Int) (wrap64 ((l0.length : Int) - 1))) = some (r1, r2) := h2
     have Ny381 := Aside0.mk hy_; clear hy_
     have H' := Aside0.mk H
     clear H
     go_enter Try.func40, Try.ntmps40
     go_wp2_with (first | ((with_reducible refine gate_dst (N := 14) rfl ?_); refine Kd.R_make (Kd.int .u64) _ 93 rfl (N := 14) rfl 87 _ _ rfl (l0.length : Int) rfl rfl Try.underlying87 (.int .u64 0) 8 info93 rfl (by decide) (by omega) 0 (ok := fun _ => True) (okp := fun _ => True) rfl (fun _ hk => hk) trivial (od) (Nat.le_trans (Nat.mul_le_mul_right _ (od : (l0.length : Int).toNat ≤ 35184372088832)) (by omega)) (Below.refl _ _) (Nat.le_refl _) ?_; intro v382 w5 ho6 hb hg_ hnew_; clear hg_ hnew_; (first | rw [← Ny381.out] at ho6 | (simp only [Int.reduceToNat] at ho6; rw [← Ny381.out] at ho6)); have HO383 := aK (Kd.R_lower ho6 (below_size (gB HB))); replace HB := aK (below_step (gB HB) hb); clear hb ho6))
     go_loopg [7, 8] k (fun kq v7 v8 w' => ∃ (x6_1 : List Int) (x7_1 : List Int) (x8_1 : Int), v8 = .int .i64 x8_1 ∧ Aside0 (q9q.l0 kq l0 l1 x6_1 x7_1 x8_1 = some (r1, r2)) ∧ Aside0 (kq ≤ k) ∧ Aside0 (Kd.R (Kd.int .u64) 93 w' w.heap.size (fun k_ => some k_ ≠ (v7 : Value).ownBlock) v382 x6_1) ∧ Aside0 (Kd.R (Kd.int .u64) 93 w' w.heap.size (fun k_ => some k_ ≠ (v382 : Value).ownBlock) v7 x7_1) ∧ Aside0 (Below w.heap.size w w'))
     case atStart => exact ⟨(y381), (([] : List Int)), (wrap64 ((l0.length : Int) - 1)), ac, H', ⟨Nat.le_refl _⟩, ⟨gR ⟨Kd.R_mono HO383.out (fun _ hk => (by simp [Value.ownBlock]))⟩⟩, ⟨by first | exact Kd.R_nil _ _ _ _ _ | exact Kd.N_nil _ _ _ _ _ | exact Kd.V_nil _ _ _ _ _ | exact Kd.Q_nil _ _ _ _ _ | exact Kd.S_nil _ _ _ _ _⟩, ⟨gB HB⟩⟩
     case round =>
      clear H'; (try clear c1); (try clear c3); (try clear c3b0); (try clear c3b1); (try clear c4); (try clear c4b0); (try clear c4b1)
      obtain ⟨x6_1, x7_1, x8_1, rfl, HA, HK1, HO_6, HO_7, HB⟩ := hrel
      cases gk with
      | zero => exact absurd HA.out (by simp [q9q.l0])
      | succ k1 =>
       have H := HA.out
       clear HA
       simp only [q9q.l0] at H
       by_cases c7 : x8_1 ≥ 0
       · rw [if_pos c7] at H
         have c7b0 : decide (0 ≤ x8_1) = true := decide_eq_true c7
         clear c7
         by_cases c8 : 0 ≤ x8_1
         · rw [if_pos c8] at H
           have c8b0 := dT c8
           clear c8
           by_cases c9 : x8_1 < (l0.length : Int)
           · rw [if_pos c9] at H
             have c9b0 := dT c9
             clear c9
             obtain ⟨y388, hy_⟩ : ∃ y_ : List Int, y_ = (([rd l0 x8_1] : List Int)) := ⟨_, rfl⟩
             replace H : (if y388.length + x7_1.length < 17592186044416 then ((q7q.f k1 (y388 ++ x7_1)).bind fun t394 => (q9q.l1 k1 l0 l1 x6_1 t394 x8_1 0 65536)) else (none)) = some (r1, r2) := h2
             have Ny388 := Aside0.mk hy_; clear hy_
             by_cases c10 : y388.length + x7_1.length < 17592186044416
             · rw [if_pos c10] at H
               have LMc10 := Aside0.mk c10; clear c10
               obtain ⟨y391, hy_⟩ : ∃ y_ : List Int, y_ = (y388 ++ x7_1) := ⟨_, rfl⟩
               replace H : ((q7q.f k1 y391).bind fun t394 => (q9q.l1 k1 l0 l1 x6_1 t394 x8_1 0 65536)) = some (r1, r2) := h2
               have Ny391 := Aside0.mk hy_; clear hy_
               replace H := Option.bind_eq_some_iff.mp H
               obtain ⟨t394, A110, H⟩ := H
               replace H : (q9q.l1 k1 l0 l1 x6_1 t394 x8_1 0 65536) = some (r1, r2) := H
               have A11 := Aside0.mk A110; clear A110
               have H' := Aside0.mk H
               clear H
               obtain ⟨⟨p387, q387⟩, ad387, rfl, hx387_0⟩ := za (Kd.at_int HR0.out) x8_1
               replace hx387_0 := gc HB hx387_0
               go_wp2_with (first | ((with_reducible refine gate_dst (N := 26) rfl ?_); refine Kd.R_lit (Kd.int .u64) _ 93 ?hg (N := 26) ?hd (xs := ([rd l0 x8_1] : List Int)) (inner := [.int .u64 (rd l0 x8_1)]) (ok := fun _ => True) (okp := fun _ => True) ?hr ?hp (fun _ hk => hk) trivial (Below.refl _ _) (Nat.le_refl _) (by simp) ?_; (case hd => rfl); (case hg => rfl); (case hr => first | (go_simp; done) | (go_simp; rfl) | (have hcq := hcq_.out; have hfq := hfq_.out; go_simp; done)); (case hp => exact (Reps.one (show Kd.M (Kd.int .u64) _ _ _ (rd l0 x8_1) [.int .u64 (rd l0 x8_1)] from rfl) (Reps.none _ _))); intro v389 w12 ho13 hb hg_ hnew_; clear hg_ hnew_; (first | rw [← Ny388.out] at ho13 | (simp only [Int.reduceToNat] at ho13; rw [← Ny388.out] at ho13)); have HO390 := aK (Kd.R_lower (Kd.R_new' (Kd.R_new' ho13 (Kd.R_lt (gR HO_6))) (Kd.R_lt (gR HO_7))) (below_size (gB HB))); replace HO_6 := aK (Kd.R_elder' (gR HO_6) (Kd.R_base ho13) hb); replace HO_7 := aK (Kd.R_elder' (gR HO_7) (Kd.R_base ho13) hb); replace HB := aK (below_step (gB HB) hb); clear hb ho13; obtain ⟨Ao15, co15, eo15⟩ := Kd.R_slice HO_7.out; subst eo15) | ((with_reducible refine q28q (b := .append) (xs := #[.tmp 26, .tmp 27]) rfl ?_); at_builtin; refine Kd.R_append_rows (Kd.int .u64) (w0 := w) w.heap.size rfl (.tmp 26) (.tmp 27) 87 93 (.int .u64 0) 8 rfl Try.underlying87 info93 rfl (by decide) (by omega) v389 y388 x7_1 _ _ _ (fun k_ => some k_ ≠ (v382 : Value).ownBlock ∧ some k_ ≠ (.slice Ao15 x7_1.length co15 : Value).ownBlock) (fun _ => False) rfl rfl ?aO ?aR (fun _ _ h => h) (fun _ h => h.elim) ?aF ?aB ?aS ?aL ?_; (case aR => repeat (first | exact (Kd.R_reads' HO_7.out).2.2 | (with_reducible refine Kd.C_alloc ?_ _) | (with_reducible refine Kd.C_drewN ?_ _) | (with_reducible refine Kd.C_drew ?_))); (case aB => exact (gB HB)); (case aF => exact (fun k_ hk => ⟨Kd.fresh' (Kd.R_lt (gR HO_6)) k_ hk, Kd.fresh' (Kd.R_lt (gR HO_7)) k_ hk⟩)); (case aO => exact (gR ⟨Kd.R_mono HO390.out (fun _ hk => ⟨hk.1.2, hk.2⟩)⟩)); (case aS => exact (below_size (gB HB))); (case aL => have := LMc10.out; omega); intro v392 w14 ho hb hg hat; rw [← Ny391.out] at ho; replace HO_6 := aK (Kd.R_after (ok := (fun k_ => some k_ ≠ (.slice Ao15 x7_1.length co15 : Value).ownBlock)) (gR HO_6) hg hat); replace HO_7 := aK (Kd.R_after (ok := (fun k_ => some k_ ≠ (v382 : Value).ownBlock)) (gR HO_7) hg hat); replace HB := aK (hb); have HO393 := aK (ho); clear HO390; clear ho hb hg hat; obtain ⟨Ao16, co16, eo16⟩ := Kd.R_slice HO393.out; subst eo16) | ((with_reducible refine gate_callee (f := 51) rfl ?_); refine goesL_ (some 29) rfl rfl Try.func51 (by kernel_rfl) rfl #[.slice Ao16 y391.length co16] rfl am ?_; (with_reducible refine (q7q.calls k1 (fun k_ => some k_ = (.slice Ao16 y391.length co16 : Value).ownBlock) (.slice Ao16 y391.length co16) y391 t394 w _ ?side1 ?side2 A11.out).mono ?_); (case side1 => exact gB HB); (case side2 => exact Kd.R_tight rfl HO393.out); rintro e w17 ⟨v395, rfl, ho0, hb, hkp⟩; refine ⟨_, rfl, ?_⟩; have HO396 := aK (Kd.R_mono (ok' := fun k_ => some k_ ≠ (v382 : Value).ownBlock ∧ some k_ ≠ (.slice Ao15 x7_1.length co15 : Value).ownBlock) ho0 (fun k_ hk_ => ⟨Or.elim hk_ (fun hs_ => fun e_ => (((HO_6.out).1 k_ e_.symm).2) hs_) (fun hn_ => (Kd.fresh' (Kd.R_lt (gR HO_6)) k_ hn_)), Or.elim hk_ (fun hs_ => fun e_ => (((HO_7.out).1 k_ e_.symm).2) hs_) (fun hn_ => (Kd.fresh' (Kd.R_lt (gR HO_7)) k_ hn_))⟩)); replace HO_6 := aK (Kd.R_mono (ok' := fun k_ => some k_ ≠ (.slice Ao15 x7_1.length co15 : Value).ownBlock ∧ some k_ ≠ (v395 : Value).ownBlock) (Kd.R_keptB (HO_6.out) hkp (fun k_ hk_ hs_ => (hk_.2) hs_)) (fun k_ hk_ => ⟨hk_.1.1, fun e_ => Or.elim (ho0.1 k_ e_.symm) (fun hs_ => hk_.2.1 hs_) (fun hn_ => Nat.not_le.2 hk_.2.2 hn_)⟩)); replace HO_7 := aK (Kd.R_mono (ok' := fun k_ => some k_ ≠ (v382 : Value).ownBlock ∧ some k_ ≠ (v395 : Value).ownBlock) (Kd.R_keptB (HO_7.out) hkp (fun k_ hk_ hs_ => (hk_.2) hs_)) (fun k_ hk_ => ⟨hk_.1.1, fun e_ => Or.elim (ho0.1 k_ e_.symm) (fun hs_ => hk_.2.1 hs_) (fun hn_ => Nat.not_le.2 hk_.2.2 hn_)⟩)); replace HB := aK (hb); clear HO393; (try clear hb); (try clear hkp); (try clear ho0)))
               go_loopg [9, 10] k1 (fun kq v9 v10 w' => ∃ (x9_2 : Int) (x10_2 : Int), v9 = .int .u64 x9_2 ∧ v10 = .int .u64 x10_2 ∧ Aside0 (q9q.l1 kq l0 l1 x6_1 t394 x8_1 x9_2 x10_2 = some (r1, r2)) ∧ Aside0 (kq ≤ k1) ∧ Aside0 (Kd.R (Kd.int .u64) 93 w' w.heap.size (fun k_ => some k_ ≠ (v395 : Value).ownBlock) v382 x6_1) ∧ Aside0 (Kd.R (Kd.int .u64) 93 w' w.heap.size (fun k_ => some k_ ≠ (v382 : Value).ownBlock) v395 t394) ∧ Aside0 (Below w.heap.size w w'))
               case atStart => exact ⟨(0), (65536), ac, ac, H', ⟨Nat.le_refl _⟩, ⟨gR ⟨Kd.R_mono HO_6.out (fun _ hk => hk.2)⟩⟩, ⟨gR ⟨Kd.R_mono HO396.out (fun _ hk => hk.1)⟩⟩, ⟨gB HB⟩⟩
               case round =>
                clear H'; (try clear c1); (try clear c3); (try clear c3b0); (try clear c3b1); (try clear c4); (try clear c4b0); (try clear c4b1); (try clear c7); (try clear c7b0); (try clear c8); (try clear c8b0); (try clear c9); (try clear c9b0); (try clear c10); (try clear hx387_0); (try clear p387); (try clear q387)
                obtain ⟨x9_2, x10_2, rfl, rfl, HA, HK2, HO_6, HO_7, HB⟩ := hrel
                cases gk with
                | zero => exact absurd HA.out (by simp [q9q.l1])
                | succ k2 =>
                 have H := HA.out
                 clear HA
                 simp only [q9q.l1] at H
                 by_cases c18 : (IntKind.u64.wrap (x10_2 - x9_2)) > 1
                 · rw [if_pos c18] at H
                   have c18b0 : decide (1 < (IntKind.u64.wrap (x10_2 - x9_2))) = true := decide_eq_true c18
                   clear c18
                   replace H := Option.bind_eq_some_iff.mp H
                   obtain ⟨t407, A190, H⟩ := H
                   replace H : ((q4q.f k2 t407 l1).bind fun t410 => ((q11q.f k2 t410 t394).bind fun t413 => (if t413 ≤ 0 then (q9q.l1 k2 l0 l1 x6_1 t394 x8_1 (IntKind.u64.wrap (Int.tdiv (IntKind.u64.wrap (x9_2 + x10_2)) 2)) x10_2) else (q9q.l1 k2 l0 l1 x6_1 t394 x8_1 x9_2 (IntKind.u64.wrap (Int.tdiv (IntKind.u64.wrap (x9_2 + x10_2)) 2)))))) = some (r1, r2) := H
                   have A19 := Aside0.mk A190; clear A190
                   replace H := Option.bind_eq_some_iff.mp H
                   obtain ⟨t410, A200, H⟩ := H
                   replace H : ((q11q.f k2 t410 t394).bind fun t413 => (if t413 ≤ 0 then (q9q.l1 k2 l0 l1 x6_1 t394 x8_1 (IntKind.u64.wrap (Int.tdiv (IntKind.u64.wrap (x9_2 + x10_2)) 2)) x10_2) else (q9q.l1 k2 l0 l1 x6_1 t394 x8_1 x9_2 (IntKind.u64.wrap (Int.tdiv (IntKind.u64.wrap (x9_2 + x10_2)) 2))))) = some (r1, r2) := H
                   have A20 := Aside0.mk A200; clear A200
                   replace H := Option.bind_eq_some_iff.mp H
                   obtain ⟨t413, A210, H⟩ := H
                   replace H : (if t413 ≤ 0 then (q9q.l1 k2 l0 l1 x6_1 t394 x8_1 (IntKind.u64.wrap (Int.tdiv (IntKind.u64.wrap (x9_2 + x10_2)) 2)) x10_2) else (q9q.l1 k2 l0 l1 x6_1 t394 x8_1 x9_2 (IntKind.u64.wrap (Int.tdiv (IntKind.u64.wrap (x9_2 + x10_2)) 2)))) = some (r1, r2) := H
                   have A21 := Aside0.mk A210; clear A210
                   by_cases c22 : t413 ≤ 0
                   · rw [if_pos c22] at H
                     have c22b0 := dT c22
                     clear c22
                     have H' := Aside0.mk H
                     clear H
                     go_wp2_with (first | ((with_reducible refine gate_callee (f := 45) rfl ?_); refine goesL_ (some 39) rfl rfl Try.func45 (by kernel_rfl) rfl #[.int .u64 (IntKind.u64.wrap (Int.tdiv (IntKind.u64.wrap (x9_2 + x10_2)) 2))] rfl am ?_; (with_reducible refine (q13q.calls k2 (IntKind.u64.wrap (Int.tdiv (IntKind.u64.wrap (x9_2 + x10_2)) 2)) t407 _ A19.out).mono ?_); rintro e w23 ⟨v408, rfl, ho0, hb⟩; refine ⟨_, rfl, ?_⟩; have HO409 := aK (Kd.R_lower (Kd.R_new' (Kd.R_new' ho0 (Kd.R_lt (gR HO_6))) (Kd.R_lt (gR HO_7))) (below_size (gB HB))); replace HO_6 := aK (Kd.R_elder' (gR HO_6) (Kd.R_base ho0) hb); replace HO_7 := aK (Kd.R_elder' (gR HO_7) (Kd.R_base ho0) hb); replace HB := aK (below_step (gB HB) hb); (try clear hb); (try clear hb2); (try clear hk); (try clear hi); (try clear ho0); obtain ⟨Ao24, co24, eo24⟩ := Kd.R_slice HO409.out; subst eo24) | ((with_reducible refine gate_callee (f := 41) rfl ?_); refine goesL_ (some 41) rfl rfl Try.func41 (by kernel_rfl) rfl #[.slice Ao24 t407.length co24, .slice A1 l1.length c1] rfl am ?_; (with_reducible refine (q4q.calls k2 _ _ t407 _ _ l1 t410 _ ?side1 ?side2 ?side3 ?side4 A20.out).mono ?_); (case side1 => repeat (first | exact (Kd.R_reads' HO409.out).2.2 | (with_reducible refine Kd.C_alloc ?_ _) | (with_reducible refine Kd.C_drewN ?_ _) | (with_reducible refine Kd.C_drew ?_))); (case side2 => exact (Kd.R_reads' HO409.out).2.1); (case side3 => exact gC HR1 HB); (case side4 => exact HC1.out); rintro e w25 ⟨v411, rfl, ho0, hb⟩; refine ⟨_, rfl, ?_⟩; have HO412 := aK (Kd.R_lower (Kd.R_new' (Kd.R_new' (Kd.R_new' ho0 (Kd.R_lt (gR HO_6))) (Kd.R_lt (gR HO_7))) (Kd.R_lt (gR HO409))) (below_size (gB HB))); replace HO_6 := aK (Kd.R_elder' (gR HO_6) (Kd.R_base ho0) hb); replace HO_7 := aK (Kd.R_elder' (gR HO_7) (Kd.R_base ho0) hb); replace HO409 := aK (Kd.R_elder' (gR HO409) (Kd.R_base ho0) hb); replace HB := aK (below_step (gB HB) hb); (try clear hb); (try clear hb2); (try clear hk); (try clear hi); (try clear ho0); obtain ⟨Ao26, co26, eo26⟩ := Kd.R_slice HO412.out; subst eo26; obtain ⟨Ao27, co27, eo27⟩ := Kd.R_slice HO_7.out; subst eo27) | ((with_reducible refine gate_callee (f := 43) rfl ?_); refine goesL_ (some 43) rfl rfl Try.func43 (by kernel_rfl) rfl #[.slice Ao26 t410.length co26, .slice Ao27 t394.length co27] rfl am ?_; (with_reducible refine (q11q.calls k2 _ _ t410 _ _ t394 t413 _ ?side1 ?side2 ?side3 ?side4 A21.out).mono ?_); (case side1 => repeat (first | exact (Kd.R_reads' HO412.out).2.2 | (with_reducible refine Kd.C_alloc ?_ _) | (with_reducible refine Kd.C_drewN ?_ _) | (with_reducible refine Kd.C_drew ?_))); (case side2 => exact (Kd.R_reads' HO412.out).2.1); (case side3 => repeat (first | exact (Kd.R_reads' HO_7.out).2.2 | (with_reducible refine Kd.C_alloc ?_ _) | (with_reducible refine Kd.C_drewN ?_ _) | (with_reducible refine Kd.C_drew ?_))); (case side4 => exact (Kd.R_reads' HO_7.out).2.1); rintro e w' ⟨rfl, ⟨nd, rfl⟩⟩; refine ⟨_, rfl, ?_⟩))
                     go_roundg k2
                     case measure => have := HK1.out; have := HK2.out; omega
                     case rel => exact ⟨(IntKind.u64.wrap (Int.tdiv (IntKind.u64.wrap (x9_2 + x10_2)) 2)), (x10_2), ac, ac, H', ⟨by have := HK1.out; have := HK2.out; omega⟩, ⟨gR ⟨Kd.R_mono HO_6.out (fun _ hk => hk.1.1)⟩⟩, ⟨gR ⟨Kd.R_mono HO_7.out (fun _ hk => hk.1.1)⟩⟩, ⟨gB HB⟩⟩
                   · rw [if_neg c22] at H
                     have c22b0 := dF c22
                     clear c22
                     have H' := Aside0.mk H
                     clear H
                     go_wp2_with (first | ((with_reducible refine gate_callee (f := 45) rfl ?_); refine goesL_ (some 39) rfl rfl Try.func45 (by kernel_rfl) rfl #[.int .u64 (IntKind.u64.wrap (Int.tdiv (IntKind.u64.wrap (x9_2 + x10_2)) 2))] rfl am ?_; (with_reducible refine (q13q.calls k2 (IntKind.u64.wrap (Int.tdiv (IntKind.u64.wrap (x9_2 + x10_2)) 2)) t407 _ A19.out).mono ?_); rintro e w28 ⟨v408, rfl, ho0, hb⟩; refine ⟨_, rfl, ?_⟩; have HO409 := aK (Kd.R_lower (Kd.R_new' (Kd.R_new' ho0 (Kd.R_lt (gR HO_6))) (Kd.R_lt (gR HO_7))) (below_size (gB HB))); replace HO_6 := aK (Kd.R_elder' (gR HO_6) (Kd.R_base ho0) hb); replace HO_7 := aK (Kd.R_elder' (gR HO_7) (Kd.R_base ho0) hb); replace HB := aK (below_step (gB HB) hb); (try clear hb); (try clear hb2); (try clear hk); (try clear hi); (try clear ho0); obtain ⟨Ao29, co29, eo29⟩ := Kd.R_slice HO409.out; subst eo29) | ((with_reducible refine gate_callee (f := 41) rfl ?_); refine goesL_ (some 41) rfl rfl Try.func41 (by kernel_rfl) rfl #[.slice Ao29 t407.length co29, .slice A1 l1.length c1] rfl am ?_; (with_reducible refine (q4q.calls k2 _ _ t407 _ _ l1 t410 _ ?side1 ?side2 ?side3 ?side4 A20.out).mono ?_); (case side1 => repeat (first | exact (Kd.R_reads' HO409.out).2.2 | (with_reducible refine Kd.C_alloc ?_ _) | (with_reducible refine Kd.C_drewN ?_ _) | (with_reducible refine Kd.C_drew ?_))); (case side2 => exact (Kd.R_reads' HO409.out).2.1); (case side3 => exact gC HR1 HB); (case side4 => exact HC1.out); rintro e w30 ⟨v411, rfl, ho0, hb⟩; refine ⟨_, rfl, ?_⟩; have HO412 := aK (Kd.R_lower (Kd.R_new' (Kd.R_new' (Kd.R_new' ho0 (Kd.R_lt (gR HO_6))) (Kd.R_lt (gR HO_7))) (Kd.R_lt (gR HO409))) (below_size (gB HB))); replace HO_6 := aK (Kd.R_elder' (gR HO_6) (Kd.R_base ho0) hb); replace HO_7 := aK (Kd.R_elder' (gR HO_7) (Kd.R_base ho0) hb); replace HO409 := aK (Kd.R_elder' (gR HO409) (Kd.R_base ho0) hb); replace HB := aK (below_step (gB HB) hb); (try clear hb); (try clear hb2); (try clear hk); (try clear hi); (try clear ho0); obtain ⟨Ao31, co31, eo31⟩ := Kd.R_slice HO412.out; subst eo31; obtain ⟨Ao32, co32, eo32⟩ := Kd.R_slice HO_7.out; subst eo32) | ((with_reducible refine gate_callee (f := 43) rfl ?_); refine goesL_ (some 43) rfl rfl Try.func43 (by kernel_rfl) rfl #[.slice Ao31 t410.length co31, .slice Ao32 t394.length co32] rfl am ?_; (with_reducible refine (q11q.calls k2 _ _ t410 _ _ t394 t413 _ ?side1 ?side2 ?side3 ?side4 A21.out).mono ?_); (case side1 => repeat (first | exact (Kd.R_reads' HO412.out).2.2 | (with_reducible refine Kd.C_alloc ?_ _) | (with_reducible refine Kd.C_drewN ?_ _) | (with_reducible refine Kd.C_drew ?_))); (case side2 => exact (Kd.R_reads' HO412.out).2.1); (case side3 => repeat (first | exact (Kd.R_reads' HO_7.out).2.2 | (with_reducible refine Kd.C_alloc ?_ _) | (with_reducible refine Kd.C_drewN ?_ _) | (with_reducible refine Kd.C_drew ?_))); (case side4 => exact (Kd.R_reads' HO_7.out).2.1); rintro e w' ⟨rfl, ⟨nd, rfl⟩⟩; refine ⟨_, rfl, ?_⟩))
                     go_roundg k2
                     case measure => have := HK1.out; have := HK2.out; omega
                     case rel => exact ⟨(x9_2), (IntKind.u64.wrap (Int.tdiv (IntKind.u64.wrap (x9_2 + x10_2)) 2)), ac, ac, H', ⟨by have := HK1.out; have := HK2.out; omega⟩, ⟨gR ⟨Kd.R_mono HO_6.out (fun _ hk => hk.1.1)⟩⟩, ⟨gR ⟨Kd.R_mono HO_7.out (fun _ hk => hk.1.1)⟩⟩, ⟨gB HB⟩⟩
                 · rw [if_neg c18] at H
                   have c18b0 : decide (1 < (IntKind.u64.wrap (x10_2 - x9_2))) = false := decide_eq_false c18
                   clear c18
                   by_cases c33 : 0 ≤ x8_1
                   · rw [if_pos c33] at H
                     have c33b0 := dT c33
                     clear c33
                     by_cases c34 : x8_1 < (x6_1.length : Int)
                     · rw [if_pos c34] at H
                       have c34b0 := dT c34
                       clear c34
                       obtain ⟨y397, hy_⟩ : ∃ y_ : List Int, y_ = (x6_1.set (x8_1 : Int).toNat x9_2) := ⟨_, rfl⟩
                       replace H : ((q13q.f k2 x9_2).bind fun t398 => ((q4q.f k2 t398 l1).bind fun t401 => ((q17q.f k2 t394 t401).bind fun t404 => (q9q.l0 k2 l0 l1 y397 t404 (wrap64 (x8_1 - 1)))))) = some (r1, r2) := h2
                       have Ny397 := Aside0.mk hy_; clear hy_
                       replace H := Option.bind_eq_some_iff.mp H
                       obtain ⟨t398, A360, H⟩ := H
                       replace H : ((q4q.f k2 t398 l1).bind fun t401 => ((q17q.f k2 t394 t401).bind fun t404 => (q9q.l0 k2 l0 l1 y397 t404 (wrap64 (x8_1 - 1))))) = some (r1, r2) := H
                       have A36 := Aside0.mk A360; clear A360
                       replace H := Option.bind_eq_some_iff.mp H
                       obtain ⟨t401, A370, H⟩ := H
                       replace H : ((q17q.f k2 t394 t401).bind fun t404 => (q9q.l0 k2 l0 l1 y397 t404 (wrap64 (x8_1 - 1)))) = some (r1, r2) := H
                       have A37 := Aside0.mk A370; clear A370
                       replace H := Option.bind_eq_some_iff.mp H
                       obtain ⟨t404, A380, H⟩ := H
                       replace H : (q9q.l0 k2 l0 l1 y397 t404 (wrap64 (x8_1 - 1))) = some (r1, r2) := H
                       have A38 := Aside0.mk A380; clear A380
                       have H' := Aside0.mk H
                       clear H
                       have p35 : 0 ≤ (x8_1 : Int) := od
                       have q35 : (x8_1 : Int) < ((x6_1.length : Int) : Int) := od
                       obtain ⟨go35, co35, eo35, gb35, gl35, cl35, HG35⟩ := Kd.R_form HO_6.out (by omega)
                       (first | cases eo35 | (injection eo35 with ea_ en_ ec_; (first | subst ea_ | (injection ea_ with ea_; subst ea_)); subst ec_; clear en_))
                       have GB35 := Aside0.mk gb35; have GG35 := Aside0.mk HG35; clear gb35 gl35 HG35
                       obtain ⟨hx35_0, hf35_0⟩ := Kd.R_celln 0 HO_6.out (x8_1 : Int) p35 q35
                       replace p35 := eq_true p35; replace q35 := eq_true q35
                       have HP39 := Kd.R_putg HO_6.out (x8_1 : Int) x9_2
                       go_wp2_with (first | ((with_reducible refine gate_store (t := 93) (p := 50) rfl ?_); refine se (t := 93) (p := 50) (w1 := (wr.setCell ⟨go35, (x8_1 : Int).toNat, none⟩ (.int .u64 x9_2))) ?_; intro w40 hw; have hg : wr.grownBy w40 (some go35) := (by rw [hw]; exact HP39.2); have hp_ : Kd.R (Kd.int .u64) 93 w40 w.heap.size (fun k_ => some k_ ≠ (v395 : Value).ownBlock) (.slice (some ⟨go35, 0, none⟩) x6_1.length co35) y397 := (by rw [hw, Ny397.out]; exact HP39.1); clear HP39; replace HO_6 := aK (hp_); replace HO_7 := aK (Kd.R_after (v := (.slice (some ⟨go35, 0, none⟩) x6_1.length co35)) (v1 := (.slice (some ⟨go35, 0, none⟩) x6_1.length co35)) (ok := (fun _ => True)) (gR ⟨Kd.R_mono HO_7.out (fun _ hk => ⟨trivial, hk⟩)⟩) hg (.inl rfl)); replace HB := aK ((by rw [hw]; exact below_set (HB.out) GB35.out : Below w.heap.size w w40)); clear hg hw hp_) | ((with_reducible refine gate_callee (f := 45) rfl ?_); refine goesL_ (some 53) rfl rfl Try.func45 (by kernel_rfl) rfl #[.int .u64 x9_2] rfl am ?_; (with_reducible refine (q13q.calls k2 x9_2 t398 _ A36.out).mono ?_); rintro e w41 ⟨v399, rfl, ho0, hb⟩; refine ⟨_, rfl, ?_⟩; have HO400 := aK (Kd.R_lower (Kd.R_new' (Kd.R_new' ho0 (Kd.R_lt (gR HO_6))) (Kd.R_lt (gR HO_7))) (below_size (gB HB))); replace HO_6 := aK (Kd.R_elder' (gR HO_6) (Kd.R_base ho0) hb); replace HO_7 := aK (Kd.R_elder' (gR HO_7) (Kd.R_base ho0) hb); replace HB := aK (below_step (gB HB) hb); (try clear hb); (try clear hb2); (try clear hk); (try clear hi); (try clear ho0); obtain ⟨Ao42, co42, eo42⟩ := Kd.R_slice HO400.out; subst eo42) | ((with_reducible refine gate_callee (f := 41) rfl ?_); refine goesL_ (some 55) rfl rfl Try.func41 (by kernel_rfl) rfl #[.slice Ao42 t398.length co42, .slice A1 l1.length c1] rfl am ?_; (with_reducible refine (q4q.calls k2 _ _ t398 _ _ l1 t401 _ ?side1 ?side2 ?side3 ?side4 A37.out).mono ?_); (case side1 => repeat (first | exact (Kd.R_reads' HO400.out).2.2 | (with_reducible refine Kd.C_alloc ?_ _) | (with_reducible refine Kd.C_drewN ?_ _) | (with_reducible refine Kd.C_drew ?_))); (case side2 => exact (Kd.R_reads' HO400.out).2.1); (case side3 => exact gC HR1 HB); (case side4 => exact HC1.out); rintro e w43 ⟨v402, rfl, ho0, hb⟩; refine ⟨_, rfl, ?_⟩; have HO403 := aK (Kd.R_lower (Kd.R_new' (Kd.R_new' (Kd.R_new' ho0 (Kd.R_lt (gR HO_6))) (Kd.R_lt (gR HO_7))) (Kd.R_lt (gR HO400))) (below_size (gB HB))); replace HO_6 := aK (Kd.R_elder' (gR HO_6) (Kd.R_base ho0) hb); replace HO_7 := aK (Kd.R_elder' (gR HO_7) (Kd.R_base ho0) hb); replace HO400 := aK (Kd.R_elder' (gR HO400) (Kd.R_base ho0) hb); replace HB := aK (below_step (gB HB) hb); (try clear hb); (try clear hb2); (try clear hk); (try clear hi); (try clear ho0); obtain ⟨Ao44, co44, eo44⟩ := Kd.R_slice HO_7.out; subst eo44; obtain ⟨Ao45, co45, eo45⟩ := Kd.R_slice HO403.out; subst eo45) | ((with_reducible refine gate_callee (f := 52) rfl ?_); refine goesL_ (some 56) rfl rfl Try.func52 (by kernel_rfl) rfl #[.slice Ao44 t394.length co44, .slice Ao45 t401.length co45] rfl am ?_; (with_reducible refine (q17q.calls k2 _ _ t394 _ _ t401 t404 _ ?side1 ?side2 ?side3 ?side4 A38.out).mono ?_); (case side1 => repeat (first | exact (Kd.R_reads' HO_7.out).2.2 | (with_reducible refine Kd.C_alloc ?_ _) | (with_reducible refine Kd.C_drewN ?_ _) | (with_reducible refine Kd.C_drew ?_))); (case side2 => exact (Kd.R_reads' HO_7.out).2.1); (case side3 => repeat (first | exact (Kd.R_reads' HO403.out).2.2 | (with_reducible refine Kd.C_alloc ?_ _) | (with_reducible refine Kd.C_drewN ?_ _) | (with_reducible refine Kd.C_drew ?_))); (case side4 => exact (Kd.R_reads' HO403.out).2.1); rintro e w46 ⟨v405, rfl, ho0, hb⟩; refine ⟨_, rfl, ?_⟩; have HO406 := aK (Kd.R_lower (Kd.R_new' (Kd.R_new' (Kd.R_new' (Kd.R_new' ho0 (Kd.R_lt (gR HO_6))) (Kd.R_lt (gR HO_7))) (Kd.R_lt (gR HO400))) (Kd.R_lt (gR HO403))) (below_size (gB HB))); replace HO_6 := aK (Kd.R_elder' (gR HO_6) (Kd.R_base ho0) hb); replace HO_7 := aK (Kd.R_elder' (gR HO_7) (Kd.R_base ho0) hb); replace HO400 := aK (Kd.R_elder' (gR HO400) (Kd.R_base ho0) hb); replace HO403 := aK (Kd.R_elder' (gR HO403) (Kd.R_base ho0) hb); replace HB := aK (below_step (gB HB) hb); (try clear hb); (try clear hb2); (try clear hk); (try clear hi); (try clear ho0)))
                       go_roundg k2
                       case measure => have := HK1.out; have := HK2.out; omega
                       case rel => exact ⟨(y397), (t404), (wrap64 (x8_1 - 1)), ac, H', ⟨by have := HK1.out; have := HK2.out; omega⟩, ⟨gR ⟨Kd.R_mono HO_6.out (fun _ hk => hk.2)⟩⟩, ⟨gR ⟨Kd.R_mono HO406.out (fun _ hk => hk.1.1.1.2)⟩⟩, ⟨gB HB⟩⟩
                     · rw [if_neg c34] at H
                       exact absurd H (by simp)
                   · rw [if_neg c33] at H
                     exact absurd H (by simp)
             · rw [if_neg c10] at H
               exact absurd H (by simp)
           · rw [if_neg c9] at H
             exact absurd H (by simp)
         · rw [if_neg c8] at H
           exact absurd H (by simp)
       · rw [if_neg c7] at H
         have c7b0 : decide (0 ≤ x8_1) = false := decide_eq_false c7
         clear c7
         replace H := Option.bind_eq_some_iff.mp H
         obtain ⟨t384, A470, H⟩ := H
         replace H : (some (t384, x7_1)) = some (r1, r2) := H
         have A47 := Aside0.mk A470; clear A470
         simp only [Option.some.injEq, Prod.mk.injEq] at H
         obtain ⟨rfl, rfl⟩ := H
         obtain ⟨Ao48, co48, eo48⟩ := Kd.R_slice HO_6.out
         subst eo48
         go_wp2_with (first | ((with_reducible refine gate_callee (f := 51) rfl ?_); refine goesL_ (some 58) rfl rfl Try.func51 (by kernel_rfl) rfl #[.slice Ao48 x6_1.length co48] rfl am ?_; (with_reducible refine (q7q.calls k1 (fun k_ => some k_ = (.slice Ao48 x6_1.length co48 : Value).ownBlock) (.slice Ao48 x6_1.length co48) x6_1 t384 w _ ?side1 ?side2 A47.out).mono ?_); (case side1 => exact gB HB); (case side2 => exact Kd.R_tight rfl HO_6.out); rintro e w49 ⟨v385, rfl, ho0, hb, hkp⟩; refine ⟨_, rfl, ?_⟩; have HO386 := aK (Kd.R_mono (ok' := fun k_ => some k_ ≠ (u7 : Value).ownBlock) ho0 (fun k_ hk_ => Or.elim hk_ (fun hs_ => fun e_ => (((HO_7.out).1 k_ e_.symm)) hs_) (fun hn_ => (Kd.fresh' (Kd.R_lt (gR HO_7)) k_ hn_)))); replace HO_7 := aK (Kd.R_mono (ok' := fun k_ => some k_ ≠ (v385 : Value).ownBlock) (Kd.R_keptB (HO_7.out) hkp (fun k_ hk_ hs_ => (hk_) hs_)) (fun k_ hk_ => fun e_ => Or.elim (ho0.1 k_ e_.symm) (fun hs_ => hk_.2.1 hs_) (fun hn_ => Nat.not_le.2 hk_.2.2 hn_))); replace HB := aK (hb); clear HO_6; (try clear hb); (try clear hkp); (try clear ho0)))
         go_ret2
         exact ⟨_, _, by first | rfl | (simp [errW_none, errW_some] <;> rfl) | (simp [*, errW_none, errW_some] <;> rfl), gR HO386, gR HO_7, gB HB⟩
   · rw [if_neg c4] at H
     exact absurd H (by simp)
 · rw [if_neg c3] at H
   exact absurd H (by simp)
def q23q.f (k : Nat) (a0 : Int) : Option (List Int) := if a0 = (-9223372036854775808) then ((q13q.f k 9223372036854775808).bind fun t414 => (some t414)) else (if a0 < 0 then ((q13q.f k (IntKind.u64.wrap (wrap64 (-a0)))).bind fun t417 => (some t417)) else ((q13q.f k (IntKind.u64.wrap (a0))).bind fun t420 => (some t420)))
theorem q23q.mono : ∀ a0 k, LeO (q23q.f k a0) (q23q.f (k + 1) a0) := by
 intro a0 k
 unfold q23q.f
 repeat' first
  | (with_reducible exact q13q.mono _ _)
  | (with_reducible exact LeO.refl _)
  | (with_reducible exact LeO.none _)
  | (with_reducible refine LeO.ite ?_ ?_)
  | (with_reducible refine LeO.bind ?_ (fun _ => ?_))
  | exact q13q.mono _ _
  | exact LeO.none _
  | refine LeO.ite ?_ ?_
  | refine LeO.bind ?_ (fun _ => ?_)
set_option maxHeartbeats 8000000 in
set_option maxRecDepth 100000 in
theorem q23q.calls (k : Nat) (a0 : Int) (r : List Int) (w : World) (h : q23q.f k a0 = some r) :
 Calls Try.prog 42 #[.int .i64 a0] w fun e w' => ∃ v0_ : Value, e = .returned (v0_) ∧ Kd.R (Kd.int .u64) 93 w' w.heap.size (fun _ => True) v0_ r ∧ Below w.heap.size w w' := by
 have HB := aK (Below.refl w.heap.size w)
 have H : (if a0 = (-9223372036854775808) then ((q13q.f k 9223372036854775808).bind fun t414 => (some t414)) else (if a0 < 0 then ((q13q.f k (IntKind.u64.wrap (wrap64 (-a0)))).bind fun t417 => (some t417)) else ((q13q.f k (IntKind.u64.wrap (a0))).bind fun t420 => (some t420)))) = some r := h
 clear h
 by_cases c2 : a0 = (-9223372036854775808)
 · rw [if_pos c2] at H
   have c2b0 : (a0 == (-9223372036854775808)) = true := beq_iff_eq.mpr c2
   have c2b1 : (a0 != (-9223372036854775808)) = false := bne_eq_false_iff_eq.mpr c2
   clear c2
   replace H := Option.bind_eq_some_iff.mp H
   obtain ⟨t414, A30, H⟩ := H
   replace H : (some t414) = some r := H
   have A3 := Aside0.mk A30; clear A30
   obtain rfl := Option.some.inj H
   go_enter Try.func42, Try.ntmps42
   go_wp2_with (first | ((with_reducible refine gate_callee (f := 45) rfl ?_); refine goesL_ (some 5) rfl rfl Try.func45 (by kernel_rfl) rfl #[.int .u64 9223372036854775808] rfl am ?_; (with_reducible refine (q13q.calls k 9223372036854775808 t414 _ A3.out).mono ?_); rintro e w4 ⟨v415, rfl, ho0, hb⟩; refine ⟨_, rfl, ?_⟩; have HO416 := aK (Kd.R_lower ho0 (below_size (gB HB))); replace HB := aK (below_step (gB HB) hb); (try clear hb); (try clear hb2); (try clear hk); (try clear hi); (try clear ho0)))
   go_ret
   exact ⟨_, by first | rfl | (simp [errW_none, errW_some] <;> rfl) | (simp [*, errW_none, errW_some] <;> rfl), gR HO416, gB HB⟩
 · rw [if_neg c2] at H
   have c2b0 : (a0 == (-9223372036854775808)) = false := beq_eq_false_iff_ne.mpr c2
   have c2b1 : (a0 != (-9223372036854775808)) = true := bne_iff_ne.mpr c2
   by_cases c5 : a0 < 0
   · rw [if_pos c5] at H
     have c5b0 := dT c5
     clear c5
     replace H := Option.bind_eq_some_iff.mp H
     obtain ⟨t417, A60, H⟩ := H
     replace H : (some t417) = some r := H
     have A6 := Aside0.mk A60; clear A60
     obtain rfl := Option.some.inj H
     go_enter Try.func42, Try.ntmps42
     go_wp2_with (first | ((with_reducible refine gate_callee (f := 45) rfl ?_); refine goesL_ (some 11) rfl rfl Try.func45 (by kernel_rfl) rfl #[.int .u64 (IntKind.u64.wrap (wrap64 (-a0)))] rfl am ?_; (with_reducible refine (q13q.calls k (IntKind.u64.wrap (wrap64 (-a0))) t417 _ A6.out).mono ?_); rintro e w7 ⟨v418, rfl, ho0, hb⟩; refine ⟨_, rfl, ?_⟩; have HO419 := aK (Kd.R_lower ho0 (below_size (gB HB))); replace HB := aK (below_step (gB HB) hb); (try clear hb); (try clear hb2); (try clear hk); (try clear hi); (try clear ho0)))
     go_ret
     exact ⟨_, by first | rfl | (simp [errW_none, errW_some] <;> rfl) | (simp [*, errW_none, errW_some] <;> rfl), gR HO419, gB HB⟩
   · rw [if_neg c5] at H
     have c5b0 := dF c5
     clear c5
     replace H := Option.bind_eq_some_iff.mp H
     obtain ⟨t420, A80, H⟩ := H
     replace H : (some t420) = some r := H
     have A8 := Aside0.mk A80; clear A80
     obtain rfl := Option.some.inj H
     go_enter Try.func42, Try.ntmps42
     go_wp2_with (first | ((with_reducible refine gate_callee (f := 45) rfl ?_); refine goesL_ (some 14) rfl rfl Try.func45 (by kernel_rfl) rfl #[.int .u64 (IntKind.u64.wrap (a0))] rfl am ?_; (with_reducible refine (q13q.calls k (IntKind.u64.wrap (a0)) t420 _ A8.out).mono ?_); rintro e w9 ⟨v421, rfl, ho0, hb⟩; refine ⟨_, rfl, ?_⟩; have HO422 := aK (Kd.R_lower ho0 (below_size (gB HB))); replace HB := aK (below_step (gB HB) hb); (try clear hb); (try clear hb2); (try clear hk); (try clear hi); (try clear ho0)))
     go_ret
     exact ⟨_, by first | rfl | (simp [errW_none, errW_some] <;> rfl) | (simp [*, errW_none, errW_some] <;> rfl), gR HO422, gB HB⟩
mutual
def q5q.l0 : Nat → List Int → List Int → List Int → Int → Int → Option (List Int)
 | 0, _, _, _, _, _ => none
 | k + 1, x0, x1, x5, x6, x7 => if x7 < (x0.length : Int) then (q5q.j1 k x0 x1 x5 x6 x7 true) else (if x7 < (x1.length : Int) then (q5q.j1 k x0 x1 x5 x6 x7 true) else (q5q.j1 k x0 x1 x5 x6 x7 (decide (x6 > 0))))
def q5q.j1 : Nat → List Int → List Int → List Int → Int → Int → Bool → Option (List Int)
 | 0, _, _, _, _, _, _ => none
 | k + 1, x0, x1, x5, x6, x7, x22 => if x22 = true then (if x7 < (x0.length : Int) then (if 0 ≤ x7 then (if x7 < (x1.length : Int) then (if x5.length < 17592186044416 then (q5q.l0 k x0 x1 (x5 ++ [Int.tmod (IntKind.u64.wrap ((IntKind.u64.wrap (x6 + (rd x0 x7))) + (rd x1 x7))) 65536]) (IntKind.u64.wrap (Int.tdiv (IntKind.u64.wrap ((IntKind.u64.wrap (x6 + (rd x0 x7))) + (rd x1 x7))) 65536)) (wrap64 (x7 + 1))) else (none)) else (if x5.length < 17592186044416 then (q5q.l0 k x0 x1 (x5 ++ [Int.tmod (IntKind.u64.wrap (x6 + (rd x0 x7))) 65536]) (IntKind.u64.wrap (Int.tdiv (IntKind.u64.wrap (x6 + (rd x0 x7))) 65536)) (wrap64 (x7 + 1))) else (none))) else (none)) else (if x7 < (x1.length : Int) then (if 0 ≤ x7 then (if x5.length < 17592186044416 then (q5q.l0 k x0 x1 (x5 ++ [Int.tmod (IntKind.u64.wrap (x6 + (rd x1 x7))) 65536]) (IntKind.u64.wrap (Int.tdiv (IntKind.u64.wrap (x6 + (rd x1 x7))) 65536)) (wrap64 (x7 + 1))) else (none)) else (none)) else (if x5.length < 17592186044416 then (q5q.l0 k x0 x1 (x5 ++ [Int.tmod x6 65536]) (IntKind.u64.wrap (Int.tdiv x6 65536)) (wrap64 (x7 + 1))) else (none)))) else ((q7q.f k x5).bind fun t423 => (some t423))
end
def q5q.f (k : Nat) (l0 : List Int) (l1 : List Int) : Option (List Int) := q5q.l0 k l0 l1 ([] : List Int) 0 0
theorem q5q.mono_l : ∀ k, (∀ y0 y1 y2 y3 y4, LeO (q5q.l0 k y0 y1 y2 y3 y4) (q5q.l0 (k + 1) y0 y1 y2 y3 y4)) ∧ (∀ y0 y1 y2 y3 y4 y5, LeO (q5q.j1 k y0 y1 y2 y3 y4 y5) (q5q.j1 (k + 1) y0 y1 y2 y3 y4 y5))
 | 0 => ⟨fun _ _ _ _ _ r h => by simp [q5q.l0] at h, fun _ _ _ _ _ _ r h => by simp [q5q.j1] at h⟩
 | k + 1 => by
  obtain ⟨ih0, ih1⟩ := q5q.mono_l k
  refine ⟨?_, ?_⟩
  intro y0 y1 y2 y3 y4; unfold q5q.l0; rotate_left
  intro y0 y1 y2 y3 y4 y5; unfold q5q.j1; rotate_left
  all_goals repeat' first
  | (with_reducible exact ih0 _ _ _ _ _)
  | (with_reducible exact ih1 _ _ _ _ _ _)
  | (with_reducible exact q7q.mono _ _)
  | (with_reducible exact LeO.refl _)
  | (with_reducible exact LeO.none _)
  | (with_reducible refine LeO.ite ?_ ?_)
  | (with_reducible refine LeO.bind ?_ (fun _ => ?_))
  | exact ih0 _ _ _ _ _
  | exact ih1 _ _ _ _ _ _
  | exact q7q.mono _ _
  | exact LeO.none _
  | refine LeO.ite ?_ ?_
  | refine LeO.bind ?_ (fun _ => ?_)
theorem q5q.mono : ∀ a0 a1 k, LeO (q5q.f k a0 a1) (q5q.f (k + 1) a0 a1) := by
 intro a0 a1 k
 obtain ⟨ih0, ih1⟩ := q5q.mono_l k
 unfold q5q.f
 repeat' first
  | (with_reducible exact ih0 _ _ _ _ _)
  | (with_reducible exact ih1 _ _ _ _ _ _)
  | (with_reducible exact q7q.mono _ _)
  | (with_reducible exact LeO.refl _)
  | (with_reducible exact LeO.none _)
  | (with_reducible refine LeO.ite ?_ ?_)
  | (with_reducible refine LeO.bind ?_ (fun _ => ?_))
  | exact ih0 _ _ _ _ _
  | exact ih1 _ _ _ _ _ _
  | exact q7q.mono _ _
  | exact LeO.none _
  | refine LeO.ite ?_ ?_
  | refine LeO.bind ?_ (fun _ => ?_)
set_option maxHeartbeats 8000000 in
set_option maxRecDepth 100000 in
theorem q5q.calls (k : Nat) (A0 : Option Addr) (c0 : Nat) (l0 : List Int) (A1 : Option Addr) (c1 : Nat) (l1 : List Int) (r : List Int) (w : World) (hr0 : Kd.C (Kd.int .u64) w A0 l0.length l0) (hc0 : l0.length ≤ c0) (hr1 : Kd.C (Kd.int .u64) w A1 l1.length l1) (hc1 : l1.length ≤ c1) (h : q5q.f k l0 l1 = some r) :
 Calls Try.prog 44 #[.slice A0 l0.length c0, .slice A1 l1.length c1] w fun e w' => ∃ v0_ : Value, e = .returned (v0_) ∧ Kd.R (Kd.int .u64) 93 w' w.heap.size (fun _ => True) v0_ r ∧ Below w.heap.size w w' := by
 have HR0 := Aside0.mk hr0; have HC0 := Aside0.mk hc0; clear hr0 hc0; have HR1 := Aside0.mk hr1; have HC1 := Aside0.mk hc1; clear hr1 hc1
 have HB := aK (Below.refl w.heap.size w)
 have H : (q5q.l0 k l0 l1 ([] : List Int) 0 0) = some r := h
 clear h
 have H' := Aside0.mk H
 clear H
 go_enter Try.func44, Try.ntmps44
 go_wp2
 go_loopg [5, 6, 7] k (fun kq v5 v6 v7 w' => ∃ (x5_1 : List Int) (x6_1 : Int) (x7_1 : Int), v6 = .int .u64 x6_1 ∧ v7 = .int .i64 x7_1 ∧ Aside0 (q5q.l0 kq l0 l1 x5_1 x6_1 x7_1 = some r) ∧ Aside0 (kq ≤ k) ∧ Aside0 (Kd.R (Kd.int .u64) 93 w' w.heap.size (fun _ => True) v5 x5_1) ∧ Aside0 (Below w.heap.size w w'))
 case atStart => exact ⟨(([] : List Int)), (0), (0), ac, ac, H', ⟨Nat.le_refl _⟩, ⟨by first | exact Kd.R_nil _ _ _ _ _ | exact Kd.N_nil _ _ _ _ _ | exact Kd.V_nil _ _ _ _ _ | exact Kd.Q_nil _ _ _ _ _ | exact Kd.S_nil _ _ _ _ _⟩, ⟨gB HB⟩⟩
 case round =>
  clear H'; (try clear c1)
  obtain ⟨x5_1, x6_1, x7_1, rfl, rfl, HA, HK1, HO_5, HB⟩ := hrel
  cases gk with
  | zero => exact absurd HA.out (by simp [q5q.l0])
  | succ k1 =>
   have H := HA.out
   clear HA
   simp only [q5q.l0] at H
   have HC3 := Aside0.mk H; clear H
   go_upto_region 4 with (fail)
   go_cut [22] (fun v22 wc => ∃ (kq : Nat) (x22_2 : Bool), v22 = .bool x22_2 ∧ Aside0 (q5q.j1 kq l0 l1 x5_1 x6_1 x7_1 x22_2 = some r) ∧ Aside0 (kq ≤ k1) ∧ Aside0 (Kd.R (Kd.int .u64) 93 wc w.heap.size (fun _ => True) u5 x5_1) ∧ Aside0 (Below w.heap.size w wc))
   case first =>
    have H := HC3.out
    clear HC3
    by_cases c4 : x7_1 < (l0.length : Int)
    · rw [if_pos c4] at H
      have c4b0 := dT c4
      clear c4
      (first | rw [c4b0] | (simp only [i64_w, i32_w]; rw [c4b0]) | skip)
      have H' := Aside0.mk H
      clear H
      go_wp2
      go_meet
      case rel => exact ⟨_, (true), ac, H', ⟨by have := HK1.out; first | omega | exact Nat.le_refl _⟩, ⟨gR HO_5⟩, ⟨gB HB⟩⟩
    · rw [if_neg c4] at H
      have c4b0 := dF c4
      clear c4
      (first | rw [c4b0] | (simp only [i64_w, i32_w]; rw [c4b0]) | skip)
      by_cases c5 : x7_1 < (l1.length : Int)
      · rw [if_pos c5] at H
        have c5b0 := dT c5
        clear c5
        have H' := Aside0.mk H
        clear H
        go_wp2
        go_meet
        case rel => exact ⟨_, (true), ac, H', ⟨by have := HK1.out; first | omega | exact Nat.le_refl _⟩, ⟨gR HO_5⟩, ⟨gB HB⟩⟩
      · rw [if_neg c5] at H
        have c5b0 := dF c5
        clear c5
        have H' := Aside0.mk H
        clear H
        go_wp2
        go_meet
        case rel => exact ⟨_, (decide (x6_1 > 0)), ac, H', ⟨by have := HK1.out; first | omega | exact Nat.le_refl _⟩, ⟨gR HO_5⟩, ⟨gB HB⟩⟩
   case rest =>
    clear HC3; (try clear c1)
    obtain ⟨kq, x22_2, rfl, HA, HJ2, HO_5, HB⟩ := hcut
    cases kq with
    | zero => exact absurd HA.out (by simp [q5q.j1])
    | succ kj2 =>
     have H := HA.out
     clear HA
     simp only [q5q.j1] at H
     by_cases c6 : x22_2 = true
     · subst c6
       replace H : (if x7_1 < (l0.length : Int) then (if 0 ≤ x7_1 then (if x7_1 < (l1.length : Int) then (if x5_1.length < 17592186044416 then (q5q.l0 kj2 l0 l1 (x5_1 ++ [Int.tmod (IntKind.u64.wrap ((IntKind.u64.wrap (x6_1 + (rd l0 x7_1))) + (rd l1 x7_1))) 65536]) (IntKind.u64.wrap (Int.tdiv (IntKind.u64.wrap ((IntKind.u64.wrap (x6_1 + (rd l0 x7_1))) + (rd l1 x7_1))) 65536)) (wrap64 (x7_1 + 1))) else (none)) else (if x5_1.length < 17592186044416 then (q5q.l0 kj2 l0 l1 (x5_1 ++ [Int.tmod (IntKind.u64.wrap (x6_1 + (rd l0 x7_1))) 65536]) (IntKind.u64.wrap (Int.tdiv (IntKind.u64.wrap (x6_1 + (rd l0 x7_1))) 65536)) (wrap64 (x7_1 + 1))) else (none))) else (none)) else (if x7_1 < (l1.length : Int) then (if 0 ≤ x7_1 then (if x5_1.length < 17592186044416 then (q5q.l0 kj2 l0 l1 (x5_1 ++ [Int.tmod (IntKind.u64.wrap (x6_1 + (rd l1 x7_1))) 65536]) (IntKind.u64.wrap (Int.tdiv (IntKind.u64.wrap (x6_1 + (rd l1 x7_1))) 65536)) (wrap64 (x7_1 + 1))) else (none)) else (none)) else (if x5_1.length < 17592186044416 then (q5q.l0 kj2 l0 l1 (x5_1 ++ [Int.tmod x6_1 65536]) (IntKind.u64.wrap (Int.tdiv x6_1 65536)) (wrap64 (x7_1 + 1))) else (none)))) = some r := by rw [if_pos rfl] at H; exact H
       by_cases c7 : x7_1 < (l0.length : Int)
       · rw [if_pos c7] at H
         have c7b0 := dT c7
         clear c7
         by_cases c8 : 0 ≤ x7_1
         · rw [if_pos c8] at H
           have c8b0 := dT c8
           clear c8
           by_cases c9 : x7_1 < (l1.length : Int)
           · rw [if_pos c9] at H
             have c9b0 := dT c9
             clear c9
             by_cases c10 : x5_1.length < 17592186044416
             · rw [if_pos c10] at H
               have LMc10 := Aside0.mk c10; clear c10
               obtain ⟨y428, hy_⟩ : ∃ y_ : List Int, y_ = (x5_1 ++ [Int.tmod (IntKind.u64.wrap ((IntKind.u64.wrap (x6_1 + (rd l0 x7_1))) + (rd l1 x7_1))) 65536]) := ⟨_, rfl⟩
               replace H : (q5q.l0 kj2 l0 l1 y428 (IntKind.u64.wrap (Int.tdiv (IntKind.u64.wrap ((IntKind.u64.wrap (x6_1 + (rd l0 x7_1))) + (rd l1 x7_1))) 65536)) (wrap64 (x7_1 + 1))) = some r := h2
               have Ny428 := Aside0.mk hy_; clear hy_
               have H' := Aside0.mk H
               clear H
               obtain ⟨⟨p426, q426⟩, ad426, rfl, hx426_0⟩ := za (Kd.at_int HR0.out) x7_1
               replace hx426_0 := gc HB hx426_0
               obtain ⟨⟨p427, q427⟩, ad427, rfl, hx427_0⟩ := za (Kd.at_int HR1.out) x7_1
               replace hx427_0 := gc HB hx427_0
               go_wp2_with (first | ((with_reducible refine q28q (b := .append) (xs := #[.tmp 46, .tmp 49]) rfl ?_); (try (refine gate_guard (by rfl) ?_; dsimp only)); at_builtin; refine Kd.R_append (Kd.int .u64) (w0 := w) w.heap.size rfl (.tmp 46) (.tmp 49) 87 93 (.int .u64 0) 8 rfl Try.underlying87 info93 rfl (by decide) (by omega) u5 x5_1 (Int.tmod (IntKind.u64.wrap ((IntKind.u64.wrap (x6_1 + (rd l0 x7_1))) + (rd l1 x7_1))) 65536) [.int .u64 (Int.tmod (IntKind.u64.wrap ((IntKind.u64.wrap (x6_1 + (rd l0 x7_1))) + (rd l1 x7_1))) 65536)] (fun _ => True) (fun _ => False) rfl rfl ?aP (fun _ hk => hk.elim) ?aF ?aO ?aB ?aS ?aL ?_; (case aP => exact rfl); (case aB => exact (gB HB)); (case aF => exact (fun _ _ => trivial)); (case aO => exact (gR HO_5)); (case aS => exact (below_size (gB HB))); (case aL => have := LMc10.out; omega); intro v429 w11 ho hb hg hat; rw [← Ny428.out] at ho; replace HB := aK (hb); have HO430 := aK (ho); clear HO_5; clear ho hb hg hat))
               go_roundg kj2
               case measure => have := HK1.out; have := HJ2.out; omega
               case rel => exact ⟨(y428), (IntKind.u64.wrap (Int.tdiv (IntKind.u64.wrap ((IntKind.u64.wrap (x6_1 + (rd l0 x7_1))) + (rd l1 x7_1))) 65536)), (wrap64 (x7_1 + 1)), ac, ac, H', ⟨by have := HK1.out; have := HJ2.out; omega⟩, ⟨gR HO430⟩, ⟨gB HB⟩⟩
             · rw [if_neg c10] at H
               exact absurd H (by simp)
           · rw [if_neg c9] at H
             have c9b0 := dF c9
             clear c9
             by_cases c12 : x5_1.length < 17592186044416
             · rw [if_pos c12] at H
               have LMc12 := Aside0.mk c12; clear c12
               obtain ⟨y431, hy_⟩ : ∃ y_ : List Int, y_ = (x5_1 ++ [Int.tmod (IntKind.u64.wrap (x6_1 + (rd l0 x7_1))) 65536]) := ⟨_, rfl⟩
               replace H : (q5q.l0 kj2 l0 l1 y431 (IntKind.u64.wrap (Int.tdiv (IntKind.u64.wrap (x6_1 + (rd l0 x7_1))) 65536)) (wrap64 (x7_1 + 1))) = some r := h2
               have Ny431 := Aside0.mk hy_; clear hy_
               have H' := Aside0.mk H
               clear H
               obtain ⟨⟨p426, q426⟩, ad426, rfl, hx426_0⟩ := za (Kd.at_int HR0.out) x7_1
               replace hx426_0 := gc HB hx426_0
               go_wp2_with (first | ((with_reducible refine q28q (b := .append) (xs := #[.tmp 46, .tmp 49]) rfl ?_); (try (refine gate_guard (by rfl) ?_; dsimp only)); at_builtin; refine Kd.R_append (Kd.int .u64) (w0 := w) w.heap.size rfl (.tmp 46) (.tmp 49) 87 93 (.int .u64 0) 8 rfl Try.underlying87 info93 rfl (by decide) (by omega) u5 x5_1 (Int.tmod (IntKind.u64.wrap (x6_1 + (rd l0 x7_1))) 65536) [.int .u64 (Int.tmod (IntKind.u64.wrap (x6_1 + (rd l0 x7_1))) 65536)] (fun _ => True) (fun _ => False) rfl rfl ?aP (fun _ hk => hk.elim) ?aF ?aO ?aB ?aS ?aL ?_; (case aP => exact rfl); (case aB => exact (gB HB)); (case aF => exact (fun _ _ => trivial)); (case aO => exact (gR HO_5)); (case aS => exact (below_size (gB HB))); (case aL => have := LMc12.out; omega); intro v432 w13 ho hb hg hat; rw [← Ny431.out] at ho; replace HB := aK (hb); have HO433 := aK (ho); clear HO_5; clear ho hb hg hat))
               go_roundg kj2
               case measure => have := HK1.out; have := HJ2.out; omega
               case rel => exact ⟨(y431), (IntKind.u64.wrap (Int.tdiv (IntKind.u64.wrap (x6_1 + (rd l0 x7_1))) 65536)), (wrap64 (x7_1 + 1)), ac, ac, H', ⟨by have := HK1.out; have := HJ2.out; omega⟩, ⟨gR HO433⟩, ⟨gB HB⟩⟩
             · rw [if_neg c12] at H
               exact absurd H (by simp)
         · rw [if_neg c8] at H
           exact absurd H (by simp)
       · rw [if_neg c7] at H
         have c7b0 := dF c7
         clear c7
         by_cases c14 : x7_1 < (l1.length : Int)
         · rw [if_pos c14] at H
           have c14b0 := dT c14
           clear c14
           by_cases c15 : 0 ≤ x7_1
           · rw [if_pos c15] at H
             have c15b0 := dT c15
             clear c15
             by_cases c16 : x5_1.length < 17592186044416
             · rw [if_pos c16] at H
               have LMc16 := Aside0.mk c16; clear c16
               obtain ⟨y435, hy_⟩ : ∃ y_ : List Int, y_ = (x5_1 ++ [Int.tmod (IntKind.u64.wrap (x6_1 + (rd l1 x7_1))) 65536]) := ⟨_, rfl⟩
               replace H : (q5q.l0 kj2 l0 l1 y435 (IntKind.u64.wrap (Int.tdiv (IntKind.u64.wrap (x6_1 + (rd l1 x7_1))) 65536)) (wrap64 (x7_1 + 1))) = some r := h2
               have Ny435 := Aside0.mk hy_; clear hy_
               have H' := Aside0.mk H
               clear H
               obtain ⟨⟨p434, q434⟩, ad434, rfl, hx434_0⟩ := za (Kd.at_int HR1.out) x7_1
               replace hx434_0 := gc HB hx434_0
               go_wp2_with (first | ((with_reducible refine q28q (b := .append) (xs := #[.tmp 46, .tmp 49]) rfl ?_); (try (refine gate_guard (by rfl) ?_; dsimp only)); at_builtin; refine Kd.R_append (Kd.int .u64) (w0 := w) w.heap.size rfl (.tmp 46) (.tmp 49) 87 93 (.int .u64 0) 8 rfl Try.underlying87 info93 rfl (by decide) (by omega) u5 x5_1 (Int.tmod (IntKind.u64.wrap (x6_1 + (rd l1 x7_1))) 65536) [.int .u64 (Int.tmod (IntKind.u64.wrap (x6_1 + (rd l1 x7_1))) 65536)] (fun _ => True) (fun _ => False) rfl rfl ?aP (fun _ hk => hk.elim) ?aF ?aO ?aB ?aS ?aL ?_; (case aP => exact rfl); (case aB => exact (gB HB)); (case aF => exact (fun _ _ => trivial)); (case aO => exact (gR HO_5)); (case aS => exact (below_size (gB HB))); (case aL => have := LMc16.out; omega); intro v436 w17 ho hb hg hat; rw [← Ny435.out] at ho; replace HB := aK (hb); have HO437 := aK (ho); clear HO_5; clear ho hb hg hat))
               go_roundg kj2
               case measure => have := HK1.out; have := HJ2.out; omega
               case rel => exact ⟨(y435), (IntKind.u64.wrap (Int.tdiv (IntKind.u64.wrap (x6_1 + (rd l1 x7_1))) 65536)), (wrap64 (x7_1 + 1)), ac, ac, H', ⟨by have := HK1.out; have := HJ2.out; omega⟩, ⟨gR HO437⟩, ⟨gB HB⟩⟩
             · rw [if_neg c16] at H
               exact absurd H (by simp)
           · rw [if_neg c15] at H
             exact absurd H (by simp)
         · rw [if_neg c14] at H
           have c14b0 := dF c14
           clear c14
           by_cases c18 : x5_1.length < 17592186044416
           · rw [if_pos c18] at H
             have LMc18 := Aside0.mk c18; clear c18
             obtain ⟨y438, hy_⟩ : ∃ y_ : List Int, y_ = (x5_1 ++ [Int.tmod x6_1 65536]) := ⟨_, rfl⟩
             replace H : (q5q.l0 kj2 l0 l1 y438 (IntKind.u64.wrap (Int.tdiv x6_1 65536)) (wrap64 (x7_1 + 1))) = some r := h2
             have Ny438 := Aside0.mk hy_; clear hy_
             have H' := Aside0.mk H
             clear H
             go_wp2_with (first | ((with_reducible refine q28q (b := .append) (xs := #[.tmp 46, .tmp 49]) rfl ?_); (try (refine gate_guard (by rfl) ?_; dsimp only)); at_builtin; refine Kd.R_append (Kd.int .u64) (w0 := w) w.heap.size rfl (.tmp 46) (.tmp 49) 87 93 (.int .u64 0) 8 rfl Try.underlying87 info93 rfl (by decide) (by omega) u5 x5_1 (Int.tmod x6_1 65536) [.int .u64 (Int.tmod x6_1 65536)] (fun _ => True) (fun _ => False) rfl rfl ?aP (fun _ hk => hk.elim) ?aF ?aO ?aB ?aS ?aL ?_; (case aP => exact rfl); (case aB => exact (gB HB)); (case aF => exact (fun _ _ => trivial)); (case aO => exact (gR HO_5)); (case aS => exact (below_size (gB HB))); (case aL => have := LMc18.out; omega); intro v439 w19 ho hb hg hat; rw [← Ny438.out] at ho; replace HB := aK (hb); have HO440 := aK (ho); clear HO_5; clear ho hb hg hat))
             go_roundg kj2
             case measure => have := HK1.out; have := HJ2.out; omega
             case rel => exact ⟨(y438), (IntKind.u64.wrap (Int.tdiv x6_1 65536)), (wrap64 (x7_1 + 1)), ac, ac, H', ⟨by have := HK1.out; have := HJ2.out; omega⟩, ⟨gR HO440⟩, ⟨gB HB⟩⟩
           · rw [if_neg c18] at H
             exact absurd H (by simp)
     · replace c6 := Bool.eq_false_iff.mpr c6
       subst c6
       replace H : ((q7q.f kj2 x5_1).bind fun t423 => (some t423)) = some r := by rw [if_neg (show ¬ (false = true) by decide)] at H; exact H
       replace H := Option.bind_eq_some_iff.mp H
       obtain ⟨t423, A200, H⟩ := H
       replace H : (some t423) = some r := H
       have A20 := Aside0.mk A200; clear A200
       obtain rfl := Option.some.inj H
       obtain ⟨Ao21, co21, eo21⟩ := Kd.R_slice HO_5.out
       subst eo21
       go_wp2_with (first | ((with_reducible refine gate_callee (f := 51) rfl ?_); refine goesL_ (some 54) rfl rfl Try.func51 (by kernel_rfl) rfl #[.slice Ao21 x5_1.length co21] rfl am ?_; (with_reducible refine (q7q.calls kj2 (fun k_ => some k_ = (.slice Ao21 x5_1.length co21 : Value).ownBlock) (.slice Ao21 x5_1.length co21) x5_1 t423 w _ ?side1 ?side2 A20.out).mono ?_); (case side1 => exact gB HB); (case side2 => exact Kd.R_tight rfl HO_5.out); rintro e w22 ⟨v424, rfl, ho0, hb, hkp⟩; refine ⟨_, rfl, ?_⟩; have HO425 := aK (Kd.R_mono (ok' := fun k_ => True) ho0 (fun k_ hk_ => trivial)); replace HB := aK (hb); clear HO_5; (try clear hb); (try clear hkp); (try clear ho0)))
       go_ret
       exact ⟨_, by first | rfl | (simp [errW_none, errW_some] <;> rfl) | (simp [*, errW_none, errW_some] <;> rfl), gR HO425, gB HB⟩
end Go.Proofs.Ytlbhjkbjokiioaa.X
