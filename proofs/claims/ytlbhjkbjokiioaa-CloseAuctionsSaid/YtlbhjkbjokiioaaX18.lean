-- a shortened text: what this claim does not name is left out (wip/xprint/prune.py of this repo)
import Derived.Test.YtlbhjkbjokiioaaXMin
import Derived.Test.YtlbhjkbjokiioaaX0
import Derived.Test.YtlbhjkbjokiioaaX1
import Derived.Test.YtlbhjkbjokiioaaX10
import Derived.Test.YtlbhjkbjokiioaaX11
import Derived.Test.YtlbhjkbjokiioaaX17
import Derived.Test.YtlbhjkbjokiioaaX5
namespace Go.Proofs.Ytlbhjkbjokiioaa.X
open Go.RowKit Go.Proofs.YtlbhjkbjokiioaaW.PrintWords Go.Proofs.YtlbhjkbjokiioaaW.PrintLast Go.Proofs.YtlbhjkbjokiioaaW.PrintMore
attribute [local go_sem] max2_int min2_int max_two min_two max_three min_three max_four min_four
set_option linter.unusedVariables false
set_option linter.unusedSimpArgs false
attribute [local go_sem high] eqA63
def lombardref10_Lots.l0 : Nat → List (S63) → List (S63) → Int → Option (Bool)
 | 0, _, _, _ => none
 | k + 1, x0, x1, x5 => if x5 < (x0.length : Int) then (if 0 ≤ x5 then (if x5 < (x1.length : Int) then (if (!((((rd_T63 x0 x5).f0).toList) == (((rd_T63 x1 x5).f0).toList)) || (!(((rd_T63 x0 x5).f1) == ((rd_T63 x1 x5).f1)))) = true then (some false) else (lombardref10_Lots.l0 k x0 x1 (wrap64 (x5 + 1)))) else (none)) else (none)) else (some true)
def lombardref10_Lots.f (k : Nat) (l0 : List (S63)) (l1 : List (S63)) : Option (Bool) := if (l0.length : Int) = (l1.length : Int) then (lombardref10_Lots.l0 k l0 l1 0) else (some false)
theorem lombardref10_Lots.mono_l : ∀ k, (∀ y0 y1 y2, LeO (lombardref10_Lots.l0 k y0 y1 y2) (lombardref10_Lots.l0 (k + 1) y0 y1 y2))
 | 0 => fun _ _ _ r h => by simp [lombardref10_Lots.l0] at h
 | k + 1 => by
  have ih0 := lombardref10_Lots.mono_l k
  · intro y0 y1 y2
    unfold lombardref10_Lots.l0
    repeat' first
    | (with_reducible exact ih0 _ _ _)
    | (with_reducible exact LeO.refl _)
    | (with_reducible exact LeO.none _)
    | (with_reducible refine LeO.ite ?_ ?_)
    | (with_reducible refine LeO.bind ?_ (fun _ => ?_))
    | exact ih0 _ _ _
    | exact LeO.none _
    | refine LeO.ite ?_ ?_
    | refine LeO.bind ?_ (fun _ => ?_)
theorem lombardref10_Lots.mono : ∀ a0 a1 k, LeO (lombardref10_Lots.f k a0 a1) (lombardref10_Lots.f (k + 1) a0 a1) := by
 intro a0 a1 k
 have ih0 := lombardref10_Lots.mono_l k
 unfold lombardref10_Lots.f
 repeat' first
  | (with_reducible exact ih0 _ _ _)
  | (with_reducible exact LeO.refl _)
  | (with_reducible exact LeO.none _)
  | (with_reducible refine LeO.ite ?_ ?_)
  | (with_reducible refine LeO.bind ?_ (fun _ => ?_))
  | exact ih0 _ _ _
  | exact LeO.none _
  | refine LeO.ite ?_ ?_
  | refine LeO.bind ?_ (fun _ => ?_)
set_option maxHeartbeats 8000000 in
set_option maxRecDepth 100000 in
theorem lombardref10_Lots.calls (k : Nat) (A0 : Option Addr) (c0 : Nat) (l0 : List (S63)) (A1 : Option Addr) (c1 : Nat) (l1 : List (S63)) (r : Bool) (w : World) (hr0 : Kd.C k63 w A0 l0.length l0) (hc0 : l0.length ≤ c0) (hr1 : Kd.C k63 w A1 l1.length l1) (hc1 : l1.length ≤ c1) (h : lombardref10_Lots.f k l0 l1 = some r) :
 Calls Try.prog 19 #[.slice A0 l0.length c0, .slice A1 l1.length c1] w fun e w' => e = .returned (.bool r) ∧ Drawn0 w w' := by
 have hu63 := Try.underlying63
 have HR0 := Aside0.mk hr0; have HC0 := Aside0.mk hc0; clear hr0 hc0; have HR1 := Aside0.mk hr1; have HC1 := Aside0.mk hc1; clear hr1 hc1
 have H : (if (l0.length : Int) = (l1.length : Int) then (lombardref10_Lots.l0 k l0 l1 0) else (some false)) = some r := h
 clear h
 by_cases c3 : (l0.length : Int) = (l1.length : Int)
 · rw [if_pos c3] at H
   have c3b0 : ((l0.length : Int) == (l1.length : Int)) = true := beq_iff_eq.mpr c3
   have c3b1 : ((l0.length : Int) != (l1.length : Int)) = false := bne_eq_false_iff_eq.mpr c3
   have c3b2 : (l0.length == l1.length) = true := by first | simpa using c3 | (simp at c3 ⊢; omega)
   clear c3
   have H' := Aside0.mk H
   clear H
   go_enter Try.func19, Try.ntmps19
   go_wp2
   repeat (go_quiet (fail); try go_wp2)
   go_loopg [5] k (fun kq v5 w' => ∃ (x5_1 : Int), v5 = .int .i64 x5_1 ∧ Aside0 (lombardref10_Lots.l0 kq l0 l1 x5_1 = some r) ∧ Aside0 (kq ≤ k) ∧ Drawn0 w w')
   case atStart => exact ⟨(0), ac, H', ⟨Nat.le_refl _⟩, dr⟩
   case round =>
    clear H'; (try clear c1); (try clear c3); (try clear c3b0); (try clear c3b1); (try clear c3b2)
    obtain ⟨x5_1, rfl, HA, HK1, ⟨m1, rfl⟩⟩ := hrel
    cases gk with
    | zero => exact absurd HA.out (by simp [lombardref10_Lots.l0])
    | succ k1 =>
     have H := HA.out
     clear HA
     simp only [lombardref10_Lots.l0] at H
     by_cases c4 : x5_1 < (l0.length : Int)
     · rw [if_pos c4] at H
       have c4b0 := dT c4
       clear c4
       by_cases c5 : 0 ≤ x5_1
       · rw [if_pos c5] at H
         have c5b0 := dT c5
         clear c5
         by_cases c6 : x5_1 < (l1.length : Int)
         · rw [if_pos c6] at H
           have c6b0 := dT c6
           clear c6
           by_cases c7 : (!((((rd_T63 l0 x5_1).f0).toList) == (((rd_T63 l1 x5_1).f0).toList)) || (!(((rd_T63 l0 x5_1).f1) == ((rd_T63 l1 x5_1).f1)))) = true
           · rw [if_pos c7] at H
             have c7b0 : (!((((rd_T63 l0 x5_1).f0).toList) == (((rd_T63 l1 x5_1).f0).toList)) || (!(((rd_T63 l0 x5_1).f1) == ((rd_T63 l1 x5_1).f1)))) = true := c7
             clear c7
             obtain rfl := Option.some.inj H
             obtain ⟨⟨p472, q472⟩, ad472, rfl, hx472_0, hx472_1⟩ := za (at_T63 HR0.out) x5_1
             obtain ⟨⟨p473, q473⟩, ad473, rfl, hx473_0, hx473_1⟩ := za (at_T63 HR1.out) x5_1
             go_wp2
             repeat (go_quiet (fail); try go_wp2)
             go_ret
             exact dn
           · rw [if_neg c7] at H
             have c7b0 : (!((((rd_T63 l0 x5_1).f0).toList) == (((rd_T63 l1 x5_1).f0).toList)) || (!(((rd_T63 l0 x5_1).f1) == ((rd_T63 l1 x5_1).f1)))) = false := by simpa using c7
             clear c7
             have H' := Aside0.mk H
             clear H
             obtain ⟨⟨p472, q472⟩, ad472, rfl, hx472_0, hx472_1⟩ := za (at_T63 HR0.out) x5_1
             obtain ⟨⟨p473, q473⟩, ad473, rfl, hx473_0, hx473_1⟩ := za (at_T63 HR1.out) x5_1
             go_wp2
             repeat (go_quiet (fail); try go_wp2)
             go_roundg k1
             case measure => have := HK1.out; omega
             case rel => exact ⟨(wrap64 (x5_1 + 1)), ac, H', ⟨by have := HK1.out; omega⟩, dr⟩
         · rw [if_neg c6] at H
           exact absurd H (by simp)
       · rw [if_neg c5] at H
         exact absurd H (by simp)
     · rw [if_neg c4] at H
       have c4b0 := dF c4
       clear c4
       obtain rfl := Option.some.inj H
       go_wp2
       repeat (go_quiet (fail); try go_wp2)
       go_ret
       exact dn
 · rw [if_neg c3] at H
   have c3b0 : ((l0.length : Int) == (l1.length : Int)) = false := beq_eq_false_iff_ne.mpr c3
   have c3b1 : ((l0.length : Int) != (l1.length : Int)) = true := bne_iff_ne.mpr c3
   have c3b2 : (l0.length == l1.length) = false := by first | simpa using c3 | (simp at c3 ⊢; omega)
   obtain rfl := Option.some.inj H
   go_enter Try.func19, Try.ntmps19
   go_wp2
   repeat (go_quiet (fail); try go_wp2)
   go_ret
   exact dn
mutual
def lombardlaw29_CloseAuctions.j0 : Nat → List (S63) → List (S66) → Bool → Option (Bool)
 | 0, _, _, _ => none
 | k + 1, x0, x1, x18 => if x18 = true then ((lombardlaw29_awake.f k).bind fun t474 => (some t474)) else ((lombardlaw29_bids.f k x1).bind fun t475 => ((close_Auction.f k x0 t475).bind fun bt478 => ((lombardref29_Auction.f k x0 x1).bind fun bt486 => (if (bt478.1.length : Int) = (bt486.1.length : Int) then (if bt478.2.1 = bt486.2.1 then ((lombardref10_Lots.f k bt478.2.2.1 bt486.2.2.1).bind fun t495 => (if t495 = true then (lombardlaw29_CloseAuctions.j1 k bt478.1 (bt478.2.2.2 != bt486.2.2.2) bt486.1 bt486.2.1 bt486.2.2.1 bt486.2.2.2) else (lombardlaw29_CloseAuctions.j1 k bt478.1 true bt486.1 bt486.2.1 bt486.2.2.1 bt486.2.2.2))) else (lombardlaw29_CloseAuctions.j1 k bt478.1 true bt486.1 bt486.2.1 bt486.2.2.1 bt486.2.2.2)) else (lombardlaw29_CloseAuctions.j1 k bt478.1 true bt486.1 bt486.2.1 bt486.2.2.1 bt486.2.2.2)))))
def lombardlaw29_CloseAuctions.j1 : Nat → List (S58) → Bool → List (S59) → Int → List (S63) → Int → Option (Bool)
 | 0, _, _, _, _, _, _ => none
 | k + 1, x5, x56, x495000, x495001, x495002, x495003 => if x56 = true then (some false) else (lombardlaw29_CloseAuctions.l0 k x5 0 x495000 x495001 x495002 x495003)
def lombardlaw29_CloseAuctions.l0 : Nat → List (S58) → Int → List (S59) → Int → List (S63) → Int → Option (Bool)
 | 0, _, _, _, _, _, _ => none
 | k + 1, x5, x10, x495000, x495001, x495002, x495003 => if x10 < (x5.length : Int) then (if 0 ≤ x10 then (if x10 < (x495000.length : Int) then (if ((rd_T58 x5 x10).f0) = ((rd_T59 x495000 x10).f0) then (if ((rd_T58 x5 x10).f1).toList = ((rd_T59 x495000 x10).f1).toList then (if ((rd_T58 x5 x10).f2) = ((rd_T59 x495000 x10).f2) then (if ((rd_T58 x5 x10).f3) = ((rd_T59 x495000 x10).f3) then (lombardlaw29_CloseAuctions.l0 k x5 (wrap64 (x10 + 1)) x495000 x495001 x495002 x495003) else (some false)) else (some false)) else (some false)) else (some false)) else (none)) else (none)) else ((lombardlaw29_awake.f k).bind fun t504 => (some t504))
end
def lombardlaw29_CloseAuctions.f (k : Nat) (l0 : List (S63)) (l1 : List (S66)) : Option (Bool) := if (l0.length : Int) > 80 then (lombardlaw29_CloseAuctions.j0 k l0 l1 true) else (lombardlaw29_CloseAuctions.j0 k l0 l1 (decide ((l1.length : Int) > 300)))
theorem lombardlaw29_CloseAuctions.mono_l : ∀ k, (∀ y0 y1 y2, LeO (lombardlaw29_CloseAuctions.j0 k y0 y1 y2) (lombardlaw29_CloseAuctions.j0 (k + 1) y0 y1 y2)) ∧ (∀ y0 y1 y2 y3 y4 y5, LeO (lombardlaw29_CloseAuctions.j1 k y0 y1 y2 y3 y4 y5) (lombardlaw29_CloseAuctions.j1 (k + 1) y0 y1 y2 y3 y4 y5)) ∧ (∀ y0 y1 y2 y3 y4 y5, LeO (lombardlaw29_CloseAuctions.l0 k y0 y1 y2 y3 y4 y5) (lombardlaw29_CloseAuctions.l0 (k + 1) y0 y1 y2 y3 y4 y5))
 | 0 => ⟨fun _ _ _ r h => by simp [lombardlaw29_CloseAuctions.j0] at h, fun _ _ _ _ _ _ r h => by simp [lombardlaw29_CloseAuctions.j1] at h, fun _ _ _ _ _ _ r h => by simp [lombardlaw29_CloseAuctions.l0] at h⟩
 | k + 1 => by
  obtain ⟨ih0, ih1, ih2⟩ := lombardlaw29_CloseAuctions.mono_l k
  refine ⟨?_, ?_, ?_⟩
  intro y0 y1 y2; unfold lombardlaw29_CloseAuctions.j0; rotate_left
  intro y0 y1 y2 y3 y4 y5; unfold lombardlaw29_CloseAuctions.j1; rotate_left
  intro y0 y1 y2 y3 y4 y5; unfold lombardlaw29_CloseAuctions.l0; rotate_left
  all_goals repeat' first
  | (with_reducible exact ih0 _ _ _)
  | (with_reducible exact ih1 _ _ _ _ _ _)
  | (with_reducible exact ih2 _ _ _ _ _ _)
  | (with_reducible exact close_Auction.mono _ _ _)
  | (with_reducible exact lombardlaw29_awake.mono _)
  | (with_reducible exact lombardlaw29_bids.mono _ _)
  | (with_reducible exact lombardref10_Lots.mono _ _ _)
  | (with_reducible exact lombardref29_Auction.mono _ _ _)
  | (with_reducible exact LeO.refl _)
  | (with_reducible exact LeO.none _)
  | (with_reducible refine LeO.ite ?_ ?_)
  | (with_reducible refine LeO.bind ?_ (fun _ => ?_))
  | exact ih0 _ _ _
  | exact ih1 _ _ _ _ _ _
  | exact ih2 _ _ _ _ _ _
  | exact close_Auction.mono _ _ _
  | exact lombardlaw29_awake.mono _
  | exact lombardlaw29_bids.mono _ _
  | exact lombardref10_Lots.mono _ _ _
  | exact lombardref29_Auction.mono _ _ _
  | exact LeO.none _
  | refine LeO.ite ?_ ?_
  | refine LeO.bind ?_ (fun _ => ?_)
theorem lombardlaw29_CloseAuctions.mono : ∀ a0 a1 k, LeO (lombardlaw29_CloseAuctions.f k a0 a1) (lombardlaw29_CloseAuctions.f (k + 1) a0 a1) := by
 intro a0 a1 k
 obtain ⟨ih0, ih1, ih2⟩ := lombardlaw29_CloseAuctions.mono_l k
 unfold lombardlaw29_CloseAuctions.f
 repeat' first
  | (with_reducible exact ih0 _ _ _)
  | (with_reducible exact ih1 _ _ _ _ _ _)
  | (with_reducible exact ih2 _ _ _ _ _ _)
  | (with_reducible exact close_Auction.mono _ _ _)
  | (with_reducible exact lombardlaw29_awake.mono _)
  | (with_reducible exact lombardlaw29_bids.mono _ _)
  | (with_reducible exact lombardref10_Lots.mono _ _ _)
  | (with_reducible exact lombardref29_Auction.mono _ _ _)
  | (with_reducible exact LeO.refl _)
  | (with_reducible exact LeO.none _)
  | (with_reducible refine LeO.ite ?_ ?_)
  | (with_reducible refine LeO.bind ?_ (fun _ => ?_))
  | exact ih0 _ _ _
  | exact ih1 _ _ _ _ _ _
  | exact ih2 _ _ _ _ _ _
  | exact close_Auction.mono _ _ _
  | exact lombardlaw29_awake.mono _
  | exact lombardlaw29_bids.mono _ _
  | exact lombardref10_Lots.mono _ _ _
  | exact lombardref29_Auction.mono _ _ _
  | exact LeO.none _
  | refine LeO.ite ?_ ?_
  | refine LeO.bind ?_ (fun _ => ?_)
set_option maxHeartbeats 8000000 in
set_option maxRecDepth 100000 in
theorem lombardlaw29_CloseAuctions.calls (k : Nat) (A0 : Option Addr) (c0 : Nat) (l0 : List (S63)) (A1 : Option Addr) (c1 : Nat) (l1 : List (S66)) (r : Bool) (w : World) (hr0 : Kd.C k63 w A0 l0.length l0) (hc0 : l0.length ≤ c0) (hr1 : Kd.C k66 w A1 l1.length l1) (hc1 : l1.length ≤ c1) (h : lombardlaw29_CloseAuctions.f k l0 l1 = some r) (htr_ : r = true) :
 Calls Try.prog 6 #[.slice A0 l0.length c0, .slice A1 l1.length c1] w fun e w' => e = .returned (.bool r) ∧ Below w.heap.size w w' := by
 have hu54 := Try.underlying54
 have HR0 := Aside0.mk hr0; have HC0 := Aside0.mk hc0; clear hr0 hc0; have HR1 := Aside0.mk hr1; have HC1 := Aside0.mk hc1; clear hr1 hc1
 have HB := aK (Below.refl w.heap.size w)
 have H : (if (l0.length : Int) > 80 then (lombardlaw29_CloseAuctions.j0 k l0 l1 true) else (lombardlaw29_CloseAuctions.j0 k l0 l1 (decide ((l1.length : Int) > 300)))) = some r := h
 clear h; have HC3 := Aside0.mk H; clear H
 go_enter Try.func6, Try.ntmps6
 go_upto_region 1 with (fail)
 repeat (go_quiet (fail); go_upto_region 1 with (fail))
 go_cut [18] (fun v18 wc => ∃ (kq : Nat) (x18_2 : Bool), v18 = .bool x18_2 ∧ Aside0 (lombardlaw29_CloseAuctions.j0 kq l0 l1 x18_2 = some r) ∧ Aside0 (kq ≤ k) ∧ Aside0 (Below w.heap.size w wc))
 case first =>
  have H := HC3.out
  clear HC3
  by_cases c4 : (l0.length : Int) > 80
  · rw [if_pos c4] at H
    have c4b0 : decide (80 < (l0.length : Int)) = true := decide_eq_true c4
    have c4b1 : decide (80 < l0.length) = true := decide_eq_true (by omega)
    clear c4
    (first | rw [c4b0] | (simp only [i64_w, i32_w]; rw [c4b0]) | skip)
    have H' := Aside0.mk H
    clear H
    go_wp2
    repeat (go_quiet (fail); try go_wp2)
    go_meet
    case rel => exact ⟨_, (true), ac, H', ⟨by first | omega | exact Nat.le_refl _⟩, ⟨gB HB⟩⟩
  · rw [if_neg c4] at H
    have c4b0 : decide (80 < (l0.length : Int)) = false := decide_eq_false c4
    have c4b1 : decide (80 < l0.length) = false := decide_eq_false (by omega)
    clear c4
    (first | rw [c4b0] | (simp only [i64_w, i32_w]; rw [c4b0]) | skip)
    have H' := Aside0.mk H
    clear H
    go_wp2
    repeat (go_quiet (fail); try go_wp2)
    go_meet
    case rel => exact ⟨_, (decide ((l1.length : Int) > 300)), ac, H', ⟨by first | omega | exact Nat.le_refl _⟩, ⟨gB HB⟩⟩
 case rest =>
  clear HC3; (try clear c1)
  obtain ⟨kq, x18_2, rfl, HA, HJ2, HB⟩ := hcut
  cases kq with
  | zero => exact absurd HA.out (by simp [lombardlaw29_CloseAuctions.j0])
  | succ kj2 =>
   have H := HA.out
   clear HA
   simp only [lombardlaw29_CloseAuctions.j0] at H
   by_cases c5 : x18_2 = true
   · subst c5
     replace H : ((lombardlaw29_awake.f kj2).bind fun t474 => (some t474)) = some r := by rw [if_pos rfl] at H; exact H
     replace H := Option.bind_eq_some_iff.mp H
     obtain ⟨t474, A60, H⟩ := H
     replace H : (some t474) = some r := H
     have A6 := Aside0.mk A60; clear A60
     obtain rfl := Option.some.inj H
     go_wp2_with (first | (go_at_call 8; (with_reducible refine (lombardlaw29_awake.calls kj2  t474 _ A6.out htr_).mono ?_); rintro e w7 ⟨rfl, hb⟩; replace HB := aK (below_step (gB HB) hb); (try clear hb); (try clear hb2); (try clear hk); (try clear hi)))
     repeat (go_quiet (fail); try go_wp2_with (first | (go_at_call 8; (with_reducible refine (lombardlaw29_awake.calls kj2  t474 _ A6.out htr_).mono ?_); rintro e w7 ⟨rfl, hb⟩; replace HB := aK (below_step (gB HB) hb); (try clear hb); (try clear hb2); (try clear hk); (try clear hi))))
     go_ret
     exact ⟨by first | rfl | (simp [errW_none, errW_some] <;> rfl) | (simp [*, errW_none, errW_some] <;> rfl), gB HB⟩
   · replace c5 := Bool.eq_false_iff.mpr c5
     subst c5
     replace H : ((lombardlaw29_bids.f kj2 l1).bind fun t475 => ((close_Auction.f kj2 l0 t475).bind fun bt478 => ((lombardref29_Auction.f kj2 l0 l1).bind fun bt486 => (if (bt478.1.length : Int) = (bt486.1.length : Int) then (if bt478.2.1 = bt486.2.1 then ((lombardref10_Lots.f kj2 bt478.2.2.1 bt486.2.2.1).bind fun t495 => (if t495 = true then (lombardlaw29_CloseAuctions.j1 kj2 bt478.1 (bt478.2.2.2 != bt486.2.2.2) bt486.1 bt486.2.1 bt486.2.2.1 bt486.2.2.2) else (lombardlaw29_CloseAuctions.j1 kj2 bt478.1 true bt486.1 bt486.2.1 bt486.2.2.1 bt486.2.2.2))) else (lombardlaw29_CloseAuctions.j1 kj2 bt478.1 true bt486.1 bt486.2.1 bt486.2.2.1 bt486.2.2.2)) else (lombardlaw29_CloseAuctions.j1 kj2 bt478.1 true bt486.1 bt486.2.1 bt486.2.2.1 bt486.2.2.2))))) = some r := by rw [if_neg (show ¬ (false = true) by decide)] at H; exact H
     replace H := Option.bind_eq_some_iff.mp H
     obtain ⟨t475, A80, H⟩ := H
     replace H : ((close_Auction.f kj2 l0 t475).bind fun bt478 => ((lombardref29_Auction.f kj2 l0 l1).bind fun bt486 => (if (bt478.1.length : Int) = (bt486.1.length : Int) then (if bt478.2.1 = bt486.2.1 then ((lombardref10_Lots.f kj2 bt478.2.2.1 bt486.2.2.1).bind fun t495 => (if t495 = true then (lombardlaw29_CloseAuctions.j1 kj2 bt478.1 (bt478.2.2.2 != bt486.2.2.2) bt486.1 bt486.2.1 bt486.2.2.1 bt486.2.2.2) else (lombardlaw29_CloseAuctions.j1 kj2 bt478.1 true bt486.1 bt486.2.1 bt486.2.2.1 bt486.2.2.2))) else (lombardlaw29_CloseAuctions.j1 kj2 bt478.1 true bt486.1 bt486.2.1 bt486.2.2.1 bt486.2.2.2)) else (lombardlaw29_CloseAuctions.j1 kj2 bt478.1 true bt486.1 bt486.2.1 bt486.2.2.1 bt486.2.2.2)))) = some r := H
     have A8 := Aside0.mk A80; clear A80
     replace H := Option.bind_eq_some_iff.mp H
     obtain ⟨⟨t478, t479, t480, t481⟩, A90, H⟩ := H
     replace H : ((lombardref29_Auction.f kj2 l0 l1).bind fun bt486 => (if (t478.length : Int) = (bt486.1.length : Int) then (if t479 = bt486.2.1 then ((lombardref10_Lots.f kj2 t480 bt486.2.2.1).bind fun t495 => (if t495 = true then (lombardlaw29_CloseAuctions.j1 kj2 t478 (t481 != bt486.2.2.2) bt486.1 bt486.2.1 bt486.2.2.1 bt486.2.2.2) else (lombardlaw29_CloseAuctions.j1 kj2 t478 true bt486.1 bt486.2.1 bt486.2.2.1 bt486.2.2.2))) else (lombardlaw29_CloseAuctions.j1 kj2 t478 true bt486.1 bt486.2.1 bt486.2.2.1 bt486.2.2.2)) else (lombardlaw29_CloseAuctions.j1 kj2 t478 true bt486.1 bt486.2.1 bt486.2.2.1 bt486.2.2.2))) = some r := H
     have A9 := Aside0.mk A90; clear A90
     replace H := Option.bind_eq_some_iff.mp H
     obtain ⟨⟨t486, t489, t490, t493⟩, A100, H⟩ := H
     replace H : (if (t478.length : Int) = (t486.length : Int) then (if t479 = t489 then ((lombardref10_Lots.f kj2 t480 t490).bind fun t495 => (if t495 = true then (lombardlaw29_CloseAuctions.j1 kj2 t478 (t481 != t493) t486 t489 t490 t493) else (lombardlaw29_CloseAuctions.j1 kj2 t478 true t486 t489 t490 t493))) else (lombardlaw29_CloseAuctions.j1 kj2 t478 true t486 t489 t490 t493)) else (lombardlaw29_CloseAuctions.j1 kj2 t478 true t486 t489 t490 t493)) = some r := H
     have A10 := Aside0.mk A100; clear A100; have HC11 := Aside0.mk H; clear H
     go_upto_region 5 with (first | (go_at_call 17; (with_reducible refine (lombardlaw29_bids.calls kj2 _ _ l1 t475 _ ?side1 ?side2 A8.out).mono ?_); (case side1 => exact gC HR1 HB); (case side2 => exact HC1.out); rintro e w12 ⟨v476, rfl, ho0, hb⟩; (try clear A8); have HO477 := aK (Kd.R_lower ho0 (below_size (gB HB))); replace HB := aK (below_step (gB HB) hb); (try clear hb); (try clear hb2); (try clear hk); (try clear hi); (try clear ho0); obtain ⟨Ao13, co13, eo13⟩ := Kd.R_slice HO477.out; subst eo13) | (go_at_call 16; (with_reducible refine (close_Auction.calls kj2 _ _ l0 _ _ t475 t478 t479 t480 t481 _ ?side1 ?side2 ?side3 ?side4 A9.out).mono ?_); (case side1 => exact gC HR0 HB); (case side2 => exact HC0.out); (case side3 => repeat (first | exact (Kd.R_reads' HO477.out).2.2 | (with_reducible refine Kd.C_alloc ?_ _) | (with_reducible refine Kd.C_drewN ?_ _) | (with_reducible refine Kd.C_drew ?_))); (case side4 => exact (Kd.R_reads' HO477.out).2.1); rintro e w14 ⟨v482, v484, rfl, ho0, ho1, hb⟩; (try clear A9); replace HO477 := aK (Kd.R_below (gR HO477) hb); have HO483 := aK (Kd.R_lower ho0 (below_size (gB HB))); have HO485 := aK (Kd.R_lower ho1 (below_size (gB HB))); replace HB := aK (below_step (gB HB) hb); (try clear hb); (try clear hb2); (try clear hk); (try clear hi); (try clear ho0); (try clear ho1)) | (go_at_call 18; (with_reducible refine (lombardref29_Auction.calls kj2 _ _ l0 _ _ l1 t486 t489 t490 t493 _ ?side1 ?side2 ?side3 ?side4 A10.out).mono ?_); (case side1 => exact gC HR0 HB); (case side2 => exact HC0.out); (case side3 => exact gC HR1 HB); (case side4 => exact HC1.out); rintro e w15 ⟨v487, v491, rfl, ho0, ho1, hb⟩; (try clear A10); replace HO477 := aK (Kd.R_below (gR HO477) hb); replace HO483 := aK (Kd.R_below (gR HO483) hb); have HO488 := aK (Kd.R_lower ho0 (below_size (gB HB))); have HO492 := aK (Kd.R_lower (Kd.R_new' ho1 (Kd.R_lt (gR HO485))) (below_size (gB HB))); replace HO485 := aK (Kd.R_elder' (gR HO485) (Kd.R_base ho1) hb); replace HB := aK (below_step (gB HB) hb); (try clear hb); (try clear hb2); (try clear hk); (try clear hi); (try clear ho0); (try clear ho1)) | ((with_reducible refine gate_dst (N := 9) rfl ?_); (try (refine gate_guard (by rfl) ?_; dsimp only)); refine box_event ?hg (N := 9) ?hd (cs := #[.slice none 0 0, .int .i64 0, .slice none 0 0, .int .i64 0]) (t := 54) ?hr ?_; (case hd => rfl); (case hg => rfl); (case hr => first | (go_simp; done) | (go_simp; rfl) | (have hcq := hcq_.out; have hfq := hfq_.out; go_simp; done)); intro gb494 hg w16 hbox hb; replace HO477 := aK (Kd.R_below (gR HO477) hb); replace HO483 := aK (Kd.R_below (gR HO483) hb); replace HO485 := aK (Kd.R_below (gR HO485) hb); replace HO488 := aK (Kd.R_below (gR HO488) hb); replace HO492 := aK (Kd.R_below (gR HO492) hb); have BK494 := aK (hbox); have GW494 := aK ((by rw [hg]; exact (below_size (gB HB)) : w.heap.size ≤ gb494)); have GE494 := aK ((by rw [hg]; exact (below_size (gB HB)) : w.heap.size ≤ gb494)); replace HB := aK (below_step (gB HB) hb); clear hb hbox hg; obtain ⟨Ao17, co17, eo17⟩ := Kd.R_slice HO488.out; subst eo17; have hcz18_0 : w16.cell? ⟨gb494, 0, none⟩ = some (.slice none 0 0) := (blk_cell BK494.out 0).trans rfl; have hcz18_1 : w16.cell? ⟨gb494, 1, none⟩ = some (.int .i64 0) := (blk_cell BK494.out 1).trans rfl; have hcz18_2 : w16.cell? ⟨gb494, 2, none⟩ = some (.slice none 0 0) := (blk_cell BK494.out 2).trans rfl; have hcz18_3 : w16.cell? ⟨gb494, 3, none⟩ = some (.int .i64 0) := (blk_cell BK494.out 3).trans rfl; have hfz18_0 := blk_frozen BK494.out 0; have hfz18_1 := blk_frozen BK494.out 1; have hfz18_2 := blk_frozen BK494.out 2; have hfz18_3 := blk_frozen BK494.out 3; obtain ⟨Ao19, co19, eo19⟩ := Kd.R_slice HO492.out; subst eo19))
     repeat (go_quiet (first | (go_at_call 17; (with_reducible refine (lombardlaw29_bids.calls kj2 _ _ l1 t475 _ ?side1 ?side2 A8.out).mono ?_); (case side1 => exact gC HR1 HB); (case side2 => exact HC1.out); rintro e w12 ⟨v476, rfl, ho0, hb⟩; (try clear A8); have HO477 := aK (Kd.R_lower ho0 (below_size (gB HB))); replace HB := aK (below_step (gB HB) hb); (try clear hb); (try clear hb2); (try clear hk); (try clear hi); (try clear ho0); obtain ⟨Ao13, co13, eo13⟩ := Kd.R_slice HO477.out; subst eo13) | (go_at_call 16; (with_reducible refine (close_Auction.calls kj2 _ _ l0 _ _ t475 t478 t479 t480 t481 _ ?side1 ?side2 ?side3 ?side4 A9.out).mono ?_); (case side1 => exact gC HR0 HB); (case side2 => exact HC0.out); (case side3 => repeat (first | exact (Kd.R_reads' HO477.out).2.2 | (with_reducible refine Kd.C_alloc ?_ _) | (with_reducible refine Kd.C_drewN ?_ _) | (with_reducible refine Kd.C_drew ?_))); (case side4 => exact (Kd.R_reads' HO477.out).2.1); rintro e w14 ⟨v482, v484, rfl, ho0, ho1, hb⟩; (try clear A9); replace HO477 := aK (Kd.R_below (gR HO477) hb); have HO483 := aK (Kd.R_lower ho0 (below_size (gB HB))); have HO485 := aK (Kd.R_lower ho1 (below_size (gB HB))); replace HB := aK (below_step (gB HB) hb); (try clear hb); (try clear hb2); (try clear hk); (try clear hi); (try clear ho0); (try clear ho1)) | (go_at_call 18; (with_reducible refine (lombardref29_Auction.calls kj2 _ _ l0 _ _ l1 t486 t489 t490 t493 _ ?side1 ?side2 ?side3 ?side4 A10.out).mono ?_); (case side1 => exact gC HR0 HB); (case side2 => exact HC0.out); (case side3 => exact gC HR1 HB); (case side4 => exact HC1.out); rintro e w15 ⟨v487, v491, rfl, ho0, ho1, hb⟩; (try clear A10); replace HO477 := aK (Kd.R_below (gR HO477) hb); replace HO483 := aK (Kd.R_below (gR HO483) hb); have HO488 := aK (Kd.R_lower ho0 (below_size (gB HB))); have HO492 := aK (Kd.R_lower (Kd.R_new' ho1 (Kd.R_lt (gR HO485))) (below_size (gB HB))); replace HO485 := aK (Kd.R_elder' (gR HO485) (Kd.R_base ho1) hb); replace HB := aK (below_step (gB HB) hb); (try clear hb); (try clear hb2); (try clear hk); (try clear hi); (try clear ho0); (try clear ho1)) | ((with_reducible refine gate_dst (N := 9) rfl ?_); (try (refine gate_guard (by rfl) ?_; dsimp only)); refine box_event ?hg (N := 9) ?hd (cs := #[.slice none 0 0, .int .i64 0, .slice none 0 0, .int .i64 0]) (t := 54) ?hr ?_; (case hd => rfl); (case hg => rfl); (case hr => first | (go_simp; done) | (go_simp; rfl) | (have hcq := hcq_.out; have hfq := hfq_.out; go_simp; done)); intro gb494 hg w16 hbox hb; replace HO477 := aK (Kd.R_below (gR HO477) hb); replace HO483 := aK (Kd.R_below (gR HO483) hb); replace HO485 := aK (Kd.R_below (gR HO485) hb); replace HO488 := aK (Kd.R_below (gR HO488) hb); replace HO492 := aK (Kd.R_below (gR HO492) hb); have BK494 := aK (hbox); have GW494 := aK ((by rw [hg]; exact (below_size (gB HB)) : w.heap.size ≤ gb494)); have GE494 := aK ((by rw [hg]; exact (below_size (gB HB)) : w.heap.size ≤ gb494)); replace HB := aK (below_step (gB HB) hb); clear hb hbox hg; obtain ⟨Ao17, co17, eo17⟩ := Kd.R_slice HO488.out; subst eo17; have hcz18_0 : w16.cell? ⟨gb494, 0, none⟩ = some (.slice none 0 0) := (blk_cell BK494.out 0).trans rfl; have hcz18_1 : w16.cell? ⟨gb494, 1, none⟩ = some (.int .i64 0) := (blk_cell BK494.out 1).trans rfl; have hcz18_2 : w16.cell? ⟨gb494, 2, none⟩ = some (.slice none 0 0) := (blk_cell BK494.out 2).trans rfl; have hcz18_3 : w16.cell? ⟨gb494, 3, none⟩ = some (.int .i64 0) := (blk_cell BK494.out 3).trans rfl; have hfz18_0 := blk_frozen BK494.out 0; have hfz18_1 := blk_frozen BK494.out 1; have hfz18_2 := blk_frozen BK494.out 2; have hfz18_3 := blk_frozen BK494.out 3; obtain ⟨Ao19, co19, eo19⟩ := Kd.R_slice HO492.out; subst eo19)); go_upto_region 5 with (first | (go_at_call 17; (with_reducible refine (lombardlaw29_bids.calls kj2 _ _ l1 t475 _ ?side1 ?side2 A8.out).mono ?_); (case side1 => exact gC HR1 HB); (case side2 => exact HC1.out); rintro e w12 ⟨v476, rfl, ho0, hb⟩; (try clear A8); have HO477 := aK (Kd.R_lower ho0 (below_size (gB HB))); replace HB := aK (below_step (gB HB) hb); (try clear hb); (try clear hb2); (try clear hk); (try clear hi); (try clear ho0); obtain ⟨Ao13, co13, eo13⟩ := Kd.R_slice HO477.out; subst eo13) | (go_at_call 16; (with_reducible refine (close_Auction.calls kj2 _ _ l0 _ _ t475 t478 t479 t480 t481 _ ?side1 ?side2 ?side3 ?side4 A9.out).mono ?_); (case side1 => exact gC HR0 HB); (case side2 => exact HC0.out); (case side3 => repeat (first | exact (Kd.R_reads' HO477.out).2.2 | (with_reducible refine Kd.C_alloc ?_ _) | (with_reducible refine Kd.C_drewN ?_ _) | (with_reducible refine Kd.C_drew ?_))); (case side4 => exact (Kd.R_reads' HO477.out).2.1); rintro e w14 ⟨v482, v484, rfl, ho0, ho1, hb⟩; (try clear A9); replace HO477 := aK (Kd.R_below (gR HO477) hb); have HO483 := aK (Kd.R_lower ho0 (below_size (gB HB))); have HO485 := aK (Kd.R_lower ho1 (below_size (gB HB))); replace HB := aK (below_step (gB HB) hb); (try clear hb); (try clear hb2); (try clear hk); (try clear hi); (try clear ho0); (try clear ho1)) | (go_at_call 18; (with_reducible refine (lombardref29_Auction.calls kj2 _ _ l0 _ _ l1 t486 t489 t490 t493 _ ?side1 ?side2 ?side3 ?side4 A10.out).mono ?_); (case side1 => exact gC HR0 HB); (case side2 => exact HC0.out); (case side3 => exact gC HR1 HB); (case side4 => exact HC1.out); rintro e w15 ⟨v487, v491, rfl, ho0, ho1, hb⟩; (try clear A10); replace HO477 := aK (Kd.R_below (gR HO477) hb); replace HO483 := aK (Kd.R_below (gR HO483) hb); have HO488 := aK (Kd.R_lower ho0 (below_size (gB HB))); have HO492 := aK (Kd.R_lower (Kd.R_new' ho1 (Kd.R_lt (gR HO485))) (below_size (gB HB))); replace HO485 := aK (Kd.R_elder' (gR HO485) (Kd.R_base ho1) hb); replace HB := aK (below_step (gB HB) hb); (try clear hb); (try clear hb2); (try clear hk); (try clear hi); (try clear ho0); (try clear ho1)) | ((with_reducible refine gate_dst (N := 9) rfl ?_); (try (refine gate_guard (by rfl) ?_; dsimp only)); refine box_event ?hg (N := 9) ?hd (cs := #[.slice none 0 0, .int .i64 0, .slice none 0 0, .int .i64 0]) (t := 54) ?hr ?_; (case hd => rfl); (case hg => rfl); (case hr => first | (go_simp; done) | (go_simp; rfl) | (have hcq := hcq_.out; have hfq := hfq_.out; go_simp; done)); intro gb494 hg w16 hbox hb; replace HO477 := aK (Kd.R_below (gR HO477) hb); replace HO483 := aK (Kd.R_below (gR HO483) hb); replace HO485 := aK (Kd.R_below (gR HO485) hb); replace HO488 := aK (Kd.R_below (gR HO488) hb); replace HO492 := aK (Kd.R_below (gR HO492) hb); have BK494 := aK (hbox); have GW494 := aK ((by rw [hg]; exact (below_size (gB HB)) : w.heap.size ≤ gb494)); have GE494 := aK ((by rw [hg]; exact (below_size (gB HB)) : w.heap.size ≤ gb494)); replace HB := aK (below_step (gB HB) hb); clear hb hbox hg; obtain ⟨Ao17, co17, eo17⟩ := Kd.R_slice HO488.out; subst eo17; have hcz18_0 : w16.cell? ⟨gb494, 0, none⟩ = some (.slice none 0 0) := (blk_cell BK494.out 0).trans rfl; have hcz18_1 : w16.cell? ⟨gb494, 1, none⟩ = some (.int .i64 0) := (blk_cell BK494.out 1).trans rfl; have hcz18_2 : w16.cell? ⟨gb494, 2, none⟩ = some (.slice none 0 0) := (blk_cell BK494.out 2).trans rfl; have hcz18_3 : w16.cell? ⟨gb494, 3, none⟩ = some (.int .i64 0) := (blk_cell BK494.out 3).trans rfl; have hfz18_0 := blk_frozen BK494.out 0; have hfz18_1 := blk_frozen BK494.out 1; have hfz18_2 := blk_frozen BK494.out 2; have hfz18_3 := blk_frozen BK494.out 3; obtain ⟨Ao19, co19, eo19⟩ := Kd.R_slice HO492.out; subst eo19)))
     (try simp only [Act.put, sA, sB, sC])
     go_cut [56] (fun v56 wc => ∃ (kq : Nat) (x56_10 : Bool), v56 = .bool x56_10 ∧ Aside0 (lombardlaw29_CloseAuctions.j1 kq t478 x56_10 t486 t489 t490 t493 = some r) ∧ Aside0 (kq ≤ kj2) ∧ Aside0 (Kd.R k58 58 wc w.heap.size (fun _ => True) v482 t478) ∧ Aside0 (Kd.R k59 59 wc w.heap.size (fun _ => True) (.slice Ao17 t486.length co17) t486) ∧ Aside0 (Kd.R k63 63 wc w.heap.size (fun _ => True) (.slice Ao19 t490.length co19) t490) ∧ Aside0 (wc.heap[gb494]? = some (.cells #[(.slice Ao17 t486.length co17), .int .i64 t489, (.slice Ao19 t490.length co19), .int .i64 t493] 54 (0, 0))) ∧ Aside0 (Below w.heap.size w wc))
     case first =>
      have H := HC11.out
      clear HC11
      by_cases c20 : (t478.length : Int) = (t486.length : Int)
      · rw [if_pos c20] at H
        have c20b0 : ((t478.length : Int) == (t486.length : Int)) = true := beq_iff_eq.mpr c20
        have c20b1 : ((t478.length : Int) != (t486.length : Int)) = false := bne_eq_false_iff_eq.mpr c20
        have c20b2 : (t478.length == t486.length) = true := by first | simpa using c20 | (simp at c20 ⊢; omega)
        clear c20
        (first | rw [c20b0] | (simp only [i64_w, i32_w]; rw [c20b0]) | skip)
        by_cases c21 : t479 = t489
        · rw [if_pos c21] at H
          have c21b0 : (t479 == t489) = true := beq_iff_eq.mpr c21
          have c21b1 : (t479 != t489) = false := bne_eq_false_iff_eq.mpr c21
          clear c21
          replace H := Option.bind_eq_some_iff.mp H
          obtain ⟨t495, A220, H⟩ := H
          replace H : (if t495 = true then (lombardlaw29_CloseAuctions.j1 kj2 t478 (t481 != t493) t486 t489 t490 t493) else (lombardlaw29_CloseAuctions.j1 kj2 t478 true t486 t489 t490 t493)) = some r := H
          have A22 := Aside0.mk A220; clear A220
          by_cases c23 : t495 = true
          · subst c23
            replace H : (lombardlaw29_CloseAuctions.j1 kj2 t478 (t481 != t493) t486 t489 t490 t493) = some r := by rw [if_pos rfl] at H; exact H
            have H' := Aside0.mk H
            clear H
            obtain ⟨Ao24, co24, eo24⟩ := Kd.R_slice HO483.out
            subst eo24
            have hcz25_0 : w16.cell? ⟨gb494, 0, none⟩ = some (.slice none 0 0) := (blk_cell BK494.out 0).trans rfl
            have hcz25_1 : w16.cell? ⟨gb494, 1, none⟩ = some (.int .i64 0) := (blk_cell BK494.out 1).trans rfl
            have hcz25_2 : w16.cell? ⟨gb494, 2, none⟩ = some (.slice none 0 0) := (blk_cell BK494.out 2).trans rfl
            have hcz25_3 : w16.cell? ⟨gb494, 3, none⟩ = some (.int .i64 0) := (blk_cell BK494.out 3).trans rfl
            have hfz25_0 := blk_frozen BK494.out 0
            have hfz25_1 := blk_frozen BK494.out 1
            have hfz25_2 := blk_frozen BK494.out 2
            have hfz25_3 := blk_frozen BK494.out 3
            obtain ⟨Ao26, co26, eo26⟩ := Kd.R_slice HO485.out
            subst eo26
            go_wp2_with (first | (go_at_call 19; (with_reducible refine (lombardref10_Lots.calls kj2 _ _ t480 _ _ t490 true _ ?side1 ?side2 ?side3 ?side4 A22.out).mono ?_); (case side1 => refine (Kd.R_reads' (e := 63) (base := w.heap.size) (ok := fun k_ => (True ∧ some k_ ≠ (.slice Ao19 t490.length co19 : Value).ownBlock)) (n := t480.length) (c := co26) ?_).2.2; exact (gR ⟨(Kd.R_mono (Kd.R_far (p := ⟨gb494, 3, none⟩) (Kd.R_far (p := ⟨gb494, 2, none⟩) (Kd.R_far (p := ⟨gb494, 1, none⟩) (Kd.R_far (p := ⟨gb494, 0, none⟩) (Kd.R_types HO485.out BK494.out (by decide)) (fun _ hk => hk.2) (.slice Ao17 t486.length co17)) (fun _ hk => hk.2) (.int .i64 t489)) (fun _ hk => hk.2) (.slice Ao19 t490.length co19)) (fun _ hk => hk.2) (.int .i64 t493)) (fun _ h_ => h_.1))⟩)); (case side2 => exact (Kd.R_reads' HO485.out).2.1); (case side3 => refine (Kd.R_reads' (e := 63) (base := w.heap.size) (ok := fun k_ => (True ∧ some k_ ≠ (.slice Ao26 t480.length co26 : Value).ownBlock)) (n := t490.length) (c := co19) ?_).2.2; exact (gR ⟨(Kd.R_mono (Kd.R_far (p := ⟨gb494, 3, none⟩) (Kd.R_far (p := ⟨gb494, 2, none⟩) (Kd.R_far (p := ⟨gb494, 1, none⟩) (Kd.R_far (p := ⟨gb494, 0, none⟩) (Kd.R_types HO492.out BK494.out (by decide)) (fun _ hk => hk.2) (.slice Ao17 t486.length co17)) (fun _ hk => hk.2) (.int .i64 t489)) (fun _ hk => hk.2) (.slice Ao19 t490.length co19)) (fun _ hk => hk.2) (.int .i64 t493)) (fun _ h_ => h_.1))⟩)); (case side4 => exact (Kd.R_reads' HO492.out).2.1); rintro e w' ⟨rfl, ⟨nd, rfl⟩⟩; (try clear A22); (try first | exact ⟨rfl, _, World.drewN_drewN _ _ _⟩ | exact ⟨rfl, _, Eq.trans (World.drewN_drewN _ _ _) (congrArg (World.drewN _) (Nat.add_assoc _ _ _))⟩)))
            repeat (go_quiet (fail); try go_wp2_with (first | (go_at_call 19; (with_reducible refine (lombardref10_Lots.calls kj2 _ _ t480 _ _ t490 true _ ?side1 ?side2 ?side3 ?side4 A22.out).mono ?_); (case side1 => refine (Kd.R_reads' (e := 63) (base := w.heap.size) (ok := fun k_ => (True ∧ some k_ ≠ (.slice Ao19 t490.length co19 : Value).ownBlock)) (n := t480.length) (c := co26) ?_).2.2; exact (gR ⟨(Kd.R_mono (Kd.R_far (p := ⟨gb494, 3, none⟩) (Kd.R_far (p := ⟨gb494, 2, none⟩) (Kd.R_far (p := ⟨gb494, 1, none⟩) (Kd.R_far (p := ⟨gb494, 0, none⟩) (Kd.R_types HO485.out BK494.out (by decide)) (fun _ hk => hk.2) (.slice Ao17 t486.length co17)) (fun _ hk => hk.2) (.int .i64 t489)) (fun _ hk => hk.2) (.slice Ao19 t490.length co19)) (fun _ hk => hk.2) (.int .i64 t493)) (fun _ h_ => h_.1))⟩)); (case side2 => exact (Kd.R_reads' HO485.out).2.1); (case side3 => refine (Kd.R_reads' (e := 63) (base := w.heap.size) (ok := fun k_ => (True ∧ some k_ ≠ (.slice Ao26 t480.length co26 : Value).ownBlock)) (n := t490.length) (c := co19) ?_).2.2; exact (gR ⟨(Kd.R_mono (Kd.R_far (p := ⟨gb494, 3, none⟩) (Kd.R_far (p := ⟨gb494, 2, none⟩) (Kd.R_far (p := ⟨gb494, 1, none⟩) (Kd.R_far (p := ⟨gb494, 0, none⟩) (Kd.R_types HO492.out BK494.out (by decide)) (fun _ hk => hk.2) (.slice Ao17 t486.length co17)) (fun _ hk => hk.2) (.int .i64 t489)) (fun _ hk => hk.2) (.slice Ao19 t490.length co19)) (fun _ hk => hk.2) (.int .i64 t493)) (fun _ h_ => h_.1))⟩)); (case side4 => exact (Kd.R_reads' HO492.out).2.1); rintro e w' ⟨rfl, ⟨nd, rfl⟩⟩; (try clear A22); (try first | exact ⟨rfl, _, World.drewN_drewN _ _ _⟩ | exact ⟨rfl, _, Eq.trans (World.drewN_drewN _ _ _) (congrArg (World.drewN _) (Nat.add_assoc _ _ _))⟩))))
            go_meet
            case rel => exact ⟨_, ((t481 != t493)), ac, H', ⟨by have := HJ2.out; first | omega | exact Nat.le_refl _⟩, ⟨gR ⟨Kd.R_mono (Kd.R_far (p := ⟨gb494, 3, none⟩) (Kd.R_far (p := ⟨gb494, 2, none⟩) (Kd.R_far (p := ⟨gb494, 1, none⟩) (Kd.R_far (p := ⟨gb494, 0, none⟩) (Kd.R_types HO483.out BK494.out (by decide)) (fun _ hk => hk.2) (.slice Ao17 t486.length co17)) (fun _ hk => hk.2) (.int .i64 t489)) (fun _ hk => hk.2) (.slice Ao19 t490.length co19)) (fun _ hk => hk.2) (.int .i64 t493)) (fun _ hk => trivial)⟩⟩, ⟨gR ⟨Kd.R_mono (Kd.R_far (p := ⟨gb494, 3, none⟩) (Kd.R_far (p := ⟨gb494, 2, none⟩) (Kd.R_far (p := ⟨gb494, 1, none⟩) (Kd.R_far (p := ⟨gb494, 0, none⟩) (Kd.R_types HO488.out BK494.out (by decide)) (fun _ hk => hk.2) (.slice Ao17 t486.length co17)) (fun _ hk => hk.2) (.int .i64 t489)) (fun _ hk => hk.2) (.slice Ao19 t490.length co19)) (fun _ hk => hk.2) (.int .i64 t493)) (fun _ hk => trivial)⟩⟩, ⟨gR ⟨Kd.R_mono (Kd.R_far (p := ⟨gb494, 3, none⟩) (Kd.R_far (p := ⟨gb494, 2, none⟩) (Kd.R_far (p := ⟨gb494, 1, none⟩) (Kd.R_far (p := ⟨gb494, 0, none⟩) (Kd.R_types HO492.out BK494.out (by decide)) (fun _ hk => hk.2) (.slice Ao17 t486.length co17)) (fun _ hk => hk.2) (.int .i64 t489)) (fun _ hk => hk.2) (.slice Ao19 t490.length co19)) (fun _ hk => hk.2) (.int .i64 t493)) (fun _ hk => trivial)⟩⟩, ⟨by (with_reducible repeat (first | refine blk_drewN ?_ _ | refine blk_drew ?_ | refine blk_alloc ?_ _)); refine blk_put (cs := #[.slice Ao17 t486.length co17, .int .i64 t489, .slice Ao19 t490.length co19, .int .i64 0]) ?_ 3 _ rfl; (with_reducible repeat (first | refine blk_drewN ?_ _ | refine blk_drew ?_ | refine blk_alloc ?_ _)); refine blk_put (cs := #[.slice Ao17 t486.length co17, .int .i64 t489, .slice none 0 0, .int .i64 0]) ?_ 2 _ rfl; (with_reducible repeat (first | refine blk_drewN ?_ _ | refine blk_drew ?_ | refine blk_alloc ?_ _)); refine blk_put (cs := #[.slice Ao17 t486.length co17, .int .i64 0, .slice none 0 0, .int .i64 0]) ?_ 1 _ rfl; (with_reducible repeat (first | refine blk_drewN ?_ _ | refine blk_drew ?_ | refine blk_alloc ?_ _)); refine blk_put (cs := #[.slice none 0 0, .int .i64 0, .slice none 0 0, .int .i64 0]) ?_ 0 _ rfl; (with_reducible repeat (first | refine blk_drewN ?_ _ | refine blk_drew ?_ | refine blk_alloc ?_ _)); exact BK494.out⟩, ⟨gS HB⟩⟩
          · replace c23 := Bool.eq_false_iff.mpr c23
            subst c23
            replace H : (lombardlaw29_CloseAuctions.j1 kj2 t478 true t486 t489 t490 t493) = some r := by rw [if_neg (show ¬ (false = true) by decide)] at H; exact H
            have H' := Aside0.mk H
            clear H
            obtain ⟨Ao27, co27, eo27⟩ := Kd.R_slice HO483.out
            subst eo27
            have hcz28_0 : w16.cell? ⟨gb494, 0, none⟩ = some (.slice none 0 0) := (blk_cell BK494.out 0).trans rfl
            have hcz28_1 : w16.cell? ⟨gb494, 1, none⟩ = some (.int .i64 0) := (blk_cell BK494.out 1).trans rfl
            have hcz28_2 : w16.cell? ⟨gb494, 2, none⟩ = some (.slice none 0 0) := (blk_cell BK494.out 2).trans rfl
            have hcz28_3 : w16.cell? ⟨gb494, 3, none⟩ = some (.int .i64 0) := (blk_cell BK494.out 3).trans rfl
            have hfz28_0 := blk_frozen BK494.out 0
            have hfz28_1 := blk_frozen BK494.out 1
            have hfz28_2 := blk_frozen BK494.out 2
            have hfz28_3 := blk_frozen BK494.out 3
            obtain ⟨Ao29, co29, eo29⟩ := Kd.R_slice HO485.out
            subst eo29
            go_wp2_with (first | (go_at_call 19; (with_reducible refine (lombardref10_Lots.calls kj2 _ _ t480 _ _ t490 false _ ?side1 ?side2 ?side3 ?side4 A22.out).mono ?_); (case side1 => refine (Kd.R_reads' (e := 63) (base := w.heap.size) (ok := fun k_ => (True ∧ some k_ ≠ (.slice Ao19 t490.length co19 : Value).ownBlock)) (n := t480.length) (c := co29) ?_).2.2; exact (gR ⟨(Kd.R_mono (Kd.R_far (p := ⟨gb494, 3, none⟩) (Kd.R_far (p := ⟨gb494, 2, none⟩) (Kd.R_far (p := ⟨gb494, 1, none⟩) (Kd.R_far (p := ⟨gb494, 0, none⟩) (Kd.R_types HO485.out BK494.out (by decide)) (fun _ hk => hk.2) (.slice Ao17 t486.length co17)) (fun _ hk => hk.2) (.int .i64 t489)) (fun _ hk => hk.2) (.slice Ao19 t490.length co19)) (fun _ hk => hk.2) (.int .i64 t493)) (fun _ h_ => h_.1))⟩)); (case side2 => exact (Kd.R_reads' HO485.out).2.1); (case side3 => refine (Kd.R_reads' (e := 63) (base := w.heap.size) (ok := fun k_ => (True ∧ some k_ ≠ (.slice Ao29 t480.length co29 : Value).ownBlock)) (n := t490.length) (c := co19) ?_).2.2; exact (gR ⟨(Kd.R_mono (Kd.R_far (p := ⟨gb494, 3, none⟩) (Kd.R_far (p := ⟨gb494, 2, none⟩) (Kd.R_far (p := ⟨gb494, 1, none⟩) (Kd.R_far (p := ⟨gb494, 0, none⟩) (Kd.R_types HO492.out BK494.out (by decide)) (fun _ hk => hk.2) (.slice Ao17 t486.length co17)) (fun _ hk => hk.2) (.int .i64 t489)) (fun _ hk => hk.2) (.slice Ao19 t490.length co19)) (fun _ hk => hk.2) (.int .i64 t493)) (fun _ h_ => h_.1))⟩)); (case side4 => exact (Kd.R_reads' HO492.out).2.1); rintro e w' ⟨rfl, ⟨nd, rfl⟩⟩; (try clear A22); (try first | exact ⟨rfl, _, World.drewN_drewN _ _ _⟩ | exact ⟨rfl, _, Eq.trans (World.drewN_drewN _ _ _) (congrArg (World.drewN _) (Nat.add_assoc _ _ _))⟩)))
            repeat (go_quiet (fail); try go_wp2_with (first | (go_at_call 19; (with_reducible refine (lombardref10_Lots.calls kj2 _ _ t480 _ _ t490 false _ ?side1 ?side2 ?side3 ?side4 A22.out).mono ?_); (case side1 => refine (Kd.R_reads' (e := 63) (base := w.heap.size) (ok := fun k_ => (True ∧ some k_ ≠ (.slice Ao19 t490.length co19 : Value).ownBlock)) (n := t480.length) (c := co29) ?_).2.2; exact (gR ⟨(Kd.R_mono (Kd.R_far (p := ⟨gb494, 3, none⟩) (Kd.R_far (p := ⟨gb494, 2, none⟩) (Kd.R_far (p := ⟨gb494, 1, none⟩) (Kd.R_far (p := ⟨gb494, 0, none⟩) (Kd.R_types HO485.out BK494.out (by decide)) (fun _ hk => hk.2) (.slice Ao17 t486.length co17)) (fun _ hk => hk.2) (.int .i64 t489)) (fun _ hk => hk.2) (.slice Ao19 t490.length co19)) (fun _ hk => hk.2) (.int .i64 t493)) (fun _ h_ => h_.1))⟩)); (case side2 => exact (Kd.R_reads' HO485.out).2.1); (case side3 => refine (Kd.R_reads' (e := 63) (base := w.heap.size) (ok := fun k_ => (True ∧ some k_ ≠ (.slice Ao29 t480.length co29 : Value).ownBlock)) (n := t490.length) (c := co19) ?_).2.2; exact (gR ⟨(Kd.R_mono (Kd.R_far (p := ⟨gb494, 3, none⟩) (Kd.R_far (p := ⟨gb494, 2, none⟩) (Kd.R_far (p := ⟨gb494, 1, none⟩) (Kd.R_far (p := ⟨gb494, 0, none⟩) (Kd.R_types HO492.out BK494.out (by decide)) (fun _ hk => hk.2) (.slice Ao17 t486.length co17)) (fun _ hk => hk.2) (.int .i64 t489)) (fun _ hk => hk.2) (.slice Ao19 t490.length co19)) (fun _ hk => hk.2) (.int .i64 t493)) (fun _ h_ => h_.1))⟩)); (case side4 => exact (Kd.R_reads' HO492.out).2.1); rintro e w' ⟨rfl, ⟨nd, rfl⟩⟩; (try clear A22); (try first | exact ⟨rfl, _, World.drewN_drewN _ _ _⟩ | exact ⟨rfl, _, Eq.trans (World.drewN_drewN _ _ _) (congrArg (World.drewN _) (Nat.add_assoc _ _ _))⟩))))
            go_meet
            case rel => exact ⟨_, (true), ac, H', ⟨by have := HJ2.out; first | omega | exact Nat.le_refl _⟩, ⟨gR ⟨Kd.R_mono (Kd.R_far (p := ⟨gb494, 3, none⟩) (Kd.R_far (p := ⟨gb494, 2, none⟩) (Kd.R_far (p := ⟨gb494, 1, none⟩) (Kd.R_far (p := ⟨gb494, 0, none⟩) (Kd.R_types HO483.out BK494.out (by decide)) (fun _ hk => hk.2) (.slice Ao17 t486.length co17)) (fun _ hk => hk.2) (.int .i64 t489)) (fun _ hk => hk.2) (.slice Ao19 t490.length co19)) (fun _ hk => hk.2) (.int .i64 t493)) (fun _ hk => trivial)⟩⟩, ⟨gR ⟨Kd.R_mono (Kd.R_far (p := ⟨gb494, 3, none⟩) (Kd.R_far (p := ⟨gb494, 2, none⟩) (Kd.R_far (p := ⟨gb494, 1, none⟩) (Kd.R_far (p := ⟨gb494, 0, none⟩) (Kd.R_types HO488.out BK494.out (by decide)) (fun _ hk => hk.2) (.slice Ao17 t486.length co17)) (fun _ hk => hk.2) (.int .i64 t489)) (fun _ hk => hk.2) (.slice Ao19 t490.length co19)) (fun _ hk => hk.2) (.int .i64 t493)) (fun _ hk => trivial)⟩⟩, ⟨gR ⟨Kd.R_mono (Kd.R_far (p := ⟨gb494, 3, none⟩) (Kd.R_far (p := ⟨gb494, 2, none⟩) (Kd.R_far (p := ⟨gb494, 1, none⟩) (Kd.R_far (p := ⟨gb494, 0, none⟩) (Kd.R_types HO492.out BK494.out (by decide)) (fun _ hk => hk.2) (.slice Ao17 t486.length co17)) (fun _ hk => hk.2) (.int .i64 t489)) (fun _ hk => hk.2) (.slice Ao19 t490.length co19)) (fun _ hk => hk.2) (.int .i64 t493)) (fun _ hk => trivial)⟩⟩, ⟨by (with_reducible repeat (first | refine blk_drewN ?_ _ | refine blk_drew ?_ | refine blk_alloc ?_ _)); refine blk_put (cs := #[.slice Ao17 t486.length co17, .int .i64 t489, .slice Ao19 t490.length co19, .int .i64 0]) ?_ 3 _ rfl; (with_reducible repeat (first | refine blk_drewN ?_ _ | refine blk_drew ?_ | refine blk_alloc ?_ _)); refine blk_put (cs := #[.slice Ao17 t486.length co17, .int .i64 t489, .slice none 0 0, .int .i64 0]) ?_ 2 _ rfl; (with_reducible repeat (first | refine blk_drewN ?_ _ | refine blk_drew ?_ | refine blk_alloc ?_ _)); refine blk_put (cs := #[.slice Ao17 t486.length co17, .int .i64 0, .slice none 0 0, .int .i64 0]) ?_ 1 _ rfl; (with_reducible repeat (first | refine blk_drewN ?_ _ | refine blk_drew ?_ | refine blk_alloc ?_ _)); refine blk_put (cs := #[.slice none 0 0, .int .i64 0, .slice none 0 0, .int .i64 0]) ?_ 0 _ rfl; (with_reducible repeat (first | refine blk_drewN ?_ _ | refine blk_drew ?_ | refine blk_alloc ?_ _)); exact BK494.out⟩, ⟨gS HB⟩⟩
        · rw [if_neg c21] at H
          have c21b0 : (t479 == t489) = false := beq_eq_false_iff_ne.mpr c21
          have c21b1 : (t479 != t489) = true := bne_iff_ne.mpr c21
          have H' := Aside0.mk H
          clear H
          obtain ⟨Ao30, co30, eo30⟩ := Kd.R_slice HO483.out
          subst eo30
          have hcz31_0 : w16.cell? ⟨gb494, 0, none⟩ = some (.slice none 0 0) := (blk_cell BK494.out 0).trans rfl
          have hcz31_1 : w16.cell? ⟨gb494, 1, none⟩ = some (.int .i64 0) := (blk_cell BK494.out 1).trans rfl
          have hcz31_2 : w16.cell? ⟨gb494, 2, none⟩ = some (.slice none 0 0) := (blk_cell BK494.out 2).trans rfl
          have hcz31_3 : w16.cell? ⟨gb494, 3, none⟩ = some (.int .i64 0) := (blk_cell BK494.out 3).trans rfl
          have hfz31_0 := blk_frozen BK494.out 0
          have hfz31_1 := blk_frozen BK494.out 1
          have hfz31_2 := blk_frozen BK494.out 2
          have hfz31_3 := blk_frozen BK494.out 3
          go_wp2
          repeat (go_quiet (fail); try go_wp2)
          go_meet
          case rel => exact ⟨_, (true), ac, H', ⟨by have := HJ2.out; first | omega | exact Nat.le_refl _⟩, ⟨gR ⟨Kd.R_mono (Kd.R_far (p := ⟨gb494, 3, none⟩) (Kd.R_far (p := ⟨gb494, 2, none⟩) (Kd.R_far (p := ⟨gb494, 1, none⟩) (Kd.R_far (p := ⟨gb494, 0, none⟩) (Kd.R_types HO483.out BK494.out (by decide)) (fun _ hk => hk.2) (.slice Ao17 t486.length co17)) (fun _ hk => hk.2) (.int .i64 t489)) (fun _ hk => hk.2) (.slice Ao19 t490.length co19)) (fun _ hk => hk.2) (.int .i64 t493)) (fun _ hk => trivial)⟩⟩, ⟨gR ⟨Kd.R_mono (Kd.R_far (p := ⟨gb494, 3, none⟩) (Kd.R_far (p := ⟨gb494, 2, none⟩) (Kd.R_far (p := ⟨gb494, 1, none⟩) (Kd.R_far (p := ⟨gb494, 0, none⟩) (Kd.R_types HO488.out BK494.out (by decide)) (fun _ hk => hk.2) (.slice Ao17 t486.length co17)) (fun _ hk => hk.2) (.int .i64 t489)) (fun _ hk => hk.2) (.slice Ao19 t490.length co19)) (fun _ hk => hk.2) (.int .i64 t493)) (fun _ hk => trivial)⟩⟩, ⟨gR ⟨Kd.R_mono (Kd.R_far (p := ⟨gb494, 3, none⟩) (Kd.R_far (p := ⟨gb494, 2, none⟩) (Kd.R_far (p := ⟨gb494, 1, none⟩) (Kd.R_far (p := ⟨gb494, 0, none⟩) (Kd.R_types HO492.out BK494.out (by decide)) (fun _ hk => hk.2) (.slice Ao17 t486.length co17)) (fun _ hk => hk.2) (.int .i64 t489)) (fun _ hk => hk.2) (.slice Ao19 t490.length co19)) (fun _ hk => hk.2) (.int .i64 t493)) (fun _ hk => trivial)⟩⟩, ⟨by (with_reducible repeat (first | refine blk_drewN ?_ _ | refine blk_drew ?_ | refine blk_alloc ?_ _)); refine blk_put (cs := #[.slice Ao17 t486.length co17, .int .i64 t489, .slice Ao19 t490.length co19, .int .i64 0]) ?_ 3 _ rfl; (with_reducible repeat (first | refine blk_drewN ?_ _ | refine blk_drew ?_ | refine blk_alloc ?_ _)); refine blk_put (cs := #[.slice Ao17 t486.length co17, .int .i64 t489, .slice none 0 0, .int .i64 0]) ?_ 2 _ rfl; (with_reducible repeat (first | refine blk_drewN ?_ _ | refine blk_drew ?_ | refine blk_alloc ?_ _)); refine blk_put (cs := #[.slice Ao17 t486.length co17, .int .i64 0, .slice none 0 0, .int .i64 0]) ?_ 1 _ rfl; (with_reducible repeat (first | refine blk_drewN ?_ _ | refine blk_drew ?_ | refine blk_alloc ?_ _)); refine blk_put (cs := #[.slice none 0 0, .int .i64 0, .slice none 0 0, .int .i64 0]) ?_ 0 _ rfl; (with_reducible repeat (first | refine blk_drewN ?_ _ | refine blk_drew ?_ | refine blk_alloc ?_ _)); exact BK494.out⟩, ⟨gS HB⟩⟩
      · rw [if_neg c20] at H
        have c20b0 : ((t478.length : Int) == (t486.length : Int)) = false := beq_eq_false_iff_ne.mpr c20
        have c20b1 : ((t478.length : Int) != (t486.length : Int)) = true := bne_iff_ne.mpr c20
        have c20b2 : (t478.length == t486.length) = false := by first | simpa using c20 | (simp at c20 ⊢; omega)
        (first | rw [c20b0] | (simp only [i64_w, i32_w]; rw [c20b0]) | skip)
        have H' := Aside0.mk H
        clear H
        obtain ⟨Ao32, co32, eo32⟩ := Kd.R_slice HO483.out
        subst eo32
        have hcz33_0 : w16.cell? ⟨gb494, 0, none⟩ = some (.slice none 0 0) := (blk_cell BK494.out 0).trans rfl
        have hcz33_1 : w16.cell? ⟨gb494, 1, none⟩ = some (.int .i64 0) := (blk_cell BK494.out 1).trans rfl
        have hcz33_2 : w16.cell? ⟨gb494, 2, none⟩ = some (.slice none 0 0) := (blk_cell BK494.out 2).trans rfl
        have hcz33_3 : w16.cell? ⟨gb494, 3, none⟩ = some (.int .i64 0) := (blk_cell BK494.out 3).trans rfl
        have hfz33_0 := blk_frozen BK494.out 0
        have hfz33_1 := blk_frozen BK494.out 1
        have hfz33_2 := blk_frozen BK494.out 2
        have hfz33_3 := blk_frozen BK494.out 3
        go_wp2
        repeat (go_quiet (fail); try go_wp2)
        go_meet
        case rel => exact ⟨_, (true), ac, H', ⟨by have := HJ2.out; first | omega | exact Nat.le_refl _⟩, ⟨gR ⟨Kd.R_mono (Kd.R_far (p := ⟨gb494, 3, none⟩) (Kd.R_far (p := ⟨gb494, 2, none⟩) (Kd.R_far (p := ⟨gb494, 1, none⟩) (Kd.R_far (p := ⟨gb494, 0, none⟩) (Kd.R_types HO483.out BK494.out (by decide)) (fun _ hk => hk.2) (.slice Ao17 t486.length co17)) (fun _ hk => hk.2) (.int .i64 t489)) (fun _ hk => hk.2) (.slice Ao19 t490.length co19)) (fun _ hk => hk.2) (.int .i64 t493)) (fun _ hk => trivial)⟩⟩, ⟨gR ⟨Kd.R_mono (Kd.R_far (p := ⟨gb494, 3, none⟩) (Kd.R_far (p := ⟨gb494, 2, none⟩) (Kd.R_far (p := ⟨gb494, 1, none⟩) (Kd.R_far (p := ⟨gb494, 0, none⟩) (Kd.R_types HO488.out BK494.out (by decide)) (fun _ hk => hk.2) (.slice Ao17 t486.length co17)) (fun _ hk => hk.2) (.int .i64 t489)) (fun _ hk => hk.2) (.slice Ao19 t490.length co19)) (fun _ hk => hk.2) (.int .i64 t493)) (fun _ hk => trivial)⟩⟩, ⟨gR ⟨Kd.R_mono (Kd.R_far (p := ⟨gb494, 3, none⟩) (Kd.R_far (p := ⟨gb494, 2, none⟩) (Kd.R_far (p := ⟨gb494, 1, none⟩) (Kd.R_far (p := ⟨gb494, 0, none⟩) (Kd.R_types HO492.out BK494.out (by decide)) (fun _ hk => hk.2) (.slice Ao17 t486.length co17)) (fun _ hk => hk.2) (.int .i64 t489)) (fun _ hk => hk.2) (.slice Ao19 t490.length co19)) (fun _ hk => hk.2) (.int .i64 t493)) (fun _ hk => trivial)⟩⟩, ⟨by (with_reducible repeat (first | refine blk_drewN ?_ _ | refine blk_drew ?_ | refine blk_alloc ?_ _)); refine blk_put (cs := #[.slice Ao17 t486.length co17, .int .i64 t489, .slice Ao19 t490.length co19, .int .i64 0]) ?_ 3 _ rfl; (with_reducible repeat (first | refine blk_drewN ?_ _ | refine blk_drew ?_ | refine blk_alloc ?_ _)); refine blk_put (cs := #[.slice Ao17 t486.length co17, .int .i64 t489, .slice none 0 0, .int .i64 0]) ?_ 2 _ rfl; (with_reducible repeat (first | refine blk_drewN ?_ _ | refine blk_drew ?_ | refine blk_alloc ?_ _)); refine blk_put (cs := #[.slice Ao17 t486.length co17, .int .i64 0, .slice none 0 0, .int .i64 0]) ?_ 1 _ rfl; (with_reducible repeat (first | refine blk_drewN ?_ _ | refine blk_drew ?_ | refine blk_alloc ?_ _)); refine blk_put (cs := #[.slice none 0 0, .int .i64 0, .slice none 0 0, .int .i64 0]) ?_ 0 _ rfl; (with_reducible repeat (first | refine blk_drewN ?_ _ | refine blk_drew ?_ | refine blk_alloc ?_ _)); exact BK494.out⟩, ⟨gS HB⟩⟩
     case rest =>
      clear HC11; (try clear c1); (try clear c5); (try clear hcz18_0); (try clear hcz18_1); (try clear hcz18_2); (try clear hcz18_3); (try clear hfz18_0); (try clear hfz18_1); (try clear hfz18_2); (try clear hfz18_3)
      obtain ⟨kq, x56_10, rfl, HA, HJ10, HO_5, HO_495000, HO_495002, BK494, HB⟩ := hcut
      cases kq with
      | zero => exact absurd HA.out (by simp [lombardlaw29_CloseAuctions.j1])
      | succ kj10 =>
       have H := HA.out
       clear HA
       simp only [lombardlaw29_CloseAuctions.j1] at H
       by_cases c34 : x56_10 = true
       · subst c34
         replace H : (some false) = some r := by rw [if_pos rfl] at H; exact H
         exact absurd ((Option.some.inj H).trans htr_) (by decide)
       · replace c34 := Bool.eq_false_iff.mpr c34
         subst c34
         replace H : (lombardlaw29_CloseAuctions.l0 kj10 t478 0 t486 t489 t490 t493) = some r := by rw [if_neg (show ¬ (false = true) by decide)] at H; exact H
         have H' := Aside0.mk H
         clear H
         go_wp2
         repeat (go_quiet (fail); try go_wp2)
         go_loopg [10] kj10 (fun kq v10 w' => ∃ (x10_3 : Int), v10 = .int .i64 x10_3 ∧ Aside0 (lombardlaw29_CloseAuctions.l0 kq t478 x10_3 t486 t489 t490 t493 = some r) ∧ Aside0 (kq ≤ kj10) ∧ Aside0 (Kd.R k58 58 w' w.heap.size (fun _ => True) v482 t478) ∧ Aside0 (Kd.R k59 59 w' w.heap.size (fun _ => True) (.slice Ao17 t486.length co17) t486) ∧ Aside0 (Kd.R k63 63 w' w.heap.size (fun _ => True) (.slice Ao19 t490.length co19) t490) ∧ Aside0 (w'.heap[gb494]? = some (.cells #[(.slice Ao17 t486.length co17), .int .i64 t489, (.slice Ao19 t490.length co19), .int .i64 t493] 54 (0, 0))) ∧ Aside0 (Below w.heap.size w w'))
         case atStart => exact ⟨(0), ac, H', ⟨Nat.le_refl _⟩, ⟨gR HO_5⟩, ⟨gR HO_495000⟩, ⟨gR HO_495002⟩, ⟨gK BK494⟩, ⟨gS HB⟩⟩
         case round =>
          clear H'; (try clear c1); (try clear c5); (try clear c34); (try clear hcz18_0); (try clear hcz18_1); (try clear hcz18_2); (try clear hcz18_3); (try clear hfz18_0); (try clear hfz18_1); (try clear hfz18_2); (try clear hfz18_3)
          obtain ⟨x10_3, rfl, HA, HK3, HO_5, HO_495000, HO_495002, BK494, HB⟩ := hrel
          cases gk with
          | zero => exact absurd HA.out (by simp [lombardlaw29_CloseAuctions.l0])
          | succ k3 =>
           have H := HA.out
           clear HA
           simp only [lombardlaw29_CloseAuctions.l0] at H
           by_cases c35 : x10_3 < (t478.length : Int)
           · rw [if_pos c35] at H
             have c35b0 := dT c35
             clear c35
             by_cases c36 : 0 ≤ x10_3
             · rw [if_pos c36] at H
               have c36b0 := dT c36
               clear c36
               by_cases c37 : x10_3 < (t486.length : Int)
               · rw [if_pos c37] at H
                 have c37b0 := dT c37
                 clear c37
                 by_cases c38 : ((rd_T58 t478 x10_3).f0) = ((rd_T59 t486 x10_3).f0)
                 · rw [if_pos c38] at H
                   have c38b0 : (((rd_T58 t478 x10_3).f0) == ((rd_T59 t486 x10_3).f0)) = true := beq_iff_eq.mpr c38
                   have c38b1 : (((rd_T58 t478 x10_3).f0) != ((rd_T59 t486 x10_3).f0)) = false := bne_eq_false_iff_eq.mpr c38
                   clear c38
                   by_cases c39 : ((rd_T58 t478 x10_3).f1).toList = ((rd_T59 t486 x10_3).f1).toList
                   · rw [if_pos c39] at H
                     have c39b0 : (((rd_T58 t478 x10_3).f1).toList == ((rd_T59 t486 x10_3).f1).toList) = true := beq_iff_eq.mpr c39
                     have c39b1 : (((rd_T58 t478 x10_3).f1).toList != ((rd_T59 t486 x10_3).f1).toList) = false := bne_eq_false_iff_eq.mpr c39
                     clear c39
                     by_cases c40 : ((rd_T58 t478 x10_3).f2) = ((rd_T59 t486 x10_3).f2)
                     · rw [if_pos c40] at H
                       have c40b0 : (((rd_T58 t478 x10_3).f2) == ((rd_T59 t486 x10_3).f2)) = true := beq_iff_eq.mpr c40
                       have c40b1 : (((rd_T58 t478 x10_3).f2) != ((rd_T59 t486 x10_3).f2)) = false := bne_eq_false_iff_eq.mpr c40
                       clear c40
                       by_cases c41 : ((rd_T58 t478 x10_3).f3) = ((rd_T59 t486 x10_3).f3)
                       · rw [if_pos c41] at H
                         have c41b0 : (((rd_T58 t478 x10_3).f3) == ((rd_T59 t486 x10_3).f3)) = true := beq_iff_eq.mpr c41
                         have c41b1 : (((rd_T58 t478 x10_3).f3) != ((rd_T59 t486 x10_3).f3)) = false := bne_eq_false_iff_eq.mpr c41
                         clear c41
                         have H' := Aside0.mk H
                         clear H
                         obtain ⟨Ao42, co42, eo42⟩ := Kd.R_slice HO_5.out
                         subst eo42
                         obtain ⟨⟨p496, q496⟩, ad496, rfl, hx496_0, hx496_1, hx496_2, hx496_3⟩ := za (at_T58 (Kd.R_reads' HO_5.out).2.2) x10_3
                         have hcz43_0 : wr.cell? ⟨gb494, 0, none⟩ = some (.slice Ao17 t486.length co17) := (blk_cell BK494.out 0).trans rfl
                         have hcz43_1 : wr.cell? ⟨gb494, 1, none⟩ = some (.int .i64 t489) := (blk_cell BK494.out 1).trans rfl
                         have hcz43_2 : wr.cell? ⟨gb494, 2, none⟩ = some (.slice Ao19 t490.length co19) := (blk_cell BK494.out 2).trans rfl
                         have hcz43_3 : wr.cell? ⟨gb494, 3, none⟩ = some (.int .i64 t493) := (blk_cell BK494.out 3).trans rfl
                         have hfz43_0 := blk_frozen BK494.out 0
                         have hfz43_1 := blk_frozen BK494.out 1
                         have hfz43_2 := blk_frozen BK494.out 2
                         have hfz43_3 := blk_frozen BK494.out 3
                         obtain ⟨⟨p497, q497⟩, ad497, rfl, hx497_0, hx497_1, hx497_2, hx497_3⟩ := za (at_T59 (Kd.R_reads' HO_495000.out).2.2) x10_3
                         obtain ⟨⟨p498, q498⟩, ad498, e498, hx498_0, hx498_1, hx498_2, hx498_3⟩ := za (at_T58 (Kd.R_reads' HO_5.out).2.2) x10_3
                         obtain rfl : ad496 = ad498 := (by injection e498)
                         obtain ⟨⟨p499, q499⟩, ad499, e499, hx499_0, hx499_1, hx499_2, hx499_3⟩ := za (at_T59 (Kd.R_reads' HO_495000.out).2.2) x10_3
                         obtain rfl : ad497 = ad499 := (by injection e499)
                         obtain ⟨⟨p500, q500⟩, ad500, e500, hx500_0, hx500_1, hx500_2, hx500_3⟩ := za (at_T58 (Kd.R_reads' HO_5.out).2.2) x10_3
                         obtain rfl : ad496 = ad500 := (by injection e500)
                         obtain ⟨⟨p501, q501⟩, ad501, e501, hx501_0, hx501_1, hx501_2, hx501_3⟩ := za (at_T59 (Kd.R_reads' HO_495000.out).2.2) x10_3
                         obtain rfl : ad497 = ad501 := (by injection e501)
                         obtain ⟨⟨p502, q502⟩, ad502, e502, hx502_0, hx502_1, hx502_2, hx502_3⟩ := za (at_T58 (Kd.R_reads' HO_5.out).2.2) x10_3
                         obtain rfl : ad496 = ad502 := (by injection e502)
                         obtain ⟨⟨p503, q503⟩, ad503, e503, hx503_0, hx503_1, hx503_2, hx503_3⟩ := za (at_T59 (Kd.R_reads' HO_495000.out).2.2) x10_3
                         obtain rfl : ad497 = ad503 := (by injection e503)
                         go_wp2
                         repeat (go_quiet (fail); try go_wp2)
                         go_roundg k3
                         case measure => have := HJ2.out; have := HJ10.out; have := HK3.out; omega
                         case rel => exact ⟨(wrap64 (x10_3 + 1)), ac, H', ⟨by have := HJ2.out; have := HJ10.out; have := HK3.out; omega⟩, ⟨gR HO_5⟩, ⟨gR HO_495000⟩, ⟨gR HO_495002⟩, ⟨gK BK494⟩, ⟨gS HB⟩⟩
                       · rw [if_neg c41] at H
                         have c41b0 : (((rd_T58 t478 x10_3).f3) == ((rd_T59 t486 x10_3).f3)) = false := beq_eq_false_iff_ne.mpr c41
                         have c41b1 : (((rd_T58 t478 x10_3).f3) != ((rd_T59 t486 x10_3).f3)) = true := bne_iff_ne.mpr c41
                         exact absurd ((Option.some.inj H).trans htr_) (by decide)
                     · rw [if_neg c40] at H
                       have c40b0 : (((rd_T58 t478 x10_3).f2) == ((rd_T59 t486 x10_3).f2)) = false := beq_eq_false_iff_ne.mpr c40
                       have c40b1 : (((rd_T58 t478 x10_3).f2) != ((rd_T59 t486 x10_3).f2)) = true := bne_iff_ne.mpr c40
                       exact absurd ((Option.some.inj H).trans htr_) (by decide)
                   · rw [if_neg c39] at H
                     have c39b0 : (((rd_T58 t478 x10_3).f1).toList == ((rd_T59 t486 x10_3).f1).toList) = false := beq_eq_false_iff_ne.mpr c39
                     have c39b1 : (((rd_T58 t478 x10_3).f1).toList != ((rd_T59 t486 x10_3).f1).toList) = true := bne_iff_ne.mpr c39
                     exact absurd ((Option.some.inj H).trans htr_) (by decide)
                 · rw [if_neg c38] at H
                   have c38b0 : (((rd_T58 t478 x10_3).f0) == ((rd_T59 t486 x10_3).f0)) = false := beq_eq_false_iff_ne.mpr c38
                   have c38b1 : (((rd_T58 t478 x10_3).f0) != ((rd_T59 t486 x10_3).f0)) = true := bne_iff_ne.mpr c38
                   exact absurd ((Option.some.inj H).trans htr_) (by decide)
               · rw [if_neg c37] at H
                 exact absurd H (by simp)
             · rw [if_neg c36] at H
               exact absurd H (by simp)
           · rw [if_neg c35] at H
             have c35b0 := dF c35
             clear c35
             replace H := Option.bind_eq_some_iff.mp H
             obtain ⟨t504, A440, H⟩ := H
             replace H : (some t504) = some r := H
             have A44 := Aside0.mk A440; clear A440
             obtain rfl := Option.some.inj H
             obtain ⟨Ao45, co45, eo45⟩ := Kd.R_slice HO_5.out
             subst eo45
             go_wp2_with (first | (go_at_call 8; (with_reducible refine (lombardlaw29_awake.calls k3  t504 _ A44.out htr_).mono ?_); rintro e w46 ⟨rfl, hb⟩; replace HO_5 := aK (Kd.R_below (gR HO_5) hb); replace HO_495000 := aK (Kd.R_below (gR HO_495000) hb); replace HO_495002 := aK (Kd.R_below (gR HO_495002) hb); replace BK494 := aK (blk_below (g := gb494) (o := .cells #[.slice Ao17 t486.length co17, .int .i64 t489, .slice Ao19 t490.length co19, .int .i64 t493] 54 (0, 0)) (gK BK494) hb); replace HB := aK (below_step (gS HB) hb); (try clear hb); (try clear hb2); (try clear hk); (try clear hi)))
             repeat (go_quiet (fail); try go_wp2_with (first | (go_at_call 8; (with_reducible refine (lombardlaw29_awake.calls k3  t504 _ A44.out htr_).mono ?_); rintro e w46 ⟨rfl, hb⟩; replace HO_5 := aK (Kd.R_below (gR HO_5) hb); replace HO_495000 := aK (Kd.R_below (gR HO_495000) hb); replace HO_495002 := aK (Kd.R_below (gR HO_495002) hb); replace BK494 := aK (blk_below (g := gb494) (o := .cells #[.slice Ao17 t486.length co17, .int .i64 t489, .slice Ao19 t490.length co19, .int .i64 t493] 54 (0, 0)) (gK BK494) hb); replace HB := aK (below_step (gS HB) hb); (try clear hb); (try clear hb2); (try clear hk); (try clear hi))))
             go_ret
             exact ⟨by first | rfl | (simp [errW_none, errW_some] <;> rfl) | (simp [*, errW_none, errW_some] <;> rfl), gS HB⟩
end Go.Proofs.Ytlbhjkbjokiioaa.X
