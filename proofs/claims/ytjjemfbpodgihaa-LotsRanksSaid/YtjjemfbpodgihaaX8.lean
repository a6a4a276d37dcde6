-- a shortened text: what this claim does not name is left out (wip/xprint/prune.py of this repo)
import Derived.Test.YtjjemfbpodgihaaXMin
import Derived.Test.YtjjemfbpodgihaaX0
import Derived.Test.YtjjemfbpodgihaaX1
import Derived.Test.YtjjemfbpodgihaaX6
import Derived.Test.YtjjemfbpodgihaaX7
namespace Go.Proofs.Ytjjemfbpodgihaa.X
open Go.RowKit Go.Proofs.YtjjemfbpodgihaaW.PrintWords Go.Proofs.YtjjemfbpodgihaaW.PrintLast Go.Proofs.YtjjemfbpodgihaaW.PrintMore
attribute [local go_sem] max2_int min2_int max_two min_two max_three min_three max_four min_four
set_option linter.unusedVariables false
set_option linter.unusedSimpArgs false
attribute [local go_sem high] eqA43
def lombardref10_Lots.l0 : Nat → List (S43) → List (S43) → Int → Option (Bool)
 | 0, _, _, _ => none
 | k + 1, x0, x1, x5 => if x5 < (x0.length : Int) then (if 0 ≤ x5 then (if x5 < (x1.length : Int) then (if (!((((rd_T43 x0 x5).f0).toList) == (((rd_T43 x1 x5).f0).toList)) || (!(((rd_T43 x0 x5).f1) == ((rd_T43 x1 x5).f1)))) = true then (some false) else (lombardref10_Lots.l0 k x0 x1 (wrap64 (x5 + 1)))) else (none)) else (none)) else (some true)
def lombardref10_Lots.f (k : Nat) (l0 : List (S43)) (l1 : List (S43)) : Option (Bool) := if (l0.length : Int) = (l1.length : Int) then (lombardref10_Lots.l0 k l0 l1 0) else (some false)
theorem lombardref10_Lots.mono_l : ∀ k, (∀ y0 y1 y2, LeO (lombardref10_Lots.l0 k y0 y1 y2) (lombardref10_Lots.l0 (k + 1) y0 y1 y2))
 | 0 => fun _ _ _ r h => by simp [lombardref10_Lots.l0] at h
 | k + 1 => by
  have ih0 := lombardref10_Lots.mono_l k
  · intro y0 y1 y2
    unfold lombardref10_Lots.l0
    repeat' first
    | (with_reducible exact ih0 _ _ _)
    | (with_reducible exact LeO.refl _)
    | (with_reducible exact LeO.none _)
    | (with_reducible refine LeO.ite ?_ ?_)
    | (with_reducible refine LeO.bind ?_ (fun _ => ?_))
    | exact ih0 _ _ _
    | exact LeO.none _
    | refine LeO.ite ?_ ?_
    | refine LeO.bind ?_ (fun _ => ?_)
theorem lombardref10_Lots.mono : ∀ a0 a1 k, LeO (lombardref10_Lots.f k a0 a1) (lombardref10_Lots.f (k + 1) a0 a1) := by
 intro a0 a1 k
 have ih0 := lombardref10_Lots.mono_l k
 unfold lombardref10_Lots.f
 repeat' first
  | (with_reducible exact ih0 _ _ _)
  | (with_reducible exact LeO.refl _)
  | (with_reducible exact LeO.none _)
  | (with_reducible refine LeO.ite ?_ ?_)
  | (with_reducible refine LeO.bind ?_ (fun _ => ?_))
  | exact ih0 _ _ _
  | exact LeO.none _
  | refine LeO.ite ?_ ?_
  | refine LeO.bind ?_ (fun _ => ?_)
set_option maxHeartbeats 8000000 in
set_option maxRecDepth 100000 in
theorem lombardref10_Lots.calls (k : Nat) (A0 : Option Addr) (c0 : Nat) (l0 : List (S43)) (A1 : Option Addr) (c1 : Nat) (l1 : List (S43)) (r : Bool) (w : World) (hr0 : Kd.C k43 w A0 l0.length l0) (hc0 : l0.length ≤ c0) (hr1 : Kd.C k43 w A1 l1.length l1) (hc1 : l1.length ≤ c1) (h : lombardref10_Lots.f k l0 l1 = some r) :
 Calls Try.prog 13 #[.slice A0 l0.length c0, .slice A1 l1.length c1] w fun e w' => e = .returned (.bool r) ∧ Drawn0 w w' := by
 have hu43 := Try.underlying43
 have HR0 := Aside0.mk hr0; have HC0 := Aside0.mk hc0; clear hr0 hc0; have HR1 := Aside0.mk hr1; have HC1 := Aside0.mk hc1; clear hr1 hc1
 have H : (if (l0.length : Int) = (l1.length : Int) then (lombardref10_Lots.l0 k l0 l1 0) else (some false)) = some r := h
 clear h
 by_cases c3 : (l0.length : Int) = (l1.length : Int)
 · rw [if_pos c3] at H
   have c3b0 : ((l0.length : Int) == (l1.length : Int)) = true := beq_iff_eq.mpr c3
   have c3b1 : ((l0.length : Int) != (l1.length : Int)) = false := bne_eq_false_iff_eq.mpr c3
   have c3b2 : (l0.length == l1.length) = true := by first | simpa using c3 | (simp at c3 ⊢; omega)
   clear c3
   have H' := Aside0.mk H
   clear H
   go_enter Try.func13, Try.ntmps13
   go_wp2
   repeat (go_quiet (fail); try go_wp2)
   go_loopg [5] k (fun kq v5 w' => ∃ (x5_1 : Int), v5 = .int .i64 x5_1 ∧ Aside0 (lombardref10_Lots.l0 kq l0 l1 x5_1 = some r) ∧ Aside0 (kq ≤ k) ∧ Drawn0 w w')
   case atStart => exact ⟨(0), ac, H', ⟨Nat.le_refl _⟩, by repeat (first | exact Drawn0.refl _ | apply Drawn0.step)⟩
   case round =>
    clear H'; (try clear c1); (try clear p2); (try clear c3); (try clear c3b0); (try clear c3b1); (try clear c3b2)
    obtain ⟨x5_1, rfl, HA, HK1, ⟨m1, rfl⟩⟩ := hrel
    cases gk with
    | zero => exact absurd HA.out (by simp [lombardref10_Lots.l0])
    | succ k1 =>
     have H := HA.out
     clear HA
     simp only [lombardref10_Lots.l0] at H
     by_cases c4 : x5_1 < (l0.length : Int)
     · rw [if_pos c4] at H
       have c4b0 : decide (x5_1 < (l0.length : Int)) = true := decide_eq_true c4
       clear c4
       by_cases c5 : 0 ≤ x5_1
       · rw [if_pos c5] at H
         have c5b0 : decide (0 ≤ x5_1) = true := decide_eq_true c5
         clear c5
         by_cases c6 : x5_1 < (l1.length : Int)
         · rw [if_pos c6] at H
           have c6b0 : decide (x5_1 < (l1.length : Int)) = true := decide_eq_true c6
           clear c6
           by_cases c7 : (!((((rd_T43 l0 x5_1).f0).toList) == (((rd_T43 l1 x5_1).f0).toList)) || (!(((rd_T43 l0 x5_1).f1) == ((rd_T43 l1 x5_1).f1)))) = true
           · rw [if_pos c7] at H
             have c7b0 : (!((((rd_T43 l0 x5_1).f0).toList) == (((rd_T43 l1 x5_1).f0).toList)) || (!(((rd_T43 l0 x5_1).f1) == ((rd_T43 l1 x5_1).f1)))) = true := c7
             clear c7
             obtain rfl := Option.some.inj H
             have p166 : 0 ≤ (x5_1 : Int) := od
             have q166 : x5_1 < (l0.length : Int) := od
             obtain ⟨ad166, e166, hx166_0, hx166_1⟩ := at_T43 HR0.out x5_1 p166 q166
             cases e166; replace p166 := eq_true p166; replace q166 := eq_true q166
             have p167 : 0 ≤ (x5_1 : Int) := od
             have q167 : x5_1 < (l1.length : Int) := od
             obtain ⟨ad167, e167, hx167_0, hx167_1⟩ := at_T43 HR1.out x5_1 p167 q167
             cases e167; replace p167 := eq_true p167; replace q167 := eq_true q167
             go_wp2
             repeat (go_quiet (fail); try go_wp2)
             go_ret
             exact ⟨by first | rfl | (simp; done) | (simp [*]; done), by repeat (first | exact Drawn0.refl _ | apply Drawn0.step)⟩
           · rw [if_neg c7] at H
             have c7b0 : (!((((rd_T43 l0 x5_1).f0).toList) == (((rd_T43 l1 x5_1).f0).toList)) || (!(((rd_T43 l0 x5_1).f1) == ((rd_T43 l1 x5_1).f1)))) = false := by simpa using c7
             clear c7
             have H' := Aside0.mk H
             clear H
             have p166 : 0 ≤ (x5_1 : Int) := od
             have q166 : x5_1 < (l0.length : Int) := od
             obtain ⟨ad166, e166, hx166_0, hx166_1⟩ := at_T43 HR0.out x5_1 p166 q166
             cases e166; replace p166 := eq_true p166; replace q166 := eq_true q166
             have p167 : 0 ≤ (x5_1 : Int) := od
             have q167 : x5_1 < (l1.length : Int) := od
             obtain ⟨ad167, e167, hx167_0, hx167_1⟩ := at_T43 HR1.out x5_1 p167 q167
             cases e167; replace p167 := eq_true p167; replace q167 := eq_true q167
             go_wp2
             repeat (go_quiet (fail); try go_wp2)
             go_roundg k1
             case measure => have := HK1.out; omega
             case rel => exact ⟨(wrap64 (x5_1 + 1)), ac, H', ⟨by have := HK1.out; omega⟩, by repeat (first | exact Drawn0.refl _ | apply Drawn0.step)⟩
         · rw [if_neg c6] at H
           exact absurd H (by simp)
       · rw [if_neg c5] at H
         exact absurd H (by simp)
     · rw [if_neg c4] at H
       have c4b0 : decide (x5_1 < (l0.length : Int)) = false := decide_eq_false c4
       clear c4
       obtain rfl := Option.some.inj H
       go_wp2
       repeat (go_quiet (fail); try go_wp2)
       go_ret
       exact ⟨by first | rfl | (simp; done) | (simp [*]; done), by repeat (first | exact Drawn0.refl _ | apply Drawn0.step)⟩
 · rw [if_neg c3] at H
   have c3b0 : ((l0.length : Int) == (l1.length : Int)) = false := beq_eq_false_iff_ne.mpr c3
   have c3b1 : ((l0.length : Int) != (l1.length : Int)) = true := bne_iff_ne.mpr c3
   have c3b2 : (l0.length == l1.length) = false := by first | simpa using c3 | (simp at c3 ⊢; omega)
   obtain rfl := Option.some.inj H
   go_enter Try.func13, Try.ntmps13
   go_wp2
   repeat (go_quiet (fail); try go_wp2)
   go_ret
   exact ⟨by first | rfl | (simp; done) | (simp [*]; done), by repeat (first | exact Drawn0.refl _ | apply Drawn0.step)⟩
def lombardlaw17_awake.f (k : Nat)  : Option (Bool) := (lots_Plus.f k (([(⟨(⟨#[65]⟩ : ByteArray), 5⟩ : S43), (⟨(⟨#[66]⟩ : ByteArray), 2⟩ : S43)] : List (S43))) (([(⟨(⟨#[65]⟩ : ByteArray), 1⟩ : S43), (⟨(⟨#[67]⟩ : ByteArray), 4⟩ : S43)] : List (S43)))).bind fun bt174 => ((lots_Minus.f k bt174.1 (([(⟨(⟨#[66]⟩ : ByteArray), 2⟩ : S43)] : List (S43)))).bind fun bt181 => (if bt174.2 = 0 then (if bt181.2 = bt174.2 then ((lombardref10_Lots.f k bt174.1 (([(⟨(⟨#[65]⟩ : ByteArray), 6⟩ : S43), (⟨(⟨#[66]⟩ : ByteArray), 2⟩ : S43), (⟨(⟨#[67]⟩ : ByteArray), 4⟩ : S43)] : List (S43)))).bind fun t188 => (if t188 = true then ((lombardref10_Lots.f k bt181.1 (([(⟨(⟨#[65]⟩ : ByteArray), 6⟩ : S43), (⟨(⟨#[67]⟩ : ByteArray), 4⟩ : S43)] : List (S43)))).bind fun t192 => (some t192)) else (some false))) else (some false)) else (some false)))
theorem lombardlaw17_awake.mono : ∀ k, LeO (lombardlaw17_awake.f k ) (lombardlaw17_awake.f (k + 1) ) := by
 intro  k
 unfold lombardlaw17_awake.f
 repeat' first
  | (with_reducible exact lombardref10_Lots.mono _ _ _)
  | (with_reducible exact lots_Minus.mono _ _ _)
  | (with_reducible exact lots_Plus.mono _ _ _)
  | (with_reducible exact LeO.refl _)
  | (with_reducible exact LeO.none _)
  | (with_reducible refine LeO.ite ?_ ?_)
  | (with_reducible refine LeO.bind ?_ (fun _ => ?_))
  | exact lombardref10_Lots.mono _ _ _
  | exact lots_Minus.mono _ _ _
  | exact lots_Plus.mono _ _ _
  | exact LeO.none _
  | refine LeO.ite ?_ ?_
  | refine LeO.bind ?_ (fun _ => ?_)
set_option maxHeartbeats 8000000 in
set_option maxRecDepth 100000 in
theorem lombardlaw17_awake.calls (k : Nat)  (r : Bool) (w : World) (h : lombardlaw17_awake.f k  = some r) (htr_ : r = true) :
 Calls Try.prog 8 #[] w fun e w' => e = .returned (.bool r) ∧ Below w.heap.size w w' := by
 have hu43 := Try.underlying43
 have HB := Aside0.mk (Below.refl w.heap.size w)
 have H : ((lots_Plus.f k (([(⟨(⟨#[65]⟩ : ByteArray), 5⟩ : S43), (⟨(⟨#[66]⟩ : ByteArray), 2⟩ : S43)] : List (S43))) (([(⟨(⟨#[65]⟩ : ByteArray), 1⟩ : S43), (⟨(⟨#[67]⟩ : ByteArray), 4⟩ : S43)] : List (S43)))).bind fun bt174 => ((lots_Minus.f k bt174.1 (([(⟨(⟨#[66]⟩ : ByteArray), 2⟩ : S43)] : List (S43)))).bind fun bt181 => (if bt174.2 = 0 then (if bt181.2 = bt174.2 then ((lombardref10_Lots.f k bt174.1 (([(⟨(⟨#[65]⟩ : ByteArray), 6⟩ : S43), (⟨(⟨#[66]⟩ : ByteArray), 2⟩ : S43), (⟨(⟨#[67]⟩ : ByteArray), 4⟩ : S43)] : List (S43)))).bind fun t188 => (if t188 = true then ((lombardref10_Lots.f k bt181.1 (([(⟨(⟨#[65]⟩ : ByteArray), 6⟩ : S43), (⟨(⟨#[67]⟩ : ByteArray), 4⟩ : S43)] : List (S43)))).bind fun t192 => (some t192)) else (some false))) else (some false)) else (some false)))) = some r := h
 clear h
 obtain ⟨y168, hy168⟩ : ∃ y_ : List (S43), y_ = (([(⟨(⟨#[65]⟩ : ByteArray), 5⟩ : S43), (⟨(⟨#[66]⟩ : ByteArray), 2⟩ : S43)] : List (S43))) := ⟨_, rfl⟩
 replace H : ((lots_Plus.f k y168 (([(⟨(⟨#[65]⟩ : ByteArray), 1⟩ : S43), (⟨(⟨#[67]⟩ : ByteArray), 4⟩ : S43)] : List (S43)))).bind fun bt174 => ((lots_Minus.f k bt174.1 (([(⟨(⟨#[66]⟩ : ByteArray), 2⟩ : S43)] : List (S43)))).bind fun bt181 => (if bt174.2 = 0 then (if bt181.2 = bt174.2 then ((lombardref10_Lots.f k bt174.1 (([(⟨(⟨#[65]⟩ : ByteArray), 6⟩ : S43), (⟨(⟨#[66]⟩ : ByteArray), 2⟩ : S43), (⟨(⟨#[67]⟩ : ByteArray), 4⟩ : S43)] : List (S43)))).bind fun t188 => (if t188 = true then ((lombardref10_Lots.f k bt181.1 (([(⟨(⟨#[65]⟩ : ByteArray), 6⟩ : S43), (⟨(⟨#[67]⟩ : ByteArray), 4⟩ : S43)] : List (S43)))).bind fun t192 => (some t192)) else (some false))) else (some false)) else (some false)))) = some r := by first | (rw [hy168]; with_reducible exact H) | (have H2_ := (Option.bind_some _ _).symm.trans H; rw [hy168]; with_reducible exact H2_) | (have H2_ := (Option.bind_some _ _).symm.trans H; with_reducible exact H2_) | with_reducible exact H | (rw [hy168]; exact H) | exact H
 have Ny168 := Aside0.mk hy168; clear hy168
 obtain ⟨y171, hy171⟩ : ∃ y_ : List (S43), y_ = (([(⟨(⟨#[65]⟩ : ByteArray), 1⟩ : S43), (⟨(⟨#[67]⟩ : ByteArray), 4⟩ : S43)] : List (S43))) := ⟨_, rfl⟩
 replace H : ((lots_Plus.f k y168 y171).bind fun bt174 => ((lots_Minus.f k bt174.1 (([(⟨(⟨#[66]⟩ : ByteArray), 2⟩ : S43)] : List (S43)))).bind fun bt181 => (if bt174.2 = 0 then (if bt181.2 = bt174.2 then ((lombardref10_Lots.f k bt174.1 (([(⟨(⟨#[65]⟩ : ByteArray), 6⟩ : S43), (⟨(⟨#[66]⟩ : ByteArray), 2⟩ : S43), (⟨(⟨#[67]⟩ : ByteArray), 4⟩ : S43)] : List (S43)))).bind fun t188 => (if t188 = true then ((lombardref10_Lots.f k bt181.1 (([(⟨(⟨#[65]⟩ : ByteArray), 6⟩ : S43), (⟨(⟨#[67]⟩ : ByteArray), 4⟩ : S43)] : List (S43)))).bind fun t192 => (some t192)) else (some false))) else (some false)) else (some false)))) = some r := by first | (rw [hy171]; with_reducible exact H) | (have H2_ := (Option.bind_some _ _).symm.trans H; rw [hy171]; with_reducible exact H2_) | (have H2_ := (Option.bind_some _ _).symm.trans H; with_reducible exact H2_) | with_reducible exact H | (rw [hy171]; exact H) | exact H
 have Ny171 := Aside0.mk hy171; clear hy171
 replace H := Option.bind_eq_some_iff.mp H
 obtain ⟨⟨t174, t175⟩, A10, H⟩ := H
 replace H : ((lots_Minus.f k t174 (([(⟨(⟨#[66]⟩ : ByteArray), 2⟩ : S43)] : List (S43)))).bind fun bt181 => (if t175 = 0 then (if bt181.2 = t175 then ((lombardref10_Lots.f k t174 (([(⟨(⟨#[65]⟩ : ByteArray), 6⟩ : S43), (⟨(⟨#[66]⟩ : ByteArray), 2⟩ : S43), (⟨(⟨#[67]⟩ : ByteArray), 4⟩ : S43)] : List (S43)))).bind fun t188 => (if t188 = true then ((lombardref10_Lots.f k bt181.1 (([(⟨(⟨#[65]⟩ : ByteArray), 6⟩ : S43), (⟨(⟨#[67]⟩ : ByteArray), 4⟩ : S43)] : List (S43)))).bind fun t192 => (some t192)) else (some false))) else (some false)) else (some false))) = some r := H
 have A1 := Aside0.mk A10; clear A10
 obtain ⟨y178, hy178⟩ : ∃ y_ : List (S43), y_ = (([(⟨(⟨#[66]⟩ : ByteArray), 2⟩ : S43)] : List (S43))) := ⟨_, rfl⟩
 replace H : ((lots_Minus.f k t174 y178).bind fun bt181 => (if t175 = 0 then (if bt181.2 = t175 then ((lombardref10_Lots.f k t174 (([(⟨(⟨#[65]⟩ : ByteArray), 6⟩ : S43), (⟨(⟨#[66]⟩ : ByteArray), 2⟩ : S43), (⟨(⟨#[67]⟩ : ByteArray), 4⟩ : S43)] : List (S43)))).bind fun t188 => (if t188 = true then ((lombardref10_Lots.f k bt181.1 (([(⟨(⟨#[65]⟩ : ByteArray), 6⟩ : S43), (⟨(⟨#[67]⟩ : ByteArray), 4⟩ : S43)] : List (S43)))).bind fun t192 => (some t192)) else (some false))) else (some false)) else (some false))) = some r := by first | (rw [hy178]; with_reducible exact H) | (have H2_ := (Option.bind_some _ _).symm.trans H; rw [hy178]; with_reducible exact H2_) | (have H2_ := (Option.bind_some _ _).symm.trans H; with_reducible exact H2_) | with_reducible exact H | (rw [hy178]; exact H) | exact H
 have Ny178 := Aside0.mk hy178; clear hy178
 replace H := Option.bind_eq_some_iff.mp H
 obtain ⟨⟨t181, t182⟩, A20, H⟩ := H
 replace H : (if t175 = 0 then (if t182 = t175 then ((lombardref10_Lots.f k t174 (([(⟨(⟨#[65]⟩ : ByteArray), 6⟩ : S43), (⟨(⟨#[66]⟩ : ByteArray), 2⟩ : S43), (⟨(⟨#[67]⟩ : ByteArray), 4⟩ : S43)] : List (S43)))).bind fun t188 => (if t188 = true then ((lombardref10_Lots.f k t181 (([(⟨(⟨#[65]⟩ : ByteArray), 6⟩ : S43), (⟨(⟨#[67]⟩ : ByteArray), 4⟩ : S43)] : List (S43)))).bind fun t192 => (some t192)) else (some false))) else (some false)) else (some false)) = some r := H
 have A2 := Aside0.mk A20; clear A20
 by_cases c3 : t175 = 0
 · rw [if_pos c3] at H
   have c3b0 : (t175 == 0) = true := beq_iff_eq.mpr c3
   have c3b1 : (t175 != 0) = false := bne_eq_false_iff_eq.mpr c3
   clear c3
   by_cases c4 : t182 = t175
   · rw [if_pos c4] at H
     have c4b0 : (t182 == t175) = true := beq_iff_eq.mpr c4
     have c4b1 : (t182 != t175) = false := bne_eq_false_iff_eq.mpr c4
     clear c4
     obtain ⟨y185, hy185⟩ : ∃ y_ : List (S43), y_ = (([(⟨(⟨#[65]⟩ : ByteArray), 6⟩ : S43), (⟨(⟨#[66]⟩ : ByteArray), 2⟩ : S43), (⟨(⟨#[67]⟩ : ByteArray), 4⟩ : S43)] : List (S43))) := ⟨_, rfl⟩
     replace H : ((lombardref10_Lots.f k t174 y185).bind fun t188 => (if t188 = true then ((lombardref10_Lots.f k t181 (([(⟨(⟨#[65]⟩ : ByteArray), 6⟩ : S43), (⟨(⟨#[67]⟩ : ByteArray), 4⟩ : S43)] : List (S43)))).bind fun t192 => (some t192)) else (some false))) = some r := by first | (rw [hy185]; with_reducible exact H) | (have H2_ := (Option.bind_some _ _).symm.trans H; rw [hy185]; with_reducible exact H2_) | (have H2_ := (Option.bind_some _ _).symm.trans H; with_reducible exact H2_) | with_reducible exact H | (rw [hy185]; exact H) | exact H
     have Ny185 := Aside0.mk hy185; clear hy185
     replace H := Option.bind_eq_some_iff.mp H
     obtain ⟨t188, A50, H⟩ := H
     replace H : (if t188 = true then ((lombardref10_Lots.f k t181 (([(⟨(⟨#[65]⟩ : ByteArray), 6⟩ : S43), (⟨(⟨#[67]⟩ : ByteArray), 4⟩ : S43)] : List (S43)))).bind fun t192 => (some t192)) else (some false)) = some r := H
     have A5 := Aside0.mk A50; clear A50
     by_cases c6 : t188 = true
     · subst c6
       have H1 : ((lombardref10_Lots.f k t181 (([(⟨(⟨#[65]⟩ : ByteArray), 6⟩ : S43), (⟨(⟨#[67]⟩ : ByteArray), 4⟩ : S43)] : List (S43)))).bind fun t192 => (some t192)) = some r := by rw [if_pos rfl] at H; exact H
       clear H
       have H := H1
       clear H1
       obtain ⟨y189, hy189⟩ : ∃ y_ : List (S43), y_ = (([(⟨(⟨#[65]⟩ : ByteArray), 6⟩ : S43), (⟨(⟨#[67]⟩ : ByteArray), 4⟩ : S43)] : List (S43))) := ⟨_, rfl⟩
       replace H : ((lombardref10_Lots.f k t181 y189).bind fun t192 => (some t192)) = some r := by first | (rw [hy189]; with_reducible exact H) | (have H2_ := (Option.bind_some _ _).symm.trans H; rw [hy189]; with_reducible exact H2_) | (have H2_ := (Option.bind_some _ _).symm.trans H; with_reducible exact H2_) | with_reducible exact H | (rw [hy189]; exact H) | exact H
       have Ny189 := Aside0.mk hy189; clear hy189
       replace H := Option.bind_eq_some_iff.mp H
       obtain ⟨t192, A70, H⟩ := H
       replace H : (some t192) = some r := H
       have A7 := Aside0.mk A70; clear A70
       obtain rfl := Option.some.inj H
       go_enter Try.func8, Try.ntmps8
       go_wp2_with (first | ((with_reducible refine gate_dst (N := 8) rfl ?_); (try (refine gate_guard (by rfl) ?_; dsimp only)); refine Kd.R_lit k43 _ 43 ?hg (N := 8) ?hd (xs := ([(⟨(⟨#[65]⟩ : ByteArray), 5⟩ : S43), (⟨(⟨#[66]⟩ : ByteArray), 2⟩ : S43)] : List (S43))) (inner := [.string (⟨#[65]⟩ : ByteArray), .int .i64 5, .string (⟨#[66]⟩ : ByteArray), .int .i64 2]) (ok := fun _ => True) (okp := fun _ => True) ?hr ?hp (fun _ hk => hk) trivial (Below.refl _ _) (Nat.le_refl _) (by simp) ?_; (case hd => rfl); (case hg => rfl); (case hr => first | (go_simp; done) | (go_simp; rfl) | (have hcq := hcq_.out; have hfq := hfq_.out; go_simp; done)); (case hp => exact (Reps.c2 (show Kd.M k43 _ _ _ (⟨(⟨#[65]⟩ : ByteArray), 5⟩ : S43) [.string (⟨#[65]⟩ : ByteArray), .int .i64 5] from (k43_mkM _ _ _ (⟨(⟨#[65]⟩ : ByteArray), 5⟩ : S43) )) (Reps.c2 (show Kd.M k43 _ _ _ (⟨(⟨#[66]⟩ : ByteArray), 2⟩ : S43) [.string (⟨#[66]⟩ : ByteArray), .int .i64 2] from (k43_mkM _ _ _ (⟨(⟨#[66]⟩ : ByteArray), 2⟩ : S43) )) (Reps.none _ _)))); intro v169 w8 ho9 hb hg_ hnew_; clear hg_ hnew_; (first | rw [← Ny168.out] at ho9 | (simp only [Int.reduceToNat] at ho9; rw [← Ny168.out] at ho9)); have n0_ := Aside0.mk (Kd.R_lower ho9 (below_size (gB HB))); have n1_ := Aside0.mk (below_step (gB HB) hb); clear HB; have HO170 := n0_; have HB := n1_; clear n0_ n1_; clear hb ho9) | ((with_reducible refine gate_dst (N := 11) rfl ?_); (try (refine gate_guard (by rfl) ?_; dsimp only)); refine Kd.R_lit k43 _ 43 ?hg (N := 11) ?hd (xs := ([(⟨(⟨#[65]⟩ : ByteArray), 1⟩ : S43), (⟨(⟨#[67]⟩ : ByteArray), 4⟩ : S43)] : List (S43))) (inner := [.string (⟨#[65]⟩ : ByteArray), .int .i64 1, .string (⟨#[67]⟩ : ByteArray), .int .i64 4]) (ok := fun _ => True) (okp := fun _ => True) ?hr ?hp (fun _ hk => hk) trivial (Below.refl _ _) (Nat.le_refl _) (by simp) ?_; (case hd => rfl); (case hg => rfl); (case hr => first | (go_simp; done) | (go_simp; rfl) | (have hcq := hcq_.out; have hfq := hfq_.out; go_simp; done)); (case hp => exact (Reps.c2 (show Kd.M k43 _ _ _ (⟨(⟨#[65]⟩ : ByteArray), 1⟩ : S43) [.string (⟨#[65]⟩ : ByteArray), .int .i64 1] from (k43_mkM _ _ _ (⟨(⟨#[65]⟩ : ByteArray), 1⟩ : S43) )) (Reps.c2 (show Kd.M k43 _ _ _ (⟨(⟨#[67]⟩ : ByteArray), 4⟩ : S43) [.string (⟨#[67]⟩ : ByteArray), .int .i64 4] from (k43_mkM _ _ _ (⟨(⟨#[67]⟩ : ByteArray), 4⟩ : S43) )) (Reps.none _ _)))); intro v172 w10 ho11 hb hg_ hnew_; clear hg_ hnew_; (first | rw [← Ny171.out] at ho11 | (simp only [Int.reduceToNat] at ho11; rw [← Ny171.out] at ho11)); have n0_ := Aside0.mk (Kd.R_elder' (gR HO170) (Kd.R_base ho11) hb); have n1_ := Aside0.mk (Kd.R_lower (Kd.R_new' ho11 (Kd.R_lt (gR HO170))) (below_size (gB HB))); have n2_ := Aside0.mk (below_step (gB HB) hb); clear HO170; clear HB; have HO170 := n0_; have HO173 := n1_; have HB := n2_; clear n0_ n1_ n2_; clear hb ho11; obtain ⟨Ao12, co12, eo12⟩ := Kd.R_slice HO170.out; subst eo12; obtain ⟨Ao13, co13, eo13⟩ := Kd.R_slice HO173.out; subst eo13) | ((with_reducible refine gate_callee (f := 9) rfl ?_); refine goesL_ (some 12) rfl rfl Try.func9 (by kernel_rfl) rfl #[.slice Ao12 y168.length co12, .slice Ao13 y171.length co13] rfl am ?_; (with_reducible refine (lots_Plus.calls k _ _ y168 _ _ y171 t174 t175 _ ?side1 ?side2 ?side3 ?side4 A1.out).mono ?_); (case side1 => repeat (first | exact (Kd.R_reads' HO170.out).2.2 | (with_reducible refine Kd.C_alloc ?_ _) | (with_reducible refine Kd.C_drewN ?_ _) | (with_reducible refine Kd.C_drew ?_))); (case side2 => exact (Kd.R_reads' HO170.out).2.1); (case side3 => repeat (first | exact (Kd.R_reads' HO173.out).2.2 | (with_reducible refine Kd.C_alloc ?_ _) | (with_reducible refine Kd.C_drewN ?_ _) | (with_reducible refine Kd.C_drew ?_))); (case side4 => exact (Kd.R_reads' HO173.out).2.1); rintro e w14 ⟨v176, rfl, ho0, hb⟩; refine ⟨_, rfl, ?_⟩; have n0_ := Aside0.mk (Kd.R_elder' (gR HO170) (Kd.R_base ho0) hb); have n1_ := Aside0.mk (Kd.R_elder' (gR HO173) (Kd.R_base ho0) hb); have n2_ := Aside0.mk (Kd.R_lower (Kd.R_new' (Kd.R_new' ho0 (Kd.R_lt (gR HO170))) (Kd.R_lt (gR HO173))) (below_size (gB HB))); have n3_ := Aside0.mk (below_step (gB HB) hb); clear HO170; clear HO173; clear HB; have HO170 := n0_; have HO173 := n1_; have HO177 := n2_; have HB := n3_; clear n0_ n1_ n2_ n3_; (try clear hb); (try clear hb2); (try clear hk); (try clear hi); (try clear ho0)) | ((with_reducible refine gate_dst (N := 18) rfl ?_); (try (refine gate_guard (by rfl) ?_; dsimp only)); refine Kd.R_lit k43 _ 43 ?hg (N := 18) ?hd (xs := ([(⟨(⟨#[66]⟩ : ByteArray), 2⟩ : S43)] : List (S43))) (inner := [.string (⟨#[66]⟩ : ByteArray), .int .i64 2]) (ok := fun _ => True) (okp := fun _ => True) ?hr ?hp (fun _ hk => hk) trivial (Below.refl _ _) (Nat.le_refl _) (by simp) ?_; (case hd => rfl); (case hg => rfl); (case hr => first | (go_simp; done) | (go_simp; rfl) | (have hcq := hcq_.out; have hfq := hfq_.out; go_simp; done)); (case hp => exact (Reps.c2 (show Kd.M k43 _ _ _ (⟨(⟨#[66]⟩ : ByteArray), 2⟩ : S43) [.string (⟨#[66]⟩ : ByteArray), .int .i64 2] from (k43_mkM _ _ _ (⟨(⟨#[66]⟩ : ByteArray), 2⟩ : S43) )) (Reps.none _ _))); intro v179 w15 ho16 hb hg_ hnew_; clear hg_ hnew_; (first | rw [← Ny178.out] at ho16 | (simp only [Int.reduceToNat] at ho16; rw [← Ny178.out] at ho16)); have n0_ := Aside0.mk (Kd.R_elder' (gR HO170) (Kd.R_base ho16) hb); have n1_ := Aside0.mk (Kd.R_elder' (gR HO173) (Kd.R_base ho16) hb); have n2_ := Aside0.mk (Kd.R_elder' (gR HO177) (Kd.R_base ho16) hb); have n3_ := Aside0.mk (Kd.R_lower (Kd.R_new' (Kd.R_new' (Kd.R_new' ho16 (Kd.R_lt (gR HO170))) (Kd.R_lt (gR HO173))) (Kd.R_lt (gR HO177))) (below_size (gB HB))); have n4_ := Aside0.mk (below_step (gB HB) hb); clear HO170; clear HO173; clear HO177; clear HB; have HO170 := n0_; have HO173 := n1_; have HO177 := n2_; have HO180 := n3_; have HB := n4_; clear n0_ n1_ n2_ n3_ n4_; clear hb ho16; obtain ⟨Ao17, co17, eo17⟩ := Kd.R_slice HO177.out; subst eo17; obtain ⟨Ao18, co18, eo18⟩ := Kd.R_slice HO180.out; subst eo18) | ((with_reducible refine gate_callee (f := 11) rfl ?_); refine goesL_ (some 19) rfl rfl Try.func11 (by kernel_rfl) rfl #[.slice Ao17 t174.length co17, .slice Ao18 y178.length co18] rfl am ?_; (with_reducible refine (lots_Minus.calls k _ _ t174 _ _ y178 t181 t182 _ ?side1 ?side2 ?side3 ?side4 A2.out).mono ?_); (case side1 => repeat (first | exact (Kd.R_reads' HO177.out).2.2 | (with_reducible refine Kd.C_alloc ?_ _) | (with_reducible refine Kd.C_drewN ?_ _) | (with_reducible refine Kd.C_drew ?_))); (case side2 => exact (Kd.R_reads' HO177.out).2.1); (case side3 => repeat (first | exact (Kd.R_reads' HO180.out).2.2 | (with_reducible refine Kd.C_alloc ?_ _) | (with_reducible refine Kd.C_drewN ?_ _) | (with_reducible refine Kd.C_drew ?_))); (case side4 => exact (Kd.R_reads' HO180.out).2.1); rintro e w19 ⟨v183, rfl, ho0, hb⟩; refine ⟨_, rfl, ?_⟩; have n0_ := Aside0.mk (Kd.R_elder' (gR HO170) (Kd.R_base ho0) hb); have n1_ := Aside0.mk (Kd.R_elder' (gR HO173) (Kd.R_base ho0) hb); have n2_ := Aside0.mk (Kd.R_elder' (gR HO177) (Kd.R_base ho0) hb); have n3_ := Aside0.mk (Kd.R_elder' (gR HO180) (Kd.R_base ho0) hb); have n4_ := Aside0.mk (Kd.R_lower (Kd.R_new' (Kd.R_new' (Kd.R_new' (Kd.R_new' ho0 (Kd.R_lt (gR HO170))) (Kd.R_lt (gR HO173))) (Kd.R_lt (gR HO177))) (Kd.R_lt (gR HO180))) (below_size (gB HB))); have n5_ := Aside0.mk (below_step (gB HB) hb); clear HO170; clear HO173; clear HO177; clear HO180; clear HB; have HO170 := n0_; have HO173 := n1_; have HO177 := n2_; have HO180 := n3_; have HO184 := n4_; have HB := n5_; clear n0_ n1_ n2_ n3_ n4_ n5_; (try clear hb); (try clear hb2); (try clear hk); (try clear hi); (try clear ho0)) | ((with_reducible refine gate_dst (N := 34) rfl ?_); (try (refine gate_guard (by rfl) ?_; dsimp only)); refine Kd.R_lit k43 _ 43 ?hg (N := 34) ?hd (xs := ([(⟨(⟨#[65]⟩ : ByteArray), 6⟩ : S43), (⟨(⟨#[66]⟩ : ByteArray), 2⟩ : S43), (⟨(⟨#[67]⟩ : ByteArray), 4⟩ : S43)] : List (S43))) (inner := [.string (⟨#[65]⟩ : ByteArray), .int .i64 6, .string (⟨#[66]⟩ : ByteArray), .int .i64 2, .string (⟨#[67]⟩ : ByteArray), .int .i64 4]) (ok := fun _ => True) (okp := fun _ => True) ?hr ?hp (fun _ hk => hk) trivial (Below.refl _ _) (Nat.le_refl _) (by simp) ?_; (case hd => rfl); (case hg => rfl); (case hr => first | (go_simp; done) | (go_simp; rfl) | (have hcq := hcq_.out; have hfq := hfq_.out; go_simp; done)); (case hp => exact (Reps.c2 (show Kd.M k43 _ _ _ (⟨(⟨#[65]⟩ : ByteArray), 6⟩ : S43) [.string (⟨#[65]⟩ : ByteArray), .int .i64 6] from (k43_mkM _ _ _ (⟨(⟨#[65]⟩ : ByteArray), 6⟩ : S43) )) (Reps.c2 (show Kd.M k43 _ _ _ (⟨(⟨#[66]⟩ : ByteArray), 2⟩ : S43) [.string (⟨#[66]⟩ : ByteArray), .int .i64 2] from (k43_mkM _ _ _ (⟨(⟨#[66]⟩ : ByteArray), 2⟩ : S43) )) (Reps.c2 (show Kd.M k43 _ _ _ (⟨(⟨#[67]⟩ : ByteArray), 4⟩ : S43) [.string (⟨#[67]⟩ : ByteArray), .int .i64 4] from (k43_mkM _ _ _ (⟨(⟨#[67]⟩ : ByteArray), 4⟩ : S43) )) (Reps.none _ _))))); intro v186 w20 ho21 hb hg_ hnew_; clear hg_ hnew_; (first | rw [← Ny185.out] at ho21 | (simp only [Int.reduceToNat] at ho21; rw [← Ny185.out] at ho21)); have n0_ := Aside0.mk (Kd.R_elder' (gR HO170) (Kd.R_base ho21) hb); have n1_ := Aside0.mk (Kd.R_elder' (gR HO173) (Kd.R_base ho21) hb); have n2_ := Aside0.mk (Kd.R_elder' (gR HO177) (Kd.R_base ho21) hb); have n3_ := Aside0.mk (Kd.R_elder' (gR HO180) (Kd.R_base ho21) hb); have n4_ := Aside0.mk (Kd.R_elder' (gR HO184) (Kd.R_base ho21) hb); have n5_ := Aside0.mk (Kd.R_lower (Kd.R_new' (Kd.R_new' (Kd.R_new' (Kd.R_new' (Kd.R_new' ho21 (Kd.R_lt (gR HO170))) (Kd.R_lt (gR HO173))) (Kd.R_lt (gR HO177))) (Kd.R_lt (gR HO180))) (Kd.R_lt (gR HO184))) (below_size (gB HB))); have n6_ := Aside0.mk (below_step (gB HB) hb); clear HO170; clear HO173; clear HO177; clear HO180; clear HO184; clear HB; have HO170 := n0_; have HO173 := n1_; have HO177 := n2_; have HO180 := n3_; have HO184 := n4_; have HO187 := n5_; have HB := n6_; clear n0_ n1_ n2_ n3_ n4_ n5_ n6_; clear hb ho21; obtain ⟨Ao22, co22, eo22⟩ := Kd.R_slice HO187.out; subst eo22) | (go_at_call 13; (with_reducible refine (lombardref10_Lots.calls k _ _ t174 _ _ y185 true _ ?side1 ?side2 ?side3 ?side4 A5.out).mono ?_); (case side1 => repeat (first | exact (Kd.R_reads' HO177.out).2.2 | (with_reducible refine Kd.C_alloc ?_ _) | (with_reducible refine Kd.C_drewN ?_ _) | (with_reducible refine Kd.C_drew ?_))); (case side2 => exact (Kd.R_reads' HO177.out).2.1); (case side3 => repeat (first | exact (Kd.R_reads' HO187.out).2.2 | (with_reducible refine Kd.C_alloc ?_ _) | (with_reducible refine Kd.C_drewN ?_ _) | (with_reducible refine Kd.C_drew ?_))); (case side4 => exact (Kd.R_reads' HO187.out).2.1); rintro e w' ⟨rfl, ⟨nd, rfl⟩⟩) | ((with_reducible refine gate_dst (N := 41) rfl ?_); (try (refine gate_guard (by rfl) ?_; dsimp only)); refine Kd.R_lit k43 _ 43 ?hg (N := 41) ?hd (xs := ([(⟨(⟨#[65]⟩ : ByteArray), 6⟩ : S43), (⟨(⟨#[67]⟩ : ByteArray), 4⟩ : S43)] : List (S43))) (inner := [.string (⟨#[65]⟩ : ByteArray), .int .i64 6, .string (⟨#[67]⟩ : ByteArray), .int .i64 4]) (ok := fun _ => True) (okp := fun _ => True) ?hr ?hp (fun _ hk => hk) trivial (Below.refl _ _) (Nat.le_refl _) (by simp) ?_; (case hd => rfl); (case hg => rfl); (case hr => first | (go_simp; done) | (go_simp; rfl) | (have hcq := hcq_.out; have hfq := hfq_.out; go_simp; done)); (case hp => exact (Reps.c2 (show Kd.M k43 _ _ _ (⟨(⟨#[65]⟩ : ByteArray), 6⟩ : S43) [.string (⟨#[65]⟩ : ByteArray), .int .i64 6] from (k43_mkM _ _ _ (⟨(⟨#[65]⟩ : ByteArray), 6⟩ : S43) )) (Reps.c2 (show Kd.M k43 _ _ _ (⟨(⟨#[67]⟩ : ByteArray), 4⟩ : S43) [.string (⟨#[67]⟩ : ByteArray), .int .i64 4] from (k43_mkM _ _ _ (⟨(⟨#[67]⟩ : ByteArray), 4⟩ : S43) )) (Reps.none _ _)))); intro v190 w23 ho24 hb hg_ hnew_; clear hg_ hnew_; (first | rw [← Ny189.out] at ho24 | (simp only [Int.reduceToNat] at ho24; rw [← Ny189.out] at ho24)); have n0_ := Aside0.mk (Kd.R_elder' (gR HO170) (Kd.R_base ho24) hb); have n1_ := Aside0.mk (Kd.R_elder' (gR HO173) (Kd.R_base ho24) hb); have n2_ := Aside0.mk (Kd.R_elder' (gR HO177) (Kd.R_base ho24) hb); have n3_ := Aside0.mk (Kd.R_elder' (gR HO180) (Kd.R_base ho24) hb); have n4_ := Aside0.mk (Kd.R_elder' (gR HO184) (Kd.R_base ho24) hb); have n5_ := Aside0.mk (Kd.R_elder' (gR HO187) (Kd.R_base ho24) hb); have n6_ := Aside0.mk (Kd.R_lower (Kd.R_new' (Kd.R_new' (Kd.R_new' (Kd.R_new' (Kd.R_new' (Kd.R_new' ho24 (Kd.R_lt (gR HO170))) (Kd.R_lt (gR HO173))) (Kd.R_lt (gR HO177))) (Kd.R_lt (gR HO180))) (Kd.R_lt (gR HO184))) (Kd.R_lt (gR HO187))) (below_size (gB HB))); have n7_ := Aside0.mk (below_step (gB HB) hb); clear HO170; clear HO173; clear HO177; clear HO180; clear HO184; clear HO187; clear HB; have HO170 := n0_; have HO173 := n1_; have HO177 := n2_; have HO180 := n3_; have HO184 := n4_; have HO187 := n5_; have HO191 := n6_; have HB := n7_; clear n0_ n1_ n2_ n3_ n4_ n5_ n6_ n7_; clear hb ho24; obtain ⟨Ao25, co25, eo25⟩ := Kd.R_slice HO184.out; subst eo25; obtain ⟨Ao26, co26, eo26⟩ := Kd.R_slice HO191.out; subst eo26) | (go_at_call 13; (with_reducible refine (lombardref10_Lots.calls k _ _ t181 _ _ y189 t192 _ ?side1 ?side2 ?side3 ?side4 A7.out).mono ?_); (case side1 => repeat (first | exact (Kd.R_reads' HO184.out).2.2 | (with_reducible refine Kd.C_alloc ?_ _) | (with_reducible refine Kd.C_drewN ?_ _) | (with_reducible refine Kd.C_drew ?_))); (case side2 => exact (Kd.R_reads' HO184.out).2.1); (case side3 => repeat (first | exact (Kd.R_reads' HO191.out).2.2 | (with_reducible refine Kd.C_alloc ?_ _) | (with_reducible refine Kd.C_drewN ?_ _) | (with_reducible refine Kd.C_drew ?_))); (case side4 => exact (Kd.R_reads' HO191.out).2.1); rintro e w' ⟨rfl, ⟨nd, rfl⟩⟩))
       go_ret
       exact ⟨by first | rfl | (simp [errW_none, errW_some] <;> rfl) | (simp [*, errW_none, errW_some] <;> rfl), gB HB⟩
     · replace c6 := Bool.eq_false_iff.mpr c6
       subst c6
       have H1 : (some false) = some r := by rw [if_neg (show ¬ (false = true) by decide)] at H; exact H
       clear H
       have H := H1
       clear H1
       exact absurd ((Option.some.inj H).trans htr_) (by decide)
   · rw [if_neg c4] at H
     have c4b0 : (t182 == t175) = false := beq_eq_false_iff_ne.mpr c4
     have c4b1 : (t182 != t175) = true := bne_iff_ne.mpr c4
     exact absurd ((Option.some.inj H).trans htr_) (by decide)
 · rw [if_neg c3] at H
   have c3b0 : (t175 == 0) = false := beq_eq_false_iff_ne.mpr c3
   have c3b1 : (t175 != 0) = true := bne_iff_ne.mpr c3
   exact absurd ((Option.some.inj H).trans htr_) (by decide)
def lombardref17_Qty.l0 : Nat → List (S43) → ByteArray → Int → Option (Int)
 | 0, _, _, _ => none
 | k + 1, x0, x1, x5 => if x5 < (x0.length : Int) then (if 0 ≤ x5 then (if ((rd_T43 x0 x5).f0).toList = x1.toList then (some ((rd_T43 x0 x5).f1)) else (lombardref17_Qty.l0 k x0 x1 (wrap64 (x5 + 1)))) else (none)) else (some 0)
def lombardref17_Qty.f (k : Nat) (l0 : List (S43)) (a1 : ByteArray) : Option (Int) := lombardref17_Qty.l0 k l0 a1 0
theorem lombardref17_Qty.mono_l : ∀ k, (∀ y0 y1 y2, LeO (lombardref17_Qty.l0 k y0 y1 y2) (lombardref17_Qty.l0 (k + 1) y0 y1 y2))
 | 0 => fun _ _ _ r h => by simp [lombardref17_Qty.l0] at h
 | k + 1 => by
  have ih0 := lombardref17_Qty.mono_l k
  · intro y0 y1 y2
    unfold lombardref17_Qty.l0
    repeat' first
    | (with_reducible exact ih0 _ _ _)
    | (with_reducible exact LeO.refl _)
    | (with_reducible exact LeO.none _)
    | (with_reducible refine LeO.ite ?_ ?_)
    | (with_reducible refine LeO.bind ?_ (fun _ => ?_))
    | exact ih0 _ _ _
    | exact LeO.none _
    | refine LeO.ite ?_ ?_
    | refine LeO.bind ?_ (fun _ => ?_)
theorem lombardref17_Qty.mono : ∀ a0 a1 k, LeO (lombardref17_Qty.f k a0 a1) (lombardref17_Qty.f (k + 1) a0 a1) := by
 intro a0 a1 k
 have ih0 := lombardref17_Qty.mono_l k
 unfold lombardref17_Qty.f
 repeat' first
  | (with_reducible exact ih0 _ _ _)
  | (with_reducible exact LeO.refl _)
  | (with_reducible exact LeO.none _)
  | (with_reducible refine LeO.ite ?_ ?_)
  | (with_reducible refine LeO.bind ?_ (fun _ => ?_))
  | exact ih0 _ _ _
  | exact LeO.none _
  | refine LeO.ite ?_ ?_
  | refine LeO.bind ?_ (fun _ => ?_)
set_option maxHeartbeats 8000000 in
set_option maxRecDepth 100000 in
theorem lombardref17_Qty.calls (k : Nat) (A0 : Option Addr) (c0 : Nat) (l0 : List (S43)) (a1 : ByteArray) (r : Int) (w : World) (hr0 : Kd.C k43 w A0 l0.length l0) (hc0 : l0.length ≤ c0) (h : lombardref17_Qty.f k l0 a1 = some r) :
 Calls Try.prog 18 #[.slice A0 l0.length c0, .string a1] w fun e w' => e = .returned (.int .i64 r) ∧ Drawn0 w w' := by
 have HR0 := Aside0.mk hr0; have HC0 := Aside0.mk hc0; clear hr0 hc0
 have H : (lombardref17_Qty.l0 k l0 a1 0) = some r := h
 clear h
 have H' := Aside0.mk H
 clear H
 go_enter Try.func18, Try.ntmps18
 go_wp2
 go_loopg [5] k (fun kq v5 w' => ∃ (x5_1 : Int), v5 = .int .i64 x5_1 ∧ Aside0 (lombardref17_Qty.l0 kq l0 a1 x5_1 = some r) ∧ Aside0 (kq ≤ k) ∧ Drawn0 w w')
 case atStart => exact ⟨(0), ac, H', ⟨Nat.le_refl _⟩, by repeat (first | exact Drawn0.refl _ | apply Drawn0.step)⟩
 case round =>
  clear H'; (try clear c1); (try clear p2)
  obtain ⟨x5_1, rfl, HA, HK1, ⟨m1, rfl⟩⟩ := hrel
  cases gk with
  | zero => exact absurd HA.out (by simp [lombardref17_Qty.l0])
  | succ k1 =>
   have H := HA.out
   clear HA
   simp only [lombardref17_Qty.l0] at H
   by_cases c3 : x5_1 < (l0.length : Int)
   · rw [if_pos c3] at H
     have c3b0 : decide (x5_1 < (l0.length : Int)) = true := decide_eq_true c3
     clear c3
     by_cases c4 : 0 ≤ x5_1
     · rw [if_pos c4] at H
       have c4b0 : decide (0 ≤ x5_1) = true := decide_eq_true c4
       clear c4
       by_cases c5 : ((rd_T43 l0 x5_1).f0).toList = a1.toList
       · rw [if_pos c5] at H
         have c5b0 : (((rd_T43 l0 x5_1).f0).toList == a1.toList) = true := beq_iff_eq.mpr c5
         have c5b1 : (((rd_T43 l0 x5_1).f0).toList != a1.toList) = false := bne_eq_false_iff_eq.mpr c5
         clear c5
         obtain rfl := Option.some.inj H
         have p193 : 0 ≤ (x5_1 : Int) := od
         have q193 : x5_1 < (l0.length : Int) := od
         obtain ⟨ad193, e193, hx193_0, hx193_1⟩ := at_T43 HR0.out x5_1 p193 q193
         cases e193; replace p193 := eq_true p193; replace q193 := eq_true q193
         have p194 : 0 ≤ (x5_1 : Int) := od
         have q194 : x5_1 < (l0.length : Int) := od
         obtain ⟨ad194, e194, hx194_0, hx194_1⟩ := at_T43 HR0.out x5_1 p194 q194
         obtain rfl : ad193 = ad194 := (by injection e194)
         replace p194 := eq_true p194; replace q194 := eq_true q194
         go_wp2
         go_ret
         exact ⟨by first | rfl | (simp; done) | (simp [*]; done), by repeat (first | exact Drawn0.refl _ | apply Drawn0.step)⟩
       · rw [if_neg c5] at H
         have c5b0 : (((rd_T43 l0 x5_1).f0).toList == a1.toList) = false := beq_eq_false_iff_ne.mpr c5
         have c5b1 : (((rd_T43 l0 x5_1).f0).toList != a1.toList) = true := bne_iff_ne.mpr c5
         have H' := Aside0.mk H
         clear H
         have p193 : 0 ≤ (x5_1 : Int) := od
         have q193 : x5_1 < (l0.length : Int) := od
         obtain ⟨ad193, e193, hx193_0, hx193_1⟩ := at_T43 HR0.out x5_1 p193 q193
         cases e193; replace p193 := eq_true p193; replace q193 := eq_true q193
         go_wp2
         go_roundg k1
         case measure => have := HK1.out; omega
         case rel => exact ⟨(wrap64 (x5_1 + 1)), ac, H', ⟨by have := HK1.out; omega⟩, by repeat (first | exact Drawn0.refl _ | apply Drawn0.step)⟩
     · rw [if_neg c4] at H
       exact absurd H (by simp)
   · rw [if_neg c3] at H
     have c3b0 : decide (x5_1 < (l0.length : Int)) = false := decide_eq_false c3
     clear c3
     obtain rfl := Option.some.inj H
     go_wp2
     go_ret
     exact ⟨by first | rfl | (simp; done) | (simp [*]; done), by repeat (first | exact Drawn0.refl _ | apply Drawn0.step)⟩
mutual
def lombardref17_Set.l0 : Nat → List (S43) → ByteArray → Int → List (S43) → Bool → Int → Option ((List (S43)))
 | 0, _, _, _, _, _, _ => none
 | k + 1, x0, x1, x2, x7, x8, x9 => if x9 < (x0.length : Int) then (if x8 = true then (lombardref17_Set.j1 k x0 x1 x2 x7 x8 x9 false) else (if 0 ≤ x9 then (lombardref17_Set.j1 k x0 x1 x2 x7 x8 x9 (!(Op.bytesLess (((rd_T43 x0 x9).f0).toList) x1.toList))) else (none))) else (if x8 = true then (some x7) else (if x7.length < 5864062014805 then (some (x7 ++ [(⟨x1, x2⟩ : S43)])) else (none)))
def lombardref17_Set.j1 : Nat → List (S43) → ByteArray → Int → List (S43) → Bool → Int → Bool → Option ((List (S43)))
 | 0, _, _, _, _, _, _, _ => none
 | k + 1, x0, x1, x2, x7, x8, x9, x28 => if x28 = true then (if x7.length < 5864062014805 then ((some (x7 ++ [(⟨x1, x2⟩ : S43)] : List (S43))).bind fun y199 => (if 0 ≤ x9 then (if x9 < (x0.length : Int) then (if ((rd_T43 x0 x9).f0).toList = x1.toList then (lombardref17_Set.l0 k x0 x1 x2 y199 true (wrap64 (x9 + 1))) else (if y199.length < 5864062014805 then (lombardref17_Set.l0 k x0 x1 x2 (y199 ++ [(⟨(rd_T43 x0 x9).f0, (rd_T43 x0 x9).f1⟩ : S43)]) true (wrap64 (x9 + 1))) else (none))) else (none)) else (none))) else (none)) else (if 0 ≤ x9 then (if x9 < (x0.length : Int) then (if ((rd_T43 x0 x9).f0).toList = x1.toList then (lombardref17_Set.l0 k x0 x1 x2 x7 x8 (wrap64 (x9 + 1))) else (if x7.length < 5864062014805 then (lombardref17_Set.l0 k x0 x1 x2 (x7 ++ [(⟨(rd_T43 x0 x9).f0, (rd_T43 x0 x9).f1⟩ : S43)]) x8 (wrap64 (x9 + 1))) else (none))) else (none)) else (none))
end
def lombardref17_Set.f (k : Nat) (l0 : List (S43)) (a1 : ByteArray) (a2 : Int) : Option ((List (S43))) := lombardref17_Set.l0 k l0 a1 a2 ([] : List (S43)) (a2 == 0) 0
theorem lombardref17_Set.mono_l : ∀ k, (∀ y0 y1 y2 y3 y4 y5, LeO (lombardref17_Set.l0 k y0 y1 y2 y3 y4 y5) (lombardref17_Set.l0 (k + 1) y0 y1 y2 y3 y4 y5)) ∧ (∀ y0 y1 y2 y3 y4 y5 y6, LeO (lombardref17_Set.j1 k y0 y1 y2 y3 y4 y5 y6) (lombardref17_Set.j1 (k + 1) y0 y1 y2 y3 y4 y5 y6))
 | 0 => ⟨fun _ _ _ _ _ _ r h => by simp [lombardref17_Set.l0] at h, fun _ _ _ _ _ _ _ r h => by simp [lombardref17_Set.j1] at h⟩
 | k + 1 => by
  obtain ⟨ih0, ih1⟩ := lombardref17_Set.mono_l k
  refine ⟨?_, ?_⟩
  intro y0 y1 y2 y3 y4 y5; unfold lombardref17_Set.l0; rotate_left
  intro y0 y1 y2 y3 y4 y5 y6; unfold lombardref17_Set.j1; rotate_left
  all_goals repeat' first
  | (with_reducible exact ih0 _ _ _ _ _ _)
  | (with_reducible exact ih1 _ _ _ _ _ _ _)
  | (with_reducible exact LeO.refl _)
  | (with_reducible exact LeO.none _)
  | (with_reducible refine LeO.ite ?_ ?_)
  | (with_reducible refine LeO.bind ?_ (fun _ => ?_))
  | exact ih0 _ _ _ _ _ _
  | exact ih1 _ _ _ _ _ _ _
  | exact LeO.none _
  | refine LeO.ite ?_ ?_
  | refine LeO.bind ?_ (fun _ => ?_)
theorem lombardref17_Set.mono : ∀ a0 a1 a2 k, LeO (lombardref17_Set.f k a0 a1 a2) (lombardref17_Set.f (k + 1) a0 a1 a2) := by
 intro a0 a1 a2 k
 obtain ⟨ih0, ih1⟩ := lombardref17_Set.mono_l k
 unfold lombardref17_Set.f
 repeat' first
  | (with_reducible exact ih0 _ _ _ _ _ _)
  | (with_reducible exact ih1 _ _ _ _ _ _ _)
  | (with_reducible exact LeO.refl _)
  | (with_reducible exact LeO.none _)
  | (with_reducible refine LeO.ite ?_ ?_)
  | (with_reducible refine LeO.bind ?_ (fun _ => ?_))
  | exact ih0 _ _ _ _ _ _
  | exact ih1 _ _ _ _ _ _ _
  | exact LeO.none _
  | refine LeO.ite ?_ ?_
  | refine LeO.bind ?_ (fun _ => ?_)
set_option maxHeartbeats 8000000 in
set_option maxRecDepth 100000 in
theorem lombardref17_Set.calls (k : Nat) (A0 : Option Addr) (c0 : Nat) (l0 : List (S43)) (a1 : ByteArray) (a2 : Int) (r : List (S43)) (w : World) (hr0 : Kd.C k43 w A0 l0.length l0) (hc0 : l0.length ≤ c0) (h : lombardref17_Set.f k l0 a1 a2 = some r) :
 Calls Try.prog 32 #[.slice A0 l0.length c0, .string a1, .int .i64 a2] w fun e w' => ∃ v0_ : Value, e = .returned (v0_) ∧ Kd.R k43 43 w' w.heap.size (fun _ => True) v0_ r ∧ Below w.heap.size w w' := by
 have hu43 := Try.underlying43
 have HR0 := Aside0.mk hr0; have HC0 := Aside0.mk hc0; clear hr0 hc0
 have HB := Aside0.mk (Below.refl w.heap.size w)
 have H : (lombardref17_Set.l0 k l0 a1 a2 ([] : List (S43)) (a2 == 0) 0) = some r := h
 clear h
 have H' := Aside0.mk H
 clear H
 go_enter Try.func32, Try.ntmps32
 go_wp2
 go_loopg [7, 8, 9] k (fun kq v7 v8 v9 w' => ∃ (x7_1 : List (S43)) (x8_1 : Bool) (x9_1 : Int), v8 = .bool x8_1 ∧ v9 = .int .i64 x9_1 ∧ Aside0 (lombardref17_Set.l0 kq l0 a1 a2 x7_1 x8_1 x9_1 = some r) ∧ Aside0 (kq ≤ k) ∧ Aside0 (Kd.R k43 43 w' w.heap.size (fun _ => True) v7 x7_1) ∧ Aside0 (Below w.heap.size w w'))
 case atStart => exact ⟨(([] : List (S43))), ((a2 == 0)), (0), ac, ac, H', ⟨Nat.le_refl _⟩, ⟨by first | exact Kd.R_nil _ _ _ _ _ | exact Kd.N_nil _ _ _ _ _ | exact Kd.V_nil _ _ _ _ _ | exact Kd.Q_nil _ _ _ _ _ | exact Kd.S_nil _ _ _ _ _⟩, ⟨gB HB⟩⟩
 case round =>
  clear H'; (try clear p2); (try clear c3)
  obtain ⟨x7_1, x8_1, x9_1, rfl, rfl, HA, HK1, HO_7, HB⟩ := hrel
  cases gk with
  | zero => exact absurd HA.out (by simp [lombardref17_Set.l0])
  | succ k1 =>
   have H := HA.out
   clear HA
   simp only [lombardref17_Set.l0] at H
   by_cases c4 : x9_1 < (l0.length : Int)
   · rw [if_pos c4] at H
     have c4b0 : decide (x9_1 < (l0.length : Int)) = true := decide_eq_true c4
     clear c4; have HC5 := Aside0.mk H; clear H
     go_upto_region 6 with (fail)
     go_cut [28] (fun v28 wc => ∃ (kq : Nat) (x28_4 : Bool), v28 = .bool x28_4 ∧ Aside0 (lombardref17_Set.j1 kq l0 a1 a2 x7_1 x8_1 x9_1 x28_4 = some r) ∧ Aside0 (kq ≤ k1) ∧ Aside0 (Kd.R k43 43 wc w.heap.size (fun _ => True) u7 x7_1) ∧ Aside0 (Below w.heap.size w wc))
     case first =>
      have H := HC5.out
      clear HC5
      by_cases c6 : x8_1 = true
      · subst c6
        have H1 : (lombardref17_Set.j1 k1 l0 a1 a2 x7_1 true x9_1 false) = some r := by rw [if_pos rfl] at H; exact H
        clear H
        have H := H1
        clear H1
        have H' := Aside0.mk H
        clear H
        go_wp2
        go_meet
        case rel => exact ⟨_, (false), ac, H', ⟨by have := HK1.out; first | omega | exact Nat.le_refl _⟩, ⟨gR HO_7⟩, ⟨gB HB⟩⟩
      · replace c6 := Bool.eq_false_iff.mpr c6
        subst c6
        have H1 : (if 0 ≤ x9_1 then (lombardref17_Set.j1 k1 l0 a1 a2 x7_1 false x9_1 (!(Op.bytesLess (((rd_T43 l0 x9_1).f0).toList) a1.toList))) else (none)) = some r := by rw [if_neg (show ¬ (false = true) by decide)] at H; exact H
        clear H
        have H := H1
        clear H1
        by_cases c7 : 0 ≤ x9_1
        · rw [if_pos c7] at H
          have c7b0 : decide (0 ≤ x9_1) = true := decide_eq_true c7
          clear c7
          (first | rw [c7b0] | (simp only [i64_w, i32_w]; rw [c7b0]) | skip)
          have H' := Aside0.mk H
          clear H
          have p198 : 0 ≤ (x9_1 : Int) := od
          have q198 : x9_1 < (l0.length : Int) := od
          obtain ⟨ad198, e198, hx198_0, hx198_1⟩ := at_T43 HR0.out x9_1 p198 q198
          cases e198
          replace hx198_0 := (HB.out.cell (World.block_lt_of_cell? w _ hx198_0)).trans hx198_0
          replace hx198_1 := (HB.out.cell (World.block_lt_of_cell? w _ hx198_1)).trans hx198_1
          replace p198 := eq_true p198; replace q198 := eq_true q198
          go_wp2
          go_meet
          case rel => exact ⟨_, (!(Op.bytesLess (((rd_T43 l0 x9_1).f0).toList) a1.toList)), ac, H', ⟨by have := HK1.out; first | omega | exact Nat.le_refl _⟩, ⟨gR HO_7⟩, ⟨gB HB⟩⟩
        · rw [if_neg c7] at H
          exact absurd H (by simp)
     case rest =>
      clear HC5; (try clear p1); (try clear q1); (try clear hx1); (try clear p2); (try clear c3); (try clear c4); (try clear c4b0); (try clear c6); (try clear c7); (try clear c7b0); (try clear hx198_0); (try clear hx198_1); (try clear p198); (try clear p2); (try clear q198)
      obtain ⟨kq, x28_4, rfl, HA, HJ4, HO_7, HB⟩ := hcut
      cases kq with
      | zero => exact absurd HA.out (by simp [lombardref17_Set.j1])
      | succ kj4 =>
       have H := HA.out
       clear HA
       simp only [lombardref17_Set.j1] at H
       by_cases c8 : x28_4 = true
       · subst c8
         have H1 : (if x7_1.length < 5864062014805 then ((some (x7_1 ++ [(⟨a1, a2⟩ : S43)] : List (S43))).bind fun y199 => (if 0 ≤ x9_1 then (if x9_1 < (l0.length : Int) then (if ((rd_T43 l0 x9_1).f0).toList = a1.toList then (lombardref17_Set.l0 kj4 l0 a1 a2 y199 true (wrap64 (x9_1 + 1))) else (if y199.length < 5864062014805 then (lombardref17_Set.l0 kj4 l0 a1 a2 (y199 ++ [(⟨(rd_T43 l0 x9_1).f0, (rd_T43 l0 x9_1).f1⟩ : S43)]) true (wrap64 (x9_1 + 1))) else (none))) else (none)) else (none))) else (none)) = some r := by rw [if_pos rfl] at H; exact H
         clear H
         have H := H1
         clear H1
         by_cases c9 : x7_1.length < 5864062014805
         · rw [if_pos c9] at H
           have LMc9 := Aside0.mk c9; clear c9
           obtain ⟨y199, hy199⟩ : ∃ y_ : List (S43), y_ = (x7_1 ++ [(⟨a1, a2⟩ : S43)]) := ⟨_, rfl⟩
           replace H : (if 0 ≤ x9_1 then (if x9_1 < (l0.length : Int) then (if ((rd_T43 l0 x9_1).f0).toList = a1.toList then (lombardref17_Set.l0 kj4 l0 a1 a2 y199 true (wrap64 (x9_1 + 1))) else (if y199.length < 5864062014805 then (lombardref17_Set.l0 kj4 l0 a1 a2 (y199 ++ [(⟨(rd_T43 l0 x9_1).f0, (rd_T43 l0 x9_1).f1⟩ : S43)]) true (wrap64 (x9_1 + 1))) else (none))) else (none)) else (none)) = some r := by first | (rw [hy199]; with_reducible exact H) | (have H2_ := (Option.bind_some _ _).symm.trans H; rw [hy199]; with_reducible exact H2_) | (have H2_ := (Option.bind_some _ _).symm.trans H; with_reducible exact H2_) | with_reducible exact H | (rw [hy199]; exact H) | exact H
           have Ny199 := Aside0.mk hy199; clear hy199
           by_cases c10 : 0 ≤ x9_1
           · rw [if_pos c10] at H
             have c10b0 : decide (0 ≤ x9_1) = true := decide_eq_true c10
             clear c10
             by_cases c11 : x9_1 < (l0.length : Int)
             · rw [if_pos c11] at H
               have c11b0 : decide (x9_1 < (l0.length : Int)) = true := decide_eq_true c11
               clear c11
               by_cases c12 : ((rd_T43 l0 x9_1).f0).toList = a1.toList
               · rw [if_pos c12] at H
                 have c12b0 : (((rd_T43 l0 x9_1).f0).toList == a1.toList) = true := beq_iff_eq.mpr c12
                 have c12b1 : (((rd_T43 l0 x9_1).f0).toList != a1.toList) = false := bne_eq_false_iff_eq.mpr c12
                 clear c12
                 have H' := Aside0.mk H
                 clear H
                 go_wp2_with (first | ((with_reducible refine gate_builtin (b := .append) (xs := #[.tmp 29, .tmp 33]) rfl ?_); at_builtin; refine Kd.R_append k43 (w0 := w) w.heap.size rfl (.tmp 29) (.tmp 33) 22 43 (.agg #[(.string ⟨#[]⟩), (.int .i64 0)]) 24 rfl Try.underlying22 info43 rfl (by decide) (by omega) u7 x7_1 (⟨a1, a2⟩ : S43) [.string a1, .int .i64 a2] (fun _ => True) (fun _ => False) rfl rfl ?aP (fun _ hk => hk.elim) ?aF ?aO ?aB ?aS ?aL ?_; (case aP => exact k43_mkM _ _ _ (⟨a1, a2⟩ : S43)); (case aB => exact (gB HB)); (case aF => exact (fun _ _ => trivial)); (case aO => exact (gR HO_7)); (case aS => exact (below_size (gB HB))); (case aL => have := LMc9.out; omega); intro v200 w13 ho hb hg hat; rw [← Ny199.out] at ho; have n0_ := Aside0.mk (hb); have n1_ := Aside0.mk (ho); clear HB; clear HO_7; have HB := n0_; have HO201 := n1_; clear n0_ n1_; clear ho hb hg hat; have p202 : 0 ≤ (x9_1 : Int) := od; have q202 : x9_1 < (l0.length : Int) := od; obtain ⟨ad202, e202, hx202_0, hx202_1⟩ := at_T43 HR0.out x9_1 p202 q202; cases e202; replace hx202_0 := (HB.out.cell (World.block_lt_of_cell? w _ hx202_0)).trans hx202_0; replace hx202_1 := (HB.out.cell (World.block_lt_of_cell? w _ hx202_1)).trans hx202_1; replace p202 := eq_true p202; replace q202 := eq_true q202))
                 go_roundg kj4
                 case measure => have := HK1.out; have := HJ4.out; omega
                 case rel => exact ⟨(y199), (true), (wrap64 (x9_1 + 1)), ac, ac, H', ⟨by have := HK1.out; have := HJ4.out; omega⟩, ⟨gR HO201⟩, ⟨gB HB⟩⟩
               · rw [if_neg c12] at H
                 have c12b0 : (((rd_T43 l0 x9_1).f0).toList == a1.toList) = false := beq_eq_false_iff_ne.mpr c12
                 have c12b1 : (((rd_T43 l0 x9_1).f0).toList != a1.toList) = true := bne_iff_ne.mpr c12
                 by_cases c14 : y199.length < 5864062014805
                 · rw [if_pos c14] at H
                   have LMc14 := Aside0.mk c14; clear c14
                   obtain ⟨y204, hy204⟩ : ∃ y_ : List (S43), y_ = (y199 ++ [(⟨(rd_T43 l0 x9_1).f0, (rd_T43 l0 x9_1).f1⟩ : S43)]) := ⟨_, rfl⟩
                   replace H : (lombardref17_Set.l0 kj4 l0 a1 a2 y204 true (wrap64 (x9_1 + 1))) = some r := by first | (rw [hy204]; with_reducible exact H) | (have H2_ := (Option.bind_some _ _).symm.trans H; rw [hy204]; with_reducible exact H2_) | (have H2_ := (Option.bind_some _ _).symm.trans H; with_reducible exact H2_) | with_reducible exact H | (rw [hy204]; exact H) | exact H
                   have Ny204 := Aside0.mk hy204; clear hy204
                   have H' := Aside0.mk H
                   clear H
                   go_wp2_with (first | ((with_reducible refine gate_builtin (b := .append) (xs := #[.tmp 29, .tmp 33]) rfl ?_); at_builtin; refine Kd.R_append k43 (w0 := w) w.heap.size rfl (.tmp 29) (.tmp 33) 22 43 (.agg #[(.string ⟨#[]⟩), (.int .i64 0)]) 24 rfl Try.underlying22 info43 rfl (by decide) (by omega) u7 x7_1 (⟨a1, a2⟩ : S43) [.string a1, .int .i64 a2] (fun _ => True) (fun _ => False) rfl rfl ?aP (fun _ hk => hk.elim) ?aF ?aO ?aB ?aS ?aL ?_; (case aP => exact k43_mkM _ _ _ (⟨a1, a2⟩ : S43)); (case aB => exact (gB HB)); (case aF => exact (fun _ _ => trivial)); (case aO => exact (gR HO_7)); (case aS => exact (below_size (gB HB))); (case aL => have := LMc9.out; omega); intro v200 w15 ho hb hg hat; rw [← Ny199.out] at ho; have n0_ := Aside0.mk (hb); have n1_ := Aside0.mk (ho); clear HB; clear HO_7; have HB := n0_; have HO201 := n1_; clear n0_ n1_; clear ho hb hg hat; have p202 : 0 ≤ (x9_1 : Int) := od; have q202 : x9_1 < (l0.length : Int) := od; obtain ⟨ad202, e202, hx202_0, hx202_1⟩ := at_T43 HR0.out x9_1 p202 q202; cases e202; replace hx202_0 := (HB.out.cell (World.block_lt_of_cell? w _ hx202_0)).trans hx202_0; replace hx202_1 := (HB.out.cell (World.block_lt_of_cell? w _ hx202_1)).trans hx202_1; replace p202 := eq_true p202; replace q202 := eq_true q202; have p203 : 0 ≤ (x9_1 : Int) := od; have q203 : x9_1 < (l0.length : Int) := od; obtain ⟨ad203, e203, hx203_0, hx203_1⟩ := at_T43 HR0.out x9_1 p203 q203; obtain rfl : ad202 = ad203 := (by injection e203); replace hx203_0 := (HB.out.cell (World.block_lt_of_cell? w _ hx203_0)).trans hx203_0; replace hx203_1 := (HB.out.cell (World.block_lt_of_cell? w _ hx203_1)).trans hx203_1; replace p203 := eq_true p203; replace q203 := eq_true q203) | ((with_reducible refine gate_builtin (b := .append) (xs := #[.tmp 42, .tmp 47]) rfl ?_); at_builtin; refine Kd.R_append k43 (w0 := w) w.heap.size rfl (.tmp 42) (.tmp 47) 22 43 (.agg #[(.string ⟨#[]⟩), (.int .i64 0)]) 24 rfl Try.underlying22 info43 rfl (by decide) (by omega) v200 y199 (⟨(rd_T43 l0 x9_1).f0, (rd_T43 l0 x9_1).f1⟩ : S43) [.string ((rd_T43 l0 x9_1).f0), .int .i64 ((rd_T43 l0 x9_1).f1)] (fun _ => True) (fun _ => False) rfl rfl ?aP (fun _ hk => hk.elim) ?aF ?aO ?aB ?aS ?aL ?_; (case aP => exact k43_mkM _ _ _ (⟨(rd_T43 l0 x9_1).f0, (rd_T43 l0 x9_1).f1⟩ : S43)); (case aB => exact (gB HB)); (case aF => exact (fun _ _ => trivial)); (case aO => exact (gR HO201)); (case aS => exact (below_size (gB HB))); (case aL => have := LMc14.out; omega); intro v205 w16 ho hb hg hat; rw [← Ny204.out] at ho; have n0_ := Aside0.mk (hb); have n1_ := Aside0.mk (ho); clear HB; clear HO201; have HB := n0_; have HO206 := n1_; clear n0_ n1_; clear ho hb hg hat))
                   go_roundg kj4
                   case measure => have := HK1.out; have := HJ4.out; omega
                   case rel => exact ⟨(y204), (true), (wrap64 (x9_1 + 1)), ac, ac, H', ⟨by have := HK1.out; have := HJ4.out; omega⟩, ⟨gR HO206⟩, ⟨gB HB⟩⟩
                 · rw [if_neg c14] at H
                   exact absurd H (by simp)
             · rw [if_neg c11] at H
               exact absurd H (by simp)
           · rw [if_neg c10] at H
             exact absurd H (by simp)
         · rw [if_neg c9] at H
           exact absurd H (by simp)
       · replace c8 := Bool.eq_false_iff.mpr c8
         subst c8
         have H1 : (if 0 ≤ x9_1 then (if x9_1 < (l0.length : Int) then (if ((rd_T43 l0 x9_1).f0).toList = a1.toList then (lombardref17_Set.l0 kj4 l0 a1 a2 x7_1 x8_1 (wrap64 (x9_1 + 1))) else (if x7_1.length < 5864062014805 then (lombardref17_Set.l0 kj4 l0 a1 a2 (x7_1 ++ [(⟨(rd_T43 l0 x9_1).f0, (rd_T43 l0 x9_1).f1⟩ : S43)]) x8_1 (wrap64 (x9_1 + 1))) else (none))) else (none)) else (none)) = some r := by rw [if_neg (show ¬ (false = true) by decide)] at H; exact H
         clear H
         have H := H1
         clear H1
         by_cases c17 : 0 ≤ x9_1
         · rw [if_pos c17] at H
           have c17b0 : decide (0 ≤ x9_1) = true := decide_eq_true c17
           clear c17
           by_cases c18 : x9_1 < (l0.length : Int)
           · rw [if_pos c18] at H
             have c18b0 : decide (x9_1 < (l0.length : Int)) = true := decide_eq_true c18
             clear c18
             by_cases c19 : ((rd_T43 l0 x9_1).f0).toList = a1.toList
             · rw [if_pos c19] at H
               have c19b0 : (((rd_T43 l0 x9_1).f0).toList == a1.toList) = true := beq_iff_eq.mpr c19
               have c19b1 : (((rd_T43 l0 x9_1).f0).toList != a1.toList) = false := bne_eq_false_iff_eq.mpr c19
               clear c19
               have H' := Aside0.mk H
               clear H
               have p207 : 0 ≤ (x9_1 : Int) := od
               have q207 : x9_1 < (l0.length : Int) := od
               obtain ⟨ad207, e207, hx207_0, hx207_1⟩ := at_T43 HR0.out x9_1 p207 q207
               cases e207
               replace hx207_0 := (HB.out.cell (World.block_lt_of_cell? w _ hx207_0)).trans hx207_0
               replace hx207_1 := (HB.out.cell (World.block_lt_of_cell? w _ hx207_1)).trans hx207_1
               replace p207 := eq_true p207; replace q207 := eq_true q207
               go_wp2
               go_roundg kj4
               case measure => have := HK1.out; have := HJ4.out; omega
               case rel => exact ⟨(x7_1), (x8_1), (wrap64 (x9_1 + 1)), ac, ac, H', ⟨by have := HK1.out; have := HJ4.out; omega⟩, ⟨gR HO_7⟩, ⟨gB HB⟩⟩
             · rw [if_neg c19] at H
               have c19b0 : (((rd_T43 l0 x9_1).f0).toList == a1.toList) = false := beq_eq_false_iff_ne.mpr c19
               have c19b1 : (((rd_T43 l0 x9_1).f0).toList != a1.toList) = true := bne_iff_ne.mpr c19
               by_cases c20 : x7_1.length < 5864062014805
               · rw [if_pos c20] at H
                 have LMc20 := Aside0.mk c20; clear c20
                 obtain ⟨y209, hy209⟩ : ∃ y_ : List (S43), y_ = (x7_1 ++ [(⟨(rd_T43 l0 x9_1).f0, (rd_T43 l0 x9_1).f1⟩ : S43)]) := ⟨_, rfl⟩
                 replace H : (lombardref17_Set.l0 kj4 l0 a1 a2 y209 x8_1 (wrap64 (x9_1 + 1))) = some r := by first | (rw [hy209]; with_reducible exact H) | (have H2_ := (Option.bind_some _ _).symm.trans H; rw [hy209]; with_reducible exact H2_) | (have H2_ := (Option.bind_some _ _).symm.trans H; with_reducible exact H2_) | with_reducible exact H | (rw [hy209]; exact H) | exact H
                 have Ny209 := Aside0.mk hy209; clear hy209
                 have H' := Aside0.mk H
                 clear H
                 have p207 : 0 ≤ (x9_1 : Int) := od
                 have q207 : x9_1 < (l0.length : Int) := od
                 obtain ⟨ad207, e207, hx207_0, hx207_1⟩ := at_T43 HR0.out x9_1 p207 q207
                 cases e207
                 replace hx207_0 := (HB.out.cell (World.block_lt_of_cell? w _ hx207_0)).trans hx207_0
                 replace hx207_1 := (HB.out.cell (World.block_lt_of_cell? w _ hx207_1)).trans hx207_1
                 replace p207 := eq_true p207; replace q207 := eq_true q207
                 have p208 : 0 ≤ (x9_1 : Int) := od
                 have q208 : x9_1 < (l0.length : Int) := od
                 obtain ⟨ad208, e208, hx208_0, hx208_1⟩ := at_T43 HR0.out x9_1 p208 q208
                 obtain rfl : ad207 = ad208 := (by injection e208)
                 replace hx208_0 := (HB.out.cell (World.block_lt_of_cell? w _ hx208_0)).trans hx208_0
                 replace hx208_1 := (HB.out.cell (World.block_lt_of_cell? w _ hx208_1)).trans hx208_1
                 replace p208 := eq_true p208; replace q208 := eq_true q208
                 go_wp2_with (first | ((with_reducible refine gate_builtin (b := .append) (xs := #[.tmp 42, .tmp 47]) rfl ?_); at_builtin; refine Kd.R_append k43 (w0 := w) w.heap.size rfl (.tmp 42) (.tmp 47) 22 43 (.agg #[(.string ⟨#[]⟩), (.int .i64 0)]) 24 rfl Try.underlying22 info43 rfl (by decide) (by omega) u7 x7_1 (⟨(rd_T43 l0 x9_1).f0, (rd_T43 l0 x9_1).f1⟩ : S43) [.string ((rd_T43 l0 x9_1).f0), .int .i64 ((rd_T43 l0 x9_1).f1)] (fun _ => True) (fun _ => False) rfl rfl ?aP (fun _ hk => hk.elim) ?aF ?aO ?aB ?aS ?aL ?_; (case aP => exact k43_mkM _ _ _ (⟨(rd_T43 l0 x9_1).f0, (rd_T43 l0 x9_1).f1⟩ : S43)); (case aB => exact (gB HB)); (case aF => exact (fun _ _ => trivial)); (case aO => exact (gR HO_7)); (case aS => exact (below_size (gB HB))); (case aL => have := LMc20.out; omega); intro v210 w21 ho hb hg hat; rw [← Ny209.out] at ho; have n0_ := Aside0.mk (hb); have n1_ := Aside0.mk (ho); clear HB; clear HO_7; have HB := n0_; have HO211 := n1_; clear n0_ n1_; clear ho hb hg hat))
                 go_roundg kj4
                 case measure => have := HK1.out; have := HJ4.out; omega
                 case rel => exact ⟨(y209), (x8_1), (wrap64 (x9_1 + 1)), ac, ac, H', ⟨by have := HK1.out; have := HJ4.out; omega⟩, ⟨gR HO211⟩, ⟨gB HB⟩⟩
               · rw [if_neg c20] at H
                 exact absurd H (by simp)
           · rw [if_neg c18] at H
             exact absurd H (by simp)
         · rw [if_neg c17] at H
           exact absurd H (by simp)
   · rw [if_neg c4] at H
     have c4b0 : decide (x9_1 < (l0.length : Int)) = false := decide_eq_false c4
     clear c4
     by_cases c22 : x8_1 = true
     · subst c22
       have H1 : (some x7_1) = some r := by rw [if_pos rfl] at H; exact H
       clear H
       have H := H1
       clear H1
       obtain rfl := Option.some.inj H
       go_wp2
       go_ret
       exact ⟨_, by first | rfl | (simp [errW_none, errW_some] <;> rfl) | (simp [*, errW_none, errW_some] <;> rfl), gR HO_7, gB HB⟩
     · replace c22 := Bool.eq_false_iff.mpr c22
       subst c22
       have H1 : (if x7_1.length < 5864062014805 then (some (x7_1 ++ [(⟨a1, a2⟩ : S43)])) else (none)) = some r := by rw [if_neg (show ¬ (false = true) by decide)] at H; exact H
       clear H
       have H := H1
       clear H1
       by_cases c23 : x7_1.length < 5864062014805
       · rw [if_pos c23] at H
         have LMc23 := Aside0.mk c23; clear c23
         obtain ⟨y195, hy195⟩ : ∃ y_ : List (S43), y_ = (x7_1 ++ [(⟨a1, a2⟩ : S43)]) := ⟨_, rfl⟩
         replace H : (some y195) = some r := by first | (rw [hy195]; with_reducible exact H) | (have H2_ := (Option.bind_some _ _).symm.trans H; rw [hy195]; with_reducible exact H2_) | (have H2_ := (Option.bind_some _ _).symm.trans H; with_reducible exact H2_) | with_reducible exact H | (rw [hy195]; exact H) | exact H
         have Ny195 := Aside0.mk hy195; clear hy195
         obtain rfl := Option.some.inj H
         go_wp2_with (first | ((with_reducible refine gate_builtin (b := .append) (xs := #[.tmp 51, .tmp 55]) rfl ?_); at_builtin; refine Kd.R_append k43 (w0 := w) w.heap.size rfl (.tmp 51) (.tmp 55) 22 43 (.agg #[(.string ⟨#[]⟩), (.int .i64 0)]) 24 rfl Try.underlying22 info43 rfl (by decide) (by omega) u7 x7_1 (⟨a1, a2⟩ : S43) [.string a1, .int .i64 a2] (fun _ => True) (fun _ => False) rfl rfl ?aP (fun _ hk => hk.elim) ?aF ?aO ?aB ?aS ?aL ?_; (case aP => exact k43_mkM _ _ _ (⟨a1, a2⟩ : S43)); (case aB => exact (gB HB)); (case aF => exact (fun _ _ => trivial)); (case aO => exact (gR HO_7)); (case aS => exact (below_size (gB HB))); (case aL => have := LMc23.out; omega); intro v196 w24 ho hb hg hat; rw [← Ny195.out] at ho; have n0_ := Aside0.mk (hb); have n1_ := Aside0.mk (ho); clear HB; clear HO_7; have HB := n0_; have HO197 := n1_; clear n0_ n1_; clear ho hb hg hat))
         go_ret
         exact ⟨_, by first | rfl | (simp [errW_none, errW_some] <;> rfl) | (simp [*, errW_none, errW_some] <;> rfl), gR HO197, gB HB⟩
       · rw [if_neg c23] at H
         exact absurd H (by simp)
end Go.Proofs.Ytjjemfbpodgihaa.X
