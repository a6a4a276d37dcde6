-- a shortened text: what this claim does not name is left out (wip/xprint/prune.py of this repo)
import Derived.Test.YtkdbolhheodfkaaPCalD
import Derived.Test.YtkdbolhheodfkaaX12
import Derived.Test.YtkdbolhheodfkaaX13
namespace Go.Proofs.Ytkdbolhheodfkaa.PCal
open Go Go.RowKit Go.Proofs.Ytkdbolhheodfkaa.X Go.Proofs.YtkdbolhheodfkaaW.PrintWords Go.Proofs.YtkdbolhheodfkaaW.PrintLast Go.Proofs.YtkdbolhheodfkaaW.PrintMore
def up (W : Int → Bool) : Nat → Int → Int × Int
  | 0, _ => (0, 6)
  | f + 1, x => if W x = true then (x, 0) else up W f (x + 1)
def down (W : Int → Bool) : Nat → Int → Int × Int
  | 0, _ => (0, 6)
  | f + 1, x => if W x = true then (x, 0) else down W f (x - 1)
def nextS (W : Int → Bool) (x : Int) : Int × Int := if Good x then up W (200001 - x).toNat x else (0, 10)
def backS (W : Int → Bool) (x : Int) : Int × Int := if Good x then down W (x + 1).toNat x else (0, 10)
theorem good_ev (x : Int) : calendar_Good.f x = some (decide (Good x)) := good_eq x
theorem next_l0 {l : List Int} (h : Fine l) : ∀ (f : Nat) (x : Int), 0 ≤ x → x + f = 200001 → Ev (fun k => calendar_Calendar_Next.l0 k x (sortedOff l)) (up (worksS l) f x) ∧ Ev (fun k => lombardref02_Calendar_Go.l0 k x 1 l) (up (worksS l) f x) := by
  intro f
  induction f with
  | zero =>
    intro x x0 hx
    refine ⟨Ev.step (f := fun _ => some (0, 6)) (fun k => ?_) (Ev.now _), Ev.step (f := fun _ => some (0, 6)) (fun k => ?_) (Ev.now _)⟩
    · simp only [calendar_Calendar_Next.l0, good_eq, Option.bind_some]
      rw [decide_eq_false (by omega), if_neg (by simp)]
    · simp only [lombardref02_Calendar_Go.l0, rgood_eq, Option.bind_some]
      rw [decide_eq_false (by omega), if_neg (by simp)]
  | succ f ih =>
    intro x x0 hx
    obtain ⟨i1, i2⟩ := ih (x + 1) (by omega) (by omega)
    have g : decide (0 ≤ x ∧ x ≤ 200000) = true := decide_eq_true (by omega)
    have ew : wrap64 (x + 1) = x + 1 := w_id (by omega) (by omega)
    simp only [up]
    constructor
    · refine Ev.step (f := fun k => if worksS l x = true then some (x, 0) else calendar_Calendar_Next.l0 k (x + 1) (sortedOff l)) (fun k => ?_) ?_
      · simp only [calendar_Calendar_Next.l0, good_eq, works_eq h, Option.bind_some, g, if_true, ew]
      · by_cases q : worksS l x = true
        · simp only [if_pos q]; exact Ev.now _
        · simp only [if_neg q]; exact i1
    · refine Ev.step (f := fun k => (lombardref02_Calendar_Works.f k l x).bind fun t => if t = true then some (x, 0) else lombardref02_Calendar_Go.l0 k (x + 1) 1 l) (fun k => ?_) ?_
      · simp only [lombardref02_Calendar_Go.l0, rgood_eq, Option.bind_some, g, if_true, ew]
      · refine Ev.bind (rworks_ev h x) ?_
        by_cases q : worksS l x = true
        · simp only [if_pos q]; exact Ev.now _
        · simp only [if_neg q]; exact i2
theorem back_l0 {l : List Int} (h : Fine l) : ∀ (f : Nat) (x : Int), x ≤ 200000 → (f : Int) = x + 1 → Ev (fun k => calendar_Calendar_Back.l0 k x (sortedOff l)) (down (worksS l) f x) ∧ Ev (fun k => lombardref02_Calendar_Go.l0 k x (-1) l) (down (worksS l) f x) := by
  intro f
  induction f with
  | zero =>
    intro x x0 hx
    refine ⟨Ev.step (f := fun _ => some (0, 6)) (fun k => ?_) (Ev.now _), Ev.step (f := fun _ => some (0, 6)) (fun k => ?_) (Ev.now _)⟩
    · simp only [calendar_Calendar_Back.l0, good_eq, Option.bind_some]
      rw [decide_eq_false (by omega), if_neg (by simp)]
    · simp only [lombardref02_Calendar_Go.l0, rgood_eq, Option.bind_some]
      rw [decide_eq_false (by omega), if_neg (by simp)]
  | succ f ih =>
    intro x x0 hx
    obtain ⟨i1, i2⟩ := ih (x - 1) (by omega) (by omega)
    have g : decide (0 ≤ x ∧ x ≤ 200000) = true := decide_eq_true (by omega)
    have ew : wrap64 (x - 1) = x - 1 := w_id (by omega) (by omega)
    have ew2 : wrap64 (x + -1) = x - 1 := w_id (x := x - 1) (by omega) (by omega)
    simp only [down]
    constructor
    · refine Ev.step (f := fun k => if worksS l x = true then some (x, 0) else calendar_Calendar_Back.l0 k (x - 1) (sortedOff l)) (fun k => ?_) ?_
      · simp only [calendar_Calendar_Back.l0, good_eq, works_eq h, Option.bind_some, g, if_true, ew]
      · by_cases q : worksS l x = true
        · simp only [if_pos q]; exact Ev.now _
        · simp only [if_neg q]; exact i1
    · refine Ev.step (f := fun k => (lombardref02_Calendar_Works.f k l x).bind fun t => if t = true then some (x, 0) else lombardref02_Calendar_Go.l0 k (x - 1) (-1) l) (fun k => ?_) ?_
      · simp only [lombardref02_Calendar_Go.l0, rgood_eq, Option.bind_some, g, if_true, ew2]
      · refine Ev.bind (rworks_ev h x) ?_
        by_cases q : worksS l x = true
        · simp only [if_pos q]; exact Ev.now _
        · simp only [if_neg q]; exact i2
theorem next_ev {l : List Int} (h : Fine l) (x : Int) : Ev (fun k => calendar_Calendar_Next.f k (sortedOff l) x) (nextS (worksS l) x) ∧ Ev (fun k => lombardref02_Calendar_Go.f k l x 1) (nextS (worksS l) x) := by
  unfold calendar_Calendar_Next.f lombardref02_Calendar_Go.f
  simp only [good_eq, rgood_eq, Option.bind_some]
  by_cases g : Good x
  · have e : nextS (worksS l) x = up (worksS l) (200001 - x).toNat x := if_pos g
    rw [e]
    simp only [decide_eq_true (show 0 ≤ x ∧ x ≤ 200000 from g), if_true]
    exact next_l0 h _ x g.1 (by unfold Good at g; omega)
  · have e : nextS (worksS l) x = (0, 10) := if_neg g
    rw [e]
    simp only [decide_eq_false (show ¬ (0 ≤ x ∧ x ≤ 200000) from g), Bool.false_eq_true, if_false]
    exact ⟨Ev.now _, Ev.now _⟩
theorem back_ev {l : List Int} (h : Fine l) (x : Int) : Ev (fun k => calendar_Calendar_Back.f k (sortedOff l) x) (backS (worksS l) x) ∧ Ev (fun k => lombardref02_Calendar_Go.f k l x (-1)) (backS (worksS l) x) := by
  unfold calendar_Calendar_Back.f lombardref02_Calendar_Go.f
  simp only [good_eq, rgood_eq, Option.bind_some]
  by_cases g : Good x
  · have e : backS (worksS l) x = down (worksS l) (x + 1).toNat x := if_pos g
    rw [e]
    simp only [decide_eq_true (show 0 ≤ x ∧ x ≤ 200000 from g), if_true]
    exact back_l0 h _ x g.2 (by unfold Good at g; omega)
  · have e : backS (worksS l) x = (0, 10) := if_neg g
    rw [e]
    simp only [decide_eq_false (show ¬ (0 ≤ x ∧ x ≤ 200000) from g), Bool.false_eq_true, if_false]
    exact ⟨Ev.now _, Ev.now _⟩
theorem up_is (W : Int → Bool) : ∀ (f : Nat) (x : Int), (∃ y, up W f x = (y, 0) ∧ x ≤ y ∧ y < x + f ∧ W y = true ∧ ∀ z, x ≤ z → z < y → W z = false) ∨ (up W f x = (0, 6) ∧ ∀ z, x ≤ z → z < x + f → W z = false)
  | 0, x => .inr ⟨rfl, fun z h1 h2 => by omega⟩
  | f + 1, x => by
    simp only [up]
    by_cases q : W x = true
    · rw [if_pos q]
      exact .inl ⟨x, rfl, by omega, by omega, q, fun z h1 h2 => by omega⟩
    · rw [if_neg q]
      have q2 : W x = false := by simpa using q
      rcases up_is W f (x + 1) with ⟨y, h1, h2, h3, h4, h5⟩ | ⟨h1, h2⟩
      · exact .inl ⟨y, h1, by omega, by omega, h4, fun z z1 z2 => by
          by_cases c : z = x
          · rw [c]; exact q2
          · exact h5 z (by omega) z2⟩
      · exact .inr ⟨h1, fun z z1 z2 => by
          by_cases c : z = x
          · rw [c]; exact q2
          · exact h2 z (by omega) (by omega)⟩
theorem down_is (W : Int → Bool) : ∀ (f : Nat) (x : Int), (∃ y, down W f x = (y, 0) ∧ y ≤ x ∧ x < y + f ∧ W y = true ∧ ∀ z, y < z → z ≤ x → W z = false) ∨ (down W f x = (0, 6) ∧ ∀ z, x < z + f → z ≤ x → W z = false)
  | 0, x => .inr ⟨rfl, fun z h1 h2 => by omega⟩
  | f + 1, x => by
    simp only [down]
    by_cases q : W x = true
    · rw [if_pos q]
      exact .inl ⟨x, rfl, by omega, by omega, q, fun z h1 h2 => by omega⟩
    · rw [if_neg q]
      have q2 : W x = false := by simpa using q
      rcases down_is W f (x - 1) with ⟨y, h1, h2, h3, h4, h5⟩ | ⟨h1, h2⟩
      · exact .inl ⟨y, h1, by omega, by omega, h4, fun z z1 z2 => by
          by_cases c : z = x
          · rw [c]; exact q2
          · exact h5 z z1 (by omega)⟩
      · exact .inr ⟨h1, fun z z1 z2 => by
          by_cases c : z = x
          · rw [c]; exact q2
          · exact h2 z (by omega) (by omega)⟩
theorem nextS_is (W : Int → Bool) {x : Int} (g : Good x) : (∃ y, nextS W x = (y, 0) ∧ x ≤ y ∧ Good y ∧ W y = true ∧ ∀ z, x ≤ z → z < y → W z = false) ∨ nextS W x = (0, 6) := by
  unfold nextS
  rw [if_pos g]
  unfold Good at g
  rcases up_is W (200001 - x).toNat x with ⟨y, h1, h2, h3, h4, h5⟩ | ⟨h1, h2⟩
  · exact .inl ⟨y, h1, h2, by unfold Good; omega, h4, h5⟩
  · exact .inr h1
theorem backS_is (W : Int → Bool) {x : Int} (g : Good x) : (∃ y, backS W x = (y, 0) ∧ y ≤ x ∧ Good y ∧ W y = true ∧ ∀ z, y < z → z ≤ x → W z = false) ∨ (backS W x = (0, 6) ∧ ∀ z, 0 ≤ z → z ≤ x → W z = false) := by
  unfold backS
  rw [if_pos g]
  unfold Good at g
  rcases down_is W (x + 1).toNat x with ⟨y, h1, h2, h3, h4, h5⟩ | ⟨h1, h2⟩
  · exact .inl ⟨y, h1, h2, by unfold Good; omega, h4, h5⟩
  · exact .inr ⟨h1, fun z z1 z2 => h2 z (by omega) z2⟩
def stepS (W : Int → Bool) (by_ : Int) (d : Int) : Int × Int := if Good (d + by_) then (if by_ > 0 then nextS W (d + by_) else backS W (d + by_)) else (0, 6)
theorem stepS_good (W : Int → Bool) (b d : Int) : (stepS W b d).2 = 0 → Good (stepS W b d).1 := by
  unfold stepS
  by_cases g : Good (d + b)
  · rw [if_pos g]
    by_cases c : b > 0
    · rw [if_pos c]
      rcases nextS_is W g with ⟨y, h1, _, h3, _⟩ | h1
      · rw [h1]; exact fun _ => h3
      · rw [h1]; intro z; cases z
    · rw [if_neg c]
      rcases backS_is W g with ⟨y, h1, _, h3, _⟩ | ⟨h1, _⟩
      · rw [h1]; exact fun _ => h3
      · rw [h1]; intro z; cases z
  · rw [if_neg g]; intro z; cases z
theorem step_ev {l : List Int} (h : Fine l) {b d : Int} (hb : b = 1 ∨ b = -1) (hd : Good d) : Ev (fun k => calendar_Calendar_step.f k (sortedOff l) d b) (stepS (worksS l) b d) := by
  unfold Good at hd
  have ew : wrap64 (d + b) = d + b := w_id (by omega) (by omega)
  unfold calendar_Calendar_step.f stepS
  simp only [ew, good_ev, Option.bind_some]
  by_cases g : Good (d + b)
  · simp only [decide_eq_true g, if_true, if_pos g]
    rcases hb with rfl | rfl
    · simp only [if_pos (show (1 : Int) > 0 by omega)]
      exact Ev.bind (next_ev h (d + 1)).1 (Ev.now _)
    · simp only [if_neg (show ¬ (-1 : Int) > 0 by omega)]
      exact Ev.bind (back_ev h (d + -1)).1 (Ev.now _)
  · simp only [decide_eq_false g, Bool.false_eq_true, if_false, if_neg g]
    exact Ev.now _
def steps (W : Int → Bool) (b : Int) : Nat → Int → Int × Int
  | 0, d => (d, 0)
  | n + 1, d => if (stepS W b d).2 = 0 then steps W b n (stepS W b d).1 else (0, (stepS W b d).2)
def moveS (W : Int → Bool) (x n : Int) : Int × Int :=
  let r := if n < 0 then backS W x else nextS W x
  if r.2 = 0 then (if n > 3660 ∨ n < -3660 then (0, 1) else steps W (if n < 0 then -1 else 1) n.natAbs r.1) else (0, r.2)
theorem l1_bad {l : List Int} (n d e : Int) (he : e ≠ 0) : Ev (fun k => calendar_Calendar_Move.l1 k n d e (sortedOff l)) (0, e) :=
  Ev.step (f := fun _ => some (0, e)) (fun k => by simp only [calendar_Calendar_Move.l1]; rw [if_neg he]) (Ev.now _)
theorem l0_bad {l : List Int} (n d e : Int) (he : e ≠ 0) : Ev (fun k => calendar_Calendar_Move.l0 k n d e (sortedOff l)) (0, e) :=
  Ev.step (f := fun k => calendar_Calendar_Move.j4 k n d e (sortedOff l)) (fun k => by simp only [calendar_Calendar_Move.l0]; rw [if_neg he]) (Ev.step (f := fun k => calendar_Calendar_Move.l1 k n d e (sortedOff l)) (fun k => rfl) (l1_bad n d e he))
theorem l0_over {l : List Int} {n d : Int} {r : Int × Int} (hn : n ≤ 0) (h : Ev (fun k => calendar_Calendar_Move.l1 k n d 0 (sortedOff l)) r) : Ev (fun k => calendar_Calendar_Move.l0 k n d 0 (sortedOff l)) r :=
  Ev.step (f := fun k => calendar_Calendar_Move.j4 k n d 0 (sortedOff l)) (fun k => by simp only [calendar_Calendar_Move.l0]; rw [if_pos trivial, if_neg (by omega)]) (Ev.step (f := fun k => calendar_Calendar_Move.l1 k n d 0 (sortedOff l)) (fun k => rfl) h)
theorem move_l1 {l : List Int} (h : Fine l) : ∀ (f : Nat) (d : Int), f ≤ 3660 → Good d → Ev (fun k => calendar_Calendar_Move.l1 k (-(f : Int)) d 0 (sortedOff l)) (steps (worksS l) (-1) f d) := by
  intro f
  induction f with
  | zero =>
    intro d _ _
    exact Ev.step (f := fun _ => some (d, 0)) (fun k => by simp only [calendar_Calendar_Move.l1]; rw [if_pos trivial, if_neg (by omega)]) (Ev.now _)
  | succ f ih =>
    intro d hf hd
    refine Ev.step (f := fun k => (calendar_Calendar_step.f k (sortedOff l) d (-1)).bind fun bt => calendar_Calendar_Move.l1 k (-(f : Int)) bt.1 bt.2 (sortedOff l)) (fun k => ?_) ?_
    · simp only [calendar_Calendar_Move.l1]
      rw [if_pos trivial, if_pos (by omega), w_id (by omega) (by omega), show -((f + 1 : Nat) : Int) + 1 = -(f : Int) by omega]
    · refine Ev.bind (step_ev h (.inr rfl) hd) ?_
      simp only [steps]
      by_cases c : (stepS (worksS l) (-1) d).2 = 0
      · rw [if_pos c]
        simp only [c]
        exact ih _ (by omega) (stepS_good _ _ _ c)
      · rw [if_neg c]
        exact l1_bad _ _ _ c
theorem move_l0 {l : List Int} (h : Fine l) : ∀ (f : Nat) (d : Int), f ≤ 3660 → Good d → Ev (fun k => calendar_Calendar_Move.l0 k (f : Int) d 0 (sortedOff l)) (steps (worksS l) 1 f d) := by
  intro f
  induction f with
  | zero =>
    intro d _ hd
    exact l0_over (by omega) (move_l1 h 0 d (by omega) hd)
  | succ f ih =>
    intro d hf hd
    refine Ev.step (f := fun k => (calendar_Calendar_step.f k (sortedOff l) d 1).bind fun bt => calendar_Calendar_Move.l0 k (f : Int) bt.1 bt.2 (sortedOff l)) (fun k => ?_) ?_
    · simp only [calendar_Calendar_Move.l0]
      rw [if_pos trivial, if_pos (by omega), w_id (by omega) (by omega), show ((f + 1 : Nat) : Int) - 1 = (f : Int) by omega]
    · refine Ev.bind (step_ev h (.inl rfl) hd) ?_
      simp only [steps]
      by_cases c : (stepS (worksS l) 1 d).2 = 0
      · rw [if_pos c]
        simp only [c]
        exact ih _ (by omega) (stepS_good _ _ _ c)
      · rw [if_neg c]
        exact l0_bad _ _ _ c
theorem nextS_good (W : Int → Bool) (x : Int) (h : (nextS W x).2 = 0) : Good (nextS W x).1 ∧ W (nextS W x).1 = true := by
  by_cases g : Good x
  · rcases nextS_is W g with ⟨y, h1, _, h3, h4, _⟩ | h1
    · rw [h1]; exact ⟨h3, h4⟩
    · rw [h1] at h; cases h
  · unfold nextS at h; rw [if_neg g] at h; cases h
theorem backS_good (W : Int → Bool) (x : Int) (h : (backS W x).2 = 0) : Good (backS W x).1 ∧ W (backS W x).1 = true := by
  by_cases g : Good x
  · rcases backS_is W g with ⟨y, h1, _, h3, h4, _⟩ | ⟨h1, _⟩
    · rw [h1]; exact ⟨h3, h4⟩
    · rw [h1] at h; cases h
  · unfold backS at h; rw [if_neg g] at h; cases h
theorem move_j0 {l : List Int} (h : Fine l) (n : Int) (r : Int × Int) (hr : r.2 = 0 → Good r.1) :
    Ev (fun k => calendar_Calendar_Move.j0 k n r.1 r.2 (sortedOff l)) (if r.2 = 0 then (if n > 3660 ∨ n < -3660 then (0, 1) else steps (worksS l) (if n < 0 then -1 else 1) n.natAbs r.1) else (0, r.2)) := by
  have bad : ∀ d e, e ≠ 0 → Ev (fun k => calendar_Calendar_Move.j2 k n d e (sortedOff l)) (0, e) := fun d e he => Ev.step (f := fun k => calendar_Calendar_Move.l0 k n d e (sortedOff l)) (fun k => rfl) (l0_bad n d e he)
  by_cases c : r.2 = 0
  · rw [if_pos c]
    by_cases q : n > 3660 ∨ n < -3660
    · rw [if_pos q]
      refine Ev.step (f := fun k => calendar_Calendar_Move.j1 k n r.1 0 true (sortedOff l)) (fun k => ?_) (Ev.step (f := fun k => calendar_Calendar_Move.j2 k n r.1 1 (sortedOff l)) (fun k => ?_) (bad r.1 1 (by omega)))
      · simp only [calendar_Calendar_Move.j0, c, if_true]
        by_cases q1 : n > 3660
        · rw [if_pos q1]
        · rw [if_neg q1, decide_eq_true (by omega)]
      · simp only [calendar_Calendar_Move.j1, if_true]
    · rw [if_neg q]
      refine Ev.step (f := fun k => calendar_Calendar_Move.j1 k n r.1 0 false (sortedOff l)) (fun k => ?_) (Ev.step (f := fun k => calendar_Calendar_Move.j2 k n r.1 0 (sortedOff l)) (fun k => ?_) (Ev.step (f := fun k => calendar_Calendar_Move.l0 k n r.1 0 (sortedOff l)) (fun k => rfl) ?_))
      · simp only [calendar_Calendar_Move.j0, c, if_true]
        rw [if_neg (by omega), decide_eq_false (by omega)]
      · simp only [calendar_Calendar_Move.j1, Bool.false_eq_true, if_false]
      · by_cases s : n < 0
        · rw [if_pos s]
          have := move_l1 h n.natAbs r.1 (by omega) (hr c)
          rw [show -(n.natAbs : Int) = n by omega] at this
          exact l0_over (by omega) this
        · rw [if_neg s]
          have := move_l0 h n.natAbs r.1 (by omega) (hr c)
          rwa [show (n.natAbs : Int) = n by omega] at this
  · rw [if_neg c]
    refine Ev.step (f := fun k => calendar_Calendar_Move.j1 k n r.1 r.2 false (sortedOff l)) (fun k => ?_) (Ev.step (f := fun k => calendar_Calendar_Move.j2 k n r.1 r.2 (sortedOff l)) (fun k => ?_) (bad r.1 r.2 c))
    · simp only [calendar_Calendar_Move.j0]
      rw [if_neg c]
    · simp only [calendar_Calendar_Move.j1, Bool.false_eq_true, if_false]
theorem move_ev {l : List Int} (h : Fine l) (x n : Int) : Ev (fun k => calendar_Calendar_Move.f k (sortedOff l) x n) (moveS (worksS l) x n) := by
  unfold calendar_Calendar_Move.f moveS
  refine Ev.bind (next_ev h x).1 ?_
  by_cases s : n < 0
  · simp only [if_pos s]
    refine Ev.bind (back_ev h x).1 ?_
    have := move_j0 h n (backS (worksS l) x) (fun q => (backS_good _ _ q).1)
    simp only [if_pos s] at this
    exact this
  · simp only [if_neg s]
    have := move_j0 h n (nextS (worksS l) x) (fun q => (nextS_good _ _ q).1)
    simp only [if_neg s] at this
    exact this
end Go.Proofs.Ytkdbolhheodfkaa.PCal
