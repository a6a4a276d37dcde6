-- a shortened text: what this claim does not name is left out (wip/xprint/prune.py of this repo)
import Derived.Test.YtkdbolhheodfkaaPCalD
import Derived.Test.YtkdbolhheodfkaaX12
import Derived.Test.YtkdbolhheodfkaaX13
namespace Go.Proofs.Ytkdbolhheodfkaa.PCal
open Go Go.RowKit Go.Proofs.Ytkdbolhheodfkaa.X Go.Proofs.YtkdbolhheodfkaaW.PrintWords Go.Proofs.YtkdbolhheodfkaaW.PrintLast Go.Proofs.YtkdbolhheodfkaaW.PrintMore
def up (W : Int → Bool) : Nat → Int → Int × Int
  | 0, _ => (0, 6)
  | f + 1, x => if W x = true then (x, 0) else up W f (x + 1)
def down (W : Int → Bool) : Nat → Int → Int × Int
  | 0, _ => (0, 6)
  | f + 1, x => if W x = true then (x, 0) else down W f (x - 1)
def nextS (W : Int → Bool) (x : Int) : Int × Int := if Good x then up W (200001 - x).toNat x else (0, 10)
def backS (W : Int → Bool) (x : Int) : Int × Int := if Good x then down W (x + 1).toNat x else (0, 10)
theorem next_l0 {l : List Int} (h : Fine l) : ∀ (f : Nat) (x : Int), 0 ≤ x → x + f = 200001 → Ev (fun k => calendar_Calendar_Next.l0 k x (sortedOff l)) (up (worksS l) f x) ∧ Ev (fun k => lombardref02_Calendar_Go.l0 k x 1 l) (up (worksS l) f x) := by
  intro f
  induction f with
  | zero =>
    intro x x0 hx
    refine ⟨Ev.step (f := fun _ => some (0, 6)) (fun k => ?_) (Ev.now _), Ev.step (f := fun _ => some (0, 6)) (fun k => ?_) (Ev.now _)⟩
    · simp only [calendar_Calendar_Next.l0, good_eq, Option.bind_some]
      rw [decide_eq_false (by omega), if_neg (by simp)]
    · simp only [lombardref02_Calendar_Go.l0, rgood_eq, Option.bind_some]
      rw [decide_eq_false (by omega), if_neg (by simp)]
  | succ f ih =>
    intro x x0 hx
    obtain ⟨i1, i2⟩ := ih (x + 1) (by omega) (by omega)
    have g : decide (0 ≤ x ∧ x ≤ 200000) = true := decide_eq_true (by omega)
    have ew : wrap64 (x + 1) = x + 1 := w_id (by omega) (by omega)
    simp only [up]
    constructor
    · refine Ev.step (f := fun k => if worksS l x = true then some (x, 0) else calendar_Calendar_Next.l0 k (x + 1) (sortedOff l)) (fun k => ?_) ?_
      · simp only [calendar_Calendar_Next.l0, good_eq, works_eq h, Option.bind_some, g, if_true, ew]
      · by_cases q : worksS l x = true
        · simp only [if_pos q]; exact Ev.now _
        · simp only [if_neg q]; exact i1
    · refine Ev.step (f := fun k => (lombardref02_Calendar_Works.f k l x).bind fun t => if t = true then some (x, 0) else lombardref02_Calendar_Go.l0 k (x + 1) 1 l) (fun k => ?_) ?_
      · simp only [lombardref02_Calendar_Go.l0, rgood_eq, Option.bind_some, g, if_true, ew]
      · refine Ev.bind (rworks_ev h x) ?_
        by_cases q : worksS l x = true
        · simp only [if_pos q]; exact Ev.now _
        · simp only [if_neg q]; exact i2
theorem back_l0 {l : List Int} (h : Fine l) : ∀ (f : Nat) (x : Int), x ≤ 200000 → (f : Int) = x + 1 → Ev (fun k => calendar_Calendar_Back.l0 k x (sortedOff l)) (down (worksS l) f x) ∧ Ev (fun k => lombardref02_Calendar_Go.l0 k x (-1) l) (down (worksS l) f x) := by
  intro f
  induction f with
  | zero =>
    intro x x0 hx
    refine ⟨Ev.step (f := fun _ => some (0, 6)) (fun k => ?_) (Ev.now _), Ev.step (f := fun _ => some (0, 6)) (fun k => ?_) (Ev.now _)⟩
    · simp only [calendar_Calendar_Back.l0, good_eq, Option.bind_some]
      rw [decide_eq_false (by omega), if_neg (by simp)]
    · simp only [lombardref02_Calendar_Go.l0, rgood_eq, Option.bind_some]
      rw [decide_eq_false (by omega), if_neg (by simp)]
  | succ f ih =>
    intro x x0 hx
    obtain ⟨i1, i2⟩ := ih (x - 1) (by omega) (by omega)
    have g : decide (0 ≤ x ∧ x ≤ 200000) = true := decide_eq_true (by omega)
    have ew : wrap64 (x - 1) = x - 1 := w_id (by omega) (by omega)
    have ew2 : wrap64 (x + -1) = x - 1 := w_id (x := x - 1) (by omega) (by omega)
    simp only [down]
    constructor
    · refine Ev.step (f := fun k => if worksS l x = true then some (x, 0) else calendar_Calendar_Back.l0 k (x - 1) (sortedOff l)) (fun k => ?_) ?_
      · simp only [calendar_Calendar_Back.l0, good_eq, works_eq h, Option.bind_some, g, if_true, ew]
      · by_cases q : worksS l x = true
        · simp only [if_pos q]; exact Ev.now _
        · simp only [if_neg q]; exact i1
    · refine Ev.step (f := fun k => (lombardref02_Calendar_Works.f k l x).bind fun t => if t = true then some (x, 0) else lombardref02_Calendar_Go.l0 k (x - 1) (-1) l) (fun k => ?_) ?_
      · simp only [lombardref02_Calendar_Go.l0, rgood_eq, Option.bind_some, g, if_true, ew2]
      · refine Ev.bind (rworks_ev h x) ?_
        by_cases q : worksS l x = true
        · simp only [if_pos q]; exact Ev.now _
        · simp only [if_neg q]; exact i2
theorem next_ev {l : List Int} (h : Fine l) (x : Int) : Ev (fun k => calendar_Calendar_Next.f k (sortedOff l) x) (nextS (worksS l) x) ∧ Ev (fun k => lombardref02_Calendar_Go.f k l x 1) (nextS (worksS l) x) := by
  unfold calendar_Calendar_Next.f lombardref02_Calendar_Go.f
  simp only [good_eq, rgood_eq, Option.bind_some]
  by_cases g : Good x
  · have e : nextS (worksS l) x = up (worksS l) (200001 - x).toNat x := if_pos g
    rw [e]
    simp only [decide_eq_true (show 0 ≤ x ∧ x ≤ 200000 from g), if_true]
    exact next_l0 h _ x g.1 (by unfold Good at g; omega)
  · have e : nextS (worksS l) x = (0, 10) := if_neg g
    rw [e]
    simp only [decide_eq_false (show ¬ (0 ≤ x ∧ x ≤ 200000) from g), Bool.false_eq_true, if_false]
    exact ⟨Ev.now _, Ev.now _⟩
theorem back_ev {l : List Int} (h : Fine l) (x : Int) : Ev (fun k => calendar_Calendar_Back.f k (sortedOff l) x) (backS (worksS l) x) ∧ Ev (fun k => lombardref02_Calendar_Go.f k l x (-1)) (backS (worksS l) x) := by
  unfold calendar_Calendar_Back.f lombardref02_Calendar_Go.f
  simp only [good_eq, rgood_eq, Option.bind_some]
  by_cases g : Good x
  · have e : backS (worksS l) x = down (worksS l) (x + 1).toNat x := if_pos g
    rw [e]
    simp only [decide_eq_true (show 0 ≤ x ∧ x ≤ 200000 from g), if_true]
    exact back_l0 h _ x g.2 (by unfold Good at g; omega)
  · have e : backS (worksS l) x = (0, 10) := if_neg g
    rw [e]
    simp only [decide_eq_false (show ¬ (0 ≤ x ∧ x ≤ 200000) from g), Bool.false_eq_true, if_false]
    exact ⟨Ev.now _, Ev.now _⟩
theorem up_is (W : Int → Bool) : ∀ (f : Nat) (x : Int), (∃ y, up W f x = (y, 0) ∧ x ≤ y ∧ y < x + f ∧ W y = true ∧ ∀ z, x ≤ z → z < y → W z = false) ∨ (up W f x = (0, 6) ∧ ∀ z, x ≤ z → z < x + f → W z = false)
  | 0, x => .inr ⟨rfl, fun z h1 h2 => by omega⟩
  | f + 1, x => by
    simp only [up]
    by_cases q : W x = true
    · rw [if_pos q]
      exact .inl ⟨x, rfl, by omega, by omega, q, fun z h1 h2 => by omega⟩
    · rw [if_neg q]
      have q2 : W x = false := by simpa using q
      rcases up_is W f (x + 1) with ⟨y, h1, h2, h3, h4, h5⟩ | ⟨h1, h2⟩
      · exact .inl ⟨y, h1, by omega, by omega, h4, fun z z1 z2 => by
          by_cases c : z = x
          · rw [c]; exact q2
          · exact h5 z (by omega) z2⟩
      · exact .inr ⟨h1, fun z z1 z2 => by
          by_cases c : z = x
          · rw [c]; exact q2
          · exact h2 z (by omega) (by omega)⟩
theorem down_is (W : Int → Bool) : ∀ (f : Nat) (x : Int), (∃ y, down W f x = (y, 0) ∧ y ≤ x ∧ x < y + f ∧ W y = true ∧ ∀ z, y < z → z ≤ x → W z = false) ∨ (down W f x = (0, 6) ∧ ∀ z, x < z + f → z ≤ x → W z = false)
  | 0, x => .inr ⟨rfl, fun z h1 h2 => by omega⟩
  | f + 1, x => by
    simp only [down]
    by_cases q : W x = true
    · rw [if_pos q]
      exact .inl ⟨x, rfl, by omega, by omega, q, fun z h1 h2 => by omega⟩
    · rw [if_neg q]
      have q2 : W x = false := by simpa using q
      rcases down_is W f (x - 1) with ⟨y, h1, h2, h3, h4, h5⟩ | ⟨h1, h2⟩
      · exact .inl ⟨y, h1, by omega, by omega, h4, fun z z1 z2 => by
          by_cases c : z = x
          · rw [c]; exact q2
          · exact h5 z z1 (by omega)⟩
      · exact .inr ⟨h1, fun z z1 z2 => by
          by_cases c : z = x
          · rw [c]; exact q2
          · exact h2 z (by omega) (by omega)⟩
theorem nextS_is (W : Int → Bool) {x : Int} (g : Good x) : (∃ y, nextS W x = (y, 0) ∧ x ≤ y ∧ Good y ∧ W y = true ∧ ∀ z, x ≤ z → z < y → W z = false) ∨ nextS W x = (0, 6) := by
  unfold nextS
  rw [if_pos g]
  unfold Good at g
  rcases up_is W (200001 - x).toNat x with ⟨y, h1, h2, h3, h4, h5⟩ | ⟨h1, h2⟩
  · exact .inl ⟨y, h1, h2, by unfold Good; omega, h4, h5⟩
  · exact .inr h1
theorem backS_is (W : Int → Bool) {x : Int} (g : Good x) : (∃ y, backS W x = (y, 0) ∧ y ≤ x ∧ Good y ∧ W y = true ∧ ∀ z, y < z → z ≤ x → W z = false) ∨ (backS W x = (0, 6) ∧ ∀ z, 0 ≤ z → z ≤ x → W z = false) := by
  unfold backS
  rw [if_pos g]
  unfold Good at g
  rcases down_is W (x + 1).toNat x with ⟨y, h1, h2, h3, h4, h5⟩ | ⟨h1, h2⟩
  · exact .inl ⟨y, h1, h2, by unfold Good; omega, h4, h5⟩
  · exact .inr ⟨h1, fun z z1 z2 => h2 z (by omega) z2⟩
theorem backS_good (W : Int → Bool) (x : Int) (h : (backS W x).2 = 0) : Good (backS W x).1 ∧ W (backS W x).1 = true := by
  by_cases g : Good x
  · rcases backS_is W g with ⟨y, h1, _, h3, h4, _⟩ | ⟨h1, _⟩
    · rw [h1]; exact ⟨h3, h4⟩
    · rw [h1] at h; cases h
  · unfold backS at h; rw [if_neg g] at h; cases h
end Go.Proofs.Ytkdbolhheodfkaa.PCal
