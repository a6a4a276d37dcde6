-- a shortened text: what this claim does not name is left out (wip/xprint/prune.py of this repo)
import Derived.Test.YtjjemfbpodgihaaPLotF
import Derived.Test.YtjjemfbpodgihaaX9
import Derived.Test.YtjjemfbpodgihaaX10
namespace Go.Proofs.Ytjjemfbpodgihaa.PLot
open Go Go.RowKit Go.Proofs.Ytjjemfbpodgihaa.X Go.Proofs.YtjjemfbpodgihaaW.PrintWords Go.Proofs.YtjjemfbpodgihaaW.PrintLast Go.Proofs.YtjjemfbpodgihaaW.PrintMore
theorem chain_sorted : ∀ {l : List Lot}, (∀ j (h : j + 1 < l.length), L (key l[j]) (key l[j + 1])) → Sorted l
  | [], _ => List.Pairwise.nil
  | [x], _ => by simp [Sorted]
  | x :: y :: r, h => by
    have ih : Sorted (y :: r) := chain_sorted fun j hj => h (j + 1) (by simp at hj ⊢; omega)
    have xy : L (key x) (key y) := h 0 (by simp)
    refine List.pairwise_cons.2 ⟨fun z hz => ?_, ih⟩
    rcases List.mem_cons.1 hz with rfl | hz'
    · exact xy
    · exact L_trans xy (ih.head z hz')
theorem check_go (l : List Lot) (hl : l.length ≤ 64) : ∀ (n i : Nat), i + n = l.length → (∀ j (h : j < l.length), j < i → 1 ≤ l[j].f1 ∧ l[j].f1 ≤ M) → (∀ j (h : j + 1 < l.length), j + 1 < i → L (key l[j]) (key l[j + 1])) →
    ∃ r, Ev (fun k => lots_Check.l0 k l l (l.length : Int) (i : Int)) r ∧ Ev (fun k => lombardref17_Check.l0 k l (i : Int)) r ∧ (r.2 = 0 → Sorted l ∧ Pos l)
  | 0, i, hi, hp, hs => by
    refine ⟨((l.length : Int), 0), Ev.step (f := fun _ => some ((l.length : Int), 0)) (fun k => ?_) (Ev.now _), Ev.step (f := fun _ => some ((l.length : Int), 0)) (fun k => ?_) (Ev.now _), fun _ => ⟨chain_sorted fun j h => hs j h (by omega), fun x hx => ?_⟩⟩
    · simp only [lots_Check.l0]; rw [if_neg (by omega)]
    · simp only [lombardref17_Check.l0]; rw [if_neg (by omega)]
    · obtain ⟨j, hj, rfl⟩ := List.mem_iff_getElem.1 hx; exact hp j hj (by omega)
  | n + 1, i, hi, hp, hs => by
    have h : i < l.length := by omega
    have c1 : (i : Int) < (l.length : Int) := by omega
    have c2 : (0 : Int) ≤ (i : Int) := by omega
    have bad : Ev (fun k => lots_Check.j1 k l (i : Int) l (l.length : Int) (i : Int) true l[i].f0 l[i].f1) ((i : Int), 1) :=
      Ev.step (f := fun _ => some ((i : Int), 1)) (fun k => by simp only [lots_Check.j1]; rw [if_pos trivial]) (Ev.now _)
    by_cases g : 1 ≤ l[i].f1 ∧ l[i].f1 ≤ 1125899906842624
    · have good : lombardref17_good.f l[i].f1 = some true := by unfold lombardref17_good.f; rw [if_pos (by omega), decide_eq_true g.2]
      have st : ∀ r, Ev (fun k => lots_Check.j1 k l (i : Int) l (l.length : Int) (i : Int) false l[i].f0 l[i].f1) r → Ev (fun k => lots_Check.l0 k l l (l.length : Int) (i : Int)) r := fun r e => by
        refine Ev.step (fun k => ?_) e
        simp only [lots_Check.l0, rd_at h]
        rw [if_pos c1, if_pos c2, if_pos c1, if_neg (by omega), decide_eq_false (by omega)]
      have hp' : ∀ j (h : j < l.length), j < i + 1 → 1 ≤ l[j].f1 ∧ l[j].f1 ≤ M := fun j hj hji => by
        rcases Nat.lt_or_ge j i with z | z
        · exact hp j hj z
        · obtain rfl : j = i := by omega
          exact g
      by_cases z : i = 0
      · subst z
        obtain ⟨r, a, b, c⟩ := check_go l hl n 1 (by omega) hp' (fun j hj hji => by omega)
        refine ⟨r, st r (Ev.step (fun k => ?_) a), Ev.step (fun k => ?_) b, c⟩
        · simp only [lots_Check.j1]
          rw [if_neg (by simp), if_neg (by omega), up h (by omega)]
        · simp only [lombardref17_Check.l0, rd_at h, good, Option.bind_some]
          rw [if_pos c1, if_pos c2, if_pos trivial, if_neg (by omega), up h (by omega)]
      · have hm : i - 1 < l.length := by omega
        have em : wrap64 ((i : Int) - 1) = ((i - 1 : Nat) : Int) := by rw [w_id (by omega) (by omega)]; omega
        have c3 : (i : Int) > 0 := by omega
        have c4 : (0 : Int) ≤ ((i - 1 : Nat) : Int) := by omega
        have c5 : ((i - 1 : Nat) : Int) < (l.length : Int) := by omega
        by_cases d : L l[i - 1].f0.toList l[i].f0.toList
        · obtain ⟨r, a, b, c⟩ := check_go l hl n (i + 1) (by omega) hp' (fun j hj hji => by
            rcases Nat.lt_or_ge (j + 1) i with y | y
            · exact hs j hj y
            · obtain rfl : j = i - 1 := by omega
              have e : i - 1 + 1 = i := by omega
              simp only [e]
              exact d)
          unfold L at d
          refine ⟨r, st r (Ev.step (fun k => ?_) a), Ev.step (fun k => ?_) b, c⟩
          · simp only [lots_Check.j1, em, rd_at hm]
            rw [if_neg (by simp), if_pos c3, if_pos c4, if_pos c5, if_pos d, up h (by omega)]
          · simp only [lombardref17_Check.l0, rd_at h, good, Option.bind_some, em, rd_at hm]
            rw [if_pos c1, if_pos c2, if_pos trivial, if_pos c3, if_pos c4, if_pos c5, if_pos d, up h (by omega)]
        · unfold L at d
          refine ⟨((i : Int), 7), st _ (Ev.step (f := fun _ => some ((i : Int), 7)) (fun k => ?_) (Ev.now _)), Ev.step (f := fun _ => some ((i : Int), 7)) (fun k => ?_) (Ev.now _), fun e => by cases e⟩
          · simp only [lots_Check.j1, em, rd_at hm]
            rw [if_neg (by simp), if_pos c3, if_pos c4, if_pos c5, if_neg d]
          · simp only [lombardref17_Check.l0, rd_at h, good, Option.bind_some, em, rd_at hm]
            rw [if_pos c1, if_pos c2, if_pos trivial, if_pos c3, if_pos c4, if_pos c5, if_neg d]
    · have nogood : lombardref17_good.f l[i].f1 = some false := by
        unfold lombardref17_good.f
        by_cases a : l[i].f1 ≥ 1
        · rw [if_pos a, decide_eq_false (fun b => g ⟨a, b⟩)]
        · rw [if_neg a]
      refine ⟨((i : Int), 1), Ev.step (fun k => ?_) bad, Ev.step (f := fun _ => some ((i : Int), 1)) (fun k => ?_) (Ev.now _), fun e => by cases e⟩
      · simp only [lots_Check.l0, rd_at h]
        rw [if_pos c1, if_pos c2, if_pos c1]
        by_cases a : l[i].f1 < 1
        · rw [if_pos a]
        · rw [if_neg a, decide_eq_true (show l[i].f1 > 1125899906842624 by omega)]
      · simp only [lombardref17_Check.l0, rd_at h, nogood, Option.bind_some]
        rw [if_pos c1, if_pos c2, if_neg (by simp)]
theorem check_ev (l : List Lot) : ∃ r, Ev (fun k => lots_Check.f k l) r ∧ Ev (fun k => lombardref17_Check.f k l) r ∧ (r.2 = 0 → Sorted l ∧ Pos l ∧ l.length ≤ 64) := by
  unfold lots_Check.f lombardref17_Check.f
  by_cases c : (l.length : Int) > 64
  · simp only [if_pos c]
    exact ⟨(0, 2), Ev.now _, Ev.now _, fun e => by cases e⟩
  · simp only [if_neg c]
    obtain ⟨r, a, b, d⟩ := check_go l (by omega) l.length 0 (by omega) (fun j h hj => by omega) (fun j h hj => by omega)
    exact ⟨r, a, b, fun e => ⟨(d e).1, (d e).2, by omega⟩⟩
end Go.Proofs.Ytjjemfbpodgihaa.PLot
