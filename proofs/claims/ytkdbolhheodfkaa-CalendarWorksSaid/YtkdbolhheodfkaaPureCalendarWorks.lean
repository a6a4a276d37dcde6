/- CalendarWorks: where New makes a calendar the law's printed function answers true; what Check answers. -/
import Derived.Test.YtkdbolhheodfkaaPCalD
import Derived.Test.YtkdbolhheodfkaaNEWB
import Derived.Test.YtkdbolhheodfkaaX11
namespace Go.Proofs.Ytkdbolhheodfkaa.PCal
open Go Go.RowKit Go.Proofs.Ytkdbolhheodfkaa.X Go.Proofs.YtkdbolhheodfkaaW.PrintWords Go.Proofs.YtkdbolhheodfkaaW.PrintLast Go.Proofs.YtkdbolhheodfkaaW.PrintMore

def okAll (l : List Int) : Bool := l.all fun x => decide (0 ≤ x ∧ x ≤ 200000)
theorem okAll_iff (l : List Int) : okAll l = true ↔ ∀ x ∈ l, 0 ≤ x ∧ x ≤ 200000 := by
  unfold okAll
  rw [List.all_eq_true]
  exact ⟨fun h x hx => of_decide_eq_true (h x hx), fun h x hx => decide_eq_true (h x hx)⟩
theorem check_l0 {l : List Int} (hl : l.length ≤ 256) : ∀ (f i : Nat), i + f = l.length → Ev (fun k => lombardref02_Check.l0 k l i) (if okAll (l.drop i) = true then 0 else 10) := by
  intro f
  induction f with
  | zero =>
    intro i hi
    rw [List.drop_of_length_le (by omega), if_pos (show okAll [] = true from rfl)]
    exact Ev.step (f := fun _ => some 0) (fun k => by simp only [lombardref02_Check.l0]; rw [if_neg (by omega)]) (Ev.now _)
  | succ f ih =>
    intro i hi
    have hi2 : i < l.length := by omega
    have er : rd l (i : Int) = l[i] := by unfold rd; rw [Int.toNat_natCast, List.getD_eq_getElem?_getD, List.getElem?_eq_getElem hi2]; rfl
    have ed : l.drop i = l[i] :: l.drop (i + 1) := (List.getElem_cons_drop hi2).symm
    by_cases c : 0 ≤ l[i] ∧ l[i] ≤ 200000
    · have hh := ih (i + 1) (by omega)
      have e : okAll (l.drop i) = okAll (l.drop (i + 1)) := by
        rw [ed]
        unfold okAll
        rw [List.all_cons, decide_eq_true c, Bool.true_and]
      rw [e]
      refine Ev.step (fun k => ?_) hh
      simp only [lombardref02_Check.l0, er, rgood_eq, Option.bind_some]
      rw [if_pos (by omega), if_pos (by omega), decide_eq_true c, if_pos rfl, w_id (by omega) (by omega)]
      rfl
    · rw [if_neg (fun z => c ((okAll_iff _).1 z _ (by rw [ed]; exact List.mem_cons_self)))]
      refine Ev.step (f := fun _ => some 10) (fun k => ?_) (Ev.now _)
      simp only [lombardref02_Check.l0, er, rgood_eq, Option.bind_some]
      rw [if_pos (by omega), if_pos (by omega), decide_eq_false c, if_neg (by simp)]
theorem check_ev (l : List Int) : Ev (fun k => lombardref02_Check.f k l) (if l.length ≤ 256 then (if okAll l = true then 0 else 10) else 2) := by
  unfold lombardref02_Check.f
  by_cases c : l.length ≤ 256
  · simp only [if_pos c, if_neg (show ¬ (l.length : Int) > 256 by omega)]
    exact check_l0 c l.length 0 (by omega)
  · simp only [if_neg c, if_pos (show (l.length : Int) > 256 by omega)]
    exact Ev.now _
theorem check_bad {l : List Int} (h : ¬ New.fine l) : ∃ k, lombardref02_Check.f k l = some (if l.length ≤ 256 then 10 else 2) := by
  have := Ev.rounds (check_ev l)
  by_cases c : l.length ≤ 256
  · rw [if_pos c, if_neg (fun z => h ⟨c, (okAll_iff _).1 z⟩)] at this
    rwa [if_pos c]
  · rw [if_neg c] at this
    rwa [if_neg c]
theorem check_fine {l : List Int} (h : Fine l) : Ev (fun k => lombardref02_Check.f k l) 0 := by
  have := check_ev l
  rwa [if_pos h.1, if_pos ((okAll_iff _).2 h.2)] at this
theorem wf_le {x : Int} (h : (Lit.int .i64 x).wf = true) : x ≤ 9223372036854775807 := by
  simp only [Lit.wf, IntKind.min, IntKind.max, IntKind.signed, IntKind.bits, Bool.and_eq_true, decide_eq_true_eq, if_true] at h
  omega
theorem works_law {l : List Int} (h : Fine l) (a b c : Int) (wb : b ≤ 9223372036854775807) (wc : c ≤ 9223372036854775807) : ∃ k, lombardlaw02_CalendarWorks.f k l a b c = some true := by
  apply Ev.rounds
  unfold lombardlaw02_CalendarWorks.f
  simp only [new_eq h, Option.bind_some]
  refine Ev.bind (check_fine h) ?_
  simp only [if_true]
  have j1 : ∀ q, Ev (fun k => lombardlaw02_CalendarWorks.j1 k b c q (sortedOff l) l) true := fun q => by
    refine Ev.step (f := fun k => if q = true then (lombardlaw02_awake.f k).bind fun t => some t else (calendar_Calendar_Count.f k (sortedOff l) b c).bind fun t1 => (lombardref02_Calendar_Count.f k l b c).bind fun t2 => if t1 = t2 then (lombardlaw02_awake.f k).bind fun t => some t else some false) (fun k => by simp only [lombardlaw02_CalendarWorks.j1]) ?_
    cases q with
    | true => simp only [if_true]; exact Ev.bind awake_ev (Ev.now _)
    | false =>
      simp only [Bool.false_eq_true, if_false]
      refine Ev.bind (count_ev h b c wb wc) (Ev.bind (rcount_ev h b c) ?_)
      simp only [if_true]
      exact Ev.bind awake_ev (Ev.now _)
  refine Ev.step (f := fun k => (lombardref02_Calendar_Works.f k l a).bind fun t => if (worksS l a != t) = true then some false else if (l.length : Int) > 20 then lombardlaw02_CalendarWorks.j1 k b c true (sortedOff l) l else lombardlaw02_CalendarWorks.j1 k b c (decide (c > 3000)) (sortedOff l) l) (fun k => ?_) ?_
  · simp only [lombardlaw02_CalendarWorks.j0, works_eq h, Option.bind_some]
    rw [if_neg (by decide), if_pos trivial]
  · refine Ev.bind (rworks_ev h a) ?_
    simp only [bne_self_eq_false, Bool.false_eq_true, if_false]
    by_cases q : (l.length : Int) > 20
    · simp only [if_pos q]; exact j1 _
    · simp only [if_neg q]; exact j1 _
end Go.Proofs.Ytkdbolhheodfkaa.PCal
