-- a shortened text: what this claim does not name is left out (wip/xprint/prune.py of this repo)
import Derived.Test.YtkdbolhheodfkaaNEWB
import Derived.Test.YtkdbolhheodfkaaPureCalendarThere
namespace Go.Proofs.Ytkdbolhheodfkaa.X
open Go Go.RowKit Go.Proofs.YtkdbolhheodfkaaW.PrintWords Go.Proofs.YtkdbolhheodfkaaW.PrintLast Go.Proofs.YtkdbolhheodfkaaW.PrintMore
set_option linter.unusedVariables false
theorem CalendarThere_bad (A0 : Option Addr) (c0 : Nat) (l0 : List Int) (a1 a2 : Int) (w : World) (hC : Kd.C (Kd.int .i64) w A0 l0.length l0) (hc0 : l0.length ≤ c0) (hm : l0.length ≤ maxLen) (h : ¬ New.fine l0) :
    Calls Try.prog 8 #[.slice A0 l0.length c0, .int .i64 a1, .int .i64 a2] w fun e w' => e = .returned (.bool true) ∧ Below w.heap.size w w' := by
  obtain ⟨v, hv⟩ : ∃ v : Int, v = (if l0.length ≤ 256 then 10 else 2) := ⟨_, rfl⟩
  obtain ⟨k2, haw⟩ := Ev.rounds PCal.awake_ev
  have hnew := calendar_New.bad A0 c0 l0 w hC hc0 hm h
  rw [← hv] at hnew
  have hv2 : v = 10 ∨ v = 2 := by rw [hv]; split <;> simp
  have HN := Aside0.mk hnew
  have HA := Aside0.mk haw
  generalize l0.length = n at *
  clear hnew haw hC hc0 hm h hv
  rcases hv2 with rfl | rfl
  all_goals
    go_enter Try.func8, Try.ntmps8
    go_wp2_with (first
      | (go_at_call 20; refine HN.out.mono ?_; rintro e w1 ⟨rfl, n1, rfl⟩)
      | (go_at_call 19; refine (lombardlaw02_awake.calls k2 true _ HA.out).mono ?_; rintro e w3 ⟨rfl, hb⟩))
    go_ret
    exact ⟨rfl, below_step (pw_below_drewN (Below.refl _ _) _) hb⟩
theorem CalendarThere_walk (a0 : Option Addr) (len0 cap0 : Nat) (z0 : List Int) (a1 : Int) (a2 : Int) (w : World) (w0 : (a0 = none ∧ len0 = 0 ∧ cap0 = 0 ∧ z0 = []) ∨ ∃ x, a0 = some x ∧ len0 ≤ cap0 ∧ cap0 ≤ maxLen ∧ z0.length = cap0 ∧ (∀ i, i < z0.length → w.cell? (x.add i) = some (.int .i64 (z0.getD i 0))) ∧ ∀ n ∈ z0, (Lit.int .i64 n).wf = true) (y0 : len0 * 8 ≤ 140737488351232) (w1 : (Lit.int .i64 a1).wf = true) (w2 : (Lit.int .i64 a2).wf = true) :
    Calls Try.prog 8 #[.slice a0 len0 cap0, .int .i64 a1, .int .i64 a2] w fun e w' => e = .returned (.bool true) ∧ Below w.heap.size w w' := by
  obtain ⟨l0, rfl, hr0, hm0, hw0, hc0⟩ := ReadsInt.ofRowC w0
  have hC : Kd.C (Kd.int .i64) w a0 l0.length l0 := Kd.C_of_reads (d := (0 : Int)) (h1 := fun _ => rfl) hr0
  by_cases c : New.fine l0
  · obtain ⟨k, h⟩ := PCal.there_law c a1 a2 (PCal.wf_le w1)
    exact lombardlaw02_CalendarThere.calls k _ _ l0 a1 a2 true w hC hc0 h
  · exact CalendarThere_bad a0 cap0 l0 a1 a2 w hC hc0 hm0 c
end Go.Proofs.Ytkdbolhheodfkaa.X
