-- a shortened text: what this claim does not name is left out (wip/xprint/prune.py of this repo)
import Derived.Test.YtkdbolhheodfkaaNEWB
import Derived.Test.YtkdbolhheodfkaaPureCalendarWorks
namespace Go.Proofs.Ytkdbolhheodfkaa.X
open Go Go.RowKit Go.Proofs.YtkdbolhheodfkaaW.PrintWords Go.Proofs.YtkdbolhheodfkaaW.PrintLast Go.Proofs.YtkdbolhheodfkaaW.PrintMore
set_option linter.unusedVariables false
theorem CalendarWorks_bad (A0 : Option Addr) (c0 : Nat) (l0 : List Int) (a1 a2 a3 : Int) (w : World) (hC : Kd.C (Kd.int .i64) w A0 l0.length l0) (hc0 : l0.length ≤ c0) (hm : l0.length ≤ maxLen) (h : ¬ New.fine l0) :
    Calls Try.prog 5 #[.slice A0 l0.length c0, .int .i64 a1, .int .i64 a2, .int .i64 a3] w fun e w' => e = .returned (.bool true) ∧ Below w.heap.size w w' := by
  obtain ⟨v, hv, hck⟩ : ∃ v, (v = (if l0.length ≤ 256 then 10 else 2)) ∧ ∃ k, lombardref02_Check.f k l0 = some v := ⟨_, rfl, PCal.check_bad h⟩
  obtain ⟨k, hck⟩ := hck
  obtain ⟨k2, haw⟩ := Ev.rounds PCal.awake_ev
  have hnew := calendar_New.bad A0 c0 l0 w hC hc0 hm h
  rw [← hv] at hnew
  have hchk : ∀ m, Calls Try.prog 21 #[.slice A0 l0.length c0] (w.drewN m) fun e w' => e = .returned (.int .i64 v) ∧ ∃ m, w' = w.drewN m := fun m => by
    refine (lombardref02_Check.calls k A0 c0 l0 v (w.drewN m) (Kd.C_below hC (pw_below_drewN (Below.refl _ _) m)) hc0 hck).mono ?_
    rintro e w' ⟨rfl, n, rfl⟩
    exact ⟨rfl, _, World.drewN_drewN _ _ _⟩
  have hv2 : v = 10 ∨ v = 2 := by rw [hv]; split <;> simp
  have HN := Aside0.mk hnew
  have HK := Aside0.mk hchk
  have HA := Aside0.mk haw
  generalize l0.length = n at *
  clear hnew hchk haw hck hC hc0 hm h hv
  rcases hv2 with rfl | rfl
  all_goals
    go_enter Try.func5, Try.ntmps5
    go_wp2_with (first
      | (go_at_call 20; refine HN.out.mono ?_; rintro e w1 ⟨rfl, n1, rfl⟩)
      | (go_at_call 21; refine (HK.out _).mono ?_; rintro e w1 ⟨rfl, n2, rfl⟩)
      | (go_at_call 19; refine (lombardlaw02_awake.calls k2 true _ HA.out).mono ?_; rintro e w3 ⟨rfl, hb⟩))
    go_ret
    exact ⟨rfl, below_step (pw_below_drewN (Below.refl _ _) _) hb⟩
theorem CalendarWorks_walk (a0 : Option Addr) (len0 cap0 : Nat) (z0 : List Int) (a1 : Int) (a2 : Int) (a3 : Int) (w : World) (w0 : (a0 = none ∧ len0 = 0 ∧ cap0 = 0 ∧ z0 = []) ∨ ∃ x, a0 = some x ∧ len0 ≤ cap0 ∧ cap0 ≤ maxLen ∧ z0.length = cap0 ∧ (∀ i, i < z0.length → w.cell? (x.add i) = some (.int .i64 (z0.getD i 0))) ∧ ∀ n ∈ z0, (Lit.int .i64 n).wf = true) (y0 : len0 * 8 ≤ 140737488351232) (w1 : (Lit.int .i64 a1).wf = true) (w2 : (Lit.int .i64 a2).wf = true) (w3 : (Lit.int .i64 a3).wf = true) :
    Calls Try.prog 5 #[.slice a0 len0 cap0, .int .i64 a1, .int .i64 a2, .int .i64 a3] w fun e w' => e = .returned (.bool true) ∧ Below w.heap.size w w' := by
  obtain ⟨l0, rfl, hr0, hm0, hw0, hc0⟩ := ReadsInt.ofRowC w0
  have hC : Kd.C (Kd.int .i64) w a0 l0.length l0 := Kd.C_of_reads (d := (0 : Int)) (h1 := fun _ => rfl) hr0
  by_cases c : New.fine l0
  · obtain ⟨k, h⟩ := PCal.works_law c a1 a2 a3 (PCal.wf_le w2) (PCal.wf_le w3)
    exact lombardlaw02_CalendarWorks.calls k _ _ l0 a1 a2 a3 true w hC hc0 h
  · exact CalendarWorks_bad a0 cap0 l0 a1 a2 a3 w hC hc0 hm0 c
end Go.Proofs.Ytkdbolhheodfkaa.X
