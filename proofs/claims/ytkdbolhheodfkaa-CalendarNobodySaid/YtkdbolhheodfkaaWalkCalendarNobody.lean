-- a shortened text: what this claim does not name is left out (wip/xprint/prune.py of this repo)
import Derived.Test.YtkdbolhheodfkaaPCalC
import Derived.Test.YtkdbolhheodfkaaX14
import Derived.Test.YtkdbolhheodfkaaX15
namespace Go.Proofs.Ytkdbolhheodfkaa.X
open Go Go.RowKit Go.Proofs.YtkdbolhheodfkaaW.PrintWords Go.Proofs.YtkdbolhheodfkaaW.PrintLast Go.Proofs.YtkdbolhheodfkaaW.PrintMore
set_option linter.unusedVariables false
attribute [local go_sem] max2_int min2_int max_two min_two max_three min_three max_four min_four
theorem Next_nil (a : Int) (w : World) : Calls Try.prog 26 #[.pointer none, .int .i64 a] w fun e w' => e = .returned (.tuple #[.int .i64 0, .int .i64 3]) ∧ ∃ n, w' = w.drewN n := by
  go_enter Try.func26, Try.ntmps26
  go_wp2
  go_ret2
  exact ⟨rfl, 0, rfl⟩
theorem Back_nil (a : Int) (w : World) : Calls Try.prog 28 #[.pointer none, .int .i64 a] w fun e w' => e = .returned (.tuple #[.int .i64 0, .int .i64 3]) ∧ ∃ n, w' = w.drewN n := by
  go_enter Try.func28, Try.ntmps28
  go_wp2
  go_ret2
  exact ⟨rfl, 0, rfl⟩
theorem Works_nil (a : Int) (w : World) : Calls Try.prog 22 #[.pointer none, .int .i64 a] w fun e w' => e = .returned (.bool false) ∧ ∃ n, w' = w.drewN n := by
  go_enter Try.func22, Try.ntmps22
  go_wp2
  go_ret
  exact ⟨rfl, 0, rfl⟩
theorem Roll_nil (a : Int) (w : World) : Calls Try.prog 31 #[.pointer none, .int .i64 a] w fun e w' => e = .returned (.tuple #[.int .i64 0, .int .i64 3]) ∧ ∃ n, w' = w.drewN n := by
  go_enter Try.func31, Try.ntmps31
  go_wp2_with (first | (go_at_call 26; refine (Next_nil _ _).mono ?_; rintro e w1 ⟨rfl, n1, rfl⟩))
  go_ret2
  exact ⟨rfl, _, rfl⟩
theorem Months_nil (a b : Int) (w : World) : Calls Try.prog 33 #[.pointer none, .int .i64 a, .int .i64 b] w fun e w' => e = .returned (.tuple #[.int .i64 0, .int .i64 3]) ∧ ∃ n, w' = w.drewN n := by
  go_enter Try.func33, Try.ntmps33
  go_wp2
  go_ret2
  exact ⟨rfl, 0, rfl⟩
theorem Move_nil (a b : Int) (w : World) : Calls Try.prog 29 #[.pointer none, .int .i64 a, .int .i64 b] w fun e w' => e = .returned (.tuple #[.int .i64 0, .int .i64 3]) ∧ ∃ n, w' = w.drewN n := by
  obtain ⟨cb, hc⟩ : ∃ cb, decide (b < 0) = cb := ⟨_, rfl⟩
  cases cb
  all_goals
    go_enter Try.func29, Try.ntmps29
    go_wp2_with (first | (go_at_call 26; refine (Next_nil _ _).mono ?_; rintro e w1 ⟨rfl, n1, rfl⟩) | (go_at_call 28; refine (Back_nil _ _).mono ?_; rintro e w1 ⟨rfl, n2, rfl⟩))
    go_loopg [2, 8, 9] 0 (fun g s2 s8 s9 wr => s2 = .int .i64 b ∧ s8 = .int .i64 0 ∧ s9 = .int .i64 3 ∧ ∃ q, wr = w.drewN q)
    case atStart => exact ⟨rfl, rfl, rfl, _, rfl⟩
    case round =>
      obtain ⟨rfl, rfl, rfl, q, rfl⟩ := hrel
      go_wp2
      go_loopg [2, 8, 9] 0 (fun g s2 s8 s9 wr => s2 = .int .i64 b ∧ s8 = .int .i64 0 ∧ s9 = .int .i64 3 ∧ ∃ q, wr = w.drewN q)
      case atStart => exact ⟨rfl, rfl, rfl, _, rfl⟩
      case round =>
        obtain ⟨rfl, rfl, rfl, q, rfl⟩ := hrel
        go_wp2
        go_ret2
        exact ⟨rfl, _, rfl⟩
theorem Count_nil (a b : Int) (w : World) : Calls Try.prog 24 #[.pointer none, .int .i64 a, .int .i64 b] w fun e w' => e = .returned (.int .i64 0) ∧ ∃ n, w' = w.drewN n := by
  obtain ⟨m, hm⟩ : ∃ m : Int, (if a < 0 then 0 else a) = m := ⟨_, rfl⟩
  have hm0 : 0 ≤ m := by split at hm <;> omega
  go_enter Try.func24, Try.ntmps24
  go_wp2
  go_loopg [7, 8] (200001 - m).toNat (fun g s7 s8 wr => ∃ x : Int, s7 = .int .i64 0 ∧ s8 = .int .i64 x ∧ 0 ≤ x ∧ (g : Int) = ((200001 - x).toNat : Int) ∧ ∃ q, wr = w.drewN q)
  case atStart => exact ⟨m, rfl, by first | rfl | rw [hm] | simp [hm], hm0, rfl, 0, rfl⟩
  case round =>
    obtain ⟨x, rfl, rfl, hx, hg, q, rfl⟩ := hrel
    obtain ⟨r, hr, hr2⟩ : ∃ r, calendar_Good.f x = some r ∧ (r = true → x ≤ 200000) := ⟨_, PCal.good_eq x, fun z => by have := of_decide_eq_true z; omega⟩
    obtain ⟨cb, hc⟩ : ∃ cb, decide (x < b) = cb := ⟨_, rfl⟩
    cases cb with
    | false =>
      go_wp2
      go_ret
      exact ⟨rfl, _, rfl⟩
    | true =>
      cases r with
      | false =>
        go_wp2_with (first | (go_at_call 15; refine (calendar_Good.calls x false _ hr).mono ?_; rintro e w1 ⟨rfl, n1, rfl⟩))
        go_ret
        exact ⟨rfl, _, rfl⟩
      | true =>
        have hx2 := hr2 rfl
        go_wp2_with (first | (go_at_call 15; refine (calendar_Good.calls x true _ hr).mono ?_; rintro e w1 ⟨rfl, n1, rfl⟩) | (go_at_call 22; refine (Works_nil _ _).mono ?_; rintro e w1 ⟨rfl, n2, rfl⟩))
        go_roundg (200001 - (x + 1)).toNat
        case measure => omega
        case rel => exact ⟨x + 1, rfl, by first | rfl | rw [PCal.w_id (by omega) (by omega)], by omega, rfl, _, rfl⟩
theorem CalendarNobody_walk (a b : Int) (w : World) (w1 : (Lit.int .i64 a).wf = true) (w2 : (Lit.int .i64 b).wf = true) :
    Calls Try.prog 9 #[.int .i64 a, .int .i64 b] w fun e w' => e = .returned (.bool true) ∧ Below w.heap.size w w' := by
  obtain ⟨k2, haw⟩ := Ev.rounds PCal.awake_ev
  have HA := Aside0.mk haw
  clear haw
  obtain ⟨cb, hc⟩ : ∃ cb, decide (3000 < b) = cb := ⟨_, rfl⟩
  cases cb
  all_goals
    go_enter Try.func9, Try.ntmps9
    go_wp2_with (first
      | (go_at_call 26; refine (Next_nil _ _).mono ?_; rintro e w1 ⟨rfl, n1, rfl⟩)
      | (go_at_call 28; refine (Back_nil _ _).mono ?_; rintro e w1 ⟨rfl, n2, rfl⟩)
      | (go_at_call 29; refine (Move_nil _ _ _).mono ?_; rintro e w1 ⟨rfl, n3, rfl⟩)
      | (go_at_call 31; refine (Roll_nil _ _).mono ?_; rintro e w1 ⟨rfl, n4, rfl⟩)
      | (go_at_call 33; refine (Months_nil _ _ _).mono ?_; rintro e w1 ⟨rfl, n5, rfl⟩)
      | (go_at_call 22; refine (Works_nil _ _).mono ?_; rintro e w1 ⟨rfl, n6, rfl⟩)
      | (go_at_call 24; refine (Count_nil _ _ _).mono ?_; rintro e w1 ⟨rfl, n7, rfl⟩)
      | (go_at_call 19; refine (lombardlaw02_awake.calls k2 true _ HA.out).mono ?_; rintro e w3 ⟨rfl, hb⟩))
    go_ret
    exact ⟨rfl, below_step (pw_below_drewN (Below.refl _ _) _) hb⟩
end Go.Proofs.Ytkdbolhheodfkaa.X
