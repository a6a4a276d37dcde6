-- a shortened text: what this claim does not name is left out (wip/xprint/prune.py of this repo)
import Derived.Test.YtkdbolhheodfkaaIST
import Derived.Test.YtkdbolhheodfkaaSHF
import Derived.Sort.OwnSortedInts
import Derived.Test.YtkdbolhheodfkaaX2
import Derived.Test.YtkdbolhheodfkaaX6
namespace Go.Proofs.Ytkdbolhheodfkaa.X
open Go Go.RowKit Go.Proofs.YtkdbolhheodfkaaW.PrintWords Go.Proofs.YtkdbolhheodfkaaW.PrintLast Go.Proofs.YtkdbolhheodfkaaW.PrintMore
set_option linter.unusedVariables false
def calendar_Calendar_Works.f (s0_0 : List Int) (a1 : Int) : Option Bool :=
  if s0_0.Pairwise (· ≤ ·) ∧ s0_0.length < 4294967296 then (calendar_Good.f a1).bind fun g => (calendar_Weekday.f a1).bind fun d => if g = true then (if d > 4 then some false else some (!(s0_0.contains a1))) else some false else none
set_option maxHeartbeats 4000000 in
set_option maxRecDepth 100000 in
theorem calendar_Calendar_Works.calls (g : Nat) (s0_0 : List Int) (a1 : Int) (r : Bool) (w0 w : World) (hI : IsS57 w0 w g s0_0) (hB : Below w0.heap.size w0 w) (h : calendar_Calendar_Works.f s0_0 a1 = some r) :
    Calls Try.prog 22 #[.pointer (some ⟨g, 0, none⟩), .int .i64 a1] w fun e w' => e = .returned (.bool r) ∧ IsS57 w0 w' g s0_0 ∧ Below w0.heap.size w0 w' ∧ KeepBut w w' g none := by
  suffices hh : Calls Try.prog 22 #[.pointer (some ⟨g, 0, none⟩), .int .i64 a1] w fun e w' => e = .returned (.bool r) ∧ ∃ n, w' = w.drewN n by
    refine hh.mono ?_
    rintro e w' ⟨rfl, n, rfl⟩
    exact ⟨rfl, hI.drewN n, pw_below_drewN hB n, KeepBut.of_below (pw_below_drewN (Below.refl _ _) n) g none⟩
  unfold calendar_Calendar_Works.f at h
  by_cases c : s0_0.Pairwise (· ≤ ·) ∧ s0_0.length < 4294967296
  case neg => rw [if_neg c] at h; cases h
  rw [if_pos c] at h
  obtain ⟨c1, c2⟩ := c
  obtain ⟨gd, hgd⟩ : ∃ gd, calendar_Good.f a1 = some gd := by unfold calendar_Good.f; split <;> exact ⟨_, rfl⟩
  obtain ⟨wd, hwd⟩ : ∃ wd, calendar_Weekday.f a1 = some wd := ⟨_, rfl⟩
  rw [hgd, hwd] at h
  simp only [Option.bind_some] at h
  obtain ⟨A0, c0, hb, hg, hl, hs⟩ := hI
  have hcell : w.cell? ⟨g, 0, none⟩ = some (.slice A0 s0_0.length c0) := (blk_cell hb 0).trans rfl
  have hBS : ∀ q, Calls Try.prog 40 #[.slice A0 s0_0.length c0, .int .i64 a1] (w.drewN q) fun e w' => ∃ z : Int, e = .returned (.tuple #[.int .i64 z, .bool (s0_0.contains a1)]) ∧ ∃ n, w' = (w.drewN q).drewN n := fun q => by
    rcases hs with rfl | ⟨b, cc, rfl, hcc, hrd⟩
    · refine (Try.slices_BinarySearch_int_empty A0 c0 a1 (w.drewN q)).mono ?_
      rintro e w' ⟨rfl, rfl⟩
      exact ⟨0, rfl, 0, rfl⟩
    · have hc : ∀ j, j < s0_0.length → (w.drewN q).cell? ⟨b, 0 + j, none⟩ = some (.int .i64 (s0_0.getD j 0)) := fun j hj => by
        have hx := (holds_of_blockI hcc hrd j (by simpa using hj)).1
        have e2 : s0_0.toArray[j]! = s0_0.getD j 0 := by simp [hj]
        rw [e2] at hx
        exact hx
      refine (Try.slices_BinarySearch_int b 0 s0_0.length c0 s0_0 a1 (w.drewN q) (Nat.le_refl _) (by omega) hc (by rw [List.take_length]; exact c1)).mono ?_
      rintro e w' ⟨rfl, n, rfl⟩
      exact ⟨(((s0_0.take s0_0.length).countP (· < a1) : Nat) : Int), by rw [List.take_length], n, rfl⟩
  obtain ⟨cb, hcb⟩ : ∃ cb, cb = s0_0.contains a1 := ⟨_, rfl⟩
  rw [← hcb] at h
  simp only [← hcb] at hBS
  clear hcb
  have HBS := Aside0.mk hBS
  clear hs hB hBS hb hg hl c1 c2
  cases gd with
  | false =>
    simp only [Bool.false_eq_true, if_false] at h
    obtain rfl := Option.some.inj h
    clear h
    go_enter Try.func22, Try.ntmps22
    go_wp2_with (first
      | (go_at_call 15; refine (calendar_Good.calls a1 _ _ hgd).mono ?_; rintro e w' ⟨rfl, n1, rfl⟩))
    go_ret
    exact ⟨rfl, _, rfl⟩
  | true =>
    simp only [if_true] at h
    by_cases c4 : wd > 4
    · rw [if_pos c4] at h
      obtain rfl := Option.some.inj h
      have c4b : decide (4 < wd) = true := decide_eq_true c4
      clear h c4
      go_enter Try.func22, Try.ntmps22
      go_wp2_with (first
        | (go_at_call 15; refine (calendar_Good.calls a1 _ _ hgd).mono ?_; rintro e w' ⟨rfl, n1, rfl⟩)
        | (go_at_call 17; refine (calendar_Weekday.calls a1 _ _ hwd).mono ?_; rintro e w' ⟨rfl, n2, rfl⟩))
      go_ret
      exact ⟨rfl, _, rfl⟩
    · rw [if_neg c4] at h
      obtain rfl := Option.some.inj h
      have c4b : decide (4 < wd) = false := decide_eq_false c4
      clear h c4
      go_enter Try.func22, Try.ntmps22
      go_wp2_with (first
        | (go_at_call 15; refine (calendar_Good.calls a1 _ _ hgd).mono ?_; rintro e w' ⟨rfl, n1, rfl⟩)
        | (go_at_call 17; refine (calendar_Weekday.calls a1 _ _ hwd).mono ?_; rintro e w' ⟨rfl, n2, rfl⟩)
        | (go_at_call 40; refine (HBS.out _).mono ?_; rintro e w' ⟨z, rfl, n3, rfl⟩))
      go_ret
      exact ⟨rfl, _, rfl⟩
end Go.Proofs.Ytkdbolhheodfkaa.X
