-- a shortened text: what this claim does not name is left out (wip/xprint/prune.py of this repo)
import Derived.Test.YtkdbolhheodfkaaNEW
namespace Go.Proofs.Ytkdbolhheodfkaa.X
open Go Go.RowKit Go.Proofs.YtkdbolhheodfkaaW.PrintWords Go.Proofs.YtkdbolhheodfkaaW.PrintLast Go.Proofs.YtkdbolhheodfkaaW.PrintMore
set_option linter.unusedVariables false
def New.fine (l : List Int) : Prop := l.length ≤ 256 ∧ ∀ x ∈ l, 0 ≤ x ∧ x ≤ 200000
theorem New.first_bad : ∀ (l : List Int), ¬ (∀ x ∈ l, 0 ≤ x ∧ x ≤ 200000) → ∃ j, ∃ h : j < l.length, (∀ i, ∀ h2 : i < j, 0 ≤ l[i]'(by omega) ∧ l[i]'(by omega) ≤ 200000) ∧ ¬ (0 ≤ l[j] ∧ l[j] ≤ 200000)
  | [], h => absurd (fun x hx => by cases hx) h
  | a :: l, h => by
    by_cases c : 0 ≤ a ∧ a ≤ 200000
    · obtain ⟨j, hj, h1, h2⟩ := New.first_bad l (fun z => h (fun x hx => by
        rcases List.mem_cons.1 hx with rfl | hx
        · exact c
        · exact z x hx))
      refine ⟨j + 1, by simpa using hj, fun i hi => ?_, by simpa using h2⟩
      cases i with
      | zero => simpa using c
      | succ i => simpa using h1 i (by omega)
    · exact ⟨0, by simp, fun i hi => by omega, by simpa using c⟩
theorem calendar_New.bad (A0 : Option Addr) (c0 : Nat) (l0 : List Int) (w : World) (hC : Kd.C (Kd.int .i64) w A0 l0.length l0) (hc0 : l0.length ≤ c0) (hm : l0.length ≤ maxLen) (h : ¬ New.fine l0) :
    Calls Try.prog 20 #[.slice A0 l0.length c0] w fun e w' => e = .returned (.tuple #[.pointer none, .int .i64 (if l0.length ≤ 256 then 10 else 2)]) ∧ ∃ m, w' = w.drewN m := by
  obtain ⟨n, hn⟩ : ∃ n, n = l0.length := ⟨_, rfl⟩
  by_cases c : l0.length ≤ 256
  · rw [if_pos c]
    obtain ⟨jb, hjb, hlow, hbad⟩ := New.first_bad l0 (fun z => h ⟨c, z⟩)
    have hrd : ∀ i, (hi : i < l0.length) → Go.Proofs.YtkdbolhheodfkaaW.PrintWords.rd l0 (i : Int) = l0[i] := fun i hi => by
      unfold Go.Proofs.YtkdbolhheodfkaaW.PrintWords.rd
      rw [Int.toNat_natCast, List.getD_eq_getElem?_getD, List.getElem?_eq_getElem hi]
      rfl
    have hgood : ∀ i, i < jb → calendar_Good.f (Go.Proofs.YtkdbolhheodfkaaW.PrintWords.rd l0 (i : Int)) = some true := fun i hi => by
      have hx := hlow i hi
      rw [hrd i (by omega)]
      unfold calendar_Good.f
      rw [if_pos hx.1, decide_eq_true hx.2]
    have hgoodj : calendar_Good.f (Go.Proofs.YtkdbolhheodfkaaW.PrintWords.rd l0 (jb : Int)) = some false := by
      rw [hrd jb hjb]
      unfold calendar_Good.f
      by_cases q : l0[jb] ≥ 0
      · rw [if_pos q, decide_eq_false (fun z => hbad ⟨q, z⟩)]
      · rw [if_neg q]
    have hcell : ∀ i, i < n → ∃ ad, A0 = some ad ∧ w.cell? (ad.add i) = some (.int .i64 (Go.Proofs.YtkdbolhheodfkaaW.PrintWords.rd l0 (i : Int))) := fun i hi => by
      obtain ⟨ad, e, hx⟩ := Kd.at_int hC (i : Int) (by omega) (by omega)
      rw [Int.toNat_natCast] at hx
      exact ⟨ad, e, hx⟩
    have g256 : decide (256 < (n : Int)) = false := decide_eq_false (by omega)
    rw [← hn] at hc0 c ⊢
    have hjn : jb < n := by omega
    have HG := Aside0.mk hgood
    have HJ := Aside0.mk hgoodj
    have HX := Aside0.mk hcell
    have H6 := Aside0.mk c
    clear hC hc0 c hgood hgoodj hcell hrd hlow hbad h hm hn hjb
    go_enter Try.func20, Try.ntmps20
    go_wp2
    go_loopg [12] jb (fun g s12 wr => ∃ i q : Nat, s12 = .int .i64 i ∧ i + g = jb ∧ wr = w.drewN q)
    case atStart => exact ⟨0, 0, rfl, by omega, rfl⟩
    case round =>
      obtain ⟨i, q, rfl, hi, rfl⟩ := hrel
      by_cases hlt : i < jb
      · obtain ⟨ad, rfl, hx⟩ := HX.out i (by omega)
        have hg := HG.out i hlt
        have hlt2 : i < n := by omega
        go_wp2_with (first | (go_at_call 15; refine (calendar_Good.calls _ true _ hg).mono ?_; rintro e w' ⟨rfl, n1, rfl⟩))
        go_roundg (jb - (i + 1))
        case measure => omega
        case rel => exact ⟨i + 1, _, by rw [show wrap64 ((i : Int) + 1) = ((i + 1 : Nat) : Int) by have := H6.out; unfold wrap64; omega], by omega, rfl⟩
      · obtain rfl : jb = i := by omega
        obtain ⟨ad, rfl, hx⟩ := HX.out jb hjn
        have hg := HJ.out
        go_wp2_with (first | (go_at_call 15; refine (calendar_Good.calls _ false _ hg).mono ?_; rintro e w' ⟨rfl, n1, rfl⟩))
        go_ret2
        exact ⟨rfl, _, rfl⟩
  · rw [if_neg c]
    have g256 : decide (256 < (n : Int)) = true := decide_eq_true (by omega)
    rw [← hn]
    clear hC hc0 c h hm hn
    go_enter Try.func20, Try.ntmps20
    go_wp2
    go_ret2
    exact ⟨rfl, 0, rfl⟩
end Go.Proofs.Ytkdbolhheodfkaa.X
