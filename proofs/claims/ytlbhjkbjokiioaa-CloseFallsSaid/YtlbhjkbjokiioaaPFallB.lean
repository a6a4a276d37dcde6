-- a shortened text: what this claim does not name is left out (wip/xprint/prune.py of this repo)
import Derived.Test.YtlbhjkbjokiioaaPFall
namespace Go.Proofs.Ytlbhjkbjokiioaa.PFall
open Go Go.RowKit Go.Proofs.Ytlbhjkbjokiioaa.X Go.Proofs.YtlbhjkbjokiioaaW.PrintWords Go.Proofs.YtlbhjkbjokiioaaW.PrintLast Go.Proofs.YtlbhjkbjokiioaaW.PrintMore Go.Proofs.Ytlbhjkbjokiioaa.PShare
theorem rl1_go (loss : Int) (l : List Rl) (hl : l.length ≤ 64) (i : Nat) (h : i < l.length) (hp : l[i].f1.length ≤ 64) {R : List Rl × Int × Int} : ∀ (n j : Nat), j + n = l[i].f1.length → (bad (l[i].f1.drop j) = false → Ev (fun k => lombardref29_Fall.l0 k loss l ((i + 1 : Nat) : Int)) R) →
    Ev (fun k => lombardref29_Fall.l1 k loss l (i : Int) (j : Int)) (if bad (l[i].f1.drop j) then ([], 0, 1) else R)
  | 0, j, hj, hk => by
    rw [List.drop_of_length_le (by omega)] at hk ⊢
    refine Ev.step (fun k => ?_) (by simpa [bad] using hk rfl)
    simp only [lombardref29_Fall.l1, rdR h, up h (by omega)]
    rw [if_pos (by omega), if_pos (by omega), if_neg (by omega)]
    rfl
  | n + 1, j, hj, hk => by
    have hh : j < l[i].f1.length := by omega
    rw [List.drop_eq_getElem_cons hh] at hk ⊢
    unfold bad at hk ⊢
    by_cases c : l[i].f1[j] < 0
    · rw [decide_eq_true c, Bool.true_or, Bool.true_or, if_pos rfl]
      refine Ev.step (f := fun _ => some ([], 0, 1)) (fun k => ?_) (Ev.now _)
      simp only [lombardref29_Fall.l1, rdR h, rdl hh]
      rw [if_pos (by omega), if_pos (by omega), if_pos (by omega), if_pos (by omega), if_pos c]
    by_cases d : l[i].f1[j] > 1125899906842624
    · rw [decide_eq_true d, Bool.or_true, Bool.true_or, if_pos rfl]
      refine Ev.step (f := fun _ => some ([], 0, 1)) (fun k => ?_) (Ev.now _)
      simp only [lombardref29_Fall.l1, rdR h, rdl hh]
      rw [if_pos (by omega), if_pos (by omega), if_pos (by omega), if_pos (by omega), if_neg c, if_pos d]
    · rw [decide_eq_false c, decide_eq_false d, Bool.false_or, Bool.false_or] at hk ⊢
      refine Ev.step (fun k => ?_) (rl1_go loss l hl i h hp n (j + 1) (by omega) hk)
      simp only [lombardref29_Fall.l1, rdR h, rdl hh, up hh (by omega)]
      rw [if_pos (by omega), if_pos (by omega), if_pos (by omega), if_pos (by omega), if_neg c, if_neg d]
theorem rl0_go (loss : Int) (l : List Rl) (hl : l.length ≤ 64) {R : List Rl × Int × Int} : ∀ (n i : Nat), i + n = l.length → (scanS (l.drop i) = 0 → Ev (fun k => lombardref29_Fall.l2 k loss l [] 0) R) →
    Ev (fun k => lombardref29_Fall.l0 k loss l (i : Int)) (res (scanS (l.drop i)) R)
  | 0, i, hi, hk => by
    rw [List.drop_of_length_le (by omega)] at hk ⊢
    refine Ev.step (fun k => ?_) (by simpa [scanS, res] using hk rfl)
    simp only [lombardref29_Fall.l0]
    rw [if_neg (by omega)]
  | n + 1, i, hi, hk => by
    have h : i < l.length := by omega
    rw [List.drop_eq_getElem_cons h] at hk ⊢
    unfold scanS at hk ⊢
    by_cases c : l[i].f1.length > 64
    · rw [if_pos c]
      refine Ev.step (f := fun _ => some ([], 0, 2)) (fun k => ?_) (Ev.now _)
      simp only [lombardref29_Fall.l0, rdR h]
      rw [if_pos (by omega), if_pos (by omega), if_pos (by omega)]
    rw [if_neg c] at hk ⊢
    refine Ev.step (f := fun k => lombardref29_Fall.l1 k loss l (i : Int) 0) (fun k => ?_) ?_
    · simp only [lombardref29_Fall.l0, rdR h]
      rw [if_pos (by omega), if_pos (by omega), if_neg (by omega)]
    cases b : bad l[i].f1 with
    | true =>
      have e := rl1_go loss l hl i h (by omega) (R := ([], 0, 0)) l[i].f1.length 0 (by omega) (fun z => by rw [List.drop_zero, b] at z; cases z)
      rw [List.drop_zero, b] at e
      exact e
    | false =>
      rw [b] at hk
      have e := rl1_go loss l hl i h (by omega) (R := res (scanS (l.drop (i + 1))) R) l[i].f1.length 0 (by omega) (fun _ => rl0_go loss l hl n (i + 1) (by omega) (fun z => hk (by simpa using z)))
      rw [List.drop_zero, b] at e
      exact e
theorem rl2_go (l : List Rl) (hl : l.length ≤ 64) (hf : ∀ x ∈ l, Fair x) : ∀ (n i : Nat) (loss : Int) (out : List Rl), i + n = l.length → out.length = i → 0 ≤ loss → loss ≤ 1125899906842624 →
    Ev (fun k => lombardref29_Fall.l2 k loss l out (i : Int)) (out ++ (fallS loss (l.drop i)).1, (fallS loss (l.drop i)).2, 0)
  | 0, i, loss, out, hi, ho, h0, h1 => by
    rw [List.drop_of_length_le (by omega)]
    refine Ev.step (f := fun _ => some (out, loss, 0)) (fun k => ?_) (by simp only [fallS, List.append_nil]; exact Ev.now _)
    simp only [lombardref29_Fall.l2]
    rw [if_neg (by omega)]
  | n + 1, i, loss, out, hi, ho, h0, h1 => by
    have h : i < l.length := by omega
    obtain ⟨f1, f2⟩ := hf l[i] (List.getElem_mem h)
    have b := sm_bd f2
    rw [List.drop_eq_getElem_cons h]
    refine Ev.step (f := fun k => lombardref29_Fall.l2 (k + 1) loss l out (i : Int)) (fun k => rfl) ?_
    simp only [lombardref29_Fall.l2, rdR h, up h (by omega), if_pos (show (i : Int) < (l.length : Int) by omega), if_pos (show (0 : Int) ≤ (i : Int) by omega), if_pos (show out.length < 3518437208883 by omega)]
    refine Ev.bind (rsum_ev f1 f2) ?_
    unfold fallS
    by_cases c : loss ≥ sm l[i].f1
    · simp only [if_pos c]
      have e2 : wrap64 (loss - sm l[i].f1) = loss - sm l[i].f1 := w_id (by omega) (by omega)
      simp only [e2]
      have := rl2_go l hl hf n (i + 1) (loss - sm l[i].f1) (out ++ [(⟨l[i].f0, l[i].f1⟩ : Rl)]) (by omega) (by simp; omega) (by omega) (by omega)
      rw [List.append_assoc] at this
      exact this
    · simp only [if_neg c]
      refine Ev.bind (rshare_ev f1 f2 h0 h1 (by omega)) ?_
      have := rl2_go l hl hf n (i + 1) 0 (out ++ [(⟨l[i].f0, shareS loss l[i].f1⟩ : Rl)]) (by omega) (by simp; omega) (by omega) (by omega)
      rw [List.append_assoc] at this
      exact this
theorem rfall_ev (loss : Int) (l : List Rl) : Ev (fun k => lombardref29_Fall.f k loss l) (fallR loss l) := by
  have bd : Ev (fun k => lombardref29_Fall.j0 k loss l true) ([], 0, 1) := Ev.step (f := fun _ => some ([], 0, 1)) (fun k => by simp only [lombardref29_Fall.j0]; rw [if_pos trivial]) (Ev.now _)
  unfold lombardref29_Fall.f fallR
  by_cases c1 : loss < 0
  · simp only [if_pos c1, if_pos (show loss < 0 ∨ loss > 1125899906842624 ∨ l.length > 64 from .inl c1)]; exact bd
  by_cases c2 : loss > 1125899906842624
  · simp only [if_neg c1, if_pos c2, if_pos (show loss < 0 ∨ loss > 1125899906842624 ∨ l.length > 64 from .inr (.inl c2))]; exact bd
  by_cases c3 : l.length > 64
  · simp only [if_neg c1, if_neg c2, if_pos (show loss < 0 ∨ loss > 1125899906842624 ∨ l.length > 64 from .inr (.inr c3)), decide_eq_true (show (l.length : Int) > 64 by omega)]; exact bd
  simp only [if_neg c1, if_neg c2, if_neg (show ¬ (loss < 0 ∨ loss > 1125899906842624 ∨ l.length > 64) by omega), decide_eq_false (show ¬ (l.length : Int) > 64 by omega)]
  refine Ev.step (f := fun k => lombardref29_Fall.l0 k loss l 0) (fun k => by simp only [lombardref29_Fall.j0]; rw [if_neg (by simp)]) ?_
  have e := rl0_go loss l (by omega) l.length 0 (by omega) (R := ((fallS loss l).1, (fallS loss l).2, 0)) (fun s => by
    rw [List.drop_zero] at s
    have := rl2_go l (by omega) (scan_fair s) l.length 0 loss [] (by omega) rfl (by omega) (by omega)
    simpa using this)
  rw [List.drop_zero] at e
  exact e
theorem layers_go (l : List Rl) (hl : l.length ≤ 3518437208880) : ∀ (n i : Nat) (out : List La), i + n = l.length → out.length = i →
    Ev (fun k => lombardlaw29_layers.l0 k l out (i : Int)) (out ++ (l.drop i).map toLa)
  | 0, i, out, hi, ho => by
    rw [List.drop_of_length_le (by omega)]
    refine Ev.step (f := fun _ => some out) (fun k => ?_) (by simp only [List.map_nil, List.append_nil]; exact Ev.now _)
    simp only [lombardlaw29_layers.l0]
    rw [if_neg (by omega)]
  | n + 1, i, out, hi, ho => by
    have h : i < l.length := by omega
    rw [List.drop_eq_getElem_cons h]
    refine Ev.step (f := fun k => lombardlaw29_layers.l0 k l (out ++ [(⟨l[i].f0, l[i].f1⟩ : La)]) ((i + 1 : Nat) : Int)) (fun k => ?_) ?_
    · simp only [lombardlaw29_layers.l0, rdR h, up h (by omega)]
      rw [if_pos (by omega), if_pos (by omega), if_pos (by omega)]
    · have := layers_go l hl n (i + 1) (out ++ [(⟨l[i].f0, l[i].f1⟩ : La)]) (by omega) (by simp; omega)
      rw [List.append_assoc] at this
      exact this
theorem layers_ev {l : List Rl} (hl : l.length ≤ 3518437208880) : Ev (fun k => lombardlaw29_layers.f k l) (l.map toLa) := by
  have := layers_go l hl l.length 0 [] (by omega) rfl
  rw [List.drop_zero, List.nil_append] at this
  exact this
theorem ints_go (a : List Int) (ha : a.length ≤ 1000000) : ∀ (n i : Nat), i + n = a.length → Ev (fun k => lombardref01_Ints.l0 k a a (i : Int)) true
  | 0, i, hi => by
    refine Ev.step (f := fun _ => some true) (fun k => ?_) (Ev.now _)
    simp only [lombardref01_Ints.l0]
    rw [if_neg (by omega)]
  | n + 1, i, hi => by
    have h : i < a.length := by omega
    refine Ev.step (fun k => ?_) (ints_go a ha n (i + 1) (by omega))
    simp only [lombardref01_Ints.l0, up h (by omega)]
    rw [if_pos (by omega), if_pos (by omega), if_pos (by omega), if_pos trivial]
theorem ints_ev {a : List Int} (ha : a.length ≤ 1000000) : Ev (fun k => lombardref01_Ints.f k a a) true := by
  unfold lombardref01_Ints.f
  simp only [if_pos]
  exact ints_go a ha a.length 0 (by omega)
def exL : List Rl := [⟨⟨#[97]⟩, [30]⟩, ⟨⟨#[98]⟩, [10, 20, 30]⟩, ⟨⟨#[99]⟩, [50]⟩]
theorem ex_eq : usOf (fallR 100 exL) = ([⟨⟨#[97]⟩, [30]⟩, ⟨⟨#[98]⟩, [10, 20, 30]⟩, ⟨⟨#[99]⟩, [10]⟩], 0, 0) := by rfl
theorem awake_ev : Ev (fun k => lombardlaw29_awake.f k) true := by
  unfold lombardlaw29_awake.f
  have e := fall_ev 100 exL
  rw [ex_eq] at e
  refine Ev.bind e ?_
  simp only [if_pos, List.length_cons, List.length_nil]
  rw [show (((0 + 1 + 1 + 1 : Nat) : Int) = 3) from rfl]
  simp only [if_pos, show (0 : Int) < 3 by omega, show (1 : Int) < 3 by omega, show (2 : Int) < 3 by omega]
  refine Ev.bind (a := true) (ints_ev (a := [30]) (by decide)) ?_
  simp only [if_pos]
  refine Ev.bind (a := true) (ints_ev (a := [10, 20, 30]) (by decide)) ?_
  simp only [if_pos]
  exact Ev.bind (a := true) (ints_ev (a := [10]) (by decide)) (Ev.now _)
theorem fallR_ok (loss : Int) (l : List Rl) : (fallR loss l).1.length ≤ 64 ∧ ∀ x ∈ (fallR loss l).1, x.f1.length ≤ 64 := by
  unfold fallR
  split
  · exact ⟨by simp, fun _ h => by cases h⟩
  · rename_i c
    split
    · exact ⟨by simp, fun _ h => by cases h⟩
    · rename_i s
      exact ⟨by show (fallS loss l).1.length ≤ 64; rw [fallS_len]; omega, fallS_part (scan_fair (by simpa using s))⟩
end Go.Proofs.Ytlbhjkbjokiioaa.PFall
