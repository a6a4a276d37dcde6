-- a shortened text: what this claim does not name is left out (wip/xprint/prune.py of this repo)
import Derived.Test.YtlbhjkbjokiioaaPShare
import Derived.Test.YtlbhjkbjokiioaaX3
import Derived.Test.YtlbhjkbjokiioaaX4
import Derived.Test.YtlbhjkbjokiioaaX9
namespace Go.Proofs.Ytlbhjkbjokiioaa.PFall
open Go Go.RowKit Go.Proofs.Ytlbhjkbjokiioaa.X Go.Proofs.YtlbhjkbjokiioaaW.PrintWords Go.Proofs.YtlbhjkbjokiioaaW.PrintLast Go.Proofs.YtlbhjkbjokiioaaW.PrintMore Go.Proofs.Ytlbhjkbjokiioaa.PShare
abbrev La := S67
abbrev Us := S34
abbrev Rl := S35
def toLa (x : Rl) : La := ⟨x.f0, x.f1⟩
def toUs (x : Rl) : Us := ⟨x.f0, x.f1⟩
theorem rdL {l : List Rl} {i : Nat} (h : i < l.length) : rd_T67 (l.map toLa) (i : Int) = toLa l[i] := by
  unfold rd_T67; rw [Int.toNat_natCast, List.getD_eq_getElem?_getD, List.getElem?_map, List.getElem?_eq_getElem h]; rfl
def bad : List Int → Bool
  | [] => false
  | x :: r => decide (x < 0) || decide (x > 1125899906842624) || bad r
def scanS : List Rl → Int
  | [] => 0
  | x :: r => if x.f1.length > 64 then 2 else if bad x.f1 then 1 else scanS r
def fallS : Int → List Rl → List Rl × Int
  | loss, [] => ([], loss)
  | loss, x :: r => if loss ≥ sm x.f1 then (x :: (fallS (loss - sm x.f1) r).1, (fallS (loss - sm x.f1) r).2) else (⟨x.f0, shareS loss x.f1⟩ :: (fallS 0 r).1, (fallS 0 r).2)
def fallR (loss : Int) (l : List Rl) : List Rl × Int × Int :=
  if loss < 0 ∨ loss > 1125899906842624 ∨ l.length > 64 then ([], 0, 1) else if scanS l ≠ 0 then ([], 0, scanS l) else ((fallS loss l).1, (fallS loss l).2, 0)
def Fair (x : Rl) : Prop := x.f1.length ≤ 64 ∧ W x.f1
theorem bad_false : ∀ {l : List Int}, bad l = false → W l
  | [], _ => fun _ h => by cases h
  | x :: r, h => by
    unfold bad at h
    simp only [Bool.or_eq_false_iff, decide_eq_false_iff_not] at h
    intro y hy
    rcases List.mem_cons.1 hy with e | hy
    · rw [e]; omega
    · exact bad_false h.2 y hy
theorem scan_fair : ∀ {l : List Rl}, scanS l = 0 → ∀ x ∈ l, Fair x
  | [], _ => fun _ h => by cases h
  | x :: r, h => by
    unfold scanS at h
    split at h
    · cases h
    · rename_i c
      split at h
      · cases h
      · rename_i d
        intro y hy
        rcases List.mem_cons.1 hy with e | hy
        · rw [e]; exact ⟨by omega, bad_false (by simpa using d)⟩
        · exact scan_fair h y hy
def res (c : Int) {α : Type} (R : List α × Int × Int) : List α × Int × Int := if c ≠ 0 then ([], 0, c) else R
theorem fl1_go (loss : Int) (L : List La) (i : Nat) (ps : List Int) (hp : ps.length ≤ 64) {R : List Us × Int × Int} (hk : Ev (fun k => close_Fall.l0 k loss L L (L.length : Int) (wrap64 ((i : Int) + 1))) R) : ∀ (n j : Nat), j + n = ps.length →
    Ev (fun k => close_Fall.l1 k loss L L (L.length : Int) (i : Int) ps (ps.length : Int) (j : Int)) (if bad (ps.drop j) then ([], 0, 1) else R)
  | 0, j, hj => by
    rw [List.drop_of_length_le (by omega)]
    refine Ev.step (fun k => ?_) (by simpa [bad] using hk)
    simp only [close_Fall.l1]
    rw [if_neg (by omega)]
  | n + 1, j, hj => by
    have h : j < ps.length := by omega
    rw [List.drop_eq_getElem_cons h]
    unfold bad
    by_cases c : ps[j] < 0
    · rw [decide_eq_true c, Bool.true_or, Bool.true_or, if_pos rfl]
      refine Ev.step (f := fun _ => some ([], 0, 1)) (fun k => ?_) (Ev.now _)
      simp only [close_Fall.l1, rdl h]
      rw [if_pos (by omega), if_pos (by omega), if_pos (by omega), if_pos c]
    by_cases d : ps[j] > 1125899906842624
    · rw [decide_eq_true d, Bool.or_true, Bool.true_or, if_pos rfl]
      refine Ev.step (f := fun _ => some ([], 0, 1)) (fun k => ?_) (Ev.now _)
      simp only [close_Fall.l1, rdl h]
      rw [if_pos (by omega), if_pos (by omega), if_pos (by omega), if_neg c, if_pos d]
    · rw [decide_eq_false c, decide_eq_false d, Bool.false_or, Bool.false_or]
      refine Ev.step (fun k => ?_) (fl1_go loss L i ps hp hk n (j + 1) (by omega))
      simp only [close_Fall.l1, rdl h, up h (by omega)]
      rw [if_pos (by omega), if_pos (by omega), if_pos (by omega), if_neg c, if_neg d]
theorem fl0_go (loss : Int) (l : List Rl) (hl : l.length ≤ 64) {R : List Us × Int × Int} (hk : Ev (fun k => close_Fall.l2 k loss [] (l.map toLa) (l.length : Int) 0) R) : ∀ (n i : Nat), i + n = l.length →
    Ev (fun k => close_Fall.l0 k loss (l.map toLa) (l.map toLa) (l.length : Int) (i : Int)) (res (scanS (l.drop i)) R)
  | 0, i, hi => by
    rw [List.drop_of_length_le (by omega)]
    refine Ev.step (fun k => ?_) (by simpa [scanS, res] using hk)
    simp only [close_Fall.l0, List.length_map]
    rw [if_neg (by omega), if_pos (by omega), if_pos (by omega)]
  | n + 1, i, hi => by
    have h : i < l.length := by omega
    rw [List.drop_eq_getElem_cons h]
    unfold scanS
    by_cases c : l[i].f1.length > 64
    · rw [if_pos c]
      refine Ev.step (f := fun _ => some ([], 0, 2)) (fun k => ?_) (Ev.now _)
      simp only [close_Fall.l0, List.length_map, rdL h, toLa]
      rw [if_pos (by omega), if_pos (by omega), if_pos (by omega), if_pos (by omega)]
    rw [if_neg c]
    have ih := fl0_go loss l hl hk n (i + 1) (by omega)
    have e := fl1_go loss (l.map toLa) i l[i].f1 (by omega) (R := res (scanS (l.drop (i + 1))) R) (by
      rw [List.length_map]
      simp only [up h (by omega)]
      exact ih) l[i].f1.length 0 (by omega)
    rw [List.length_map, List.drop_zero] at e
    refine Ev.step (f := fun k => close_Fall.l1 k loss (l.map toLa) (l.map toLa) (l.length : Int) (i : Int) l[i].f1 (l[i].f1.length : Int) 0) (fun k => ?_) ?_
    · simp only [close_Fall.l0, List.length_map, rdL h, toLa]
      rw [if_pos (by omega), if_pos (by omega), if_pos (by omega), if_neg (by omega)]
    · cases b : bad l[i].f1 with
      | true => rw [b] at e; exact e
      | false => rw [b] at e; exact e
theorem mn_eq (x y : Int) : mn x y = min x y := by unfold mn; split <;> omega
theorem fl2_go (l : List Rl) (hl : l.length ≤ 64) (hf : ∀ x ∈ l, Fair x) : ∀ (n i : Nat) (loss : Int) (out : List Us), i + n = l.length → out.length = i → 0 ≤ loss → loss ≤ 1125899906842624 →
    Ev (fun k => close_Fall.l2 k loss out (l.map toLa) (l.length : Int) (i : Int)) (out ++ (fallS loss (l.drop i)).1.map toUs, (fallS loss (l.drop i)).2, 0)
  | 0, i, loss, out, hi, ho, h0, h1 => by
    rw [List.drop_of_length_le (by omega)]
    refine Ev.step (f := fun _ => some (out, loss, 0)) (fun k => ?_) (by simp only [fallS, List.map_nil, List.append_nil]; exact Ev.now _)
    simp only [close_Fall.l2]
    rw [if_neg (by omega)]
  | n + 1, i, loss, out, hi, ho, h0, h1 => by
    have h : i < l.length := by omega
    obtain ⟨f1, f2⟩ := hf l[i] (List.getElem_mem h)
    have b := sm_bd f2
    rw [List.drop_eq_getElem_cons h]
    have cl : slices_Clone_int_int.f l[i].f1 = some l[i].f1 := by
      unfold slices_Clone_int_int.f
      simp only [Option.bind_some, List.nil_append]
      rw [if_pos (by simp; omega)]
    refine Ev.step (f := fun k => close_Fall.l2 (k + 1) loss out (l.map toLa) (l.length : Int) (i : Int)) (fun k => rfl) ?_
    simp only [close_Fall.l2, List.length_map, rdL h, toLa, up h (by omega), cl, Option.bind_some, if_pos (show (i : Int) < (l.length : Int) by omega), if_pos (show (0 : Int) ≤ (i : Int) by omega), if_pos (show out.length < 3518437208883 by omega)]
    refine Ev.bind (sum_ev f1 f2) ?_
    simp only [mn_eq]
    unfold fallS
    by_cases c : loss ≥ sm l[i].f1
    · rw [if_pos c]
      have e1 : min loss (sm l[i].f1) = sm l[i].f1 := by omega
      have e2 : wrap64 (loss - sm l[i].f1) = loss - sm l[i].f1 := w_id (by omega) (by omega)
      simp only [e1, e2, if_neg (Int.lt_irrefl _)]
      have := fl2_go l hl hf n (i + 1) (loss - sm l[i].f1) (out ++ [(⟨l[i].f0, l[i].f1⟩ : Us)]) (by omega) (by simp; omega) (by omega) (by omega)
      rw [List.append_assoc] at this
      exact this
    · rw [if_neg c]
      have e1 : min loss (sm l[i].f1) = loss := by omega
      have e2 : wrap64 (loss - loss) = 0 := by rw [Int.sub_self]; exact w_id (by omega) (by omega)
      simp only [e1, e2, if_pos (show loss < sm l[i].f1 by omega)]
      refine Ev.bind (share_ev f1 f2 h0 h1 (by omega)) ?_
      have := fl2_go l hl hf n (i + 1) 0 (out ++ [(⟨l[i].f0, shareS loss l[i].f1⟩ : Us)]) (by omega) (by simp; omega) (by omega) (by omega)
      rw [List.append_assoc] at this
      exact this
def usOf (r : List Rl × Int × Int) : List Us × Int × Int := (r.1.map toUs, r.2)
theorem fall_ev (loss : Int) (l : List Rl) : Ev (fun k => close_Fall.f k loss (l.map toLa)) (usOf (fallR loss l)) := by
  have bd : Ev (fun k => close_Fall.j0 k loss (l.map toLa) true) ([], 0, 1) := Ev.step (f := fun _ => some ([], 0, 1)) (fun k => by simp only [close_Fall.j0]; rw [if_pos trivial]) (Ev.now _)
  unfold close_Fall.f fallR
  simp only [List.length_map]
  by_cases c1 : loss < 0
  · simp only [if_pos c1, if_pos (show loss < 0 ∨ loss > 1125899906842624 ∨ l.length > 64 from .inl c1)]; exact bd
  by_cases c2 : loss > 1125899906842624
  · simp only [if_neg c1, if_pos c2, if_pos (show loss < 0 ∨ loss > 1125899906842624 ∨ l.length > 64 from .inr (.inl c2))]; exact bd
  by_cases c3 : l.length > 64
  · simp only [if_neg c1, if_neg c2, if_pos (show loss < 0 ∨ loss > 1125899906842624 ∨ l.length > 64 from .inr (.inr c3)), decide_eq_true (show (l.length : Int) > 64 by omega)]; exact bd
  simp only [if_neg c1, if_neg c2, if_neg (show ¬ (loss < 0 ∨ loss > 1125899906842624 ∨ l.length > 64) by omega), decide_eq_false (show ¬ (l.length : Int) > 64 by omega)]
  refine Ev.step (f := fun k => close_Fall.l0 k loss (l.map toLa) (l.map toLa) (l.length : Int) 0) (fun k => by simp only [close_Fall.j0, List.length_map]; rw [if_neg (by simp)]) ?_
  by_cases s : scanS l = 0
  · rw [if_neg (by simpa using s)]
    have e := fl0_go loss l (by omega) (fl2_go l (by omega) (scan_fair s) l.length 0 loss [] (by omega) rfl (by omega) (by omega)) l.length 0 (by omega)
    rw [List.drop_zero, s] at e
    exact e
  · rw [if_pos s]
    have aux : ∀ (n i : Nat), i + n = l.length → scanS (l.drop i) ≠ 0 → Ev (fun k => close_Fall.l0 k loss (l.map toLa) (l.map toLa) (l.length : Int) (i : Int)) ([], 0, scanS (l.drop i)) := by
      intro n
      induction n with
      | zero => intro i hi hs; rw [List.drop_of_length_le (by omega)] at hs; exact absurd rfl hs
      | succ n ih =>
        intro i hi hs
        have h : i < l.length := by omega
        rw [List.drop_eq_getElem_cons h] at hs ⊢
        unfold scanS at hs ⊢
        by_cases c : l[i].f1.length > 64
        · rw [if_pos c]
          refine Ev.step (f := fun _ => some ([], 0, 2)) (fun k => ?_) (Ev.now _)
          simp only [close_Fall.l0, List.length_map, rdL h, toLa]
          rw [if_pos (by omega), if_pos (by omega), if_pos (by omega), if_pos (by omega)]
        rw [if_neg c] at hs ⊢
        refine Ev.step (f := fun k => close_Fall.l1 k loss (l.map toLa) (l.map toLa) (l.length : Int) (i : Int) l[i].f1 (l[i].f1.length : Int) 0) (fun k => ?_) ?_
        · simp only [close_Fall.l0, List.length_map, rdL h, toLa]
          rw [if_pos (by omega), if_pos (by omega), if_pos (by omega), if_neg (by omega)]
        cases b : bad l[i].f1 with
        | true =>
          have aux2 : ∀ (m j : Nat), j + m = l[i].f1.length → bad (l[i].f1.drop j) = true → Ev (fun k => close_Fall.l1 k loss (l.map toLa) (l.map toLa) (l.length : Int) (i : Int) l[i].f1 (l[i].f1.length : Int) (j : Int)) ([], 0, 1) := by
            intro m
            induction m with
            | zero => intro j hj hb; rw [List.drop_of_length_le (by omega)] at hb; simp [bad] at hb
            | succ m ihm =>
              intro j hj hb
              have h' : j < l[i].f1.length := by omega
              rw [List.drop_eq_getElem_cons h'] at hb
              unfold bad at hb
              by_cases c' : l[i].f1[j] < 0
              · refine Ev.step (f := fun _ => some ([], 0, 1)) (fun k => ?_) (Ev.now _)
                simp only [close_Fall.l1, rdl h']
                rw [if_pos (by omega), if_pos (by omega), if_pos (by omega), if_pos c']
              by_cases d' : l[i].f1[j] > 1125899906842624
              · refine Ev.step (f := fun _ => some ([], 0, 1)) (fun k => ?_) (Ev.now _)
                simp only [close_Fall.l1, rdl h']
                rw [if_pos (by omega), if_pos (by omega), if_pos (by omega), if_neg c', if_pos d']
              · rw [decide_eq_false c', decide_eq_false d', Bool.false_or, Bool.false_or] at hb
                refine Ev.step (fun k => ?_) (ihm (j + 1) (by omega) hb)
                simp only [close_Fall.l1, rdl h', up h' (by omega)]
                rw [if_pos (by omega), if_pos (by omega), if_pos (by omega), if_neg c', if_neg d']
          rw [if_pos rfl]
          exact aux2 l[i].f1.length 0 (by omega) (by rw [List.drop_zero]; exact b)
        | false =>
          rw [b] at hs
          simp only [Bool.false_eq_true, if_false] at hs ⊢
          have e := fl1_go loss (l.map toLa) i l[i].f1 (by omega) (R := ([], 0, scanS (l.drop (i + 1)))) (by
            rw [List.length_map]
            simp only [up h (by omega)]
            exact ih (i + 1) (by omega) hs) l[i].f1.length 0 (by omega)
          rw [List.length_map, List.drop_zero, b] at e
          exact e
    have e := aux l.length 0 (by omega) (by rw [List.drop_zero]; exact s)
    rw [List.drop_zero] at e
    exact e
end Go.Proofs.Ytlbhjkbjokiioaa.PFall
