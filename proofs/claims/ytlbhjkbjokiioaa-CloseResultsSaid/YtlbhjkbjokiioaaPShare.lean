-- a shortened text: what this claim does not name is left out (wip/xprint/prune.py of this repo)
import Derived.Test.YtlbhjkbjokiioaaPFixB
import Derived.Test.YtlbhjkbjokiioaaX2
import Derived.Test.YtlbhjkbjokiioaaX4
import Derived.Test.YtlbhjkbjokiioaaX8
namespace Go.Proofs.Ytlbhjkbjokiioaa.PShare
open Go Go.RowKit Go.Proofs.Ytlbhjkbjokiioaa.X Go.Proofs.YtlbhjkbjokiioaaW.PrintWords Go.Proofs.YtlbhjkbjokiioaaW.PrintLast Go.Proofs.YtlbhjkbjokiioaaW.PrintMore Go.Proofs.Ytlbhjkbjokiioaa.MDS
def In (x : Int) : Prop := -9223372036854775808 ≤ x ∧ x ≤ 9223372036854775807
instance (x : Int) : Decidable (In x) := by unfold In; infer_instance
theorem w_id {x : Int} (h0 : -9223372036854775808 ≤ x) (h1 : x ≤ 9223372036854775807) : wrap64 x = x := by unfold wrap64; omega
theorem up {i n : Nat} (h : i < n) (hn : n ≤ 1000000000000000000) : wrap64 ((i : Int) + 1) = ((i + 1 : Nat) : Int) := by rw [w_id (by omega) (by omega)]; omega
theorem rdl {l : List Int} {i : Nat} (h : i < l.length) : rd l (i : Int) = l[i] := by
  unfold rd; rw [Int.toNat_natCast, List.getD_eq_getElem?_getD, List.getElem?_eq_getElem h]; rfl
theorem plus_fix {a b : Int} (ha : In a) (hb : In b) : fixnum_Plus.f a b = some (if In (a + b) then (a + b, 0) else (0, 9)) := by
  unfold In at ha hb
  have hw : (-9223372036854775808 ≤ a + b ∧ a + b ≤ 9223372036854775807 ∧ wrap64 (a + b) = a + b) ∨ (9223372036854775807 < a + b ∧ wrap64 (a + b) = a + b - 18446744073709551616) ∨ (a + b < -9223372036854775808 ∧ wrap64 (a + b) = a + b + 18446744073709551616) := by unfold wrap64; omega
  unfold fixnum_Plus.f
  by_cases c : In (a + b)
  · have e : wrap64 (a + b) = a + b := w_id c.1 c.2
    rw [if_pos c, e]
    unfold In at c
    repeat' split
    all_goals first | rfl | (exfalso; omega)
  · rw [if_neg c]
    unfold In at c
    repeat' split
    all_goals first | rfl | (exfalso; omega)
theorem plus_ref {a b : Int} (ha : In a) (hb : In b) : lombardref01_Plus.f a b = some (if In (a + b) then (a + b, 0) else (0, 9)) := by
  unfold In at ha hb
  have hw : (-9223372036854775808 ≤ a + b ∧ a + b ≤ 9223372036854775807 ∧ wrap64 (a + b) = a + b) ∨ (9223372036854775807 < a + b ∧ wrap64 (a + b) = a + b - 18446744073709551616) ∨ (a + b < -9223372036854775808 ∧ wrap64 (a + b) = a + b + 18446744073709551616) := by unfold wrap64; omega
  have e1 : b > 0 → wrap64 (9223372036854775807 - b) = 9223372036854775807 - b := fun h => w_id (by omega) (by omega)
  have e2 : b < 0 → wrap64 ((-9223372036854775808) - b) = (-9223372036854775808) - b := fun h => w_id (by omega) (by omega)
  unfold lombardref01_Plus.f
  by_cases p : b > 0
  · rw [if_pos p, e1 p]
    by_cases c : In (a + b)
    · have e : wrap64 (a + b) = a + b := w_id c.1 c.2
      rw [if_pos c, e]
      unfold In at c
      rw [if_neg (by omega), if_neg (by omega)]
    · rw [if_neg c]
      unfold In at c
      rw [if_pos (by omega)]
  · rw [if_neg p]
    by_cases n : b < 0
    · rw [if_pos n, e2 n]
      by_cases c : In (a + b)
      · have e : wrap64 (a + b) = a + b := w_id c.1 c.2
        rw [if_pos c, e]
        unfold In at c
        rw [if_neg (by omega)]
      · rw [if_neg c]
        unfold In at c
        rw [if_pos (by omega)]
    · rw [if_neg n, if_pos (show In (a + b) by unfold In; omega), w_id (by omega) (by omega)]
def sm : List Int → Int
  | [] => 0
  | x :: r => x + sm r
def W (l : List Int) : Prop := ∀ x ∈ l, 0 ≤ x ∧ x ≤ 1125899906842624
theorem W.tail {x : Int} {l : List Int} (h : W (x :: l)) : W l := fun y hy => h y (List.mem_cons_of_mem _ hy)
theorem W.drop {l : List Int} (h : W l) (i : Nat) : W (l.drop i) := fun y hy => h y (List.mem_of_mem_drop hy)
theorem sm_bd : ∀ {l : List Int}, W l → 0 ≤ sm l ∧ sm l ≤ 1125899906842624 * l.length
  | [], _ => by simp [sm]
  | x :: r, h => by
    have h1 := h x (by simp)
    have h2 := sm_bd h.tail
    simp only [sm, List.length_cons] at *
    omega
def fl (a all w : Int) : Int := a * w / all
def spread : Int → List Int → List Int → List Int
  | left, w :: ws, o :: os => if left > 0 ∧ w > 0 then (o + 1) :: spread (left - 1) ws os else o :: spread left ws os
  | _, _, os => os
def shareS (a : Int) (ws : List Int) : List Int := spread (a - sm (ws.map (fl a (sm ws)))) ws (ws.map (fl a (sm ws)))
def Sub : List Int → List Int → Prop
  | [], [] => True
  | u :: us, p :: ps => 0 ≤ u ∧ u ≤ p ∧ Sub us ps
  | _, _ => False
theorem Sub.refl : ∀ {ps : List Int}, W ps → Sub ps ps
  | [], _ => trivial
  | p :: ps, h => ⟨(h p (by simp)).1, Int.le_refl _, Sub.refl h.tail⟩
theorem fl_bd {a all w : Int} (a0 : 0 ≤ a) (ha : a < all) (w0 : 0 ≤ w) : 0 ≤ fl a all w ∧ (w = 0 → fl a all w = 0) ∧ (0 < w → fl a all w < w) ∧ fl a all w * all ≤ a * w ∧ a * w ≤ (fl a all w + (if w > 0 then 1 else 0)) * all := by
  unfold fl
  have p : 0 < all := by omega
  have q0 : 0 ≤ a * w := Int.mul_nonneg a0 w0
  refine ⟨Int.ediv_nonneg q0 (by omega), fun h => by rw [h, Int.mul_zero, Int.zero_ediv], fun h => ?_, Int.ediv_mul_le _ (by omega), ?_⟩
  · refine Int.ediv_lt_of_lt_mul p ?_
    rw [Int.mul_comm w all]
    exact Int.mul_lt_mul_of_pos_right ha h
  · by_cases h : w > 0
    · rw [if_pos h, Int.add_mul, Int.one_mul]
      have := Int.lt_ediv_add_one_mul_self (a * w) p
      rw [Int.add_mul, Int.one_mul] at this
      exact Int.le_of_lt this
    · have e : w = 0 := by omega
      rw [if_neg h, e, Int.mul_zero, Int.zero_ediv]
      simp
theorem sum_go (l : List Int) (hl : l.length ≤ 64) (hw : W l) : ∀ (n i : Nat) (s : Int), i + n = l.length → 0 ≤ s → s ≤ 1125899906842624 * i →
    Ev (fun k => fixnum_Sum.l0 k s l (l.length : Int) (i : Int)) (s + sm (l.drop i), 0)
  | 0, i, s, hi, h0, h1 => by
    rw [List.drop_of_length_le (by omega)]
    refine Ev.step (f := fun _ => some (s, 0)) (fun k => ?_) (by simp only [sm, Int.add_zero]; exact Ev.now _)
    simp only [fixnum_Sum.l0]
    rw [if_neg (by omega)]
  | n + 1, i, s, hi, h0, h1 => by
    have h : i < l.length := by omega
    have x := hw l[i] (List.getElem_mem h)
    have p := plus_fix (a := s) (b := l[i]) (by unfold In; omega) (by unfold In; omega)
    rw [if_pos (show In (s + l[i]) by unfold In; omega)] at p
    rw [List.drop_eq_getElem_cons h]
    simp only [sm]
    refine Ev.step (f := fun k => fixnum_Sum.l0 k (s + l[i]) l (l.length : Int) ((i + 1 : Nat) : Int)) (fun k => ?_) ?_
    · simp only [fixnum_Sum.l0, rdl h, up h (by omega), p, Option.bind_some]
      rw [if_pos (by omega), if_pos (by omega), if_pos (by omega), if_pos trivial]
    · have := sum_go l hl hw n (i + 1) (s + l[i]) (by omega) (by omega) (by omega)
      rw [Int.add_assoc] at this
      exact this
theorem sum_ev {l : List Int} (hl : l.length ≤ 64) (hw : W l) : Ev (fun k => fixnum_Sum.f k l) (sm l, 0) := by
  have := sum_go l hl hw l.length 0 0 (by omega) (by omega) (by omega)
  rw [List.drop_zero, Int.zero_add] at this
  exact this
theorem md_fl {a w all : Int} (a0 : 0 ≤ a) (a1 : a ≤ 1125899906842624) (w0 : 0 ≤ w) (w1 : w ≤ 1125899906842624) (h : a < all) (_h1 : all ≤ 9223372036854775807) : mulDivS a w all 1 = (fl a all w, 0) := by
  unfold mulDivS fl
  rw [if_neg (by omega)]
  have m : minusOf a w all = false := by
    unfold minusOf
    rw [decide_eq_false (show ¬ a < 0 by omega), decide_eq_false (show ¬ w < 0 by omega), decide_eq_false (show ¬ all < 0 by omega)]
    rfl
  have e1 : (a.natAbs : Int) * w.natAbs = a * w := by rw [show (a.natAbs : Int) = a by omega, show (w.natAbs : Int) = w by omega]
  have e2 : (all.natAbs : Int) = all := by omega
  simp only [m, e1, e2]
  have up0 : upOf false (a * w / all) (a * w % all) all 1 = false := by
    unfold upOf
    split <;> rfl
  have q1 : a * w / all ≤ w := by
    by_cases c : 0 < w
    · have := (fl_bd a0 h w0).2.2.1 c
      unfold fl at this
      omega
    · have := (fl_bd a0 h w0).2.1 (by omega)
      unfold fl at this
      omega
  rw [up0]
  simp only [Bool.false_eq_true, if_false, Int.add_zero]
  unfold signOf
  rw [if_neg (by simp; omega)]
  rfl
theorem fl_le {a w all : Int} (a0 : 0 ≤ a) (h : a < all) (w0 : 0 ≤ w) : 0 ≤ fl a all w ∧ fl a all w ≤ w := by
  refine ⟨(fl_bd a0 h w0).1, ?_⟩
  by_cases c : 0 < w
  · have := (fl_bd a0 h w0).2.2.1 c; omega
  · have := (fl_bd a0 h w0).2.1 (by omega); omega
theorem take_set_succ {l : List Int} {i : Nat} (h : i < l.length) (v : Int) : (l.set i v).take (i + 1) = l.take i ++ [v] := by
  rw [List.take_succ_eq_append_getElem (by simpa using h), List.take_set_of_le (Nat.le_refl _)]
  simp
theorem drop_set_succ {l : List Int} {i : Nat} (v : Int) : (l.set i v).drop (i + 1) = l.drop (i + 1) := List.drop_set_of_lt (by omega)
theorem take_succ' {l : List Int} {i : Nat} (h : i < l.length) : l.take (i + 1) = l.take i ++ [l[i]] := List.take_succ_eq_append_getElem h
theorem l2_go (l : List Int) (hl : l.length ≤ 64) : ∀ (n i : Nat) (out : List Int) (left : Int), i + n = l.length → out.length = l.length → W (out.drop i) → -9000000000000000000 ≤ left - 64 + i → left ≤ 1125899906842624 →
    Ev (fun k => fixnum_Share.l2 k l out left (l.length : Int) (i : Int)) (out.take i ++ spread left (l.drop i) (out.drop i), 0)
  | 0, i, out, left, hi, ho, hx, h0, h1 => by
    rw [List.drop_of_length_le (by omega), List.drop_of_length_le (by omega), List.take_of_length_le (by omega)]
    refine Ev.step (f := fun _ => some (out, 0)) (fun k => ?_) (by unfold spread; rw [List.append_nil]; exact Ev.now _)
    simp only [fixnum_Share.l2]
    rw [if_neg (by omega)]
  | n + 1, i, out, left, hi, ho, hx, h0, h1 => by
    have h : i < l.length := by omega
    have h' : i < out.length := by omega
    rw [List.drop_eq_getElem_cons h, List.drop_eq_getElem_cons h']
    rw [List.drop_eq_getElem_cons h'] at hx
    have x := hx out[i] List.mem_cons_self
    unfold spread
    by_cases c : left > 0 ∧ l[i] > 0
    · rw [if_pos c]
      have e1 : wrap64 (out[i] + 1) = out[i] + 1 := w_id (by omega) (by omega)
      have e2 : wrap64 (left - 1) = left - 1 := w_id (by omega) (by omega)
      refine Ev.step (f := fun k => fixnum_Share.l2 k l (out.set i (out[i] + 1)) (left - 1) (l.length : Int) ((i + 1 : Nat) : Int)) (fun k => ?_) ?_
      · simp only [fixnum_Share.l2, rdl h, rdl h', up h (by omega), Int.toNat_natCast, e1, e2]
        rw [if_pos (by omega), if_pos c.1, if_pos (by omega), if_pos (by omega), if_pos c.2, if_pos (by omega)]
      · have := l2_go l hl n (i + 1) (out.set i (out[i] + 1)) (left - 1) (by omega) (by simpa using ho) (by rw [drop_set_succ]; exact hx.tail) (by omega) (by omega)
        rw [take_set_succ h', drop_set_succ, List.append_assoc] at this
        exact this
    · rw [if_neg c]
      refine Ev.step (f := fun k => fixnum_Share.l2 k l out left (l.length : Int) ((i + 1 : Nat) : Int)) (fun k => ?_) ?_
      · simp only [fixnum_Share.l2, rdl h, rdl h', up h (by omega)]
        rw [if_pos (by omega)]
        by_cases d : left > 0
        · rw [if_pos d, if_pos (by omega), if_pos (by omega), if_neg (by omega)]
        · rw [if_neg d]
      · have := l2_go l hl n (i + 1) out left (by omega) ho hx.tail (by omega) h1
        rw [take_succ' h', List.append_assoc] at this
        exact this
theorem l1_go {a all : Int} (a0 : 0 ≤ a) (a1 : a ≤ 1125899906842624) (ha : a < all) (h63 : all ≤ 9223372036854775807) (l : List Int) (hl : l.length ≤ 64) (hw : W l) : ∀ (n i : Nat) (out : List Int) (left : Int), i + n = l.length → out.length = i → W out → -(1125899906842624 * i) ≤ left → left ≤ 1125899906842624 →
    Ev (fun k => fixnum_Share.l1 k a l all out left l (l.length : Int) (i : Int)) (spread (left - sm ((l.drop i).map (fl a all))) l (out ++ (l.drop i).map (fl a all)), 0)
  | 0, i, out, left, hi, ho, hx, h0, h1 => by
    rw [List.drop_of_length_le (by omega)]
    simp only [List.map_nil, sm, List.append_nil, Int.sub_zero]
    refine Ev.step (f := fun k => fixnum_Share.l2 k l out left (out.length : Int) 0) (fun k => ?_) ?_
    · simp only [fixnum_Share.l1]
      rw [if_neg (by omega)]
    · have := l2_go l hl l.length 0 out left (by omega) (by omega) hx (by omega) h1
      rw [show (l.length : Int) = (out.length : Int) by omega] at this
      simpa using this
  | n + 1, i, out, left, hi, ho, hx, h0, h1 => by
    have h : i < l.length := by omega
    have x := hw l[i] (List.getElem_mem h)
    have f := fl_le a0 ha x.1
    rw [List.drop_eq_getElem_cons h]
    simp only [List.map_cons, sm]
    have mv := PFix.muldiv_ev (a := a) (b := l[i]) (c := all) (how := 1) (by omega) (by omega) (by omega) (by omega) (by omega) h63
    rw [md_fl a0 a1 x.1 x.2 ha h63] at mv
    have e2 : wrap64 (left - fl a all l[i]) = left - fl a all l[i] := w_id (by omega) (by omega)
    refine Ev.step (f := fun k => fixnum_Share.l1 (k + 1) a l all out left l (l.length : Int) (i : Int)) (fun k => rfl) ?_
    simp only [fixnum_Share.l1, rdl h, up h (by omega), if_pos (show (i : Int) < (l.length : Int) by omega), if_pos (show (0 : Int) ≤ (i : Int) by omega)]
    refine Ev.bind mv ?_
    simp only [e2, if_pos (show out.length < 17592186044416 by omega)]
    have := l1_go a0 a1 ha h63 l hl hw n (i + 1) (out ++ [fl a all l[i]]) (left - fl a all l[i]) (by omega) (by simp; omega) (fun y hy => by
      rcases List.mem_append.1 hy with hy | hy
      · exact hx y hy
      · rw [List.mem_singleton.1 hy]; omega) (by omega) (by omega)
    rw [List.append_assoc, show left - fl a all l[i] - sm ((l.drop (i + 1)).map (fl a all)) = left - (fl a all l[i] + sm ((l.drop (i + 1)).map (fl a all))) by omega] at this
    exact this
theorem l0_go {a : Int} (l : List Int) (hl : l.length ≤ 64) (hw : W l) {R : List Int × Int} (hk : Ev (fun k => (fixnum_Sum.f k l).bind fun bt132 => (if bt132.2 = 0 then (if bt132.1 = 0 then (some (([] : List Int), 6)) else (if 0 ≤ (l.length : Int) then (if ((l.length : Int) : Int).toNat ≤ 35184372088832 then (fixnum_Share.l1 k a l bt132.1 ([]) a l (l.length : Int) 0) else (none)) else (none))) else (some (([] : List Int), bt132.2)))) R) : ∀ (n i : Nat), i + n = l.length →
    Ev (fun k => fixnum_Share.l0 k a l l (l.length : Int) (i : Int)) R
  | 0, i, hi => by
    refine Ev.step (fun k => ?_) hk
    simp only [fixnum_Share.l0]
    rw [if_neg (by omega)]
  | n + 1, i, hi => by
    have h : i < l.length := by omega
    have x := hw l[i] (List.getElem_mem h)
    refine Ev.step (fun k => ?_) (l0_go l hl hw hk n (i + 1) (by omega))
    simp only [fixnum_Share.l0, rdl h, up h (by omega)]
    rw [if_pos (by omega), if_pos (by omega), if_pos (by omega), if_neg (by omega)]
theorem share_ev {a : Int} {l : List Int} (hl : l.length ≤ 64) (hw : W l) (a0 : 0 ≤ a) (a1 : a ≤ 1125899906842624) (ha : a < sm l) : Ev (fun k => fixnum_Share.f k a l) (shareS a l, 0) := by
  have b := sm_bd hw
  unfold fixnum_Share.f
  simp only [if_neg (show ¬ a < 0 by omega), decide_eq_false (show ¬ (l.length : Int) > 64 by omega)]
  refine Ev.step (f := fun k => fixnum_Share.l0 k a l l (l.length : Int) 0) (fun k => by simp only [fixnum_Share.j0]; rw [if_neg (by simp)]) ?_
  refine l0_go l hl hw ?_ l.length 0 (by omega)
  refine Ev.bind (sum_ev hl hw) ?_
  simp only [if_pos, if_neg (show ¬ sm l = 0 by omega), if_pos (show (0 : Int) ≤ (l.length : Int) by omega), if_pos (show ((l.length : Int) : Int).toNat ≤ 35184372088832 by omega)]
  have := l1_go a0 a1 ha (by omega) l hl hw l.length 0 [] a (by omega) rfl (fun _ h => by cases h) (by omega) a1
  simpa [shareS] using this
end Go.Proofs.Ytlbhjkbjokiioaa.PShare
