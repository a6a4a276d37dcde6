-- a shortened text: what this claim does not name is left out (wip/xprint/prune.py of this repo)
import Derived.Test.YtbchabgigjjdnaaPMarginB
import Derived.Test.YtbchabgigjjdnaaOpenMarginLacks
namespace Go.Proofs.Ytbchabgigjjdnaa.PLack
open Go Go.RowKit Go.Proofs.Ytbchabgigjjdnaa.X Go.Proofs.YtbchabgigjjdnaaW.PrintWords Go.Proofs.YtbchabgigjjdnaaW.PrintLast Go.Proofs.YtbchabgigjjdnaaW.PrintMore Go.Proofs.Ytbchabgigjjdnaa.PMargin
abbrev Mk := S53
abbrev Mp := S54
abbrev Lg := S44
abbrev Cd := S46
def In (x : Int) : Prop := -9223372036854775808 ≤ x ∧ x ≤ 9223372036854775807
instance (x : Int) : Decidable (In x) := by unfold In; infer_instance
theorem plus_fix {a b : Int} (ha : In a) (hb : In b) : fixnum_Plus.f a b = some (if In (a + b) then (a + b, 0) else (0, 9)) := by
  unfold In at ha hb
  have hw : (-9223372036854775808 ≤ a + b ∧ a + b ≤ 9223372036854775807 ∧ wrap64 (a + b) = a + b) ∨ (9223372036854775807 < a + b ∧ wrap64 (a + b) = a + b - 18446744073709551616) ∨ (a + b < -9223372036854775808 ∧ wrap64 (a + b) = a + b + 18446744073709551616) := by unfold wrap64; omega
  unfold fixnum_Plus.f
  by_cases c : In (a + b)
  · have e : wrap64 (a + b) = a + b := w_id c.1 c.2
    rw [if_pos c, e]
    unfold In at c
    by_cases a0 : a > 0
    · rw [if_pos a0, if_neg (show ¬ a < 0 by omega)]
      by_cases b0 : b > 0
      · rw [if_pos b0, if_neg (by omega)]
      · rw [if_neg b0]
    · rw [if_neg a0]
      by_cases a1 : a < 0
      · rw [if_pos a1]
        by_cases b1 : b < 0
        · rw [if_pos b1, if_neg (by omega)]
        · rw [if_neg b1]
      · rw [if_neg a1]
  · rw [if_neg c]
    unfold In at c
    by_cases a0 : a > 0
    · rw [if_pos a0, if_pos (by omega), if_pos (by omega)]
    · rw [if_neg a0, if_pos (by omega), if_pos (by omega), if_pos (by omega)]
theorem plus_ref {a b : Int} (ha : In a) (hb : In b) : lombardref01_Plus.f a b = some (if In (a + b) then (a + b, 0) else (0, 9)) := by
  unfold In at ha hb
  unfold lombardref01_Plus.f
  by_cases b0 : b > 0
  · have e1 : wrap64 (9223372036854775807 - b) = 9223372036854775807 - b := w_id (by omega) (by omega)
    rw [if_pos b0, e1]
    by_cases c : a > 9223372036854775807 - b
    · rw [if_pos c, if_neg (show ¬ In (a + b) by unfold In; omega)]
    · rw [if_neg c, if_neg (show ¬ b < 0 by omega), if_pos (show In (a + b) by unfold In; omega), w_id (by omega) (by omega)]
  · rw [if_neg b0]
    by_cases b1 : b < 0
    · have e1 : wrap64 (-9223372036854775808 - b) = -9223372036854775808 - b := w_id (by omega) (by omega)
      rw [if_pos b1, e1]
      by_cases c : a < -9223372036854775808 - b
      · rw [if_pos c, if_neg (show ¬ In (a + b) by unfold In; omega)]
      · rw [if_neg c, if_pos (show In (a + b) by unfold In; omega), w_id (by omega) (by omega)]
    · rw [if_neg b1, if_pos (show In (a + b) by unfold In; omega), w_id (by omega) (by omega)]
def sumTo : Int → List Int → Int × Int
  | s, [] => (s, 0)
  | s, x :: l => if In (s + x) then sumTo (s + x) l else (0, 9)
def gaps (m : Int) (l : List Mk) : List Int := (l.filter fun x => decide (x.f1 = m) && decide (x.f4 > 0)).map fun x => x.f4
theorem gaps_cons (m : Int) (x : Mk) (l : List Mk) : gaps m (x :: l) = if x.f1 = m ∧ x.f4 > 0 then x.f4 :: gaps m l else gaps m l := by
  unfold gaps
  by_cases c : x.f1 = m ∧ x.f4 > 0
  · rw [if_pos c, List.filter_cons_of_pos (by simp [c.1, c.2])]; rfl
  · rw [if_neg c, List.filter_cons_of_neg (by simpa using c)]
def mark (x : Mk) : Mp := ⟨x.f0, x.f1, x.f2, x.f3, x.f4, x.f5⟩
theorem up {i n : Nat} (h : i < n) (hn : n ≤ 1000) : wrap64 ((i : Int) + 1) = ((i + 1 : Nat) : Int) := by rw [w_id (by omega) (by omega)]; omega
theorem rd_mk {l : List Mk} {i : Nat} (h : i < l.length) : rd_T53 l (i : Int) = l[i] := by
  unfold rd_T53; rw [Int.toNat_natCast, List.getD_eq_getElem?_getD, List.getElem?_eq_getElem h]; rfl
theorem rd_mp {l : List Mp} {i : Nat} (h : i < l.length) : rd_T54 l (i : Int) = l[i] := by
  unfold rd_T54; rw [Int.toNat_natCast, List.getD_eq_getElem?_getD, List.getElem?_eq_getElem h]; rfl
theorem rd_int {l : List Int} {i : Nat} (h : i < l.length) : rd l (i : Int) = l[i] := by
  unfold rd; rw [Int.toNat_natCast, List.getD_eq_getElem?_getD, List.getElem?_eq_getElem h]; rfl
theorem marks_go (l : List Mk) (hl : l.length ≤ 80) : ∀ (n i : Nat) (out : List Mp), i + n = l.length → out.length = i → Ev (fun k => lombardlaw28_marks.l0 k l out (i : Int)) (out ++ (l.drop i).map mark)
  | 0, i, out, hi, ho => by
    rw [List.drop_of_length_le (by omega), List.map_nil, List.append_nil]
    refine Ev.step (f := fun _ => some out) (fun k => ?_) (Ev.now _)
    simp only [lombardlaw28_marks.l0]
    rw [if_neg (by omega)]
  | n + 1, i, out, hi, ho => by
    have h : i < l.length := by omega
    have ih := marks_go l hl n (i + 1) (out ++ [mark l[i]]) (by omega) (by simp [ho])
    rw [List.drop_eq_getElem_cons h, List.map_cons]
    rw [List.append_assoc] at ih
    refine Ev.step (fun k => ?_) ih
    simp only [lombardlaw28_marks.l0, rd_mk h, up h (by omega)]
    rw [if_pos (by omega), if_pos (by omega), if_pos (by omega)]
    rfl
theorem marks_ev {l : List Mk} (hl : l.length ≤ 80) : Ev (fun k => lombardlaw28_marks.f k l) (l.map mark) := by
  have := marks_go l hl l.length 0 [] (by omega) rfl
  rw [List.nil_append, List.drop_zero] at this
  exact this
theorem lack_go (l : List Mk) (hl : l.length ≤ 80) (hb : ∀ x ∈ l, In x.f4) (m : Int) : ∀ (n i : Nat) (s : Int), i + n = l.length → In s → Ev (fun k => margin_Lack.l0 k m s (l.map mark) (l.length : Int) (i : Int)) (sumTo s (gaps m (l.drop i)))
  | 0, i, s, hi, hs => by
    rw [List.drop_of_length_le (by omega)]
    refine Ev.step (f := fun _ => some (s, 0)) (fun k => ?_) (Ev.now _)
    simp only [margin_Lack.l0]
    rw [if_neg (by omega)]
  | n + 1, i, s, hi, hs => by
    have h : i < l.length := by omega
    have h2 : i < (l.map mark).length := by simpa using h
    have e : rd_T54 (l.map mark) (i : Int) = mark l[i] := by rw [rd_mp h2, List.getElem_map]
    rw [List.drop_eq_getElem_cons h, gaps_cons]
    have first : ∀ k, margin_Lack.l0 (k + 1) m s (l.map mark) (l.length : Int) (i : Int) = margin_Lack.j1 k m s (l.map mark) (l.length : Int) (i : Int) (if l[i].f1 = m then decide (l[i].f4 ≤ 0) else true) l[i].f0 l[i].f1 l[i].f2 l[i].f3 l[i].f4 l[i].f5 := by
      intro k
      simp only [margin_Lack.l0, e, mark]
      rw [if_pos (by omega), if_pos (by omega), if_pos (by simp; omega)]
      split <;> rfl
    by_cases c : l[i].f1 = m ∧ l[i].f4 > 0
    · rw [if_pos c]
      rw [if_pos c.1, decide_eq_false (show ¬ l[i].f4 ≤ 0 by omega)] at first
      have hx : In l[i].f4 := hb _ (List.getElem_mem h)
      refine Ev.step first ?_
      by_cases o : In (s + l[i].f4)
      · have ih := lack_go l hl hb m n (i + 1) (s + l[i].f4) (by omega) o
        simp only [sumTo, if_pos o]
        refine Ev.step (fun k => ?_) ih
        simp only [margin_Lack.j1, plus_fix hs hx, if_pos o, Option.bind_some, up h (by omega)]
        rw [if_neg (by simp), if_pos trivial]
      · simp only [sumTo, if_neg o]
        refine Ev.step (f := fun _ => some (0, 9)) (fun k => ?_) (Ev.now _)
        simp only [margin_Lack.j1, plus_fix hs hx, if_neg o, Option.bind_some]
        rw [if_neg (by simp), if_neg (by decide)]
    · rw [if_neg c]
      have ih := lack_go l hl hb m n (i + 1) s (by omega) hs
      have z : (if l[i].f1 = m then decide (l[i].f4 ≤ 0) else true) = true := by
        split
        · exact decide_eq_true (by omega)
        · rfl
      rw [z] at first
      refine Ev.step first (Ev.step (fun k => ?_) ih)
      simp only [margin_Lack.j1, up h (by omega)]
      rw [if_pos trivial]
theorem lack_ev {l : List Mk} (hl : l.length ≤ 80) (hb : ∀ x ∈ l, In x.f4) (m : Int) : Ev (fun k => margin_Lack.f k (l.map mark) m) (sumTo 0 (gaps m l)) := by
  have := lack_go l hl hb m l.length 0 0 (by omega) (by unfold In; omega)
  refine Ev.congr (fun k => ?_) this
  unfold margin_Lack.f
  rw [List.length_map]; rfl
theorem sum_go (l : List Int) (hl : l.length ≤ 80) (hb : ∀ x ∈ l, In x) : ∀ (n i : Nat) (s : Int), i + n = l.length → In s → Ev (fun k => lombardref01_Sum.l0 k l s (i : Int)) (sumTo s (l.drop i))
  | 0, i, s, hi, hs => by
    rw [List.drop_of_length_le (by omega)]
    refine Ev.step (f := fun _ => some (s, 0)) (fun k => ?_) (Ev.now _)
    simp only [lombardref01_Sum.l0]
    rw [if_neg (by omega)]
  | n + 1, i, s, hi, hs => by
    have h : i < l.length := by omega
    have hx : In l[i] := hb _ (List.getElem_mem h)
    rw [List.drop_eq_getElem_cons h]
    by_cases o : In (s + l[i])
    · have ih := sum_go l hl hb n (i + 1) (s + l[i]) (by omega) o
      simp only [sumTo, if_pos o]
      refine Ev.step (fun k => ?_) ih
      simp only [lombardref01_Sum.l0, rd_int h, plus_ref hs hx, if_pos o, Option.bind_some, up h (by omega)]
      rw [if_pos (by omega), if_pos (by omega), if_pos trivial]
    · simp only [sumTo, if_neg o]
      refine Ev.step (f := fun _ => some (0, 9)) (fun k => ?_) (Ev.now _)
      simp only [lombardref01_Sum.l0, rd_int h, plus_ref hs hx, if_neg o, Option.bind_some]
      rw [if_pos (by omega), if_pos (by omega), if_neg (by decide)]
theorem sum_ev {l : List Int} (hl : l.length ≤ 80) (hb : ∀ x ∈ l, In x) : Ev (fun k => lombardref01_Sum.f k l) (sumTo 0 l) := sum_go l hl hb l.length 0 0 (by omega) (by unfold In; omega)
theorem rlack_go (l : List Mk) (hl : l.length ≤ 80) (hb : ∀ x ∈ l, In x.f4) (m : Int) : ∀ (n i : Nat) (out : List Int), i + n = l.length → out.length ≤ i → (∀ x ∈ out, In x) → Ev (fun k => lombardref28_Lack.l0 k l m out (i : Int)) (sumTo 0 (out ++ gaps m (l.drop i)))
  | 0, i, out, hi, ho, hin => by
    rw [List.drop_of_length_le (by omega)]
    have hs := sum_ev (l := out) (by omega) hin
    have e : out ++ gaps m [] = out := by simp [gaps]
    rw [e]
    refine Ev.step (f := fun k => (lombardref01_Sum.f k out).bind fun bt => some (bt.1, bt.2)) (fun k => ?_) (Ev.bind hs (Ev.now _))
    simp only [lombardref28_Lack.l0]
    rw [if_neg (by omega)]
  | n + 1, i, out, hi, ho, hin => by
    have h : i < l.length := by omega
    rw [List.drop_eq_getElem_cons h, gaps_cons]
    by_cases c : l[i].f1 = m ∧ l[i].f4 > 0
    · have ih := rlack_go l hl hb m n (i + 1) (out ++ [l[i].f4]) (by omega) (by simp; omega) (by
        intro x hx
        rcases List.mem_append.1 hx with hx | hx
        · exact hin x hx
        · rw [List.mem_singleton.1 hx]; exact hb _ (List.getElem_mem h))
      rw [if_pos c]
      rw [List.append_assoc] at ih
      refine Ev.step (fun k => ?_) ih
      simp only [lombardref28_Lack.l0, rd_mk h, up h (by omega)]
      rw [if_pos (by omega), if_pos (by omega), if_pos c.1, if_pos c.2, if_pos (by omega)]
    · have ih := rlack_go l hl hb m n (i + 1) out (by omega) (by omega) hin
      rw [if_neg c]
      refine Ev.step (fun k => ?_) ih
      simp only [lombardref28_Lack.l0, rd_mk h, up h (by omega)]
      rw [if_pos (by omega), if_pos (by omega)]
      by_cases d : l[i].f1 = m
      · rw [if_pos d, if_neg (by omega)]
      · rw [if_neg d]
theorem rlack_ev {l : List Mk} (hl : l.length ≤ 80) (hb : ∀ x ∈ l, In x.f4) (m : Int) : Ev (fun k => lombardref28_Lack.f k l m) (sumTo 0 (gaps m l)) := by
  have := rlack_go l hl hb m l.length 0 [] (by omega) (by simp) (by simp)
  rw [List.nil_append, List.drop_zero] at this
  exact this
instance fairDec (l s a h : Int) : Decidable (PMargin.Fair l s a h) := by unfold PMargin.Fair; infer_instance
def callF (l s a h : Int) : Int × Int := if PMargin.Fair l s a h then (callOf l s (a - h), 0) else (0, 1)
theorem callF_ev (l s a h : Int) : Ev (fun k => margin_Rules_Call.f k l s a h) (callF l s a h) ∧ Ev (fun k => lombardref28_Call.f k l s a h) (callF l s a h) := by
  unfold callF
  by_cases F : PMargin.Fair l s a h
  · rw [if_pos F]
    exact ⟨⟨2, fun k hk => by obtain ⟨m, rfl⟩ : ∃ m, k = m + 2 := ⟨k - 2, by omega⟩; exact call_fair m F⟩, ⟨1, fun k hk => by obtain ⟨m, rfl⟩ : ∃ m, k = m + 1 := ⟨k - 1, by omega⟩; exact ref_fair m F⟩⟩
  · rw [if_neg F]
    exact ⟨⟨2, fun k hk => by obtain ⟨m, rfl⟩ : ∃ m, k = m + 2 := ⟨k - 2, by omega⟩; exact call_bad m F⟩, ⟨1, fun k hk => by obtain ⟨m, rfl⟩ : ∃ m, k = m + 1 := ⟨k - 1, by omega⟩; exact ref_bad m F⟩⟩
def callsS (least step : Int) (l : List Mk) : Nat → List Int → List (Int × Int) → List (Int × Int) × Int
  | _, [], acc => (acc, 0)
  | i, h :: hs, acc =>
    if (sumTo 0 (gaps ((i + 1 : Nat) : Int) l)).2 = 0 then
      if (callF least step (sumTo 0 (gaps ((i + 1 : Nat) : Int) l)).1 h).2 = 0 then
        if (callF least step (sumTo 0 (gaps ((i + 1 : Nat) : Int) l)).1 h).1 = 0 then callsS least step l (i + 1) hs acc
        else callsS least step l (i + 1) hs (acc ++ [(((i + 1 : Nat) : Int), (callF least step (sumTo 0 (gaps ((i + 1 : Nat) : Int) l)).1 h).1)])
      else ([], (callF least step (sumTo 0 (gaps ((i + 1 : Nat) : Int) l)).1 h).2)
    else ([], (sumTo 0 (gaps ((i + 1 : Nat) : Int) l)).2)
def legOf (x : Int × Int) : Lg := ⟨0, x.1, 0, x.2, []⟩
def cdOf (x : Int × Int) : Cd := ⟨x.1, x.2⟩
theorem calls_go (least step : Int) (l : List Mk) (hl : l.length ≤ 80) (hb : ∀ x ∈ l, In x.f4) (has : List Int) (hh : has.length ≤ 60) : ∀ (n i : Nat) (acc : List (Int × Int)), i + n = has.length → acc.length ≤ i →
    Ev (fun k => margin_Calls.l0 k (l.map mark) (acc.map legOf) has (has.length : Int) (i : Int) least step) (((callsS least step l i (has.drop i) acc).1.map legOf, (callsS least step l i (has.drop i) acc).2)) ∧
    Ev (fun k => lombardref28_Calls.l0 k l least step has (acc.map cdOf) (i : Int)) (((callsS least step l i (has.drop i) acc).1.map cdOf, (callsS least step l i (has.drop i) acc).2))
  | 0, i, acc, hi, ha => by
    rw [List.drop_of_length_le (by omega)]
    simp only [callsS]
    refine ⟨Ev.step (f := fun _ => some (acc.map legOf, 0)) (fun k => ?_) (Ev.now _), Ev.step (f := fun _ => some (acc.map cdOf, 0)) (fun k => ?_) (Ev.now _)⟩
    · simp only [margin_Calls.l0]; rw [if_neg (by omega)]
    · simp only [lombardref28_Calls.l0]; rw [if_neg (by omega)]
  | n + 1, i, acc, hi, ha => by
    have h : i < has.length := by omega
    rw [List.drop_eq_getElem_cons h]
    simp only [callsS]
    have e1 := lack_ev hl hb ((i + 1 : Nat) : Int)
    have e2 := rlack_ev hl hb ((i + 1 : Nat) : Int)
    generalize sumTo 0 (gaps ((i + 1 : Nat) : Int) l) = x at *
    obtain ⟨f1, f2⟩ := callF_ev least step x.1 has[i]
    generalize callF least step x.1 has[i] = y at *
    have sp : ∀ k, margin_Calls.l0 (k + 1) (l.map mark) (acc.map legOf) has (has.length : Int) (i : Int) least step = (margin_Lack.f k (l.map mark) ((i + 1 : Nat) : Int)).bind fun bt144 => if bt144.2 = 0 then (margin_Rules_Call.f k least step bt144.1 has[i]).bind fun bt146 => if bt146.2 = 0 then (if bt146.1 = 0 then margin_Calls.l0 k (l.map mark) (acc.map legOf) has (has.length : Int) ((i + 1 : Nat) : Int) least step else margin_Calls.l0 k (l.map mark) (acc.map legOf ++ [legOf (((i + 1 : Nat) : Int), bt146.1)]) has (has.length : Int) ((i + 1 : Nat) : Int) least step) else some ([], bt146.2) else some ([], bt144.2) := by
      intro k
      have hlen : (acc.map legOf).length < 2513169434916 := by simp; omega
      simp only [margin_Calls.l0, rd_int h, up h (by omega), hlen, if_true]
      rw [if_pos (by omega), if_pos (by omega), if_pos (by omega)]
      rfl
    have sr : ∀ k, lombardref28_Calls.l0 (k + 1) l least step has (acc.map cdOf) (i : Int) = (lombardref28_Lack.f k l ((i + 1 : Nat) : Int)).bind fun bt255 => if bt255.2 = 0 then (lombardref28_Call.f k least step bt255.1 has[i]).bind fun bt258 => if bt258.2 = 0 then (if bt258.1 = 0 then lombardref28_Calls.l0 k l least step has (acc.map cdOf) ((i + 1 : Nat) : Int) else lombardref28_Calls.l0 k l least step has (acc.map cdOf ++ [cdOf (((i + 1 : Nat) : Int), bt258.1)]) ((i + 1 : Nat) : Int)) else some ([], bt258.2) else some ([], bt255.2) := by
      intro k
      have hlen : (acc.map cdOf).length < 8796093022208 := by simp; omega
      have h0 : (0 : Int) ≤ (i : Int) := by omega
      simp only [lombardref28_Calls.l0, rd_int h, up h (by omega), hlen, h0, if_true]
      rw [if_pos (by omega)]
      rfl
    by_cases c1 : x.2 = 0
    · simp only [if_pos c1]
      by_cases c2 : y.2 = 0
      · simp only [if_pos c2]
        by_cases c3 : y.1 = 0
        · simp only [if_pos c3]
          obtain ⟨p, r⟩ := calls_go least step l hl hb has hh n (i + 1) acc (by omega) (by omega)
          exact ⟨Ev.step sp (Ev.bind e1 (by simp only [if_pos c1]; exact Ev.bind f1 (by simp only [if_pos c2, if_pos c3]; exact p))), Ev.step sr (Ev.bind e2 (by simp only [if_pos c1]; exact Ev.bind f2 (by simp only [if_pos c2, if_pos c3]; exact r)))⟩
        · simp only [if_neg c3]
          obtain ⟨p, r⟩ := calls_go least step l hl hb has hh n (i + 1) (acc ++ [(((i + 1 : Nat) : Int), y.1)]) (by omega) (by simp; omega)
          rw [List.map_append] at p r
          exact ⟨Ev.step sp (Ev.bind e1 (by simp only [if_pos c1]; exact Ev.bind f1 (by simp only [if_pos c2, if_neg c3]; exact p))), Ev.step sr (Ev.bind e2 (by simp only [if_pos c1]; exact Ev.bind f2 (by simp only [if_pos c2, if_neg c3]; exact r)))⟩
      · simp only [if_neg c2]
        exact ⟨Ev.step sp (Ev.bind e1 (by simp only [if_pos c1]; exact Ev.bind f1 (by simp only [if_neg c2]; exact Ev.now _))), Ev.step sr (Ev.bind e2 (by simp only [if_pos c1]; exact Ev.bind f2 (by simp only [if_neg c2]; exact Ev.now _)))⟩
    · simp only [if_neg c1]
      exact ⟨Ev.step sp (Ev.bind e1 (by simp only [if_neg c1]; exact Ev.now _)), Ev.step sr (Ev.bind e2 (by simp only [if_neg c1]; exact Ev.now _))⟩
theorem callsS_len (least step : Int) (l : List Mk) : ∀ (hs : List Int) (i : Nat) (acc : List (Int × Int)), (callsS least step l i hs acc).1.length ≤ acc.length + hs.length
  | [], i, acc => by simp [callsS]
  | h :: hs, i, acc => by
    simp only [callsS]
    split
    · split
      · split
        · have := callsS_len least step l hs (i + 1) acc; simp; omega
        · have := callsS_len least step l hs (i + 1) (acc ++ [(((i + 1 : Nat) : Int), (callF least step (sumTo 0 (gaps ((i + 1 : Nat) : Int) l)).1 h).1)]); simp at *; omega
      · simp
    · simp
theorem calls_ev (least step : Int) {l : List Mk} (hl : l.length ≤ 80) (hb : ∀ x ∈ l, In x.f4) {has : List Int} (hh : has.length ≤ 60) :
    ∃ (z : List (Int × Int)) (e : Int), Ev (fun k => margin_Calls.f k (l.map mark) least step has) (z.map legOf, e) ∧ Ev (fun k => lombardref28_Calls.f k l least step has) (z.map cdOf, e) ∧ z.length ≤ 1000 := by
  unfold margin_Calls.f lombardref28_Calls.f
  have good : margin_Rules_good.f least step = lombardref28_Rules.f least step := rfl
  obtain ⟨g, hg⟩ : ∃ g, lombardref28_Rules.f least step = some g := by unfold lombardref28_Rules.f; split <;> (try split) <;> (try split) <;> exact ⟨_, rfl⟩
  rw [good, hg]
  simp only [Option.bind_some]
  have bad1 : Ev (fun k => margin_Calls.j0 k (l.map mark) has true least step) ([], 1) := Ev.step (f := fun _ => some ([], 1)) (fun k => by simp [margin_Calls.j0]) (Ev.now _)
  have bad2 : Ev (fun k => lombardref28_Calls.j0 k l least step has true) ([], 1) := Ev.step (f := fun _ => some ([], 1)) (fun k => by simp [lombardref28_Calls.j0]) (Ev.now _)
  cases g with
  | false => exact ⟨[], 1, bad1, bad2, by simp⟩
  | true =>
    simp only [if_true]
    by_cases c : (has.length : Int) > 32
    · rw [decide_eq_true c]; exact ⟨[], 1, bad1, bad2, by simp⟩
    · rw [decide_eq_false c]
      obtain ⟨p, r⟩ := calls_go least step l hl hb has hh has.length 0 [] (by omega) (by simp)
      exact ⟨_, _, Ev.step (fun k => by simp only [margin_Calls.j0]; rw [if_neg (by simp)]; rfl) p, Ev.step (fun k => by simp only [lombardref28_Calls.j0]; rw [if_neg (by simp)]; rfl) r, by have := callsS_len least step l (has.drop 0) 0 []; simp at this ⊢; omega⟩
end Go.Proofs.Ytbchabgigjjdnaa.PLack
