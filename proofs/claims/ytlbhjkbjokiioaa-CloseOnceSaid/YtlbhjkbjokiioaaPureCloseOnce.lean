/- CloseOnce: the law's printed function answers true at all lots and bids. No condition. -/
import Derived.Test.YtlbhjkbjokiioaaPAuctH
import Derived.Test.YtlbhjkbjokiioaaOpenCloseOnce
import Derived.Test.YtlbhjkbjokiioaaX19
import Derived.Test.YtlbhjkbjokiioaaX5
import Derived.Test.YtlbhjkbjokiioaaX18
namespace Go.Proofs.Ytlbhjkbjokiioaa.Pure
open Go Go.RowKit Go.Proofs.Ytlbhjkbjokiioaa.X Go.Proofs.YtlbhjkbjokiioaaW.PrintWords Go.Proofs.YtlbhjkbjokiioaaW.PrintLast Go.Proofs.YtlbhjkbjokiioaaW.PrintMore Go.Proofs.Ytlbhjkbjokiioaa.PAuct Go.Proofs.Ytlbhjkbjokiioaa.MDS
set_option linter.unusedVariables false
theorem awake_ev : Ev (fun k => lombardlaw29_awake.f k) true := by
  have h : lombardlaw29_awake.f 200 = some true := by decide +kernel
  refine ⟨200, fun k hk => ?_⟩
  obtain ⟨d, rfl⟩ := Nat.exists_eq_add_of_le hk
  induction d with
  | zero => exact h
  | succ d ih => exact lombardlaw29_awake.mono _ _ (ih (Nat.le_add_right ..))
theorem qty_go (l : List PAuct.Lot) (hl : l.length ≤ 1000) (s : ByteArray) : ∀ (n i : Nat), i + n = l.length → Ev (fun k => lombardref17_Qty.l0 k l s (i : Int)) (restOf s.toList (l.drop i))
  | 0, i, hi => by
    rw [List.drop_of_length_le (by omega)]
    refine Ev.step (f := fun _ => some 0) (fun k => ?_) (Ev.now _)
    simp only [lombardref17_Qty.l0]
    rw [if_neg (by omega)]
  | n + 1, i, hi => by
    have h : i < l.length := by omega
    rw [List.drop_eq_getElem_cons h, restOf]
    by_cases c : l[i].f0.toList = s.toList
    · rw [if_pos c]
      refine Ev.step (f := fun _ => some l[i].f1) (fun k => ?_) (Ev.now _)
      simp only [lombardref17_Qty.l0]
      rw [if_pos (by omega), if_pos (by omega), PAuct.rdL h, if_pos c]
    · rw [if_neg c]
      refine Ev.step (fun k => ?_) (qty_go l hl s n (i + 1) (by omega))
      simp only [lombardref17_Qty.l0]
      rw [if_pos (by omega), if_pos (by omega), PAuct.rdL h, if_neg c, PSort.wsucc (by omega)]
def Good (d : Sold) (b : Bid) : Prop := b.f0 = d.f0 ∧ b.f1.toList = d.f1.toList ∧ d.f2 ≤ b.f2 ∧ (mulDivS d.f2 b.f3 1000000 2).2 = 0 ∧ d.f3 ≤ (mulDivS d.f2 b.f3 1000000 2).1
theorem good_of {d : Sold} {b : Bid} (hf : Fine b) (h : To d b) : Good d b := by
  obtain ⟨h1, h2, h3, h4, h5, h6⟩ := h
  obtain ⟨_, ⟨f1, f2⟩, f3, f4⟩ := hf
  obtain ⟨u1, u2⟩ := worth_up (q := d.f2) (p := b.f3) h3 (by omega) f3 f4
  exact ⟨h1, h2, h4, u1, by rw [h5]; exact u2⟩
theorem l3_go (L : List Bid) (hL : L.length ≤ 300) (hf : ∀ b ∈ L, Fine b) (S : List Sold) (hS : S.length ≤ 30000) (T t : Int) (j : Nat) (hj : j < S.length) (s0 : 0 ≤ S[j].f2) (s1 : S[j].f2 ≤ 1125899906842624)
    (h : Ev (fun k => lombardlaw29_CloseOnce.l2 k L S T (wrap64 (t + S[j].f3)) ((j + 1 : Nat) : Int)) true) : ∀ (n i : Nat) (g : Bool), i + n = L.length → (g = true ∨ ∃ b ∈ L.drop i, Good S[j] b) → Ev (fun k => lombardlaw29_CloseOnce.l3 k L S T t (j : Int) g (i : Int)) true
  | 0, i, g, hi, hg => by
    rw [List.drop_of_length_le (by omega)] at hg
    obtain rfl : g = true := by
      rcases hg with h | ⟨b, hb, _⟩
      · exact h
      · cases hb
    refine Ev.step (fun k => ?_) h
    simp only [lombardlaw29_CloseOnce.l3]
    rw [if_neg (by omega), if_pos trivial, if_pos (by omega), if_pos (by omega), PAuct.rdS hj, PSort.wsucc (by omega)]
  | n + 1, i, g, hi, hg => by
    have hb : i < L.length := by omega
    obtain ⟨_, ⟨f1, f2⟩, f3, f4⟩ := hf L[i] (List.getElem_mem hb)
    rw [List.drop_eq_getElem_cons hb] at hg
    have md : lombardref01_MulDiv.f S[j].f2 L[i].f3 1000000 2 = some (mulDivS S[j].f2 L[i].f3 1000000 2) := by
      unfold lombardref01_MulDiv.f
      rw [if_pos ⟨⟨by omega, by omega⟩, ⟨by omega, by omega⟩, ⟨by omega, by omega⟩⟩]
    have go : ∃ g', (g' = true ∨ ∃ b ∈ L.drop (i + 1), Good S[j] b) ∧ ∀ k, lombardlaw29_CloseOnce.l3 (k + 1) L S T t (j : Int) g (i : Int) = lombardlaw29_CloseOnce.l3 k L S T t (j : Int) g' ((i + 1 : Nat) : Int) := by
      have st : ∀ k, lombardlaw29_CloseOnce.l3 (k + 1) L S T t (j : Int) g (i : Int) = if g = true then lombardlaw29_CloseOnce.l3 k L S T t (j : Int) true ((i + 1 : Nat) : Int) else if (mulDivS S[j].f2 L[i].f3 1000000 2).2 = 0 then (if L[i].f0 = S[j].f0 then (if L[i].f1.toList = S[j].f1.toList then (if S[j].f2 ≤ L[i].f2 then lombardlaw29_CloseOnce.l3 k L S T t (j : Int) (decide (S[j].f3 ≤ (mulDivS S[j].f2 L[i].f3 1000000 2).1)) ((i + 1 : Nat) : Int) else lombardlaw29_CloseOnce.l3 k L S T t (j : Int) false ((i + 1 : Nat) : Int)) else lombardlaw29_CloseOnce.l3 k L S T t (j : Int) false ((i + 1 : Nat) : Int)) else lombardlaw29_CloseOnce.l3 k L S T t (j : Int) false ((i + 1 : Nat) : Int)) else lombardlaw29_CloseOnce.l3 k L S T t (j : Int) false ((i + 1 : Nat) : Int) := by
        intro k
        simp only [lombardlaw29_CloseOnce.l3]
        rw [if_pos (by omega), if_pos (by omega), if_pos (by omega), if_pos (by omega), PAuct.rdS hj, PAuct.rdB hb, md, PSort.wsucc (by omega)]
        rfl
      by_cases c0 : g = true
      · exact ⟨true, .inl rfl, fun k => by rw [st, if_pos c0]⟩
      have rest : ¬ Good S[j] L[i] → ∃ b ∈ L.drop (i + 1), Good S[j] b := fun hn => by
        rcases hg with h | ⟨b, hb, h⟩
        · exact absurd h c0
        · rcases List.mem_cons.1 hb with rfl | hb
          · exact absurd h hn
          · exact ⟨b, hb, h⟩
      by_cases c1 : (mulDivS S[j].f2 L[i].f3 1000000 2).2 = 0
      · by_cases c2 : L[i].f0 = S[j].f0
        · by_cases c3 : L[i].f1.toList = S[j].f1.toList
          · by_cases c4 : S[j].f2 ≤ L[i].f2
            · refine ⟨decide (S[j].f3 ≤ (mulDivS S[j].f2 L[i].f3 1000000 2).1), ?_, fun k => by rw [st, if_neg c0, if_pos c1, if_pos c2, if_pos c3, if_pos c4]⟩
              by_cases c5 : S[j].f3 ≤ (mulDivS S[j].f2 L[i].f3 1000000 2).1
              · exact .inl (decide_eq_true c5)
              · exact .inr (rest fun h => c5 h.2.2.2.2)
            · exact ⟨false, .inr (rest fun h => c4 h.2.2.1), fun k => by rw [st, if_neg c0, if_pos c1, if_pos c2, if_pos c3, if_neg c4]⟩
          · exact ⟨false, .inr (rest fun h => c3 h.2.1), fun k => by rw [st, if_neg c0, if_pos c1, if_pos c2, if_neg c3]⟩
        · exact ⟨false, .inr (rest fun h => c2 h.1), fun k => by rw [st, if_neg c0, if_pos c1, if_neg c2]⟩
      · exact ⟨false, .inr (rest fun h => c1 h.2.2.2.1), fun k => by rw [st, if_neg c0, if_neg c1]⟩
    obtain ⟨g', hg', e⟩ := go
    exact Ev.step (fun k => e k) (l3_go L hL hf S hS T t j hj s0 s1 h n (i + 1) g' (by omega) hg')
theorem l2_go (L : List Bid) (hL : L.length ≤ 300) (hf : ∀ b ∈ L, Fine b) (S : List Sold) (hS : S.length ≤ 30000) (hD : ∀ d ∈ S, ∃ b ∈ L, To d b) (T : Int) (hT : T ≤ 9223372036854775807) : ∀ (n j : Nat) (t : Int), j + n = S.length → 0 ≤ t → t + worthOf (S.drop j) = T →
    Ev (fun k => lombardlaw29_CloseOnce.l2 k L S T t (j : Int)) true
  | 0, j, t, hj, t0, ht => by
    rw [List.drop_of_length_le (by omega), worthOf] at ht
    refine Ev.step (f := fun k => (lombardlaw29_awake.f k).bind fun t => some t) (fun k => ?_) (Ev.bind awake_ev (Ev.now _))
    simp only [lombardlaw29_CloseOnce.l2]
    rw [if_neg (by omega), if_pos (by omega)]
  | n + 1, j, t, hj, t0, ht => by
    have h : j < S.length := by omega
    obtain ⟨b, hb, hto⟩ := hD S[j] (List.getElem_mem h)
    have hfb := hf b hb
    obtain ⟨_, ⟨f1, f2⟩, f3, f4⟩ := hfb
    obtain ⟨h1, h2, h3, h4, h5, h6⟩ := hto
    rw [List.drop_eq_getElem_cons h, worthOf] at ht
    have w0 := worthOf_nonneg (S.drop (j + 1)) (fun d hd => by obtain ⟨_, _, h⟩ := hD d (List.mem_of_mem_drop hd); exact h.2.2.2.2.2)
    have ih := l2_go L hL hf S hS hD T hT n (j + 1) (t + S[j].f3) (by omega) (by omega) (by omega)
    refine Ev.step (fun k => ?_) (l3_go L hL hf S hS T t j h h3 (by omega) (by rw [show wrap64 (t + S[j].f3) = t + S[j].f3 by unfold wrap64; omega]; exact ih) L.length 0 false (by omega) (.inr ⟨b, by rw [List.drop_zero]; exact hb, good_of (hf b hb) ⟨h1, h2, h3, h4, h5, h6⟩⟩))
    simp only [lombardlaw29_CloseOnce.l2]
    rw [if_pos (by omega)]
    rfl
theorem l1_go (ls : List PAuct.Lot) (hl : ls.length ≤ 64) (L : List Bid) (S : List Sold) (hS : S.length ≤ 30000) (hq : ∀ d ∈ S, 0 ≤ d.f2) (T : Int) (R : List PAuct.Lot) (j : Nat) (hj : j < ls.length) (hm : ls[j].f1 ≤ 1125899906842624)
    (h : Ev (fun k => lombardlaw29_CloseOnce.l0 k ls L S T R 0 ((j + 1 : Nat) : Int)) true) : ∀ (n i : Nat) (a : Int), i + n = S.length → 0 ≤ a → a + soldOf ls[j].f0.toList (S.drop i) = ls[j].f1 → Ev (fun k => lombardlaw29_CloseOnce.l1 k ls L S T R 0 (j : Int) a (i : Int)) true
  | 0, i, a, hi, a0, ha => by
    rw [List.drop_of_length_le (by omega), soldOf] at ha
    refine Ev.step (fun k => ?_) h
    simp only [lombardlaw29_CloseOnce.l1]
    rw [if_neg (by omega), if_pos (by omega), if_pos (by omega), PAuct.rdL hj, if_pos (by omega), PSort.wsucc (by omega)]
  | n + 1, i, a, hi, a0, ha => by
    have hb : i < S.length := by omega
    have s0 := hq S[i] (List.getElem_mem hb)
    rw [List.drop_eq_getElem_cons hb, soldOf] at ha
    have w0 := soldOf_nonneg ls[j].f0.toList (S.drop (i + 1)) (fun d hd => hq d (List.mem_of_mem_drop hd))
    by_cases c : S[i].f1.toList = ls[j].f0.toList
    · rw [if_pos c] at ha
      refine Ev.step (fun k => ?_) (l1_go ls hl L S hS hq T R j hj hm h n (i + 1) (a + S[i].f2) (by omega) (by omega) (by omega))
      simp only [lombardlaw29_CloseOnce.l1]
      rw [if_pos (by omega), if_pos (by omega), if_pos (by omega), if_pos (by omega), PAuct.rdS hb, PAuct.rdL hj, if_pos c, PSort.wsucc (by omega), show wrap64 (a + S[i].f2) = a + S[i].f2 by unfold wrap64; omega]
    · rw [if_neg c] at ha
      refine Ev.step (fun k => ?_) (l1_go ls hl L S hS hq T R j hj hm h n (i + 1) a (by omega) a0 (by omega))
      simp only [lombardlaw29_CloseOnce.l1]
      rw [if_pos (by omega), if_pos (by omega), if_pos (by omega), if_pos (by omega), PAuct.rdS hb, PAuct.rdL hj, if_neg c, PSort.wsucc (by omega)]
theorem l0_go (ls : List PAuct.Lot) (hl : ls.length ≤ 64) (hm : ∀ x ∈ ls, x.f1 ≤ 1125899906842624) (L : List Bid) (S : List Sold) (hS : S.length ≤ 30000) (hq : ∀ d ∈ S, 0 ≤ d.f2) (T : Int) (R : List PAuct.Lot) (hR : R.length ≤ 100)
    (hx : ∀ x ∈ ls, restOf x.f0.toList R + soldOf x.f0.toList S = x.f1 ∧ 0 ≤ restOf x.f0.toList R) (h : Ev (fun k => lombardlaw29_CloseOnce.l2 k L S T 0 0) true) : ∀ (n j : Nat), j + n = ls.length → Ev (fun k => lombardlaw29_CloseOnce.l0 k ls L S T R 0 (j : Int)) true
  | 0, j, hj => by
    refine Ev.step (fun k => ?_) h
    simp only [lombardlaw29_CloseOnce.l0]
    rw [if_neg (by omega)]
  | n + 1, j, hj => by
    have hb : j < ls.length := by omega
    obtain ⟨x1, x2⟩ := hx ls[j] (List.getElem_mem hb)
    have ih := l0_go ls hl hm L S hS hq T R hR hx h n (j + 1) (by omega)
    have l1 := l1_go ls hl L S hS hq T R j hb (hm _ (List.getElem_mem hb)) ih S.length 0 (restOf ls[j].f0.toList R) (by omega) x2 (by rw [List.drop_zero]; exact x1)
    refine Ev.step (f := fun k => (lombardref17_Qty.f k R ls[j].f0).bind fun t => lombardlaw29_CloseOnce.l1 k ls L S T R 0 (j : Int) t 0) (fun k => ?_) (Ev.bind (a := restOf ls[j].f0.toList R) (qty_go R (by omega) ls[j].f0 R.length 0 (Nat.zero_add _)) l1)
    simp only [lombardlaw29_CloseOnce.l0]
    rw [if_pos (by omega), if_pos (by omega), PAuct.rdL hb]
theorem CloseOnce : CloseOnce.Pure := by
  intro l0 l1 _ _
  apply Ev.rounds
  unfold lombardlaw29_CloseOnce.f
  have tt : Ev (fun k => lombardlaw29_CloseOnce.j0 k l0 l1 true) true := Ev.step (f := fun k => (lombardlaw29_awake.f k).bind fun t => some t) (fun k => by simp only [lombardlaw29_CloseOnce.j0]; rw [if_pos trivial]) (Ev.bind awake_ev (Ev.now _))
  by_cases c : (l0.length : Int) > 64
  · simp only [if_pos c]; exact tt
  simp only [if_neg c]
  by_cases d : (l1.length : Int) > 256
  · rw [decide_eq_true d]; exact tt
  rw [decide_eq_false d]
  obtain ⟨r, h1, h2⟩ := prog_all l0 l1 (by omega)
  refine Ev.step (f := fun k => (lombardlaw29_bids.f k l1).bind fun t => (close_Auction.f k l0 t).bind fun b => if b.2.2.2 = 0 then lombardlaw29_CloseOnce.l0 k l0 l1 b.1 b.2.1 b.2.2.1 0 0 else (if (b.1.length : Int) = 0 then (if b.2.1 = 0 then (if (b.2.2.1.length : Int) = 0 then ((lombardlaw29_awake.f k).bind fun t => some t) else some false) else some false) else some false)) (fun k => ?_) (Ev.bind (bids_ev l1 (by omega)) (Ev.bind h1 ?_))
  · simp only [lombardlaw29_CloseOnce.j0]
    rw [if_neg (by simp)]
  rcases h2 with ⟨e, e1, e2, e3⟩ | ⟨e, hl, hS, hR, hm, hf, hT, hT', hD, hx⟩
  · simp only [if_neg e, e1, e2, e3, List.length_nil]
    exact Ev.bind awake_ev (Ev.now _)
  · simp only [if_pos e]
    have q : ∀ d ∈ r.1, 0 ≤ d.f2 := fun d hd => by obtain ⟨_, _, h⟩ := hD d hd; exact h.2.2.1
    exact l0_go l0 hl hm l1 r.1 hS q r.2.1 r.2.2.1 hR hx (l2_go l1 (by omega) hf r.1 hS hD r.2.1 hT' r.1.length 0 0 (by omega) (by omega) (by rw [List.drop_zero, hT]; omega)) l0.length 0 (by omega)
end Go.Proofs.Ytlbhjkbjokiioaa.Pure
