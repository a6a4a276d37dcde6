-- a shortened text: what this claim does not name is left out (wip/xprint/prune.py of this repo)
import Derived.Test.YtlbhjkbjokiioaaPSortE
import Derived.Test.YtlbhjkbjokiioaaPFixB
import Derived.Test.YtlbhjkbjokiioaaMD
import Derived.Test.YtlbhjkbjokiioaaX6
import Derived.Test.YtlbhjkbjokiioaaX11
import Derived.Test.YtlbhjkbjokiioaaX12
import Derived.Test.YtlbhjkbjokiioaaX16
import Derived.Test.YtlbhjkbjokiioaaX17
import Derived.Test.YtlbhjkbjokiioaaX18
section
namespace Go.Proofs.Ytlbhjkbjokiioaa.PAuct
open Go Go.RowKit Go.Proofs.Ytlbhjkbjokiioaa.X Go.Proofs.YtlbhjkbjokiioaaW.PrintWords Go.Proofs.YtlbhjkbjokiioaaW.PrintLast Go.Proofs.YtlbhjkbjokiioaaW.PrintMore Go.Stable Go.Proofs.Ytlbhjkbjokiioaa.PSort
set_option linter.unusedVariables false
abbrev Bid := S66
abbrev Lot := S63
abbrev Sold := S58
abbrev RSold := S59
def toE (x : Bid) : E := ⟨x.f0, x.f1, x.f2, x.f3⟩
def leR (x y : Bid) : Bool := leE (toE x) (toE y)
theorem rdB {l : List Bid} {i : Nat} (h : i < l.length) : rd_T66 l (i : Int) = l[i] := by
  unfold rd_T66; rw [Int.toNat_natCast, List.getD_eq_getElem?_getD, List.getElem?_eq_getElem h]; rfl
theorem rdE {l : List E} {i : Nat} (h : i < l.length) : rd_T79 l (i : Int) = l[i] := by
  unfold rd_T79; rw [Int.toNat_natCast, List.getD_eq_getElem?_getD, List.getElem?_eq_getElem h]; rfl
theorem rdL {l : List Lot} {i : Nat} (h : i < l.length) : rd_T63 l (i : Int) = l[i] := by
  unfold rd_T63; rw [Int.toNat_natCast, List.getD_eq_getElem?_getD, List.getElem?_eq_getElem h]; rfl
theorem rdS {l : List Sold} {i : Nat} (h : i < l.length) : rd_T58 l (i : Int) = l[i] := by
  unfold rd_T58; rw [Int.toNat_natCast, List.getD_eq_getElem?_getD, List.getElem?_eq_getElem h]; rfl
theorem rdR {l : List RSold} {i : Nat} (h : i < l.length) : rd_T59 l (i : Int) = l[i] := by
  unfold rd_T59; rw [Int.toNat_natCast, List.getD_eq_getElem?_getD, List.getElem?_eq_getElem h]; rfl
theorem leR_trans (a b c : Bid) (h1 : leR a b = true) (h2 : leR b c = true) : leR a c = true := leE_trans _ _ _ h1 h2
theorem leR_total (a b : Bid) : leR a b = true ∨ leR b a = true := leE_total _ _
theorem mg_map : ∀ (U V : List Bid), (mg leR U V).map toE = mg leE (U.map toE) (V.map toE)
  | [], V => by simp [mg]
  | u :: U, [] => by simp [mg]
  | u :: U, v :: V => by
    rw [List.map_cons, List.map_cons, mg, mg]
    by_cases c : leR u v = true
    · rw [if_pos c, if_pos (show leE (toE u) (toE v) = true from c), List.map_cons, mg_map U (v :: V), List.map_cons]
    · rw [if_neg c, if_neg (show ¬ leE (toE u) (toE v) = true from c), List.map_cons, mg_map (u :: U) V, List.map_cons]
termination_by U V => U.length + V.length
theorem isort_map (L : List Bid) : (isort leR L).map toE = isort leE (L.map toE) := by
  have : ∀ (L R : List Bid), (L.foldl (insS leR) R).map toE = (L.map toE).foldl (insS leE) (R.map toE) := by
    intro L
    induction L with
    | nil => intro R; rfl
    | cons x L ih => intro R; rw [List.foldl_cons, ih, List.map_cons, List.foldl_cons]; congr 1; exact mg_map R [x]
  exact this L []
theorem isort_filter {α : Type} {le : α → α → Bool} (hr : ∀ a, le a a = true) (ht : ∀ a b c, le a b = true → le b c = true → le a c = true) (ho : ∀ a b, le a b = true ∨ le b a = true) (p : α → Bool) (L : List α) :
    (isort le L).filter p = isort le (L.filter p) := by
  have h := isort_SS ht ho L
  refine SS.uniq (L := L.filter p) hr ⟨h.1.sublist List.filter_sublist, fun x => ?_⟩ (isort_SS ht ho _)
  rw [List.filter_filter, List.filter_filter]
  have := congrArg (List.filter p) (h.2 x)
  rw [List.filter_filter, List.filter_filter] at this
  simpa [Bool.and_comm] using this
theorem insS_length (R : List Bid) (x : Bid) : (insS leR R x).length = R.length + 1 := by simp [insS, mg_length]
theorem leR_iff (x y : Bid) : leR x y = decide (y.f3 ≤ x.f3) := rfl
theorem rank_in (L : List Bid) (hL : L.length ≤ 1000) (s : ByteArray) (i : Nat) (hi : i < L.length) (out : List Bid) (ho : out.length ≤ 1000) (hs : out.Pairwise (fun a b => leR a b = true)) {res : List Bid}
    (h : Ev (fun k => q5q.l0 k L s (insS leR out L[i]) ((i + 1 : Nat) : Int)) res) : ∀ (n : Nat), n ≤ out.length → (∀ r ∈ out.drop n, leR r L[i] = false) → Ev (fun k => q5q.l1 k L s out i n) res
  | 0, hn, ha => by
    refine Ev.step (fun k => ?_) h
    have e : insS leR out L[i] = L[i] :: out := by
      have := insS_back (le := leR) L[i] [] out (fun _ h => by cases h) (fun a h => ha a (by rw [List.drop_zero]; exact List.mem_of_mem_head? h))
      simpa using this
    simp only [q5q.l1]
    rw [e, if_neg (by omega)]
    simp only [Option.bind_some]
    rw [if_pos (by omega), if_pos (by omega), if_pos (by simp), if_pos (by omega), if_pos (by omega), if_pos (by simp), if_pos (by simp; omega), rdB hi, wsucc (by omega)]
    simp
  | n + 1, hn, ha => by
    have hr : n < out.length := by omega
    have go : ∀ k, q5q.l1 (k + 1) L s out i ((n + 1 : Nat) : Int) = if leR out[n] L[i] = false then q5q.l1 k L s out i n else q5q.l0 k L s (out.take (n + 1) ++ L[i] :: out.drop (n + 1)) ((i + 1 : Nat) : Int) := by
      intro k
      simp only [q5q.l1]
      rw [if_pos (by omega), wpred (n := n + 1) (by omega) (by omega), Nat.add_sub_cancel, if_pos (by omega), if_pos (by omega), if_pos (by omega), if_pos (by omega), rdB hi, rdB hr, leR_iff]
      by_cases c : out[n].f3 < L[i].f3
      · rw [if_pos c, if_pos (decide_eq_false (by omega))]
      · rw [if_neg c, if_neg (by rw [decide_eq_true (by omega)]; exact fun h => by cases h)]
        simp only [Option.bind_some]
        have l1 : (out.take (n + 1)).length ≤ 1000 := by rw [List.length_take]; omega
        have l2 : (out.drop (n + 1)).length ≤ 1000 := by rw [List.length_drop]; omega
        rw [if_pos (by omega), if_pos (by omega), Int.toNat_natCast, List.nil_append, if_pos (by simp; omega), if_pos (by omega), if_pos (by simp; omega), wsucc (by omega)]
        simp
    by_cases hc : leR out[n] L[i] = false
    · have ih := rank_in L hL s i hi out ho hs h n (by omega) (fun r hr2 => by
        rw [List.drop_eq_getElem_cons hr] at hr2
        rcases List.mem_cons.1 hr2 with e | e
        · rw [e]; exact hc
        · exact ha r e)
      refine Ev.step (fun k => ?_) ih
      rw [go k, if_pos hc]
    · have hc' : leR out[n] L[i] = true := by simpa using hc
      refine Ev.step (fun k => ?_) h
      rw [go k, if_neg hc]
      have : insS leR out L[i] = out.take (n + 1) ++ L[i] :: out.drop (n + 1) := by
        have := insS_back (le := leR) L[i] (out.take (n + 1)) (out.drop (n + 1)) (fun a h2 => by
          obtain ⟨j, hj, rfl⟩ := List.getElem_of_mem h2
          rw [List.length_take] at hj
          rw [List.getElem_take]
          by_cases e : j = n
          · subst e; exact hc'
          · exact leR_trans _ _ _ (List.pairwise_iff_getElem.1 hs j n (by omega) hr (by omega)) hc') (fun a h2 => ha a (List.mem_of_mem_head? h2))
        rw [List.take_append_drop] at this
        exact this
      rw [this]
def Of (id : ByteArray) (b : Bid) : Bool := decide (b.f1.toList = id.toList)
theorem rank_out (L : List Bid) (hL : L.length ≤ 500) (s : ByteArray) : ∀ (n i : Nat) (out : List Bid), i + n = L.length → out.length ≤ i → out.Pairwise (fun a b => leR a b = true) →
    Ev (fun k => q5q.l0 k L s out i) (((L.drop i).filter (Of s)).foldl (insS leR) out)
  | 0, i, out, hi, ho, hs => by
    rw [List.drop_of_length_le (by omega)]
    refine Ev.step (f := fun _ => some out) (fun k => ?_) (Ev.now _)
    simp only [q5q.l0]
    rw [if_neg (by omega)]
  | n + 1, i, out, hi, ho, hs => by
    have h : i < L.length := by omega
    rw [List.drop_eq_getElem_cons h]
    by_cases c : L[i].f1.toList = s.toList
    · rw [List.filter_cons_of_pos (show Of s L[i] = true from decide_eq_true c), List.foldl_cons]
      have ih := rank_out L hL s n (i + 1) (insS leR out L[i]) (by omega) (by rw [insS_length]; omega) (mg_sorted leR_trans leR_total _ _ hs (List.pairwise_singleton _ _))
      have := rank_in L (by omega) s i h out (by omega) hs ih out.length (Nat.le_refl _) (fun r hr => by rw [List.drop_length] at hr; cases hr)
      refine Ev.step (fun k => ?_) this
      simp only [q5q.l0]
      rw [if_pos (by omega), if_pos (by omega), rdB h, if_pos c]
    · rw [List.filter_cons_of_neg (show ¬ Of s L[i] = true from by simpa [Of] using c)]
      refine Ev.step (fun k => ?_) (rank_out L hL s n (i + 1) out (by omega) (by omega) hs)
      simp only [q5q.l0]
      rw [if_pos (by omega), if_pos (by omega), rdB h, if_neg c, wsucc (by omega)]
theorem ranked_ev (L : List Bid) (hL : L.length ≤ 500) (s : ByteArray) : Ev (fun k => q5q.f k L s) ((isort leR L).filter (Of s)) := by
  have := rank_out L hL s L.length 0 [] (by omega) (by simp) List.Pairwise.nil
  rw [isort_filter (fun a => leE_refl (toE a)) leR_trans leR_total]
  exact this
end Go.Proofs.Ytlbhjkbjokiioaa.PAuct
end
section
namespace Go.Proofs.Ytlbhjkbjokiioaa.PAuct
open Go Go.RowKit Go.Proofs.Ytlbhjkbjokiioaa.X Go.Proofs.YtlbhjkbjokiioaaW.PrintWords Go.Proofs.YtlbhjkbjokiioaaW.PrintLast Go.Proofs.YtlbhjkbjokiioaaW.PrintMore Go.Stable Go.Proofs.Ytlbhjkbjokiioaa.PSort
set_option linter.unusedVariables false
def wrongS : List Bid → Int
  | [] => 0
  | b :: r => if b.f0 < 1 ∨ b.f0 > 32 then 22 else if b.f2 < 1 ∨ b.f2 > 1125899906842624 ∨ b.f3 < 1 ∨ b.f3 > 4294967296 then 1 else wrongS r
def Fine (b : Bid) : Prop := (1 ≤ b.f0 ∧ b.f0 ≤ 32) ∧ (1 ≤ b.f2 ∧ b.f2 ≤ 1125899906842624) ∧ 1 ≤ b.f3 ∧ b.f3 ≤ 4294967296
theorem wrong_fine : ∀ {l : List Bid}, wrongS l = 0 → ∀ b ∈ l, Fine b
  | [], _ => fun _ h => by cases h
  | x :: r, h => by
    unfold wrongS at h
    split at h
    · cases h
    · rename_i c
      split at h
      · cases h
      · rename_i d
        intro y hy
        rcases List.mem_cons.1 hy with e | hy
        · rw [e]; exact ⟨by omega, by omega, by omega, by omega⟩
        · exact wrong_fine h y hy
theorem check_go (l : List Bid) (hl : l.length ≤ 300) : ∀ (n i : Nat), i + n = l.length → Ev (fun k => close_check.l0 k (l.map toE) (l.length : Int) i) (wrongS (l.drop i))
  | 0, i, hi => by
    rw [List.drop_of_length_le (by omega)]
    refine Ev.step (f := fun _ => some 0) (fun k => ?_) (Ev.now _)
    simp only [close_check.l0]
    rw [if_neg (by omega)]
  | n + 1, i, hi => by
    have h : i < l.length := by omega
    have h' : i < (l.map toE).length := by simp; omega
    rw [List.drop_eq_getElem_cons h]
    have ih := check_go l hl n (i + 1) (by omega)
    have e : rd_T79 (l.map toE) (i : Int) = toE l[i] := by rw [rdE h', List.getElem_map]
    have bd : Ev (fun k => close_check.j1 k (l.map toE) (l.length : Int) i true l[i].f0 l[i].f1 l[i].f2 l[i].f3) 22 := Ev.step (f := fun _ => some 22) (fun k => by simp only [close_check.j1]; rw [if_pos trivial]) (Ev.now _)
    refine Ev.step (f := fun k => if l[i].f0 < 1 then close_check.j1 k (l.map toE) (l.length : Int) i true l[i].f0 l[i].f1 l[i].f2 l[i].f3 else close_check.j1 k (l.map toE) (l.length : Int) i (decide (l[i].f0 > 32)) l[i].f0 l[i].f1 l[i].f2 l[i].f3) (fun k => ?_) ?_
    · simp only [close_check.l0]
      rw [if_pos (by omega), if_pos (by omega), if_pos (by simp; omega), e]
      rfl
    unfold wrongS
    by_cases c1 : l[i].f0 < 1
    · simp only [if_pos c1]; rw [if_pos (.inl c1)]; exact bd
    simp only [if_neg c1]
    by_cases c2 : l[i].f0 > 32
    · rw [if_pos (.inr c2), decide_eq_true c2]; exact bd
    rw [if_neg (by omega), decide_eq_false c2]
    refine Ev.step (f := fun k => if l[i].f2 < 1 ∨ l[i].f2 > 1125899906842624 ∨ l[i].f3 < 1 ∨ l[i].f3 > 4294967296 then some 1 else close_check.l0 k (l.map toE) (l.length : Int) ((i + 1 : Nat) : Int)) (fun k => ?_) ?_
    · simp only [close_check.j1, Bool.false_eq_true, if_false]
      rw [wsucc (by omega)]
      by_cases d1 : l[i].f2 < 1
      · rw [if_pos d1, if_pos (.inl d1)]
      by_cases d2 : l[i].f2 > 1125899906842624
      · rw [if_neg d1, if_pos d2, if_pos (.inr (.inl d2))]
      by_cases d3 : l[i].f3 < 1
      · rw [if_neg d1, if_neg d2, if_pos d3, if_pos (.inr (.inr (.inl d3)))]
      by_cases d4 : l[i].f3 > 4294967296
      · rw [if_neg d1, if_neg d2, if_neg d3, if_pos d4, if_pos (.inr (.inr (.inr d4)))]
      rw [if_neg d1, if_neg d2, if_neg d3, if_neg d4, if_neg (by omega)]
    · by_cases d : l[i].f2 < 1 ∨ l[i].f2 > 1125899906842624 ∨ l[i].f3 < 1 ∨ l[i].f3 > 4294967296
      · simp only [if_pos d]; exact Ev.now _
      · simp only [if_neg d]; exact ih
theorem check_ev (l : List Bid) (hl : l.length ≤ 300) : Ev (fun k => close_check.f k (l.map toE)) (if l.length > 256 then 2 else wrongS l) := by
  unfold close_check.f
  by_cases c : l.length > 256
  · rw [if_pos c]
    simp only [List.length_map, if_pos (show (l.length : Int) > 256 by omega)]
    exact Ev.now _
  · rw [if_neg c]
    simp only [List.length_map, if_neg (show ¬ (l.length : Int) > 256 by omega)]
    exact check_go l hl l.length 0 (by omega)
theorem wrong_go (l : List Bid) (hl : l.length ≤ 300) : ∀ (n i : Nat), i + n = l.length → Ev (fun k => q9q.l0 k l i) (wrongS (l.drop i))
  | 0, i, hi => by
    rw [List.drop_of_length_le (by omega)]
    refine Ev.step (f := fun _ => some 0) (fun k => ?_) (Ev.now _)
    simp only [q9q.l0]
    rw [if_neg (by omega)]
  | n + 1, i, hi => by
    have h : i < l.length := by omega
    rw [List.drop_eq_getElem_cons h]
    have ih := wrong_go l hl n (i + 1) (by omega)
    have bd : Ev (fun k => q9q.j1 k l i true) 22 := Ev.step (f := fun _ => some 22) (fun k => by simp only [q9q.j1]; rw [if_pos trivial]) (Ev.now _)
    refine Ev.step (f := fun k => if l[i].f0 < 1 then q9q.j1 k l i true else q9q.j1 k l i (decide (l[i].f0 > 32))) (fun k => ?_) ?_
    · simp only [q9q.l0]
      rw [if_pos (by omega), if_pos (by omega), rdB h]
    unfold wrongS
    by_cases c1 : l[i].f0 < 1
    · simp only [if_pos c1]; rw [if_pos (.inl c1)]; exact bd
    simp only [if_neg c1]
    by_cases c2 : l[i].f0 > 32
    · rw [if_pos (.inr c2), decide_eq_true c2]; exact bd
    rw [if_neg (by omega), decide_eq_false c2]
    refine Ev.step (f := fun k => if l[i].f2 < 1 ∨ l[i].f2 > 1125899906842624 ∨ l[i].f3 < 1 ∨ l[i].f3 > 4294967296 then some 1 else q9q.l0 k l ((i + 1 : Nat) : Int)) (fun k => ?_) ?_
    · simp only [q9q.j1, Bool.false_eq_true, if_false]
      rw [wsucc (by omega), if_pos (by omega), if_pos (by omega), rdB h]
      by_cases d1 : l[i].f2 < 1
      · rw [if_pos d1, if_pos (.inl d1)]
      by_cases d2 : l[i].f2 > 1125899906842624
      · rw [if_neg d1, if_pos d2, if_pos (.inr (.inl d2))]
      by_cases d3 : l[i].f3 < 1
      · rw [if_neg d1, if_neg d2, if_pos d3, if_pos (.inr (.inr (.inl d3)))]
      by_cases d4 : l[i].f3 > 4294967296
      · rw [if_neg d1, if_neg d2, if_neg d3, if_pos d4, if_pos (.inr (.inr (.inr d4)))]
      rw [if_neg d1, if_neg d2, if_neg d3, if_neg d4, if_neg (by omega)]
    · by_cases d : l[i].f2 < 1 ∨ l[i].f2 > 1125899906842624 ∨ l[i].f3 < 1 ∨ l[i].f3 > 4294967296
      · simp only [if_pos d]; exact Ev.now _
      · simp only [if_neg d]; exact ih
theorem wrong_ev (l : List Bid) (hl : l.length ≤ 300) : Ev (fun k => q9q.f k l) (if l.length > 256 then 2 else wrongS l) := by
  unfold q9q.f
  by_cases c : l.length > 256
  · rw [if_pos c]
    simp only [if_pos (show (l.length : Int) > 256 by omega)]
    exact Ev.now _
  · rw [if_neg c]
    simp only [if_neg (show ¬ (l.length : Int) > 256 by omega)]
    exact wrong_go l hl l.length 0 (by omega)
theorem bids_go (L : List Bid) (hL : L.length ≤ 500) : ∀ (n i : Nat) (out : List E), i + n = L.length → out.length ≤ i → Ev (fun k => lombardlaw29_bids.l0 k L out i) (out ++ (L.drop i).map toE)
  | 0, i, out, hi, ho => by
    rw [List.drop_of_length_le (by omega)]
    refine Ev.step (f := fun _ => some out) (fun k => ?_) (by simpa using Ev.now _)
    simp only [lombardlaw29_bids.l0]
    rw [if_neg (by omega)]
  | n + 1, i, out, hi, ho => by
    have h : i < L.length := by omega
    rw [List.drop_eq_getElem_cons h, List.map_cons]
    have ih := bids_go L hL n (i + 1) (out ++ [toE L[i]]) (by omega) (by simp; omega)
    refine Ev.step (fun k => ?_) (by simpa using ih)
    simp only [lombardlaw29_bids.l0]
    rw [if_pos (by omega), if_pos (by omega), if_pos (by omega), rdB h, wsucc (by omega)]
    rfl
theorem bids_ev (L : List Bid) (hL : L.length ≤ 500) : Ev (fun k => lombardlaw29_bids.f k L) (L.map toE) := by
  have := bids_go L hL L.length 0 [] (by omega) (by simp)
  rw [List.drop_zero, List.nil_append] at this
  exact this
end Go.Proofs.Ytlbhjkbjokiioaa.PAuct
end
section
namespace Go.Proofs.Ytlbhjkbjokiioaa.PAuct
open Go Go.RowKit Go.Proofs.Ytlbhjkbjokiioaa.X Go.Proofs.YtlbhjkbjokiioaaW.PrintWords Go.Proofs.YtlbhjkbjokiioaaW.PrintLast Go.Proofs.YtlbhjkbjokiioaaW.PrintMore Go.Stable Go.Proofs.Ytlbhjkbjokiioaa.PSort Go.Proofs.Ytlbhjkbjokiioaa.MDS
set_option linter.unusedVariables false
def W (q p : Int) : Int := (mulDivS q p 1000000 1).1
theorem W_bd {q p : Int} (q0 : 0 ≤ q) (p0 : 1 ≤ p) : 0 ≤ W q p ∧ W q p ≤ 9223372036854775807 := by
  have m : minusOf q p 1000000 = false := by unfold minusOf; rw [decide_eq_false (by omega), decide_eq_false (by omega)]; rfl
  have u : ∀ a r d, upOf false a r d 1 = false := fun a r d => by unfold upOf; split <;> simp
  have n0 : (0 : Int) ≤ (q.natAbs : Int) * p.natAbs := Int.mul_nonneg (by omega) (by omega)
  have d0 : (0 : Int) ≤ (q.natAbs : Int) * p.natAbs / ((1000000 : Int).natAbs : Int) := Int.ediv_nonneg n0 (by decide)
  unfold W mulDivS
  rw [if_neg (by omega)]
  simp only [m, u, Bool.false_eq_true, if_false, Int.add_zero]
  generalize (q.natAbs : Int) * p.natAbs / ((1000000 : Int).natAbs : Int) = z at d0 ⊢
  unfold signOf
  by_cases c : 9223372036854775808 < z ∨ (z = 9223372036854775808 ∧ false = false)
  · rw [if_pos c]; exact ⟨by decide, by decide⟩
  · rw [if_neg c]
    simp only [Bool.false_eq_true, if_false]
    have : ¬ z = 9223372036854775808 := fun e => c (.inr ⟨e, rfl⟩)
    have : ¬ 9223372036854775808 < z := fun e => c (.inl e)
    omega
theorem worth_ev {q p : Int} (q0 : 0 ≤ q) (q1 : q ≤ 1125899906842624) (p0 : 1 ≤ p) (p1 : p ≤ 4294967296) : Ev (fun k => asset_Worth.f k q p) (mulDivS q p 1000000 1) := by
  unfold asset_Worth.f
  simp only [if_neg (show ¬ q < 0 by omega), if_neg (show ¬ q > 1125899906842624 by omega), if_neg (show ¬ p < 1 by omega), if_neg (show ¬ p > 4294967296 by omega)]
  exact Ev.bind (PFix.muldiv_ev (by omega) (by omega) (by omega) (by omega) (by omega) (by omega)) (Ev.now _)
theorem rworth_eq {q p : Int} (q0 : 0 ≤ q) (q1 : q ≤ 1125899906842624) (p0 : 1 ≤ p) (p1 : p ≤ 4294967296) : lombardref13_Worth.f q p = some (mulDivS q p 1000000 1) := by
  unfold lombardref13_Worth.f
  rw [if_neg (show ¬ q < 0 by omega), if_neg (show ¬ q > 1125899906842624 by omega), if_neg (show ¬ p < 1 by omega), if_neg (show ¬ p > 4294967296 by omega)]
  unfold q32q.f
  rw [if_pos ⟨⟨by omega, by omega⟩, ⟨by omega, by omega⟩, ⟨by omega, by omega⟩⟩]
  rfl
def plusS (a b : Int) : Int × Int := if a + b > 9223372036854775807 then (0, 9) else (a + b, 0)
theorem plus_eq {a b : Int} (a0 : 0 ≤ a) (a1 : a ≤ 9223372036854775807) (b0 : 0 ≤ b) (b1 : b ≤ 9223372036854775807) : fixnum_Plus.f a b = some (plusS a b) := by
  unfold fixnum_Plus.f plusS
  have w : a + b > 9223372036854775807 → wrap64 (a + b) < 0 := fun h => by unfold wrap64; omega
  have v : ¬ a + b > 9223372036854775807 → wrap64 (a + b) = a + b := fun h => by unfold wrap64; omega
  by_cases c : a + b > 9223372036854775807
  · rw [if_pos (by omega), if_pos (by omega), if_pos (w c), if_pos c]
  · rw [if_neg c, v c]
    by_cases x : a > 0
    · rw [if_pos x]
      by_cases y : b > 0
      · rw [if_pos y, if_neg (by omega), if_neg (by omega)]
      · rw [if_neg y, if_neg (by omega)]
    · rw [if_neg x, if_neg (by omega)]
theorem rplus_eq {a b : Int} (a0 : 0 ≤ a) (a1 : a ≤ 9223372036854775807) (b0 : 0 ≤ b) (b1 : b ≤ 9223372036854775807) : q31q.f a b = some (plusS a b) := by
  unfold q31q.f plusS
  have v : ¬ a + b > 9223372036854775807 → wrap64 (a + b) = a + b := fun h => by unfold wrap64; omega
  have u : wrap64 (9223372036854775807 - b) = 9223372036854775807 - b := by unfold wrap64; omega
  by_cases x : b > 0
  · rw [if_pos x, u]
    by_cases c : a + b > 9223372036854775807
    · rw [if_pos (by omega), if_pos c]
    · rw [if_neg (by omega), if_neg (by omega), if_neg c, v c]
  · rw [if_neg x, if_neg (by omega), if_neg (by omega), v (by omega)]
theorem lchk_go (l : List Lot) (hl : l.length ≤ 64) : ∀ (n i : Nat), i + n = l.length → (∀ j (h : j < l.length), j < i → 1 ≤ l[j].f1 ∧ l[j].f1 ≤ 1125899906842624) → (∀ j (h : j + 1 < l.length), j + 1 < i → Op.bytesLess l[j].f0.toList l[j + 1].f0.toList = true) →
    ∃ r, Ev (fun k => lots_Check.l0 k l l (l.length : Int) (i : Int)) r ∧ Ev (fun k => q15q.l0 k l (i : Int)) r ∧ (r.2 = 0 → (∀ x ∈ l, 1 ≤ x.f1 ∧ x.f1 ≤ 1125899906842624) ∧ ∀ j (h : j + 1 < l.length), Op.bytesLess l[j].f0.toList l[j + 1].f0.toList = true)
  | 0, i, hi, hp, hs => by
    refine ⟨((l.length : Int), 0), Ev.step (f := fun _ => some ((l.length : Int), 0)) (fun k => ?_) (Ev.now _), Ev.step (f := fun _ => some ((l.length : Int), 0)) (fun k => ?_) (Ev.now _), fun _ => ⟨fun x hx => ?_, fun j h => hs j h (by omega)⟩⟩
    · simp only [lots_Check.l0]; rw [if_neg (by omega)]
    · simp only [q15q.l0]; rw [if_neg (by omega)]
    · obtain ⟨j, hj, rfl⟩ := List.mem_iff_getElem.1 hx; exact hp j hj (by omega)
  | n + 1, i, hi, hp, hs => by
    have h : i < l.length := by omega
    have c1 : (i : Int) < (l.length : Int) := by omega
    have c2 : (0 : Int) ≤ (i : Int) := by omega
    by_cases g : 1 ≤ l[i].f1 ∧ l[i].f1 ≤ 1125899906842624
    · have good : q28q.f l[i].f1 = some true := by unfold q28q.f; rw [if_pos (by omega), decide_eq_true g.2]
      have st : ∀ r, Ev (fun k => lots_Check.j1 k l (i : Int) l (l.length : Int) (i : Int) false l[i].f0 l[i].f1) r → Ev (fun k => lots_Check.l0 k l l (l.length : Int) (i : Int)) r := fun r e => by
        refine Ev.step (fun k => ?_) e
        simp only [lots_Check.l0, rdL h]
        rw [if_pos c1, if_pos c2, if_pos c1, if_neg (by omega), decide_eq_false (by omega)]
      have hp' : ∀ j (h : j < l.length), j < i + 1 → 1 ≤ l[j].f1 ∧ l[j].f1 ≤ 1125899906842624 := fun j hj hji => by
        rcases Nat.lt_or_ge j i with z | z
        · exact hp j hj z
        · obtain rfl : j = i := by omega
          exact g
      by_cases z : i = 0
      · subst z
        obtain ⟨r, a, b, c⟩ := lchk_go l hl n 1 (by omega) hp' (fun j hj hji => by omega)
        refine ⟨r, st r (Ev.step (fun k => ?_) a), Ev.step (fun k => ?_) b, c⟩
        · simp only [lots_Check.j1]
          rw [if_neg (by simp), if_neg (by omega), wsucc (by omega)]
        · simp only [q15q.l0, rdL h, good, Option.bind_some]
          rw [if_pos c1, if_pos c2, if_pos trivial, if_neg (by omega), wsucc (by omega)]
      · have hm : i - 1 < l.length := by omega
        have c3 : (i : Int) > 0 := by omega
        have c4 : (0 : Int) ≤ ((i - 1 : Nat) : Int) := by omega
        have c5 : ((i - 1 : Nat) : Int) < (l.length : Int) := by omega
        by_cases d : Op.bytesLess l[i - 1].f0.toList l[i].f0.toList = true
        · obtain ⟨r, a, b, c⟩ := lchk_go l hl n (i + 1) (by omega) hp' (fun j hj hji => by
            rcases Nat.lt_or_ge (j + 1) i with y | y
            · exact hs j hj y
            · obtain rfl : j = i - 1 := by omega
              have e : i - 1 + 1 = i := by omega
              simp only [e]
              exact d)
          refine ⟨r, st r (Ev.step (fun k => ?_) a), Ev.step (fun k => ?_) b, c⟩
          · simp only [lots_Check.j1]
            rw [wpred (n := i) (by omega) (by omega), rdL hm, if_neg (by simp), if_pos c3, if_pos c4, if_pos c5, if_pos d, wsucc (by omega)]
          · simp only [q15q.l0, rdL h, good, Option.bind_some]
            rw [wpred (n := i) (by omega) (by omega), rdL hm, if_pos c1, if_pos c2, if_pos trivial, if_pos c3, if_pos c4, if_pos c5, if_pos d, wsucc (by omega)]
        · refine ⟨((i : Int), 7), st _ (Ev.step (f := fun _ => some ((i : Int), 7)) (fun k => ?_) (Ev.now _)), Ev.step (f := fun _ => some ((i : Int), 7)) (fun k => ?_) (Ev.now _), fun e => by cases e⟩
          · simp only [lots_Check.j1]
            rw [wpred (n := i) (by omega) (by omega), rdL hm, if_neg (by simp), if_pos c3, if_pos c4, if_pos c5, if_neg d]
          · simp only [q15q.l0, rdL h, good, Option.bind_some]
            rw [wpred (n := i) (by omega) (by omega), rdL hm, if_pos c1, if_pos c2, if_pos trivial, if_pos c3, if_pos c4, if_pos c5, if_neg d]
    · have nogood : q28q.f l[i].f1 = some false := by
        unfold q28q.f
        by_cases a : l[i].f1 ≥ 1
        · rw [if_pos a, decide_eq_false (fun b => g ⟨a, b⟩)]
        · rw [if_neg a]
      have bad : Ev (fun k => lots_Check.j1 k l (i : Int) l (l.length : Int) (i : Int) true l[i].f0 l[i].f1) ((i : Int), 1) :=
        Ev.step (f := fun _ => some ((i : Int), 1)) (fun k => by simp only [lots_Check.j1]; rw [if_pos trivial]) (Ev.now _)
      refine ⟨((i : Int), 1), Ev.step (fun k => ?_) bad, Ev.step (f := fun _ => some ((i : Int), 1)) (fun k => ?_) (Ev.now _), fun e => by cases e⟩
      · simp only [lots_Check.l0, rdL h]
        rw [if_pos c1, if_pos c2, if_pos c1]
        by_cases a : l[i].f1 < 1
        · rw [if_pos a]
        · rw [if_neg a, decide_eq_true (by omega)]
      · simp only [q15q.l0, rdL h, nogood, Option.bind_some]
        rw [if_pos c1, if_pos c2, if_neg (by simp)]
theorem lchk_ev (l : List Lot) : ∃ r, Ev (fun k => lots_Check.f k l) r ∧ Ev (fun k => q15q.f k l) r ∧ (r.2 = 0 → l.length ≤ 64 ∧ (∀ x ∈ l, 1 ≤ x.f1 ∧ x.f1 ≤ 1125899906842624) ∧ ∀ j (h : j + 1 < l.length), Op.bytesLess l[j].f0.toList l[j + 1].f0.toList = true) := by
  by_cases c : (l.length : Int) > 64
  · exact ⟨(0, 2), by unfold lots_Check.f; simp only [if_pos c]; exact Ev.now _, by unfold q15q.f; simp only [if_pos c]; exact Ev.now _, fun h => by cases h⟩
  · obtain ⟨r, a, b, d⟩ := lchk_go l (by omega) l.length 0 (by omega) (fun j _ h => by omega) (fun j _ h => by omega)
    exact ⟨r, by unfold lots_Check.f; simp only [if_neg c]; exact a, by unfold q15q.f; simp only [if_neg c]; exact b, fun h => ⟨by omega, d h⟩⟩
end Go.Proofs.Ytlbhjkbjokiioaa.PAuct
end
section
namespace Go.Proofs.Ytlbhjkbjokiioaa.PAuct
open Go Go.RowKit Go.Proofs.Ytlbhjkbjokiioaa.X Go.Proofs.YtlbhjkbjokiioaaW.PrintWords Go.Proofs.YtlbhjkbjokiioaaW.PrintLast Go.Proofs.YtlbhjkbjokiioaaW.PrintMore Go.Stable Go.Proofs.Ytlbhjkbjokiioaa.PSort Go.Proofs.Ytlbhjkbjokiioaa.MDS
set_option linter.unusedVariables false
def toR (x : Sold) : RSold := ⟨x.f0, x.f1, x.f2, x.f3⟩
def lotS (id : ByteArray) : List Bid → Int → List Sold → Int → Option (Int × List Sold × Int)
  | [], rem, S, T => some (rem, S, T)
  | b :: bs, rem, S, T =>
    if rem = 0 then some (rem, S, T)
    else if T + W (mn b.f2 rem) b.f3 > 9223372036854775807 then none
    else lotS id bs (rem - mn b.f2 rem) (S ++ [⟨b.f0, id, mn b.f2 rem, W (mn b.f2 rem) b.f3⟩]) (T + W (mn b.f2 rem) b.f3)
def more (R : List Lot) (id : ByteArray) (r : Int) : List Lot := if r = 0 then R else R ++ [⟨id, r⟩]
def aucS (B : List Bid) : List Lot → List Sold → Int → List Lot → List Sold × Int × List Lot × Int
  | [], S, T, R => (S, T, R, 0)
  | l :: ls, S, T, R => match lotS l.f0 (B.filter (Of l.f0)) l.f1 S T with
    | none => ([], 0, [], 9)
    | some x => aucS B ls x.2.1 x.2.2 (more R l.f0 x.1)
theorem lotS_zero (id : ByteArray) (bs : List Bid) (S : List Sold) (T : Int) : lotS id bs 0 S T = some (0, S, T) := by
  cases bs <;> simp [lotS]
theorem lotS_bd (id : ByteArray) : ∀ (bs : List Bid) (rem : Int) (S : List Sold) (T : Int) {x}, (∀ b ∈ bs, Fine b) → 0 ≤ rem → 0 ≤ T → T ≤ 9223372036854775807 → lotS id bs rem S T = some x →
    0 ≤ x.1 ∧ x.1 ≤ rem ∧ x.2.1.length ≤ S.length + bs.length ∧ 0 ≤ x.2.2 ∧ x.2.2 ≤ 9223372036854775807
  | [], rem, S, T, x, hf, h0, t0, t1, h => by
    obtain rfl := Option.some.inj (show some (rem, S, T) = some x from h)
    exact ⟨h0, Int.le_refl _, by simp, t0, t1⟩
  | b :: bs, rem, S, T, x, hf, h0, t0, t1, h => by
    unfold lotS at h
    split at h
    · obtain rfl := Option.some.inj h
      exact ⟨h0, Int.le_refl _, by simp, t0, t1⟩
    · split at h
      · cases h
      · rename_i c d
        obtain ⟨⟨_, _⟩, ⟨f1, _⟩, f3, _⟩ := hf b (.head _)
        have m0 : 0 ≤ mn b.f2 rem ∧ mn b.f2 rem ≤ rem := by unfold mn; split <;> omega
        have w := W_bd (q := mn b.f2 rem) (p := b.f3) m0.1 f3
        obtain ⟨a1, a2, a3, a4, a5⟩ := lotS_bd id bs _ _ _ (fun y hy => hf y (.tail _ hy)) (by omega) (by omega) (by omega) h
        refine ⟨a1, by omega, ?_, a4, a5⟩
        rw [List.length_append] at a3
        simp at a3 ⊢
        omega
theorem aucS_bd (B : List Bid) (hf : ∀ b ∈ B, Fine b) : ∀ (ls : List Lot) (S : List Sold) (T : Int) (R : List Lot), (∀ x ∈ ls, 1 ≤ x.f1 ∧ x.f1 ≤ 1125899906842624) → 0 ≤ T → T ≤ 9223372036854775807 →
    (aucS B ls S T R).1.length ≤ S.length + ls.length * B.length ∧ (aucS B ls S T R).2.2.1.length ≤ R.length + ls.length
  | [], S, T, R, hp, t0, t1 => by simp [aucS]
  | l :: ls, S, T, R, hp, t0, t1 => by
    unfold aucS
    cases hz : lotS l.f0 (B.filter (Of l.f0)) l.f1 S T with
    | none => simp
    | some x =>
      have hx := hp l (.head _)
      obtain ⟨b1, b2, b3, b4, b5⟩ := lotS_bd l.f0 (B.filter (Of l.f0)) l.f1 S T (fun b hb => hf b (List.mem_filter.1 hb).1) (by omega) t0 t1 hz
      have fl : (B.filter (Of l.f0)).length ≤ B.length := List.length_filter_le ..
      have ih := aucS_bd B hf ls x.2.1 x.2.2 (more R l.f0 x.1) (fun y hy => hp y (.tail _ hy)) b4 b5
      have mr : (more R l.f0 x.1).length ≤ R.length + 1 := by unfold more; split <;> simp
      rw [List.length_cons, Nat.add_mul, Nat.one_mul]
      exact ⟨by show (aucS B ls x.2.1 x.2.2 (more R l.f0 x.1)).1.length ≤ _; omega, by show (aucS B ls x.2.1 x.2.2 (more R l.f0 x.1)).2.2.1.length ≤ _; omega⟩
def Ans (id : ByteArray) (bs : List Bid) (rem : Int) (S : List Sold) (T : Int) (bad : Prop) (P : Int → List Sold → Int → Prop) : Prop :=
  match lotS id bs rem S T with
  | none => bad
  | some x => P x.1 x.2.1 x.2.2
theorem mn_bd {a b : Int} (a1 : 1 ≤ a) (b0 : 0 ≤ b) : 0 ≤ mn a b ∧ mn a b ≤ b ∧ mn a b ≤ a := by unfold mn; split <;> omega
theorem prog_in (B : List Bid) (hB : B.length ≤ 300) (hf : ∀ b ∈ B, Fine b) (R ls : List Lot) (n0 j : Int) (id : ByteArray) {res : List Sold × Int × List Lot × Int} : ∀ (n i : Nat) (rem : Int) (S : List Sold) (T : Int), i + n = B.length → 0 ≤ rem → rem ≤ 1125899906842624 → 0 ≤ T → T ≤ 9223372036854775807 → S.length ≤ 1000000 + i →
    Ans id ((B.drop i).filter (Of id)) rem S T (res = ([], 0, [], 9)) (fun r' S' T' => Ev (fun k => close_Auction.l1 k (B.map toE) S' R T' ls n0 j (B.map toE) (B.length : Int) (B.length : Int) id r') res) →
    Ev (fun k => close_Auction.l1 k (B.map toE) S R T ls n0 j (B.map toE) (B.length : Int) (i : Int) id rem) res
  | 0, i, rem, S, T, hi, r0, r1, t0, t1, hS, h => by
    rw [List.drop_of_length_le (by omega)] at h
    obtain rfl : i = B.length := by omega
    exact h
  | n + 1, i, rem, S, T, hi, r0, r1, t0, t1, hS, h => by
    have hb : i < B.length := by omega
    have he : i < (B.map toE).length := by simp; omega
    rw [List.drop_eq_getElem_cons hb] at h
    have e : rd_T79 (B.map toE) (i : Int) = toE B[i] := by rw [rdE he, List.getElem_map]
    have el : ((B.map toE).length : Int) = (B.length : Int) := by rw [List.length_map]
    have skip : Ans id ((B.drop (i + 1)).filter (Of id)) rem S T (res = ([], 0, [], 9)) (fun r' S' T' => Ev (fun k => close_Auction.l1 k (B.map toE) S' R T' ls n0 j (B.map toE) (B.length : Int) (B.length : Int) id r') res) → Ev (fun k => close_Auction.j2 k (B.map toE) S R T ls n0 j (B.map toE) (B.length : Int) (i : Int) true id rem B[i].f0 B[i].f1 B[i].f2 B[i].f3) res := fun h => by
      refine Ev.step (fun k => ?_) (prog_in B hB hf R ls n0 j id n (i + 1) rem S T (by omega) r0 r1 t0 t1 (by omega) h)
      simp only [close_Auction.j2]
      rw [if_pos trivial, wsucc (by omega)]
    refine Ev.step (f := fun k => if B[i].f1.toList = id.toList then close_Auction.j2 k (B.map toE) S R T ls n0 j (B.map toE) (B.length : Int) (i : Int) (rem == 0) id rem B[i].f0 B[i].f1 B[i].f2 B[i].f3 else close_Auction.j2 k (B.map toE) S R T ls n0 j (B.map toE) (B.length : Int) (i : Int) true id rem B[i].f0 B[i].f1 B[i].f2 B[i].f3) (fun k => ?_) ?_
    · simp only [close_Auction.l1]
      rw [if_pos (by omega), if_pos (by omega), el, if_pos (by omega), e]
      rfl
    by_cases c : B[i].f1.toList = id.toList
    · rw [List.filter_cons_of_pos (show Of id B[i] = true from decide_eq_true c)] at h
      simp only [if_pos c]
      by_cases z : rem = 0
      · subst z
        refine skip ?_
        unfold Ans at h ⊢
        rw [lotS_zero] at h ⊢
        exact h
      · obtain ⟨⟨_, _⟩, ⟨f1, f2⟩, f3, f4⟩ := hf B[i] (List.getElem_mem hb)
        have m := mn_bd (a := B[i].f2) (b := rem) f1 r0
        have w := W_bd (q := mn B[i].f2 rem) (p := B[i].f3) m.1 f3
        refine Ev.step (f := fun k => (asset_Worth.f k (mn B[i].f2 rem) B[i].f3).bind fun bt => if T + bt.1 > 9223372036854775807 then some ([], 0, [], 9) else close_Auction.l1 k (B.map toE) (S ++ [⟨B[i].f0, id, mn B[i].f2 rem, bt.1⟩]) R (T + bt.1) ls n0 j (B.map toE) (B.length : Int) ((i + 1 : Nat) : Int) id (rem - mn B[i].f2 rem)) (fun k => ?_) (Ev.bind (worth_ev m.1 (by omega) f3 f4) ?_)
        · simp only [close_Auction.j2]
          rw [if_neg (by simpa using z), wsucc (by omega), show wrap64 (rem - mn B[i].f2 rem) = rem - mn B[i].f2 rem by unfold wrap64; omega]
          have hw := worth_ev (q := mn B[i].f2 rem) (p := B[i].f3) m.1 (by omega) f3 f4
          cases hv : asset_Worth.f k (mn B[i].f2 rem) B[i].f3 with
          | none => rfl
          | some v =>
            have : v = mulDivS (mn B[i].f2 rem) B[i].f3 1000000 1 := by
              obtain ⟨K, hK⟩ := hw
              have h1 := hK (max K k) (by omega)
              have h2 : asset_Worth.f (max K k) (mn B[i].f2 rem) B[i].f3 = some v := by
                have : ∀ d, asset_Worth.f (k + d) (mn B[i].f2 rem) B[i].f3 = some v := fun d => by
                  induction d with
                  | zero => exact hv
                  | succ d ih => exact asset_Worth.mono _ _ _ _ ih
                have := this (max K k - k)
                rwa [show k + (max K k - k) = max K k by omega] at this
              exact Option.some.inj (h2.symm.trans h1)
            subst this
            simp only [Option.bind_some]
            rw [show (mulDivS (mn B[i].f2 rem) B[i].f3 1000000 1).fst = W (mn B[i].f2 rem) B[i].f3 from rfl, plus_eq t0 t1 w.1 w.2]
            simp only [Option.bind_some]
            unfold plusS
            by_cases o : T + W (mn B[i].f2 rem) B[i].f3 > 9223372036854775807
            · rw [if_pos o, if_pos o, if_neg (by decide)]
            · rw [if_neg o, if_neg o, if_pos rfl, if_pos (by omega)]
        · show Ev (fun k => if T + W (mn B[i].f2 rem) B[i].f3 > 9223372036854775807 then some ([], 0, [], 9) else close_Auction.l1 k (B.map toE) (S ++ [⟨B[i].f0, id, mn B[i].f2 rem, W (mn B[i].f2 rem) B[i].f3⟩]) R (T + W (mn B[i].f2 rem) B[i].f3) ls n0 j (B.map toE) (B.length : Int) ((i + 1 : Nat) : Int) id (rem - mn B[i].f2 rem)) res
          unfold Ans lotS at h
          rw [if_neg z] at h
          by_cases o : T + W (mn B[i].f2 rem) B[i].f3 > 9223372036854775807
          · rw [if_pos o] at h
            simp only [if_pos o]
            rw [show res = _ from h]
            exact Ev.now _
          · rw [if_neg o] at h
            simp only [if_neg o]
            exact prog_in B hB hf R ls n0 j id n (i + 1) _ _ _ (by omega) (by omega) (by omega) (by omega) (by omega) (by simp; omega) h
    · rw [List.filter_cons_of_neg (show ¬ Of id B[i] = true from by simpa [Of] using c)] at h
      simp only [if_neg c]
      exact skip h
end Go.Proofs.Ytlbhjkbjokiioaa.PAuct
end
section
namespace Go.Proofs.Ytlbhjkbjokiioaa.PAuct
open Go Go.RowKit Go.Proofs.Ytlbhjkbjokiioaa.X Go.Proofs.YtlbhjkbjokiioaaW.PrintWords Go.Proofs.YtlbhjkbjokiioaaW.PrintLast Go.Proofs.YtlbhjkbjokiioaaW.PrintMore Go.Stable Go.Proofs.Ytlbhjkbjokiioaa.PSort Go.Proofs.Ytlbhjkbjokiioaa.MDS
set_option linter.unusedVariables false
theorem prog_out (B : List Bid) (hB : B.length ≤ 300) (hf : ∀ b ∈ B, Fine b) (ls : List Lot) (hl : ls.length ≤ 80) (hp : ∀ x ∈ ls, 1 ≤ x.f1 ∧ x.f1 ≤ 1125899906842624) : ∀ (n i : Nat) (S : List Sold) (T : Int) (R : List Lot), i + n = ls.length → S.length ≤ 300 * i → R.length ≤ i → 0 ≤ T → T ≤ 9223372036854775807 →
    Ev (fun k => close_Auction.l0 k (B.map toE) S R T ls (ls.length : Int) (i : Int)) (aucS B (ls.drop i) S T R)
  | 0, i, S, T, R, hi, hS, hR, t0, t1 => by
    rw [List.drop_of_length_le (by omega)]
    refine Ev.step (f := fun _ => some (S, T, R, 0)) (fun k => ?_) (Ev.now _)
    simp only [close_Auction.l0]
    rw [if_neg (by omega)]
  | n + 1, i, S, T, R, hi, hS, hR, t0, t1 => by
    have h : i < ls.length := by omega
    have hx := hp ls[i] (List.getElem_mem h)
    rw [List.drop_eq_getElem_cons h]
    refine Ev.step (f := fun k => close_Auction.l1 k (B.map toE) S R T ls (ls.length : Int) (i : Int) (B.map toE) (B.length : Int) ((0 : Nat) : Int) ls[i].f0 ls[i].f1) (fun k => ?_) ?_
    · simp only [close_Auction.l0]
      rw [if_pos (by omega), if_pos (by omega), if_pos (by omega), rdL h, List.length_map]
      rfl
    refine prog_in B hB hf R ls _ _ ls[i].f0 B.length 0 ls[i].f1 S T (by omega) (by omega) hx.2 t0 t1 (by omega) ?_
    rw [List.drop_zero]
    unfold Ans aucS
    cases hz : lotS ls[i].f0 (B.filter (Of ls[i].f0)) ls[i].f1 S T with
    | none => rfl
    | some x =>
      obtain ⟨b1, b2, b3, b4, b5⟩ := lotS_bd ls[i].f0 (B.filter (Of ls[i].f0)) ls[i].f1 S T (fun b hb => hf b (List.mem_filter.1 hb).1) (by omega) t0 t1 hz
      have fl : (B.filter (Of ls[i].f0)).length ≤ B.length := List.length_filter_le ..
      have ih := prog_out B hB hf ls hl hp n (i + 1) x.2.1 x.2.2 (more R ls[i].f0 x.1) (by omega) (by omega) (by unfold more; split <;> (try rw [List.length_append]) <;> (try simp only [List.length_cons, List.length_nil]) <;> omega) b4 b5
      show Ev (fun k => close_Auction.l1 k (B.map toE) x.2.1 R x.2.2 ls (ls.length : Int) (i : Int) (B.map toE) (B.length : Int) (B.length : Int) ls[i].f0 x.1) (aucS B (ls.drop (i + 1)) x.2.1 x.2.2 (more R ls[i].f0 x.1))
      refine Ev.step (fun k => ?_) ih
      simp only [close_Auction.l1]
      rw [if_neg (by omega), wsucc (by omega)]
      unfold more
      by_cases z : x.1 = 0
      · rw [if_neg (by omega), if_pos z]
      · rw [if_pos (by omega), if_pos (by omega), if_neg z]
def up4 (r : List Sold × Int × List Lot × Int) : List RSold × Int × List Lot × Int := (r.1.map toR, r.2)
theorem ref_in (B : List Bid) (ls : List Lot) (hl : ls.length ≤ 80) (hp : ∀ x ∈ ls, 1 ≤ x.f1 ∧ x.f1 ≤ 1125899906842624) (Q : List Bid) (hQ : Q.length ≤ 300) (hf : ∀ b ∈ Q, Fine b) (R : List Lot) (hR : R.length ≤ 1000) (j : Nat) (hj : j < ls.length) {res : List Sold × Int × List Lot × Int} : ∀ (n i : Nat) (rem : Int) (S : List Sold) (T : Int), i + n = Q.length → 0 ≤ rem → rem ≤ 1125899906842624 → 0 ≤ T → T ≤ 9223372036854775807 → S.length ≤ 1000000 + i →
    Ans ls[j].f0 (Q.drop i) rem S T (res = ([], 0, [], 9)) (fun r' S' T' => Ev (fun k => lombardref29_Auction.l0 k ls B ((j + 1 : Nat) : Int) (S'.map toR) T' (more R ls[j].f0 r') 0) (up4 res)) →
    Ev (fun k => lombardref29_Auction.l1 k ls B j rem Q i (S.map toR) T R 0) (up4 res)
  | n, i, rem, S, T, hi, r0, r1, t0, t1, hS, h => by
    have fin : ∀ r' : Int, 0 ≤ r' → Ev (fun k => lombardref29_Auction.l0 k ls B ((j + 1 : Nat) : Int) (S.map toR) T (more R ls[j].f0 r') 0) (up4 res) → Ev (fun k => lombardref29_Auction.j2 k ls B j r' Q i false (S.map toR) T R 0) (up4 res) := fun r' h0 h => by
      refine Ev.step (fun k => ?_) h
      simp only [lombardref29_Auction.j2]
      rw [if_neg (by simp), wsucc (by omega)]
      unfold more
      by_cases z : r' = 0
      · rw [if_neg (by omega), if_pos z]
      · rw [if_pos (by omega), if_pos (by omega), if_pos (by omega), if_pos (by omega), if_neg z, rdL hj]
    match n with
    | 0 =>
      rw [List.drop_of_length_le (by omega)] at h
      refine Ev.step (fun k => ?_) (fin rem r0 h)
      simp only [lombardref29_Auction.l1]
      rw [if_neg (by omega)]
    | n + 1 =>
      have hb : i < Q.length := by omega
      rw [List.drop_eq_getElem_cons hb] at h
      by_cases z : rem = 0
      · subst z
        unfold Ans at h
        rw [lotS_zero] at h
        refine Ev.step (fun k => ?_) (fin 0 r0 h)
        simp only [lombardref29_Auction.l1]
        rw [if_pos (by omega), decide_eq_false (by omega)]
      · obtain ⟨⟨_, _⟩, ⟨f1, f2⟩, f3, f4⟩ := hf Q[i] (List.getElem_mem hb)
        have m := mn_bd (a := Q[i].f2) (b := rem) f1 r0
        have w := W_bd (q := mn Q[i].f2 rem) (p := Q[i].f3) m.1 f3
        have j3 : ∀ k, lombardref29_Auction.j3 (k + 1) ls B j rem Q i (mn Q[i].f2 rem) (S.map toR) T R 0 = if T + W (mn Q[i].f2 rem) Q[i].f3 > 9223372036854775807 then some ([], 0, [], 9) else lombardref29_Auction.l1 k ls B j (rem - mn Q[i].f2 rem) Q ((i + 1 : Nat) : Int) ((S ++ [(⟨Q[i].f0, ls[j].f0, mn Q[i].f2 rem, W (mn Q[i].f2 rem) Q[i].f3⟩ : Sold)]).map toR) (T + W (mn Q[i].f2 rem) Q[i].f3) R 0 := by
          intro k
          simp only [lombardref29_Auction.j3]
          rw [if_pos (by omega), if_pos (by omega), rdB hb, rworth_eq m.1 (by omega) f3 f4]
          simp only [Option.bind_some]
          rw [show (mulDivS (mn Q[i].f2 rem) Q[i].f3 1000000 1).fst = W (mn Q[i].f2 rem) Q[i].f3 from rfl, rplus_eq t0 t1 w.1 w.2]
          simp only [Option.bind_some]
          unfold plusS
          by_cases o : T + W (mn Q[i].f2 rem) Q[i].f3 > 9223372036854775807
          · rw [if_pos o, if_pos o, if_neg (by decide)]
          · rw [if_neg o, if_neg o, if_pos rfl, if_pos (by omega), if_pos (by omega), if_pos (by rw [List.length_map]; omega), wsucc (by omega), rdL hj, show wrap64 (rem - mn Q[i].f2 rem) = rem - mn Q[i].f2 rem by unfold wrap64; omega, List.map_append]
            rfl
        refine Ev.step (f := fun k => lombardref29_Auction.j2 k ls B j rem Q i true (S.map toR) T R 0) (fun k => ?_) (Ev.step (f := fun k => lombardref29_Auction.j3 k ls B j rem Q i (mn Q[i].f2 rem) (S.map toR) T R 0) (fun k => ?_) (Ev.step (fun k => j3 k) ?_))
        · simp only [lombardref29_Auction.l1]
          rw [if_pos (by omega), decide_eq_true (by omega)]
        · simp only [lombardref29_Auction.j2]
          rw [if_pos trivial, if_pos (by omega), if_pos (by omega), rdB hb]
          unfold mn
          by_cases c : Q[i].f2 < rem
          · rw [if_pos c]; first | rw [if_pos c] | rw [if_pos (show Q[i].f2 ≤ rem by omega)] | rw [if_neg (show ¬ rem ≤ Q[i].f2 by omega)] | rw [if_neg (show ¬ rem < Q[i].f2 by omega)]
          · rw [if_neg c]
            split
            · first | rfl | (have : Q[i].f2 = rem := by omega
                             rw [this])
            · first | rfl | (have : Q[i].f2 = rem := by omega
                             rw [this])
        · unfold Ans lotS at h
          rw [if_neg z] at h
          by_cases o : T + W (mn Q[i].f2 rem) Q[i].f3 > 9223372036854775807
          · rw [if_pos o] at h
            simp only [if_pos o]
            rw [show res = _ from h]
            exact Ev.now _
          · rw [if_neg o] at h
            simp only [if_neg o]
            exact ref_in B ls hl hp Q hQ hf R hR j hj n (i + 1) _ _ _ (by omega) (by omega) (by omega) (by omega) (by omega) (by simp; omega) h
end Go.Proofs.Ytlbhjkbjokiioaa.PAuct
end
section
namespace Go.Proofs.Ytlbhjkbjokiioaa.PAuct
open Go Go.RowKit Go.Proofs.Ytlbhjkbjokiioaa.X Go.Proofs.YtlbhjkbjokiioaaW.PrintWords Go.Proofs.YtlbhjkbjokiioaaW.PrintLast Go.Proofs.YtlbhjkbjokiioaaW.PrintMore Go.Stable Go.Proofs.Ytlbhjkbjokiioaa.PSort Go.Proofs.Ytlbhjkbjokiioaa.MDS
set_option linter.unusedVariables false
theorem mg_perm {α : Type} (le : α → α → Bool) : ∀ (U V : List α), (mg le U V).Perm (U ++ V)
  | [], V => by simp [mg]
  | u :: U, [] => by simp [mg]
  | u :: U, v :: V => by
    rw [mg]
    by_cases c : le u v = true
    · rw [if_pos c]; exact (mg_perm le U (v :: V)).cons u
    · rw [if_neg c]; exact ((mg_perm le (u :: U) V).cons v).trans List.perm_middle.symm
termination_by U V => U.length + V.length
theorem isort_perm {α : Type} (le : α → α → Bool) (L : List α) : (isort le L).Perm L := by
  have : ∀ (L R : List α), (L.foldl (insS le) R).Perm (R ++ L) := by
    intro L
    induction L with
    | nil => intro R; simp
    | cons x L ih =>
      intro R
      rw [List.foldl_cons]
      have h := (ih (insS le R x)).trans ((mg_perm le R [x]).append_right L)
      simpa using h
  exact this L []
theorem ref_out (L : List Bid) (hL : L.length ≤ 300) (hf : ∀ b ∈ L, Fine b) (ls : List Lot) (hl : ls.length ≤ 80) (hp : ∀ x ∈ ls, 1 ≤ x.f1 ∧ x.f1 ≤ 1125899906842624) : ∀ (n i : Nat) (S : List Sold) (T : Int) (R : List Lot), i + n = ls.length → S.length ≤ 300 * i → R.length ≤ i → 0 ≤ T → T ≤ 9223372036854775807 →
    Ev (fun k => lombardref29_Auction.l0 k ls L (i : Int) (S.map toR) T R 0) (up4 (aucS (isort leR L) (ls.drop i) S T R))
  | 0, i, S, T, R, hi, hS, hR, t0, t1 => by
    rw [List.drop_of_length_le (by omega)]
    refine Ev.step (f := fun _ => some (S.map toR, T, R, 0)) (fun k => ?_) (Ev.now _)
    simp only [lombardref29_Auction.l0]
    rw [if_neg (by omega)]
  | n + 1, i, S, T, R, hi, hS, hR, t0, t1 => by
    have h : i < ls.length := by omega
    have hx := hp ls[i] (List.getElem_mem h)
    have il : (isort leR L).length = L.length := (isort_perm leR L).length_eq
    have hf' : ∀ b ∈ isort leR L, Fine b := fun b hb => hf b ((isort_perm leR L).mem_iff.1 hb)
    have fl : ((isort leR L).filter (Of ls[i].f0)).length ≤ L.length := by rw [← il]; exact List.length_filter_le ..
    rw [List.drop_eq_getElem_cons h]
    refine Ev.step (f := fun k => (q5q.f k L ls[i].f0).bind fun t => lombardref29_Auction.l1 k ls L (i : Int) ls[i].f1 t ((0 : Nat) : Int) (S.map toR) T R 0) (fun k => ?_) (Ev.bind (ranked_ev L (by omega) ls[i].f0) ?_)
    · simp only [lombardref29_Auction.l0]
      rw [if_pos (by omega), if_pos (by omega), rdL h]
      rfl
    refine ref_in L ls hl hp _ (by omega) (fun b hb => hf' b (List.mem_filter.1 hb).1) R (by omega) i h _ 0 ls[i].f1 S T (Nat.zero_add _) (by omega) hx.2 t0 t1 (by omega) ?_
    rw [List.drop_zero]
    unfold Ans aucS
    cases hz : lotS ls[i].f0 ((isort leR L).filter (Of ls[i].f0)) ls[i].f1 S T with
    | none => rfl
    | some x =>
      obtain ⟨b1, b2, b3, b4, b5⟩ := lotS_bd ls[i].f0 _ ls[i].f1 S T (fun b hb => hf' b (List.mem_filter.1 hb).1) (by omega) t0 t1 hz
      exact ref_out L hL hf ls hl hp n (i + 1) x.2.1 x.2.2 (more R ls[i].f0 x.1) (by omega) (by omega) (by unfold more; split <;> (try rw [List.length_append]) <;> (try simp only [List.length_cons, List.length_nil]) <;> omega) b4 b5
theorem auction_ev (ls : List Lot) (L : List Bid) (hL : L.length ≤ 300) : ∃ r : List Sold × Int × List Lot × Int, Ev (fun k => close_Auction.f k ls (L.map toE)) r ∧ Ev (fun k => lombardref29_Auction.f k ls L) (up4 r) ∧ r.1.length ≤ 30000 ∧ r.2.2.1.length ≤ 100 := by
  obtain ⟨c, c1, c2, c3⟩ := lchk_ev ls
  unfold close_Auction.f lombardref29_Auction.f
  by_cases z : c.2 = 0
  · obtain ⟨hl, hp, _⟩ := c3 z
    by_cases v : (if L.length > 256 then (2 : Int) else wrongS L) = 0
    · have v' : wrongS L = 0 := by
        split at v
        · cases v
        · exact v
      have hf := wrong_fine v'
      have il : (isort leR L).length = L.length := (isort_perm leR L).length_eq
      have hf' : ∀ b ∈ isort leR L, Fine b := fun b hb => hf b ((isort_perm leR L).mem_iff.1 hb)
      have p := prog_out (isort leR L) (by omega) hf' ls (by omega) hp ls.length 0 [] 0 [] (by omega) (by simp) (by simp) (by omega) (by omega)
      have q := ref_out L hL hf ls (by omega) hp ls.length 0 [] 0 [] (by omega) (by simp) (by simp) (by omega) (by omega)
      have bd := aucS_bd (isort leR L) hf' ls [] 0 [] hp (by omega) (by omega)
      rw [List.drop_zero] at p q
      refine ⟨aucS (isort leR L) ls [] 0 [], Ev.bind c1 ?_, Ev.bind c2 ?_, ?_, ?_⟩
      · simp only [if_pos z]
        refine Ev.bind (check_ev L hL) ?_
        simp only [if_pos v]
        refine Ev.bind (a := L.map toE) (by unfold q24q.f; simp only [Option.bind_some, List.nil_append, List.length_nil, List.length_map, if_pos (show 0 + L.length < 3518437208883 by omega)]; exact Ev.now _) ?_
        refine Ev.bind (sort_f (L.map toE) (by unfold Big; rw [List.length_map]; omega)) ?_
        rw [← isort_map]
        exact p
      · simp only [if_pos z]
        refine Ev.bind (wrong_ev L hL) ?_
        simp only [if_pos v]
        exact q
      · have h1 := bd.1
        rw [il, List.length_nil] at h1
        have : ls.length * L.length ≤ 64 * 300 := Nat.mul_le_mul (by omega) hL
        omega
      · have h1 := bd.2; rw [List.length_nil] at h1; omega
    · refine ⟨([], 0, [], if L.length > 256 then 2 else wrongS L), Ev.bind c1 ?_, Ev.bind c2 ?_, by simp, by simp⟩
      · simp only [if_pos z]
        refine Ev.bind (check_ev L hL) ?_
        simp only [if_neg v]
        exact Ev.now _
      · simp only [if_pos z]
        refine Ev.bind (wrong_ev L hL) ?_
        simp only [if_neg v]
        exact Ev.bind (wrong_ev L hL) (Ev.now _)
  · refine ⟨([], 0, [], c.2), Ev.bind c1 ?_, Ev.bind c2 ?_, by simp, by simp⟩
    · simp only [if_neg z]; exact Ev.now _
    · simp only [if_neg z]; exact Ev.now _
end Go.Proofs.Ytlbhjkbjokiioaa.PAuct
end
