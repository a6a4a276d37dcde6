-- a shortened text: what this claim does not name is left out (wip/xprint/prune.py of this repo)
import Derived.Test.YtjjemfbpodgihaaPSortE
import Derived.Test.YtjjemfbpodgihaaPMerge
import Derived.Test.YtjjemfbpodgihaaX12
import Derived.Test.YtjjemfbpodgihaaX17
import Derived.Test.YtjjemfbpodgihaaX18
namespace Go.Proofs.Ytjjemfbpodgihaa.PSort
open Go Go.RowKit Go.Proofs.Ytjjemfbpodgihaa.X Go.Proofs.YtjjemfbpodgihaaW.PrintWords Go.Proofs.YtjjemfbpodgihaaW.PrintLast Go.Proofs.YtjjemfbpodgihaaW.PrintMore Go.Stable Go.Proofs.Ytjjemfbpodgihaa.PLot
set_option linter.unusedVariables false
abbrev It := S65
def toE (x : It) : E := ⟨x.f0, x.f1, x.f2, x.f3⟩
def leR (x y : It) : Bool := leE (toE x) (toE y)
theorem rdI {l : List It} {i : Nat} (h : i < l.length) : rd_T65 l (i : Int) = l[i] := by
  unfold rd_T65; rw [Int.toNat_natCast, List.getD_eq_getElem?_getD, List.getElem?_eq_getElem h]; rfl
theorem rdE {l : List E} {i : Nat} (h : i < l.length) : rd_T47 l (i : Int) = l[i] := by
  unfold rd_T47; rw [Int.toNat_natCast, List.getD_eq_getElem?_getD, List.getElem?_eq_getElem h]; rfl
theorem ahead_eq (x r : It) : lombardref17_Ahead.f x.f0.f0 x.f0.f1 x.f1.f0 x.f1.f1 x.f1.f2 x.f1.f3 x.f1.f4 x.f2 x.f3 r.f0.f0 r.f0.f1 r.f1.f0 r.f1.f1 r.f1.f2 r.f1.f3 r.f1.f4 r.f2 r.f3 = some (!leR r x) := by
  unfold lombardref17_Ahead.f leR
  by_cases c1 : x.f3 = r.f3
  · rw [if_pos c1]
    by_cases c2 : x.f1.f3 = r.f1.f3
    · rw [if_pos c2]
      congr 1
      rw [Bool.eq_iff_iff, Bool.not_eq_true', leE_not]
      show L _ _ ↔ ¬ (r.f3 < x.f3 ∨ r.f3 = x.f3 ∧ (r.f1.f3 < x.f1.f3 ∨ r.f1.f3 = x.f1.f3 ∧ ¬ L x.f0.f0.toList r.f0.f0.toList))
      constructor
      · intro h h2
        rcases h2 with h2 | ⟨_, h2 | ⟨_, h2⟩⟩
        · omega
        · omega
        · exact h2 h
      · intro h
        exact Decidable.byContradiction fun h2 => h (.inr ⟨c1.symm, .inr ⟨c2.symm, h2⟩⟩)
    · rw [if_neg c2]
      congr 1
      rw [Bool.eq_iff_iff, Bool.not_eq_true', leE_not, decide_eq_true_eq]
      show _ ↔ ¬ (r.f3 < x.f3 ∨ r.f3 = x.f3 ∧ (r.f1.f3 < x.f1.f3 ∨ r.f1.f3 = x.f1.f3 ∧ ¬ L x.f0.f0.toList r.f0.f0.toList))
      constructor
      · intro h h2
        rcases h2 with h2 | ⟨_, h2 | ⟨h2, _⟩⟩ <;> omega
      · intro h
        have : ¬ r.f1.f3 < x.f1.f3 := fun h2 => h (.inr ⟨c1.symm, .inl h2⟩)
        omega
  · rw [if_neg c1]
    congr 1
    rw [Bool.eq_iff_iff, Bool.not_eq_true', leE_not, decide_eq_true_eq]
    show _ ↔ ¬ (r.f3 < x.f3 ∨ r.f3 = x.f3 ∧ (r.f1.f3 < x.f1.f3 ∨ r.f1.f3 = x.f1.f3 ∧ ¬ L x.f0.f0.toList r.f0.f0.toList))
    constructor
    · intro h h2
      rcases h2 with h2 | ⟨h2, _⟩ <;> omega
    · intro h
      have : ¬ r.f3 < x.f3 := fun h2 => h (.inl h2)
      omega
theorem leR_trans (a b c : It) (h1 : leR a b = true) (h2 : leR b c = true) : leR a c = true := leE_trans _ _ _ h1 h2
theorem leR_total (a b : It) : leR a b = true ∨ leR b a = true := leE_total _ _
theorem mg_map : ∀ (U V : List It), (mg leR U V).map toE = mg leE (U.map toE) (V.map toE)
  | [], V => by simp [mg]
  | u :: U, [] => by simp [mg]
  | u :: U, v :: V => by
    rw [List.map_cons, List.map_cons, mg, mg]
    by_cases c : leR u v = true
    · rw [if_pos c, if_pos (show leE (toE u) (toE v) = true from c), List.map_cons, mg_map U (v :: V), List.map_cons]
    · rw [if_neg c, if_neg (show ¬ leE (toE u) (toE v) = true from c), List.map_cons, mg_map (u :: U) V, List.map_cons]
termination_by U V => U.length + V.length
theorem isort_map (L : List It) : (isort leR L).map toE = isort leE (L.map toE) := by
  have : ∀ (L R : List It), (L.foldl (insS leR) R).map toE = (L.map toE).foldl (insS leE) (R.map toE) := by
    intro L
    induction L with
    | nil => intro R; rfl
    | cons x L ih => intro R; rw [List.foldl_cons, ih, List.map_cons, List.foldl_cons]; congr 1; exact mg_map R [x]
  exact this L []
theorem insS_length (R : List It) (x : It) : (insS leR R x).length = R.length + 1 := by simp [insS, mg_length]
theorem isortR_len (L : List It) : (isort leR L).length = L.length := by
  have := congrArg List.length (isort_map L)
  rw [List.length_map, isort_len, List.length_map] at this
  exact this
theorem rank_in (L : List It) (hL : L.length ≤ 1000) (i : Nat) (hi : i < L.length) (out : List It) (ho : out.length ≤ 1000) (hs : out.Pairwise (fun a b => leR a b = true)) {res : List It}
    (h : Ev (fun k => lombardref17_Rank.l0 k L (insS leR out L[i]) ((i + 1 : Nat) : Int)) res) : ∀ (n : Nat), n ≤ out.length → (∀ r ∈ out.drop n, leR r L[i] = false) → Ev (fun k => lombardref17_Rank.l1 k L out i n) res
  | 0, hn, ha => by
    refine Ev.step (fun k => ?_) h
    have e : insS leR out L[i] = L[i] :: out := by
      have := insS_back (le := leR) L[i] [] out (fun _ h => by cases h) (fun a h => ha a (by rw [List.drop_zero]; exact List.mem_of_mem_head? h))
      simpa using this
    simp only [lombardref17_Rank.l1]
    rw [e, if_neg (by omega)]
    simp only [Option.bind_some]
    rw [if_pos (by omega), if_pos (by omega), if_pos (by simp), if_pos (by omega), if_pos (by omega), if_pos (by simp), if_pos (by simp; omega), rdI hi, wsucc (by omega)]
    simp
  | n + 1, hn, ha => by
    have hr : n < out.length := by omega
    have go : ∀ k, lombardref17_Rank.l1 (k + 1) L out i ((n + 1 : Nat) : Int) = if leR out[n] L[i] = false then lombardref17_Rank.l1 k L out i n else lombardref17_Rank.l0 k L (out.take (n + 1) ++ L[i] :: out.drop (n + 1)) ((i + 1 : Nat) : Int) := by
      intro k
      simp only [lombardref17_Rank.l1]
      rw [if_pos (by omega), if_pos (by omega), if_pos (by omega), wpred (n := n + 1) (by omega) (by omega), Nat.add_sub_cancel, if_pos (by omega), if_pos (by omega), rdI hi, rdI hr, ahead_eq]
      simp only [Option.bind_some]
      cases hc : leR out[n] L[i] with
      | false => simp
      | true =>
        simp only [Bool.not_true, Bool.false_eq_true, if_false, Bool.true_eq_false]
        have l1 : (out.take (n + 1)).length ≤ 1000 := by rw [List.length_take]; omega
        have l2 : (out.drop (n + 1)).length ≤ 1000 := by rw [List.length_drop]; omega
        rw [if_pos (by omega), if_pos (by omega), Int.toNat_natCast, List.nil_append, if_pos (by simp; omega), if_pos (by omega), if_pos (by simp; omega), wsucc (by omega)]
        simp
    cases hc : leR out[n] L[i] with
    | false =>
      have ih := rank_in L hL i hi out ho hs h n (by omega) (fun r hr2 => by
        rw [List.drop_eq_getElem_cons hr] at hr2
        rcases List.mem_cons.1 hr2 with e | e
        · rw [e]; exact hc
        · exact ha r e)
      refine Ev.step (fun k => ?_) ih
      rw [go k, if_pos hc]
    | true =>
      refine Ev.step (fun k => ?_) h
      rw [go k, if_neg (by rw [hc]; exact fun h => by cases h)]
      have : insS leR out L[i] = out.take (n + 1) ++ L[i] :: out.drop (n + 1) := by
        have := insS_back (le := leR) L[i] (out.take (n + 1)) (out.drop (n + 1)) (fun a h2 => by
          obtain ⟨j, hj, rfl⟩ := List.getElem_of_mem h2
          rw [List.length_take] at hj
          rw [List.getElem_take]
          by_cases e : j = n
          · subst e; exact hc
          · exact leR_trans _ _ _ (List.pairwise_iff_getElem.1 hs j n (by omega) hr (by omega)) hc) (fun a h2 => ha a (List.mem_of_mem_head? h2))
        rw [List.take_append_drop] at this
        exact this
      rw [this]
theorem rank_out (L : List It) (hL : L.length ≤ 500) : ∀ (n i : Nat) (out : List It), i + n = L.length → out.length ≤ i → out.Pairwise (fun a b => leR a b = true) → Ev (fun k => lombardref17_Rank.l0 k L out i) ((L.drop i).foldl (insS leR) out)
  | 0, i, out, hi, ho, hs => by
    rw [List.drop_of_length_le (by omega)]
    refine Ev.step (f := fun _ => some out) (fun k => ?_) (Ev.now _)
    simp only [lombardref17_Rank.l0]
    rw [if_neg (by omega)]
  | n + 1, i, out, hi, ho, hs => by
    have h : i < L.length := by omega
    rw [List.drop_eq_getElem_cons h, List.foldl_cons]
    have ih := rank_out L hL n (i + 1) (insS leR out L[i]) (by omega) (by rw [insS_length]; omega) (mg_sorted leR_trans leR_total _ _ hs (List.pairwise_singleton _ _))
    have := rank_in L (by omega) i h out (by omega) hs ih out.length (Nat.le_refl _) (fun r hr => by rw [List.drop_length] at hr; cases hr)
    refine Ev.step (fun k => ?_) this
    simp only [lombardref17_Rank.l0]
    rw [if_pos (by omega)]
theorem rrank_ev (L : List It) (hL : L.length ≤ 500) : Ev (fun k => lombardref17_Rank.f k L) (isort leR L) := by
  have := rank_out L hL L.length 0 [] (by omega) (by simp) List.Pairwise.nil
  exact this
theorem items_go (L : List It) (hL : L.length ≤ 500) : ∀ (n i : Nat) (out : List E), i + n = L.length → out.length ≤ i → Ev (fun k => lombardlaw17_items.l0 k L out i) (out ++ (L.drop i).map toE)
  | 0, i, out, hi, ho => by
    rw [List.drop_of_length_le (by omega)]
    refine Ev.step (f := fun _ => some out) (fun k => ?_) (by simpa using Ev.now _)
    simp only [lombardlaw17_items.l0]
    rw [if_neg (by omega)]
  | n + 1, i, out, hi, ho => by
    have h : i < L.length := by omega
    rw [List.drop_eq_getElem_cons h, List.map_cons]
    have ih := items_go L hL n (i + 1) (out ++ [toE L[i]]) (by omega) (by simp; omega)
    refine Ev.step (fun k => ?_) (by simpa using ih)
    simp only [lombardlaw17_items.l0]
    rw [if_pos (by omega), if_pos (by omega), if_pos (by omega), rdI h, wsucc (by omega)]
    rfl
theorem items_ev (L : List It) (hL : L.length ≤ 500) : Ev (fun k => lombardlaw17_items.f k L) (L.map toE) := by
  have := items_go L hL L.length 0 [] (by omega) (by simp)
  rw [List.drop_zero, List.nil_append] at this
  exact this
theorem rank_ev (l : List E) (hl : l.length ≤ 500) : Ev (fun k => lots_Rank.f k l) (isort leE l) := by
  have c : slices_Clone_haircut_Item_haircut_Item.f l = some l := by
    unfold slices_Clone_haircut_Item_haircut_Item.f
    simp only [Option.bind_some]
    rw [if_pos (by simp; omega)]
    simp
  refine Ev.congr (fun k => ?_) (Ev.bind (sort_f l (by unfold Big; omega)) (f := fun _ t => some t) (Ev.now _))
  unfold lots_Rank.f
  rw [c]; rfl
theorem same_go (l : List It) (hl : l.length ≤ 500) : ∀ (n i : Nat), i + n = l.length → Ev (fun k => lombardlaw17_same.l0 k (l.map toE) l i) true
  | 0, i, hi => by
    refine Ev.step (f := fun _ => some true) (fun k => ?_) (Ev.now _)
    simp only [lombardlaw17_same.l0]
    rw [if_neg (by simp; omega)]
  | n + 1, i, hi => by
    have h : i < l.length := by omega
    have h' : i < (l.map toE).length := by simp; omega
    refine Ev.step (fun k => ?_) (same_go l hl n (i + 1) (by omega))
    simp only [lombardlaw17_same.l0]
    rw [if_pos (by simp; omega), if_pos (by omega), if_pos (by omega), rdI h, rdE h', List.getElem_map, wsucc (by omega)]
    simp [toE]
theorem same_ev' (l : List It) (hl : l.length ≤ 500) : Ev (fun k => lombardlaw17_same.f k (l.map toE) l) true := by
  refine Ev.congr (fun k => ?_) (same_go l hl l.length 0 (by omega))
  unfold lombardlaw17_same.f
  rw [if_pos (by simp)]
  rfl
theorem of_go (l : List E) (hl : l.length ≤ 200) : ∀ (n i : Nat) (out : List Lot), i + n = l.length → out.length ≤ i → Ev (fun k => lots_Of.l0 k out l (l.length : Int) i) (Pure.mergeS [] (out ++ (l.drop i).map (·.f0)))
  | 0, i, out, hi, ho => by
    rw [List.drop_of_length_le (by omega), List.map_nil, List.append_nil]
    have m := Pure.merge_go out (by omega) out.length 0 [] (by omega) List.Pairwise.nil (fun _ h => by cases h) (by simp)
    rw [List.drop_zero] at m
    refine Ev.step (fun k => ?_) (Ev.bind (g := fun k => lots_Merge.f k out) (f := fun _ t => some (t.1, t.2)) m (Ev.now _))
    simp only [lots_Of.l0]
    rw [if_neg (by omega)]
  | n + 1, i, out, hi, ho => by
    have h : i < l.length := by omega
    rw [List.drop_eq_getElem_cons h, List.map_cons]
    have ih := of_go l hl n (i + 1) (out ++ [l[i].f0]) (by omega) (by simp; omega)
    rw [List.append_assoc] at ih
    refine Ev.step (fun k => ?_) ih
    simp only [lots_Of.l0]
    rw [if_pos (by omega), if_pos (by omega), if_pos (by omega), if_pos (by omega), rdE h, wsucc (by omega)]
theorem rof_go (l : List It) (hl : l.length ≤ 200) : ∀ (n i : Nat) (out : List Lot), i + n = l.length → out.length ≤ i → Ev (fun k => lombardref17_Of.l0 k l out i) (Pure.mergeS [] (out ++ (l.drop i).map (·.f0)))
  | 0, i, out, hi, ho => by
    rw [List.drop_of_length_le (by omega), List.map_nil, List.append_nil]
    have m := Pure.rmerge_go out (by omega) out.length 0 [] (by omega) List.Pairwise.nil (fun _ h => by cases h) (by simp)
    rw [List.drop_zero] at m
    refine Ev.step (fun k => ?_) (Ev.bind (g := fun k => lombardref17_Merge.f k out) (f := fun _ t => some (t.1, t.2)) m (Ev.now _))
    simp only [lombardref17_Of.l0]
    rw [if_neg (by omega)]
  | n + 1, i, out, hi, ho => by
    have h : i < l.length := by omega
    rw [List.drop_eq_getElem_cons h, List.map_cons]
    have ih := rof_go l hl n (i + 1) (out ++ [l[i].f0]) (by omega) (by simp; omega)
    rw [List.append_assoc] at ih
    refine Ev.step (fun k => ?_) ih
    simp only [lombardref17_Of.l0]
    rw [if_pos (by omega), if_pos (by omega), if_pos (by omega), rdI h, wsucc (by omega)]
theorem of_ev (l : List It) (hl : l.length ≤ 200) : Ev (fun k => lots_Of.f k (l.map toE)) (Pure.mergeS [] (l.map (·.f0))) := by
  have := of_go (l.map toE) (by simpa using hl) (l.map toE).length 0 [] (by omega) (by simp)
  have e : ((l.map toE).map (·.f0)) = l.map (·.f0) := by rw [List.map_map]; rfl
  rw [List.drop_zero, List.nil_append, e] at this
  exact this
theorem rof_ev (l : List It) (hl : l.length ≤ 200) : Ev (fun k => lombardref17_Of.f k l) (Pure.mergeS [] (l.map (·.f0))) := by
  have := rof_go l hl l.length 0 [] (by omega) (by simp)
  rw [List.drop_zero, List.nil_append] at this
  exact this
end Go.Proofs.Ytjjemfbpodgihaa.PSort
