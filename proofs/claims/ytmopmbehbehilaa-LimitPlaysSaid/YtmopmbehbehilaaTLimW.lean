/- Finding the next greater key, over and over: the keys in order. -/
import Derived.Test.YtmopmbehbehilaaTLimV
set_option linter.unusedVariables false
set_option linter.unusedSimpArgs false
namespace Go.Proofs.Ytmopmbehbehilaa.Pure
open Go Go.Ab Go.Proofs.Ytmopmbehbehilaa.R Go.Sort

section
variable {α : Type} (lt : α → α → Prop) [DecidableRel lt]
@[reducible] def okk (hv : Bool) (last k : α) : Prop := hv = false ∨ lt last k
def stepP (hv : Bool) (last : α) (p : α × Bool) (k : α) : α × Bool := if okk lt hv last k then (if p.2 = false then (k, true) else if lt k p.1 then (k, true) else p) else p
def nextP (hv : Bool) (last : α) (l : List α) (p : α × Bool) : α × Bool := l.foldl (stepP lt hv last) p

/-- A strict order of all. -/
structure Ord : Prop where
  asy : ∀ a b, lt a b → ¬ lt b a
  nt : ∀ a b c, ¬ lt a b → ¬ lt b c → ¬ lt a c
  tri : ∀ a b, ¬ lt a b → ¬ lt b a → a = b
variable {lt}
def NextSpec (lt : α → α → Prop) [DecidableRel lt] (hv : Bool) (last : α) (l : List α) (p r : α × Bool) : Prop :=
  (r.2 = false → p.2 = false ∧ ∀ k ∈ l, ¬ okk lt hv last k) ∧
    (r.2 = true → okk lt hv last r.1 ∧ (r.1 ∈ l ∨ (p.2 = true ∧ r.1 = p.1)) ∧ (∀ k ∈ l, okk lt hv last k → ¬ lt k r.1) ∧ (p.2 = true → ¬ lt p.1 r.1))
theorem next_spec (O : Ord lt) {hv : Bool} {last : α} : ∀ (l : List α) (p : α × Bool), (p.2 = true → okk lt hv last p.1) → NextSpec lt hv last l p (nextP lt hv last l p)
  | [], p, hp => ⟨fun h => ⟨h, by simp⟩, fun h => ⟨hp h, .inr ⟨h, rfl⟩, by simp, fun _ h2 => O.asy _ _ h2 h2⟩⟩
  | k :: l, p, hp => by
    have e : nextP lt hv last (k :: l) p = nextP lt hv last l (stepP lt hv last p k) := rfl
    rw [e]
    by_cases hk : okk lt hv last k
    · have key : ∀ q : α × Bool, stepP lt hv last p k = q → q.2 = true → okk lt hv last q.1 → (q.1 = k ∨ (p.2 = true ∧ q.1 = p.1)) → ¬ lt k q.1 → (p.2 = true → ¬ lt p.1 q.1) → NextSpec lt hv last (k :: l) p (nextP lt hv last l (stepP lt hv last p k)) := by
        intro q hq h1 h2 h3 h4 h5
        rw [hq]
        obtain ⟨i1, i2⟩ := next_spec O l q (fun _ => h2)
        refine ⟨fun h => ?_, fun h => ?_⟩
        · have := (i1 h).1; rw [h1] at this; cases this
        · obtain ⟨j1, j2, j3, j4⟩ := i2 h
          have j4 := j4 h1
          refine ⟨j1, ?_, fun x hx hox => ?_, fun hp2 => O.nt _ _ _ (h5 hp2) j4⟩
          · rcases j2 with j2 | ⟨_, j2⟩
            · exact .inl (List.mem_cons_of_mem _ j2)
            · rcases h3 with h3 | ⟨h3, h3'⟩
              · exact .inl (by rw [j2, h3]; simp)
              · exact .inr ⟨h3, by rw [j2, h3']⟩
          · rcases List.mem_cons.1 hx with rfl | hx
            · exact O.nt _ _ _ h4 j4
            · exact j3 x hx hox
      by_cases hp2 : p.2 = false
      · refine key (k, true) (by unfold stepP; rw [if_pos hk, if_pos hp2]) rfl hk (.inl rfl) (fun h => O.asy _ _ h h) (fun h => by rw [hp2] at h; cases h)
      · have hp3 : p.2 = true := by simpa using hp2
        by_cases hlt : lt k p.1
        · exact key (k, true) (by unfold stepP; rw [if_pos hk, if_neg hp2, if_pos hlt]) rfl hk (.inl rfl) (fun h => O.asy _ _ h h) (fun _ => O.asy _ _ hlt)
        · exact key p (by unfold stepP; rw [if_pos hk, if_neg hp2, if_neg hlt]) hp3 (hp hp3) (.inr ⟨hp3, rfl⟩) hlt (fun _ h => O.asy _ _ h h)
    · have es : stepP lt hv last p k = p := by unfold stepP; rw [if_neg hk]
      rw [es]
      obtain ⟨i1, i2⟩ := next_spec O l p hp
      refine ⟨fun h => ⟨(i1 h).1, fun x hx => ?_⟩, fun h => ?_⟩
      · rcases List.mem_cons.1 hx with rfl | hx
        · exact hk
        · exact (i1 h).2 x hx
      · obtain ⟨j1, j2, j3, j4⟩ := i2 h
        refine ⟨j1, j2.imp (List.mem_cons_of_mem _) id, fun x hx hox => ?_, j4⟩
        rcases List.mem_cons.1 hx with rfl | hx
        · exact absurd hox hk
        · exact j3 x hx hox

/-- What has been told, when all keys up to 'last' have been seen. -/
def toldTo (lt : α → α → Prop) [DecidableRel lt] (P : List α) (hv : Bool) (last : α) : List α := P.filter fun k => decide (¬ okk lt hv last k)
theorem told_end {P l : List α} {hv : Bool} {last : α} (hPl : ∀ k ∈ P, k ∈ l) (h : ∀ k ∈ l, ¬ okk lt hv last k) : toldTo lt P hv last = P := by
  unfold toldTo
  exact List.filter_eq_self.2 fun k hk => decide_eq_true (h k (hPl k hk))
theorem told_start {P : List α} {last : α} : toldTo lt P false last = [] := by
  unfold toldTo
  exact List.filter_eq_nil_iff.2 fun k _ => by simp
theorem told_step (O : Ord lt) {P l : List α} {hv : Bool} {last b : α} (hP : P.Pairwise lt) (hPl : ∀ k ∈ P, k ∈ l) (hb : okk lt hv last b) (hm : ∀ k ∈ l, okk lt hv last k → ¬ lt k b) [DecidablePred (· ∈ P)] :
    toldTo lt P true b = toldTo lt P hv last ++ (if b ∈ P then [b] else []) := by
  have hbe : ∀ x, ¬ okk lt hv last x → lt x b := fun x hx => by
    rcases Decidable.em (lt x b) with h | h
    · exact h
    · cases hv with
      | false => exact absurd (.inl rfl) hx
      | true =>
        have h1 : ¬ lt last x := fun e => hx (.inr e)
        have h2 : lt last b := hb.resolve_left (by simp)
        exact absurd h2 (O.nt _ _ _ h1 h)
  refine ext_sorted O.asy (hP.filter _) ?_ fun x => ?_
  · refine List.pairwise_append.2 ⟨hP.filter _, by split <;> simp, fun x hx y hy => ?_⟩
    have hx2 := (List.mem_filter.1 hx).2
    split at hy
    · simp at hy; subst hy; exact hbe x (of_decide_eq_true hx2)
    · simp at hy
  · unfold toldTo
    rw [List.mem_append, List.mem_filter, List.mem_filter, decide_eq_true_eq, decide_eq_true_eq]
    constructor
    · rintro ⟨hx, hn⟩
      have hn' : ¬ lt b x := fun e => hn (.inr e)
      by_cases ho : okk lt hv last x
      · have e : x = b := O.tri _ _ (hm x (hPl x hx) ho) hn'
        subst e
        exact .inr (by rw [if_pos hx]; simp)
      · exact .inl ⟨hx, ho⟩
    · rintro (⟨hx, hn⟩ | h)
      · exact ⟨hx, fun h => by
          rcases h with h | h
          · cases h
          · exact O.asy _ _ (hbe x hn) h⟩
      · split at h
        · rename_i hbp
          simp at h; subst h
          exact ⟨hbp, fun h => by
            rcases h with h | h
            · cases h
            · exact O.asy _ _ h h⟩
        · simp at h
theorem okk_less (O : Ord lt) {l : List α} {hv : Bool} {last b : α} (hb : okk lt hv last b) (hbl : b ∈ l) : (l.filter fun k => decide (okk lt true b k)).length < (l.filter fun k => decide (okk lt hv last k)).length := by
  have sub : ∀ x, okk lt true b x → okk lt hv last x := fun x hx => by
    have h1 : lt b x := hx.resolve_left (by simp)
    cases hv with
    | false => exact .inl rfl
    | true =>
      have h2 : lt last b := hb.resolve_left (by simp)
      rcases Decidable.em (lt last x) with h | h
      · exact .inr h
      · exact absurd h2 (O.nt _ _ _ h (O.asy _ _ h1))
  have nb : ¬ okk lt true b b := fun h => by
    rcases h with h | h
    · cases h
    · exact O.asy _ _ h h
  induction l with
  | nil => simp at hbl
  | cons x l ih =>
    simp only [List.filter_cons]
    have le : (l.filter fun k => decide (okk lt true b k)).length ≤ (l.filter fun k => decide (okk lt hv last k)).length := by
      clear ih hbl
      induction l with
      | nil => simp
      | cons y l ih =>
        simp only [List.filter_cons]
        by_cases h1 : okk lt true b y
        · rw [decide_eq_true h1, decide_eq_true (sub y h1)]; simpa using ih
        · by_cases h2 : okk lt hv last y
          · rw [decide_eq_false h1, decide_eq_true h2]; simp only [Bool.false_eq_true, if_false, if_true, List.length_cons]; omega
          · rw [decide_eq_false h1, decide_eq_false h2]; simpa using ih
    by_cases hxb : x = b
    · subst hxb
      rw [decide_eq_false nb, decide_eq_true hb]
      simp only [Bool.false_eq_true, if_false, if_true, List.length_cons]; omega
    · have := ih (by rcases List.mem_cons.1 hbl with h | h; exact absurd h.symm hxb; exact h)
      by_cases h1 : okk lt true b x
      · rw [decide_eq_true h1, decide_eq_true (sub x h1)]; simpa using this
      · by_cases h2 : okk lt hv last x
        · rw [decide_eq_false h1, decide_eq_true h2]; simp only [Bool.false_eq_true, if_false, if_true, List.length_cons]; omega
        · rw [decide_eq_false h1, decide_eq_false h2]; simpa using this
end

theorem ordI : Ord (fun a b : Int => a < b) := ⟨fun _ _ h => by omega, fun _ _ _ h1 h2 => by omega, fun _ _ h1 h2 => by omega⟩
instance : DecidableRel bLt := fun a b => decidable_of_iff (a.data.toList < b.data.toList) Iff.rfl
theorem ordS : Ord bLt := ⟨bLt_asymm, fun _ _ _ h1 h2 => List.not_lt.2 (List.le_trans (List.not_lt.1 h2) (List.not_lt.1 h1)), fun _ _ h1 h2 => ba_ext (List.le_antisymm (List.not_lt.1 h2) (List.not_lt.1 h1))⟩
theorem strLt_eq (x y : ByteArray) : strLt x y = decide (bLt x y) := by
  unfold strLt; rw [bytesLess_eq, ByteArray.toList_eq, ByteArray.toList_eq]; exact decide_eq_decide.2 Iff.rfl
theorem strLe_eq (x y : ByteArray) : strLe x y = decide (¬ bLt y x) := by
  unfold strLe
  rw [strLt_eq]
  by_cases h : bLt y x
  · have h1 : ¬ bLt x y := bLt_asymm _ _ h
    have h2 : x ≠ y := fun e => by subst e; exact bLt_asymm _ _ h h
    rw [decide_eq_false h1, strEq_false h2, decide_eq_false (fun h3 => h3 h)]; rfl
  · rw [decide_eq_true h]
    by_cases h1 : bLt x y
    · rw [decide_eq_true h1]; rfl
    · rw [strEq_true (ordS.tri _ _ h1 h)]; simp
end Go.Proofs.Ytmopmbehbehilaa.Pure
