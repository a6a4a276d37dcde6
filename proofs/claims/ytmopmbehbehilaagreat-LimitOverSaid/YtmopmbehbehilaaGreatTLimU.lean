/- limit's Uses, as a plain thing; the table stays in reach. -/
import Derived.Test.YtmopmbehbehilaaGreatTLim
set_option linter.unusedVariables false
set_option linter.unusedSimpArgs false
namespace Go.Proofs.YtmopmbehbehilaaGreat.Pure
open Go Go.Ab Go.Proofs.YtmopmbehbehilaaGreat.R

/-! Maps stay good. -/
section
variable {κ ν : Type} [DecidableEq κ]
theorem putL_len (k : κ) (v : ν) (c : Nat) : ∀ l : List (κ × Nat × ν), (putL k v c l).length ≤ l.length + 1
  | [] => by simp [putL]
  | x :: l => by
    simp only [putL]; split
    · simp
    · have := putL_len k v c l; simp only [List.length_cons]; omega
theorem putL_some {k : κ} {v : ν} {c : Nat} : ∀ {l : List (κ × Nat × ν)}, (getL k l).isSome = true → (putL k v c l).map (fun x => (x.1, x.2.1)) = l.map (fun x => (x.1, x.2.1))
  | [], h => by simp [getL] at h
  | x :: l, h => by
    simp only [putL]; split
    · rename_i e; simp [e]
    · rename_i e; simp only [getL] at h; rw [if_neg e] at h; simp [putL_some h]
theorem putL_none {k : κ} {v : ν} {c : Nat} {l : List (κ × Nat × ν)} (h : (getL k l).isSome = false) : putL k v c l = l ++ [(k, c, v)] ∧ ∀ x ∈ l, x.1 ≠ k := by
  induction l with
  | nil => exact ⟨rfl, by simp⟩
  | cons x l ih =>
    simp only [getL] at h
    split at h
    · simp at h
    · rename_i e
      obtain ⟨h1, h2⟩ := ih h
      refine ⟨by simp only [putL]; rw [if_neg e, h1, List.cons_append], fun y hy => ?_⟩
      rcases List.mem_cons.1 hy with rfl | hy
      · exact fun e2 => e e2.symm
      · exact h2 y hy
theorem ok_put {kl : κ → Prop} {m : GM κ ν} {k : κ} {v : ν} (h : m.ok kl) (hk : kl k) (hl : m.es.length < 1000000) : (m.put k v).ok kl := by
  unfold GM.put
  cases hg : (m.get? k).isSome with
  | true =>
    have e := putL_some (v := v) (c := m.clock) hg
    have e1 : (putL k v m.clock m.es).map (·.1) = m.es.map (·.1) := by have := congrArg (List.map Prod.fst) e; simpa [Function.comp_def] using this
    have e2 : (putL k v m.clock m.es).map (·.2.1) = m.es.map (·.2.1) := by have := congrArg (List.map Prod.snd) e; simpa [Function.comp_def] using this
    refine ⟨?_, ?_, by rw [e2]; exact h.born, by rw [e1]; exact h.apart⟩
    · have := congrArg List.length e1; simp only [List.length_map] at this; show (putL k v m.clock m.es).length ≤ _; omega
    · intro x hx
      have hx' : (x.1, x.2.1) ∈ (putL k v m.clock m.es).map (fun x => (x.1, x.2.1)) := List.mem_map.2 ⟨x, hx, rfl⟩
      rw [e] at hx'
      obtain ⟨y, hy, ey⟩ := List.mem_map.1 hx'
      have := h.keys y hy
      simp only [Prod.mk.injEq] at ey
      simp only [if_true]
      rw [← ey.1, ← ey.2]; exact this
  | false =>
    obtain ⟨e, hne⟩ := putL_none (v := v) (c := m.clock) hg
    simp only [Bool.false_eq_true, if_false]
    refine ⟨?_, ?_, ?_, ?_⟩
    · show (putL k v m.clock m.es).length ≤ _; rw [e]; simp; omega
    · intro x hx
      have hx : x ∈ putL k v m.clock m.es := hx
      rw [e] at hx
      rcases List.mem_append.1 hx with hx | hx
      · exact ⟨by have := (h.keys x hx).1; show x.2.1 < m.clock + 1; omega, (h.keys x hx).2⟩
      · simp at hx; subst hx; exact ⟨Nat.lt_succ_self _, hk⟩
    · show ((putL k v m.clock m.es).map _).Nodup
      rw [e, List.map_append]
      refine List.nodup_append.2 ⟨h.born, by simp, ?_⟩
      intro a ha b hb
      simp at hb; subst hb
      obtain ⟨y, hy, rfl⟩ := List.mem_map.1 ha
      have := (h.keys y hy).1; omega
    · show ((putL k v m.clock m.es).map _).Nodup
      rw [e, List.map_append]
      refine List.nodup_append.2 ⟨h.apart, by simp, ?_⟩
      intro a ha b hb
      simp at hb; subst hb
      obtain ⟨y, hy, rfl⟩ := List.mem_map.1 ha
      exact hne y hy
omit [DecidableEq κ] in
theorem ok_nil {kl : κ → Prop} : (GM.nil : GM κ ν).ok kl := ⟨by simp [GM.nil], by simp [GM.nil], by simp [GM.nil], by simp [GM.nil]⟩
end

/-! Uses. -/
def useI (t : limit_Table) (k : Int) : limit_Use := ⟨k, ByteArray.empty, t.issuers.getD k 0, t.issuer⟩
def useA (t : limit_Table) (k : ByteArray) : limit_Use := ⟨-1, k, t.assets.getD k 0, t.asset⟩
def usesT (t : limit_Table) : List limit_Use :=
  ((sortI t.issuers.keys).filter fun k => decide (0 < t.issuers.getD k 0)).map (useI t) ++ ((sortS t.assets.keys).filter fun k => decide (0 < t.assets.getD k 0)).map (useA t)

theorem app40 {n : Nat} (h : n ≤ 3000000) : App 40 n := ⟨by unfold maxLen; omega, by omega⟩

theorem uses_l1 {r : List ByteArray} {t : limit_Table} {Q : List limit_Use → Prop} : ∀ (n s : Nat) (acc : List limit_Use), n + s = r.length → acc.length + n ≤ 3000000 → r.length ≤ 3000000 → Q (acc ++ ((r.drop s).filter fun k => decide (0 < t.assets.getD k 0)).map (useA t)) → limit_Table_Uses_L1 r t Q (s : Int) acc
  | 0, s, acc, h, _, _, q => by
    refine limit_Table_Uses_l1 ?_
    unfold limit_Table_Uses_w1
    rw [lenM_eq]
    refine Br.neg (by omega) (Lf.i ?_)
    rw [List.drop_of_length_le (by omega)] at q
    simpa using q
  | n + 1, s, acc, h, ha, hr, q => by
    have hs : s < r.length := by omega
    refine limit_Table_Uses_l1 ?_
    unfold limit_Table_Uses_w1
    rw [lenM_eq]
    rw [List.drop_eq_getElem_cons hs, List.filter_cons] at q
    refine Br.pos (by omega) ⟨r[s], Got.i ?_ (by omega) (by simp [hs]), ⟩
    refine ⟨_, _, Look.i ?_⟩
    refine Br.i (fun c => App2.i (app40 (by simp; omega)) (Num.n (by omega) ?_)) (fun c => Num.n (by omega) ?_)
    · rw [decide_eq_true (show 0 < t.assets.getD r[s] 0 from c)] at q
      exact uses_l1 n (s + 1) _ (by omega) (by simp; omega) hr (by simpa [useA] using q)
    · rw [decide_eq_false (show ¬ 0 < t.assets.getD r[s] 0 from c)] at q
      exact uses_l1 n (s + 1) _ (by omega) (by omega) hr (by simpa using q)
theorem uses_l0 {r : List Int} {t : limit_Table} {Q : List limit_Use → Prop} : ∀ (n s : Nat) (acc : List limit_Use), n + s = r.length → acc.length + n ≤ 3000000 → r.length ≤ 3000000 → Q (acc ++ ((r.drop s).filter fun k => decide (0 < t.issuers.getD k 0)).map (useI t)) → limit_Table_Uses_L0 r t Q (s : Int) acc
  | 0, s, acc, h, _, _, q => by
    refine limit_Table_Uses_l0 ?_
    unfold limit_Table_Uses_w0
    rw [lenM_eq]
    refine Br.neg (by omega) (Lf.i ?_)
    rw [List.drop_of_length_le (by omega)] at q
    simpa using q
  | n + 1, s, acc, h, ha, hr, q => by
    have hs : s < r.length := by omega
    refine limit_Table_Uses_l0 ?_
    unfold limit_Table_Uses_w0
    rw [lenM_eq]
    rw [List.drop_eq_getElem_cons hs, List.filter_cons] at q
    refine Br.pos (by omega) ⟨r[s], Got.i ?_ (by omega) (by simp [hs]), ⟩
    refine ⟨_, _, Look.i ?_⟩
    refine Br.i (fun c => App2.i (app40 (by simp; omega)) (Num.n (by omega) ?_)) (fun c => Num.n (by omega) ?_)
    · rw [decide_eq_true (show 0 < t.issuers.getD r[s] 0 from c)] at q
      exact uses_l0 n (s + 1) _ (by omega) (by simp; omega) hr (by simpa [useI] using q)
    · rw [decide_eq_false (show ¬ 0 < t.issuers.getD r[s] 0 from c)] at q
      exact uses_l0 n (s + 1) _ (by omega) (by omega) hr (by simpa using q)

/-- Behind n calls. -/
structure Kt (t : limit_Table) (n : Nat) : Prop where
  i : t.issuers.ok (InK .i64)
  a : t.assets.ok (fun b : ByteArray => b.size ≤ maxLen)
  li : t.issuers.es.length ≤ n
  la : t.assets.es.length ≤ n
theorem sortI_len (l : List Int) : (sortI l).length = l.length := by unfold sortI; exact List.length_mergeSort _
theorem sortS_len (l : List ByteArray) : (sortS l).length = l.length := by unfold sortS; simp [List.length_mergeSort]

theorem Uses_r {t : limit_Table} {n : Nat} (h : Kt t n) (hn : n ≤ 1000) : limit_Table_Uses_r t (usesT t) := by
  refine limit_Table_Uses_of ?_
  unfold limit_Table_Uses_w
  have h1 := h.li; have h2 := h.la
  have l1 : (sortI t.issuers.keys).length ≤ n := by rw [sortI_len]; simp [GM.keys]; omega
  have l2 : (sortS t.assets.keys).length ≤ n := by rw [sortS_len]; simp [GM.keys]; omega
  refine ⟨keys26_ok _ (by decide) (by decide), _, sorted36_ok (by decide) h.i, uses_l0 _ 0 [] rfl (by simp; omega) (by omega) ?_⟩
  refine ⟨keys38_ok _ (by decide) (by decide), _, sorted37_ok (by decide) h.a, uses_l1 _ 0 _ rfl ?_ (by omega) ?_⟩
  · have : (((sortI t.issuers.keys).drop 0).filter fun k => decide (0 < t.issuers.getD k 0)).length ≤ (sortI t.issuers.keys).length := by simpa using List.length_filter_le _ (sortI t.issuers.keys)
    simp only [List.nil_append, List.length_map]; omega
  · exact Rt.i (by simp [usesT])

theorem share_val {a b : Int} (h0 : 0 ≤ a) (h1 : a ≤ 1125899906842624) (b0 : 0 ≤ b) (b1 : b ≤ 1000000) : mulDivS a b 1000000 1 = (a * b / 1000000, 0) ∧ 0 ≤ a * b / 1000000 ∧ a * b / 1000000 ≤ a := by
  have p0 : 0 ≤ a * b := Int.mul_nonneg h0 b0
  have p1 : a * b ≤ a * 1000000 := Int.mul_le_mul_of_nonneg_left b1 h0
  have q1 : a * b / 1000000 ≤ a := Int.ediv_le_of_le_mul (by decide) p1
  have q0 : 0 ≤ a * b / 1000000 := Int.ediv_nonneg p0 (by decide)
  refine ⟨?_, q0, q1⟩
  have m : minusOf a b 1000000 = false := by
    unfold minusOf; rw [decide_eq_false (by omega), decide_eq_false (by omega)]; rfl
  unfold mulDivS
  rw [if_neg (by decide)]
  have ea : (a.natAbs : Int) = a := Int.natAbs_of_nonneg h0
  have eb : (b.natAbs : Int) = b := Int.natAbs_of_nonneg b0
  have ec : ((1000000 : Int).natAbs : Int) = 1000000 := rfl
  simp only [ea, eb, ec, m]
  have u : upOf false (a * b / 1000000) (a * b % 1000000) 1000000 1 = false := by unfold upOf; simp
  rw [u]
  simp only [Bool.false_eq_true, if_false, Int.add_zero]
  unfold signOf
  rw [if_neg (by omega)]; simp
end Go.Proofs.YtmopmbehbehilaaGreat.Pure
