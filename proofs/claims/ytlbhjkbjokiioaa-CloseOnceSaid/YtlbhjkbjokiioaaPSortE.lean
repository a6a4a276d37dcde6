-- a shortened text: what this claim does not name is left out (wip/xprint/prune.py of this repo)
import Derived.Test.YtlbhjkbjokiioaaPStable
import Derived.Test.YtlbhjkbjokiioaaX7
import Derived.Test.YtlbhjkbjokiioaaX8
import Derived.Test.YtlbhjkbjokiioaaX9a
import Derived.Test.YtlbhjkbjokiioaaX10
section
namespace Go.Proofs.Ytlbhjkbjokiioaa.PSort
open Go Go.RowKit Go.Proofs.Ytlbhjkbjokiioaa.X Go.Proofs.YtlbhjkbjokiioaaW.PrintWords Go.Proofs.YtlbhjkbjokiioaaW.PrintLast Go.Proofs.YtlbhjkbjokiioaaW.PrintMore Go.Stable
set_option linter.unusedVariables false
abbrev E := S79
def cmpE (k : Nat) (x y : E) : Option Int := q21q.f x.f0 x.f1 x.f2 x.f3 y.f0 y.f1 y.f2 y.f3
def leE (x y : E) : Bool := decide (y.f3 ≤ x.f3)
theorem leE_refl (x : E) : leE x x = true := decide_eq_true (Int.le_refl _)
theorem leE_trans (a b c : E) (h1 : leE a b = true) (h2 : leE b c = true) : leE a c = true := by
  unfold leE at *; simp only [decide_eq_true_eq] at *; omega
theorem leE_total (a b : E) : leE a b = true ∨ leE b a = true := by
  unfold leE; simp only [decide_eq_true_eq]; omega
theorem cmpE_some (k : Nat) (hk : 16 ≤ k) (x y : E) : ∃ t, cmpE k x y = some t ∧ (t < 0 ↔ leE y x = false) := by
  unfold cmpE leE q21q.f cmp_Compare_int.f q24q.f
  simp only [Option.bind_some, bne_self_eq_false, Bool.false_eq_true, if_false, decide_eq_false_iff_not]
  by_cases h1 : y.f3 < x.f3
  · rw [if_pos h1]; exact ⟨-1, rfl, by omega⟩
  · rw [if_neg h1]
    by_cases h2 : y.f3 > x.f3
    · rw [if_pos h2]; exact ⟨1, rfl, by omega⟩
    · rw [if_neg h2]; exact ⟨0, rfl, by omega⟩
def at_ (d : List E) (i : Nat) : E := rd_T79 d (i : Int)
theorem stepK {α : Type} {g f : Nat → Option α} {r : α} (h : ∀ k, 16 ≤ k → g (k + 1) = f k) (k : Ev f r) : Ev g r := by
  obtain ⟨K, hK⟩ := k
  refine ⟨max K 16 + 1, fun k hk => ?_⟩
  obtain ⟨m, rfl⟩ : ∃ m, k = m + 1 := ⟨k - 1, by omega⟩
  rw [h m (by omega)]
  exact hK m (by omega)
abbrev Big (n : Nat) : Prop := n ≤ 1152921504606846976
theorem w1 {n : Nat} (h : n ≤ 4611686018427387904) : wrap64 (n : Int) = n := by unfold wrap64; omega
theorem wsucc {n : Nat} (h : n ≤ 4611686018427387904) : wrap64 ((n : Int) + 1) = ((n + 1 : Nat) : Int) := by unfold wrap64; omega
theorem wpred {n : Nat} (h : n ≤ 4611686018427387904) (h0 : 0 < n) : wrap64 ((n : Int) - 1) = ((n - 1 : Nat) : Int) := by unfold wrap64; omega
theorem wadd {n m : Nat} (h : n + m ≤ 4611686018427387904) : wrap64 ((n : Int) + m) = ((n + m : Nat) : Int) := by unfold wrap64; omega
theorem wsub {n m : Nat} (h : n ≤ 4611686018427387904) (h0 : m ≤ n) : wrap64 ((n : Int) - m) = ((n - m : Nat) : Int) := by unfold wrap64; omega
theorem u64n {n : Nat} (h : n ≤ 4611686018427387904) : IntKind.u64.wrap (n : Int) = n := by
  simp [IntKind.wrap, IntKind.bits, IntKind.signed]
  omega
theorem half {i j : Nat} (h : i + j ≤ 4611686018427387904) : wrap64 ((IntKind.u64.wrap (wrap64 ((i : Int) + j))) / 2) = (((i + j) / 2 : Nat) : Int) := by
  rw [wadd h, u64n h]
  unfold wrap64; omega
theorem at_mid (A : List E) (x : E) (C : List E) {i : Nat} (h : i = A.length) : at_ (A ++ x :: C) i = x := by
  subst h
  unfold at_ rd_T79
  rw [Int.toNat_natCast, List.getD_eq_getElem?_getD, List.getElem?_append_right (Nat.le_refl _)]
  simp
theorem set_mid (A : List E) (x : E) (C : List E) (y : E) {i : Nat} (h : i = A.length) : (A ++ x :: C).set i y = A ++ y :: C := by
  subst h
  rw [List.set_append_right _ _ (Nat.le_refl _)]
  simp
theorem re_two (A : List E) (x : E) (B : List E) (y : E) (C : List E) : A ++ x :: (B ++ y :: C) = (A ++ x :: B) ++ y :: C := by simp
theorem at_two (A : List E) (x : E) (B : List E) (y : E) (C : List E) {j : Nat} (h : j = A.length + 1 + B.length) : at_ (A ++ x :: (B ++ y :: C)) j = y := by
  rw [re_two]; exact at_mid _ _ _ (by simp; omega)
theorem set_two (A : List E) (x : E) (B : List E) (y : E) (C : List E) (u : E) {j : Nat} (h : j = A.length + 1 + B.length) : (A ++ x :: (B ++ y :: C)).set j u = A ++ x :: (B ++ u :: C) := by
  rw [re_two, set_mid _ _ _ _ (by simp; omega), ← re_two]
theorem ins_l1 (k : Nat) (hk : 16 ≤ k) (d : List E) (a b i j : Nat) (hd : Big d.length) (hj : j < d.length) (hi : i < d.length) :
    q1q.l1 (k + 1) d a b i j = if a < j then (if leE (at_ d (j - 1)) (at_ d j) = false then q1q.l1 k ((d.set j (at_ d (j - 1))).set (j - 1) (at_ d j)) a b i ((j - 1 : Nat) : Int)
      else q1q.l0 k d a b ((i + 1 : Nat) : Int)) else q1q.l0 k d a b ((i + 1 : Nat) : Int) := by
  simp only [q1q.l1]
  have hB : d.length ≤ 1152921504606846976 := hd
  rw [wsucc (n := i) (by omega)]
  by_cases h : a < j
  · rw [if_pos (show (j : Int) > a by omega), if_pos (show (0 : Int) ≤ j by omega), if_pos (show (j : Int) < d.length by omega), wpred (n := j) (by omega) (by omega), if_pos (show (0 : Int) ≤ ((j - 1 : Nat) : Int) by omega), if_pos (show ((j - 1 : Nat) : Int) < d.length by omega), if_pos h]
    obtain ⟨t, ht, hl⟩ := cmpE_some k hk (at_ d j) (at_ d (j - 1))
    have e : q21q.f (rd_T79 d (j : Int)).f0 (rd_T79 d (j : Int)).f1 (rd_T79 d (j : Int)).f2 (rd_T79 d (j : Int)).f3 (rd_T79 d ((j - 1 : Nat) : Int)).f0 (rd_T79 d ((j - 1 : Nat) : Int)).f1 (rd_T79 d ((j - 1 : Nat) : Int)).f2 (rd_T79 d ((j - 1 : Nat) : Int)).f3 = some t := ht
    rw [e, Option.bind_some]
    by_cases c : t < 0
    · rw [if_pos c, if_pos (hl.1 c)]; rfl
    · rw [if_neg c, if_neg (fun x => c (hl.2 x))]
  · rw [if_neg (show ¬ (j : Int) > a by omega), if_neg h]
theorem insS_gt {R : List E} {r x : E} (h : leE r x = false) : insS leE (R ++ [r]) x = insS leE R x ++ [r] := by
  have := mg_split (le := leE) (A2 := [r]) (B2 := []) R [x] (fun _ _ _ hb => by cases hb) (fun a ha b hb => by
    rw [List.mem_singleton.1 ha, List.mem_singleton.1 hb]; exact h)
  simpa [insS, mg_nil] using this
theorem insS_le {R : List E} {x : E} (h : ∀ r ∈ R, leE r x = true) : insS leE R x = R ++ [x] := by
  have := insS_back (le := leE) x R [] h (fun a ha => by cases ha)
  simpa using this
theorem ins_in : ∀ (n : Nat) (R X S Z : List E) (x : E) (b i : Nat) {res : List E}, R.length = n → R.Pairwise (fun a b => leE a b = true) → i < X.length + R.length + 1 + S.length + Z.length → Big (X.length + R.length + 1 + S.length + Z.length) →
    Ev (fun k => q1q.l0 k (X ++ (insS leE R x ++ (S ++ Z))) (X.length : Nat) b ((i + 1 : Nat) : Int)) res →
    Ev (fun k => q1q.l1 k (X ++ (R ++ x :: (S ++ Z))) (X.length : Nat) b i ((X.length + R.length : Nat) : Int)) res
  | 0, R, X, S, Z, x, b, i, res, hn, hs, hi, hB, h => by
    obtain rfl := List.length_eq_zero_iff.1 hn
    refine stepK (fun k hk => ?_) h
    rw [ins_l1 k hk _ _ _ _ _ (by simp; simpa [Nat.add_assoc, Nat.add_comm, Nat.add_left_comm] using hB) (by simp) (by simp; simp at hi; omega), if_neg (by simp)]
    simp [insS, mg]
  | n + 1, R, X, S, Z, x, b, i, res, hn, hs, hi, hB, h => by
    obtain ⟨R0, r, rfl⟩ : ∃ R0 r, R = R0 ++ [r] := ⟨R.dropLast, R.getLast (by intro e; subst e; simp at hn), (List.dropLast_concat_getLast _).symm⟩
    have hn0 : R0.length = n := by simpa using hn
    have eL : X ++ ((R0 ++ [r]) ++ x :: (S ++ Z)) = (X ++ R0) ++ r :: ([] ++ x :: (S ++ Z)) := by simp
    have ax : at_ (X ++ ((R0 ++ [r]) ++ x :: (S ++ Z))) (X.length + (R0 ++ [r]).length) = x := by rw [eL]; exact at_two _ _ _ _ _ (by simp; omega)
    have ar : at_ (X ++ ((R0 ++ [r]) ++ x :: (S ++ Z))) (X.length + (R0 ++ [r]).length - 1) = r := by rw [eL]; exact at_mid _ _ _ (by simp)
    have hlen : (X ++ ((R0 ++ [r]) ++ x :: (S ++ Z))).length = X.length + (R0 ++ [r]).length + 1 + S.length + Z.length := by simp; omega
    by_cases c : leE r x = false
    · have ih := ins_in n R0 X (r :: S) Z x b i (res := res) hn0 (List.pairwise_append.1 hs).1 (by simp at hi ⊢; omega) (by unfold Big at hB ⊢; simp at hB ⊢; omega) (by
        rw [insS_gt c] at h
        simpa using h)
      refine stepK (fun k hk => ?_) ih
      rw [ins_l1 k hk (X ++ ((R0 ++ [r]) ++ x :: (S ++ Z))) _ _ _ _ (by rw [hlen]; exact hB) (by omega) (by omega), if_pos (by simp), ax, ar, if_pos c, eL, set_two _ _ _ _ _ _ (by simp; omega), set_mid _ _ _ _ (by simp)]
      simp
    · have c' : leE r x = true := by simpa using c
      refine stepK (fun k hk => ?_) h
      rw [ins_l1 k hk (X ++ ((R0 ++ [r]) ++ x :: (S ++ Z))) _ _ _ _ (by rw [hlen]; exact hB) (by omega) (by omega), if_pos (by simp), ax, ar, if_neg c, insS_le (fun a ha => by
        rcases List.mem_append.1 ha with h1 | h1
        · exact leE_trans _ _ _ ((List.pairwise_append.1 hs).2.2 a h1 r (by simp)) c'
        · rw [List.mem_singleton.1 h1]; exact c')]
      simp
theorem ins_out : ∀ (Q P X Y : List E) {b : Nat}, P.Pairwise (fun a b => leE a b = true) → b = X.length + P.length + Q.length → Big (X.length + P.length + Q.length + Y.length) →
    Ev (fun k => q1q.l0 k (X ++ (P ++ (Q ++ Y))) (X.length : Nat) b ((X.length + P.length : Nat) : Int)) (X ++ (Q.foldl (insS leE) P ++ Y))
  | [], P, X, Y, b, hs, hb, hB => by
    refine Ev.step (f := fun _ => some (X ++ (P ++ Y))) (fun k => ?_) (Ev.now _)
    simp only [q1q.l0]
    rw [if_neg (by simp at hb ⊢; omega)]
    simp
  | x :: Q, P, X, Y, b, hs, hb, hB => by
    have ih := ins_out Q (insS leE P x) X Y (b := b) (mg_sorted leE_trans leE_total _ _ hs (List.pairwise_singleton _ _)) (by simp [insS, mg_length] at hb ⊢; omega) (by simp [Big, insS, mg_length] at hB ⊢; omega)
    have e2 : X.length + (insS leE P x).length = X.length + P.length + 1 := by simp [insS, mg_length]; omega
    rw [e2] at ih
    have := ins_in P.length P X [] (Q ++ Y) x b (X.length + P.length) rfl hs (by simp; omega) (by simp [Big] at hB ⊢; omega) (by simpa using ih)
    refine Ev.step (fun k => ?_) this
    simp only [q1q.l0]
    rw [if_pos (by simp at hb ⊢; omega)]
    simp
theorem ins_f (X U Y : List E) {a b : Int} (ha : a = (X.length : Nat)) (hb : b = ((X.length + U.length : Nat) : Int)) (hB : Big (X.length + U.length + Y.length)) :
    Ev (fun k => q1q.f k (X ++ (U ++ Y)) a b) (X ++ (isort leE U ++ Y)) := by
  subst ha hb
  have hB' : X.length + U.length + Y.length ≤ 1152921504606846976 := hB
  refine Ev.congr (f := fun k => q1q.l0 k (X ++ (U ++ Y)) (X.length : Nat) ((X.length + U.length : Nat) : Int) ((X.length + 1 : Nat) : Int)) (fun k => by unfold q1q.f; rw [wsucc (by omega)]) ?_
  cases U with
  | nil =>
    refine Ev.step (f := fun _ => some (X ++ Y)) (fun k => ?_) (by simpa [isort] using Ev.now _)
    simp only [q1q.l0]
    rw [if_neg (by simp; omega)]
    simp
  | cons u U =>
    have := ins_out U [u] X Y (b := X.length + (u :: U).length) (List.pairwise_singleton _ _) (by simp; omega) (by simp [Big] at hB' ⊢; omega)
    have e : isort leE (u :: U) = U.foldl (insS leE) [u] := by simp [isort, insS, mg]
    rw [e]
    simpa using this
end Go.Proofs.Ytlbhjkbjokiioaa.PSort
end
section
namespace Go.Proofs.Ytlbhjkbjokiioaa.PSort
open Go Go.RowKit Go.Proofs.Ytlbhjkbjokiioaa.X Go.Proofs.YtlbhjkbjokiioaaW.PrintWords Go.Proofs.YtlbhjkbjokiioaaW.PrintLast Go.Proofs.YtlbhjkbjokiioaaW.PrintMore Go.Stable
set_option linter.unusedVariables false
theorem sw_step (k : Nat) (d : List E) (a b n i : Nat) (hd : Big d.length) (ha : a + i < d.length) (hb : b + i < d.length) :
    q3q.l0 (k + 1) d a b n i = if i < n then q3q.l0 k ((d.set (a + i) (at_ d (b + i))).set (b + i) (at_ d (a + i))) a b n ((i + 1 : Nat) : Int) else some d := by
  simp only [q3q.l0]
  have hB : d.length ≤ 1152921504606846976 := hd
  by_cases h : i < n
  · rw [if_pos (show (i : Int) < n by omega), wadd (n := b) (m := i) (by omega), wadd (n := a) (m := i) (by omega), wsucc (n := i) (by omega), if_pos (show (0 : Int) ≤ ((b + i : Nat) : Int) by omega), if_pos (show ((b + i : Nat) : Int) < d.length by omega),
      if_pos (show (0 : Int) ≤ ((a + i : Nat) : Int) by omega), if_pos (show ((a + i : Nat) : Int) < d.length by omega), if_pos h]
    rfl
  · rw [if_neg (show ¬ (i : Int) < n by omega), if_neg h]
theorem sw_end (k : Nat) (d : List E) (a b n i : Nat) (h : n ≤ i) : q3q.l0 (k + 1) d a b n i = some d := by
  simp only [q3q.l0]
  rw [if_neg (by omega)]
theorem sw_go : ∀ (U V A M C : List E) (a b n i : Nat), U.length = V.length → a + i = A.length → b + i = A.length + U.length + M.length → i + U.length = n → Big (A.length + U.length + M.length + V.length + C.length) →
    Ev (fun k => q3q.l0 k (A ++ (U ++ (M ++ (V ++ C)))) a b n i) (A ++ (V ++ (M ++ (U ++ C))))
  | [], V, A, M, C, a, b, n, i, hl, ha, hb, hi, hB => by
    obtain rfl := List.length_eq_zero_iff.1 hl.symm
    refine Ev.step (f := fun _ => some _) (fun k => sw_end k _ _ _ _ _ (by simp at hi; omega)) (by simpa using Ev.now _)
  | u :: U, [], A, M, C, a, b, n, i, hl, ha, hb, hi, hB => by simp at hl
  | u :: U, v :: V, A, M, C, a, b, n, i, hl, ha, hb, hi, hB => by
    have hl' : U.length = V.length := by simpa using hl
    have ih := sw_go U V (A ++ [v]) (M ++ [u]) C a b n (i + 1) hl' (by simp; omega) (by simp at hb ⊢; omega) (by simp at hi; omega) (by unfold Big at hB ⊢; simp at hB ⊢; omega)
    refine Ev.step (fun k => ?_) (by simpa using ih)
    have eL : A ++ (u :: U ++ (M ++ (v :: V ++ C))) = A ++ u :: ((U ++ M) ++ v :: (V ++ C)) := by simp
    have hlen : (A ++ (u :: U ++ (M ++ (v :: V ++ C)))).length = A.length + (u :: U).length + M.length + (v :: V).length + C.length := by simp; omega
    have e1 : at_ (A ++ (u :: U ++ (M ++ (v :: V ++ C)))) (a + i) = u := by rw [eL]; exact at_mid _ _ _ ha
    have e2 : at_ (A ++ (u :: U ++ (M ++ (v :: V ++ C)))) (b + i) = v := by rw [eL]; exact at_two _ _ _ _ _ (by simp at hb ⊢; omega)
    rw [sw_step k (A ++ (u :: U ++ (M ++ (v :: V ++ C)))) a b n i (by rw [hlen]; exact hB) (by rw [hlen]; simp; omega) (by rw [hlen]; simp at hb ⊢; omega), if_pos (by simp at hi; omega), e1, e2, eL, set_mid _ _ _ _ ha, set_two _ _ _ _ _ _ (by simp at hb ⊢; omega)]
    simp
theorem sw_f (A U M V C : List E) {a b n : Int} (hl : U.length = V.length) (ha : a = (A.length : Nat)) (hb : b = ((A.length + U.length + M.length : Nat) : Int)) (hn : n = (U.length : Nat)) (hB : Big (A.length + U.length + M.length + V.length + C.length)) :
    Ev (fun k => q3q.f k (A ++ (U ++ (M ++ (V ++ C)))) a b n) (A ++ (V ++ (M ++ (U ++ C)))) := by
  subst ha hb hn
  exact sw_go U V A M C _ _ _ 0 hl (by omega) (by omega) (by omega) hB
theorem rot_go : ∀ (N : Nat) (P U V Q : List E) (m i j : Nat), U.length + V.length ≤ N → i = U.length → j = V.length → 0 < i → 0 < j → m = P.length + U.length → Big (P.length + U.length + V.length + Q.length) →
    Ev (fun k => q6q.l0 k (P ++ (U ++ (V ++ Q))) m i j) (P ++ (V ++ (U ++ Q)))
  | 0, P, U, V, Q, m, i, j, hN, hi, hj, h0, h1, hm, hB => by omega
  | N + 1, P, U, V, Q, m, i, j, hN, hi, hj, h0, h1, hm, hB => by
    have hB' : P.length + U.length + V.length + Q.length ≤ 1152921504606846976 := hB
    by_cases c : i = j
    · have s := sw_f P U [] V Q (a := ((m - i : Nat) : Int)) (b := m) (n := i) (by omega) (by omega) (by simp; omega) (by omega) (by simpa [Big] using hB)
      refine Ev.step (fun k => ?_) (Ev.bind s (f := fun _ t => some t) (by simpa using Ev.now _))
      simp only [q6q.l0]
      rw [if_pos (by omega), wsub (n := m) (m := i) (by omega) (by omega)]
      simp
    · by_cases c2 : i > j
      · obtain ⟨U1, U2, rfl, hU1⟩ : ∃ U1 U2, U = U1 ++ U2 ∧ U1.length = j := ⟨U.take j, U.drop j, (List.take_append_drop ..).symm, by simp; omega⟩
        simp only [List.length_append] at hi hm hN hB'
        have s := sw_f P U1 U2 V Q (a := ((m - i : Nat) : Int)) (b := m) (n := j) (by omega) (by omega) (by omega) (by omega) (by unfold Big; omega)
        have ih := rot_go N (P ++ V) U2 U1 Q m (i - j) j (by omega) (by omega) (by omega) (by omega) h1 (by simp; omega) (by simp [Big]; omega)
        refine Ev.step (fun k => ?_) (Ev.bind s (f := fun k t => q6q.l0 k t m ((i - j : Nat) : Int) j) (by simpa using ih))
        simp only [q6q.l0]
        rw [if_neg (by omega), if_pos (by omega), wsub (n := m) (m := i) (by omega) (by omega), wsub (n := i) (m := j) (by omega) (by omega)]
        simp
      · obtain ⟨V1, V2, rfl, hV2⟩ : ∃ V1 V2, V = V1 ++ V2 ∧ V2.length = i := ⟨V.take (j - i), V.drop (j - i), (List.take_append_drop ..).symm, by simp; omega⟩
        simp only [List.length_append] at hj hN hB'
        have s := sw_f P U V1 V2 Q (a := ((m - i : Nat) : Int)) (b := ((m + j - i : Nat) : Int)) (n := i) (by omega) (by omega) (by omega) (by omega) (by unfold Big; omega)
        have ih := rot_go N P V2 V1 (U ++ Q) m i (j - i) (by omega) (by omega) (by omega) h0 (by omega) (by omega) (by simp [Big]; omega)
        refine Ev.step (fun k => ?_) (Ev.bind s (f := fun k t => q6q.l0 k t m i ((j - i : Nat) : Int)) (by simpa using ih))
        simp only [q6q.l0]
        rw [if_neg (by omega), if_neg (by omega), wsub (n := m) (m := i) (by omega) (by omega), wadd (n := m) (m := j) (by omega), wsub (n := m + j) (m := i) (by omega) (by omega), wsub (n := j) (m := i) (by omega) (by omega)]
        simp
theorem rot_f (P U V Q : List E) {a m b : Int} (ha : a = (P.length : Nat)) (hm : m = ((P.length + U.length : Nat) : Int)) (hb : b = ((P.length + U.length + V.length : Nat) : Int)) (h0 : 0 < U.length) (h1 : 0 < V.length) (hB : Big (P.length + U.length + V.length + Q.length)) :
    Ev (fun k => q6q.f k (P ++ (U ++ (V ++ Q))) a m b) (P ++ (V ++ (U ++ Q))) := by
  subst ha hm hb
  have hB' : P.length + U.length + V.length + Q.length ≤ 1152921504606846976 := hB
  refine Ev.congr (fun k => ?_) (rot_go _ P U V Q (P.length + U.length) U.length V.length (Nat.le_refl _) rfl rfl h0 h1 rfl hB)
  unfold q6q.f
  rw [wsub (by omega) (by omega), wsub (by omega) (by omega)]
  congr 1 <;> omega
end Go.Proofs.Ytlbhjkbjokiioaa.PSort
end
section
namespace Go.Proofs.Ytlbhjkbjokiioaa.PSort
open Go Go.RowKit Go.Proofs.Ytlbhjkbjokiioaa.X Go.Proofs.YtlbhjkbjokiioaaW.PrintWords Go.Proofs.YtlbhjkbjokiioaaW.PrintLast Go.Proofs.YtlbhjkbjokiioaaW.PrintMore Go.Stable
set_option linter.unusedVariables false
abbrev Srt (U : List E) : Prop := U.Pairwise (fun a b => leE a b = true)
theorem sm_l0 (k : Nat) (hk : 16 ≤ k) (d : List E) (a i j : Nat) (hd : Big d.length) (ha : a < d.length) (hij : j ≤ d.length) :
    q0q.l0 (k + 1) d a i j = if i < j then (if leE (at_ d a) (at_ d ((i + j) / 2)) = false then q0q.l0 k d a (((i + j) / 2 + 1 : Nat) : Int) j else q0q.l0 k d a i (((i + j) / 2 : Nat) : Int)) else q0q.l1 k d i a := by
  simp only [q0q.l0]
  have hB : d.length ≤ 1152921504606846976 := hd
  by_cases h : i < j
  · rw [if_pos (show (i : Int) < j by omega), half (i := i) (j := j) (by omega), wsucc (n := (i + j) / 2) (by omega), if_pos (show (0 : Int) ≤ (((i + j) / 2 : Nat) : Int) by omega), if_pos (show (((i + j) / 2 : Nat) : Int) < d.length by omega), if_pos (show (0 : Int) ≤ (a : Int) by omega), if_pos (show (a : Int) < d.length by omega), if_pos h]
    obtain ⟨t, ht, hl⟩ := cmpE_some k hk (at_ d ((i + j) / 2)) (at_ d a)
    have e : q21q.f (rd_T79 d (((i + j) / 2 : Nat) : Int)).f0 (rd_T79 d (((i + j) / 2 : Nat) : Int)).f1 (rd_T79 d (((i + j) / 2 : Nat) : Int)).f2 (rd_T79 d (((i + j) / 2 : Nat) : Int)).f3 (rd_T79 d (a : Int)).f0 (rd_T79 d (a : Int)).f1 (rd_T79 d (a : Int)).f2 (rd_T79 d (a : Int)).f3 = some t := ht
    rw [e, Option.bind_some]
    by_cases c : t < 0
    · rw [if_pos c, if_pos (hl.1 c)]
    · rw [if_neg c, if_neg (fun x => c (hl.2 x))]
  · rw [if_neg (show ¬ (i : Int) < j by omega), if_neg h]
theorem sm_find0 (d : List E) (a m b : Nat) (hd : Big d.length) (ha : a < d.length) (hb : b ≤ d.length) (hmono : ∀ x y, m ≤ x → x ≤ y → y < b → leE (at_ d a) (at_ d x) = true → leE (at_ d a) (at_ d y) = true) :
    ∀ (n i j : Nat), j - i ≤ n → m ≤ i → i ≤ j → j ≤ b → (∀ h, m ≤ h → h < i → leE (at_ d a) (at_ d h) = false) → (∀ h, j ≤ h → h < b → leE (at_ d a) (at_ d h) = true) →
    ∃ r, m ≤ r ∧ r ≤ b ∧ (∀ h, m ≤ h → h < r → leE (at_ d a) (at_ d h) = false) ∧ (∀ h, r ≤ h → h < b → leE (at_ d a) (at_ d h) = true) ∧
      ∀ res, Ev (fun k => q0q.l1 k d r a) res → Ev (fun k => q0q.l0 k d a i j) res
  | 0, i, j, hn, hm, hij, hjb, h1, h2 => by
    obtain rfl : i = j := by omega
    refine ⟨i, hm, hjb, h1, h2, fun res hr => stepK (fun k hk => ?_) hr⟩
    rw [sm_l0 k hk d a i i hd ha (by omega), if_neg (by omega)]
  | n + 1, i, j, hn, hm, hij, hjb, h1, h2 => by
    by_cases h : i < j
    · by_cases c : leE (at_ d a) (at_ d ((i + j) / 2)) = false
      · obtain ⟨r, r1, r2, r3, r4, r5⟩ := sm_find0 d a m b hd ha hb hmono n ((i + j) / 2 + 1) j (by omega) (by omega) (by omega) hjb (fun x hx1 hx2 => by
          by_cases hx : x < i
          · exact h1 x hx1 hx
          · cases hc : leE (at_ d a) (at_ d x) with
            | false => rfl
            | true => rw [hmono x ((i + j) / 2) hx1 (by omega) (by omega) hc] at c; cases c) h2
        refine ⟨r, r1, r2, r3, r4, fun res hr => stepK (fun k hk => ?_) (r5 res hr)⟩
        rw [sm_l0 k hk d a i j hd ha (by omega), if_pos h, if_pos c]
      · have c' : leE (at_ d a) (at_ d ((i + j) / 2)) = true := by simpa using c
        obtain ⟨r, r1, r2, r3, r4, r5⟩ := sm_find0 d a m b hd ha hb hmono n i ((i + j) / 2) (by omega) hm (by omega) (by omega) h1 (fun x hx1 hx2 => hmono ((i + j) / 2) x (by omega) hx1 hx2 c')
        refine ⟨r, r1, r2, r3, r4, fun res hr => stepK (fun k hk => ?_) (r5 res hr)⟩
        rw [sm_l0 k hk d a i j hd ha (by omega), if_pos h, if_neg c]
    · obtain rfl : i = j := by omega
      refine ⟨i, hm, hjb, h1, h2, fun res hr => stepK (fun k hk => ?_) hr⟩
      rw [sm_l0 k hk d a i i hd ha (by omega), if_neg (by omega)]
theorem sm_l1 : ∀ (V A C : List E) (u : E) (r i : Nat), i = A.length → r = A.length + 1 + V.length → Big (A.length + 1 + V.length + C.length) →
    Ev (fun k => q0q.l1 k (A ++ u :: (V ++ C)) r i) (A ++ (V ++ u :: C))
  | [], A, C, u, r, i, hi, hr, hB => by
    have hB' : A.length + 1 + ([] : List E).length + C.length ≤ 1152921504606846976 := hB
    simp only [List.length_nil] at hr hB'
    refine Ev.step (f := fun _ => some _) (fun k => ?_) (by simpa using Ev.now _)
    simp only [q0q.l1]
    rw [wpred (n := r) (by omega) (by omega), if_neg (by omega)]
    simp
  | v :: V, A, C, u, r, i, hi, hr, hB => by
    have hB' : A.length + 1 + (v :: V).length + C.length ≤ 1152921504606846976 := hB
    simp only [List.length_cons] at hr hB'
    have ih := sm_l1 V (A ++ [v]) C u r (i + 1) (by simp; omega) (by simp; omega) (by simp [Big]; omega)
    refine Ev.step (fun k => ?_) (by simpa using ih)
    have hlen : (A ++ u :: (v :: V ++ C)).length = A.length + 1 + (V.length + 1) + C.length := by simp; omega
    have e1 : at_ (A ++ u :: (v :: V ++ C)) i = u := at_mid _ _ _ hi
    have e2 : at_ (A ++ u :: (v :: V ++ C)) (i + 1) = v := at_two A u [] v (V ++ C) (by simp; omega)
    simp only [q0q.l1]
    rw [wpred (n := r) (by omega) (by omega), wsucc (n := i) (by omega), if_pos (by omega), if_pos (by omega), if_pos (by rw [hlen]; omega), if_pos (by omega), if_pos (by rw [hlen]; omega)]
    have s1 : (A ++ u :: (v :: V ++ C)).set i v = A ++ v :: ([] ++ v :: (V ++ C)) := set_mid _ _ _ _ hi
    have s2 : (A ++ v :: ([] ++ v :: (V ++ C))).set (i + 1) u = A ++ v :: ([] ++ u :: (V ++ C)) := set_two _ _ _ _ _ _ (by simp; omega)
    show q0q.l1 k (((A ++ u :: (v :: V ++ C)).set ((i : Int)).toNat (at_ (A ++ u :: (v :: V ++ C)) (i + 1))).set (((i + 1 : Nat) : Int)).toNat (at_ (A ++ u :: (v :: V ++ C)) i)) r ((i + 1 : Nat) : Int) = _
    rw [Int.toNat_natCast, Int.toNat_natCast, e1, e2, s1, s2]
    simp
theorem sm_l2 (k : Nat) (hk : 16 ≤ k) (d : List E) (m i j : Nat) (hd : Big d.length) (hm : m < d.length) (hij : j ≤ d.length) :
    q0q.l2 (k + 1) d m i j = if i < j then (if leE (at_ d ((i + j) / 2)) (at_ d m) = false then q0q.l2 k d m i (((i + j) / 2 : Nat) : Int) else q0q.l2 k d m (((i + j) / 2 + 1 : Nat) : Int) j) else q0q.l3 k d i m := by
  simp only [q0q.l2]
  have hB : d.length ≤ 1152921504606846976 := hd
  by_cases h : i < j
  · rw [if_pos (show (i : Int) < j by omega), half (i := i) (j := j) (by omega), wsucc (n := (i + j) / 2) (by omega), if_pos (show (0 : Int) ≤ (m : Int) by omega), if_pos (show (m : Int) < d.length by omega), if_pos (show (0 : Int) ≤ (((i + j) / 2 : Nat) : Int) by omega), if_pos (show (((i + j) / 2 : Nat) : Int) < d.length by omega), if_pos h]
    obtain ⟨t, ht, hl⟩ := cmpE_some k hk (at_ d m) (at_ d ((i + j) / 2))
    have e : q21q.f (rd_T79 d (m : Int)).f0 (rd_T79 d (m : Int)).f1 (rd_T79 d (m : Int)).f2 (rd_T79 d (m : Int)).f3 (rd_T79 d (((i + j) / 2 : Nat) : Int)).f0 (rd_T79 d (((i + j) / 2 : Nat) : Int)).f1 (rd_T79 d (((i + j) / 2 : Nat) : Int)).f2 (rd_T79 d (((i + j) / 2 : Nat) : Int)).f3 = some t := ht
    rw [e, Option.bind_some]
    by_cases c : t < 0
    · rw [if_pos c, if_pos (hl.1 c)]
    · rw [if_neg c, if_neg (fun x => c (hl.2 x))]
  · rw [if_neg (show ¬ (i : Int) < j by omega), if_neg h]
theorem sm_find2 (d : List E) (a m : Nat) (hd : Big d.length) (hm : m < d.length) (hmono : ∀ x y, a ≤ x → x ≤ y → y < m → leE (at_ d y) (at_ d m) = true → leE (at_ d x) (at_ d m) = true) :
    ∀ (n i j : Nat), j - i ≤ n → a ≤ i → i ≤ j → j ≤ m → (∀ h, a ≤ h → h < i → leE (at_ d h) (at_ d m) = true) → (∀ h, j ≤ h → h < m → leE (at_ d h) (at_ d m) = false) →
    ∃ r, a ≤ r ∧ r ≤ m ∧ (∀ h, a ≤ h → h < r → leE (at_ d h) (at_ d m) = true) ∧ (∀ h, r ≤ h → h < m → leE (at_ d h) (at_ d m) = false) ∧
      ∀ res, Ev (fun k => q0q.l3 k d r m) res → Ev (fun k => q0q.l2 k d m i j) res
  | 0, i, j, hn, ha, hij, hjb, h1, h2 => by
    obtain rfl : i = j := by omega
    refine ⟨i, ha, hjb, h1, h2, fun res hr => stepK (fun k hk => ?_) hr⟩
    rw [sm_l2 k hk d m i i hd hm (by omega), if_neg (by omega)]
  | n + 1, i, j, hn, ha, hij, hjb, h1, h2 => by
    by_cases h : i < j
    · by_cases c : leE (at_ d ((i + j) / 2)) (at_ d m) = false
      · obtain ⟨r, r1, r2, r3, r4, r5⟩ := sm_find2 d a m hd hm hmono n i ((i + j) / 2) (by omega) ha (by omega) (by omega) h1 (fun x hx1 hx2 => by
          cases hc : leE (at_ d x) (at_ d m) with
          | false => rfl
          | true => rw [hmono ((i + j) / 2) x (by omega) hx1 hx2 hc] at c; cases c)
        refine ⟨r, r1, r2, r3, r4, fun res hr => stepK (fun k hk => ?_) (r5 res hr)⟩
        rw [sm_l2 k hk d m i j hd hm (by omega), if_pos h, if_pos c]
      · have c' : leE (at_ d ((i + j) / 2)) (at_ d m) = true := by simpa using c
        obtain ⟨r, r1, r2, r3, r4, r5⟩ := sm_find2 d a m hd hm hmono n ((i + j) / 2 + 1) j (by omega) (by omega) (by omega) hjb (fun x hx1 hx2 => by
          by_cases hx : x < i
          · exact h1 x hx1 hx
          · exact hmono x ((i + j) / 2) hx1 (by omega) (by omega) c') h2
        refine ⟨r, r1, r2, r3, r4, fun res hr => stepK (fun k hk => ?_) (r5 res hr)⟩
        rw [sm_l2 k hk d m i j hd hm (by omega), if_pos h, if_neg c]
    · obtain rfl : i = j := by omega
      refine ⟨i, ha, hjb, h1, h2, fun res hr => stepK (fun k hk => ?_) hr⟩
      rw [sm_l2 k hk d m i i hd hm (by omega), if_neg (by omega)]
theorem sm_l3 : ∀ (n : Nat) (U A C : List E) (v : E) (r i : Nat), U.length = n → r = A.length → i = A.length + U.length → Big (A.length + U.length + 1 + C.length) →
    Ev (fun k => q0q.l3 k (A ++ (U ++ v :: C)) r i) (A ++ v :: (U ++ C))
  | 0, U, A, C, v, r, i, hn, hr, hi, hB => by
    obtain rfl := List.length_eq_zero_iff.1 hn
    simp only [List.length_nil] at hi
    refine Ev.step (f := fun _ => some _) (fun k => ?_) (by simpa using Ev.now _)
    simp only [q0q.l3]
    rw [if_neg (by omega)]
    simp
  | n + 1, U, A, C, v, r, i, hn, hr, hi, hB => by
    obtain ⟨U0, u, rfl⟩ : ∃ U0 u, U = U0 ++ [u] := ⟨U.dropLast, U.getLast (by intro e; subst e; simp at hn), (List.dropLast_concat_getLast _).symm⟩
    have hB' : A.length + (U0 ++ [u]).length + 1 + C.length ≤ 1152921504606846976 := hB
    simp only [List.length_append, List.length_cons, List.length_nil] at hi hB' hn
    have ih := sm_l3 n U0 A (u :: C) v r (i - 1) (by omega) hr (by omega) (by simp [Big]; omega)
    refine Ev.step (fun k => ?_) (by simpa using ih)
    have eL : A ++ ((U0 ++ [u]) ++ v :: C) = (A ++ U0) ++ u :: ([] ++ v :: C) := by simp
    have hlen : (A ++ ((U0 ++ [u]) ++ v :: C)).length = A.length + (U0.length + 1) + 1 + C.length := by simp; omega
    have e1 : at_ (A ++ ((U0 ++ [u]) ++ v :: C)) i = v := by rw [eL]; exact at_two _ _ _ _ _ (by simp; omega)
    have e2 : at_ (A ++ ((U0 ++ [u]) ++ v :: C)) (i - 1) = u := by rw [eL]; exact at_mid _ _ _ (by simp; omega)
    simp only [q0q.l3]
    rw [wpred (n := i) (by omega) (by omega), if_pos (by omega), if_pos (by omega), if_pos (by rw [hlen]; omega), if_pos (by omega), if_pos (by rw [hlen]; omega)]
    show q0q.l3 k (((A ++ ((U0 ++ [u]) ++ v :: C)).set ((i : Int)).toNat (at_ (A ++ ((U0 ++ [u]) ++ v :: C)) (i - 1))).set (((i - 1 : Nat) : Int)).toNat (at_ (A ++ ((U0 ++ [u]) ++ v :: C)) i)) r ((i - 1 : Nat) : Int) = _
    rw [Int.toNat_natCast, Int.toNat_natCast, e1, e2, eL, set_two _ _ _ _ _ _ (by simp; omega), set_mid _ _ _ _ (by simp; omega)]
    simp
end Go.Proofs.Ytlbhjkbjokiioaa.PSort
end
section
namespace Go.Proofs.Ytlbhjkbjokiioaa.PSort
open Go Go.RowKit Go.Proofs.Ytlbhjkbjokiioaa.X Go.Proofs.YtlbhjkbjokiioaaW.PrintWords Go.Proofs.YtlbhjkbjokiioaaW.PrintLast Go.Proofs.YtlbhjkbjokiioaaW.PrintMore Go.Stable
set_option linter.unusedVariables false
abbrev smE (k : Nat) (d : List E) (a m b mid n s : Nat) : Option (List E) :=
  if s < m then q0q.j6 k d a m b mid s ((n - s : Nat) : Int) (decide (m < n - s)) else q0q.j6 k d a m b mid s ((n - s : Nat) : Int) false
theorem sm_l4 (k : Nat) (hk : 16 ≤ k) (d : List E) (a m b mid n s r p : Nat) (hd : Big d.length) (hp : p - s < d.length) (hpb : p ≤ 2305843009213693952) (hrd : r ≤ d.length) (hr : r ≤ p + 1) (hs : s ≤ r) (hn : n ≤ 2305843009213693952) (hsn : s ≤ n) :
    q0q.l4 (k + 1) d a m b mid n s r p = if s < r then (if leE (at_ d ((s + r) / 2)) (at_ d (p - (s + r) / 2)) = false then q0q.l4 k d a m b mid n s (((s + r) / 2 : Nat) : Int) p
      else q0q.l4 k d a m b mid n (((s + r) / 2 + 1 : Nat) : Int) r p) else smE k d a m b mid n s := by
  simp only [q0q.l4]
  have hB : d.length ≤ 1152921504606846976 := hd
  by_cases h : s < r
  · rw [if_pos (show (s : Int) < r by omega), half (i := s) (j := r) (by omega), wsub (n := p) (m := (s + r) / 2) (by omega) (by omega), wsucc (n := (s + r) / 2) (by omega), if_pos (show (0 : Int) ≤ ((p - (s + r) / 2 : Nat) : Int) by omega), if_pos (show ((p - (s + r) / 2 : Nat) : Int) < d.length by omega),
      if_pos (show (0 : Int) ≤ (((s + r) / 2 : Nat) : Int) by omega), if_pos (show (((s + r) / 2 : Nat) : Int) < d.length by omega), if_pos h]
    obtain ⟨t, ht, hl⟩ := cmpE_some k hk (at_ d (p - (s + r) / 2)) (at_ d ((s + r) / 2))
    have e : q21q.f (rd_T79 d ((p - (s + r) / 2 : Nat) : Int)).f0 (rd_T79 d ((p - (s + r) / 2 : Nat) : Int)).f1 (rd_T79 d ((p - (s + r) / 2 : Nat) : Int)).f2 (rd_T79 d ((p - (s + r) / 2 : Nat) : Int)).f3 (rd_T79 d (((s + r) / 2 : Nat) : Int)).f0 (rd_T79 d (((s + r) / 2 : Nat) : Int)).f1 (rd_T79 d (((s + r) / 2 : Nat) : Int)).f2 (rd_T79 d (((s + r) / 2 : Nat) : Int)).f3 = some t := ht
    rw [e, Option.bind_some]
    by_cases c : t < 0
    · rw [if_pos c, if_pos (hl.1 c)]
    · rw [if_neg c, if_neg (fun x => c (hl.2 x))]
  · rw [if_neg (show ¬ (s : Int) < r by omega), if_neg h, wsub (n := n) (m := s) (by omega) hsn]
    unfold smE
    by_cases h2 : s < m
    · rw [if_pos (show (s : Int) < m by omega), if_pos h2]
      congr 1
      exact decide_eq_decide.2 (by omega)
    · rw [if_neg (show ¬ (s : Int) < m by omega), if_neg h2]
theorem sm_find4 (d : List E) (a m b mid n p s0 r0 : Nat) (hd : Big d.length) (hp : p - s0 < d.length) (hpb : p ≤ 2305843009213693952) (hrd : r0 ≤ d.length) (hr0 : r0 ≤ p + 1) (hn : n ≤ 2305843009213693952) (hrn : r0 ≤ n) (hmono : ∀ x y, s0 ≤ x → x ≤ y → y < r0 → leE (at_ d y) (at_ d (p - y)) = true → leE (at_ d x) (at_ d (p - x)) = true) :
    ∀ (q s r : Nat), r - s ≤ q → s0 ≤ s → s ≤ r → r ≤ r0 → (∀ c, s0 ≤ c → c < s → leE (at_ d c) (at_ d (p - c)) = true) → (∀ c, r ≤ c → c < r0 → leE (at_ d c) (at_ d (p - c)) = false) →
    ∃ z, s0 ≤ z ∧ z ≤ r0 ∧ (∀ c, s0 ≤ c → c < z → leE (at_ d c) (at_ d (p - c)) = true) ∧ (∀ c, z ≤ c → c < r0 → leE (at_ d c) (at_ d (p - c)) = false) ∧
      ∀ res, Ev (fun k => smE k d a m b mid n z) res → Ev (fun k => q0q.l4 k d a m b mid n s r p) res
  | 0, s, r, hq, h0, hsr, hr, h1, h2 => by
    obtain rfl : s = r := by omega
    refine ⟨s, h0, hr, h1, h2, fun res hz => stepK (fun k hk => ?_) hz⟩
    rw [sm_l4 k hk d a m b mid n s s p hd (by omega) hpb (by omega) (by omega) (Nat.le_refl _) hn (by omega), if_neg (by omega)]
  | q + 1, s, r, hq, h0, hsr, hr, h1, h2 => by
    by_cases h : s < r
    · by_cases c : leE (at_ d ((s + r) / 2)) (at_ d (p - (s + r) / 2)) = false
      · obtain ⟨z, z1, z2, z3, z4, z5⟩ := sm_find4 d a m b mid n p s0 r0 hd hp hpb hrd hr0 hn hrn hmono q s ((s + r) / 2) (by omega) h0 (by omega) (by omega) h1 (fun x hx1 hx2 => by
          cases hc : leE (at_ d x) (at_ d (p - x)) with
          | false => rfl
          | true => rw [hmono ((s + r) / 2) x (by omega) hx1 hx2 hc] at c; cases c)
        refine ⟨z, z1, z2, z3, z4, fun res hz => stepK (fun k hk => ?_) (z5 res hz)⟩
        rw [sm_l4 k hk d a m b mid n s r p hd (by omega) hpb (by omega) (by omega) hsr hn (by omega), if_pos h, if_pos c]
      · have c' : leE (at_ d ((s + r) / 2)) (at_ d (p - (s + r) / 2)) = true := by simpa using c
        obtain ⟨z, z1, z2, z3, z4, z5⟩ := sm_find4 d a m b mid n p s0 r0 hd hp hpb hrd hr0 hn hrn hmono q ((s + r) / 2 + 1) r (by omega) (by omega) (by omega) hr (fun x hx1 hx2 => by
          by_cases hx : x < s
          · exact h1 x hx1 hx
          · exact hmono x ((s + r) / 2) hx1 (by omega) (by omega) c') h2
        refine ⟨z, z1, z2, z3, z4, fun res hz => stepK (fun k hk => ?_) (z5 res hz)⟩
        rw [sm_l4 k hk d a m b mid n s r p hd (by omega) hpb (by omega) (by omega) hsr hn (by omega), if_pos h, if_neg c]
    · obtain rfl : s = r := by omega
      refine ⟨s, h0, hr, h1, h2, fun res hz => stepK (fun k hk => ?_) hz⟩
      rw [sm_l4 k hk d a m b mid n s s p hd (by omega) hpb (by omega) (by omega) (Nat.le_refl _) hn (by omega), if_neg (by omega)]
theorem at_app (X U C : List E) {i : Nat} (h : i < U.length) : at_ (X ++ (U ++ C)) (X.length + i) = U[i] := by
  unfold at_ rd_T79
  rw [Int.toNat_natCast, List.getD_eq_getElem?_getD, List.getElem?_append_right (by omega), Nat.add_sub_cancel_left, List.getElem?_append_left h, List.getElem?_eq_getElem h]
  rfl
theorem srt_at {U : List E} (X C : List E) (hU : Srt U) {x y : Nat} (h1 : X.length ≤ x) (h2 : x ≤ y) (h3 : y < X.length + U.length) : leE (at_ (X ++ (U ++ C)) x) (at_ (X ++ (U ++ C)) y) = true := by
  obtain ⟨i, rfl⟩ : ∃ i, x = X.length + i := ⟨x - X.length, by omega⟩
  obtain ⟨j, rfl⟩ : ∃ j, y = X.length + j := ⟨y - X.length, by omega⟩
  rw [at_app X U C (by omega), at_app X U C (by omega)]
  by_cases e : i = j
  · subst e; exact leE_refl _
  · exact List.pairwise_iff_getElem.1 hU i j (by omega) (by omega) (by omega)
theorem mem_take_at {U : List E} (X C : List E) {n : Nat} {z : E} (h : z ∈ U.take n) : ∃ x, X.length ≤ x ∧ x < X.length + n ∧ x < X.length + U.length ∧ z = at_ (X ++ (U ++ C)) x := by
  obtain ⟨i, hi, rfl⟩ := List.getElem_of_mem h
  rw [List.length_take] at hi
  refine ⟨X.length + i, by omega, by omega, by omega, ?_⟩
  rw [at_app X U C (by omega), List.getElem_take]
theorem mem_drop_at {U : List E} (X C : List E) {n : Nat} {z : E} (h : z ∈ U.drop n) : ∃ x, X.length + n ≤ x ∧ x < X.length + U.length ∧ z = at_ (X ++ (U ++ C)) x := by
  obtain ⟨i, hi, rfl⟩ := List.getElem_of_mem h
  rw [List.length_drop] at hi
  refine ⟨X.length + (n + i), by omega, by omega, ?_⟩
  rw [at_app X U C (by omega), List.getElem_drop]
theorem sm_second (f : Nat → List E → Int → Int → Int → Option (List E)) {D R : List E} {mid e b : Nat} (h1 : mid < e → e < b → Ev (fun k => f k D mid e b) R) (h2 : ¬ (mid < e ∧ e < b) → D = R) :
    Ev (fun k => if (mid : Int) < e then (if (e : Int) < b then ((f k D mid e b).bind fun t => some t) else some D) else some D) R := by
  by_cases c1 : mid < e
  · by_cases c2 : e < b
    · refine Ev.congr (fun k => ?_) (Ev.bind (h1 c1 c2) (f := fun _ t => some t) (Ev.now R))
      rw [if_pos (show (mid : Int) < e by omega), if_pos (show (e : Int) < b by omega)]
    · refine Ev.congr (f := fun _ => some R) (fun k => ?_) (Ev.now R)
      rw [if_pos (show (mid : Int) < e by omega), if_neg (show ¬ (e : Int) < b by omega), h2 (by omega)]
  · refine Ev.congr (f := fun _ => some R) (fun k => ?_) (Ev.now R)
    rw [if_neg (show ¬ (mid : Int) < e by omega), h2 (by omega)]
theorem sm_j8 {d D R : List E} {a b mid s e : Nat} (h0 : a < s → s < mid → Ev (fun k => q0q.f k d a s mid) D) (h0' : ¬ (a < s ∧ s < mid) → d = D)
    (h1 : mid < e → e < b → Ev (fun k => q0q.f k D mid e b) R) (h2 : ¬ (mid < e ∧ e < b) → D = R) :
    Ev (fun k => q0q.j7 k d a b mid s e) R := by
  have S := sm_second q0q.f h1 h2
  by_cases c : a < s ∧ s < mid
  · refine Ev.step (f := fun k => q0q.j8 k d a b mid s e true) (fun k => ?_) (Ev.step (fun k => ?_) (Ev.bind (h0 c.1 c.2) (f := fun k t => if (mid : Int) < e then (if (e : Int) < b then ((q0q.f k t mid e b).bind fun t => some t) else some t) else some t) S))
    · simp only [q0q.j7]
      rw [if_pos (show (a : Int) < s by omega), decide_eq_true (show (s : Int) < mid by omega)]
    · simp only [q0q.j8, if_true]
  · have e0 := h0' c
    subst e0
    refine Ev.step (f := fun k => q0q.j8 k d a b mid s e false) (fun k => ?_) (Ev.step (fun k => ?_) S)
    · simp only [q0q.j7]
      by_cases c1 : a < s
      · rw [if_pos (show (a : Int) < s by omega), decide_eq_false (show ¬ (s : Int) < mid by omega)]
      · rw [if_neg (show ¬ (a : Int) < s by omega)]
    · simp only [q0q.j8, Bool.false_eq_true, if_false]
theorem take_len {l : List E} {n : Nat} (h : n ≤ l.length) : (l.take n).length = n := by rw [List.length_take]; omega
theorem srt_take {U : List E} (h : Srt U) (n : Nat) : Srt (U.take n) := h.sublist (List.take_sublist ..)
theorem srt_drop {U : List E} (h : Srt U) (n : Nat) : Srt (U.drop n) := h.sublist (List.drop_sublist ..)
theorem sm_gen (N : Nat) (ih : ∀ (X U V Y : List E), U.length + V.length ≤ N → 0 < U.length → 0 < V.length → Srt U → Srt V → Big (X.length + U.length + V.length + Y.length) →
      Ev (fun k => q0q.f k (X ++ (U ++ (V ++ Y))) (X.length : Nat) ((X.length + U.length : Nat) : Int) ((X.length + U.length + V.length : Nat) : Int)) (X ++ (mg leE U V ++ Y)))
    (X U V Y : List E) (hN : U.length + V.length ≤ N + 1) (hU0 : 1 < U.length) (hV0 : 1 < V.length) (hU : Srt U) (hV : Srt V) (hB : Big (X.length + U.length + V.length + Y.length))
    {a m b mid n p s0 r0 : Nat} (ha : a = X.length) (hm : m = X.length + U.length) (hb : b = X.length + U.length + V.length) (hmid : mid = (a + b) / 2) (hn : n = mid + m) (hp : p = n - 1)
    (hs : (mid < m ∧ s0 = n - b ∧ r0 = mid) ∨ (m ≤ mid ∧ s0 = a ∧ r0 = m)) :
    Ev (fun k => q0q.l4 k (X ++ (U ++ (V ++ Y))) a m b mid n s0 r0 p) (X ++ (mg leE U V ++ Y)) := by
  have hB' : X.length + U.length + V.length + Y.length ≤ 1152921504606846976 := hB
  have hlen : (X ++ (U ++ (V ++ Y))).length = X.length + U.length + V.length + Y.length := by simp; omega
  have eV : X ++ (U ++ (V ++ Y)) = (X ++ U) ++ (V ++ Y) := by simp
  have lXU : (X ++ U).length = m := by simp; omega
  have sU : ∀ x y, a ≤ x → x ≤ y → y < m → leE (at_ (X ++ (U ++ (V ++ Y))) x) (at_ (X ++ (U ++ (V ++ Y))) y) = true := fun x y h1 h2 h3 => srt_at X (V ++ Y) hU (by omega) h2 (by omega)
  have sV : ∀ x y, m ≤ x → x ≤ y → y < b → leE (at_ (X ++ (U ++ (V ++ Y))) x) (at_ (X ++ (U ++ (V ++ Y))) y) = true := fun x y h1 h2 h3 => by rw [eV]; exact srt_at (X ++ U) Y hV (by omega) h2 (by omega)
  obtain ⟨s, z1, z2, z3, z4, z5⟩ := sm_find4 (X ++ (U ++ (V ++ Y))) a m b mid n p s0 r0 (by rw [hlen]; exact hB) (by omega) (by omega) (by omega) (by omega) (by omega) (by omega)
    (fun x y h1 h2 h3 hq => leE_trans _ _ _ (sU x y (by omega) h2 (by omega)) (leE_trans _ _ _ hq (sV (p - y) (p - x) (by omega) (by omega) (by omega))))
    (r0 - s0) s0 r0 (Nat.le_refl _) (Nat.le_refl _) (by omega) (Nat.le_refl _) (fun c h1 h2 => by omega) (fun c h1 h2 => by omega)
  refine z5 _ ?_
  obtain ⟨e, he⟩ : ∃ e, e = n - s := ⟨_, rfl⟩
  have b1 : a ≤ s := by omega
  have b2 : s ≤ m := by omega
  have b3 : m ≤ e := by omega
  have b4 : e ≤ b := by omega
  have lA1 : (U.take (s - a)).length = s - a := take_len (by omega)
  have lB1 : (V.take (e - m)).length = e - m := take_len (by omega)
  have lA2 : (U.drop (s - a)).length = m - s := by rw [List.length_drop]; omega
  have lB2 : (V.drop (e - m)).length = b - e := by rw [List.length_drop]; omega
  have c1 : ∀ x ∈ U.take (s - a), ∀ y ∈ V.drop (e - m), leE x y = true := by
    intro x hx y hy
    obtain ⟨i, i1, i2, i3, rfl⟩ := mem_take_at X (V ++ Y) hx
    obtain ⟨j, j1, j2, rfl⟩ := mem_drop_at (X ++ U) Y hy
    rw [← eV]
    rw [lXU] at j1 j2
    have hq := z3 (s - 1) (by omega) (by omega)
    rw [show p - (s - 1) = e from by omega] at hq
    exact leE_trans _ _ _ (sU i (s - 1) (by omega) (by omega) (by omega)) (leE_trans _ _ _ hq (sV e j (by omega) (by omega) (by omega)))
  have c2 : ∀ x ∈ U.drop (s - a), ∀ y ∈ V.take (e - m), leE x y = false := by
    intro x hx y hy
    obtain ⟨i, i1, i2, rfl⟩ := mem_drop_at X (V ++ Y) hx
    obtain ⟨j, j1, j2, j3, rfl⟩ := mem_take_at (X ++ U) Y hy
    rw [← eV]
    rw [lXU] at j1 j2 j3
    have hq := z4 s (Nat.le_refl _) (by omega)
    rw [show p - s = e - 1 from by omega] at hq
    cases hc : leE (at_ (X ++ (U ++ (V ++ Y))) i) (at_ (X ++ (U ++ (V ++ Y))) j) with
    | false => rfl
    | true => rw [leE_trans _ _ _ (sU s i (by omega) (by omega) (by omega)) (leE_trans _ _ _ hc (sV j (e - 1) (by omega) (by omega) (by omega)))] at hq; cases hq
  have eU : U.take (s - a) ++ U.drop (s - a) = U := List.take_append_drop ..
  have eV2 : V.take (e - m) ++ V.drop (e - m) = V := List.take_append_drop ..
  have hmg : mg leE U V = mg leE (U.take (s - a)) (V.take (e - m)) ++ mg leE (U.drop (s - a)) (V.drop (e - m)) := by
    have := mg_split (le := leE) (A2 := U.drop (s - a)) (B2 := V.drop (e - m)) (U.take (s - a)) (V.take (e - m)) c1 c2
    rw [eU, eV2] at this
    exact this
  have lP : (mg leE (U.take (s - a)) (V.take (e - m))).length = mid - a := by rw [mg_length, lA1, lB1]; omega
  have sA1 := srt_take hU (s - a)
  have sA2 := srt_drop hU (s - a)
  have sB1 := srt_take hV (e - m)
  have sB2 := srt_drop hV (e - m)
  have ed : X ++ (U ++ (V ++ Y)) = (X ++ U.take (s - a)) ++ (U.drop (s - a) ++ (V.take (e - m) ++ (V.drop (e - m) ++ Y))) := by
    conv => lhs; rw [← eU, ← eV2]
    simp only [List.append_assoc]
  rw [hmg]
  generalize U.take (s - a) = A1 at *
  generalize U.drop (s - a) = A2 at *
  generalize V.take (e - m) = B1 at *
  generalize V.drop (e - m) = B2 at *
  have J : Ev (fun k => q0q.j7 k (X ++ (A1 ++ (B1 ++ (A2 ++ (B2 ++ Y))))) a b mid s e) (X ++ (mg leE A1 B1 ++ mg leE A2 B2 ++ Y)) := by
    refine sm_j8 (D := X ++ (mg leE A1 B1 ++ (A2 ++ (B2 ++ Y)))) (fun h1 h2 => ?_) (fun h => ?_) (fun h1 h2 => ?_) (fun h => ?_)
    · have := ih X A1 B1 (A2 ++ (B2 ++ Y)) (by omega) (by omega) (by omega) sA1 sB1 (by simp [Big]; omega)
      rw [show X.length = a from ha.symm, show a + A1.length = s from by omega, show s + B1.length = mid from by omega] at this
      exact this
    · by_cases hz : A1 = []
      · rw [hz]; simp [mg]
      · have : 0 < A1.length := List.length_pos_iff.2 hz
        have : B1 = [] := List.length_eq_zero_iff.1 (by omega)
        rw [this]; simp [mg_nil]
    · have := ih (X ++ mg leE A1 B1) A2 B2 Y (by omega) (by omega) (by omega) sA2 sB2 (by simp [Big]; omega)
      rw [List.length_append, lP, show X.length + (mid - a) = mid from by omega, show mid + A2.length = e from by omega, show e + B2.length = b from by omega] at this
      simpa only [List.append_assoc] using this
    · by_cases hz : A2 = []
      · rw [hz]; simp [mg]
      · have : 0 < A2.length := List.length_pos_iff.2 hz
        have : B2 = [] := List.length_eq_zero_iff.1 (by omega)
        rw [this]; simp [mg_nil]
  by_cases hr : s < m ∧ m < e
  · have R := rot_f (X ++ A1) A2 B1 (B2 ++ Y) (a := s) (m := m) (b := e) (by simp; omega) (by simp; omega) (by simp; omega) (by omega) (by omega) (by simp [Big]; omega)
    refine Ev.congr (f := fun k => q0q.j6 k (X ++ (U ++ (V ++ Y))) a m b mid s e true) (fun k => ?_) (Ev.step (fun k => ?_) (Ev.bind R (f := fun k t => q0q.j7 k t a b mid s e) (by simpa only [List.append_assoc] using J)))
    · unfold smE
      rw [if_pos hr.1, ← he, decide_eq_true hr.2]
    · simp only [q0q.j6, if_true]
      rw [ed]
  · have ed' : X ++ (U ++ (V ++ Y)) = X ++ (A1 ++ (B1 ++ (A2 ++ (B2 ++ Y)))) := by
      rw [ed]
      by_cases hz : A2 = []
      · rw [hz]; simp
      · have : 0 < A2.length := List.length_pos_iff.2 hz
        have : B1 = [] := List.length_eq_zero_iff.1 (by omega)
        rw [this]; simp
    refine Ev.congr (f := fun k => q0q.j6 k (X ++ (U ++ (V ++ Y))) a m b mid s e false) (fun k => ?_) (Ev.step (fun k => ?_) J)
    · unfold smE
      by_cases h1 : s < m
      · rw [if_pos h1, ← he, decide_eq_false (show ¬ m < e from fun h => hr ⟨h1, h⟩)]
      · rw [if_neg h1, ← he]
    · simp only [q0q.j6, Bool.false_eq_true, if_false]
      rw [ed']
end Go.Proofs.Ytlbhjkbjokiioaa.PSort
end
section
namespace Go.Proofs.Ytlbhjkbjokiioaa.PSort
open Go Go.RowKit Go.Proofs.Ytlbhjkbjokiioaa.X Go.Proofs.YtlbhjkbjokiioaaW.PrintWords Go.Proofs.YtlbhjkbjokiioaaW.PrintLast Go.Proofs.YtlbhjkbjokiioaaW.PrintMore Go.Stable
set_option linter.unusedVariables false
theorem sm_f : ∀ (N : Nat) (X U V Y : List E), U.length + V.length ≤ N → 0 < U.length → 0 < V.length → Srt U → Srt V → Big (X.length + U.length + V.length + Y.length) →
    Ev (fun k => q0q.f k (X ++ (U ++ (V ++ Y))) (X.length : Nat) ((X.length + U.length : Nat) : Int) ((X.length + U.length + V.length : Nat) : Int)) (X ++ (mg leE U V ++ Y))
  | 0, X, U, V, Y, hN, hU0, hV0, hU, hV, hB => by omega
  | N + 1, X, U, V, Y, hN, hU0, hV0, hU, hV, hB => by
    have hB' : X.length + U.length + V.length + Y.length ≤ 1152921504606846976 := hB
    have hlen : (X ++ (U ++ (V ++ Y))).length = X.length + U.length + V.length + Y.length := by simp; omega
    obtain ⟨a, ha⟩ : ∃ a, a = X.length := ⟨_, rfl⟩
    obtain ⟨m, hm⟩ : ∃ m, m = X.length + U.length := ⟨_, rfl⟩
    obtain ⟨b, hb⟩ : ∃ b, b = X.length + U.length + V.length := ⟨_, rfl⟩
    rw [← hb, ← hm, ← ha]
    by_cases c1 : m - a = 1
    ·
      obtain ⟨u, rfl⟩ : ∃ u, U = [u] := List.length_eq_one_iff.1 (by omega)
      have eL : X ++ ([u] ++ (V ++ Y)) = X ++ u :: (V ++ Y) := by simp
      have eV : X ++ ([u] ++ (V ++ Y)) = (X ++ [u]) ++ (V ++ Y) := by simp
      have hau : at_ (X ++ ([u] ++ (V ++ Y))) a = u := by rw [eL]; exact at_mid _ _ _ ha
      have sV : ∀ x y, m ≤ x → x ≤ y → y < b → leE (at_ (X ++ ([u] ++ (V ++ Y))) x) (at_ (X ++ ([u] ++ (V ++ Y))) y) = true := fun x y h1 h2 h3 => by rw [eV]; exact srt_at (X ++ [u]) Y hV (by simp at hm ⊢; omega) h2 (by simp at hm hb ⊢; omega)
      obtain ⟨r, r1, r2, r3, r4, r5⟩ := sm_find0 (X ++ ([u] ++ (V ++ Y))) a m b (by rw [hlen]; exact hB) (by rw [hlen]; simp; omega) (by rw [hlen]; omega)
        (fun x y h1 h2 h3 hq => leE_trans _ _ _ hq (sV x y h1 h2 h3)) (b - m) m b (Nat.le_refl _) (Nat.le_refl _) (by omega) (Nat.le_refl _) (fun h h1 h2 => by omega) (fun h h1 h2 => by omega)
      refine Ev.step (f := fun k => q0q.l0 k (X ++ ([u] ++ (V ++ Y))) a m b) (fun k => ?_) (r5 _ ?_)
      · simp only [q0q.f]
        rw [wsub (n := m) (m := a) (by omega) (by omega), if_pos (by omega)]
      · have lT : (V.take (r - m)).length = r - m := take_len (by omega)
        have eT : V.take (r - m) ++ V.drop (r - m) = V := List.take_append_drop ..
        have h1 : ∀ x ∈ ([u] : List E), ∀ y ∈ V.take (r - m), leE x y = false := by
          intro x hx y hy
          rw [List.mem_singleton.1 hx]
          obtain ⟨j, j1, j2, j3, rfl⟩ := mem_take_at (X ++ [u]) Y hy
          have e : (X ++ [u]).length = m := by simp at hm ⊢; omega
          rw [e] at j1 j2
          have := r3 j (by omega) (by omega)
          rw [hau] at this
          rw [← eV]; exact this
        have h2 : ∀ y ∈ V.drop (r - m), leE u y = true := by
          intro y hy
          obtain ⟨j, j1, j2, rfl⟩ := mem_drop_at (X ++ [u]) Y hy
          have e : (X ++ [u]).length = m := by simp at hm ⊢; omega
          rw [e] at j1 j2
          have := r4 j (by omega) (by omega)
          rw [hau] at this
          rw [← eV]; exact this
        have hmg : mg leE [u] V = V.take (r - m) ++ u :: V.drop (r - m) := by
          have := mg_split (le := leE) (A2 := [u]) (B2 := V.drop (r - m)) [] (V.take (r - m)) (fun _ h => by cases h) h1
          rw [eT, List.nil_append] at this
          rw [this]
          congr 1
          · simp [mg]
          · cases hd : V.drop (r - m) with
            | nil => simp [mg]
            | cons v W => rw [mg, if_pos (h2 v (by rw [hd]; exact List.mem_cons_self ..))]; simp [mg]
        have := sm_l1 (V.take (r - m)) X (V.drop (r - m) ++ Y) u r a ha (by rw [lT]; simp at hm; omega) (by rw [lT]; simp [Big]; simp at hB'; omega)
        rw [hmg, eL]
        rw [← List.append_assoc, eT] at this
        simpa using this
    · by_cases c2 : b - m = 1
      ·
        obtain ⟨v, rfl⟩ : ∃ v, V = [v] := List.length_eq_one_iff.1 (by omega)
        have eL : X ++ (U ++ ([v] ++ Y)) = (X ++ U) ++ v :: Y := by simp
        have hmv : at_ (X ++ (U ++ ([v] ++ Y))) m = v := by rw [eL]; exact at_mid _ _ _ (by simp; omega)
        have sU : ∀ x y, a ≤ x → x ≤ y → y < m → leE (at_ (X ++ (U ++ ([v] ++ Y))) x) (at_ (X ++ (U ++ ([v] ++ Y))) y) = true := fun x y h1 h2 h3 => srt_at X ([v] ++ Y) hU (by omega) h2 (by omega)
        obtain ⟨r, r1, r2, r3, r4, r5⟩ := sm_find2 (X ++ (U ++ ([v] ++ Y))) a m (by rw [hlen]; exact hB) (by rw [hlen]; simp; omega)
          (fun x y h1 h2 h3 hq => leE_trans _ _ _ (sU x y h1 h2 h3) hq) (m - a) a m (Nat.le_refl _) (Nat.le_refl _) (by omega) (Nat.le_refl _) (fun h h1 h2 => by omega) (fun h h1 h2 => by omega)
        refine Ev.step (f := fun k => q0q.l2 k (X ++ (U ++ ([v] ++ Y))) m a m) (fun k => ?_) (r5 _ ?_)
        · simp only [q0q.f]
          rw [wsub (n := m) (m := a) (by omega) (by omega), if_neg (by omega), wsub (n := b) (m := m) (by omega) (by omega), if_pos (by omega)]
        · have lT : (U.take (r - a)).length = r - a := take_len (by omega)
          have lD : (U.drop (r - a)).length = m - r := by rw [List.length_drop]; omega
          have eT : U.take (r - a) ++ U.drop (r - a) = U := List.take_append_drop ..
          have h1 : ∀ x ∈ U.drop (r - a), ∀ y ∈ ([v] : List E), leE x y = false := by
            intro x hx y hy
            rw [List.mem_singleton.1 hy]
            obtain ⟨j, j1, j2, rfl⟩ := mem_drop_at X ([v] ++ Y) hx
            have := r4 j (by omega) (by omega)
            rw [hmv] at this
            exact this
          have h2 : ∀ x ∈ U.take (r - a), leE x v = true := by
            intro x hx
            obtain ⟨j, j1, j2, j3, rfl⟩ := mem_take_at X ([v] ++ Y) hx
            have := r3 j (by omega) (by omega)
            rw [hmv] at this
            exact this
          have hmg : mg leE U [v] = U.take (r - a) ++ v :: U.drop (r - a) := by
            have := mg_split (le := leE) (A2 := U.drop (r - a)) (B2 := []) (U.take (r - a)) [v] (fun _ _ _ h => by cases h) h1
            rw [eT, List.append_nil, mg_nil, show mg leE (U.take (r - a)) [v] = U.take (r - a) ++ [v] from insS_le h2] at this
            rw [this]; simp
          have := sm_l3 (U.drop (r - a)).length (U.drop (r - a)) (X ++ U.take (r - a)) Y v r m rfl (by simp; omega) (by rw [lD]; simp; omega) (by rw [lD]; simp [Big]; simp at hB'; omega)
          have e1 : X ++ (U ++ ([v] ++ Y)) = (X ++ U.take (r - a)) ++ (U.drop (r - a) ++ v :: Y) := by
            rw [List.append_assoc X, ← List.append_assoc (U.take (r - a)), eT]
            rfl
          rw [hmg, e1]
          simpa using this
      ·
        have ih := sm_f N
        by_cases c3 : (a + b) / 2 < m
        · have := sm_gen N ih X U V Y hN (by omega) (by omega) hU hV hB (a := a) (m := m) (b := b) (mid := (a + b) / 2) (n := (a + b) / 2 + m) (p := (a + b) / 2 + m - 1) (s0 := (a + b) / 2 + m - b) (r0 := (a + b) / 2) ha hm hb rfl rfl rfl (.inl ⟨c3, rfl, rfl⟩)
          refine Ev.step (f := fun k => q0q.j4 k (X ++ (U ++ (V ++ Y))) a m b (((a + b) / 2 : Nat) : Int) (((a + b) / 2 + m : Nat) : Int) (((a + b) / 2 + m - b : Nat) : Int) (((a + b) / 2 : Nat) : Int)) (fun k => ?_) (Ev.step (fun k => ?_) this)
          · simp only [q0q.f]
            rw [wsub (n := m) (m := a) (by omega) (by omega), if_neg (by omega), wsub (n := b) (m := m) (by omega) (by omega), if_neg (by omega), half (by omega), if_pos (by omega), wadd (by omega), wsub (n := (a + b) / 2 + m) (m := b) (by omega) (by omega)]
          · simp only [q0q.j4]
            rw [wpred (by omega) (by omega)]
        · have := sm_gen N ih X U V Y hN (by omega) (by omega) hU hV hB (a := a) (m := m) (b := b) (mid := (a + b) / 2) (n := (a + b) / 2 + m) (p := (a + b) / 2 + m - 1) (s0 := a) (r0 := m) ha hm hb rfl rfl rfl (.inr ⟨by omega, rfl, rfl⟩)
          refine Ev.step (f := fun k => q0q.j4 k (X ++ (U ++ (V ++ Y))) a m b (((a + b) / 2 : Nat) : Int) (((a + b) / 2 + m : Nat) : Int) a m) (fun k => ?_) (Ev.step (fun k => ?_) this)
          · simp only [q0q.f]
            rw [wsub (n := m) (m := a) (by omega) (by omega), if_neg (by omega), wsub (n := b) (m := m) (by omega) (by omega), if_neg (by omega), half (by omega), if_neg (by omega), wadd (by omega)]
          · simp only [q0q.j4]
            rw [wpred (by omega) (by omega)]
theorem isort_srt (L : List E) : Srt (isort leE L) := (isort_SS leE_trans leE_total L).1
theorem isort_len (L : List E) : (isort leE L).length = L.length := by
  have : ∀ (L R : List E), (L.foldl (insS leE) R).length = R.length + L.length := by
    intro L
    induction L with
    | nil => intro R; simp
    | cons x L ih => intro R; rw [List.foldl_cons, ih]; simp [insS, mg_length]; omega
  rw [isort, this]; simp
def blocks (s : Nat) : Nat → List E → List E
  | 0, _ => []
  | f + 1, L => if L = [] then [] else isort leE (L.take s) ++ blocks s f (L.drop s)
theorem blocks_fuel {s : Nat} (hs : 0 < s) : ∀ (f g : Nat) (L : List E), L.length ≤ f → L.length ≤ g → blocks s f L = blocks s g L
  | 0, 0, L, h, h' => rfl
  | 0, g + 1, L, h, h' => by
    obtain rfl := List.length_eq_zero_iff.1 (Nat.le_zero.1 h)
    simp [blocks]
  | f + 1, 0, L, h, h' => by
    obtain rfl := List.length_eq_zero_iff.1 (Nat.le_zero.1 h')
    simp [blocks]
  | f + 1, g + 1, L, h, h' => by
    simp only [blocks]
    by_cases e : L = []
    · rw [if_pos e, if_pos e]
    · rw [if_neg e, if_neg e]
      have : 0 < L.length := List.length_pos_iff.2 e
      rw [blocks_fuel hs f g (L.drop s) (by rw [List.length_drop]; omega) (by rw [List.length_drop]; omega)]
abbrev blk (s : Nat) (L : List E) : List E := blocks s L.length L
theorem blk_step {s : Nat} (hs : 0 < s) (L : List E) : blk s L = isort leE (L.take s) ++ blk s (L.drop s) := by
  cases h : L with
  | nil => simp [blk, blocks, isort]
  | cons x M =>
    have : blk s (x :: M) = blocks s (M.length + 1) (x :: M) := rfl
    rw [this, blocks, if_neg (by simp)]
    congr 1
    exact blocks_fuel hs _ _ _ (by rw [List.length_drop]; simp; omega) (Nat.le_refl _)
theorem blk_short {s : Nat} (hs : 0 < s) {L : List E} (h : L.length ≤ s) : blk s L = isort leE L := by
  rw [blk_step hs, List.take_of_length_le h, List.drop_of_length_le h]
  simp [blk, blocks]
theorem isort_join (U V : List E) : mg leE (isort leE U) (isort leE V) = isort leE (U ++ V) := isort_mg leE_refl leE_trans leE_total U V
theorem blk_len {s : Nat} (hs : 0 < s) : ∀ (n : Nat) (L : List E), L.length ≤ n → (blk s L).length = L.length
  | 0, L, h => by obtain rfl := List.length_eq_zero_iff.1 (Nat.le_zero.1 h); rfl
  | n + 1, L, h => by
    by_cases e : L = []
    · rw [e]; rfl
    · have : 0 < L.length := List.length_pos_iff.2 e
      rw [blk_step hs, List.length_append, isort_len, blk_len hs n _ (by rw [List.length_drop]; omega), List.length_take, List.length_drop]
      omega
theorem st_l0 : ∀ (q : Nat) (D R : List E) {n : Nat} {res : List E}, R.length ≤ q → n = D.length + R.length → Big n → Ev (fun k => q2q.l1 k (D ++ blk 20 R) n 20) res →
    Ev (fun k => q2q.l0 k (D ++ R) n 20 (D.length : Nat) ((D.length + 20 : Nat) : Int)) res
  | q, D, R, n, res, hq, hn, hB, h => by
    have hB' : n ≤ 1152921504606846976 := hB
    by_cases c : D.length + 20 ≤ n
    · cases q with
      | zero => omega
      | succ q =>
        have lT : (R.take 20).length = 20 := take_len (by omega)
        have I := ins_f D (R.take 20) (R.drop 20) (a := (D.length : Nat)) (b := ((D.length + 20 : Nat) : Int)) rfl (by rw [lT]) (by rw [lT]; simp [Big]; omega)
        rw [List.take_append_drop] at I
        have ih := st_l0 q (D ++ isort leE (R.take 20)) (R.drop 20) (n := n) (res := res) (by rw [List.length_drop]; omega) (by rw [List.length_append, isort_len, lT, List.length_drop]; omega) hB (by
          rw [List.append_assoc, ← blk_step (by omega)]; exact h)
        rw [List.length_append, isort_len, lT, List.append_assoc] at ih
        refine Ev.step (fun k => ?_) (Ev.bind I (f := fun k t => q2q.l0 k t n 20 ((D.length + 20 : Nat) : Int) ((D.length + 20 + 20 : Nat) : Int)) ih)
        simp only [q2q.l0]
        rw [if_pos (by omega), show wrap64 (((D.length + 20 : Nat) : Int) + 20) = ((D.length + 20 + 20 : Nat) : Int) from wadd (n := D.length + 20) (m := 20) (by omega)]
    · have I := ins_f D R [] (a := (D.length : Nat)) (b := n) rfl (by omega) (by simp [Big]; omega)
      rw [List.append_nil, List.append_nil] at I
      rw [blk_short (by omega) (by omega)] at h
      refine Ev.step (fun k => ?_) (Ev.bind I (f := fun k t => q2q.l1 k t n 20) h)
      simp only [q2q.l0]
      rw [if_neg (by omega)]
theorem st_l2 : ∀ (q : Nat) (D R : List E) {n s : Nat} {res : List E}, R.length ≤ q → n = D.length + R.length → Big n → 0 < s → s < n → Ev (fun k => q2q.l1 k (D ++ blk (2 * s) R) n ((2 * s : Nat) : Int)) res →
    Ev (fun k => q2q.l2 k (D ++ blk s R) n s (D.length : Nat) ((D.length + 2 * s : Nat) : Int)) res
  | q, D, R, n, s, res, hq, hn, hB, hs, hsn, h => by
    have hB' : n ≤ 1152921504606846976 := hB
    have ew : wrap64 (2 * (s : Int)) = ((2 * s : Nat) : Int) := by rw [show (2 * (s : Int)) = ((2 * s : Nat) : Int) by omega]; exact w1 (by omega)
    have ew2 : wrap64 ((s : Int) * 2) = ((2 * s : Nat) : Int) := by rw [show ((s : Int) * 2) = ((2 * s : Nat) : Int) by omega]; exact w1 (by omega)
    by_cases c : D.length + 2 * s ≤ n
    · cases q with
      | zero => omega
      | succ q =>
        have l1 : (R.take s).length = s := take_len (by omega)
        have l2 : ((R.drop s).take s).length = s := take_len (by rw [List.length_drop]; omega)
        have e1 : blk s R = isort leE (R.take s) ++ (isort leE ((R.drop s).take s) ++ blk s ((R.drop s).drop s)) := by rw [blk_step hs, blk_step hs (R.drop s)]
        have e2 : R.take s ++ (R.drop s).take s = R.take (2 * s) := by rw [show 2 * s = s + s by omega, List.take_add]
        have e3 : (R.drop s).drop s = R.drop (2 * s) := by rw [List.drop_drop, show s + s = 2 * s by omega]
        have M := sm_f _ D (isort leE (R.take s)) (isort leE ((R.drop s).take s)) (blk s (R.drop (2 * s))) (Nat.le_refl _) (by rw [isort_len]; omega) (by rw [isort_len]; omega) (isort_srt _) (isort_srt _) (by
          rw [isort_len, isort_len, blk_len hs _ _ (Nat.le_refl _), List.length_drop]; simp only [Big]; omega)
        rw [isort_join, e2, isort_len, isort_len, l1, l2, ← e3, ← e1, e3] at M
        have ih := st_l2 q (D ++ isort leE (R.take (2 * s))) (R.drop (2 * s)) (n := n) (s := s) (res := res) (by rw [List.length_drop]; omega) (by rw [List.length_append, isort_len, take_len (by omega), List.length_drop]; omega) hB hs hsn (by
          rw [List.append_assoc, ← blk_step (by omega)]; exact h)
        rw [List.length_append, isort_len, take_len (by omega), List.append_assoc] at ih
        refine Ev.step (fun k => ?_) (Ev.bind M (f := fun k t => q2q.l2 k t n s ((D.length + 2 * s : Nat) : Int) ((D.length + 2 * s + 2 * s : Nat) : Int)) ih)
        simp only [q2q.l2]
        rw [if_pos (by omega), ew, wadd (n := D.length) (m := s) (by omega), wadd (n := D.length + 2 * s) (m := 2 * s) (by omega), show D.length + 2 * s = D.length + s + s by omega]
    · by_cases c2 : D.length + s < n
      · have l1 : (R.take s).length = s := take_len (by omega)
        have l2 : (R.drop s).length = n - D.length - s := by rw [List.length_drop]; omega
        have e1 : blk s R = isort leE (R.take s) ++ isort leE (R.drop s) := by rw [blk_step hs, blk_short hs (L := R.drop s) (by rw [List.length_drop]; omega)]
        have M := sm_f _ D (isort leE (R.take s)) (isort leE (R.drop s)) [] (Nat.le_refl _) (by rw [isort_len]; omega) (by rw [isort_len]; omega) (isort_srt _) (isort_srt _) (by
          rw [isort_len, isort_len, l1, l2]; simp only [Big, List.length_nil]; omega)
        rw [isort_join, List.take_append_drop, List.append_nil, List.append_nil, ← e1, isort_len, isort_len, l1, l2, show D.length + s + (n - D.length - s) = n by omega] at M
        rw [blk_short (by omega) (by omega)] at h
        refine Ev.step (fun k => ?_) (Ev.bind M (f := fun k t => q2q.l1 k t n ((2 * s : Nat) : Int)) h)
        simp only [q2q.l2]
        rw [if_neg (by omega), wadd (n := D.length) (m := s) (by omega), if_pos (by omega), ew2]
      · rw [blk_short (by omega) (by omega)] at h ⊢
        refine Ev.step (fun k => ?_) h
        simp only [q2q.l2]
        rw [if_neg (by omega), wadd (n := D.length) (m := s) (by omega), if_neg (by omega), ew2]
theorem st_l1 : ∀ (q : Nat) (L : List E) (s : Nat), L.length - s ≤ q → Big L.length → 0 < s → Ev (fun k => q2q.l1 k (blk s L) (L.length : Nat) s) (isort leE L)
  | q, L, s, hq, hB, hs => by
    have hB' : L.length ≤ 1152921504606846976 := hB
    by_cases c : s < L.length
    · cases q with
      | zero => omega
      | succ q =>
        have ih := st_l1 q L (2 * s) (by omega) hB (by omega)
        have := st_l2 L.length [] L (n := L.length) (s := s) (Nat.le_refl _) (by simp) hB hs c (by simpa using ih)
        refine Ev.step (fun k => ?_) this
        simp only [q2q.l1]
        rw [if_pos (by omega), show wrap64 (2 * (s : Int)) = ((([] : List E).length + 2 * s : Nat) : Int) by
          rw [show (2 * (s : Int)) = ((2 * s : Nat) : Int) by omega, w1 (by omega)]; simp]
        simp
    · rw [blk_short hs (by omega)]
      refine Ev.step (f := fun _ => some _) (fun k => ?_) (Ev.now _)
      simp only [q2q.l1]
      rw [if_neg (by omega)]
theorem sort_f (L : List E) (hB : Big L.length) : Ev (fun k => q15q.f k L) (isort leE L) := by
  have h := st_l0 L.length [] L (n := L.length) (Nat.le_refl _) (by simp) hB (by simpa using st_l1 L.length L 20 (by omega) hB (by omega))
  refine Ev.congr (fun k => ?_) (Ev.bind (g := fun k => q2q.f k L (L.length : Int)) (f := fun _ t => some t) (Ev.congr (fun k => ?_) h) (Ev.now _))
  · rfl
  · rfl
end Go.Proofs.Ytlbhjkbjokiioaa.PSort
end
