-- a shortened text: what this claim does not name is left out (wip/xprint/prune.py of this repo)
import Derived.Test.YtlbhjkbjokiioaaBigV
import Derived.Test.YtlbhjkbjokiioaaX13
import Derived.Test.YtlbhjkbjokiioaaX14
import Derived.Test.YtlbhjkbjokiioaaX15
section
namespace Go.Proofs.Ytlbhjkbjokiioaa.PBig
open Go Go.RowKit Go.Proofs.Ytlbhjkbjokiioaa.X Go.Proofs.YtlbhjkbjokiioaaW.PrintWords Go.Proofs.YtlbhjkbjokiioaaW.PrintLast Go.Proofs.Ytlbhjkbjokiioaa.Big
theorem w64 {x : Int} (h0 : -9223372036854775808 ≤ x) (h1 : x ≤ 9223372036854775807) : wrap64 x = x := by unfold wrap64; omega
theorem u64 {x : Int} (h0 : 0 ≤ x) (h1 : x ≤ 18446744073709551615) : IntKind.u64.wrap x = x := IntWalk.u64_in x ⟨h0, h1⟩
theorem tm {x y : Int} (h : 0 ≤ x) : Int.tmod x y = x % y := Int.tmod_eq_emod_of_nonneg h
theorem td {x y : Int} (h : 0 ≤ x) : Int.tdiv x y = x / y := Int.tdiv_eq_ediv_of_nonneg h
theorem rd_nat (l : List Int) (i : Nat) : rd l (i : Int) = l.getD i 0 := by unfold rd; rw [Int.toNat_natCast]
theorem trim_go (l : List Int) (hl : l.length ≤ 1000000) : ∀ n, n ≤ l.length → ∃ m, m ≤ n ∧ Ev (fun k => q7q.l0 k l (n : Int)) (l.take m) ∧ val (l.take m) = val (l.take n) ∧ Trimmed (l.take m)
  | 0, _ => ⟨0, Nat.le_refl _, Ev.step (f := fun _ => some (l.take 0)) (fun k => by
      simp only [q7q.l0]
      rw [if_neg (by omega), if_pos (by omega), if_pos (by omega)]
      rfl) (Ev.now _), rfl, by intro h; simp at h⟩
  | n + 1, hn => by
    have e : wrap64 (((n + 1 : Nat) : Int) - 1) = (n : Int) := by rw [w64 (by omega) (by omega)]; omega
    by_cases z : l.getD n 0 = 0
    · obtain ⟨m, hm, he, hv, ht⟩ := trim_go l hl n (by omega)
      refine ⟨m, by omega, Ev.step (fun k => ?_) he, ?_, ht⟩
      · simp only [q7q.l0, e, rd_nat]
        rw [if_pos (by omega), if_pos (by omega), if_pos (by omega), if_pos z]
      · rw [hv, val_take_succ (by omega), z]; omega
    · refine ⟨n + 1, Nat.le_refl _, Ev.step (f := fun _ => some (l.take (n + 1))) (fun k => ?_) (Ev.now _), rfl, ?_⟩
      · simp only [q7q.l0, e, rd_nat]
        rw [if_pos (by omega), if_pos (by omega), if_pos (by omega), if_neg z, if_pos (by omega), if_pos (by omega), Int.toNat_natCast]
      · intro h
        rw [List.getLast_eq_getElem]
        have e2 : (l.take (n + 1)).length = n + 1 := by rw [List.length_take]; omega
        simp only [e2, Nat.add_sub_cancel, List.getElem_take]
        intro hz
        apply z
        rw [List.getD_eq_getElem?_getD, List.getElem?_eq_getElem (by omega)]
        simpa using hz
theorem trim_ev {l : List Int} (hl : l.length ≤ 1000000) (d : Digits l) : ∃ r, Ev (fun k => q7q.f k l) r ∧ IsBig r (val l) ∧ r.length ≤ l.length := by
  obtain ⟨m, hm, he, hv, ht⟩ := trim_go l hl l.length (Nat.le_refl _)
  refine ⟨l.take m, he, ⟨d.take m, ht, ?_⟩, ?_⟩
  · rw [hv, List.take_length]
  · rw [List.length_take]; omega
theorem of_go : ∀ (m : Nat) (n : Int) (acc : List Int), 0 ≤ n → n < P m → n < 18446744073709551616 → acc.length + m ≤ 1000000 →
    ∃ r, Ev (fun k => q13q.l0 k n acc) (acc ++ r) ∧ IsBig r n ∧ r.length ≤ m
  | 0, n, acc, h0, h1, _, _ => by
    have : n = 0 := by rw [P_zero] at h1; omega
    subst this
    exact ⟨[], Ev.step (f := fun _ => some (acc ++ [])) (fun k => by simp only [q13q.l0]; rw [if_neg (by omega), List.append_nil]) (Ev.now _), IsBig.nil, by simp⟩
  | m + 1, n, acc, h0, h1, h2, h3 => by
    by_cases z : n = 0
    · subst z
      exact ⟨[], Ev.step (f := fun _ => some (acc ++ [])) (fun k => by simp only [q13q.l0]; rw [if_neg (by omega), List.append_nil]) (Ev.now _), IsBig.nil, by simp⟩
    · rw [P_succ] at h1
      obtain ⟨r, he, ⟨d, t, v⟩, hr⟩ := of_go m (n / 65536) (acc ++ [n % 65536]) (by omega) (by omega) (by omega) (by simp; omega)
      refine ⟨n % 65536 :: r, Ev.step (f := fun k => q13q.l0 k (n / 65536) (acc ++ [n % 65536])) (fun k => ?_) (by simpa using he), ⟨d.cons (by omega) (by omega), ?_, ?_⟩, by simp; omega⟩
      · simp only [q13q.l0]
        rw [if_pos (by omega), if_pos (by omega), td h0, tm h0, u64 (by omega) (by omega)]
      · intro h
        cases r with
        | nil => simp only [val] at v; simp only [List.getLast_singleton]; omega
        | cons x xs => rw [List.getLast_cons (by simp)]; exact t (by simp)
      · simp only [val, v]; omega
theorem of_ev {n : Int} (h0 : 0 ≤ n) (h1 : n < 18446744073709551616) : ∃ r, Ev (fun k => q13q.f k n) r ∧ IsBig r n ∧ r.length ≤ 4 := by
  obtain ⟨r, he, hb, hr⟩ := of_go 4 n [] h0 (by simpa [P] using h1) h1 (by simp)
  exact ⟨r, he, hb, hr⟩
theorem compare_go (a b : List Int) (da : Digits a) (db : Digits b) (hab : a.length = b.length) (hl : a.length ≤ 1000000) : ∀ n, n ≤ a.length →
    ∃ c : Int, Ev (fun k => q11q.l0 k a b ((n : Int) - 1)) c ∧ (c < 0 ↔ val (a.take n) < val (b.take n)) ∧ (c = 0 ↔ val (a.take n) = val (b.take n))
  | 0, _ => ⟨0, Ev.step (f := fun _ => some 0) (fun k => by simp only [q11q.l0]; rw [if_neg (by omega)]) (Ev.now _), by simp, by simp⟩
  | n + 1, hn => by
    have va := val_take_succ (l := a) (i := n) (by omega)
    have vb := val_take_succ (l := b) (i := n) (by omega)
    have la := val_lt (da.take n)
    have lb := val_lt (db.take n)
    have na := val_nonneg (da.take n)
    have nb := val_nonneg (db.take n)
    rw [List.length_take, Nat.min_eq_left (by omega)] at la lb
    have e : ((n + 1 : Nat) : Int) - 1 = (n : Int) := by omega
    have ew : wrap64 ((n : Int) - 1) = (n : Int) - 1 := w64 (by omega) (by omega)
    rw [va, vb, e]
    have ga := da.get n
    have gb := db.get n
    have p := P_pos n
    by_cases c1 : a.getD n 0 < b.getD n 0
    · refine ⟨-1, Ev.step (f := fun _ => some (-1)) (fun k => ?_) (Ev.now _), ?_, ?_⟩
      · simp only [q11q.l0, rd_nat]
        rw [if_pos (by omega), if_pos (by omega), if_pos (by omega), if_pos (by omega), if_pos c1]
      all_goals
        have : P n * (a.getD n 0 + 1) ≤ P n * b.getD n 0 := Int.mul_le_mul_of_nonneg_left (by omega) (by omega)
        rw [Int.mul_add] at this
        constructor <;> intro _ <;> omega
    · by_cases c2 : a.getD n 0 > b.getD n 0
      · refine ⟨1, Ev.step (f := fun _ => some 1) (fun k => ?_) (Ev.now _), ?_, ?_⟩
        · simp only [q11q.l0, rd_nat]
          rw [if_pos (by omega), if_pos (by omega), if_pos (by omega), if_pos (by omega), if_neg c1, if_pos c2]
        all_goals
          have : P n * (b.getD n 0 + 1) ≤ P n * a.getD n 0 := Int.mul_le_mul_of_nonneg_left (by omega) (by omega)
          rw [Int.mul_add] at this
          constructor <;> intro _ <;> omega
      · obtain ⟨c, he, h1, h2⟩ := compare_go a b da db hab hl n (by omega)
        have q : a.getD n 0 = b.getD n 0 := by omega
        refine ⟨c, Ev.step (fun k => ?_) he, ?_, ?_⟩
        · simp only [q11q.l0, rd_nat, ew]
          rw [if_pos (by omega), if_pos (by omega), if_pos (by omega), if_pos (by omega), if_neg c1, if_neg c2]
        · rw [h1, q]; omega
        · rw [h2, q]; omega
theorem compare_ev {a b : List Int} {m n : Int} (ha : IsBig a m) (hb : IsBig b n) (la : a.length ≤ 1000000) (lb : b.length ≤ 1000000) :
    ∃ c : Int, Ev (fun k => q11q.f k a b) c ∧ (c < 0 ↔ m < n) ∧ (c = 0 ↔ m = n) := by
  by_cases h : a.length = b.length
  · obtain ⟨c, he, h1, h2⟩ := compare_go a b ha.1 hb.1 h la a.length (Nat.le_refl _)
    rw [List.take_length, show a.length = b.length from h, List.take_length, ha.2.2, hb.2.2] at h1 h2
    refine ⟨c, ?_, h1, h2⟩
    refine Ev.congr (fun k => ?_) he
    unfold q11q.f
    rw [if_pos (by omega), w64 (by omega) (by omega)]
  · refine ⟨(a.length : Int) - b.length, ?_, ?_, ?_⟩
    · refine Ev.congr (fun k => ?_) (Ev.now _)
      unfold q11q.f
      rw [if_neg (by omega), w64 (by omega) (by omega)]
    · constructor
      · intro _; exact ha.lt_of_len hb (by omega)
      · intro hlt
        by_cases c : b.length < a.length
        · have := hb.lt_of_len ha c; omega
        · omega
    · constructor
      · intro _; omega
      · intro e
        rcases Nat.lt_or_gt_of_ne h with c | c
        · have := ha.lt_of_len hb c; omega
        · have := hb.lt_of_len ha c; omega
theorem add_go (a b : List Int) (da : Digits a) (db : Digits b) (_la : a.length ≤ 1000) (_lb : b.length ≤ 1000) : ∀ (f i : Nat) (out : List Int) (c : Int),
    Digits out → out.length = i → 0 ≤ c → c ≤ 2 → (i < a.length ∨ i < b.length → a.length + 1 ≤ i + f ∧ b.length + 1 ≤ i + f) ∧ (c > 0 → 1 ≤ f) → i + f ≤ 5000 →
    ∃ r, Ev (fun k => q5q.l0 k a b out c (i : Int)) r ∧ IsBig r (val out + P i * (c + val (a.drop i) + val (b.drop i))) ∧ r.length ≤ i + f := by
  intro f
  induction f with
  | zero =>
    intro i out c dout hi c0 c1 hf hlim
    have z : c = 0 := by omega
    subst z
    obtain ⟨r, he, hb, hr⟩ := trim_ev (l := out) (by omega) dout
    refine ⟨r, ?_, ?_, by omega⟩
    · refine Ev.step (f := fun k => q5q.j1 k a b out 0 i false) (fun k => ?_) (Ev.step (f := fun k => (q7q.f k out).bind fun t => some t) (fun k => ?_) (Ev.bind he (Ev.now _)))
      · simp only [q5q.l0]
        rw [if_neg (by omega), if_neg (by omega), decide_eq_false (by omega)]
      · simp only [q5q.j1]
        rw [if_neg (by simp)]
    · rw [q27q (by omega), q27q (by omega)]; simpa using hb
  | succ f ih =>
    intro i out c dout hi c0 c1 hf hlim
    have ga := da.get i
    have gb := db.get i
    have ew : wrap64 ((i : Int) + 1) = ((i + 1 : Nat) : Int) := by rw [w64 (by omega) (by omega)]; omega
    have step : ∀ n : Int, 0 ≤ n → n < 196608 → (n / 65536 > 0 → i < a.length ∨ i < b.length) → val out + P i * (c + val (a.drop i) + val (b.drop i)) = val out + P i * (n + 65536 * (val (a.drop (i + 1)) + val (b.drop (i + 1)))) →
        (∀ k, q5q.j1 (k + 1) a b out c i true = q5q.l0 k a b (out ++ [n % 65536]) (n / 65536) (i + 1 : Nat)) → (∀ k, q5q.l0 (k + 1) a b out c i = q5q.j1 k a b out c i true) →
        ∃ r, Ev (fun k => q5q.l0 k a b out c (i : Int)) r ∧ IsBig r (val out + P i * (c + val (a.drop i) + val (b.drop i))) ∧ r.length ≤ i + (f + 1) := by
      intro n n0 n1 hc hv hj hl
      obtain ⟨r, he, hb, hr⟩ := ih (i + 1) (out ++ [n % 65536]) (n / 65536) (dout.append (Digits.nil.cons (by omega) (by omega))) (by simp [hi]) (by omega) (by omega) (by
        refine ⟨fun h => ?_, fun h => ?_⟩
        · have := hf.1 (by omega); omega
        · have := hf.1 (hc h); omega) (by omega)
      refine ⟨r, Ev.step hl (Ev.step hj he), ?_, by omega⟩
      rw [hv]
      rw [val_append, hi, P_succ] at hb
      have e1 : val [n % 65536] = n % 65536 := by simp [val]
      rw [e1] at hb
      have e2 : n = n % 65536 + 65536 * (n / 65536) := by omega
      have e3 : val out + P i * (n % 65536) + 65536 * P i * (n / 65536 + val (List.drop (i + 1) a) + val (List.drop (i + 1) b)) = val out + P i * (n + 65536 * (val (a.drop (i + 1)) + val (b.drop (i + 1)))) := by
        generalize n % 65536 = x at *
        generalize n / 65536 = y at *
        subst e2
        grind
      rwa [e3] at hb
    have ra : (i < a.length) → rd a (i : Int) = a.getD i 0 := fun _ => rd_nat a i
    have rb : (i < b.length) → rd b (i : Int) = b.getD i 0 := fun _ => rd_nat b i
    by_cases ha : i < a.length
    · have va := val_drop ha
      have hl : ∀ k, q5q.l0 (k + 1) a b out c i = q5q.j1 k a b out c i true := fun k => by
        simp only [q5q.l0]; rw [if_pos (by omega)]
      by_cases hb : i < b.length
      · have vb := val_drop hb
        refine step (c + a.getD i 0 + b.getD i 0) (by omega) (by omega) (fun _ => .inl ha) (by rw [va, vb]; grind) (fun k => ?_) hl
        simp only [q5q.j1]
        rw [if_pos trivial, if_pos (by omega), if_pos (by omega), if_pos (by omega), if_pos (by omega), rd_nat, rd_nat, u64 (x := c + a.getD i 0) (by omega) (by omega), u64 (x := c + a.getD i 0 + b.getD i 0) (by omega) (by omega), td (by omega), tm (by omega), u64 (by omega) (by omega), ew]
      · have vb := q27q (l := b) (i := i) (by omega)
        have vb2 := q27q (l := b) (i := i + 1) (by omega)
        refine step (c + a.getD i 0) (by omega) (by omega) (fun _ => .inl ha) (by rw [va, vb, vb2]; grind) (fun k => ?_) hl
        simp only [q5q.j1]
        rw [if_pos trivial, if_pos (by omega), if_pos (by omega), if_neg (by omega), if_pos (by omega), rd_nat, u64 (x := c + a.getD i 0) (by omega) (by omega), td (by omega), tm (by omega), u64 (by omega) (by omega), ew]
    · have va := q27q (l := a) (i := i) (by omega)
      have va2 := q27q (l := a) (i := i + 1) (by omega)
      by_cases hb : i < b.length
      · have vb := val_drop hb
        refine step (c + b.getD i 0) (by omega) (by omega) (fun _ => .inr hb) (by rw [va, vb, va2]; grind) (fun k => ?_) (fun k => by simp only [q5q.l0]; rw [if_neg (by omega), if_pos (by omega)])
        simp only [q5q.j1]
        rw [if_pos trivial, if_neg (by omega), if_pos (by omega), if_pos (by omega), if_pos (by omega), rd_nat, u64 (x := c + b.getD i 0) (by omega) (by omega), td (by omega), tm (by omega), u64 (by omega) (by omega), ew]
      · have vb := q27q (l := b) (i := i) (by omega)
        have vb2 := q27q (l := b) (i := i + 1) (by omega)
        by_cases cz : c > 0
        · refine step c (by omega) (by omega) (fun h => by omega) (by rw [va, vb, va2, vb2]; grind) (fun k => ?_) (fun k => by simp only [q5q.l0]; rw [if_neg (by omega), if_neg (by omega), decide_eq_true cz])
          simp only [q5q.j1]
          rw [if_pos trivial, if_neg (by omega), if_neg (by omega), if_pos (by omega), td (by omega), tm (by omega), u64 (by omega) (by omega), ew]
        · have z : c = 0 := by omega
          subst z
          obtain ⟨r, he, hbg, hr⟩ := trim_ev (l := out) (by omega) dout
          refine ⟨r, ?_, ?_, by omega⟩
          · refine Ev.step (f := fun k => q5q.j1 k a b out 0 i false) (fun k => ?_) (Ev.step (f := fun k => (q7q.f k out).bind fun t => some t) (fun k => ?_) (Ev.bind he (Ev.now _)))
            · simp only [q5q.l0]
              rw [if_neg (by omega), if_neg (by omega), decide_eq_false (by omega)]
            · simp only [q5q.j1]
              rw [if_neg (by simp)]
          · rw [va, vb]; simpa using hbg
theorem add_ev {a b : List Int} {m n : Int} (ha : IsBig a m) (hb : IsBig b n) (la : a.length ≤ 1000) (lb : b.length ≤ 1000) :
    ∃ r, Ev (fun k => q5q.f k a b) r ∧ IsBig r (m + n) ∧ r.length ≤ a.length + b.length + 1 := by
  obtain ⟨r, he, h, hr⟩ := add_go a b ha.1 hb.1 la lb (a.length + b.length + 1) 0 [] 0 Digits.nil rfl (by omega) (by omega) (by omega) (by omega)
  refine ⟨r, he, ?_, by omega⟩
  simpa [val, P_zero, ha.2.2, hb.2.2] using h
end Go.Proofs.Ytlbhjkbjokiioaa.PBig
end
section
namespace Go.Proofs.Ytlbhjkbjokiioaa.PBig
open Go Go.RowKit Go.Proofs.Ytlbhjkbjokiioaa.X Go.Proofs.YtlbhjkbjokiioaaW.PrintWords Go.Proofs.YtlbhjkbjokiioaaW.PrintLast Go.Proofs.Ytlbhjkbjokiioaa.Big
theorem sub_alg (A p x y va vb ai c d : Int) (e : ai + 65536 - c - d = x + 65536 * y) : A + p * x + 65536 * p * (va - (1 - y) - vb) = A + p * (ai + 65536 * va - c - (d + 65536 * vb)) := by
  have h : ai = x + 65536 * y - 65536 + c + d := by omega
  subst h
  clear e
  simp only [Int.mul_sub, Int.mul_add, Int.mul_one, Int.mul_assoc, Int.mul_left_comm p 65536]
  omega
theorem sub_go (a b : List Int) (da : Digits a) (db : Digits b) (la : a.length ≤ 1000) (D : Int) (hD : 0 ≤ D) : ∀ (f i : Nat) (out : List Int) (c : Int),
    Digits out → out.length = i → 0 ≤ c → c ≤ 1 → i ≤ a.length → a.length - i = f → val out + P i * (val (a.drop i) - c - val (b.drop i)) = D →
    ∃ r, Ev (fun k => q17q.l0 k a b out c (i : Int)) r ∧ IsBig r D ∧ r.length ≤ a.length := by
  intro f
  induction f with
  | zero =>
    intro i out c dout hi c0 c1 hia hf hv
    obtain ⟨r, he, hb, hr⟩ := trim_ev (l := out) (by omega) dout
    have e : val out = D := by
      rw [q27q (l := a) (by omega)] at hv
      have h1 := val_lt dout
      have h2 := val_nonneg (db.drop i)
      rw [hi] at h1
      by_cases z : c + val (b.drop i) = 0
      · have z1 : (0 : Int) - c - val (b.drop i) = 0 := by omega
        rw [z1] at hv; omega
      · have : P i * (0 - c - val (b.drop i)) ≤ P i * (-1) := Int.mul_le_mul_of_nonneg_left (by omega) (by have := P_pos i; omega)
        omega
    refine ⟨r, ?_, e ▸ hb, by omega⟩
    refine Ev.step (f := fun k => (q7q.f k out).bind fun t => some t) (fun k => ?_) (Ev.bind he (Ev.now _))
    simp only [q17q.l0]
    rw [if_neg (by omega)]
  | succ f ih =>
    intro i out c dout hi c0 c1 hia hf hv
    have ha : i < a.length := by clear hv ih; omega
    have hf' : a.length - (i + 1) = f := by clear hv ih; omega
    have hi' : i + 1 ≤ a.length := by clear hv ih; omega
    clear hf hia
    have ga := da.get i
    have gb := db.get i
    have ew : wrap64 ((i : Int) + 1) = ((i + 1 : Nat) : Int) := by rw [w64 (by omega) (by omega)]; omega
    have va := val_drop ha
    have go : ∀ d : Int, 0 ≤ d → d < 65536 → val (b.drop i) = d + 65536 * val (b.drop (i + 1)) →
        (∀ k, q17q.l0 (k + 1) a b out c i = q17q.l0 k a b (out ++ [(a.getD i 0 + 65536 - c - d) % 65536]) (1 - (a.getD i 0 + 65536 - c - d) / 65536) (i + 1 : Nat)) →
        ∃ r, Ev (fun k => q17q.l0 k a b out c (i : Int)) r ∧ IsBig r D ∧ r.length ≤ a.length := by
      intro d d0 d1 vb hl
      obtain ⟨r, he, hb, hr⟩ := ih (i + 1) (out ++ [(a.getD i 0 + 65536 - c - d) % 65536]) (1 - (a.getD i 0 + 65536 - c - d) / 65536)
        (dout.append (Digits.nil.cons (by omega) (by omega))) (by simp [hi]) (by clear hv va vb; omega) (by clear hv va vb; omega) hi' hf' (by
          rw [val_append, hi, P_succ, ← hv, va, vb]
          have e1 : val [(a.getD i 0 + 65536 - c - d) % 65536] = (a.getD i 0 + 65536 - c - d) % 65536 := by simp [val]
          rw [e1]
          exact sub_alg _ _ _ _ _ _ _ _ _ (by clear hv va vb; omega))
      exact ⟨r, Ev.step hl he, hb, hr⟩
    clear hv ih
    by_cases hb : i < b.length
    · refine go (b.getD i 0) (by omega) (by omega) (val_drop hb) (fun k => ?_)
      simp only [q17q.l0]
      rw [if_pos (by omega), if_pos (by omega), if_pos (by omega), if_pos (by omega), rd_nat, rd_nat, u64 (x := a.getD i 0 + 65536) (by omega) (by omega), u64 (x := a.getD i 0 + 65536 - c) (by omega) (by omega), u64 (x := a.getD i 0 + 65536 - c - b.getD i 0) (by omega) (by omega), td (by omega), tm (by omega), u64 (x := (a.getD i 0 + 65536 - c - b.getD i 0) / 65536) (by omega) (by omega), u64 (by omega) (by omega), ew]
    · refine go 0 (by omega) (by omega) (by have z1 := q27q (l := b) (i := i) (by omega); have z2 := q27q (l := b) (i := i + 1) (by omega); omega) (fun k => ?_)
      simp only [q17q.l0, Int.sub_zero]
      rw [if_pos (by omega), if_pos (by omega), if_neg (by omega), if_pos (by omega), rd_nat, u64 (x := a.getD i 0 + 65536) (by omega) (by omega), u64 (x := a.getD i 0 + 65536 - c) (by omega) (by omega), td (by omega), tm (by omega), u64 (x := (a.getD i 0 + 65536 - c) / 65536) (by omega) (by omega), u64 (by omega) (by omega), ew]
theorem sub_ev {a b : List Int} {m n : Int} (ha : IsBig a m) (hb : IsBig b n) (la : a.length ≤ 1000) (h : n ≤ m) :
    ∃ r, Ev (fun k => q17q.f k a b) r ∧ IsBig r (m - n) ∧ r.length ≤ a.length :=
  sub_go a b ha.1 hb.1 la (m - n) (by omega) a.length 0 [] 0 Digits.nil rfl (by omega) (by omega) (by omega) (by omega) (by
    simp only [val, P_zero, List.drop_zero, ha.2.2, hb.2.2]; omega)
end Go.Proofs.Ytlbhjkbjokiioaa.PBig
end
section
namespace Go.Proofs.Ytlbhjkbjokiioaa.PBig
open Go Go.RowKit Go.Proofs.Ytlbhjkbjokiioaa.X Go.Proofs.YtlbhjkbjokiioaaW.PrintWords Go.Proofs.YtlbhjkbjokiioaaW.PrintLast Go.Proofs.Ytlbhjkbjokiioaa.Big
theorem sq_bd {x y : Int} (x0 : 0 ≤ x) (x1 : x < 65536) (y0 : 0 ≤ y) (y1 : y < 65536) : 0 ≤ x * y ∧ x * y ≤ 4294836225 := by
  constructor
  · exact Int.mul_nonneg x0 y0
  · have h1 : x * y ≤ x * 65535 := Int.mul_le_mul_of_nonneg_left (by omega) x0
    omega
theorem mul_alg (A p o c ai bk vb x y : Int) (e : o + c + ai * bk = x + 65536 * y) : A + (x - o) * p + 65536 * p * y + 65536 * p * (ai * vb) = A + p * c + p * (ai * (bk + 65536 * vb)) := by
  have e1 : (x - o) * p = p * c + p * (ai * bk) - 65536 * (p * y) := by
    rw [show x - o = c + ai * bk - 65536 * y by omega, Int.mul_comm]
    simp only [Int.mul_sub, Int.mul_add, Int.mul_left_comm p 65536]
  have e2 : 65536 * p * y = 65536 * (p * y) := Int.mul_assoc _ _ _
  have e3 : 65536 * p * (ai * vb) = 65536 * (p * (ai * vb)) := Int.mul_assoc _ _ _
  have e4 : p * (ai * (bk + 65536 * vb)) = p * (ai * bk) + 65536 * (p * (ai * vb)) := by
    simp only [Int.mul_add, Int.mul_left_comm ai 65536, Int.mul_left_comm p 65536]
  omega
theorem mul_alg0 (A p c ai x y : Int) (e : c = x + 65536 * y) : A + (x - 0) * p + 65536 * p * y + 65536 * p * (ai * 0) = A + p * c + p * (ai * 0) := by
  subst e
  have e1 : (x - 0) * p = p * x := by rw [Int.sub_zero, Int.mul_comm]
  have e2 : 65536 * p * y = 65536 * (p * y) := Int.mul_assoc _ _ _
  have e3 : p * (x + 65536 * y) = p * x + 65536 * (p * y) := by simp only [Int.mul_add, Int.mul_left_comm p 65536]
  simp only [Int.mul_zero]
  omega
def Same (a b : Int) : Prop := a = b
theorem ex_step {Q : List Int → Prop} {g f : Nat → Option (List Int)} (h : ∀ k, g (k + 1) = f k) (k : ∃ r, Ev f r ∧ Q r) : ∃ r, Ev g r ∧ Q r := by
  obtain ⟨r, he, hq⟩ := k
  exact ⟨r, Ev.step h he, hq⟩
theorem mul_row (a b : List Int) (da : Digits a) (db : Digits b) (la : a.length ≤ 1000) (lb : b.length ≤ 1000) (i : Nat) (hi : i < a.length) (V : Int) (Q : List Int → Prop) :
    ∀ (f k : Nat) (out : List Int) (c : Int), Digits out → out.length = a.length + b.length + 1 → 0 ≤ c → c < 65536 → k ≤ b.length + 1 → (c > 0 → k ≤ b.length) → k + f = b.length + 1 →
      (∀ j, i + k ≤ j → i + b.length ≤ j → out.getD j 0 = 0) → Same (val out + P (i + k) * c + P (i + k) * (a.getD i 0 * val (b.drop k))) V →
      (∀ o : List Int, Digits o → o.length = a.length + b.length + 1 → val o = V → ∃ r, Ev (fun q => q4q.l0 q a b o ((i + 1 : Nat) : Int)) r ∧ Q r) →
      ∃ r, Ev (fun q => q4q.l1 q a b out (i : Int) c (k : Int)) r ∧ Q r := by
  intro f
  induction f with
  | zero =>
    intro k out c dout ho c0 c1 hk hck hf hz hv hend
    have z : c = 0 := by omega
    subst z
    have ew : wrap64 ((i : Int) + 1) = ((i + 1 : Nat) : Int) := by rw [w64 (by omega) (by omega)]; omega
    refine ex_step (f := fun q => q4q.j2 q a b out i 0 k false) (fun q => ?_) (ex_step (fun q => ?_) (hend out dout ho ?_))
    · simp only [q4q.l1]
      rw [if_neg (by omega), decide_eq_false (by omega)]
    · simp only [q4q.j2, ew]
      rw [if_neg (by simp)]
    · have h2 : _ = V := hv
      rw [q27q (by omega)] at h2; simpa using h2
  | succ f ih =>
    intro k out c dout ho c0 c1 hk hck hf hz hv hend
    have ew : wrap64 ((i : Int) + 1) = ((i + 1 : Nat) : Int) := by rw [w64 (by omega) (by omega)]; omega
    have ek : wrap64 ((k : Int) + 1) = ((k + 1 : Nat) : Int) := by rw [w64 (by omega) (by omega)]; omega
    have eik : wrap64 ((i : Int) + (k : Int)) = ((i + k : Nat) : Int) := by rw [w64 (by omega) (by omega)]; omega
    have go := dout.get (i + k)
    have ga := da.get i
    by_cases hb : k < b.length
    · have gb := db.get k
      have vb := val_drop hb
      obtain ⟨s0, s1⟩ := sq_bd ga.1 ga.2 gb.1 gb.2
      have n1 := ih (k + 1) (out.set (i + k) ((out.getD (i + k) 0 + c + a.getD i 0 * b.getD k 0) % 65536)) ((out.getD (i + k) 0 + c + a.getD i 0 * b.getD k 0) / 65536)
        (dout.set _ (by omega) (by omega)) (by simpa using ho) (by omega) (by omega) (by omega) (by omega) (by omega)
        (fun j h1 h2 => by rw [List.getD_eq_getElem?_getD, List.getElem?_set_ne (by omega), ← List.getD_eq_getElem?_getD]; exact hz j (by omega) h2) (by
          have h2 : _ = V := hv
          show _ = V
          rw [val_set (by omega), ← h2, vb, show i + (k + 1) = i + k + 1 by omega, P_succ]
          exact mul_alg _ _ _ _ _ _ _ _ _ (by omega)) hend
      refine ex_step (f := fun q => q4q.j2 q a b out i c k true) (fun q => ?_) (ex_step (fun q => ?_) n1)
      · simp only [q4q.l1]
        rw [if_pos (by omega)]
      · simp only [q4q.j2, eik, ek, rd_nat]
        rw [if_pos trivial, if_pos (by omega), if_pos (by omega), if_pos (by omega), if_pos (by omega), if_pos (by omega), if_pos (by omega), Int.toNat_natCast,
          u64 (x := out.getD (i + k) 0 + c) (by omega) (by omega), u64 (x := a.getD i 0 * b.getD k 0) (by omega) (by omega), u64 (x := out.getD (i + k) 0 + c + a.getD i 0 * b.getD k 0) (by omega) (by omega), td (by omega), tm (by omega), u64 (by omega) (by omega)]
    · have vb := q27q (l := b) (i := k) (by omega)
      have vb2 := q27q (l := b) (i := k + 1) (by omega)
      have oz : out.getD (i + k) 0 = 0 := hz (i + k) (Nat.le_refl _) (by omega)
      by_cases cz : c > 0
      · have n1 := ih (k + 1) (out.set (i + k) (c % 65536)) (c / 65536)
          (dout.set _ (by omega) (by omega)) (by simpa using ho) (by omega) (by omega) (by have := hck cz; omega) (by omega) (by omega)
          (fun j h1 h2 => by rw [List.getD_eq_getElem?_getD, List.getElem?_set_ne (by omega), ← List.getD_eq_getElem?_getD]; exact hz j (by omega) h2) (by
            have := hck cz
            have h2 : _ = V := hv
            show _ = V
            rw [val_set (by omega), ← h2, vb, vb2, oz, show i + (k + 1) = i + k + 1 by omega, P_succ]
            exact mul_alg0 _ _ _ _ _ _ (by omega)) hend
        refine ex_step (f := fun q => q4q.j2 q a b out i c k true) (fun q => ?_) (ex_step (fun q => ?_) n1)
        · simp only [q4q.l1]
          rw [if_neg (by omega), decide_eq_true cz]
        · have := hck cz
          simp only [q4q.j2, eik, ek, rd_nat, oz]
          rw [if_pos trivial, if_pos (by omega), if_pos (by omega), if_neg (by omega), Int.toNat_natCast, Int.zero_add, u64 (x := c) (by omega) (by omega), td (by omega), tm (by omega), u64 (by omega) (by omega)]
      · have z : c = 0 := by omega
        subst z
        refine ex_step (f := fun q => q4q.j2 q a b out i 0 k false) (fun q => ?_) (ex_step (fun q => ?_) (hend out dout ho ?_))
        · simp only [q4q.l1]
          rw [if_neg (by omega), decide_eq_false (by omega)]
        · simp only [q4q.j2, ew]
          rw [if_neg (by simp)]
        · have h2 : _ = V := hv
          rw [vb] at h2; simpa using h2
theorem mul_go (a b : List Int) (da : Digits a) (db : Digits b) (la : a.length ≤ 1000) (lb : b.length ≤ 1000) : ∀ (f i : Nat) (out : List Int), i + f = a.length → Digits out → out.length = a.length + b.length + 1 → Same (val out) (val (a.take i) * val b) →
    ∃ r, Ev (fun q => q4q.l0 q a b out (i : Int)) r ∧ IsBig r (val a * val b) ∧ r.length ≤ a.length + b.length + 1 := by
  intro f
  induction f with
  | zero =>
    intro i out hi dout ho hv
    have e : a.take i = a := by rw [List.take_of_length_le (by omega)]
    have h2 : _ = _ := hv
    rw [e] at h2
    obtain ⟨r, he, hb, hr⟩ := trim_ev (l := out) (by omega) dout
    refine ⟨r, Ev.step (f := fun k => (q7q.f k out).bind fun t => some t) (fun k => ?_) (Ev.bind he (Ev.now _)), h2 ▸ hb, by omega⟩
    simp only [q4q.l0]
    rw [if_neg (by omega)]
  | succ f ih =>
    intro i out hi dout ho hv
    have hlt : i < a.length := by omega
    have hbound : val out < P (i + b.length) := by
      have h2 : _ = _ := hv
      rw [h2, P_add]
      have h1 := val_lt (da.take i)
      have h2 := val_lt db
      have h3 := val_nonneg (da.take i)
      have h4 := val_nonneg db
      have h5 := P_pos i
      rw [List.length_take, Nat.min_eq_left (by omega)] at h1
      have h6 : val (a.take i) * val b ≤ P i * val b := Int.mul_le_mul_of_nonneg_right (by omega) h4
      have h7 : P i * (val b + 1) ≤ P i * P b.length := Int.mul_le_mul_of_nonneg_left (by omega) (by omega)
      rw [Int.mul_add] at h7
      clear h2 hv ih
      omega
    obtain ⟨r, he, hq⟩ := mul_row a b da db la lb i hlt (val (a.take (i + 1)) * val b) (fun r => IsBig r (val a * val b) ∧ r.length ≤ a.length + b.length + 1) (b.length + 1) 0 out 0 dout ho (by omega) (by omega) (by omega) (by omega) (by omega)
      (fun j _ h2 => digit_zero dout hbound h2) (by
        have h2 : _ = _ := hv
        show _ = _
        rw [val_take_succ hlt, h2, Nat.add_zero, List.drop_zero, Int.mul_zero, Int.add_zero, Int.add_mul, Int.mul_assoc]) (fun o d0 h0 v0 => ih (i + 1) o (by omega) d0 h0 v0)
    refine ⟨r, Ev.step (f := fun q => q4q.l1 q a b out i 0 0) (fun q => ?_) he, hq⟩
    simp only [q4q.l0]
    rw [if_pos (by omega)]
theorem mul_ev {a b : List Int} {m n : Int} (ha : IsBig a m) (hb : IsBig b n) (la : a.length ≤ 1000) (lb : b.length ≤ 1000) :
    ∃ r, Ev (fun k => q4q.f k a b) r ∧ IsBig r (m * n) ∧ r.length ≤ a.length + b.length + 1 := by
  obtain ⟨r, he, h, hr⟩ := mul_go a b ha.1 hb.1 la lb a.length 0 (List.replicate (a.length + b.length + 1) 0) (by omega) (Digits.zeros _) (by simp) (by show _ = _; rw [val_zeros]; simp [val])
  rw [ha.2.2, hb.2.2] at h
  refine ⟨r, Ev.congr (fun k => ?_) he, h, hr⟩
  unfold q4q.f
  have e1 : wrap64 ((a.length : Int) + (b.length : Int)) = ((a.length + b.length : Nat) : Int) := by rw [w64 (by omega) (by omega)]; omega
  have e2 : wrap64 (((a.length + b.length : Nat) : Int) + 1) = ((a.length + b.length + 1 : Nat) : Int) := by rw [w64 (by omega) (by omega)]; omega
  rw [e1, e2, if_pos (by omega), Int.toNat_natCast, if_pos (by omega)]
  rfl
end Go.Proofs.Ytlbhjkbjokiioaa.PBig
end
section
namespace Go.Proofs.Ytlbhjkbjokiioaa.PBig
open Go Go.RowKit Go.Proofs.Ytlbhjkbjokiioaa.X Go.Proofs.YtlbhjkbjokiioaaW.PrintWords Go.Proofs.YtlbhjkbjokiioaaW.PrintLast Go.Proofs.Ytlbhjkbjokiioaa.Big
theorem ex_step2 {α : Type} {Q : α → Prop} {g f : Nat → Option α} (h : ∀ k, g (k + 1) = f k) (k : ∃ r, Ev f r ∧ Q r) : ∃ r, Ev g r ∧ Q r := by
  obtain ⟨r, he, hq⟩ := k
  exact ⟨r, Ev.step h he, hq⟩
theorem div_row (a b q rest : List Int) (vb R : Int) (hb : IsBig b vb) (hr : IsBig rest R) (lb : b.length ≤ 900) (lr : rest.length ≤ 1000) (i : Nat) (hi : i < q.length) (hq : q.length ≤ 1000) (Q : List Int × List Int → Prop)
    (hend : ∀ (d : Int) (rest' : List Int), 0 ≤ d → d < 65536 → IsBig rest' (R - d * vb) → R - d * vb < vb → ∃ r, Ev (fun k => q9q.l0 k a b (q.set i d) rest' ((i : Int) - 1)) r ∧ Q r) :
    ∀ (n : Nat) (lo hi : Int), 0 ≤ lo → lo < hi → hi ≤ 65536 → hi - lo ≤ 2 ^ n → lo * vb ≤ R → R < hi * vb → ∃ r, Ev (fun k => q9q.l1 k a b q rest (i : Int) lo hi) r ∧ Q r := by
  intro n
  induction n with
  | zero =>
    intro lo hi0 l0 l1 l2 l3 l4 l5
    have e : hi0 = lo + 1 := by simp at l3; omega
    subst e
    obtain ⟨x, ex, bx, lx⟩ := of_ev l0 (by omega)
    obtain ⟨y, ey, by_, ly⟩ := mul_ev bx hb (by omega) (by omega)
    obtain ⟨z, ez, bz, lz⟩ := sub_ev hr by_ lr l4
    have ew : wrap64 ((i : Int) - 1) = (i : Int) - 1 := w64 (by omega) (by omega)
    have l6 : R - lo * vb < vb := by rw [Int.add_mul, Int.one_mul] at l5; omega
    obtain ⟨r, he, hQ⟩ := hend lo z l0 (by omega) bz l6
    refine ex_step2 (f := fun k => (q13q.f k lo).bind fun t204 => (q4q.f k t204 b).bind fun t207 => (q17q.f k rest t207).bind fun t210 => q9q.l0 k a b (q.set i lo) t210 ((i : Int) - 1)) (fun k => ?_) ⟨r, Ev.bind ex (Ev.bind ey (Ev.bind ez he)), hQ⟩
    simp only [q9q.l1]
    rw [u64 (x := lo + 1 - lo) (by omega) (by omega), if_neg (by omega), if_pos (by omega), if_pos (by omega), Int.toNat_natCast, ew]
  | succ n ih =>
    intro lo hi0 l0 l1 l2 l3 l4 l5
    by_cases c : hi0 - lo > 1
    · have m0 : lo < (lo + hi0) / 2 := by omega
      have m1 : (lo + hi0) / 2 < hi0 := by omega
      have p : (2 : Int) ^ (n + 1) = 2 * 2 ^ n := by rw [Int.pow_succ]; omega
      rw [p] at l3
      obtain ⟨x, ex, bx, lx⟩ := of_ev (n := (lo + hi0) / 2) (by omega) (by omega)
      obtain ⟨y, ey, by_, ly⟩ := mul_ev bx hb (by omega) (by omega)
      obtain ⟨cc, ec, c1, c2⟩ := compare_ev by_ hr (by omega) (by omega)
      have run : ∀ k, q9q.l1 (k + 1) a b q rest (i : Int) lo hi0 = (q13q.f k ((lo + hi0) / 2)).bind fun t213 => (q4q.f k t213 b).bind fun t216 => (q11q.f k t216 rest).bind fun t219 => if t219 ≤ 0 then q9q.l1 k a b q rest i ((lo + hi0) / 2) hi0 else q9q.l1 k a b q rest i lo ((lo + hi0) / 2) := by
        intro k
        simp only [q9q.l1]
        rw [u64 (x := hi0 - lo) (by omega) (by omega), if_pos c, u64 (x := lo + hi0) (by omega) (by omega), td (by omega), u64 (x := (lo + hi0) / 2) (by omega) (by omega)]
      by_cases le : cc ≤ 0
      · have g : (lo + hi0) / 2 * vb ≤ R := by omega
        obtain ⟨r, he, hQ⟩ := ih ((lo + hi0) / 2) hi0 (by omega) m1 l2 (by omega) g l5
        refine ex_step2 run ⟨r, Ev.bind ex (Ev.bind ey (Ev.bind ec ?_)), hQ⟩
        simp only [if_pos le]; exact he
      · have g : R < (lo + hi0) / 2 * vb := by omega
        obtain ⟨r, he, hQ⟩ := ih lo ((lo + hi0) / 2) l0 m0 (by omega) (by omega) l4 g
        refine ex_step2 run ⟨r, Ev.bind ex (Ev.bind ey (Ev.bind ec ?_)), hQ⟩
        simp only [if_neg le]; exact he
    · exact ih lo hi0 l0 l1 l2 (by have h : (0 : Int) < 2 ^ n := Int.pow_pos (by decide); omega) l4 l5
theorem div_alg (d V W vb R ai : Int) : ai + 65536 * (V * vb + R) = (d + 65536 * V) * vb + (ai + 65536 * R - d * vb) + 0 * W := by
  rw [Int.add_mul, Int.mul_add, Int.mul_assoc, Int.zero_mul]; omega
theorem div_go (a b : List Int) (da : Digits a) (la : a.length ≤ 800) (vb : Int) (hb : IsBig b vb) (_hp : 0 < vb) (lb : b.length ≤ 900) : ∀ (n : Nat) (q rest : List Int) (R : Int), n ≤ a.length → Digits q → q.length = a.length → IsBig rest R → R < vb → Same (val (a.drop n)) (val (q.drop n) * vb + R) →
    ∃ r : List Int × List Int, Ev (fun k => q9q.l0 k a b q rest ((n : Int) - 1)) r ∧ (∃ x R', IsBig r.1 x ∧ IsBig r.2 R' ∧ R' < vb ∧ val a = x * vb + R' ∧ r.1.length ≤ a.length) := by
  intro n
  induction n with
  | zero =>
    intro q rest R hn dq hq hr hR hv
    obtain ⟨t, et, bt, lt⟩ := trim_ev (l := q) (by omega) dq
    refine ⟨(t, rest), ?_, val q, R, bt, hr, hR, hv, by simpa [hq] using lt⟩
    refine Ev.step (f := fun k => (q7q.f k q).bind fun t190 => some (t190, rest)) (fun k => ?_) (Ev.bind et (Ev.now _))
    simp only [q9q.l0]
    rw [if_neg (by omega)]
  | succ n ih =>
    intro q rest R hn dq hq hr hR hv
    have ga := da.get n
    have R0 := hr.nonneg
    have e : ((n + 1 : Nat) : Int) - 1 = (n : Int) := by omega
    have vlt := val_lt hb.1
    rw [hb.2.2] at vlt
    have rl : rest.length ≤ b.length := hr.len_le (by omega)
    obtain ⟨t, et, bt, lt⟩ := trim_ev (l := [a.getD n 0] ++ rest) (by simp; omega) ((Digits.nil.cons ga.1 ga.2).append hr.1)
    have vt : val ([a.getD n 0] ++ rest) = a.getD n 0 + 65536 * R := by simp [val, hr.2.2]
    rw [vt] at bt
    have row := div_row a b q t vb (a.getD n 0 + 65536 * R) hb bt lb (by simp at lt; omega) n (by omega) (by omega) (fun r => ∃ x R', IsBig r.1 x ∧ IsBig r.2 R' ∧ R' < vb ∧ val a = x * vb + R' ∧ r.1.length ≤ a.length)
      (fun d rest' d0 d1 hb' hlt => ih (q.set n d) rest' _ (by omega) (dq.set n d0 d1) (by simpa using hq) hb' hlt (by
        have h2 : _ = _ := hv
        show _ = _
        rw [val_drop (l := a) (i := n) (by omega), val_drop (l := q.set n d) (i := n) (by simp; omega), h2]
        have e1 : (q.set n d).getD n 0 = d := by
          rw [List.getD_eq_getElem?_getD, List.getElem?_set_self (by omega)]; rfl
        have e2 : (q.set n d).drop (n + 1) = q.drop (n + 1) := by rw [List.drop_set_of_lt (by omega)]
        rw [e1, e2]
        have h3 := div_alg d (val (q.drop (n + 1))) 0 vb R (a.getD n 0)
        rw [h3]; omega))
      16 0 65536 (by omega) (by omega) (by omega) (by decide) (by omega) (by omega)
    obtain ⟨r, he, hQ⟩ := row
    rw [e]
    refine ex_step2 (f := fun k => (q7q.f k ([a.getD n 0] ++ rest)).bind fun t200 => q9q.l1 k a b q t200 n 0 65536) (fun k => ?_) ⟨r, Ev.bind et he, hQ⟩
    simp only [q9q.l0, Option.bind_some, rd_nat, List.length_singleton]
    rw [if_pos (by omega), if_pos (by omega), if_pos (by omega), if_pos (by omega)]
theorem div_ev {a b : List Int} {m n : Int} (ha : IsBig a m) (hb : IsBig b n) (hp : 0 < n) (la : a.length ≤ 800) (lb : b.length ≤ 900) :
    ∃ x y, Ev (fun k => q9q.f k a b) (x, y) ∧ IsBig x (m / n) ∧ IsBig y (m % n) ∧ x.length ≤ a.length := by
  obtain ⟨⟨x, y⟩, he, v, R, bx, by_, hR, hv, hl⟩ := div_go a b ha.1 la n hb hp lb a.length (List.replicate a.length 0) [] 0 (Nat.le_refl _) (Digits.zeros _) (by simp) IsBig.nil hp (by
    show _ = _
    rw [q27q (Nat.le_refl _), q27q (by simp)]; simp)
  rw [ha.2.2] at hv
  have R0 := by_.nonneg
  have q : m / n = v := by
    rw [hv, Int.mul_comm, Int.add_comm, Int.add_mul_ediv_left _ _ (by omega), Int.ediv_eq_zero_of_lt R0 hR]; omega
  have r : m % n = R := by
    rw [hv, Int.mul_comm, Int.add_comm, Int.add_mul_emod_self_left, Int.emod_eq_of_lt R0 hR]
  refine ⟨x, y, Ev.congr (fun k => ?_) he, q ▸ bx, r ▸ by_, hl⟩
  unfold q9q.f
  rw [if_pos (by omega), Int.toNat_natCast, if_pos (by omega), w64 (by omega) (by omega)]
theorem halves_go (l : List Int) (d : Digits l) (hl : l.length ≤ 8) : ∀ n, n ≤ l.length → ∀ hi lo : Int, (n < 4 → 0 ≤ hi) → (hi = val ((l.drop n).drop (4 - n)) ∧ lo = val (((l.take 4).drop n))) →
    Ev (fun k => q19q.l0 k l hi lo ((n : Int) - 1)) (val (l.drop 4), val (l.take 4), true)
  | 0, _, hi, lo, _, ⟨h1, h2⟩ => by
    have e1 : hi = val (l.drop 4) := by rw [h1]; simp
    have e2 : lo = val (l.take 4) := by rw [h2]; simp
    subst e1; subst e2
    refine Ev.step (f := fun _ => some _) (fun k => ?_) (Ev.now _)
    simp only [q19q.l0]
    rw [if_neg (by omega)]
  | n + 1, hn, hi, lo, hh, ⟨h1, h2⟩ => by
    have g := d.get n
    have e : ((n + 1 : Nat) : Int) - 1 = (n : Int) := by omega
    have ew : wrap64 ((n : Int) - 1) = (n : Int) - 1 := w64 (by omega) (by omega)
    rw [e]
    have bnd : ∀ x : List Int, Digits x → x.length ≤ 3 → 0 ≤ val x ∧ val x < 281474976710656 := by
      intro x dx lx
      have h := val_lt dx
      have k := P_le lx
      have : P 3 = 281474976710656 := by decide
      exact ⟨val_nonneg dx, by omega⟩
    by_cases c : 4 ≤ n
    · have hv : hi = val (l.drop (n + 1)) := by rw [h1, show 4 - (n + 1) = 0 by omega, List.drop_zero]
      have b := bnd (l.drop (n + 1)) (d.drop _) (by rw [List.length_drop]; omega)
      refine Ev.step (f := fun k => q19q.l0 k l (hi * 65536 + l.getD n 0) lo ((n : Int) - 1)) (fun k => ?_) (halves_go l d hl n (by omega) _ lo (by omega) ⟨?_, ?_⟩)
      · simp only [q19q.l0, rd_nat, ew]
        rw [if_pos (by omega), if_pos (by omega), if_pos (by omega), if_pos (by omega), u64 (x := hi * 65536) (by omega) (by omega), u64 (by omega) (by omega)]
      · rw [show 4 - n = 0 by omega, List.drop_zero, val_drop (by omega), hv]; omega
      · rw [h2, List.drop_of_length_le (by rw [List.length_take]; omega), List.drop_of_length_le (by rw [List.length_take]; omega)]
    · have ht : n < (l.take 4).length := by rw [List.length_take]; omega
      have gt : (l.take 4).getD n 0 = l.getD n 0 := by
        rw [List.getD_eq_getElem?_getD, List.getD_eq_getElem?_getD, List.getElem?_take_of_lt (by omega)]
      have b := bnd ((l.take 4).drop (n + 1)) ((d.take 4).drop _) (by rw [List.length_drop, List.length_take]; omega)
      refine Ev.step (f := fun k => q19q.l0 k l hi (lo * 65536 + l.getD n 0) ((n : Int) - 1)) (fun k => ?_) (halves_go l d hl n (by omega) hi _ ?_ ⟨?_, ?_⟩)
      · simp only [q19q.l0, rd_nat, ew]
        rw [if_pos (by omega), if_neg (by omega), if_pos (by omega), if_pos (by omega), u64 (x := lo * 65536) (by omega) (by omega), u64 (by omega) (by omega)]
      · intro _; rw [h1]; exact val_nonneg ((d.drop _).drop _)
      · rw [h1, List.drop_drop, List.drop_drop, show n + 1 + (4 - (n + 1)) = n + (4 - n) by omega]
      · rw [val_drop ht, gt, h2]; omega
theorem halves_ev {l : List Int} {n : Int} (h : IsBig l n) (hl : l.length ≤ 8) : Ev (fun k => q19q.f k l) (n / 18446744073709551616, n % 18446744073709551616, true) := by
  have g := halves_go l h.1 hl l.length (Nat.le_refl _) 0 0 (by omega) (by
    constructor
    · rw [List.drop_of_length_le (Nat.le_refl _), List.drop_nil]; rfl
    · rw [List.drop_of_length_le (by rw [List.length_take]; omega)]; rfl)
  have lo0 := val_nonneg (h.1.take 4)
  have lo1 := val_lt (h.1.take 4)
  have p := P_le (show (l.take 4).length ≤ 4 by rw [List.length_take]; omega)
  have p4 : P 4 = 18446744073709551616 := by decide
  have s : n = val (l.take 4) + 18446744073709551616 * val (l.drop 4) := by
    by_cases c : 4 ≤ l.length
    · have := val_split l c
      rw [h.2.2, p4] at this; exact this
    · rw [List.take_of_length_le (by omega), q27q (by omega), h.2.2]; omega
  have e1 : n / 18446744073709551616 = val (l.drop 4) := by omega
  have e2 : n % 18446744073709551616 = val (l.take 4) := by omega
  rw [e1, e2]
  refine Ev.congr (fun k => ?_) g
  unfold q19q.f
  rw [if_neg (by omega), w64 (by omega) (by omega)]
theorem size_ev {n : Int} (h0 : -9223372036854775808 ≤ n) (h1 : n ≤ 9223372036854775807) : ∃ r, Ev (fun k => q23q.f k n) r ∧ IsBig r (n.natAbs : Int) ∧ r.length ≤ 4 := by
  unfold q23q.f
  by_cases c : n = -9223372036854775808
  · subst c
    obtain ⟨r, he, hb, hl⟩ := of_ev (n := 9223372036854775808) (by omega) (by omega)
    refine ⟨r, ?_, hb, hl⟩
    simp only [if_true]
    exact Ev.bind he (Ev.now _)
  · by_cases d : n < 0
    · obtain ⟨r, he, hb, hl⟩ := of_ev (n := -n) (by omega) (by omega)
      refine ⟨r, ?_, by rw [show ((n.natAbs : Nat) : Int) = -n by omega]; exact hb, hl⟩
      simp only [if_neg c, if_pos d]
      rw [w64 (by omega) (by omega), u64 (by omega) (by omega)]
      exact Ev.bind he (Ev.now _)
    · obtain ⟨r, he, hb, hl⟩ := of_ev (n := n) (by omega) (by omega)
      refine ⟨r, ?_, by rw [show ((n.natAbs : Nat) : Int) = n by omega]; exact hb, hl⟩
      simp only [if_neg c, if_neg d]
      rw [u64 (by omega) (by omega)]
      exact Ev.bind he (Ev.now _)
end Go.Proofs.Ytlbhjkbjokiioaa.PBig
end
