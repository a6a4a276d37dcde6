-- a shortened text: what this claim does not name is left out (wip/xprint/prune.py of this repo)
import Derived.Test.YtlbhjkbjokiioaaBigV
import Derived.Test.YtlbhjkbjokiioaaX5
import Derived.Test.YtlbhjkbjokiioaaX6
import Derived.Test.YtlbhjkbjokiioaaX7
namespace Go.Proofs.Ytlbhjkbjokiioaa.PBig
open Go Go.RowKit Go.Proofs.Ytlbhjkbjokiioaa.X Go.Proofs.YtlbhjkbjokiioaaW.PrintWords Go.Proofs.YtlbhjkbjokiioaaW.PrintLast Go.Proofs.Ytlbhjkbjokiioaa.Big
theorem w64 {x : Int} (h0 : -9223372036854775808 ≤ x) (h1 : x ≤ 9223372036854775807) : wrap64 x = x := by unfold wrap64; omega
theorem u64 {x : Int} (h0 : 0 ≤ x) (h1 : x ≤ 18446744073709551615) : IntKind.u64.wrap x = x := IntWalk.u64_in x ⟨h0, h1⟩
theorem tm {x y : Int} (h : 0 ≤ x) : Int.tmod x y = x % y := Int.tmod_eq_emod_of_nonneg h
theorem td {x y : Int} (h : 0 ≤ x) : Int.tdiv x y = x / y := Int.tdiv_eq_ediv_of_nonneg h
theorem rd_nat (l : List Int) (i : Nat) : rd l (i : Int) = l.getD i 0 := by unfold rd; rw [Int.toNat_natCast]
theorem trim_go (l : List Int) (hl : l.length ≤ 1000000) : ∀ n, n ≤ l.length → ∃ m, m ≤ n ∧ Ev (fun k => lombardref01_trim.l0 k l (n : Int)) (l.take m) ∧ val (l.take m) = val (l.take n) ∧ Trimmed (l.take m)
  | 0, _ => ⟨0, Nat.le_refl _, Ev.step (f := fun _ => some (l.take 0)) (fun k => by
      simp only [lombardref01_trim.l0]
      rw [if_neg (by omega), if_pos (by omega), if_pos (by omega)]
      rfl) (Ev.now _), rfl, by intro h; simp at h⟩
  | n + 1, hn => by
    have e : wrap64 (((n + 1 : Nat) : Int) - 1) = (n : Int) := by rw [w64 (by omega) (by omega)]; omega
    by_cases z : l.getD n 0 = 0
    · obtain ⟨m, hm, he, hv, ht⟩ := trim_go l hl n (by omega)
      refine ⟨m, by omega, Ev.step (fun k => ?_) he, ?_, ht⟩
      · simp only [lombardref01_trim.l0, e, rd_nat]
        rw [if_pos (by omega), if_pos (by omega), if_pos (by omega), if_pos z]
      · rw [hv, val_take_succ (by omega), z]; omega
    · refine ⟨n + 1, Nat.le_refl _, Ev.step (f := fun _ => some (l.take (n + 1))) (fun k => ?_) (Ev.now _), rfl, ?_⟩
      · simp only [lombardref01_trim.l0, e, rd_nat]
        rw [if_pos (by omega), if_pos (by omega), if_pos (by omega), if_neg z, if_pos (by omega), if_pos (by omega), Int.toNat_natCast]
      · intro h
        rw [List.getLast_eq_getElem]
        have e2 : (l.take (n + 1)).length = n + 1 := by rw [List.length_take]; omega
        simp only [e2, Nat.add_sub_cancel, List.getElem_take]
        intro hz
        apply z
        rw [List.getD_eq_getElem?_getD, List.getElem?_eq_getElem (by omega)]
        simpa using hz
theorem trim_ev {l : List Int} (hl : l.length ≤ 1000000) (d : Digits l) : ∃ r, Ev (fun k => lombardref01_trim.f k l) r ∧ IsBig r (val l) ∧ r.length ≤ l.length := by
  obtain ⟨m, hm, he, hv, ht⟩ := trim_go l hl l.length (Nat.le_refl _)
  refine ⟨l.take m, he, ⟨d.take m, ht, ?_⟩, ?_⟩
  · rw [hv, List.take_length]
  · rw [List.length_take]; omega
theorem of_go : ∀ (m : Nat) (n : Int) (acc : List Int), 0 ≤ n → n < P m → n < 18446744073709551616 → acc.length + m ≤ 1000000 →
    ∃ r, Ev (fun k => lombardref01_Of.l0 k n acc) (acc ++ r) ∧ IsBig r n ∧ r.length ≤ m
  | 0, n, acc, h0, h1, _, _ => by
    have : n = 0 := by rw [P_zero] at h1; omega
    subst this
    exact ⟨[], Ev.step (f := fun _ => some (acc ++ [])) (fun k => by simp only [lombardref01_Of.l0]; rw [if_neg (by omega), List.append_nil]) (Ev.now _), IsBig.nil, by simp⟩
  | m + 1, n, acc, h0, h1, h2, h3 => by
    by_cases z : n = 0
    · subst z
      exact ⟨[], Ev.step (f := fun _ => some (acc ++ [])) (fun k => by simp only [lombardref01_Of.l0]; rw [if_neg (by omega), List.append_nil]) (Ev.now _), IsBig.nil, by simp⟩
    · rw [P_succ] at h1
      obtain ⟨r, he, ⟨d, t, v⟩, hr⟩ := of_go m (n / 65536) (acc ++ [n % 65536]) (by omega) (by omega) (by omega) (by simp; omega)
      refine ⟨n % 65536 :: r, Ev.step (f := fun k => lombardref01_Of.l0 k (n / 65536) (acc ++ [n % 65536])) (fun k => ?_) (by simpa using he), ⟨d.cons (by omega) (by omega), ?_, ?_⟩, by simp; omega⟩
      · simp only [lombardref01_Of.l0]
        rw [if_pos (by omega), if_pos (by omega), td h0, tm h0, u64 (by omega) (by omega)]
      · intro h
        cases r with
        | nil => simp only [val] at v; simp only [List.getLast_singleton]; omega
        | cons x xs => rw [List.getLast_cons (by simp)]; exact t (by simp)
      · simp only [val, v]; omega
theorem of_ev {n : Int} (h0 : 0 ≤ n) (h1 : n < 18446744073709551616) : ∃ r, Ev (fun k => lombardref01_Of.f k n) r ∧ IsBig r n ∧ r.length ≤ 4 := by
  obtain ⟨r, he, hb, hr⟩ := of_go 4 n [] h0 (by simpa [P] using h1) h1 (by simp)
  exact ⟨r, he, hb, hr⟩
theorem compare_go (a b : List Int) (da : Digits a) (db : Digits b) (hab : a.length = b.length) (hl : a.length ≤ 1000000) : ∀ n, n ≤ a.length →
    ∃ c : Int, Ev (fun k => lombardref01_Compare.l0 k a b ((n : Int) - 1)) c ∧ (c < 0 ↔ val (a.take n) < val (b.take n)) ∧ (c = 0 ↔ val (a.take n) = val (b.take n))
  | 0, _ => ⟨0, Ev.step (f := fun _ => some 0) (fun k => by simp only [lombardref01_Compare.l0]; rw [if_neg (by omega)]) (Ev.now _), by simp, by simp⟩
  | n + 1, hn => by
    have va := val_take_succ (l := a) (i := n) (by omega)
    have vb := val_take_succ (l := b) (i := n) (by omega)
    have la := val_lt (da.take n)
    have lb := val_lt (db.take n)
    have na := val_nonneg (da.take n)
    have nb := val_nonneg (db.take n)
    rw [List.length_take, Nat.min_eq_left (by omega)] at la lb
    have e : ((n + 1 : Nat) : Int) - 1 = (n : Int) := by omega
    have ew : wrap64 ((n : Int) - 1) = (n : Int) - 1 := w64 (by omega) (by omega)
    rw [va, vb, e]
    have ga := da.get n
    have gb := db.get n
    have p := P_pos n
    by_cases c1 : a.getD n 0 < b.getD n 0
    · refine ⟨-1, Ev.step (f := fun _ => some (-1)) (fun k => ?_) (Ev.now _), ?_, ?_⟩
      · simp only [lombardref01_Compare.l0, rd_nat]
        rw [if_pos (by omega), if_pos (by omega), if_pos (by omega), if_pos (by omega), if_pos c1]
      all_goals
        have : P n * (a.getD n 0 + 1) ≤ P n * b.getD n 0 := Int.mul_le_mul_of_nonneg_left (by omega) (by omega)
        rw [Int.mul_add] at this
        constructor <;> intro _ <;> omega
    · by_cases c2 : a.getD n 0 > b.getD n 0
      · refine ⟨1, Ev.step (f := fun _ => some 1) (fun k => ?_) (Ev.now _), ?_, ?_⟩
        · simp only [lombardref01_Compare.l0, rd_nat]
          rw [if_pos (by omega), if_pos (by omega), if_pos (by omega), if_pos (by omega), if_neg c1, if_pos c2]
        all_goals
          have : P n * (b.getD n 0 + 1) ≤ P n * a.getD n 0 := Int.mul_le_mul_of_nonneg_left (by omega) (by omega)
          rw [Int.mul_add] at this
          constructor <;> intro _ <;> omega
      · obtain ⟨c, he, h1, h2⟩ := compare_go a b da db hab hl n (by omega)
        have q : a.getD n 0 = b.getD n 0 := by omega
        refine ⟨c, Ev.step (fun k => ?_) he, ?_, ?_⟩
        · simp only [lombardref01_Compare.l0, rd_nat, ew]
          rw [if_pos (by omega), if_pos (by omega), if_pos (by omega), if_pos (by omega), if_neg c1, if_neg c2]
        · rw [h1, q]; omega
        · rw [h2, q]; omega
theorem compare_ev {a b : List Int} {m n : Int} (ha : IsBig a m) (hb : IsBig b n) (la : a.length ≤ 1000000) (lb : b.length ≤ 1000000) :
    ∃ c : Int, Ev (fun k => lombardref01_Compare.f k a b) c ∧ (c < 0 ↔ m < n) ∧ (c = 0 ↔ m = n) := by
  by_cases h : a.length = b.length
  · obtain ⟨c, he, h1, h2⟩ := compare_go a b ha.1 hb.1 h la a.length (Nat.le_refl _)
    rw [List.take_length, show a.length = b.length from h, List.take_length, ha.2.2, hb.2.2] at h1 h2
    refine ⟨c, ?_, h1, h2⟩
    refine Ev.congr (fun k => ?_) he
    unfold lombardref01_Compare.f
    rw [if_pos (by omega), w64 (by omega) (by omega)]
  · refine ⟨(a.length : Int) - b.length, ?_, ?_, ?_⟩
    · refine Ev.congr (fun k => ?_) (Ev.now _)
      unfold lombardref01_Compare.f
      rw [if_neg (by omega), w64 (by omega) (by omega)]
    · constructor
      · intro _; exact ha.lt_of_len hb (by omega)
      · intro hlt
        by_cases c : b.length < a.length
        · have := hb.lt_of_len ha c; omega
        · omega
    · constructor
      · intro _; omega
      · intro e
        rcases Nat.lt_or_gt_of_ne h with c | c
        · have := ha.lt_of_len hb c; omega
        · have := hb.lt_of_len ha c; omega
theorem add_go (a b : List Int) (da : Digits a) (db : Digits b) (_la : a.length ≤ 1000) (_lb : b.length ≤ 1000) : ∀ (f i : Nat) (out : List Int) (c : Int),
    Digits out → out.length = i → 0 ≤ c → c ≤ 2 → (i < a.length ∨ i < b.length → a.length + 1 ≤ i + f ∧ b.length + 1 ≤ i + f) ∧ (c > 0 → 1 ≤ f) → i + f ≤ 5000 →
    ∃ r, Ev (fun k => lombardref01_Add.l0 k a b out c (i : Int)) r ∧ IsBig r (val out + P i * (c + val (a.drop i) + val (b.drop i))) ∧ r.length ≤ i + f := by
  intro f
  induction f with
  | zero =>
    intro i out c dout hi c0 c1 hf hlim
    have z : c = 0 := by omega
    subst z
    obtain ⟨r, he, hb, hr⟩ := trim_ev (l := out) (by omega) dout
    refine ⟨r, ?_, ?_, by omega⟩
    · refine Ev.step (f := fun k => lombardref01_Add.j1 k a b out 0 i false) (fun k => ?_) (Ev.step (f := fun k => (lombardref01_trim.f k out).bind fun t => some t) (fun k => ?_) (Ev.bind he (Ev.now _)))
      · simp only [lombardref01_Add.l0]
        rw [if_neg (by omega), if_neg (by omega), decide_eq_false (by omega)]
      · simp only [lombardref01_Add.j1]
        rw [if_neg (by simp)]
    · rw [val_drop_end (by omega), val_drop_end (by omega)]; simpa using hb
  | succ f ih =>
    intro i out c dout hi c0 c1 hf hlim
    have ga := da.get i
    have gb := db.get i
    have ew : wrap64 ((i : Int) + 1) = ((i + 1 : Nat) : Int) := by rw [w64 (by omega) (by omega)]; omega
    have step : ∀ n : Int, 0 ≤ n → n < 196608 → (n / 65536 > 0 → i < a.length ∨ i < b.length) → val out + P i * (c + val (a.drop i) + val (b.drop i)) = val out + P i * (n + 65536 * (val (a.drop (i + 1)) + val (b.drop (i + 1)))) →
        (∀ k, lombardref01_Add.j1 (k + 1) a b out c i true = lombardref01_Add.l0 k a b (out ++ [n % 65536]) (n / 65536) (i + 1 : Nat)) → (∀ k, lombardref01_Add.l0 (k + 1) a b out c i = lombardref01_Add.j1 k a b out c i true) →
        ∃ r, Ev (fun k => lombardref01_Add.l0 k a b out c (i : Int)) r ∧ IsBig r (val out + P i * (c + val (a.drop i) + val (b.drop i))) ∧ r.length ≤ i + (f + 1) := by
      intro n n0 n1 hc hv hj hl
      obtain ⟨r, he, hb, hr⟩ := ih (i + 1) (out ++ [n % 65536]) (n / 65536) (dout.append (Digits.nil.cons (by omega) (by omega))) (by simp [hi]) (by omega) (by omega) (by
        refine ⟨fun h => ?_, fun h => ?_⟩
        · have := hf.1 (by omega); omega
        · have := hf.1 (hc h); omega) (by omega)
      refine ⟨r, Ev.step hl (Ev.step hj he), ?_, by omega⟩
      rw [hv]
      rw [val_append, hi, P_succ] at hb
      have e1 : val [n % 65536] = n % 65536 := by simp [val]
      rw [e1] at hb
      have e2 : n = n % 65536 + 65536 * (n / 65536) := by omega
      have e3 : val out + P i * (n % 65536) + 65536 * P i * (n / 65536 + val (List.drop (i + 1) a) + val (List.drop (i + 1) b)) = val out + P i * (n + 65536 * (val (a.drop (i + 1)) + val (b.drop (i + 1)))) := by
        generalize n % 65536 = x at *
        generalize n / 65536 = y at *
        subst e2
        grind
      rwa [e3] at hb
    have ra : (i < a.length) → rd a (i : Int) = a.getD i 0 := fun _ => rd_nat a i
    have rb : (i < b.length) → rd b (i : Int) = b.getD i 0 := fun _ => rd_nat b i
    by_cases ha : i < a.length
    · have va := val_drop ha
      have hl : ∀ k, lombardref01_Add.l0 (k + 1) a b out c i = lombardref01_Add.j1 k a b out c i true := fun k => by
        simp only [lombardref01_Add.l0]; rw [if_pos (by omega)]
      by_cases hb : i < b.length
      · have vb := val_drop hb
        refine step (c + a.getD i 0 + b.getD i 0) (by omega) (by omega) (fun _ => .inl ha) (by rw [va, vb]; grind) (fun k => ?_) hl
        simp only [lombardref01_Add.j1]
        rw [if_pos trivial, if_pos (by omega), if_pos (by omega), if_pos (by omega), if_pos (by omega), rd_nat, rd_nat, u64 (x := c + a.getD i 0) (by omega) (by omega), u64 (x := c + a.getD i 0 + b.getD i 0) (by omega) (by omega), td (by omega), tm (by omega), u64 (by omega) (by omega), ew]
      · have vb := val_drop_end (l := b) (i := i) (by omega)
        have vb2 := val_drop_end (l := b) (i := i + 1) (by omega)
        refine step (c + a.getD i 0) (by omega) (by omega) (fun _ => .inl ha) (by rw [va, vb, vb2]; grind) (fun k => ?_) hl
        simp only [lombardref01_Add.j1]
        rw [if_pos trivial, if_pos (by omega), if_pos (by omega), if_neg (by omega), if_pos (by omega), rd_nat, u64 (x := c + a.getD i 0) (by omega) (by omega), td (by omega), tm (by omega), u64 (by omega) (by omega), ew]
    · have va := val_drop_end (l := a) (i := i) (by omega)
      have va2 := val_drop_end (l := a) (i := i + 1) (by omega)
      by_cases hb : i < b.length
      · have vb := val_drop hb
        refine step (c + b.getD i 0) (by omega) (by omega) (fun _ => .inr hb) (by rw [va, vb, va2]; grind) (fun k => ?_) (fun k => by simp only [lombardref01_Add.l0]; rw [if_neg (by omega), if_pos (by omega)])
        simp only [lombardref01_Add.j1]
        rw [if_pos trivial, if_neg (by omega), if_pos (by omega), if_pos (by omega), if_pos (by omega), rd_nat, u64 (x := c + b.getD i 0) (by omega) (by omega), td (by omega), tm (by omega), u64 (by omega) (by omega), ew]
      · have vb := val_drop_end (l := b) (i := i) (by omega)
        have vb2 := val_drop_end (l := b) (i := i + 1) (by omega)
        by_cases cz : c > 0
        · refine step c (by omega) (by omega) (fun h => by omega) (by rw [va, vb, va2, vb2]; grind) (fun k => ?_) (fun k => by simp only [lombardref01_Add.l0]; rw [if_neg (by omega), if_neg (by omega), decide_eq_true cz])
          simp only [lombardref01_Add.j1]
          rw [if_pos trivial, if_neg (by omega), if_neg (by omega), if_pos (by omega), td (by omega), tm (by omega), u64 (by omega) (by omega), ew]
        · have z : c = 0 := by omega
          subst z
          obtain ⟨r, he, hbg, hr⟩ := trim_ev (l := out) (by omega) dout
          refine ⟨r, ?_, ?_, by omega⟩
          · refine Ev.step (f := fun k => lombardref01_Add.j1 k a b out 0 i false) (fun k => ?_) (Ev.step (f := fun k => (lombardref01_trim.f k out).bind fun t => some t) (fun k => ?_) (Ev.bind he (Ev.now _)))
            · simp only [lombardref01_Add.l0]
              rw [if_neg (by omega), if_neg (by omega), decide_eq_false (by omega)]
            · simp only [lombardref01_Add.j1]
              rw [if_neg (by simp)]
          · rw [va, vb]; simpa using hbg
theorem add_ev {a b : List Int} {m n : Int} (ha : IsBig a m) (hb : IsBig b n) (la : a.length ≤ 1000) (lb : b.length ≤ 1000) :
    ∃ r, Ev (fun k => lombardref01_Add.f k a b) r ∧ IsBig r (m + n) ∧ r.length ≤ a.length + b.length + 1 := by
  obtain ⟨r, he, h, hr⟩ := add_go a b ha.1 hb.1 la lb (a.length + b.length + 1) 0 [] 0 Digits.nil rfl (by omega) (by omega) (by omega) (by omega)
  refine ⟨r, he, ?_, by omega⟩
  simpa [val, P_zero, ha.2.2, hb.2.2] using h
end Go.Proofs.Ytlbhjkbjokiioaa.PBig
