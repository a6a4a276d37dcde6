-- a shortened text: what this claim does not name is left out (wip/xprint/prune.py of this repo)
import Derived.Test.YtlbhjkbjokiioaaPFix
namespace Go.Proofs.Ytlbhjkbjokiioaa.PFix
open Go Go.RowKit Go.Proofs.Ytlbhjkbjokiioaa.X Go.Proofs.YtlbhjkbjokiioaaW.PrintWords Go.Proofs.YtlbhjkbjokiioaaW.PrintLast Go.Proofs.YtlbhjkbjokiioaaW.PrintMore Go.Proofs.Ytlbhjkbjokiioaa.MDS
theorem shr_nat {x : Int} {n : Nat} (h : n ≤ 63) : shr .u64 x (n : Int) = x / 2 ^ n := by
  unfold shr
  rw [Int.toNat_natCast, Nat.min_eq_left (by show n ≤ 64; omega)]
theorem two_pow_le {n : Nat} (h : n ≤ 63) : (1 : Int) ≤ 2 ^ n ∧ (2 : Int) ^ n ≤ 9223372036854775808 := by
  refine ⟨?_, ?_⟩
  · have : (0 : Int) < 2 ^ n := Int.pow_pos (by decide)
    omega
  · have h1 : (2 : Nat) ^ n ≤ 2 ^ 63 := Nat.pow_le_pow_right (by decide) h
    have h2 : ((2 ^ n : Nat) : Int) ≤ ((2 ^ 63 : Nat) : Int) := Int.ofNat_le.2 h1
    simpa using h2
theorem shl_nat {n : Nat} (h : n ≤ 63) : shl .u64 1 (n : Int) = 2 ^ n := by
  unfold shl
  have b := two_pow_le h
  rw [Int.toNat_natCast, Nat.min_eq_left (by show n ≤ 64; omega), Int.one_mul, u64 (by omega) (by omega)]
theorem or_bit {r b : Int} (_h0 : 0 ≤ r) (_h1 : r ≤ 18446744073709551615) (b0 : 0 ≤ b) (b1 : b < 2) : Go.bits .or .u64 (IntKind.u64.wrap (r * 2)) b = r * 2 % 18446744073709551616 + b := by
  rw [uw]
  exact bits_join .u64 64 (by decide) uwr 1 _ b (by omega) (by show _ % (2 : Int) = 0; omega) (by show _ < (18446744073709551616 : Int); omega) b0 (by show _ < (2 : Int); omega) (by show _ < (18446744073709551616 : Int); omega)
theorem or_pow {q : Int} {n : Nat} (h : n ≤ 63) (h0 : 0 ≤ q) (h1 : q * 2 ^ (n + 1) < 18446744073709551616) : Go.bits .or .u64 (q * 2 ^ (n + 1)) (2 ^ n) = q * 2 ^ (n + 1) + 2 ^ n := by
  have b := two_pow_le h
  have p : (2 : Int) ^ (n + 1) = 2 * 2 ^ n := by rw [Int.pow_succ]; omega
  exact bits_join .u64 64 (by decide) uwr (n + 1) _ _ (Int.mul_nonneg h0 (by omega)) (Int.mul_emod_left _ _) (by show _ < (18446744073709551616 : Int); exact h1) (by omega) (by rw [p]; omega) (by show _ < (18446744073709551616 : Int); omega)
theorem div_bits (d lo x0 x1 qh : Int) (d0 : 0 < d) (d1 : d ≤ 18446744073709551615) (l0 : 0 ≤ lo) (l1 : lo ≤ 18446744073709551615) : ∀ (n : Nat), n ≤ 64 → ∀ (q r : Int), 0 ≤ q → q * 2 ^ n < 18446744073709551616 → 0 ≤ r → r < d → (∀ N : Int, N = q * d + r → x1 = N * 2 ^ n + lo % 2 ^ n) →
    ∃ Q R : Int, Ev (fun k => q10q.l0 k d r ((n : Int) - 1) x0 lo qh (q * 2 ^ n)) (qh, Q, R) ∧ x1 = Q * d + R ∧ 0 ≤ R ∧ R < d ∧ 0 ≤ Q
  | 0, _, q, r, q0, q1, r0, r1, hx => by
    refine ⟨q, r, ?_, ?_, r0, r1, q0⟩
    · refine Ev.step (f := fun _ => some (qh, q, r)) (fun k => ?_) (Ev.now _)
      simp only [q10q.l0]
      rw [if_neg (by omega)]
      simp
    · have := hx _ rfl
      simp at this
      omega
  | n + 1, hn, q, r, q0, q1, r0, r1, hx => by
    have b := two_pow_le (n := n) (by omega)
    have p : (2 : Int) ^ (n + 1) = 2 * 2 ^ n := by rw [Int.pow_succ]; omega
    have e : ((n + 1 : Nat) : Int) - 1 = (n : Int) := by omega
    have ew : wrap64 ((n : Int) - 1) = (n : Int) - 1 := w64 (by omega) (by omega)
    have en : IntKind.u64.wrap (n : Int) = (n : Int) := u64 (by omega) (by omega)
    have hd : 0 ≤ lo / 2 ^ n := Int.ediv_nonneg l0 (by omega)
    have hd2 : lo / 2 ^ n ≤ lo := Int.ediv_le_self _ l0
    have hb := and_one hd (by omega)
    have split : lo % 2 ^ (n + 1) = (lo / 2 ^ n % 2) * 2 ^ n + lo % 2 ^ n := by
      rw [p]
      have h1 := Int.emod_add_mul_ediv lo (2 ^ n)
      have h2 := Int.emod_add_mul_ediv (lo / 2 ^ n) 2
      have h3 : lo = (lo / 2 ^ n % 2) * 2 ^ n + lo % 2 ^ n + 2 * 2 ^ n * (lo / 2 ^ n / 2) := by
        have h4 : 2 ^ n * (lo / 2 ^ n) = 2 ^ n * (lo / 2 ^ n % 2) + 2 * 2 ^ n * (lo / 2 ^ n / 2) := by
          conv => lhs; rw [← h2]
          rw [Int.mul_add, Int.mul_left_comm, ← Int.mul_assoc]
        rw [Int.mul_comm (lo / 2 ^ n % 2)]
        omega
      have m0 := Int.emod_nonneg lo (show (2 : Int) ^ n ≠ 0 by omega)
      have m1 := Int.emod_lt_of_pos lo (show (0 : Int) < 2 ^ n by omega)
      have bb : lo / 2 ^ n % 2 = 0 ∨ lo / 2 ^ n % 2 = 1 := by omega
      have s : 0 ≤ (lo / 2 ^ n % 2) * 2 ^ n + lo % 2 ^ n ∧ (lo / 2 ^ n % 2) * 2 ^ n + lo % 2 ^ n < 2 * 2 ^ n := by
        rcases bb with bb | bb <;> rw [bb] <;> omega
      generalize (lo / 2 ^ n % 2) * 2 ^ n + lo % 2 ^ n = t at *
      rw [h3, Int.add_mul_emod_self_left, Int.emod_eq_of_lt s.1 s.2]
    have bb : 0 ≤ lo / 2 ^ n % 2 ∧ lo / 2 ^ n % 2 < 2 := by omega
    have ob := or_bit (r := r) (b := lo / 2 ^ n % 2) r0 (by omega) bb.1 bb.2
    have xe : ∀ q' r' : Int, q' * d + r' = 2 * (q * d + r) + lo / 2 ^ n % 2 → ∀ N : Int, N = q' * d + r' → x1 = N * 2 ^ n + lo % 2 ^ n := by
      intro q' r' h N hN
      rw [hx _ rfl, hN, h, split, p]
      generalize q * d + r = M
      rw [Int.add_mul, Int.mul_left_comm, Int.mul_assoc]
      omega
    rw [e]
    generalize lo / 2 ^ n % 2 = bit at *
    clear split
    have one : ∀ k, 2 * r + bit ≥ d → q10q.l0 (k + 1) d r (n : Int) x0 lo qh (q * 2 ^ (n + 1)) = q10q.l0 k d (2 * r + bit - d) ((n : Int) - 1) x0 lo qh ((2 * q + 1) * 2 ^ n) := by
      intro k hge
      have e2 : Go.bits .or .u64 (q * 2 ^ (n + 1)) (shl .u64 1 (n : Int)) = (2 * q + 1) * 2 ^ n := by
        rw [shl_nat (by omega), or_pow (by omega) q0 q1, p, Int.add_mul, Int.one_mul, Int.mul_left_comm, Int.mul_assoc]
      have e3 : IntKind.u64.wrap (r * 2 % 18446744073709551616 + bit - d) = 2 * r + bit - d := by rw [uw]; omega
      simp only [q10q.l0, en, ew, shr_nat (show n ≤ 63 by omega), hb, ob, e2, e3]
      rw [if_pos (by omega), if_pos (by omega)]
      by_cases c : r / 9223372036854775808 = 1
      · rw [if_pos c]
      · rw [if_neg c, if_pos (by omega)]
    have zero : ∀ k, 2 * r + bit < d → q10q.l0 (k + 1) d r (n : Int) x0 lo qh (q * 2 ^ (n + 1)) = q10q.l0 k d (2 * r + bit) ((n : Int) - 1) x0 lo qh (2 * q * 2 ^ n) := by
      intro k hlt
      have e2 : q * 2 ^ (n + 1) = 2 * q * 2 ^ n := by rw [p, Int.mul_left_comm, Int.mul_assoc]
      have e4 : r * 2 % 18446744073709551616 + bit = 2 * r + bit := by omega
      simp only [q10q.l0, en, ew, shr_nat (show n ≤ 63 by omega), hb, ob, e4]
      rw [if_pos (by omega), if_pos (by omega), if_neg (by omega), if_neg (by omega), e2]
    have q2 : 2 * q * 2 ^ n = q * 2 ^ (n + 1) := by rw [p, Int.mul_left_comm, Int.mul_assoc]
    by_cases c : 2 * r + bit ≥ d
    · have q3 : (2 * q + 1) * 2 ^ n < 18446744073709551616 := by
        rw [Int.add_mul, q2, Int.one_mul]
        have hk : (18446744073709551616 : Int) = 2 ^ (63 - n) * 2 ^ (n + 1) := by
          rw [← Int.pow_add, show 63 - n + (n + 1) = 64 by omega]; rfl
        have hq : q + 1 ≤ 2 ^ (63 - n) := by
          rw [hk] at q1
          have := Int.lt_of_mul_lt_mul_right q1 (by omega)
          omega
        have h5 : (q + 1) * 2 ^ (n + 1) ≤ 2 ^ (63 - n) * 2 ^ (n + 1) := Int.mul_le_mul_of_nonneg_right hq (by omega)
        rw [← hk, Int.add_mul, Int.one_mul] at h5
        omega
      obtain ⟨Q, R, he, h⟩ := div_bits d lo x0 x1 qh d0 d1 l0 l1 n (by omega) (2 * q + 1) (2 * r + bit - d) (by omega) q3 (by omega) (by omega) (xe _ _ (by rw [Int.add_mul, Int.one_mul, Int.mul_assoc]; omega))
      exact ⟨Q, R, Ev.step (fun k => one k c) he, h⟩
    · obtain ⟨Q, R, he, h⟩ := div_bits d lo x0 x1 qh d0 d1 l0 l1 n (by omega) (2 * q) (2 * r + bit) (by omega) (by rw [q2]; exact q1) (by omega) (by omega) (xe _ _ (by rw [Int.mul_assoc]; omega))
      exact ⟨Q, R, Ev.step (fun k => zero k (by omega)) he, h⟩
theorem div_eq {hi lo d : Int} (h0 : 0 ≤ hi) (h1 : hi ≤ 18446744073709551615) (l0 : 0 ≤ lo) (l1 : lo ≤ 18446744073709551615) (d0 : 0 < d) (d1 : d ≤ 18446744073709551615) :
    ∃ Q R : Int, Ev (fun k => q10q.f k hi lo d) (hi / d, Q, R) ∧ R = (hi * 18446744073709551616 + lo) % d ∧ hi / d * 18446744073709551616 + Q = (hi * 18446744073709551616 + lo) / d ∧ 0 ≤ Q ∧ 0 ≤ R ∧ R < d := by
  have m0 := Int.emod_nonneg hi (show d ≠ 0 by omega)
  have m1 := Int.emod_lt_of_pos hi d0
  obtain ⟨Q, R, he, hx, r0, r1, q0⟩ := div_bits d lo hi (hi % d * 18446744073709551616 + lo) (hi / d) d0 d1 l0 l1 64 (by omega) 0 (hi % d) (by omega) (by omega) m0 m1 (by
    intro N hN
    have : lo % 2 ^ 64 = lo := Int.emod_eq_of_lt l0 (by show _ < (18446744073709551616 : Int); omega)
    rw [this, hN, Int.zero_mul, Int.zero_add]; rfl)
  have tot : hi * 18446744073709551616 + lo = (hi / d * 18446744073709551616 + Q) * d + R := by
    have h2 := Int.mul_ediv_add_emod hi d
    have h3 : hi * 18446744073709551616 = hi / d * 18446744073709551616 * d + hi % d * 18446744073709551616 := by
      conv => lhs; rw [← h2]
      rw [Int.add_mul, Int.mul_comm d, Int.mul_assoc, Int.mul_comm d, ← Int.mul_assoc]
    rw [Int.add_mul]; omega
  refine ⟨Q, R, ?_, ?_, ?_, q0, r0, r1⟩
  · refine Ev.congr (fun k => ?_) he
    unfold q10q.f
    have hq : 0 ≤ hi / d := Int.ediv_nonneg h0 (by omega)
    have hq2 : hi / d ≤ hi := Int.ediv_le_self _ h0
    rw [if_neg (by omega), Int.tmod_eq_emod_of_nonneg h0, Int.tdiv_eq_ediv_of_nonneg h0, u64 hq (by omega), Int.zero_mul]
    rfl
  · rw [tot, Int.mul_comm, Int.add_comm, Int.add_mul_emod_self_left, Int.emod_eq_of_lt r0 r1]
  · rw [tot, Int.mul_comm _ d, Int.add_comm _ R, Int.add_mul_ediv_left _ _ (by omega), Int.ediv_eq_zero_of_lt r0 r1, Int.zero_add]
theorem up_eq {q r d how : Int} (m : Bool) (q0 : 0 ≤ q) (q1 : q ≤ 18446744073709551615) (r0 : 0 ≤ r) (r1 : r < d) (d1 : d ≤ 18446744073709551615) : fixnum_up.f q r d m how = some (upOf m q r d how) := by
  unfold fixnum_up.f upOf
  rw [u64 (x := d - r) (by omega) (by omega), and_one q0 q1]
  by_cases c0 : r = 0
  · rw [if_pos c0, if_pos c0]
  rw [if_neg c0, if_neg c0]
  by_cases c1 : how = 1
  · rw [if_pos c1, if_pos c1]
  rw [if_neg c1, if_neg c1]
  by_cases c2 : how = 2
  · rw [if_pos c2, if_pos c2]
  rw [if_neg c2, if_neg c2]
  by_cases c3 : how = 4
  · rw [if_pos c3, if_pos c3]
    by_cases c4 : d < 2 * r
    · rw [if_pos (by omega), if_pos c4]
    · rw [if_neg (by omega), if_neg c4]
      by_cases c5 : 2 * r = d
      · rw [if_pos (by omega), if_pos c5]; rfl
      · rw [if_neg (by omega), if_neg c5]
  · rw [if_neg c3, if_neg c3]
theorem signed_eq (k : Nat) {q : Int} (m : Bool) (q0 : 0 ≤ q) (q1 : q ≤ 18446744073709551615) : q16q.f (k + 1) q m = some (signOf m q) := by
  unfold q16q.f signOf
  cases m with
  | true =>
    simp only [if_true, q16q.j0]
    by_cases c : q = 9223372036854775808
    · subst c; rfl
    · rw [if_neg (by simpa using c)]
      by_cases g : q ≥ 9223372036854775808
      · rw [if_pos g, if_pos (by omega)]
      · rw [if_neg g, if_neg (by simp; omega)]
        rw [w64 (x := q) (by omega) (by omega), w64 (by omega) (by omega)]
  | false =>
    simp only [q16q.j0, Bool.false_eq_true, if_false]
    by_cases g : q ≥ 9223372036854775808
    · rw [if_pos g, if_pos (by simp; omega)]
    · rw [if_neg g, if_neg (by simp; omega), w64 (by omega) (by omega)]
theorem muldiv_ev {a b c how : Int} (a0 : -9223372036854775808 ≤ a) (a1 : a ≤ 9223372036854775807) (b0 : -9223372036854775808 ≤ b) (b1 : b ≤ 9223372036854775807) (c0 : -9223372036854775808 ≤ c) (c1 : c ≤ 9223372036854775807) :
    Ev (fun k => q20q.f k a b c how) (mulDivS a b c how) := by
  unfold mulDivS
  have bad : Ev (fun k => q20q.j0 k a b c how true) (0, 1) := Ev.step (f := fun _ => some (0, 1)) (fun k => by simp [q20q.j0]) (Ev.now _)
  unfold q20q.f
  by_cases hc : c = 0
  · simp only [if_pos hc]; rw [if_pos (.inl hc)]; exact bad
  simp only [if_neg hc]
  by_cases h1 : how < 1
  · simp only [if_pos h1]; rw [if_pos (.inr (.inl h1))]; exact bad
  simp only [if_neg h1]
  by_cases h4 : how > 4
  · rw [decide_eq_true h4, if_pos (.inr (.inr h4))]; exact bad
  rw [decide_eq_false h4, if_neg (by omega)]
  have ab0 : 0 ≤ (a.natAbs : Int) * b.natAbs := Int.mul_nonneg (by omega) (by omega)
  have ab1 : (a.natAbs : Int) * b.natAbs ≤ 9223372036854775808 * 9223372036854775808 := by
    have h1 : (a.natAbs : Int) * b.natAbs ≤ a.natAbs * 9223372036854775808 := Int.mul_le_mul_of_nonneg_left (by omega) (by omega)
    omega
  have me := mul_eq (a := a.natAbs) (b := b.natAbs) (by omega) (by omega) (by omega) (by omega)
  obtain ⟨Q, R, he, hR, hQ, q0, r0, r1⟩ := div_eq (hi := (a.natAbs : Int) * b.natAbs / 18446744073709551616) (lo := (a.natAbs : Int) * b.natAbs % 18446744073709551616) (d := c.natAbs) (by omega) (by omega) (by omega) (by omega) (by omega) (by omega)
  have back : (a.natAbs : Int) * b.natAbs / 18446744073709551616 * 18446744073709551616 + (a.natAbs : Int) * b.natAbs % 18446744073709551616 = (a.natAbs : Int) * b.natAbs := by omega
  rw [back] at hR hQ
  have step : ∀ k, q20q.j0 (k + 1) a b c how false = (q10q.f k ((a.natAbs : Int) * b.natAbs / 18446744073709551616) ((a.natAbs : Int) * b.natAbs % 18446744073709551616) c.natAbs).bind fun bt337 => if bt337.1 > 0 then some (0, 9) else (fixnum_up.f bt337.2.1 bt337.2.2 c.natAbs (minusOf a b c) how).bind fun t341 => if t341 = true then (if (IntKind.u64.wrap (bt337.2.1 + 1)) = 0 then (some (0, 9)) else ((q16q.f k (IntKind.u64.wrap (bt337.2.1 + 1)) (minusOf a b c)).bind fun bt342 => (some (bt342.1, bt342.2)))) else ((q16q.f k bt337.2.1 (minusOf a b c)).bind fun bt344 => (some (bt344.1, bt344.2))) := by
    intro k
    simp only [q20q.j0, size_eq a0 a1, size_eq b0 b1, size_eq c0 c1, Option.bind_some, me]
    rfl
  refine Ev.step step (Ev.bind he ?_)
  simp only
  generalize (a.natAbs : Int) * b.natAbs = n at *
  have dpos : (0 : Int) < c.natAbs := by omega
  have dle : (c.natAbs : Int) ≤ 9223372036854775808 := by omega
  generalize (c.natAbs : Int) = d at *
  have qd : n / 18446744073709551616 / d ≥ 0 := Int.ediv_nonneg (by omega) (by omega)
  by_cases over : n / 18446744073709551616 / d > 0
  · simp only [if_pos over]
    have g : n / d + (if upOf (minusOf a b c) (n / d) (n % d) d how = true then 1 else 0) > 9223372036854775808 := by
      have big : n / d ≥ 18446744073709551616 := by
        generalize n / 18446744073709551616 / d = t at *
        omega
      split <;> omega
    unfold signOf
    rw [if_pos (.inl g)]
    exact Ev.now _
  · simp only [if_neg over]
    have z : n / 18446744073709551616 / d = 0 := by omega
    rw [z, Int.zero_mul, Int.zero_add] at hQ
    subst hQ
    subst hR
    have nd : n / d ≤ 18446744073709551615 := by
      have h2 : n / 18446744073709551616 / d = n / d / 18446744073709551616 := by
        rw [Int.ediv_ediv_of_nonneg (by omega), Int.ediv_ediv_of_nonneg (by omega), Int.mul_comm]
      rw [z] at h2
      omega
    rw [up_eq (minusOf a b c) q0 nd r0 r1 (by omega)]
    simp only [Option.bind_some]
    generalize upOf (minusOf a b c) (n / d) (n % d) d how = u
    cases u with
    | true =>
      simp only [if_true]
      by_cases w : IntKind.u64.wrap (n / d + 1) = 0
      · simp only [if_pos w]
        rw [uw] at w
        unfold signOf
        rw [if_pos (.inl (by omega))]
        exact Ev.now _
      · simp only [if_neg w]
        rw [uw] at w
        have lt : n / d + 1 ≤ 18446744073709551615 := by omega
        rw [u64 (by omega) lt]
        refine ⟨1, fun k hk => ?_⟩
        obtain ⟨k, rfl⟩ : ∃ m, k = m + 1 := ⟨k - 1, by omega⟩
        show Option.bind (q16q.f (k + 1) (n / d + 1) (minusOf a b c)) _ = _
        rw [signed_eq k _ (by omega) lt]
        rfl
    | false =>
      simp only [Bool.false_eq_true, if_false, Int.add_zero]
      refine ⟨1, fun k hk => ?_⟩
      obtain ⟨k, rfl⟩ : ∃ m, k = m + 1 := ⟨k - 1, by omega⟩
      show Option.bind (q16q.f (k + 1) (n / d) (minusOf a b c)) _ = _
      rw [signed_eq k _ q0 nd]
      rfl
end Go.Proofs.Ytlbhjkbjokiioaa.PFix
