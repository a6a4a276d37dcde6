/- What fixnum's functions come to: MulDiv is a product, divided and rounded. -/
import Derived.Laws.BitsLemmas
import Derived.Laws.Entries
import Derived.IntWalk
import Derived.Test.YtghkboapcapooaaGreatRF
set_option linter.unusedVariables false
set_option linter.unusedSimpArgs false
namespace Go.Proofs.YtghkboapcapooaaGreat.Pure
open Go Go.Ab Go.Proofs.YtghkboapcapooaaGreat.R

/-- A product, divided, rounded. -/
def minusOf (a b c : Int) : Bool := (decide (a < 0) != decide (b < 0)) != decide (c < 0)
def upOf (m : Bool) (q r d how : Int) : Bool :=
  if r = 0 then false else if how = 1 then m else if how = 2 then !m else if how = 4 then (if d < 2 * r then true else if 2 * r = d then decide (q % 2 = 1) else false) else false
def signOf (m : Bool) (q : Int) : Int × Int := if 9223372036854775808 < q ∨ (q = 9223372036854775808 ∧ m = false) then (0, 9) else (if m = true then -q else q, 0)
def mulDivS (a b c how : Int) : Int × Int :=
  if c = 0 ∨ how < 1 ∨ 4 < how then (0, 1)
  else
    let n : Int := (a.natAbs : Int) * b.natAbs
    let d : Int := c.natAbs
    signOf (minusOf a b c) (n / d + if upOf (minusOf a b c) (n / d) (n % d) d how = true then 1 else 0)

theorem u64 {x : Int} (h0 : 0 ≤ x) (h1 : x ≤ 18446744073709551615) : IntKind.u64.wrap x = x := IntWalk.u64_in x ⟨h0, h1⟩
theorem uw (x : Int) : IntKind.u64.wrap x = x % 18446744073709551616 := by simp [IntKind.wrap, IntKind.bits, IntKind.signed]
theorem uwr (n : Int) (h0 : 0 ≤ n) (h1 : n < 2 ^ 64) : IntKind.u64.wrap n = n := u64 h0 (by have : (2 : Int) ^ 64 = 18446744073709551616 := rfl; omega)
theorem iw (x : Int) (h0 : -9223372036854775808 ≤ x) (h1 : x ≤ 9223372036854775807) : IntKind.i64.wrap x = x := IntWalk.i64_in x ⟨h0, h1⟩

theorem size_r {n : Int} (h : InR n) : fixnum_size_r n ((n.natAbs : Int), decide (n < 0)) := by
  refine fixnum_size_of ?_
  unfold fixnum_size_w
  refine Br.i (fun c => Rt.i ?_) (fun c => Rt.i ?_)
  · rw [uw n, uw, decide_eq_true c]
    congr 1; omega
  · rw [uw, decide_eq_false c]
    congr 1; omega

theorem and_half {x : Int} (h0 : 0 ≤ x) (h1 : x ≤ 18446744073709551615) : bAnd .u64 x 4294967295 = x % 4294967296 :=
  bits_mask .u64 64 (by decide) uwr 32 (by decide) x h0 (by have : (2 : Int) ^ 64 = 18446744073709551616 := rfl; omega)
theorem and_one {x : Int} (h0 : 0 ≤ x) (h1 : x ≤ 18446744073709551615) : bAnd .u64 x 1 = x % 2 :=
  bits_mask .u64 64 (by decide) uwr 1 (by decide) x h0 (by have : (2 : Int) ^ 64 = 18446744073709551616 := rfl; omega)
theorem fd {x d : Int} (h : 0 ≤ d) : x.fdiv d = x / d := by rw [Int.fdiv_eq_ediv_of_nonneg _ h]

theorem prod_bd {x y : Int} (x0 : 0 ≤ x) (x1 : x ≤ 4294967295) (y0 : 0 ≤ y) (y1 : y ≤ 4294967295) : 0 ≤ x * y ∧ x * y ≤ 18446744065119617025 := by
  refine ⟨Int.mul_nonneg x0 y0, ?_⟩
  have h1 : x * y ≤ x * 4294967295 := Int.mul_le_mul_of_nonneg_left y1 x0
  omega

theorem mul_halves (a1 a0 b1 b0 : Int) : (a1 * 4294967296 + a0) * (b1 * 4294967296 + b0) = a1 * b1 * 18446744073709551616 + (a1 * b0 + a0 * b1) * 4294967296 + a0 * b0 := by
  simp only [Int.add_mul, Int.mul_add]
  rw [Int.mul_assoc a1 4294967296, Int.mul_left_comm 4294967296 b1, Int.mul_left_comm a0 b1, ← Int.mul_assoc a1 b1, Int.mul_assoc a1 4294967296 b0, Int.mul_left_comm a1 4294967296 b0]
  have e1 : b1 * (a0 * 4294967296) = a0 * b1 * 4294967296 := by rw [Int.mul_comm b1, Int.mul_assoc, Int.mul_comm 4294967296, ← Int.mul_assoc]
  omega

theorem Mul_r {a b : Int} (a0 : 0 ≤ a) (a1 : a ≤ 18446744073709551615) (b0 : 0 ≤ b) (b1 : b ≤ 18446744073709551615) : fixnum_Mul_r a b ⟨a * b / 18446744073709551616, a * b % 18446744073709551616⟩ := by
  refine fixnum_Mul_of ?_
  unfold fixnum_Mul_w
  refine Rt.i ?_
  simp only [fd (show (0 : Int) ≤ 4294967296 by decide), and_half a0 a1, and_half b0 b1]
  have p00 := prod_bd (x := a % 4294967296) (y := b % 4294967296) (by omega) (by omega) (by omega) (by omega)
  have p10 := prod_bd (x := a / 4294967296) (y := b % 4294967296) (by omega) (by omega) (by omega) (by omega)
  have p01 := prod_bd (x := a % 4294967296) (y := b / 4294967296) (by omega) (by omega) (by omega) (by omega)
  have p11 := prod_bd (x := a / 4294967296) (y := b / 4294967296) (by omega) (by omega) (by omega) (by omega)
  have e : a * b = a / 4294967296 * (b / 4294967296) * 18446744073709551616 + (a / 4294967296 * (b % 4294967296) + a % 4294967296 * (b / 4294967296)) * 4294967296 + a % 4294967296 * (b % 4294967296) := by
    rw [← mul_halves]
    congr 1 <;> omega
  have tot : 0 ≤ a * b ∧ a * b < 340282366920938463463374607431768211456 := by
    refine ⟨Int.mul_nonneg a0 b0, ?_⟩
    have h1 : a * b ≤ a * 18446744073709551615 := Int.mul_le_mul_of_nonneg_left b1 a0
    omega
  generalize a * b = ab at *
  generalize a / 4294967296 * (b / 4294967296) = w at *
  generalize a / 4294967296 * (b % 4294967296) = x at *
  generalize a % 4294967296 * (b / 4294967296) = y at *
  generalize a % 4294967296 * (b % 4294967296) = z at *
  clear a0 a1 b0 b1
  rw [u64 (x := z) (by omega) (by omega), u64 (x := x) (by omega) (by omega), u64 (x := y) (by omega) (by omega), u64 (x := w) (by omega) (by omega),
    u64 (x := x + z / 4294967296) (by omega) (by omega), and_half (x := x + z / 4294967296) (by omega) (by omega), and_half (x := z) (by omega) (by omega),
    u64 (x := y + (x + z / 4294967296) % 4294967296) (by omega) (by omega), u64 (x := w + (x + z / 4294967296) / 4294967296) (by omega) (by omega)]
  have hi : w + (x + z / 4294967296) / 4294967296 + (y + (x + z / 4294967296) % 4294967296) / 4294967296 = ab / 18446744073709551616 := by omega
  rw [hi, u64 (x := ab / 18446744073709551616) (by omega) (by omega), uw]
  have j : bOr .u64 _ _ = _ := bits_join .u64 64 (by decide) uwr 32 ((y + (x + z / 4294967296) % 4294967296) * 4294967296 % 18446744073709551616) (z % 4294967296) (by omega)
    (by show _ % (4294967296 : Int) = 0; omega) (by show _ < (18446744073709551616 : Int); omega) (by omega) (by show _ < (4294967296 : Int); omega) (by show _ < (18446744073709551616 : Int); omega)
  rw [j]
  congr 1
  omega

theorem shr_nat {x : Int} {n : Nat} (h : n ≤ 63) : bShr .u64 x (n : Int) = x / 2 ^ n := by
  unfold bShr
  rw [Int.toNat_natCast, Nat.min_eq_left (by show n ≤ 64; omega), Int.fdiv_eq_ediv_of_nonneg _ (Int.le_of_lt (Int.pow_pos (by decide)))]
theorem two_pow_le {n : Nat} (h : n ≤ 63) : (1 : Int) ≤ 2 ^ n ∧ (2 : Int) ^ n ≤ 9223372036854775808 := by
  refine ⟨?_, ?_⟩
  · have : (0 : Int) < 2 ^ n := Int.pow_pos (by decide)
    omega
  · have h1 : (2 : Nat) ^ n ≤ 2 ^ 63 := Nat.pow_le_pow_right (by decide) h
    have h2 : ((2 ^ n : Nat) : Int) ≤ ((2 ^ 63 : Nat) : Int) := Int.ofNat_le.2 h1
    simpa using h2
theorem shl_nat {n : Nat} (h : n ≤ 63) : bShl .u64 1 (n : Int) = 2 ^ n := by
  unfold bShl
  have b := two_pow_le h
  rw [Int.toNat_natCast, Nat.min_eq_left (by show n ≤ 64; omega), Int.one_mul, u64 (by omega) (by omega)]

/-- Shifted, with a bit put behind. -/
theorem or_bit {r b : Int} (_h0 : 0 ≤ r) (_h1 : r ≤ 18446744073709551615) (b0 : 0 ≤ b) (b1 : b < 2) : bOr .u64 (IntKind.u64.wrap (r * 2)) b = r * 2 % 18446744073709551616 + b := by
  rw [uw]
  exact bits_join .u64 64 (by decide) uwr 1 _ b (by omega) (by show _ % (2 : Int) = 0; omega) (by show _ < (18446744073709551616 : Int); omega) b0 (by show _ < (2 : Int); omega) (by show _ < (18446744073709551616 : Int); omega)

theorem or_pow {q : Int} {n : Nat} (h : n ≤ 63) (h0 : 0 ≤ q) (h1 : q * 2 ^ (n + 1) < 18446744073709551616) : bOr .u64 (q * 2 ^ (n + 1)) (2 ^ n) = q * 2 ^ (n + 1) + 2 ^ n := by
  have b := two_pow_le h
  have p : (2 : Int) ^ (n + 1) = 2 * 2 ^ n := by rw [Int.pow_succ]; omega
  exact bits_join .u64 64 (by decide) uwr (n + 1) _ _ (Int.mul_nonneg h0 (by omega)) (Int.mul_emod_left _ _) (by show _ < (18446744073709551616 : Int); exact h1) (by omega) (by rw [p]; omega) (by show _ < (18446744073709551616 : Int); omega)
end Go.Proofs.YtghkboapcapooaaGreat.Pure
namespace Go.Proofs.YtghkboapcapooaaGreat.Pure
open Go Go.Ab Go.Proofs.YtghkboapcapooaaGreat.R

theorem div_loop (w : fixnum_Wide) (d x1 : Int) (d0 : 0 < d) (d1 : d ≤ 18446744073709551615) (l0 : 0 ≤ w.Lo) (l1 : w.Lo ≤ 18446744073709551615) {Q0 : Int × Int → Prop}
    : ∀ (n : Nat), n ≤ 64 → ∀ (q r : Int), 0 ≤ q → q * 2 ^ n < 18446744073709551616 → 0 ≤ r → r < d → (∀ N : Int, N = q * d + r → x1 = N * 2 ^ n + w.Lo % 2 ^ n) →
    (∀ Q R : Int, x1 = Q * d + R → 0 ≤ R → R < d → 0 ≤ Q → Q0 (R, Q)) → _fixnum_Wide_Div_L0 d w Q0 r ((n : Int) - 1) (q * 2 ^ n)
  | 0, _, q, r, q0, q1, r0, r1, hx, hQ => by
    refine _fixnum_Wide_Div_l0 ?_
    unfold _fixnum_Wide_Div_w0
    refine Br.neg (by omega) (Lf.i ?_)
    have h := hx _ rfl
    simp at h ⊢
    exact hQ q r (by omega) r0 r1 q0
  | n + 1, hn, q, r, q0, q1, r0, r1, hx, hQ => by
    have b := two_pow_le (n := n) (by omega)
    have p : (2 : Int) ^ (n + 1) = 2 * 2 ^ n := by rw [Int.pow_succ]; omega
    have e : ((n + 1 : Nat) : Int) - 1 = (n : Int) := by omega
    have en : IntKind.u64.wrap (n : Int) = (n : Int) := u64 (by omega) (by omega)
    generalize hlo : w.Lo = lo at *
    have hd : 0 ≤ lo / 2 ^ n := Int.ediv_nonneg l0 (by omega)
    have hd2 : lo / 2 ^ n ≤ lo := Int.ediv_le_self _ l0
    have hb := and_one hd (by omega)
    -- the next bit
    have split : lo % 2 ^ (n + 1) = (lo / 2 ^ n % 2) * 2 ^ n + lo % 2 ^ n := by
      rw [p]
      have h1 := Int.emod_add_mul_ediv lo (2 ^ n)
      have h2 := Int.emod_add_mul_ediv (lo / 2 ^ n) 2
      have h3 : lo = (lo / 2 ^ n % 2) * 2 ^ n + lo % 2 ^ n + 2 * 2 ^ n * (lo / 2 ^ n / 2) := by
        have h4 : 2 ^ n * (lo / 2 ^ n) = 2 ^ n * (lo / 2 ^ n % 2) + 2 * 2 ^ n * (lo / 2 ^ n / 2) := by
          conv => lhs; rw [← h2]
          rw [Int.mul_add, Int.mul_left_comm, ← Int.mul_assoc]
        rw [Int.mul_comm (lo / 2 ^ n % 2)]
        omega
      have m0 := Int.emod_nonneg lo (show (2 : Int) ^ n ≠ 0 by omega)
      have m1 := Int.emod_lt_of_pos lo (show (0 : Int) < 2 ^ n by omega)
      have bb : lo / 2 ^ n % 2 = 0 ∨ lo / 2 ^ n % 2 = 1 := by omega
      have s : 0 ≤ (lo / 2 ^ n % 2) * 2 ^ n + lo % 2 ^ n ∧ (lo / 2 ^ n % 2) * 2 ^ n + lo % 2 ^ n < 2 * 2 ^ n := by
        rcases bb with bb | bb <;> rw [bb] <;> omega
      generalize (lo / 2 ^ n % 2) * 2 ^ n + lo % 2 ^ n = t at *
      rw [h3, Int.add_mul_emod_self_left, Int.emod_eq_of_lt s.1 s.2]
    have bb : 0 ≤ lo / 2 ^ n % 2 ∧ lo / 2 ^ n % 2 < 2 := by omega
    have ob := or_bit (r := r) (b := lo / 2 ^ n % 2) r0 (by omega) bb.1 bb.2
    have xe : ∀ q' r' : Int, q' * d + r' = 2 * (q * d + r) + lo / 2 ^ n % 2 → ∀ N : Int, N = q' * d + r' → x1 = N * 2 ^ n + lo % 2 ^ n := by
      intro q' r' h N hN
      rw [hx _ rfl, hN, h, split, p]
      generalize q * d + r = M
      rw [Int.add_mul, Int.mul_left_comm, Int.mul_assoc]
      omega
    rw [e]
    refine _fixnum_Wide_Div_l0 ?_
    unfold _fixnum_Wide_Div_w0
    rw [hlo, en, shr_nat (show n ≤ 63 by omega), hb, ob]
    generalize lo / 2 ^ n % 2 = bit at *
    clear split
    have q2 : 2 * q * 2 ^ n = q * 2 ^ (n + 1) := by rw [p, Int.mul_left_comm, Int.mul_assoc]
    have one : 2 * r + bit ≥ d → Shf (n : Int) (Num .i64 ((n : Int) - 1) (_fixnum_Wide_Div_L0 d w Q0 (IntKind.wrap .u64 (r * 2 % 18446744073709551616 + bit - d)) ((n : Int) - 1) (bOr .u64 (q * 2 ^ (n + 1)) (bShl .u64 1 (n : Int))))) := by
      intro c
      have e2 : bOr .u64 (q * 2 ^ (n + 1)) (bShl .u64 1 (n : Int)) = (2 * q + 1) * 2 ^ n := by
        rw [shl_nat (by omega), or_pow (by omega) q0 q1, p, Int.add_mul, Int.one_mul, Int.mul_left_comm, Int.mul_assoc]
      have e3 : IntKind.u64.wrap (r * 2 % 18446744073709551616 + bit - d) = 2 * r + bit - d := by rw [uw]; omega
      rw [e2, e3]
      have q3 : (2 * q + 1) * 2 ^ n < 18446744073709551616 := by
        rw [Int.add_mul, q2, Int.one_mul]
        have hk : (18446744073709551616 : Int) = 2 ^ (63 - n) * 2 ^ (n + 1) := by
          rw [← Int.pow_add, show 63 - n + (n + 1) = 64 by omega]; rfl
        have hq : q + 1 ≤ 2 ^ (63 - n) := by
          rw [hk] at q1
          have := Int.lt_of_mul_lt_mul_right q1 (by omega)
          omega
        have h5 : (q + 1) * 2 ^ (n + 1) ≤ 2 ^ (63 - n) * 2 ^ (n + 1) := Int.mul_le_mul_of_nonneg_right hq (by omega)
        rw [← hk, Int.add_mul, Int.one_mul] at h5
        omega
      refine ⟨by omega, Num.n (by omega) (div_loop w d x1 d0 d1 (by rw [hlo]; exact l0) (by rw [hlo]; exact l1) n (by omega) (2 * q + 1) (2 * r + bit - d) (by omega) q3 (by omega) (by omega) ?_ hQ)⟩
      rw [hlo]
      exact xe _ _ (by rw [Int.add_mul, Int.one_mul, Int.mul_assoc]; omega)
    refine Br.pos (by omega) ⟨by omega, ?_⟩
    rw [fd (show (0 : Int) ≤ 9223372036854775808 by decide)]
    refine Br.i (fun c => one (by omega)) (fun c => Br.i (fun c2 => one (by omega)) (fun c2 => Num.n (by omega) ?_))
    have e4 : r * 2 % 18446744073709551616 + bit = 2 * r + bit := by omega
    rw [e4, ← q2]
    refine div_loop w d x1 d0 d1 (by rw [hlo]; exact l0) (by rw [hlo]; exact l1) n (by omega) (2 * q) (2 * r + bit) (by omega) (by rw [q2]; exact q1) (by omega) (by omega) ?_ hQ
    rw [hlo]
    exact xe _ _ (by rw [Int.mul_assoc]; omega)

theorem Div_r {hi lo d : Int} (h0 : 0 ≤ hi) (h1 : hi ≤ 18446744073709551615) (l0 : 0 ≤ lo) (l1 : lo ≤ 18446744073709551615) (d0 : 0 < d) (d1 : d ≤ 18446744073709551615) :
    ∃ Q R : Int, _fixnum_Wide_Div_r ⟨hi, lo⟩ d (⟨hi / d, Q⟩, R) ∧ R = (hi * 18446744073709551616 + lo) % d ∧ hi / d * 18446744073709551616 + Q = (hi * 18446744073709551616 + lo) / d ∧ 0 ≤ Q ∧ 0 ≤ R ∧ R < d := by
  have m0 := Int.emod_nonneg hi (show d ≠ 0 by omega)
  have m1 := Int.emod_lt_of_pos hi d0
  have key : ∀ Q R : Int, hi % d * 18446744073709551616 + lo = Q * d + R → 0 ≤ R → R < d → 0 ≤ Q → R = (hi * 18446744073709551616 + lo) % d ∧ hi / d * 18446744073709551616 + Q = (hi * 18446744073709551616 + lo) / d := by
    intro Q R hx r0 r1 q0
    have tot : hi * 18446744073709551616 + lo = (hi / d * 18446744073709551616 + Q) * d + R := by
      have h2 := Int.mul_ediv_add_emod hi d
      have h3 : hi * 18446744073709551616 = hi / d * 18446744073709551616 * d + hi % d * 18446744073709551616 := by
        conv => lhs; rw [← h2]
        rw [Int.add_mul, Int.mul_comm d, Int.mul_assoc, Int.mul_comm d, ← Int.mul_assoc]
      rw [Int.add_mul]; omega
    constructor
    · rw [tot, Int.mul_comm, Int.add_comm, Int.add_mul_emod_self_left, Int.emod_eq_of_lt r0 r1]
    · rw [tot, Int.mul_comm _ d, Int.add_comm _ R, Int.add_mul_ediv_left _ _ (by omega), Int.ediv_eq_zero_of_lt r0 r1, Int.zero_add]
  -- the quotient's lower half and the rest
  refine ⟨(hi * 18446744073709551616 + lo) / d - hi / d * 18446744073709551616, (hi * 18446744073709551616 + lo) % d, ?_, rfl, by omega, ?_, Int.emod_nonneg _ (by omega), Int.emod_lt_of_pos _ d0⟩
  · refine _fixnum_Wide_Div_of ?_
    unfold _fixnum_Wide_Div_w
    have q0 : 0 ≤ hi / d := Int.ediv_nonneg h0 (by omega)
    refine Br.neg (by omega) (Quo'.i ⟨h0, d0, h1⟩ (Rem'.i ⟨h0, d0⟩ ?_))
    have := div_loop ⟨hi, lo⟩ d (hi % d * 18446744073709551616 + lo) d0 d1 l0 l1 (Q0 := fun (y1 : Int × Int) => _fixnum_Wide_Div_e (fun v_ => v_ = ((⟨hi / d, (hi * 18446744073709551616 + lo) / d - hi / d * 18446744073709551616⟩ : fixnum_Wide), (hi * 18446744073709551616 + lo) % d)) ((⟨hi / d, y1.2⟩ : fixnum_Wide), y1.1)) 64 (by omega) 0 (hi % d) (by omega) (by omega) m0 m1 (by
      intro N hN
      have : lo % 2 ^ 64 = lo := Int.emod_eq_of_lt l0 (by show _ < (18446744073709551616 : Int); omega)
      rw [this, hN, Int.zero_mul, Int.zero_add]; rfl) (by
      intro Q R hx r0 r1 q0
      obtain ⟨k1, k2⟩ := key Q R hx r0 r1 q0
      refine Rt.i ?_
      rw [← k1, ← k2]
      congr 2
      omega)
    simpa using this
  · have h2 : hi / d * 18446744073709551616 * d ≤ hi * 18446744073709551616 + lo := by
      have h3 := Int.mul_ediv_add_emod hi d
      have h4 : hi / d * 18446744073709551616 * d = d * (hi / d) * 18446744073709551616 := by rw [Int.mul_comm d, Int.mul_assoc, Int.mul_comm _ d, ← Int.mul_assoc]
      omega
    have := (Int.le_ediv_iff_mul_le d0).2 h2
    omega

theorem up_r {q r d how : Int} (m : Bool) (q0 : 0 ≤ q) (q1 : q ≤ 18446744073709551615) (r0 : 0 ≤ r) (r1 : r < d) (d1 : d ≤ 18446744073709551615) : fixnum_up_r q r d m how (upOf m q r d how) := by
  refine fixnum_up_of ?_
  unfold fixnum_up_w upOf
  rw [u64 (x := d - r) (by omega) (by omega), and_one q0 q1]
  refine Br.i (fun c => Rt.i (by rw [if_pos c])) (fun c0 => ?_)
  rw [if_neg c0]
  refine Br.i (fun c => Rt.i (by rw [if_pos c])) (fun c1 => ?_)
  rw [if_neg c1]
  refine Br.i (fun c => Rt.i (by rw [if_pos c])) (fun c2 => ?_)
  rw [if_neg c2]
  refine Br.i (fun c => ?_) (fun c3 => Rt.i (by rw [if_neg c3]))
  rw [if_pos c]
  refine Br.i (fun c4 => Rt.i (by rw [if_pos (by omega)])) (fun c4 => ?_)
  rw [if_neg (by omega)]
  refine Br.i (fun c5 => Rt.i ?_) (fun c5 => Rt.i (by rw [if_neg (by omega)]))
  rw [if_pos (by omega)]
  by_cases hq : q % 2 = 1 <;> simp [hq]

theorem signed_r {q : Int} (m : Bool) (q0 : 0 ≤ q) (q1 : q ≤ 18446744073709551615) : fixnum_signed_r q m (signOf m q) := by
  refine fixnum_signed_of ?_
  unfold fixnum_signed_w signOf
  cases m with
  | true =>
    refine Br.t rfl (Br.i (fun c => Rt.i ?_) (fun c => Br.i (fun g => Rt.i ?_) (fun g => Br.t rfl (Rt.i ?_))))
    · subst c; rfl
    · rw [if_pos (by simp; omega)]
    · rw [if_neg (by simp; omega), if_pos rfl, iw q (by omega) (by omega), iw _ (by omega) (by omega), Int.zero_sub]
  | false =>
    refine Br.f rfl (Br.i (fun g => Rt.i ?_) (fun g => Br.f rfl (Rt.i ?_)))
    · rw [if_pos (by simp; omega)]
    · rw [if_neg (by simp; omega), if_neg (by decide), iw q (by omega) (by omega)]

theorem MulDiv_r {a b c how : Int} (ha : InR a) (hb : InR b) (hc : InR c) : fixnum_MulDiv_r a b c how (mulDivS a b c how) := by
  refine fixnum_MulDiv_of ?_
  unfold fixnum_MulDiv_w mulDivS
  refine Br.i (fun c => Rt.i (by rw [if_pos (.inl c)])) (fun c0 => ?_)
  refine Br.i (fun c => Rt.i (by rw [if_pos (.inr (.inl c))])) (fun c1 => ?_)
  refine Br.i (fun c => Rt.i (by rw [if_pos (.inr (.inr c))])) (fun c2 => ?_)
  rw [if_neg (by omega)]
  refine ⟨_, size_r ha, _, size_r hb, _, size_r hc, ?_⟩
  have ab0 : 0 ≤ (a.natAbs : Int) * b.natAbs := Int.mul_nonneg (by omega) (by omega)
  have ab1 : (a.natAbs : Int) * b.natAbs ≤ 9223372036854775808 * 9223372036854775808 := by
    have h1 : (a.natAbs : Int) * b.natAbs ≤ a.natAbs * 9223372036854775808 := Int.mul_le_mul_of_nonneg_left (by have := hb.1; have := hb.2; omega) (by omega)
    have := ha.1; have := ha.2
    omega
  have mm : (!((!(decide (a < 0) == decide (b < 0))) == decide (c < 0))) = minusOf a b c := rfl
  have ha1 := ha.1; have ha2 := ha.2; have hb1 := hb.1; have hb2 := hb.2; have hc1 := hc.1; have hc2 := hc.2
  refine ⟨_, Mul_r (a := a.natAbs) (b := b.natAbs) (by omega) (by omega) (by omega) (by omega), ?_⟩
  obtain ⟨Q, R, he, hR, hQ, q0, r0, r1⟩ := Div_r (hi := (a.natAbs : Int) * b.natAbs / 18446744073709551616) (lo := (a.natAbs : Int) * b.natAbs % 18446744073709551616) (d := c.natAbs) (by omega) (by omega) (by omega) (by omega) (by omega) (by omega)
  have back : (a.natAbs : Int) * b.natAbs / 18446744073709551616 * 18446744073709551616 + (a.natAbs : Int) * b.natAbs % 18446744073709551616 = (a.natAbs : Int) * b.natAbs := by omega
  rw [back] at hR hQ
  refine ⟨_, he, ?_⟩
  simp only [mm]
  generalize (a.natAbs : Int) * b.natAbs = n at *
  have dpos : (0 : Int) < c.natAbs := by omega
  have dle : (c.natAbs : Int) ≤ 9223372036854775808 := by omega
  generalize (c.natAbs : Int) = d at *
  generalize minusOf a b c = mi at *
  have qd : n / 18446744073709551616 / d ≥ 0 := Int.ediv_nonneg (by omega) (by omega)
  refine Br.i (fun over => Rt.i ?_) (fun over => ?_)
  · have g : n / d + (if upOf mi (n / d) (n % d) d how = true then 1 else 0) > 9223372036854775808 := by
      have big : n / d ≥ 18446744073709551616 := by
        generalize n / 18446744073709551616 / d = t at *
        omega
      split <;> omega
    unfold signOf
    rw [if_pos (.inl g)]
  · have z : n / 18446744073709551616 / d = 0 := by omega
    rw [z, Int.zero_mul, Int.zero_add] at hQ
    subst hQ
    subst hR
    have nd : n / d ≤ 18446744073709551615 := by
      have h2 : n / 18446744073709551616 / d = n / d / 18446744073709551616 := by
        rw [Int.ediv_ediv_of_nonneg (by omega), Int.ediv_ediv_of_nonneg (by omega), Int.mul_comm]
      rw [z] at h2
      omega
    refine ⟨_, up_r mi q0 nd r0 r1 (by omega), ?_⟩
    generalize upOf mi (n / d) (n % d) d how = u
    refine Br.b (fun hu => ?_) (fun hu => ?_)
    · rw [if_pos hu]
      refine Br.i (fun w => Rt.i ?_) (fun w => ?_)
      · rw [uw] at w
        unfold signOf
        rw [if_pos (.inl (by omega))]
      · rw [uw] at w
        have lt : n / d + 1 ≤ 18446744073709551615 := by omega
        rw [u64 (by omega) lt]
        exact ⟨_, signed_r _ (by omega) lt, Rt.i rfl⟩
    · rw [if_neg (by rw [hu]; decide), Int.add_zero]
      exact ⟨_, signed_r _ q0 nd, Rt.i rfl⟩
end Go.Proofs.YtghkboapcapooaaGreat.Pure
