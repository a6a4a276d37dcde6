/- What fixnum's functions come to: MulDiv is a product, divided and rounded. -/
import Derived.Laws.BitsLemmas
import Derived.Laws.Entries
import Derived.IntWalk
import Derived.Test.YtgncepjnbdhmkaaGreatRF
set_option linter.unusedVariables false
set_option linter.unusedSimpArgs false
namespace Go.Proofs.YtgncepjnbdhmkaaGreat.Pure
open Go Go.Ab Go.Proofs.YtgncepjnbdhmkaaGreat.R

/-- A product, divided, rounded. -/
def minusOf (a b c : Int) : Bool := (decide (a < 0) != decide (b < 0)) != decide (c < 0)
def upOf (m : Bool) (q r d how : Int) : Bool :=
  if r = 0 then false else if how = 1 then m else if how = 2 then !m else if how = 4 then (if d < 2 * r then true else if 2 * r = d then decide (q % 2 = 1) else false) else false
def signOf (m : Bool) (q : Int) : Int × Int := if 9223372036854775808 < q ∨ (q = 9223372036854775808 ∧ m = false) then (0, 9) else (if m = true then -q else q, 0)
def mulDivS (a b c how : Int) : Int × Int :=
  if c = 0 ∨ how < 1 ∨ 4 < how then (0, 1)
  else
    let n : Int := (a.natAbs : Int) * b.natAbs
    let d : Int := c.natAbs
    signOf (minusOf a b c) (n / d + if upOf (minusOf a b c) (n / d) (n % d) d how = true then 1 else 0)

theorem u64 {x : Int} (h0 : 0 ≤ x) (h1 : x ≤ 18446744073709551615) : IntKind.u64.wrap x = x := IntWalk.u64_in x ⟨h0, h1⟩
theorem uw (x : Int) : IntKind.u64.wrap x = x % 18446744073709551616 := by simp [IntKind.wrap, IntKind.bits, IntKind.signed]
theorem uwr (n : Int) (h0 : 0 ≤ n) (h1 : n < 2 ^ 64) : IntKind.u64.wrap n = n := u64 h0 (by have : (2 : Int) ^ 64 = 18446744073709551616 := rfl; omega)
theorem iw (x : Int) (h0 : -9223372036854775808 ≤ x) (h1 : x ≤ 9223372036854775807) : IntKind.i64.wrap x = x := IntWalk.i64_in x ⟨h0, h1⟩

theorem size_r {n : Int} (h : InR n) : fixnum_size_r n ((n.natAbs : Int), decide (n < 0)) := by
  refine fixnum_size_of ?_
  unfold fixnum_size_w
  refine Br.i (fun c => Rt.i ?_) (fun c => Rt.i ?_)
  · rw [uw n, uw, decide_eq_true c]
    congr 1; omega
  · rw [uw, decide_eq_false c]
    congr 1; omega

theorem and_half {x : Int} (h0 : 0 ≤ x) (h1 : x ≤ 18446744073709551615) : bAnd .u64 x 4294967295 = x % 4294967296 :=
  bits_mask .u64 64 (by decide) uwr 32 (by decide) x h0 (by have : (2 : Int) ^ 64 = 18446744073709551616 := rfl; omega)
theorem and_one {x : Int} (h0 : 0 ≤ x) (h1 : x ≤ 18446744073709551615) : bAnd .u64 x 1 = x % 2 :=
  bits_mask .u64 64 (by decide) uwr 1 (by decide) x h0 (by have : (2 : Int) ^ 64 = 18446744073709551616 := rfl; omega)
theorem fd {x d : Int} (h : 0 ≤ d) : x.fdiv d = x / d := by rw [Int.fdiv_eq_ediv_of_nonneg _ h]

theorem prod_bd {x y : Int} (x0 : 0 ≤ x) (x1 : x ≤ 4294967295) (y0 : 0 ≤ y) (y1 : y ≤ 4294967295) : 0 ≤ x * y ∧ x * y ≤ 18446744065119617025 := by
  refine ⟨Int.mul_nonneg x0 y0, ?_⟩
  have h1 : x * y ≤ x * 4294967295 := Int.mul_le_mul_of_nonneg_left y1 x0
  omega

theorem mul_halves (a1 a0 b1 b0 : Int) : (a1 * 4294967296 + a0) * (b1 * 4294967296 + b0) = a1 * b1 * 18446744073709551616 + (a1 * b0 + a0 * b1) * 4294967296 + a0 * b0 := by
  simp only [Int.add_mul, Int.mul_add]
  rw [Int.mul_assoc a1 4294967296, Int.mul_left_comm 4294967296 b1, Int.mul_left_comm a0 b1, ← Int.mul_assoc a1 b1, Int.mul_assoc a1 4294967296 b0, Int.mul_left_comm a1 4294967296 b0]
  have e1 : b1 * (a0 * 4294967296) = a0 * b1 * 4294967296 := by rw [Int.mul_comm b1, Int.mul_assoc, Int.mul_comm 4294967296, ← Int.mul_assoc]
  omega

theorem Mul_r {a b : Int} (a0 : 0 ≤ a) (a1 : a ≤ 18446744073709551615) (b0 : 0 ≤ b) (b1 : b ≤ 18446744073709551615) : fixnum_Mul_r a b ⟨a * b / 18446744073709551616, a * b % 18446744073709551616⟩ := by
  refine fixnum_Mul_of ?_
  unfold fixnum_Mul_w
  refine Rt.i ?_
  simp only [fd (show (0 : Int) ≤ 4294967296 by decide), and_half a0 a1, and_half b0 b1]
  have p00 := prod_bd (x := a % 4294967296) (y := b % 4294967296) (by omega) (by omega) (by omega) (by omega)
  have p10 := prod_bd (x := a / 4294967296) (y := b % 4294967296) (by omega) (by omega) (by omega) (by omega)
  have p01 := prod_bd (x := a % 4294967296) (y := b / 4294967296) (by omega) (by omega) (by omega) (by omega)
  have p11 := prod_bd (x := a / 4294967296) (y := b / 4294967296) (by omega) (by omega) (by omega) (by omega)
  have e : a * b = a / 4294967296 * (b / 4294967296) * 18446744073709551616 + (a / 4294967296 * (b % 4294967296) + a % 4294967296 * (b / 4294967296)) * 4294967296 + a % 4294967296 * (b % 4294967296) := by
    rw [← mul_halves]
    congr 1 <;> omega
  have tot : 0 ≤ a * b ∧ a * b < 340282366920938463463374607431768211456 := by
    refine ⟨Int.mul_nonneg a0 b0, ?_⟩
    have h1 : a * b ≤ a * 18446744073709551615 := Int.mul_le_mul_of_nonneg_left b1 a0
    omega
  generalize a * b = ab at *
  generalize a / 4294967296 * (b / 4294967296) = w at *
  generalize a / 4294967296 * (b % 4294967296) = x at *
  generalize a % 4294967296 * (b / 4294967296) = y at *
  generalize a % 4294967296 * (b % 4294967296) = z at *
  clear a0 a1 b0 b1
  rw [u64 (x := z) (by omega) (by omega), u64 (x := x) (by omega) (by omega), u64 (x := y) (by omega) (by omega), u64 (x := w) (by omega) (by omega),
    u64 (x := x + z / 4294967296) (by omega) (by omega), and_half (x := x + z / 4294967296) (by omega) (by omega), and_half (x := z) (by omega) (by omega),
    u64 (x := y + (x + z / 4294967296) % 4294967296) (by omega) (by omega), u64 (x := w + (x + z / 4294967296) / 4294967296) (by omega) (by omega)]
  have hi : w + (x + z / 4294967296) / 4294967296 + (y + (x + z / 4294967296) % 4294967296) / 4294967296 = ab / 18446744073709551616 := by omega
  rw [hi, u64 (x := ab / 18446744073709551616) (by omega) (by omega), uw]
  have j : bOr .u64 _ _ = _ := bits_join .u64 64 (by decide) uwr 32 ((y + (x + z / 4294967296) % 4294967296) * 4294967296 % 18446744073709551616) (z % 4294967296) (by omega)
    (by show _ % (4294967296 : Int) = 0; omega) (by show _ < (18446744073709551616 : Int); omega) (by omega) (by show _ < (4294967296 : Int); omega) (by show _ < (18446744073709551616 : Int); omega)
  rw [j]
  congr 1
  omega

theorem shr_nat {x : Int} {n : Nat} (h : n ≤ 63) : bShr .u64 x (n : Int) = x / 2 ^ n := by
  unfold bShr
  rw [Int.toNat_natCast, Nat.min_eq_left (by show n ≤ 64; omega), Int.fdiv_eq_ediv_of_nonneg _ (Int.le_of_lt (Int.pow_pos (by decide)))]
theorem two_pow_le {n : Nat} (h : n ≤ 63) : (1 : Int) ≤ 2 ^ n ∧ (2 : Int) ^ n ≤ 9223372036854775808 := by
  refine ⟨?_, ?_⟩
  · have : (0 : Int) < 2 ^ n := Int.pow_pos (by decide)
    omega
  · have h1 : (2 : Nat) ^ n ≤ 2 ^ 63 := Nat.pow_le_pow_right (by decide) h
    have h2 : ((2 ^ n : Nat) : Int) ≤ ((2 ^ 63 : Nat) : Int) := Int.ofNat_le.2 h1
    simpa using h2
theorem shl_nat {n : Nat} (h : n ≤ 63) : bShl .u64 1 (n : Int) = 2 ^ n := by
  unfold bShl
  have b := two_pow_le h
  rw [Int.toNat_natCast, Nat.min_eq_left (by show n ≤ 64; omega), Int.one_mul, u64 (by omega) (by omega)]

/-- Shifted, with a bit put behind. -/
theorem or_bit {r b : Int} (_h0 : 0 ≤ r) (_h1 : r ≤ 18446744073709551615) (b0 : 0 ≤ b) (b1 : b < 2) : bOr .u64 (IntKind.u64.wrap (r * 2)) b = r * 2 % 18446744073709551616 + b := by
  rw [uw]
  exact bits_join .u64 64 (by decide) uwr 1 _ b (by omega) (by show _ % (2 : Int) = 0; omega) (by show _ < (18446744073709551616 : Int); omega) b0 (by show _ < (2 : Int); omega) (by show _ < (18446744073709551616 : Int); omega)

theorem or_pow {q : Int} {n : Nat} (h : n ≤ 63) (h0 : 0 ≤ q) (h1 : q * 2 ^ (n + 1) < 18446744073709551616) : bOr .u64 (q * 2 ^ (n + 1)) (2 ^ n) = q * 2 ^ (n + 1) + 2 ^ n := by
  have b := two_pow_le h
  have p : (2 : Int) ^ (n + 1) = 2 * 2 ^ n := by rw [Int.pow_succ]; omega
  exact bits_join .u64 64 (by decide) uwr (n + 1) _ _ (Int.mul_nonneg h0 (by omega)) (Int.mul_emod_left _ _) (by show _ < (18446744073709551616 : Int); exact h1) (by omega) (by rw [p]; omega) (by show _ < (18446744073709551616 : Int); omega)
end Go.Proofs.YtgncepjnbdhmkaaGreat.Pure
