-- a shortened text: what this claim does not name is left out (wip/xprint/prune.py of this repo)
import Derived.Laws.BitsLemmas
import Derived.Test.YtlbhjkbjokiioaaMDS
import Derived.Test.YtlbhjkbjokiioaaX2
import Derived.Test.YtlbhjkbjokiioaaX3
namespace Go.Proofs.Ytlbhjkbjokiioaa.PFix
open Go Go.RowKit Go.Proofs.Ytlbhjkbjokiioaa.X Go.Proofs.YtlbhjkbjokiioaaW.PrintWords Go.Proofs.YtlbhjkbjokiioaaW.PrintLast Go.Proofs.YtlbhjkbjokiioaaW.PrintMore Go.Proofs.Ytlbhjkbjokiioaa.MDS
theorem w64 {x : Int} (h0 : -9223372036854775808 ≤ x) (h1 : x ≤ 9223372036854775807) : wrap64 x = x := by unfold wrap64; omega
theorem u64 {x : Int} (h0 : 0 ≤ x) (h1 : x ≤ 18446744073709551615) : IntKind.u64.wrap x = x := IntWalk.u64_in x ⟨h0, h1⟩
theorem uw (x : Int) : IntKind.u64.wrap x = x % 18446744073709551616 := by simp [IntKind.wrap, IntKind.bits, IntKind.signed]
theorem uwr (n : Int) (h0 : 0 ≤ n) (h1 : n < 2 ^ 64) : IntKind.u64.wrap n = n := u64 h0 (by have : (2 : Int) ^ 64 = 18446744073709551616 := rfl; omega)
theorem size_eq {n : Int} (h0 : -9223372036854775808 ≤ n) (h1 : n ≤ 9223372036854775807) : fixnum_size.f n = some ((n.natAbs : Int), decide (n < 0)) := by
  unfold fixnum_size.f
  by_cases c : n < 0
  · rw [if_pos c, uw n, uw, decide_eq_true c]
    congr 2; omega
  · rw [if_neg c, uw, decide_eq_false c]
    congr 2; omega
theorem and_half {x : Int} (h0 : 0 ≤ x) (h1 : x ≤ 18446744073709551615) : Go.bits .and .u64 x 4294967295 = x % 4294967296 :=
  bits_mask .u64 64 (by decide) uwr 32 (by decide) x h0 (by have : (2 : Int) ^ 64 = 18446744073709551616 := rfl; omega)
theorem and_one {x : Int} (h0 : 0 ≤ x) (h1 : x ≤ 18446744073709551615) : Go.bits .and .u64 x 1 = x % 2 :=
  bits_mask .u64 64 (by decide) uwr 1 (by decide) x h0 (by have : (2 : Int) ^ 64 = 18446744073709551616 := rfl; omega)
theorem prod_bd {x y : Int} (x0 : 0 ≤ x) (x1 : x ≤ 4294967295) (y0 : 0 ≤ y) (y1 : y ≤ 4294967295) : 0 ≤ x * y ∧ x * y ≤ 18446744065119617025 := by
  refine ⟨Int.mul_nonneg x0 y0, ?_⟩
  have h1 : x * y ≤ x * 4294967295 := Int.mul_le_mul_of_nonneg_left y1 x0
  omega
theorem mul_halves (a1 a0 b1 b0 : Int) : (a1 * 4294967296 + a0) * (b1 * 4294967296 + b0) = a1 * b1 * 18446744073709551616 + (a1 * b0 + a0 * b1) * 4294967296 + a0 * b0 := by
  simp only [Int.add_mul, Int.mul_add]
  rw [Int.mul_assoc a1 4294967296, Int.mul_left_comm 4294967296 b1, Int.mul_left_comm a0 b1, ← Int.mul_assoc a1 b1, Int.mul_assoc a1 4294967296 b0, Int.mul_left_comm a1 4294967296 b0]
  have e1 : b1 * (a0 * 4294967296) = a0 * b1 * 4294967296 := by rw [Int.mul_comm b1, Int.mul_assoc, Int.mul_comm 4294967296, ← Int.mul_assoc]
  omega
theorem mul_eq {a b : Int} (a0 : 0 ≤ a) (a1 : a ≤ 18446744073709551615) (b0 : 0 ≤ b) (b1 : b ≤ 18446744073709551615) : fixnum_Mul.f a b = some (a * b / 18446744073709551616, a * b % 18446744073709551616) := by
  unfold fixnum_Mul.f
  rw [and_half a0 a1, and_half b0 b1]
  have p00 := prod_bd (x := a % 4294967296) (y := b % 4294967296) (by omega) (by omega) (by omega) (by omega)
  have p10 := prod_bd (x := a / 4294967296) (y := b % 4294967296) (by omega) (by omega) (by omega) (by omega)
  have p01 := prod_bd (x := a % 4294967296) (y := b / 4294967296) (by omega) (by omega) (by omega) (by omega)
  have p11 := prod_bd (x := a / 4294967296) (y := b / 4294967296) (by omega) (by omega) (by omega) (by omega)
  have e : a * b = a / 4294967296 * (b / 4294967296) * 18446744073709551616 + (a / 4294967296 * (b % 4294967296) + a % 4294967296 * (b / 4294967296)) * 4294967296 + a % 4294967296 * (b % 4294967296) := by
    rw [← mul_halves]
    congr 1 <;> omega
  have tot : 0 ≤ a * b ∧ a * b < 340282366920938463463374607431768211456 := by
    refine ⟨Int.mul_nonneg a0 b0, ?_⟩
    have h1 : a * b ≤ a * 18446744073709551615 := Int.mul_le_mul_of_nonneg_left b1 a0
    omega
  generalize a * b = ab at *
  generalize a / 4294967296 * (b / 4294967296) = w at *
  generalize a / 4294967296 * (b % 4294967296) = x at *
  generalize a % 4294967296 * (b / 4294967296) = y at *
  generalize a % 4294967296 * (b % 4294967296) = z at *
  clear a0 a1 b0 b1
  rw [u64 (x := z) (by omega) (by omega), u64 (x := x) (by omega) (by omega), u64 (x := y) (by omega) (by omega), u64 (x := w) (by omega) (by omega),
    u64 (x := x + z / 4294967296) (by omega) (by omega), and_half (x := x + z / 4294967296) (by omega) (by omega), and_half (x := z) (by omega) (by omega),
    u64 (x := y + (x + z / 4294967296) % 4294967296) (by omega) (by omega), u64 (x := w + (x + z / 4294967296) / 4294967296) (by omega) (by omega)]
  have hi : w + (x + z / 4294967296) / 4294967296 + (y + (x + z / 4294967296) % 4294967296) / 4294967296 = ab / 18446744073709551616 := by omega
  rw [hi, u64 (x := ab / 18446744073709551616) (by omega) (by omega), uw]
  have j := bits_join .u64 64 (by decide) uwr 32 ((y + (x + z / 4294967296) % 4294967296) * 4294967296 % 18446744073709551616) (z % 4294967296) (by omega)
    (by show _ % (4294967296 : Int) = 0; omega) (by show _ < (18446744073709551616 : Int); omega) (by omega) (by show _ < (4294967296 : Int); omega) (by show _ < (18446744073709551616 : Int); omega)
  rw [j]
  congr 2
  omega
end Go.Proofs.Ytlbhjkbjokiioaa.PFix
