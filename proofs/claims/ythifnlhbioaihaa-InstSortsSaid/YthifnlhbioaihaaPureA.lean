/- Plain: bits beside each other are added up. -/
import Derived.Test.YthifnlhbioaihaaSpec
namespace Go.Proofs.Ythifnlhbioaihaa
open Go.RowKit
set_option linter.unusedVariables false
set_option linter.unusedSimpArgs false

theorem or_add (a b k : Nat) (h : a < 2 ^ k) : a ||| b * 2 ^ k = a + b * 2 ^ k := by
  have := Nat.two_pow_add_eq_or_of_lt h b
  rw [Nat.or_comm, Nat.mul_comm b, ← this, Nat.add_comm]

theorem or_add7 (a b : Nat) (h : a < 128) : a ||| b * 128 = a + b * 128 := or_add a b 7 h
theorem or_add8 (a b : Nat) (h : a < 256) : a ||| b * 256 = a + b * 256 := or_add a b 8 h
theorem or_add12 (a b : Nat) (h : a < 4096) : a ||| b * 4096 = a + b * 4096 := or_add a b 12 h
theorem or_add15 (a b : Nat) (h : a < 32768) : a ||| b * 32768 = a + b * 32768 := or_add a b 15 h
theorem or_add20 (a b : Nat) (h : a < 1048576) : a ||| b * 1048576 = a + b * 1048576 := or_add a b 20 h
theorem or_add21 (a b : Nat) (h : a < 2097152) : a ||| b * 2097152 = a + b * 2097152 := or_add a b 21 h
theorem or_add25 (a b : Nat) (h : a < 33554432) : a ||| b * 33554432 = a + b * 33554432 := or_add a b 25 h
theorem or_add26 (a b : Nat) (h : a < 67108864) : a ||| b * 67108864 = a + b * 67108864 := or_add a b 26 h
theorem or_add27 (a b : Nat) (h : a < 134217728) : a ||| b * 134217728 = a + b * 134217728 := or_add a b 27 h
theorem or_add31 (a b : Nat) (h : a < 2147483648) : a ||| b * 2147483648 = a + b * 2147483648 := or_add a b 31 h

theorem or32_nat (a b : Nat) (ha : a < 4294967296) (hb : b < 4294967296) : or32 (a : Int) (b : Int) = ((a ||| b : Nat) : Int) := u32_or_nat a b ha hb

theorem lor_lt (a b : Nat) (ha : a < 4294967296) (hb : b < 4294967296) : a ||| b < 4294967296 := by
  have := Nat.or_lt_two_pow (x := a) (y := b) (n := 32) (by omega) (by omega)
  omega

/-- The registers and the like. -/
theorem base_sum (c rd f3 rs1 rs2 : Nat) (h0 : c < 128) (h1 : rd < 32) (h2 : f3 < 8) (h3 : rs1 < 32) :
    (((c ||| rd * 128) ||| rs1 * 32768) ||| rs2 * 1048576) ||| f3 * 4096 = c + rd * 128 + f3 * 4096 + rs1 * 32768 + rs2 * 1048576 := by
  have e : (((c ||| rd * 128) ||| rs1 * 32768) ||| rs2 * 1048576) ||| f3 * 4096 = (((c ||| rd * 128) ||| f3 * 4096) ||| rs1 * 32768) ||| rs2 * 1048576 := by ac_rfl
  rw [e, or_add7 _ _ h0, or_add12 _ _ (by omega), or_add15 _ _ (by omega), or_add20 _ _ (by omega)]

theorem get_lit (x : Int) (a n : Nat) (ha : a ≤ 63) : get x a n = x / 2 ^ a % 2 ^ n := by
  unfold get
  rw [if_neg (by omega), if_neg (by omega)]
  rfl

end Go.Proofs.Ythifnlhbioaihaa
