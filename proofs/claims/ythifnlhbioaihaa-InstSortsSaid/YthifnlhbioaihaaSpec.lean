/- The plain functions that the walks' contracts speak of: words, instructions as words. No program in it. -/
import Derived.Test.YthifnlhbioaihaaTab
import Derived.Laws.BitsAllLaws
import Derived.Laws.Bits64
namespace Go.Proofs.Ythifnlhbioaihaa
open Go.RowKit
set_option linter.unusedVariables false
set_option linter.unusedSimpArgs false

/-- n bits of a word from a place on. -/
def get (w at_ n : Int) : Int := if at_ < 0 then 0 else if 63 < at_ then 0 else w / 2 ^ at_.toNat % 2 ^ n.toNat

theorem get_nonneg (w a n : Int) : 0 ≤ get w a n := by
  unfold get
  split
  · omega
  · split
    · omega
    · exact Int.emod_nonneg _ (Int.pow_ne_zero (by decide))

theorem pow_toNat (k : Nat) : ((2 : Int) ^ k) = ((2 ^ k : Nat) : Int) := by simp

theorem mask_wrap (n : Int) (h0 : 0 < n) (h1 : n < 64) : IntKind.u64.wrap (IntKind.u64.wrap (2 ^ n.toNat) - 1) = 2 ^ n.toNat - 1 := by
  obtain ⟨k, rfl⟩ := Int.eq_ofNat_of_zero_le (Int.le_of_lt h0)
  rw [Int.toNat_natCast, IntKind.wrap_u64, IntKind.wrap_u64, pow_toNat]
  have h2 : 2 ^ k < 2 ^ 64 := Nat.pow_lt_pow_right (by omega) (by omega)
  have h3 : 0 < 2 ^ k := Nat.two_pow_pos k
  omega

theorem and_low (w : Int) (k : Nat) (h0 : 0 ≤ w) (h1 : w < 18446744073709551616) (hk : k < 64) : bits .and .u64 w (2 ^ k - 1) = w % 2 ^ k := by
  obtain ⟨v, rfl⟩ := Int.eq_ofNat_of_zero_le h0
  have h2 : 2 ^ k < 2 ^ 64 := Nat.pow_lt_pow_right (by omega) (by omega)
  have h3 : 0 < 2 ^ k := Nat.two_pow_pos k
  have e : ((2 : Int) ^ k - 1) = ((2 ^ k - 1 : Nat) : Int) := by rw [pow_toNat]; omega
  rw [e, u64_and_nat v _ (by omega) (by omega), Nat.and_two_pow_sub_one_eq_mod, pow_toNat]
  omega

theorem and_all (w : Int) (h0 : 0 ≤ w) (h1 : w < 18446744073709551616) : bits .and .u64 w 18446744073709551615 = w := by
  obtain ⟨v, rfl⟩ := Int.eq_ofNat_of_zero_le h0
  have := u64_and_nat v 18446744073709551615 (by omega) (by omega)
  rw [show ((18446744073709551615 : Int)) = ((18446744073709551615 : Nat) : Int) from rfl, this]
  have e := Nat.and_two_pow_sub_one_eq_mod v 64
  simp only [Nat.reducePow, Nat.reduceSub] at e
  rw [e]; omega

theorem and_zero (w : Int) (h0 : 0 ≤ w) (h1 : w < 18446744073709551616) : bits .and .u64 w 0 = 0 := by
  have := and_low w 0 h0 h1 (by omega)
  simpa using this

/-- So many low bits. -/
def mask (n : Int) : Int := if n ≤ 0 then 0 else if 64 ≤ n then 18446744073709551615 else 2 ^ n.toNat - 1

theorem and_mask (w n : Int) (h0 : 0 ≤ w) (h1 : w < 18446744073709551616) : bits .and .u64 w (mask n) = w % 2 ^ n.toNat := by
  unfold mask
  split
  · rw [and_zero w h0 h1, show n.toNat = 0 by omega]; simp
  · split
    · rw [and_all w h0 h1]
      have h2 : 2 ^ 64 ≤ 2 ^ n.toNat := Nat.pow_le_pow_right (by omega) (by omega)
      rw [pow_toNat, Int.emod_eq_of_lt h0 (by omega)]
    · exact and_low w _ h0 h1 (by omega)

theorem div_pow_lt (x a : Int) (h0 : 0 ≤ x) (h1 : x < 18446744073709551616) : 0 ≤ x / 2 ^ a.toNat ∧ x / 2 ^ a.toNat < 18446744073709551616 := by
  obtain ⟨v, rfl⟩ := Int.eq_ofNat_of_zero_le h0
  rw [pow_toNat]
  have h2 := Nat.div_le_self v (2 ^ a.toNat)
  rw [← Int.natCast_ediv]
  generalize v / 2 ^ a.toNat = q at *
  omega

theorem get_lt (w a n : Int) (h0 : 0 ≤ w) (h1 : w < 18446744073709551616) : get w a n < 18446744073709551616 := by
  unfold get
  split
  · omega
  · split
    · omega
    · have h := div_pow_lt w a h0 h1
      obtain ⟨v, hv⟩ := Int.eq_ofNat_of_zero_le h.1
      rw [hv, pow_toNat, ← Int.natCast_emod]
      have h3 := Nat.mod_le v (2 ^ n.toNat)
      generalize v % 2 ^ n.toNat = q at *
      omega

theorem mod_pow_lt (x n : Int) (h0 : 0 ≤ x) (h1 : x < 18446744073709551616) : x % 2 ^ n.toNat < 18446744073709551616 := by
  obtain ⟨v, rfl⟩ := Int.eq_ofNat_of_zero_le h0
  rw [pow_toNat, ← Int.natCast_emod]
  have h3 := Nat.mod_le v (2 ^ n.toNat)
  generalize v % 2 ^ n.toNat = q at *
  omega

/-- The low n bits of a word, the highest of them above them all. -/
def sext (x n : Int) : Int :=
  if n ≤ 0 then 0 else if 64 ≤ n then x
  else if get (x % 2 ^ n.toNat) (n - 1) 1 = 1 then bits .or .u64 (x % 2 ^ n.toNat) (bits .xor .u64 18446744073709551615 (mask n)) else x % 2 ^ n.toNat

/-- Some low bits of a number, moved to a place. -/
def place (v f n t : Int) : Int := get (v % 18446744073709551616) f n * 2 ^ t.toNat % 4294967296

/-- Which parts a form has, and how great its number may be. -/
structure Parts where
  rd : Bool
  rs1 : Bool
  rs2 : Bool
  imm : Bool
  csr : Bool
  order : Bool
  least : Int
  most : Int
  by_ : Int

def partsOf (f : Int) : Parts :=
  if f == 1 then ⟨true, false, false, true, false, false, -2147483648, 2147479552, 4096⟩
  else if f == 2 then ⟨true, false, false, true, false, false, -1048576, 1048574, 2⟩
  else if f == 3 then ⟨true, true, false, true, false, false, -2048, 2047, 1⟩
  else if f == 5 then ⟨true, true, false, true, false, false, -2048, 2047, 1⟩
  else if f == 4 then ⟨false, true, true, true, false, false, -4096, 4094, 2⟩
  else if f == 6 then ⟨false, true, true, true, false, false, -2048, 2047, 1⟩
  else if f == 7 then ⟨true, true, false, true, false, false, 0, 63, 1⟩
  else if f == 8 then ⟨true, true, false, true, false, false, 0, 31, 1⟩
  else if f == 9 then ⟨true, true, true, false, false, false, 0, 0, 0⟩
  else if f == 10 then ⟨true, true, false, true, false, false, 0, 4095, 1⟩
  else if f == 12 then ⟨true, true, false, false, true, false, 0, 0, 0⟩
  else if f == 13 then ⟨true, false, false, true, true, false, 0, 31, 1⟩
  else if f == 14 then ⟨true, true, false, false, false, true, 0, 0, 0⟩
  else if f == 15 then ⟨true, true, true, false, false, true, 0, 0, 0⟩
  else if f == 16 then ⟨false, true, true, false, false, false, 0, 0, 0⟩
  else ⟨false, false, false, false, false, false, 0, 0, 0⟩

def Parts.cells (p : Parts) : Array Value := #[.bool p.rd, .bool p.rs1, .bool p.rs2, .bool p.imm, .bool p.csr, .bool p.order, .int .i64 p.least, .int .i64 p.most, .int .i64 p.by_]
def Parts.v (p : Parts) : Value := .agg p.cells

/-- An instruction. -/
structure Ins where
  op : Int
  rd : Int
  rs1 : Int
  rs2 : Int
  imm : Int
  csr : Int
  aq : Bool
  rl : Bool
  deriving DecidableEq

def Ins.v (x : Ins) : Value := .agg #[.int .i64 x.op, .int .i64 x.rd, .int .i64 x.rs1, .int .i64 x.rs2, .int .i64 x.imm, .int .i64 x.csr, .bool x.aq, .bool x.rl]

/-- Is a number a register's, or 0 where there is none? -/
def regOk (n : Int) (there : Bool) : Bool := if there then decide (0 ≤ n ∧ n < 32) else decide (n = 0)

/-- The bits that tell an operation of a form. -/
def maskOf (f : Int) : Int :=
  if f == 1 then 127 else if f == 2 then 127 else if f == 7 then 4227887231 else if f == 8 then 4261441663 else if f == 9 then 4261441663
  else if f == 11 then 4294967295 else if f == 14 then 4193284223 else if f == 15 then 4160778367 else if f == 16 then 4261445631 else 28799

def or32 (a b : Int) : Int := bits .or .u32 a b

/-- What a form has besides its registers. -/
def restOf (f f7 imm csr : Int) (aq rl : Bool) : Int :=
  if f == 1 then place imm 12 20 12
  else if f == 2 then or32 (or32 (or32 (place imm 20 1 31) (place imm 1 10 21)) (place imm 11 1 20)) (place imm 12 8 12)
  else if f == 3 || f == 5 || f == 10 then place imm 0 12 20
  else if f == 4 then or32 (or32 (or32 (place imm 12 1 31) (place imm 5 6 25)) (place imm 1 4 8)) (place imm 11 1 7)
  else if f == 6 then or32 (place imm 5 7 25) (place imm 0 5 7)
  else if f == 7 || f == 8 then or32 (place imm 0 6 20) (f7 * 33554432 % 4294967296)
  else if f == 11 then f7 * 1048576 % 4294967296
  else if f == 12 then csr % 4294967296 * 1048576 % 4294967296
  else if f == 13 then or32 (csr % 4294967296 * 1048576 % 4294967296) (place imm 0 5 15)
  else if f == 14 || f == 15 then
    let w := f7 * 134217728 % 4294967296
    let w := if aq then or32 w 67108864 else w
    if rl then or32 w 33554432 else w
  else f7 * 33554432 % 4294967296

end Go.Proofs.Ythifnlhbioaihaa
