/- Plain: a right instruction's word is its operation's, and is read as it. -/
import Derived.Test.YthifnlhbioaihaaPureF
import Derived.Test.YthifnlhbioaihaaPureD
namespace Go.Proofs.Ythifnlhbioaihaa
open Go.RowKit
set_option linter.unusedVariables false
set_option linter.unusedSimpArgs false
theorem upper_back (v : Int) (h0 : -2147483648 ≤ v) (h1 : v ≤ 2147479552) (h2 : v % 4096 = 0) : sgn 2147483648 ((fld v 12 20 : Int) * 4096) = v := by
  simp only [fld, Nat.reducePow]; unfold sgn; split <;> omega
theorem jump_back (v : Int) (h0 : -1048576 ≤ v) (h1 : v ≤ 1048574) (h2 : v % 2 = 0) : sgn 1048576 ((fld v 20 1 : Int) * 1048576 + (fld v 1 10 : Int) * 2 + (fld v 11 1 : Int) * 2048 + (fld v 12 8 : Int) * 4096) = v := by
  simp only [fld, Nat.reducePow]; unfold sgn; split <;> omega
theorem branch_back (v : Int) (h0 : -4096 ≤ v) (h1 : v ≤ 4094) (h2 : v % 2 = 0) : sgn 4096 ((fld v 12 1 : Int) * 4096 + (fld v 5 6 : Int) * 32 + (fld v 1 4 : Int) * 2 + (fld v 11 1 : Int) * 2048) = v := by
  simp only [fld, Nat.reducePow]; unfold sgn; split <;> omega
theorem store_back (v : Int) (h0 : -2048 ≤ v) (h1 : v ≤ 2047) : sgn 2048 ((fld v 5 7 : Int) * 32 + (fld v 0 5 : Int)) = v := by
  simp only [fld, Nat.reducePow]; unfold sgn; split <;> omega
theorem number_back (v : Int) (h0 : -2048 ≤ v) (h1 : v ≤ 2047) : sgn 2048 (fld v 0 12 : Int) = v := by
  simp only [fld, Nat.reducePow]; unfold sgn; split <;> omega
theorem low_back12 (v : Int) (h0 : 0 ≤ v) (h1 : v ≤ 4095) : (fld v 0 12 : Int) = v := by
  simp only [fld, Nat.reducePow]; omega
theorem low_back6 (v : Int) (h0 : 0 ≤ v) (h1 : v ≤ 63) : (fld v 0 6 : Int) = v := by
  simp only [fld, Nat.reducePow]; omega
theorem low_back5 (v : Int) (h0 : 0 ≤ v) (h1 : v ≤ 31) : (fld v 0 5 : Int) = v := by
  simp only [fld, Nat.reducePow]; omega

theorem upper_fwd (a : Nat) (ha : a < 1048576) : fld (sgn 2147483648 ((a : Int) * 4096)) 12 20 = a ∧ -2147483648 ≤ sgn 2147483648 ((a : Int) * 4096) ∧ sgn 2147483648 ((a : Int) * 4096) ≤ 2147479552 ∧ sgn 2147483648 ((a : Int) * 4096) % 4096 = 0 := by
  simp only [fld, Nat.reducePow]; unfold sgn; split <;> omega
theorem jump_fwd (a b c d : Nat) (ha : a < 2) (hb : b < 1024) (hc : c < 2) (hd : d < 256) (v : Int) (hv : v = sgn 1048576 ((a : Int) * 1048576 + (b : Int) * 2 + (c : Int) * 2048 + (d : Int) * 4096)) :
    fld v 20 1 = a ∧ fld v 1 10 = b ∧ fld v 11 1 = c ∧ fld v 12 8 = d ∧ -1048576 ≤ v ∧ v ≤ 1048574 ∧ v % 2 = 0 := by
  simp only [fld, Nat.reducePow]; unfold sgn at hv; refine ⟨?_, ?_, ?_, ?_, ?_, ?_, ?_⟩ <;> split at hv <;> omega
theorem branch_fwd (a b c d : Nat) (ha : a < 2) (hb : b < 64) (hc : c < 16) (hd : d < 2) (v : Int) (hv : v = sgn 4096 ((a : Int) * 4096 + (b : Int) * 32 + (c : Int) * 2 + (d : Int) * 2048)) :
    fld v 12 1 = a ∧ fld v 5 6 = b ∧ fld v 1 4 = c ∧ fld v 11 1 = d ∧ -4096 ≤ v ∧ v ≤ 4094 ∧ v % 2 = 0 := by
  simp only [fld, Nat.reducePow]; unfold sgn at hv; refine ⟨?_, ?_, ?_, ?_, ?_, ?_, ?_⟩ <;> split at hv <;> omega
theorem store_fwd (a b : Nat) (ha : a < 128) (hb : b < 32) (v : Int) (hv : v = sgn 2048 ((a : Int) * 32 + (b : Int))) : fld v 5 7 = a ∧ fld v 0 5 = b ∧ -2048 ≤ v ∧ v ≤ 2047 := by
  simp only [fld, Nat.reducePow]; unfold sgn at hv; refine ⟨?_, ?_, ?_, ?_⟩ <;> split at hv <;> omega
theorem number_fwd (a : Nat) (ha : a < 4096) (v : Int) (hv : v = sgn 2048 (a : Int)) : fld v 0 12 = a ∧ -2048 ≤ v ∧ v ≤ 2047 := by
  simp only [fld, Nat.reducePow]; unfold sgn at hv; refine ⟨?_, ?_, ?_⟩ <;> split at hv <;> omega

theorem digI (W a n d : Nat) (h : W / a % n = d) : (W : Int) / (a : Int) % (n : Int) = d := by rw [← h]; rfl
theorem wself5 (W : Nat) : wrap64 ((W : Int) / 128 % 32) = (W : Int) / 128 % 32 := by unfold wrap64; omega
theorem wdig5 (W d : Nat) (h : W / 128 % 32 = d) : wrap64 ((W : Int) / 128 % 32) = d := (wself5 W).trans (digI W 128 32 d h)
theorem wself15 (W : Nat) : wrap64 ((W : Int) / 32768 % 32) = (W : Int) / 32768 % 32 := by unfold wrap64; omega
theorem wdig15 (W d : Nat) (h : W / 32768 % 32 = d) : wrap64 ((W : Int) / 32768 % 32) = d := (wself15 W).trans (digI W 32768 32 d h)
theorem wself20 (W : Nat) : wrap64 ((W : Int) / 1048576 % 32) = (W : Int) / 1048576 % 32 := by unfold wrap64; omega
theorem wdig20 (W d : Nat) (h : W / 1048576 % 32 = d) : wrap64 ((W : Int) / 1048576 % 32) = d := (wself20 W).trans (digI W 1048576 32 d h)
theorem wself12 (W : Nat) : wrap64 ((W : Int) / 1048576 % 4096) = (W : Int) / 1048576 % 4096 := by unfold wrap64; omega
theorem wdig12 (W d : Nat) (h : W / 1048576 % 4096 = d) : wrap64 ((W : Int) / 1048576 % 4096) = d := (wself12 W).trans (digI W 1048576 4096 d h)

theorem digs1 (c rd d12_12 W : Nat) (hc : c < 128) (hrd : rd < 32) (hd12_12 : d12_12 < 1048576) (hW : W = c + rd * 128 + d12_12 * 4096) :
    W % 128 = c ∧ W / 128 % 32 = rd ∧ W / 4096 % 1048576 = d12_12 ∧ W < 4294967296 := by
  refine ⟨?_, ?_, ?_, ?_⟩ <;> omega

set_option maxHeartbeats 1000000 in
theorem reads1 (nm : ByteArray) (op : Int) (c f3 f7 : Nat) (hc : c < 128) (hf3 : f3 < 8) (rd : Nat) (hrd : rd < 32) (imm : Int) (i0 : -2147483648 ≤ imm) (i1 : imm ≤ 2147479552) (hm : imm % 4096 = 0) (W : Nat) (hW : rwordBy ⟨nm, 1, c, f3, f7⟩ ⟨op, (rd : Int), 0, 0, imm, 0, false, false⟩ = W) : HitP ⟨nm, 1, c, f3, f7⟩ W ∧ fieldsOf op 1 W = ⟨op, (rd : Int), 0, 0, imm, 0, false, false⟩ ∧ W < 4294967296 := by
  simp only [rwordBy, immR, rnumber, Int.reduceBEq, Int.reduceEq, Int.reduceNe, Bool.false_eq_true, ↓reduceIte, Bool.or_eq_true, Bool.or_self, Bool.or_false, Bool.or_true, Bool.false_or, Bool.true_or, decide_eq_true_eq, Bool.not_eq_true', Bool.and_eq_true] at hW
  have q12_12 : rpart imm 12 20 12 = ((fld imm 12 20 * 4096 : Nat) : Int) := rpart_fld imm 12 20 12 (by omega)
  have hd12_12 := fld_lt imm 12 20
  simp only [Nat.reducePow] at hd12_12
  simp only [q12_12] at hW
  have hb := upper_back imm i0 i1 hm
  generalize fld imm 12 20 = d12_12 at *
  clear q12_12
  obtain ⟨ec, erd, ed12_12, hlt⟩ := digs1 c rd d12_12 W (by omega) (by omega) (by omega) (by clear i0 i1; omega)
  clear hW
  have hp : HitP ⟨nm, 1, c, f3, f7⟩ W := by
    clear hb i0 i1
    simp only [HitP, ne_eq, not_true_eq_false, not_false_eq_true, and_self, and_true, true_and, false_and, and_false, or_false, false_or, or_self, or_true, true_or, forall_const, false_implies, true_implies, implies_true, Int.reduceBEq, Int.reduceEq, Int.reduceNe, Bool.false_eq_true, ↓reduceIte, Bool.or_eq_true, Bool.or_self, Bool.or_false, Bool.or_true, Bool.false_or, Bool.true_or, decide_eq_true_eq, Bool.not_eq_true', Bool.and_eq_true]
    omega
  have x5 := wdig5 W rd erd
  have hn := immOf_num 1 W
  simp only [numOf, Int.reduceEq, ↓reduceIte] at hn
  have y12_12 : (W : Int) / 4096 % 1048576 = d12_12 := digI W 4096 1048576 _ ed12_12
  rw [y12_12, hb] at hn
  refine ⟨hp, ?_, hlt⟩
  · simp only [fieldsOf, partsOf, g_7_5, g_15_5, g_20_5, g_20_12, x5, hn, Int.reduceBEq, Int.reduceEq, Int.reduceNe, Bool.false_eq_true, ↓reduceIte, Bool.or_eq_true, Bool.or_self, Bool.or_false, Bool.or_true, Bool.false_or, Bool.true_or, decide_eq_true_eq, Bool.not_eq_true', Bool.and_eq_true]

theorem digs2 (c rd d12_12 d11_20 d1_21 d20_31 W : Nat) (hc : c < 128) (hrd : rd < 32) (hd12_12 : d12_12 < 256) (hd11_20 : d11_20 < 2) (hd1_21 : d1_21 < 1024) (hd20_31 : d20_31 < 2) (hW : W = c + rd * 128 + d12_12 * 4096 + d11_20 * 1048576 + d1_21 * 2097152 + d20_31 * 2147483648) :
    W % 128 = c ∧ W / 128 % 32 = rd ∧ W / 4096 % 256 = d12_12 ∧ W / 1048576 % 2 = d11_20 ∧ W / 2097152 % 1024 = d1_21 ∧ W / 2147483648 % 2 = d20_31 ∧ W < 4294967296 := by
  refine ⟨?_, ?_, ?_, ?_, ?_, ?_, ?_⟩ <;> omega

set_option maxHeartbeats 1000000 in
theorem reads2 (nm : ByteArray) (op : Int) (c f3 f7 : Nat) (hc : c < 128) (hf3 : f3 < 8) (rd : Nat) (hrd : rd < 32) (imm : Int) (i0 : -1048576 ≤ imm) (i1 : imm ≤ 1048574) (hm : imm % 2 = 0) (W : Nat) (hW : rwordBy ⟨nm, 2, c, f3, f7⟩ ⟨op, (rd : Int), 0, 0, imm, 0, false, false⟩ = W) : HitP ⟨nm, 2, c, f3, f7⟩ W ∧ fieldsOf op 2 W = ⟨op, (rd : Int), 0, 0, imm, 0, false, false⟩ ∧ W < 4294967296 := by
  simp only [rwordBy, immR, rnumber, Int.reduceBEq, Int.reduceEq, Int.reduceNe, Bool.false_eq_true, ↓reduceIte, Bool.or_eq_true, Bool.or_self, Bool.or_false, Bool.or_true, Bool.false_or, Bool.true_or, decide_eq_true_eq, Bool.not_eq_true', Bool.and_eq_true] at hW
  have q20_31 : rpart imm 20 1 31 = ((fld imm 20 1 * 2147483648 : Nat) : Int) := rpart_fld imm 20 1 31 (by omega)
  have hd20_31 := fld_lt imm 20 1
  simp only [Nat.reducePow] at hd20_31
  have q1_21 : rpart imm 1 10 21 = ((fld imm 1 10 * 2097152 : Nat) : Int) := rpart_fld imm 1 10 21 (by omega)
  have hd1_21 := fld_lt imm 1 10
  simp only [Nat.reducePow] at hd1_21
  have q11_20 : rpart imm 11 1 20 = ((fld imm 11 1 * 1048576 : Nat) : Int) := rpart_fld imm 11 1 20 (by omega)
  have hd11_20 := fld_lt imm 11 1
  simp only [Nat.reducePow] at hd11_20
  have q12_12 : rpart imm 12 8 12 = ((fld imm 12 8 * 4096 : Nat) : Int) := rpart_fld imm 12 8 12 (by omega)
  have hd12_12 := fld_lt imm 12 8
  simp only [Nat.reducePow] at hd12_12
  simp only [q20_31, q1_21, q11_20, q12_12] at hW
  have hb := jump_back imm i0 i1 hm
  generalize fld imm 20 1 = d20_31 at *
  generalize fld imm 1 10 = d1_21 at *
  generalize fld imm 11 1 = d11_20 at *
  generalize fld imm 12 8 = d12_12 at *
  clear q20_31 q1_21 q11_20 q12_12
  obtain ⟨ec, erd, ed12_12, ed11_20, ed1_21, ed20_31, hlt⟩ := digs2 c rd d12_12 d11_20 d1_21 d20_31 W (by omega) (by omega) (by omega) (by omega) (by omega) (by omega) (by clear i0 i1; omega)
  clear hW
  have hp : HitP ⟨nm, 2, c, f3, f7⟩ W := by
    clear hb i0 i1
    simp only [HitP, ne_eq, not_true_eq_false, not_false_eq_true, and_self, and_true, true_and, false_and, and_false, or_false, false_or, or_self, or_true, true_or, forall_const, false_implies, true_implies, implies_true, Int.reduceBEq, Int.reduceEq, Int.reduceNe, Bool.false_eq_true, ↓reduceIte, Bool.or_eq_true, Bool.or_self, Bool.or_false, Bool.or_true, Bool.false_or, Bool.true_or, decide_eq_true_eq, Bool.not_eq_true', Bool.and_eq_true]
    omega
  have x5 := wdig5 W rd erd
  have hn := immOf_num 2 W
  simp only [numOf, Int.reduceEq, ↓reduceIte] at hn
  have y20_31 : (W : Int) / 2147483648 % 2 = d20_31 := digI W 2147483648 2 _ ed20_31
  have y1_21 : (W : Int) / 2097152 % 1024 = d1_21 := digI W 2097152 1024 _ ed1_21
  have y11_20 : (W : Int) / 1048576 % 2 = d11_20 := digI W 1048576 2 _ ed11_20
  have y12_12 : (W : Int) / 4096 % 256 = d12_12 := digI W 4096 256 _ ed12_12
  rw [y20_31, y1_21, y11_20, y12_12, hb] at hn
  refine ⟨hp, ?_, hlt⟩
  · simp only [fieldsOf, partsOf, g_7_5, g_15_5, g_20_5, g_20_12, x5, hn, Int.reduceBEq, Int.reduceEq, Int.reduceNe, Bool.false_eq_true, ↓reduceIte, Bool.or_eq_true, Bool.or_self, Bool.or_false, Bool.or_true, Bool.false_or, Bool.true_or, decide_eq_true_eq, Bool.not_eq_true', Bool.and_eq_true]

theorem digs3 (c rd f3 rs1 d0_20 W : Nat) (hc : c < 128) (hrd : rd < 32) (hf3 : f3 < 8) (hrs1 : rs1 < 32) (hd0_20 : d0_20 < 4096) (hW : W = c + rd * 128 + f3 * 4096 + rs1 * 32768 + d0_20 * 1048576) :
    W % 128 = c ∧ W / 128 % 32 = rd ∧ W / 4096 % 8 = f3 ∧ W / 32768 % 32 = rs1 ∧ W / 1048576 % 4096 = d0_20 ∧ W < 4294967296 := by
  refine ⟨?_, ?_, ?_, ?_, ?_, ?_⟩ <;> omega

set_option maxHeartbeats 1000000 in
theorem reads3 (nm : ByteArray) (op : Int) (c f3 f7 : Nat) (hc : c < 128) (hf3 : f3 < 8) (rd rs1 : Nat) (hrd : rd < 32) (hrs1 : rs1 < 32) (imm : Int) (i0 : -2048 ≤ imm) (i1 : imm ≤ 2047) (W : Nat) (hW : rwordBy ⟨nm, 3, c, f3, f7⟩ ⟨op, (rd : Int), (rs1 : Int), 0, imm, 0, false, false⟩ = W) : HitP ⟨nm, 3, c, f3, f7⟩ W ∧ fieldsOf op 3 W = ⟨op, (rd : Int), (rs1 : Int), 0, imm, 0, false, false⟩ ∧ W < 4294967296 := by
  simp only [rwordBy, immR, rnumber, Int.reduceBEq, Int.reduceEq, Int.reduceNe, Bool.false_eq_true, ↓reduceIte, Bool.or_eq_true, Bool.or_self, Bool.or_false, Bool.or_true, Bool.false_or, Bool.true_or, decide_eq_true_eq, Bool.not_eq_true', Bool.and_eq_true] at hW
  have q0_20 : rpart imm 0 12 20 = ((fld imm 0 12 * 1048576 : Nat) : Int) := rpart_fld imm 0 12 20 (by omega)
  have hd0_20 := fld_lt imm 0 12
  simp only [Nat.reducePow] at hd0_20
  simp only [q0_20] at hW
  have hb := number_back imm i0 i1
  generalize fld imm 0 12 = d0_20 at *
  clear q0_20
  obtain ⟨ec, erd, ef3, ers1, ed0_20, hlt⟩ := digs3 c rd f3 rs1 d0_20 W (by omega) (by omega) (by omega) (by omega) (by omega) (by clear i0 i1; omega)
  clear hW
  have hp : HitP ⟨nm, 3, c, f3, f7⟩ W := by
    clear hb i0 i1
    simp only [HitP, ne_eq, not_true_eq_false, not_false_eq_true, and_self, and_true, true_and, false_and, and_false, or_false, false_or, or_self, or_true, true_or, forall_const, false_implies, true_implies, implies_true, Int.reduceBEq, Int.reduceEq, Int.reduceNe, Bool.false_eq_true, ↓reduceIte, Bool.or_eq_true, Bool.or_self, Bool.or_false, Bool.or_true, Bool.false_or, Bool.true_or, decide_eq_true_eq, Bool.not_eq_true', Bool.and_eq_true]
    omega
  have x5 := wdig5 W rd erd
  have x15 := wdig15 W rs1 ers1
  have hn := immOf_num 3 W
  simp only [numOf, Int.reduceEq, ↓reduceIte] at hn
  have y0_20 : (W : Int) / 1048576 % 4096 = d0_20 := digI W 1048576 4096 _ ed0_20
  rw [y0_20, hb] at hn
  refine ⟨hp, ?_, hlt⟩
  · simp only [fieldsOf, partsOf, g_7_5, g_15_5, g_20_5, g_20_12, x5, x15, hn, Int.reduceBEq, Int.reduceEq, Int.reduceNe, Bool.false_eq_true, ↓reduceIte, Bool.or_eq_true, Bool.or_self, Bool.or_false, Bool.or_true, Bool.false_or, Bool.true_or, decide_eq_true_eq, Bool.not_eq_true', Bool.and_eq_true]

theorem digs4 (c d11_7 d1_8 f3 rs1 rs2 d5_25 d12_31 W : Nat) (hc : c < 128) (hd11_7 : d11_7 < 2) (hd1_8 : d1_8 < 16) (hf3 : f3 < 8) (hrs1 : rs1 < 32) (hrs2 : rs2 < 32) (hd5_25 : d5_25 < 64) (hd12_31 : d12_31 < 2) (hW : W = c + d11_7 * 128 + d1_8 * 256 + f3 * 4096 + rs1 * 32768 + rs2 * 1048576 + d5_25 * 33554432 + d12_31 * 2147483648) :
    W % 128 = c ∧ W / 128 % 2 = d11_7 ∧ W / 256 % 16 = d1_8 ∧ W / 4096 % 8 = f3 ∧ W / 32768 % 32 = rs1 ∧ W / 1048576 % 32 = rs2 ∧ W / 33554432 % 64 = d5_25 ∧ W / 2147483648 % 2 = d12_31 ∧ W < 4294967296 := by
  refine ⟨?_, ?_, ?_, ?_, ?_, ?_, ?_, ?_, ?_⟩ <;> omega

set_option maxHeartbeats 1000000 in
theorem reads4 (nm : ByteArray) (op : Int) (c f3 f7 : Nat) (hc : c < 128) (hf3 : f3 < 8) (rs1 rs2 : Nat) (hrs1 : rs1 < 32) (hrs2 : rs2 < 32) (imm : Int) (i0 : -4096 ≤ imm) (i1 : imm ≤ 4094) (hm : imm % 2 = 0) (W : Nat) (hW : rwordBy ⟨nm, 4, c, f3, f7⟩ ⟨op, 0, (rs1 : Int), (rs2 : Int), imm, 0, false, false⟩ = W) : HitP ⟨nm, 4, c, f3, f7⟩ W ∧ fieldsOf op 4 W = ⟨op, 0, (rs1 : Int), (rs2 : Int), imm, 0, false, false⟩ ∧ W < 4294967296 := by
  simp only [rwordBy, immR, rnumber, Int.reduceBEq, Int.reduceEq, Int.reduceNe, Bool.false_eq_true, ↓reduceIte, Bool.or_eq_true, Bool.or_self, Bool.or_false, Bool.or_true, Bool.false_or, Bool.true_or, decide_eq_true_eq, Bool.not_eq_true', Bool.and_eq_true] at hW
  have q12_31 : rpart imm 12 1 31 = ((fld imm 12 1 * 2147483648 : Nat) : Int) := rpart_fld imm 12 1 31 (by omega)
  have hd12_31 := fld_lt imm 12 1
  simp only [Nat.reducePow] at hd12_31
  have q5_25 : rpart imm 5 6 25 = ((fld imm 5 6 * 33554432 : Nat) : Int) := rpart_fld imm 5 6 25 (by omega)
  have hd5_25 := fld_lt imm 5 6
  simp only [Nat.reducePow] at hd5_25
  have q1_8 : rpart imm 1 4 8 = ((fld imm 1 4 * 256 : Nat) : Int) := rpart_fld imm 1 4 8 (by omega)
  have hd1_8 := fld_lt imm 1 4
  simp only [Nat.reducePow] at hd1_8
  have q11_7 : rpart imm 11 1 7 = ((fld imm 11 1 * 128 : Nat) : Int) := rpart_fld imm 11 1 7 (by omega)
  have hd11_7 := fld_lt imm 11 1
  simp only [Nat.reducePow] at hd11_7
  simp only [q12_31, q5_25, q1_8, q11_7] at hW
  have hb := branch_back imm i0 i1 hm
  generalize fld imm 12 1 = d12_31 at *
  generalize fld imm 5 6 = d5_25 at *
  generalize fld imm 1 4 = d1_8 at *
  generalize fld imm 11 1 = d11_7 at *
  clear q12_31 q5_25 q1_8 q11_7
  obtain ⟨ec, ed11_7, ed1_8, ef3, ers1, ers2, ed5_25, ed12_31, hlt⟩ := digs4 c d11_7 d1_8 f3 rs1 rs2 d5_25 d12_31 W (by omega) (by omega) (by omega) (by omega) (by omega) (by omega) (by omega) (by omega) (by clear i0 i1; omega)
  clear hW
  have hp : HitP ⟨nm, 4, c, f3, f7⟩ W := by
    clear hb i0 i1
    simp only [HitP, ne_eq, not_true_eq_false, not_false_eq_true, and_self, and_true, true_and, false_and, and_false, or_false, false_or, or_self, or_true, true_or, forall_const, false_implies, true_implies, implies_true, Int.reduceBEq, Int.reduceEq, Int.reduceNe, Bool.false_eq_true, ↓reduceIte, Bool.or_eq_true, Bool.or_self, Bool.or_false, Bool.or_true, Bool.false_or, Bool.true_or, decide_eq_true_eq, Bool.not_eq_true', Bool.and_eq_true]
    omega
  have x15 := wdig15 W rs1 ers1
  have x20 := wdig20 W rs2 ers2
  have hn := immOf_num 4 W
  simp only [numOf, Int.reduceEq, ↓reduceIte] at hn
  have y12_31 : (W : Int) / 2147483648 % 2 = d12_31 := digI W 2147483648 2 _ ed12_31
  have y5_25 : (W : Int) / 33554432 % 64 = d5_25 := digI W 33554432 64 _ ed5_25
  have y1_8 : (W : Int) / 256 % 16 = d1_8 := digI W 256 16 _ ed1_8
  have y11_7 : (W : Int) / 128 % 2 = d11_7 := digI W 128 2 _ ed11_7
  rw [y12_31, y5_25, y1_8, y11_7, hb] at hn
  refine ⟨hp, ?_, hlt⟩
  · simp only [fieldsOf, partsOf, g_7_5, g_15_5, g_20_5, g_20_12, x15, x20, hn, Int.reduceBEq, Int.reduceEq, Int.reduceNe, Bool.false_eq_true, ↓reduceIte, Bool.or_eq_true, Bool.or_self, Bool.or_false, Bool.or_true, Bool.false_or, Bool.true_or, decide_eq_true_eq, Bool.not_eq_true', Bool.and_eq_true]

theorem digs5 (c rd f3 rs1 d0_20 W : Nat) (hc : c < 128) (hrd : rd < 32) (hf3 : f3 < 8) (hrs1 : rs1 < 32) (hd0_20 : d0_20 < 4096) (hW : W = c + rd * 128 + f3 * 4096 + rs1 * 32768 + d0_20 * 1048576) :
    W % 128 = c ∧ W / 128 % 32 = rd ∧ W / 4096 % 8 = f3 ∧ W / 32768 % 32 = rs1 ∧ W / 1048576 % 4096 = d0_20 ∧ W < 4294967296 := by
  refine ⟨?_, ?_, ?_, ?_, ?_, ?_⟩ <;> omega

set_option maxHeartbeats 1000000 in
theorem reads5 (nm : ByteArray) (op : Int) (c f3 f7 : Nat) (hc : c < 128) (hf3 : f3 < 8) (rd rs1 : Nat) (hrd : rd < 32) (hrs1 : rs1 < 32) (imm : Int) (i0 : -2048 ≤ imm) (i1 : imm ≤ 2047) (W : Nat) (hW : rwordBy ⟨nm, 5, c, f3, f7⟩ ⟨op, (rd : Int), (rs1 : Int), 0, imm, 0, false, false⟩ = W) : HitP ⟨nm, 5, c, f3, f7⟩ W ∧ fieldsOf op 5 W = ⟨op, (rd : Int), (rs1 : Int), 0, imm, 0, false, false⟩ ∧ W < 4294967296 := by
  simp only [rwordBy, immR, rnumber, Int.reduceBEq, Int.reduceEq, Int.reduceNe, Bool.false_eq_true, ↓reduceIte, Bool.or_eq_true, Bool.or_self, Bool.or_false, Bool.or_true, Bool.false_or, Bool.true_or, decide_eq_true_eq, Bool.not_eq_true', Bool.and_eq_true] at hW
  have q0_20 : rpart imm 0 12 20 = ((fld imm 0 12 * 1048576 : Nat) : Int) := rpart_fld imm 0 12 20 (by omega)
  have hd0_20 := fld_lt imm 0 12
  simp only [Nat.reducePow] at hd0_20
  simp only [q0_20] at hW
  have hb := number_back imm i0 i1
  generalize fld imm 0 12 = d0_20 at *
  clear q0_20
  obtain ⟨ec, erd, ef3, ers1, ed0_20, hlt⟩ := digs5 c rd f3 rs1 d0_20 W (by omega) (by omega) (by omega) (by omega) (by omega) (by clear i0 i1; omega)
  clear hW
  have hp : HitP ⟨nm, 5, c, f3, f7⟩ W := by
    clear hb i0 i1
    simp only [HitP, ne_eq, not_true_eq_false, not_false_eq_true, and_self, and_true, true_and, false_and, and_false, or_false, false_or, or_self, or_true, true_or, forall_const, false_implies, true_implies, implies_true, Int.reduceBEq, Int.reduceEq, Int.reduceNe, Bool.false_eq_true, ↓reduceIte, Bool.or_eq_true, Bool.or_self, Bool.or_false, Bool.or_true, Bool.false_or, Bool.true_or, decide_eq_true_eq, Bool.not_eq_true', Bool.and_eq_true]
    omega
  have x5 := wdig5 W rd erd
  have x15 := wdig15 W rs1 ers1
  have hn := immOf_num 5 W
  simp only [numOf, Int.reduceEq, ↓reduceIte] at hn
  have y0_20 : (W : Int) / 1048576 % 4096 = d0_20 := digI W 1048576 4096 _ ed0_20
  rw [y0_20, hb] at hn
  refine ⟨hp, ?_, hlt⟩
  · simp only [fieldsOf, partsOf, g_7_5, g_15_5, g_20_5, g_20_12, x5, x15, hn, Int.reduceBEq, Int.reduceEq, Int.reduceNe, Bool.false_eq_true, ↓reduceIte, Bool.or_eq_true, Bool.or_self, Bool.or_false, Bool.or_true, Bool.false_or, Bool.true_or, decide_eq_true_eq, Bool.not_eq_true', Bool.and_eq_true]

theorem digs6 (c d0_7 f3 rs1 rs2 d5_25 W : Nat) (hc : c < 128) (hd0_7 : d0_7 < 32) (hf3 : f3 < 8) (hrs1 : rs1 < 32) (hrs2 : rs2 < 32) (hd5_25 : d5_25 < 128) (hW : W = c + d0_7 * 128 + f3 * 4096 + rs1 * 32768 + rs2 * 1048576 + d5_25 * 33554432) :
    W % 128 = c ∧ W / 128 % 32 = d0_7 ∧ W / 4096 % 8 = f3 ∧ W / 32768 % 32 = rs1 ∧ W / 1048576 % 32 = rs2 ∧ W / 33554432 % 128 = d5_25 ∧ W < 4294967296 := by
  refine ⟨?_, ?_, ?_, ?_, ?_, ?_, ?_⟩ <;> omega

set_option maxHeartbeats 1000000 in
theorem reads6 (nm : ByteArray) (op : Int) (c f3 f7 : Nat) (hc : c < 128) (hf3 : f3 < 8) (rs1 rs2 : Nat) (hrs1 : rs1 < 32) (hrs2 : rs2 < 32) (imm : Int) (i0 : -2048 ≤ imm) (i1 : imm ≤ 2047) (W : Nat) (hW : rwordBy ⟨nm, 6, c, f3, f7⟩ ⟨op, 0, (rs1 : Int), (rs2 : Int), imm, 0, false, false⟩ = W) : HitP ⟨nm, 6, c, f3, f7⟩ W ∧ fieldsOf op 6 W = ⟨op, 0, (rs1 : Int), (rs2 : Int), imm, 0, false, false⟩ ∧ W < 4294967296 := by
  simp only [rwordBy, immR, rnumber, Int.reduceBEq, Int.reduceEq, Int.reduceNe, Bool.false_eq_true, ↓reduceIte, Bool.or_eq_true, Bool.or_self, Bool.or_false, Bool.or_true, Bool.false_or, Bool.true_or, decide_eq_true_eq, Bool.not_eq_true', Bool.and_eq_true] at hW
  have q5_25 : rpart imm 5 7 25 = ((fld imm 5 7 * 33554432 : Nat) : Int) := rpart_fld imm 5 7 25 (by omega)
  have hd5_25 := fld_lt imm 5 7
  simp only [Nat.reducePow] at hd5_25
  have q0_7 : rpart imm 0 5 7 = ((fld imm 0 5 * 128 : Nat) : Int) := rpart_fld imm 0 5 7 (by omega)
  have hd0_7 := fld_lt imm 0 5
  simp only [Nat.reducePow] at hd0_7
  simp only [q5_25, q0_7] at hW
  have hb := store_back imm i0 i1
  generalize fld imm 5 7 = d5_25 at *
  generalize fld imm 0 5 = d0_7 at *
  clear q5_25 q0_7
  obtain ⟨ec, ed0_7, ef3, ers1, ers2, ed5_25, hlt⟩ := digs6 c d0_7 f3 rs1 rs2 d5_25 W (by omega) (by omega) (by omega) (by omega) (by omega) (by omega) (by clear i0 i1; omega)
  clear hW
  have hp : HitP ⟨nm, 6, c, f3, f7⟩ W := by
    clear hb i0 i1
    simp only [HitP, ne_eq, not_true_eq_false, not_false_eq_true, and_self, and_true, true_and, false_and, and_false, or_false, false_or, or_self, or_true, true_or, forall_const, false_implies, true_implies, implies_true, Int.reduceBEq, Int.reduceEq, Int.reduceNe, Bool.false_eq_true, ↓reduceIte, Bool.or_eq_true, Bool.or_self, Bool.or_false, Bool.or_true, Bool.false_or, Bool.true_or, decide_eq_true_eq, Bool.not_eq_true', Bool.and_eq_true]
    omega
  have x15 := wdig15 W rs1 ers1
  have x20 := wdig20 W rs2 ers2
  have hn := immOf_num 6 W
  simp only [numOf, Int.reduceEq, ↓reduceIte] at hn
  have y5_25 : (W : Int) / 33554432 % 128 = d5_25 := digI W 33554432 128 _ ed5_25
  have y0_7 : (W : Int) / 128 % 32 = d0_7 := digI W 128 32 _ ed0_7
  rw [y5_25, y0_7, hb] at hn
  refine ⟨hp, ?_, hlt⟩
  · simp only [fieldsOf, partsOf, g_7_5, g_15_5, g_20_5, g_20_12, x15, x20, hn, Int.reduceBEq, Int.reduceEq, Int.reduceNe, Bool.false_eq_true, ↓reduceIte, Bool.or_eq_true, Bool.or_self, Bool.or_false, Bool.or_true, Bool.false_or, Bool.true_or, decide_eq_true_eq, Bool.not_eq_true', Bool.and_eq_true]

theorem digs7 (c rd f3 rs1 d0_20 g7 W : Nat) (hc : c < 128) (hrd : rd < 32) (hf3 : f3 < 8) (hrs1 : rs1 < 32) (hd0_20 : d0_20 < 64) (hg7 : g7 < 64) (hW : W = c + rd * 128 + f3 * 4096 + rs1 * 32768 + d0_20 * 1048576 + g7 * 67108864) :
    W % 128 = c ∧ W / 128 % 32 = rd ∧ W / 4096 % 8 = f3 ∧ W / 32768 % 32 = rs1 ∧ W / 1048576 % 64 = d0_20 ∧ W / 67108864 % 64 = g7 ∧ W < 4294967296 := by
  refine ⟨?_, ?_, ?_, ?_, ?_, ?_, ?_⟩ <;> omega

set_option maxHeartbeats 1000000 in
theorem reads7 (nm : ByteArray) (op : Int) (c f3 f7 : Nat) (hc : c < 128) (hf3 : f3 < 8) (hf7 : f7 < 128) (hev : f7 % 2 = 0) (rd rs1 : Nat) (hrd : rd < 32) (hrs1 : rs1 < 32) (imm : Int) (i0 : 0 ≤ imm) (i1 : imm ≤ 63) (W : Nat) (hW : rwordBy ⟨nm, 7, c, f3, f7⟩ ⟨op, (rd : Int), (rs1 : Int), 0, imm, 0, false, false⟩ = W) : HitP ⟨nm, 7, c, f3, f7⟩ W ∧ fieldsOf op 7 W = ⟨op, (rd : Int), (rs1 : Int), 0, imm, 0, false, false⟩ ∧ W < 4294967296 := by
  simp only [rwordBy, immR, rnumber, Int.reduceBEq, Int.reduceEq, Int.reduceNe, Bool.false_eq_true, ↓reduceIte, Bool.or_eq_true, Bool.or_self, Bool.or_false, Bool.or_true, Bool.false_or, Bool.true_or, decide_eq_true_eq, Bool.not_eq_true', Bool.and_eq_true] at hW
  have q0_20 : rpart imm 0 6 20 = ((fld imm 0 6 * 1048576 : Nat) : Int) := rpart_fld imm 0 6 20 (by omega)
  have hd0_20 := fld_lt imm 0 6
  simp only [Nat.reducePow] at hd0_20
  simp only [q0_20] at hW
  have hb := low_back6 imm i0 i1
  generalize fld imm 0 6 = d0_20 at *
  clear q0_20
  obtain ⟨g7, rfl⟩ : ∃ g, f7 = g * 2 := ⟨f7 / 2, by omega⟩
  obtain ⟨ec, erd, ef3, ers1, ed0_20, eg7, hlt⟩ := digs7 c rd f3 rs1 d0_20 g7 W (by omega) (by omega) (by omega) (by omega) (by omega) (by omega) (by clear i0 i1; omega)
  clear hW
  have hp : HitP ⟨nm, 7, c, f3, ((g7 * 2 : Nat) : Int)⟩ W := by
    clear hb i0 i1
    simp only [HitP, ne_eq, not_true_eq_false, not_false_eq_true, and_self, and_true, true_and, false_and, and_false, or_false, false_or, or_self, or_true, true_or, forall_const, false_implies, true_implies, implies_true, Int.reduceBEq, Int.reduceEq, Int.reduceNe, Bool.false_eq_true, ↓reduceIte, Bool.or_eq_true, Bool.or_self, Bool.or_false, Bool.or_true, Bool.false_or, Bool.true_or, decide_eq_true_eq, Bool.not_eq_true', Bool.and_eq_true]
    omega
  have x5 := wdig5 W rd erd
  have x15 := wdig15 W rs1 ers1
  have hn := immOf_num 7 W
  simp only [numOf, Int.reduceEq, ↓reduceIte] at hn
  have y0_20 : (W : Int) / 1048576 % 64 = d0_20 := digI W 1048576 64 _ ed0_20
  rw [y0_20, hb] at hn
  refine ⟨hp, ?_, hlt⟩
  · simp only [fieldsOf, partsOf, g_7_5, g_15_5, g_20_5, g_20_12, x5, x15, hn, Int.reduceBEq, Int.reduceEq, Int.reduceNe, Bool.false_eq_true, ↓reduceIte, Bool.or_eq_true, Bool.or_self, Bool.or_false, Bool.or_true, Bool.false_or, Bool.true_or, decide_eq_true_eq, Bool.not_eq_true', Bool.and_eq_true]

theorem digs8 (c rd f3 rs1 d0_20 f7 W : Nat) (hc : c < 128) (hrd : rd < 32) (hf3 : f3 < 8) (hrs1 : rs1 < 32) (hd0_20 : d0_20 < 32) (hf7 : f7 < 128) (hW : W = c + rd * 128 + f3 * 4096 + rs1 * 32768 + d0_20 * 1048576 + f7 * 33554432) :
    W % 128 = c ∧ W / 128 % 32 = rd ∧ W / 4096 % 8 = f3 ∧ W / 32768 % 32 = rs1 ∧ W / 1048576 % 32 = d0_20 ∧ W / 33554432 % 128 = f7 ∧ W < 4294967296 := by
  refine ⟨?_, ?_, ?_, ?_, ?_, ?_, ?_⟩ <;> omega

set_option maxHeartbeats 1000000 in
theorem reads8 (nm : ByteArray) (op : Int) (c f3 f7 : Nat) (hc : c < 128) (hf3 : f3 < 8) (hf7 : f7 < 128) (rd rs1 : Nat) (hrd : rd < 32) (hrs1 : rs1 < 32) (imm : Int) (i0 : 0 ≤ imm) (i1 : imm ≤ 31) (W : Nat) (hW : rwordBy ⟨nm, 8, c, f3, f7⟩ ⟨op, (rd : Int), (rs1 : Int), 0, imm, 0, false, false⟩ = W) : HitP ⟨nm, 8, c, f3, f7⟩ W ∧ fieldsOf op 8 W = ⟨op, (rd : Int), (rs1 : Int), 0, imm, 0, false, false⟩ ∧ W < 4294967296 := by
  simp only [rwordBy, immR, rnumber, Int.reduceBEq, Int.reduceEq, Int.reduceNe, Bool.false_eq_true, ↓reduceIte, Bool.or_eq_true, Bool.or_self, Bool.or_false, Bool.or_true, Bool.false_or, Bool.true_or, decide_eq_true_eq, Bool.not_eq_true', Bool.and_eq_true] at hW
  have q0_20 : rpart imm 0 6 20 = ((fld imm 0 6 * 1048576 : Nat) : Int) := rpart_fld imm 0 6 20 (by omega)
  have hd0_20 := fld_lt imm 0 6
  simp only [Nat.reducePow] at hd0_20
  simp only [q0_20] at hW
  have hb := low_back6 imm i0 (by omega)
  generalize fld imm 0 6 = d0_20 at *
  clear q0_20
  replace hd0_20 : d0_20 < 32 := by omega
  obtain ⟨ec, erd, ef3, ers1, ed0_20, ef7, hlt⟩ := digs8 c rd f3 rs1 d0_20 f7 W (by omega) (by omega) (by omega) (by omega) (by omega) (by omega) (by clear i0 i1; omega)
  clear hW
  have hp : HitP ⟨nm, 8, c, f3, f7⟩ W := by
    clear hb i0 i1
    simp only [HitP, ne_eq, not_true_eq_false, not_false_eq_true, and_self, and_true, true_and, false_and, and_false, or_false, false_or, or_self, or_true, true_or, forall_const, false_implies, true_implies, implies_true, Int.reduceBEq, Int.reduceEq, Int.reduceNe, Bool.false_eq_true, ↓reduceIte, Bool.or_eq_true, Bool.or_self, Bool.or_false, Bool.or_true, Bool.false_or, Bool.true_or, decide_eq_true_eq, Bool.not_eq_true', Bool.and_eq_true]
    omega
  have x5 := wdig5 W rd erd
  have x15 := wdig15 W rs1 ers1
  have hn := immOf_num 8 W
  simp only [numOf, Int.reduceEq, ↓reduceIte] at hn
  have y0_20 : (W : Int) / 1048576 % 32 = d0_20 := digI W 1048576 32 _ ed0_20
  rw [y0_20, hb] at hn
  refine ⟨hp, ?_, hlt⟩
  · simp only [fieldsOf, partsOf, g_7_5, g_15_5, g_20_5, g_20_12, x5, x15, hn, Int.reduceBEq, Int.reduceEq, Int.reduceNe, Bool.false_eq_true, ↓reduceIte, Bool.or_eq_true, Bool.or_self, Bool.or_false, Bool.or_true, Bool.false_or, Bool.true_or, decide_eq_true_eq, Bool.not_eq_true', Bool.and_eq_true]

theorem digs9 (c rd f3 rs1 rs2 f7 W : Nat) (hc : c < 128) (hrd : rd < 32) (hf3 : f3 < 8) (hrs1 : rs1 < 32) (hrs2 : rs2 < 32) (hf7 : f7 < 128) (hW : W = c + rd * 128 + f3 * 4096 + rs1 * 32768 + rs2 * 1048576 + f7 * 33554432) :
    W % 128 = c ∧ W / 128 % 32 = rd ∧ W / 4096 % 8 = f3 ∧ W / 32768 % 32 = rs1 ∧ W / 1048576 % 32 = rs2 ∧ W / 33554432 % 128 = f7 ∧ W < 4294967296 := by
  refine ⟨?_, ?_, ?_, ?_, ?_, ?_, ?_⟩ <;> omega

set_option maxHeartbeats 1000000 in
theorem reads9 (nm : ByteArray) (op : Int) (c f3 f7 : Nat) (hc : c < 128) (hf3 : f3 < 8) (hf7 : f7 < 128) (rd rs1 rs2 : Nat) (hrd : rd < 32) (hrs1 : rs1 < 32) (hrs2 : rs2 < 32) (W : Nat) (hW : rwordBy ⟨nm, 9, c, f3, f7⟩ ⟨op, (rd : Int), (rs1 : Int), (rs2 : Int), 0, 0, false, false⟩ = W) : HitP ⟨nm, 9, c, f3, f7⟩ W ∧ fieldsOf op 9 W = ⟨op, (rd : Int), (rs1 : Int), (rs2 : Int), 0, 0, false, false⟩ ∧ W < 4294967296 := by
  simp only [rwordBy, immR, rnumber, Int.reduceBEq, Int.reduceEq, Int.reduceNe, Bool.false_eq_true, ↓reduceIte, Bool.or_eq_true, Bool.or_self, Bool.or_false, Bool.or_true, Bool.false_or, Bool.true_or, decide_eq_true_eq, Bool.not_eq_true', Bool.and_eq_true] at hW
  obtain ⟨ec, erd, ef3, ers1, ers2, ef7, hlt⟩ := digs9 c rd f3 rs1 rs2 f7 W (by omega) (by omega) (by omega) (by omega) (by omega) (by omega) (by omega)
  clear hW
  have hp : HitP ⟨nm, 9, c, f3, f7⟩ W := by
    simp only [HitP, ne_eq, not_true_eq_false, not_false_eq_true, and_self, and_true, true_and, false_and, and_false, or_false, false_or, or_self, or_true, true_or, forall_const, false_implies, true_implies, implies_true, Int.reduceBEq, Int.reduceEq, Int.reduceNe, Bool.false_eq_true, ↓reduceIte, Bool.or_eq_true, Bool.or_self, Bool.or_false, Bool.or_true, Bool.false_or, Bool.true_or, decide_eq_true_eq, Bool.not_eq_true', Bool.and_eq_true]
    omega
  have x5 := wdig5 W rd erd
  have x15 := wdig15 W rs1 ers1
  have x20 := wdig20 W rs2 ers2
  refine ⟨hp, ?_, hlt⟩
  · simp only [fieldsOf, partsOf, g_7_5, g_15_5, g_20_5, g_20_12, x5, x15, x20, Int.reduceBEq, Int.reduceEq, Int.reduceNe, Bool.false_eq_true, ↓reduceIte, Bool.or_eq_true, Bool.or_self, Bool.or_false, Bool.or_true, Bool.false_or, Bool.true_or, decide_eq_true_eq, Bool.not_eq_true', Bool.and_eq_true]

theorem digs10 (c rd f3 rs1 d0_20 W : Nat) (hc : c < 128) (hrd : rd < 32) (hf3 : f3 < 8) (hrs1 : rs1 < 32) (hd0_20 : d0_20 < 4096) (hW : W = c + rd * 128 + f3 * 4096 + rs1 * 32768 + d0_20 * 1048576) :
    W % 128 = c ∧ W / 128 % 32 = rd ∧ W / 4096 % 8 = f3 ∧ W / 32768 % 32 = rs1 ∧ W / 1048576 % 4096 = d0_20 ∧ W < 4294967296 := by
  refine ⟨?_, ?_, ?_, ?_, ?_, ?_⟩ <;> omega

set_option maxHeartbeats 1000000 in
theorem reads10 (nm : ByteArray) (op : Int) (c f3 f7 : Nat) (hc : c < 128) (hf3 : f3 < 8) (rd rs1 : Nat) (hrd : rd < 32) (hrs1 : rs1 < 32) (imm : Int) (i0 : 0 ≤ imm) (i1 : imm ≤ 4095) (W : Nat) (hW : rwordBy ⟨nm, 10, c, f3, f7⟩ ⟨op, (rd : Int), (rs1 : Int), 0, imm, 0, false, false⟩ = W) : HitP ⟨nm, 10, c, f3, f7⟩ W ∧ fieldsOf op 10 W = ⟨op, (rd : Int), (rs1 : Int), 0, imm, 0, false, false⟩ ∧ W < 4294967296 := by
  simp only [rwordBy, immR, rnumber, Int.reduceBEq, Int.reduceEq, Int.reduceNe, Bool.false_eq_true, ↓reduceIte, Bool.or_eq_true, Bool.or_self, Bool.or_false, Bool.or_true, Bool.false_or, Bool.true_or, decide_eq_true_eq, Bool.not_eq_true', Bool.and_eq_true] at hW
  have q0_20 : rpart imm 0 12 20 = ((fld imm 0 12 * 1048576 : Nat) : Int) := rpart_fld imm 0 12 20 (by omega)
  have hd0_20 := fld_lt imm 0 12
  simp only [Nat.reducePow] at hd0_20
  simp only [q0_20] at hW
  have hb := low_back12 imm i0 i1
  generalize fld imm 0 12 = d0_20 at *
  clear q0_20
  obtain ⟨ec, erd, ef3, ers1, ed0_20, hlt⟩ := digs10 c rd f3 rs1 d0_20 W (by omega) (by omega) (by omega) (by omega) (by omega) (by clear i0 i1; omega)
  clear hW
  have hp : HitP ⟨nm, 10, c, f3, f7⟩ W := by
    clear hb i0 i1
    simp only [HitP, ne_eq, not_true_eq_false, not_false_eq_true, and_self, and_true, true_and, false_and, and_false, or_false, false_or, or_self, or_true, true_or, forall_const, false_implies, true_implies, implies_true, Int.reduceBEq, Int.reduceEq, Int.reduceNe, Bool.false_eq_true, ↓reduceIte, Bool.or_eq_true, Bool.or_self, Bool.or_false, Bool.or_true, Bool.false_or, Bool.true_or, decide_eq_true_eq, Bool.not_eq_true', Bool.and_eq_true]
    omega
  have x5 := wdig5 W rd erd
  have x15 := wdig15 W rs1 ers1
  have hn := immOf_num 10 W
  simp only [numOf, Int.reduceEq, ↓reduceIte] at hn
  have y0_20 : (W : Int) / 1048576 % 4096 = d0_20 := digI W 1048576 4096 _ ed0_20
  rw [y0_20, hb] at hn
  refine ⟨hp, ?_, hlt⟩
  · simp only [fieldsOf, partsOf, g_7_5, g_15_5, g_20_5, g_20_12, x5, x15, hn, Int.reduceBEq, Int.reduceEq, Int.reduceNe, Bool.false_eq_true, ↓reduceIte, Bool.or_eq_true, Bool.or_self, Bool.or_false, Bool.or_true, Bool.false_or, Bool.true_or, decide_eq_true_eq, Bool.not_eq_true', Bool.and_eq_true]

theorem digs11 (c f3 f7 W : Nat) (hc : c < 128) (hf3 : f3 < 8) (hf7 : f7 < 4096) (hW : W = c + f3 * 4096 + f7 * 1048576) :
    W % 128 = c ∧ W / 4096 % 8 = f3 ∧ W / 1048576 % 4096 = f7 ∧ W / 32768 % 32 = 0 ∧ W / 128 % 32 = 0 ∧ W < 4294967296 := by
  refine ⟨?_, ?_, ?_, ?_, ?_, ?_⟩ <;> omega

set_option maxHeartbeats 1000000 in
theorem reads11 (nm : ByteArray) (op : Int) (c f3 f7 : Nat) (hc : c < 128) (hf3 : f3 < 8) (hf7 : f7 < 4096) (W : Nat) (hW : rwordBy ⟨nm, 11, c, f3, f7⟩ ⟨op, 0, 0, 0, 0, 0, false, false⟩ = W) : HitP ⟨nm, 11, c, f3, f7⟩ W ∧ fieldsOf op 11 W = ⟨op, 0, 0, 0, 0, 0, false, false⟩ ∧ W < 4294967296 := by
  simp only [rwordBy, immR, rnumber, Int.reduceBEq, Int.reduceEq, Int.reduceNe, Bool.false_eq_true, ↓reduceIte, Bool.or_eq_true, Bool.or_self, Bool.or_false, Bool.or_true, Bool.false_or, Bool.true_or, decide_eq_true_eq, Bool.not_eq_true', Bool.and_eq_true] at hW
  obtain ⟨ec, ef3, ef7, z15, z7, hlt⟩ := digs11 c f3 f7 W (by omega) (by omega) (by omega) (by omega)
  clear hW
  have hp : HitP ⟨nm, 11, c, f3, f7⟩ W := by
    simp only [HitP, ne_eq, not_true_eq_false, not_false_eq_true, and_self, and_true, true_and, false_and, and_false, or_false, false_or, or_self, or_true, true_or, forall_const, false_implies, true_implies, implies_true, Int.reduceBEq, Int.reduceEq, Int.reduceNe, Bool.false_eq_true, ↓reduceIte, Bool.or_eq_true, Bool.or_self, Bool.or_false, Bool.or_true, Bool.false_or, Bool.true_or, decide_eq_true_eq, Bool.not_eq_true', Bool.and_eq_true]
    omega
  refine ⟨hp, ?_, hlt⟩
  · simp only [fieldsOf, partsOf, g_7_5, g_15_5, g_20_5, g_20_12, Int.reduceBEq, Int.reduceEq, Int.reduceNe, Bool.false_eq_true, ↓reduceIte, Bool.or_eq_true, Bool.or_self, Bool.or_false, Bool.or_true, Bool.false_or, Bool.true_or, decide_eq_true_eq, Bool.not_eq_true', Bool.and_eq_true]

theorem digs12 (c rd f3 rs1 csr W : Nat) (hc : c < 128) (hrd : rd < 32) (hf3 : f3 < 8) (hrs1 : rs1 < 32) (hcsr : csr < 4096) (hW : W = c + rd * 128 + f3 * 4096 + rs1 * 32768 + csr * 1048576) :
    W % 128 = c ∧ W / 128 % 32 = rd ∧ W / 4096 % 8 = f3 ∧ W / 32768 % 32 = rs1 ∧ W / 1048576 % 4096 = csr ∧ W < 4294967296 := by
  refine ⟨?_, ?_, ?_, ?_, ?_, ?_⟩ <;> omega

set_option maxHeartbeats 1000000 in
theorem reads12 (nm : ByteArray) (op : Int) (c f3 f7 : Nat) (hc : c < 128) (hf3 : f3 < 8) (rd rs1 : Nat) (hrd : rd < 32) (hrs1 : rs1 < 32) (csr : Nat) (hcsr : csr < 4096) (W : Nat) (hW : rwordBy ⟨nm, 12, c, f3, f7⟩ ⟨op, (rd : Int), (rs1 : Int), 0, 0, (csr : Int), false, false⟩ = W) : HitP ⟨nm, 12, c, f3, f7⟩ W ∧ fieldsOf op 12 W = ⟨op, (rd : Int), (rs1 : Int), 0, 0, (csr : Int), false, false⟩ ∧ W < 4294967296 := by
  simp only [rwordBy, immR, rnumber, Int.reduceBEq, Int.reduceEq, Int.reduceNe, Bool.false_eq_true, ↓reduceIte, Bool.or_eq_true, Bool.or_self, Bool.or_false, Bool.or_true, Bool.false_or, Bool.true_or, decide_eq_true_eq, Bool.not_eq_true', Bool.and_eq_true] at hW
  obtain ⟨ec, erd, ef3, ers1, ecsr, hlt⟩ := digs12 c rd f3 rs1 csr W (by omega) (by omega) (by omega) (by omega) (by omega) (by omega)
  clear hW
  have hp : HitP ⟨nm, 12, c, f3, f7⟩ W := by
    simp only [HitP, ne_eq, not_true_eq_false, not_false_eq_true, and_self, and_true, true_and, false_and, and_false, or_false, false_or, or_self, or_true, true_or, forall_const, false_implies, true_implies, implies_true, Int.reduceBEq, Int.reduceEq, Int.reduceNe, Bool.false_eq_true, ↓reduceIte, Bool.or_eq_true, Bool.or_self, Bool.or_false, Bool.or_true, Bool.false_or, Bool.true_or, decide_eq_true_eq, Bool.not_eq_true', Bool.and_eq_true]
    omega
  have x5 := wdig5 W rd erd
  have x15 := wdig15 W rs1 ers1
  have x12 := wdig12 W csr ecsr
  refine ⟨hp, ?_, hlt⟩
  · simp only [fieldsOf, partsOf, g_7_5, g_15_5, g_20_5, g_20_12, x5, x15, x12, Int.reduceBEq, Int.reduceEq, Int.reduceNe, Bool.false_eq_true, ↓reduceIte, Bool.or_eq_true, Bool.or_self, Bool.or_false, Bool.or_true, Bool.false_or, Bool.true_or, decide_eq_true_eq, Bool.not_eq_true', Bool.and_eq_true]

theorem digs13 (c rd f3 d0_15 csr W : Nat) (hc : c < 128) (hrd : rd < 32) (hf3 : f3 < 8) (hd0_15 : d0_15 < 32) (hcsr : csr < 4096) (hW : W = c + rd * 128 + f3 * 4096 + d0_15 * 32768 + csr * 1048576) :
    W % 128 = c ∧ W / 128 % 32 = rd ∧ W / 4096 % 8 = f3 ∧ W / 32768 % 32 = d0_15 ∧ W / 1048576 % 4096 = csr ∧ W < 4294967296 := by
  refine ⟨?_, ?_, ?_, ?_, ?_, ?_⟩ <;> omega

set_option maxHeartbeats 1000000 in
theorem reads13 (nm : ByteArray) (op : Int) (c f3 f7 : Nat) (hc : c < 128) (hf3 : f3 < 8) (rd : Nat) (hrd : rd < 32) (csr : Nat) (hcsr : csr < 4096) (imm : Int) (i0 : 0 ≤ imm) (i1 : imm ≤ 31) (W : Nat) (hW : rwordBy ⟨nm, 13, c, f3, f7⟩ ⟨op, (rd : Int), 0, 0, imm, (csr : Int), false, false⟩ = W) : HitP ⟨nm, 13, c, f3, f7⟩ W ∧ fieldsOf op 13 W = ⟨op, (rd : Int), 0, 0, imm, (csr : Int), false, false⟩ ∧ W < 4294967296 := by
  simp only [rwordBy, immR, rnumber, Int.reduceBEq, Int.reduceEq, Int.reduceNe, Bool.false_eq_true, ↓reduceIte, Bool.or_eq_true, Bool.or_self, Bool.or_false, Bool.or_true, Bool.false_or, Bool.true_or, decide_eq_true_eq, Bool.not_eq_true', Bool.and_eq_true] at hW
  have q0_15 : rpart imm 0 5 15 = ((fld imm 0 5 * 32768 : Nat) : Int) := rpart_fld imm 0 5 15 (by omega)
  have hd0_15 := fld_lt imm 0 5
  simp only [Nat.reducePow] at hd0_15
  simp only [q0_15] at hW
  have hb := low_back5 imm i0 i1
  generalize fld imm 0 5 = d0_15 at *
  clear q0_15
  obtain ⟨ec, erd, ef3, ed0_15, ecsr, hlt⟩ := digs13 c rd f3 d0_15 csr W (by omega) (by omega) (by omega) (by omega) (by omega) (by clear i0 i1; omega)
  clear hW
  have hp : HitP ⟨nm, 13, c, f3, f7⟩ W := by
    clear hb i0 i1
    simp only [HitP, ne_eq, not_true_eq_false, not_false_eq_true, and_self, and_true, true_and, false_and, and_false, or_false, false_or, or_self, or_true, true_or, forall_const, false_implies, true_implies, implies_true, Int.reduceBEq, Int.reduceEq, Int.reduceNe, Bool.false_eq_true, ↓reduceIte, Bool.or_eq_true, Bool.or_self, Bool.or_false, Bool.or_true, Bool.false_or, Bool.true_or, decide_eq_true_eq, Bool.not_eq_true', Bool.and_eq_true]
    omega
  have x5 := wdig5 W rd erd
  have x12 := wdig12 W csr ecsr
  have hn := immOf_num 13 W
  simp only [numOf, Int.reduceEq, ↓reduceIte] at hn
  have y0_15 : (W : Int) / 32768 % 32 = d0_15 := digI W 32768 32 _ ed0_15
  rw [y0_15, hb] at hn
  refine ⟨hp, ?_, hlt⟩
  · simp only [fieldsOf, partsOf, g_7_5, g_15_5, g_20_5, g_20_12, x5, x12, hn, Int.reduceBEq, Int.reduceEq, Int.reduceNe, Bool.false_eq_true, ↓reduceIte, Bool.or_eq_true, Bool.or_self, Bool.or_false, Bool.or_true, Bool.false_or, Bool.true_or, decide_eq_true_eq, Bool.not_eq_true', Bool.and_eq_true]

theorem digs14 (c rd f3 rs1 dl da f7 W : Nat) (hc : c < 128) (hrd : rd < 32) (hf3 : f3 < 8) (hrs1 : rs1 < 32) (hdl : dl < 2) (hda : da < 2) (hf7 : f7 < 32) (hW : W = c + rd * 128 + f3 * 4096 + rs1 * 32768 + dl * 33554432 + da * 67108864 + f7 * 134217728) :
    W % 128 = c ∧ W / 128 % 32 = rd ∧ W / 4096 % 8 = f3 ∧ W / 32768 % 32 = rs1 ∧ W / 33554432 % 2 = dl ∧ W / 67108864 % 2 = da ∧ W / 134217728 % 32 = f7 ∧ W / 1048576 % 32 = 0 ∧ W < 4294967296 := by
  refine ⟨?_, ?_, ?_, ?_, ?_, ?_, ?_, ?_, ?_⟩ <;> omega

set_option maxHeartbeats 1000000 in
theorem reads14 (nm : ByteArray) (op : Int) (c f3 f7 : Nat) (hc : c < 128) (hf3 : f3 < 8) (hf7 : f7 < 32) (rd rs1 : Nat) (hrd : rd < 32) (hrs1 : rs1 < 32) (aq rl : Bool) (W : Nat) (hW : rwordBy ⟨nm, 14, c, f3, f7⟩ ⟨op, (rd : Int), (rs1 : Int), 0, 0, 0, aq, rl⟩ = W) : HitP ⟨nm, 14, c, f3, f7⟩ W ∧ fieldsOf op 14 W = ⟨op, (rd : Int), (rs1 : Int), 0, 0, 0, aq, rl⟩ ∧ W < 4294967296 := by
  simp only [rwordBy, immR, rnumber, Int.reduceBEq, Int.reduceEq, Int.reduceNe, Bool.false_eq_true, ↓reduceIte, Bool.or_eq_true, Bool.or_self, Bool.or_false, Bool.or_true, Bool.false_or, Bool.true_or, decide_eq_true_eq, Bool.not_eq_true', Bool.and_eq_true] at hW
  obtain ⟨da, hda, ea⟩ : ∃ da : Nat, da < 2 ∧ aq = decide (da = 1) := by cases aq; exact ⟨0, by omega, by decide⟩; exact ⟨1, by omega, by decide⟩
  obtain ⟨dl, hdl, el⟩ : ∃ dl : Nat, dl < 2 ∧ rl = decide (dl = 1) := by cases rl; exact ⟨0, by omega, by decide⟩; exact ⟨1, by omega, by decide⟩
  subst ea el
  simp only [decide_eq_true_eq] at hW
  obtain ⟨ec, erd, ef3, ers1, edl, eda, ef7, z20, hlt⟩ := digs14 c rd f3 rs1 dl da f7 W (by omega) (by omega) (by omega) (by omega) (by omega) (by omega) (by omega) (by omega)
  clear hW
  have hp : HitP ⟨nm, 14, c, f3, f7⟩ W := by
    simp only [HitP, ne_eq, not_true_eq_false, not_false_eq_true, and_self, and_true, true_and, false_and, and_false, or_false, false_or, or_self, or_true, true_or, forall_const, false_implies, true_implies, implies_true, Int.reduceBEq, Int.reduceEq, Int.reduceNe, Bool.false_eq_true, ↓reduceIte, Bool.or_eq_true, Bool.or_self, Bool.or_false, Bool.or_true, Bool.false_or, Bool.true_or, decide_eq_true_eq, Bool.not_eq_true', Bool.and_eq_true]
    omega
  have x5 := wdig5 W rd erd
  have x15 := wdig15 W rs1 ers1
  refine ⟨hp, ?_, hlt⟩
  · have xa : ((W : Int) / 67108864 % 2 == 1) = decide (da = 1) := by rw [Bool.eq_iff_iff, beq_iff_eq, decide_eq_true_eq]; omega
    have xl : ((W : Int) / 33554432 % 2 == 1) = decide (dl = 1) := by rw [Bool.eq_iff_iff, beq_iff_eq, decide_eq_true_eq]; omega
    simp only [fieldsOf, partsOf, g_7_5, g_15_5, g_20_5, g_26_1, g_25_1, xa, xl, x5, x15, Int.reduceBEq, Int.reduceEq, Int.reduceNe, Bool.false_eq_true, ↓reduceIte, Bool.or_eq_true, Bool.or_self, Bool.or_false, Bool.or_true, Bool.false_or, Bool.true_or, decide_eq_true_eq, Bool.not_eq_true', Bool.and_eq_true]

theorem digs15 (c rd f3 rs1 rs2 dl da f7 W : Nat) (hc : c < 128) (hrd : rd < 32) (hf3 : f3 < 8) (hrs1 : rs1 < 32) (hrs2 : rs2 < 32) (hdl : dl < 2) (hda : da < 2) (hf7 : f7 < 32) (hW : W = c + rd * 128 + f3 * 4096 + rs1 * 32768 + rs2 * 1048576 + dl * 33554432 + da * 67108864 + f7 * 134217728) :
    W % 128 = c ∧ W / 128 % 32 = rd ∧ W / 4096 % 8 = f3 ∧ W / 32768 % 32 = rs1 ∧ W / 1048576 % 32 = rs2 ∧ W / 33554432 % 2 = dl ∧ W / 67108864 % 2 = da ∧ W / 134217728 % 32 = f7 ∧ W < 4294967296 := by
  refine ⟨?_, ?_, ?_, ?_, ?_, ?_, ?_, ?_, ?_⟩ <;> omega

set_option maxHeartbeats 1000000 in
theorem reads15 (nm : ByteArray) (op : Int) (c f3 f7 : Nat) (hc : c < 128) (hf3 : f3 < 8) (hf7 : f7 < 32) (rd rs1 rs2 : Nat) (hrd : rd < 32) (hrs1 : rs1 < 32) (hrs2 : rs2 < 32) (aq rl : Bool) (W : Nat) (hW : rwordBy ⟨nm, 15, c, f3, f7⟩ ⟨op, (rd : Int), (rs1 : Int), (rs2 : Int), 0, 0, aq, rl⟩ = W) : HitP ⟨nm, 15, c, f3, f7⟩ W ∧ fieldsOf op 15 W = ⟨op, (rd : Int), (rs1 : Int), (rs2 : Int), 0, 0, aq, rl⟩ ∧ W < 4294967296 := by
  simp only [rwordBy, immR, rnumber, Int.reduceBEq, Int.reduceEq, Int.reduceNe, Bool.false_eq_true, ↓reduceIte, Bool.or_eq_true, Bool.or_self, Bool.or_false, Bool.or_true, Bool.false_or, Bool.true_or, decide_eq_true_eq, Bool.not_eq_true', Bool.and_eq_true] at hW
  obtain ⟨da, hda, ea⟩ : ∃ da : Nat, da < 2 ∧ aq = decide (da = 1) := by cases aq; exact ⟨0, by omega, by decide⟩; exact ⟨1, by omega, by decide⟩
  obtain ⟨dl, hdl, el⟩ : ∃ dl : Nat, dl < 2 ∧ rl = decide (dl = 1) := by cases rl; exact ⟨0, by omega, by decide⟩; exact ⟨1, by omega, by decide⟩
  subst ea el
  simp only [decide_eq_true_eq] at hW
  obtain ⟨ec, erd, ef3, ers1, ers2, edl, eda, ef7, hlt⟩ := digs15 c rd f3 rs1 rs2 dl da f7 W (by omega) (by omega) (by omega) (by omega) (by omega) (by omega) (by omega) (by omega) (by omega)
  clear hW
  have hp : HitP ⟨nm, 15, c, f3, f7⟩ W := by
    simp only [HitP, ne_eq, not_true_eq_false, not_false_eq_true, and_self, and_true, true_and, false_and, and_false, or_false, false_or, or_self, or_true, true_or, forall_const, false_implies, true_implies, implies_true, Int.reduceBEq, Int.reduceEq, Int.reduceNe, Bool.false_eq_true, ↓reduceIte, Bool.or_eq_true, Bool.or_self, Bool.or_false, Bool.or_true, Bool.false_or, Bool.true_or, decide_eq_true_eq, Bool.not_eq_true', Bool.and_eq_true]
    omega
  have x5 := wdig5 W rd erd
  have x15 := wdig15 W rs1 ers1
  have x20 := wdig20 W rs2 ers2
  refine ⟨hp, ?_, hlt⟩
  · have xa : ((W : Int) / 67108864 % 2 == 1) = decide (da = 1) := by rw [Bool.eq_iff_iff, beq_iff_eq, decide_eq_true_eq]; omega
    have xl : ((W : Int) / 33554432 % 2 == 1) = decide (dl = 1) := by rw [Bool.eq_iff_iff, beq_iff_eq, decide_eq_true_eq]; omega
    simp only [fieldsOf, partsOf, g_7_5, g_15_5, g_20_5, g_26_1, g_25_1, xa, xl, x5, x15, x20, Int.reduceBEq, Int.reduceEq, Int.reduceNe, Bool.false_eq_true, ↓reduceIte, Bool.or_eq_true, Bool.or_self, Bool.or_false, Bool.or_true, Bool.false_or, Bool.true_or, decide_eq_true_eq, Bool.not_eq_true', Bool.and_eq_true]

theorem digs16 (c f3 rs1 rs2 f7 W : Nat) (hc : c < 128) (hf3 : f3 < 8) (hrs1 : rs1 < 32) (hrs2 : rs2 < 32) (hf7 : f7 < 128) (hW : W = c + f3 * 4096 + rs1 * 32768 + rs2 * 1048576 + f7 * 33554432) :
    W % 128 = c ∧ W / 4096 % 8 = f3 ∧ W / 32768 % 32 = rs1 ∧ W / 1048576 % 32 = rs2 ∧ W / 33554432 % 128 = f7 ∧ W / 128 % 32 = 0 ∧ W < 4294967296 := by
  refine ⟨?_, ?_, ?_, ?_, ?_, ?_, ?_⟩ <;> omega

set_option maxHeartbeats 1000000 in
theorem reads16 (nm : ByteArray) (op : Int) (c f3 f7 : Nat) (hc : c < 128) (hf3 : f3 < 8) (hf7 : f7 < 128) (rs1 rs2 : Nat) (hrs1 : rs1 < 32) (hrs2 : rs2 < 32) (W : Nat) (hW : rwordBy ⟨nm, 16, c, f3, f7⟩ ⟨op, 0, (rs1 : Int), (rs2 : Int), 0, 0, false, false⟩ = W) : HitP ⟨nm, 16, c, f3, f7⟩ W ∧ fieldsOf op 16 W = ⟨op, 0, (rs1 : Int), (rs2 : Int), 0, 0, false, false⟩ ∧ W < 4294967296 := by
  simp only [rwordBy, immR, rnumber, Int.reduceBEq, Int.reduceEq, Int.reduceNe, Bool.false_eq_true, ↓reduceIte, Bool.or_eq_true, Bool.or_self, Bool.or_false, Bool.or_true, Bool.false_or, Bool.true_or, decide_eq_true_eq, Bool.not_eq_true', Bool.and_eq_true] at hW
  obtain ⟨ec, ef3, ers1, ers2, ef7, z7, hlt⟩ := digs16 c f3 rs1 rs2 f7 W (by omega) (by omega) (by omega) (by omega) (by omega) (by omega)
  clear hW
  have hp : HitP ⟨nm, 16, c, f3, f7⟩ W := by
    simp only [HitP, ne_eq, not_true_eq_false, not_false_eq_true, and_self, and_true, true_and, false_and, and_false, or_false, false_or, or_self, or_true, true_or, forall_const, false_implies, true_implies, implies_true, Int.reduceBEq, Int.reduceEq, Int.reduceNe, Bool.false_eq_true, ↓reduceIte, Bool.or_eq_true, Bool.or_self, Bool.or_false, Bool.or_true, Bool.false_or, Bool.true_or, decide_eq_true_eq, Bool.not_eq_true', Bool.and_eq_true]
    omega
  have x15 := wdig15 W rs1 ers1
  have x20 := wdig20 W rs2 ers2
  refine ⟨hp, ?_, hlt⟩
  · simp only [fieldsOf, partsOf, g_7_5, g_15_5, g_20_5, g_20_12, x15, x20, Int.reduceBEq, Int.reduceEq, Int.reduceNe, Bool.false_eq_true, ↓reduceIte, Bool.or_eq_true, Bool.or_self, Bool.or_false, Bool.or_true, Bool.false_or, Bool.true_or, decide_eq_true_eq, Bool.not_eq_true', Bool.and_eq_true]

set_option maxHeartbeats 4000000 in
theorem word_reads (x : Ins) (h1 : 1 ≤ x.op) (h2 : x.op ≤ 98) (hr : rightBy (partsOf (rowAt x.op).form) x = true) (W : Nat) (hW : rword x = W) :
    HitP (rowAt x.op) W ∧ fieldsOf x.op (rowAt x.op).form W = x ∧ W < 4294967296 := by
  have hfo := form_ok x.op h1 h2
  have hbd := row_bd x.op h1 h2
  have hbd2 := row_bd2 x.op h1 h2
  have hev := row_even x.op h1 h2
  unfold rword at hW
  generalize rowAt x.op = r at *
  obtain ⟨nm, form, c, f3, f7⟩ := r
  dsimp only [RowBd, RowBd2] at *
  obtain ⟨b1, b2, b3, b4, b5, b6⟩ := hbd
  obtain ⟨c, rfl⟩ := Int.eq_ofNat_of_zero_le b1
  obtain ⟨f3, rfl⟩ := Int.eq_ofNat_of_zero_le b3
  obtain ⟨f7, rfl⟩ := Int.eq_ofNat_of_zero_le b5
  have hc : c < 128 := by omega
  have hf3 : f3 < 8 := by omega
  obtain ⟨op, rd, rs1, rs2, imm, csr, aq, rl⟩ := x
  dsimp only at *
  simp only [rightBy, Bool.and_eq_true] at hr
  obtain ⟨⟨⟨⟨⟨g1, g2⟩, g3⟩, g4⟩, g5⟩, g6⟩ := hr
  obtain ⟨rd, rfl, hrd, zrd⟩ := reg_nat _ _ g1
  obtain ⟨rs1, rfl, hrs1, zrs1⟩ := reg_nat _ _ g2
  obtain ⟨rs2, rfl, hrs2, zrs2⟩ := reg_nat _ _ g3
  rcases hfo with rfl | rfl | rfl | rfl | rfl | rfl | rfl | rfl | rfl | rfl | rfl | rfl | rfl | rfl | rfl | rfl
  all_goals simp only [partsOf, Int.reduceBEq, Int.reduceEq, Int.reduceNe, Bool.false_eq_true, ↓reduceIte, Bool.or_eq_true, Bool.or_self, Bool.or_false, Bool.or_true, Bool.false_or, Bool.true_or, decide_eq_true_eq, Bool.not_eq_true', Bool.and_eq_true] at g4 g5 g6 zrd zrs1 zrs2
  all_goals clear g1 g2 g3
  · obtain ⟨rfl, rfl⟩ : aq = false ∧ rl = false := by simpa using g6
    obtain rfl : rs1 = 0 := by simpa using zrs1
    obtain rfl : rs2 = 0 := by simpa using zrs2
    obtain rfl : csr = 0 := g5
    have hm : imm % 4096 = 0 := Int.emod_eq_zero_of_dvd (Int.dvd_of_tmod_eq_zero g4.2)
    exact reads1 nm op c f3 f7 hc hf3 rd hrd imm (by omega) (by omega) hm W hW
  · obtain ⟨rfl, rfl⟩ : aq = false ∧ rl = false := by simpa using g6
    obtain rfl : rs1 = 0 := by simpa using zrs1
    obtain rfl : rs2 = 0 := by simpa using zrs2
    obtain rfl : csr = 0 := g5
    have hm : imm % 2 = 0 := Int.emod_eq_zero_of_dvd (Int.dvd_of_tmod_eq_zero g4.2)
    exact reads2 nm op c f3 f7 hc hf3 rd hrd imm (by omega) (by omega) hm W hW
  · obtain ⟨rfl, rfl⟩ : aq = false ∧ rl = false := by simpa using g6
    obtain rfl : rs2 = 0 := by simpa using zrs2
    obtain rfl : csr = 0 := g5
    exact reads3 nm op c f3 f7 hc hf3 rd rs1 hrd hrs1 imm (by omega) (by omega) W hW
  · obtain ⟨rfl, rfl⟩ : aq = false ∧ rl = false := by simpa using g6
    obtain rfl : rd = 0 := by simpa using zrd
    obtain rfl : csr = 0 := g5
    have hm : imm % 2 = 0 := Int.emod_eq_zero_of_dvd (Int.dvd_of_tmod_eq_zero g4.2)
    exact reads4 nm op c f3 f7 hc hf3 rs1 rs2 hrs1 hrs2 imm (by omega) (by omega) hm W hW
  · obtain ⟨rfl, rfl⟩ : aq = false ∧ rl = false := by simpa using g6
    obtain rfl : rs2 = 0 := by simpa using zrs2
    obtain rfl : csr = 0 := g5
    exact reads5 nm op c f3 f7 hc hf3 rd rs1 hrd hrs1 imm (by omega) (by omega) W hW
  · obtain ⟨rfl, rfl⟩ : aq = false ∧ rl = false := by simpa using g6
    obtain rfl : rd = 0 := by simpa using zrd
    obtain rfl : csr = 0 := g5
    exact reads6 nm op c f3 f7 hc hf3 rs1 rs2 hrs1 hrs2 imm (by omega) (by omega) W hW
  · obtain ⟨rfl, rfl⟩ : aq = false ∧ rl = false := by simpa using g6
    obtain rfl : rs2 = 0 := by simpa using zrs2
    obtain rfl : csr = 0 := g5
    exact reads7 nm op c f3 f7 hc hf3 (by omega) (by have := hev rfl; omega) rd rs1 hrd hrs1 imm (by omega) (by omega) W hW
  · obtain ⟨rfl, rfl⟩ : aq = false ∧ rl = false := by simpa using g6
    obtain rfl : rs2 = 0 := by simpa using zrs2
    obtain rfl : csr = 0 := g5
    exact reads8 nm op c f3 f7 hc hf3 (by omega) rd rs1 hrd hrs1 imm (by omega) (by omega) W hW
  · obtain ⟨rfl, rfl⟩ : aq = false ∧ rl = false := by simpa using g6
    obtain rfl : csr = 0 := g5
    obtain rfl : imm = 0 := g4
    exact reads9 nm op c f3 f7 hc hf3 (by omega) rd rs1 rs2 hrd hrs1 hrs2 W hW
  · obtain ⟨rfl, rfl⟩ : aq = false ∧ rl = false := by simpa using g6
    obtain rfl : rs2 = 0 := by simpa using zrs2
    obtain rfl : csr = 0 := g5
    exact reads10 nm op c f3 f7 hc hf3 rd rs1 hrd hrs1 imm (by omega) (by omega) W hW
  · obtain ⟨rfl, rfl⟩ : aq = false ∧ rl = false := by simpa using g6
    obtain rfl : rd = 0 := by simpa using zrd
    obtain rfl : rs1 = 0 := by simpa using zrs1
    obtain rfl : rs2 = 0 := by simpa using zrs2
    obtain rfl : csr = 0 := g5
    obtain rfl : imm = 0 := g4
    exact reads11 nm op c f3 f7 hc hf3 (by omega) W hW
  · obtain ⟨rfl, rfl⟩ : aq = false ∧ rl = false := by simpa using g6
    obtain rfl : rs2 = 0 := by simpa using zrs2
    obtain ⟨csr, rfl⟩ := Int.eq_ofNat_of_zero_le g5.1
    obtain rfl : imm = 0 := g4
    exact reads12 nm op c f3 f7 hc hf3 rd rs1 hrd hrs1 csr (by omega) W hW
  · obtain ⟨rfl, rfl⟩ : aq = false ∧ rl = false := by simpa using g6
    obtain rfl : rs1 = 0 := by simpa using zrs1
    obtain rfl : rs2 = 0 := by simpa using zrs2
    obtain ⟨csr, rfl⟩ := Int.eq_ofNat_of_zero_le g5.1
    exact reads13 nm op c f3 f7 hc hf3 rd hrd csr (by omega) imm (by omega) (by omega) W hW
  · obtain rfl : rs2 = 0 := by simpa using zrs2
    obtain rfl : csr = 0 := g5
    obtain rfl : imm = 0 := g4
    exact reads14 nm op c f3 f7 hc hf3 (by omega) rd rs1 hrd hrs1 aq rl W hW
  · obtain rfl : csr = 0 := g5
    obtain rfl : imm = 0 := g4
    exact reads15 nm op c f3 f7 hc hf3 (by omega) rd rs1 rs2 hrd hrs1 hrs2 aq rl W hW
  · obtain ⟨rfl, rfl⟩ : aq = false ∧ rl = false := by simpa using g6
    obtain rfl : rd = 0 := by simpa using zrd
    obtain rfl : csr = 0 := g5
    obtain rfl : imm = 0 := g4
    exact reads16 nm op c f3 f7 hc hf3 (by omega) rs1 rs2 hrs1 hrs2 W hW

end Go.Proofs.Ythifnlhbioaihaa
