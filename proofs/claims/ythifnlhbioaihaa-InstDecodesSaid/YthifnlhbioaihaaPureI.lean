/- Plain: a word that is an operation's is read as a right instruction whose word it is. -/
import Derived.Test.YthifnlhbioaihaaPureH
namespace Go.Proofs.Ythifnlhbioaihaa
open Go.RowKit
set_option linter.unusedVariables false
set_option linter.unusedSimpArgs false
theorem par (x : Int) : x % 2 = 0 ∨ x % 2 = 1 := by omega
theorem cast3 (W a n k : Nat) : ((W / a % n * k : Nat) : Int) = (W : Int) / (a : Int) % (n : Int) * (k : Int) := by rw [Int.natCast_mul, Int.natCast_emod, Int.natCast_ediv]
theorem low_fwd7 (a : Nat) (h : a < 64) (v : Int) (hv : v = a) : fld v 0 6 = a ∧ 0 ≤ v ∧ v ≤ 63 := by subst hv; simp only [fld, Nat.reducePow]; omega
theorem low_fwd8 (a : Nat) (h : a < 32) (v : Int) (hv : v = a) : fld v 0 6 = a ∧ 0 ≤ v ∧ v ≤ 31 := by subst hv; simp only [fld, Nat.reducePow]; omega
theorem low_fwd10 (a : Nat) (h : a < 4096) (v : Int) (hv : v = a) : fld v 0 12 = a ∧ 0 ≤ v ∧ v ≤ 4095 := by subst hv; simp only [fld, Nat.reducePow]; omega
theorem low_fwd13 (a : Nat) (h : a < 32) (v : Int) (hv : v = a) : fld v 0 5 = a ∧ 0 ≤ v ∧ v ≤ 31 := by subst hv; simp only [fld, Nat.reducePow]; omega
theorem rok0 : regOk 0 false = true := by decide
theorem rok5 (W : Nat) : regOk ((W : Int) / 128 % 32) true = true := by simp only [regOk, ↓reduceIte, decide_eq_true_eq]; omega
theorem rok15 (W : Nat) : regOk ((W : Int) / 32768 % 32) true = true := by simp only [regOk, ↓reduceIte, decide_eq_true_eq]; omega
theorem rok20 (W : Nat) : regOk ((W : Int) / 1048576 % 32) true = true := by simp only [regOk, ↓reduceIte, decide_eq_true_eq]; omega
theorem cok0 (W : Nat) : decide (0 ≤ (W : Int) / 1048576 % 4096) = true := by rw [decide_eq_true_eq]; omega
theorem cok1 (W : Nat) : decide ((W : Int) / 1048576 % 4096 ≤ 4095) = true := by rw [decide_eq_true_eq]; omega

theorem sums1 (W : Nat) (hw : W < 4294967296) : (W : Int) = (W : Int) % 128 + (W : Int) / 128 % 32 * 128 + (W : Int) / 4096 % 1048576 * 4096 := by
  omega

set_option maxHeartbeats 1000000 in
theorem whose1 (nm : ByteArray) (k : Int) (c f3 f7 : Nat) (W : Nat) (hw : W < 4294967296) (hh : HitP ⟨nm, 1, c, f3, f7⟩ W) : rightBy (partsOf 1) (fieldsOf k 1 W) = true ∧ rwordBy ⟨nm, 1, c, f3, f7⟩ (fieldsOf k 1 W) = W := by
  simp only [HitP, ne_eq, not_true_eq_false, not_false_eq_true, and_self, and_true, true_and, false_and, and_false, or_false, false_or, or_self, or_true, true_or, forall_const, false_implies, true_implies, implies_true, Int.reduceBEq, Int.reduceEq, Int.reduceNe, Bool.false_eq_true, ↓reduceIte, Bool.or_eq_true, Bool.or_self, Bool.or_false, Bool.or_true, Bool.false_or, Bool.true_or, decide_eq_true_eq, Bool.not_eq_true', Bool.and_eq_true] at hh
  have x5 := wself5 W
  have x15 := wself15 W
  have x20 := wself20 W
  have x12 := wself12 W
  have hn := immOf_num 1 W
  simp only [numOf, Int.reduceEq, ↓reduceIte] at hn
  obtain ⟨e12_12, r1, r2, r3⟩ : fld (immOf 1 W) 12 20 = W / 4096 % 1048576 ∧ -2147483648 ≤ immOf 1 W ∧ immOf 1 W ≤ 2147479552 ∧ immOf 1 W % 4096 = 0 := by have h := upper_fwd (W / 4096 % 1048576) (Nat.mod_lt _ (by decide)); rw [hn]; exact h
  clear hn
  generalize hv : immOf 1 W = v at *
  have q12_12 : rpart v 12 20 12 = (W : Int) / 4096 % 1048576 * 4096 := (rpart_fld v 12 20 12 (by decide)).trans (by rw [e12_12]; exact cast3 W 4096 1048576 4096)
  have hm : v.tmod 4096 = 0 := Int.tmod_eq_zero_of_dvd (Int.dvd_of_emod_eq_zero r3)
  have hm1 : decide (v.tmod 4096 = 0) = true := decide_eq_true hm
  have hr1 : decide (-2147483648 ≤ v) = true := decide_eq_true r1
  have hr2 : decide (v ≤ 2147479552) = true := decide_eq_true r2
  refine ⟨?_, ?_⟩
  · simp only [fieldsOf, partsOf, rightBy, g_7_5, g_15_5, g_20_5, g_20_12, x5, x15, x20, x12, rok0, rok5 W, rok15 W, rok20 W, cok0 W, cok1 W, hv, hm1, hr1, hr2, Int.reduceBEq, Int.reduceEq, Bool.false_eq_true, ↓reduceIte, decide_true, Bool.and_self, Bool.not_false, Bool.true_or, Bool.or_true, Bool.false_or]
  · simp only [fieldsOf, partsOf, rwordBy, immR, rnumber, g_7_5, g_15_5, g_20_5, g_20_12, g_26_1, g_25_1, x5, x15, x20, x12, hv, q12_12, Int.reduceBEq, Int.reduceEq, Int.reduceNe, Bool.false_eq_true, ↓reduceIte, Bool.or_eq_true, Bool.or_self, Bool.or_false, Bool.or_true, Bool.false_or, Bool.true_or, decide_eq_true_eq, Bool.not_eq_true', Bool.and_eq_true]
    clear x5 x15 x20 x12
    clear q12_12 e12_12 hm hm1 hr1 hr2 hv r1 r2
    have hs := sums1 W hw
    generalize (W : Int) % 128 = a0 at *
    generalize (W : Int) / 128 % 32 = a1 at *
    generalize (W : Int) / 4096 % 1048576 = a2 at *
    omega

theorem sums2 (W : Nat) (hw : W < 4294967296) : (W : Int) = (W : Int) % 128 + (W : Int) / 128 % 32 * 128 + (W : Int) / 4096 % 256 * 4096 + (W : Int) / 1048576 % 2 * 1048576 + (W : Int) / 2097152 % 1024 * 2097152 + (W : Int) / 2147483648 % 2 * 2147483648 := by
  omega

set_option maxHeartbeats 1000000 in
theorem whose2 (nm : ByteArray) (k : Int) (c f3 f7 : Nat) (W : Nat) (hw : W < 4294967296) (hh : HitP ⟨nm, 2, c, f3, f7⟩ W) : rightBy (partsOf 2) (fieldsOf k 2 W) = true ∧ rwordBy ⟨nm, 2, c, f3, f7⟩ (fieldsOf k 2 W) = W := by
  simp only [HitP, ne_eq, not_true_eq_false, not_false_eq_true, and_self, and_true, true_and, false_and, and_false, or_false, false_or, or_self, or_true, true_or, forall_const, false_implies, true_implies, implies_true, Int.reduceBEq, Int.reduceEq, Int.reduceNe, Bool.false_eq_true, ↓reduceIte, Bool.or_eq_true, Bool.or_self, Bool.or_false, Bool.or_true, Bool.false_or, Bool.true_or, decide_eq_true_eq, Bool.not_eq_true', Bool.and_eq_true] at hh
  have x5 := wself5 W
  have x15 := wself15 W
  have x20 := wself20 W
  have x12 := wself12 W
  have hn := immOf_num 2 W
  simp only [numOf, Int.reduceEq, ↓reduceIte] at hn
  obtain ⟨e20_31, e1_21, e11_20, e12_12, r1, r2, r3⟩ := jump_fwd (W / 2147483648 % 2) (W / 2097152 % 1024) (W / 1048576 % 2) (W / 4096 % 256) (Nat.mod_lt _ (by decide)) (Nat.mod_lt _ (by decide)) (Nat.mod_lt _ (by decide)) (Nat.mod_lt _ (by decide)) (immOf 2 W) hn
  clear hn
  generalize hv : immOf 2 W = v at *
  have q20_31 : rpart v 20 1 31 = (W : Int) / 2147483648 % 2 * 2147483648 := (rpart_fld v 20 1 31 (by decide)).trans (by rw [e20_31]; exact cast3 W 2147483648 2 2147483648)
  have q1_21 : rpart v 1 10 21 = (W : Int) / 2097152 % 1024 * 2097152 := (rpart_fld v 1 10 21 (by decide)).trans (by rw [e1_21]; exact cast3 W 2097152 1024 2097152)
  have q11_20 : rpart v 11 1 20 = (W : Int) / 1048576 % 2 * 1048576 := (rpart_fld v 11 1 20 (by decide)).trans (by rw [e11_20]; exact cast3 W 1048576 2 1048576)
  have q12_12 : rpart v 12 8 12 = (W : Int) / 4096 % 256 * 4096 := (rpart_fld v 12 8 12 (by decide)).trans (by rw [e12_12]; exact cast3 W 4096 256 4096)
  have hm : v.tmod 2 = 0 := Int.tmod_eq_zero_of_dvd (Int.dvd_of_emod_eq_zero r3)
  have hm1 : decide (v.tmod 2 = 0) = true := decide_eq_true hm
  have hr1 : decide (-1048576 ≤ v) = true := decide_eq_true r1
  have hr2 : decide (v ≤ 1048574) = true := decide_eq_true r2
  refine ⟨?_, ?_⟩
  · simp only [fieldsOf, partsOf, rightBy, g_7_5, g_15_5, g_20_5, g_20_12, x5, x15, x20, x12, rok0, rok5 W, rok15 W, rok20 W, cok0 W, cok1 W, hv, hm1, hr1, hr2, Int.reduceBEq, Int.reduceEq, Bool.false_eq_true, ↓reduceIte, decide_true, Bool.and_self, Bool.not_false, Bool.true_or, Bool.or_true, Bool.false_or]
  · simp only [fieldsOf, partsOf, rwordBy, immR, rnumber, g_7_5, g_15_5, g_20_5, g_20_12, g_26_1, g_25_1, x5, x15, x20, x12, hv, q20_31, q1_21, q11_20, q12_12, Int.reduceBEq, Int.reduceEq, Int.reduceNe, Bool.false_eq_true, ↓reduceIte, Bool.or_eq_true, Bool.or_self, Bool.or_false, Bool.or_true, Bool.false_or, Bool.true_or, decide_eq_true_eq, Bool.not_eq_true', Bool.and_eq_true]
    clear x5 x15 x20 x12
    clear q20_31 e20_31 q1_21 e1_21 q11_20 e11_20 q12_12 e12_12 hm hm1 hr1 hr2 hv r1 r2
    have hs := sums2 W hw
    generalize (W : Int) % 128 = a0 at *
    generalize (W : Int) / 128 % 32 = a1 at *
    generalize (W : Int) / 4096 % 256 = a2 at *
    generalize (W : Int) / 1048576 % 2 = a3 at *
    generalize (W : Int) / 2097152 % 1024 = a4 at *
    generalize (W : Int) / 2147483648 % 2 = a5 at *
    omega

theorem sums3 (W : Nat) (hw : W < 4294967296) : (W : Int) = (W : Int) % 128 + (W : Int) / 128 % 32 * 128 + (W : Int) / 4096 % 8 * 4096 + (W : Int) / 32768 % 32 * 32768 + (W : Int) / 1048576 % 4096 * 1048576 := by
  omega

set_option maxHeartbeats 1000000 in
theorem whose3 (nm : ByteArray) (k : Int) (c f3 f7 : Nat) (W : Nat) (hw : W < 4294967296) (hh : HitP ⟨nm, 3, c, f3, f7⟩ W) : rightBy (partsOf 3) (fieldsOf k 3 W) = true ∧ rwordBy ⟨nm, 3, c, f3, f7⟩ (fieldsOf k 3 W) = W := by
  simp only [HitP, ne_eq, not_true_eq_false, not_false_eq_true, and_self, and_true, true_and, false_and, and_false, or_false, false_or, or_self, or_true, true_or, forall_const, false_implies, true_implies, implies_true, Int.reduceBEq, Int.reduceEq, Int.reduceNe, Bool.false_eq_true, ↓reduceIte, Bool.or_eq_true, Bool.or_self, Bool.or_false, Bool.or_true, Bool.false_or, Bool.true_or, decide_eq_true_eq, Bool.not_eq_true', Bool.and_eq_true] at hh
  have x5 := wself5 W
  have x15 := wself15 W
  have x20 := wself20 W
  have x12 := wself12 W
  have hn := immOf_num 3 W
  simp only [numOf, Int.reduceEq, ↓reduceIte] at hn
  obtain ⟨e0_20, r1, r2⟩ := number_fwd (W / 1048576 % 4096) (Nat.mod_lt _ (by decide)) (immOf 3 W) hn
  clear hn
  generalize hv : immOf 3 W = v at *
  have q0_20 : rpart v 0 12 20 = (W : Int) / 1048576 % 4096 * 1048576 := (rpart_fld v 0 12 20 (by decide)).trans (by rw [e0_20]; exact cast3 W 1048576 4096 1048576)
  have hm : v.tmod 1 = 0 := Int.tmod_one v
  have hm1 : decide (v.tmod 1 = 0) = true := decide_eq_true hm
  have hr1 : decide (-2048 ≤ v) = true := decide_eq_true r1
  have hr2 : decide (v ≤ 2047) = true := decide_eq_true r2
  refine ⟨?_, ?_⟩
  · simp only [fieldsOf, partsOf, rightBy, g_7_5, g_15_5, g_20_5, g_20_12, x5, x15, x20, x12, rok0, rok5 W, rok15 W, rok20 W, cok0 W, cok1 W, hv, hm1, hr1, hr2, Int.reduceBEq, Int.reduceEq, Bool.false_eq_true, ↓reduceIte, decide_true, Bool.and_self, Bool.not_false, Bool.true_or, Bool.or_true, Bool.false_or]
  · simp only [fieldsOf, partsOf, rwordBy, immR, rnumber, g_7_5, g_15_5, g_20_5, g_20_12, g_26_1, g_25_1, x5, x15, x20, x12, hv, q0_20, Int.reduceBEq, Int.reduceEq, Int.reduceNe, Bool.false_eq_true, ↓reduceIte, Bool.or_eq_true, Bool.or_self, Bool.or_false, Bool.or_true, Bool.false_or, Bool.true_or, decide_eq_true_eq, Bool.not_eq_true', Bool.and_eq_true]
    clear x5 x15 x20 x12
    clear q0_20 e0_20 hm hm1 hr1 hr2 hv r1 r2
    have hs := sums3 W hw
    generalize (W : Int) % 128 = a0 at *
    generalize (W : Int) / 128 % 32 = a1 at *
    generalize (W : Int) / 4096 % 8 = a2 at *
    generalize (W : Int) / 32768 % 32 = a3 at *
    generalize (W : Int) / 1048576 % 4096 = a4 at *
    omega

theorem sums4 (W : Nat) (hw : W < 4294967296) : (W : Int) = (W : Int) % 128 + (W : Int) / 128 % 2 * 128 + (W : Int) / 256 % 16 * 256 + (W : Int) / 4096 % 8 * 4096 + (W : Int) / 32768 % 32 * 32768 + (W : Int) / 1048576 % 32 * 1048576 + (W : Int) / 33554432 % 64 * 33554432 + (W : Int) / 2147483648 % 2 * 2147483648 := by
  omega

set_option maxHeartbeats 1000000 in
theorem whose4 (nm : ByteArray) (k : Int) (c f3 f7 : Nat) (W : Nat) (hw : W < 4294967296) (hh : HitP ⟨nm, 4, c, f3, f7⟩ W) : rightBy (partsOf 4) (fieldsOf k 4 W) = true ∧ rwordBy ⟨nm, 4, c, f3, f7⟩ (fieldsOf k 4 W) = W := by
  simp only [HitP, ne_eq, not_true_eq_false, not_false_eq_true, and_self, and_true, true_and, false_and, and_false, or_false, false_or, or_self, or_true, true_or, forall_const, false_implies, true_implies, implies_true, Int.reduceBEq, Int.reduceEq, Int.reduceNe, Bool.false_eq_true, ↓reduceIte, Bool.or_eq_true, Bool.or_self, Bool.or_false, Bool.or_true, Bool.false_or, Bool.true_or, decide_eq_true_eq, Bool.not_eq_true', Bool.and_eq_true] at hh
  have x5 := wself5 W
  have x15 := wself15 W
  have x20 := wself20 W
  have x12 := wself12 W
  have hn := immOf_num 4 W
  simp only [numOf, Int.reduceEq, ↓reduceIte] at hn
  obtain ⟨e12_31, e5_25, e1_8, e11_7, r1, r2, r3⟩ := branch_fwd (W / 2147483648 % 2) (W / 33554432 % 64) (W / 256 % 16) (W / 128 % 2) (Nat.mod_lt _ (by decide)) (Nat.mod_lt _ (by decide)) (Nat.mod_lt _ (by decide)) (Nat.mod_lt _ (by decide)) (immOf 4 W) hn
  clear hn
  generalize hv : immOf 4 W = v at *
  have q12_31 : rpart v 12 1 31 = (W : Int) / 2147483648 % 2 * 2147483648 := (rpart_fld v 12 1 31 (by decide)).trans (by rw [e12_31]; exact cast3 W 2147483648 2 2147483648)
  have q5_25 : rpart v 5 6 25 = (W : Int) / 33554432 % 64 * 33554432 := (rpart_fld v 5 6 25 (by decide)).trans (by rw [e5_25]; exact cast3 W 33554432 64 33554432)
  have q1_8 : rpart v 1 4 8 = (W : Int) / 256 % 16 * 256 := (rpart_fld v 1 4 8 (by decide)).trans (by rw [e1_8]; exact cast3 W 256 16 256)
  have q11_7 : rpart v 11 1 7 = (W : Int) / 128 % 2 * 128 := (rpart_fld v 11 1 7 (by decide)).trans (by rw [e11_7]; exact cast3 W 128 2 128)
  have hm : v.tmod 2 = 0 := Int.tmod_eq_zero_of_dvd (Int.dvd_of_emod_eq_zero r3)
  have hm1 : decide (v.tmod 2 = 0) = true := decide_eq_true hm
  have hr1 : decide (-4096 ≤ v) = true := decide_eq_true r1
  have hr2 : decide (v ≤ 4094) = true := decide_eq_true r2
  refine ⟨?_, ?_⟩
  · simp only [fieldsOf, partsOf, rightBy, g_7_5, g_15_5, g_20_5, g_20_12, x5, x15, x20, x12, rok0, rok5 W, rok15 W, rok20 W, cok0 W, cok1 W, hv, hm1, hr1, hr2, Int.reduceBEq, Int.reduceEq, Bool.false_eq_true, ↓reduceIte, decide_true, Bool.and_self, Bool.not_false, Bool.true_or, Bool.or_true, Bool.false_or]
  · simp only [fieldsOf, partsOf, rwordBy, immR, rnumber, g_7_5, g_15_5, g_20_5, g_20_12, g_26_1, g_25_1, x5, x15, x20, x12, hv, q12_31, q5_25, q1_8, q11_7, Int.reduceBEq, Int.reduceEq, Int.reduceNe, Bool.false_eq_true, ↓reduceIte, Bool.or_eq_true, Bool.or_self, Bool.or_false, Bool.or_true, Bool.false_or, Bool.true_or, decide_eq_true_eq, Bool.not_eq_true', Bool.and_eq_true]
    clear x5 x15 x20 x12
    clear q12_31 e12_31 q5_25 e5_25 q1_8 e1_8 q11_7 e11_7 hm hm1 hr1 hr2 hv r1 r2
    have hs := sums4 W hw
    generalize (W : Int) % 128 = a0 at *
    generalize (W : Int) / 128 % 2 = a1 at *
    generalize (W : Int) / 256 % 16 = a2 at *
    generalize (W : Int) / 4096 % 8 = a3 at *
    generalize (W : Int) / 32768 % 32 = a4 at *
    generalize (W : Int) / 1048576 % 32 = a5 at *
    generalize (W : Int) / 33554432 % 64 = a6 at *
    generalize (W : Int) / 2147483648 % 2 = a7 at *
    omega

theorem sums5 (W : Nat) (hw : W < 4294967296) : (W : Int) = (W : Int) % 128 + (W : Int) / 128 % 32 * 128 + (W : Int) / 4096 % 8 * 4096 + (W : Int) / 32768 % 32 * 32768 + (W : Int) / 1048576 % 4096 * 1048576 := by
  omega

set_option maxHeartbeats 1000000 in
theorem whose5 (nm : ByteArray) (k : Int) (c f3 f7 : Nat) (W : Nat) (hw : W < 4294967296) (hh : HitP ⟨nm, 5, c, f3, f7⟩ W) : rightBy (partsOf 5) (fieldsOf k 5 W) = true ∧ rwordBy ⟨nm, 5, c, f3, f7⟩ (fieldsOf k 5 W) = W := by
  simp only [HitP, ne_eq, not_true_eq_false, not_false_eq_true, and_self, and_true, true_and, false_and, and_false, or_false, false_or, or_self, or_true, true_or, forall_const, false_implies, true_implies, implies_true, Int.reduceBEq, Int.reduceEq, Int.reduceNe, Bool.false_eq_true, ↓reduceIte, Bool.or_eq_true, Bool.or_self, Bool.or_false, Bool.or_true, Bool.false_or, Bool.true_or, decide_eq_true_eq, Bool.not_eq_true', Bool.and_eq_true] at hh
  have x5 := wself5 W
  have x15 := wself15 W
  have x20 := wself20 W
  have x12 := wself12 W
  have hn := immOf_num 5 W
  simp only [numOf, Int.reduceEq, ↓reduceIte] at hn
  obtain ⟨e0_20, r1, r2⟩ := number_fwd (W / 1048576 % 4096) (Nat.mod_lt _ (by decide)) (immOf 5 W) hn
  clear hn
  generalize hv : immOf 5 W = v at *
  have q0_20 : rpart v 0 12 20 = (W : Int) / 1048576 % 4096 * 1048576 := (rpart_fld v 0 12 20 (by decide)).trans (by rw [e0_20]; exact cast3 W 1048576 4096 1048576)
  have hm : v.tmod 1 = 0 := Int.tmod_one v
  have hm1 : decide (v.tmod 1 = 0) = true := decide_eq_true hm
  have hr1 : decide (-2048 ≤ v) = true := decide_eq_true r1
  have hr2 : decide (v ≤ 2047) = true := decide_eq_true r2
  refine ⟨?_, ?_⟩
  · simp only [fieldsOf, partsOf, rightBy, g_7_5, g_15_5, g_20_5, g_20_12, x5, x15, x20, x12, rok0, rok5 W, rok15 W, rok20 W, cok0 W, cok1 W, hv, hm1, hr1, hr2, Int.reduceBEq, Int.reduceEq, Bool.false_eq_true, ↓reduceIte, decide_true, Bool.and_self, Bool.not_false, Bool.true_or, Bool.or_true, Bool.false_or]
  · simp only [fieldsOf, partsOf, rwordBy, immR, rnumber, g_7_5, g_15_5, g_20_5, g_20_12, g_26_1, g_25_1, x5, x15, x20, x12, hv, q0_20, Int.reduceBEq, Int.reduceEq, Int.reduceNe, Bool.false_eq_true, ↓reduceIte, Bool.or_eq_true, Bool.or_self, Bool.or_false, Bool.or_true, Bool.false_or, Bool.true_or, decide_eq_true_eq, Bool.not_eq_true', Bool.and_eq_true]
    clear x5 x15 x20 x12
    clear q0_20 e0_20 hm hm1 hr1 hr2 hv r1 r2
    have hs := sums5 W hw
    generalize (W : Int) % 128 = a0 at *
    generalize (W : Int) / 128 % 32 = a1 at *
    generalize (W : Int) / 4096 % 8 = a2 at *
    generalize (W : Int) / 32768 % 32 = a3 at *
    generalize (W : Int) / 1048576 % 4096 = a4 at *
    omega

theorem sums6 (W : Nat) (hw : W < 4294967296) : (W : Int) = (W : Int) % 128 + (W : Int) / 128 % 32 * 128 + (W : Int) / 4096 % 8 * 4096 + (W : Int) / 32768 % 32 * 32768 + (W : Int) / 1048576 % 32 * 1048576 + (W : Int) / 33554432 % 128 * 33554432 := by
  omega

set_option maxHeartbeats 1000000 in
theorem whose6 (nm : ByteArray) (k : Int) (c f3 f7 : Nat) (W : Nat) (hw : W < 4294967296) (hh : HitP ⟨nm, 6, c, f3, f7⟩ W) : rightBy (partsOf 6) (fieldsOf k 6 W) = true ∧ rwordBy ⟨nm, 6, c, f3, f7⟩ (fieldsOf k 6 W) = W := by
  simp only [HitP, ne_eq, not_true_eq_false, not_false_eq_true, and_self, and_true, true_and, false_and, and_false, or_false, false_or, or_self, or_true, true_or, forall_const, false_implies, true_implies, implies_true, Int.reduceBEq, Int.reduceEq, Int.reduceNe, Bool.false_eq_true, ↓reduceIte, Bool.or_eq_true, Bool.or_self, Bool.or_false, Bool.or_true, Bool.false_or, Bool.true_or, decide_eq_true_eq, Bool.not_eq_true', Bool.and_eq_true] at hh
  have x5 := wself5 W
  have x15 := wself15 W
  have x20 := wself20 W
  have x12 := wself12 W
  have hn := immOf_num 6 W
  simp only [numOf, Int.reduceEq, ↓reduceIte] at hn
  obtain ⟨e5_25, e0_7, r1, r2⟩ := store_fwd (W / 33554432 % 128) (W / 128 % 32) (Nat.mod_lt _ (by decide)) (Nat.mod_lt _ (by decide)) (immOf 6 W) hn
  clear hn
  generalize hv : immOf 6 W = v at *
  have q5_25 : rpart v 5 7 25 = (W : Int) / 33554432 % 128 * 33554432 := (rpart_fld v 5 7 25 (by decide)).trans (by rw [e5_25]; exact cast3 W 33554432 128 33554432)
  have q0_7 : rpart v 0 5 7 = (W : Int) / 128 % 32 * 128 := (rpart_fld v 0 5 7 (by decide)).trans (by rw [e0_7]; exact cast3 W 128 32 128)
  have hm : v.tmod 1 = 0 := Int.tmod_one v
  have hm1 : decide (v.tmod 1 = 0) = true := decide_eq_true hm
  have hr1 : decide (-2048 ≤ v) = true := decide_eq_true r1
  have hr2 : decide (v ≤ 2047) = true := decide_eq_true r2
  refine ⟨?_, ?_⟩
  · simp only [fieldsOf, partsOf, rightBy, g_7_5, g_15_5, g_20_5, g_20_12, x5, x15, x20, x12, rok0, rok5 W, rok15 W, rok20 W, cok0 W, cok1 W, hv, hm1, hr1, hr2, Int.reduceBEq, Int.reduceEq, Bool.false_eq_true, ↓reduceIte, decide_true, Bool.and_self, Bool.not_false, Bool.true_or, Bool.or_true, Bool.false_or]
  · simp only [fieldsOf, partsOf, rwordBy, immR, rnumber, g_7_5, g_15_5, g_20_5, g_20_12, g_26_1, g_25_1, x5, x15, x20, x12, hv, q5_25, q0_7, Int.reduceBEq, Int.reduceEq, Int.reduceNe, Bool.false_eq_true, ↓reduceIte, Bool.or_eq_true, Bool.or_self, Bool.or_false, Bool.or_true, Bool.false_or, Bool.true_or, decide_eq_true_eq, Bool.not_eq_true', Bool.and_eq_true]
    clear x5 x15 x20 x12
    clear q5_25 e5_25 q0_7 e0_7 hm hm1 hr1 hr2 hv r1 r2
    have hs := sums6 W hw
    generalize (W : Int) % 128 = a0 at *
    generalize (W : Int) / 128 % 32 = a1 at *
    generalize (W : Int) / 4096 % 8 = a2 at *
    generalize (W : Int) / 32768 % 32 = a3 at *
    generalize (W : Int) / 1048576 % 32 = a4 at *
    generalize (W : Int) / 33554432 % 128 = a5 at *
    omega

theorem sums7 (W : Nat) (hw : W < 4294967296) : (W : Int) = (W : Int) % 128 + (W : Int) / 128 % 32 * 128 + (W : Int) / 4096 % 8 * 4096 + (W : Int) / 32768 % 32 * 32768 + (W : Int) / 1048576 % 64 * 1048576 + (W : Int) / 67108864 * 67108864 := by
  omega

set_option maxHeartbeats 1000000 in
theorem whose7 (nm : ByteArray) (k : Int) (c f3 f7 : Nat) (W : Nat) (hw : W < 4294967296) (hh : HitP ⟨nm, 7, c, f3, f7⟩ W) : rightBy (partsOf 7) (fieldsOf k 7 W) = true ∧ rwordBy ⟨nm, 7, c, f3, f7⟩ (fieldsOf k 7 W) = W := by
  simp only [HitP, ne_eq, not_true_eq_false, not_false_eq_true, and_self, and_true, true_and, false_and, and_false, or_false, false_or, or_self, or_true, true_or, forall_const, false_implies, true_implies, implies_true, Int.reduceBEq, Int.reduceEq, Int.reduceNe, Bool.false_eq_true, ↓reduceIte, Bool.or_eq_true, Bool.or_self, Bool.or_false, Bool.or_true, Bool.false_or, Bool.true_or, decide_eq_true_eq, Bool.not_eq_true', Bool.and_eq_true] at hh
  have x5 := wself5 W
  have x15 := wself15 W
  have x20 := wself20 W
  have x12 := wself12 W
  have hn := immOf_num 7 W
  simp only [numOf, Int.reduceEq, ↓reduceIte] at hn
  obtain ⟨e0_20, r1, r2⟩ := low_fwd7 (W / 1048576 % 64) (Nat.mod_lt _ (by decide)) (immOf 7 W) hn
  clear hn
  generalize hv : immOf 7 W = v at *
  have q0_20 : rpart v 0 6 20 = (W : Int) / 1048576 % 64 * 1048576 := (rpart_fld v 0 6 20 (by decide)).trans (by rw [e0_20]; exact cast3 W 1048576 64 1048576)
  have hm : v.tmod 1 = 0 := Int.tmod_one v
  have hm1 : decide (v.tmod 1 = 0) = true := decide_eq_true hm
  have hr1 : decide (0 ≤ v) = true := decide_eq_true r1
  have hr2 : decide (v ≤ 63) = true := decide_eq_true r2
  refine ⟨?_, ?_⟩
  · simp only [fieldsOf, partsOf, rightBy, g_7_5, g_15_5, g_20_5, g_20_12, x5, x15, x20, x12, rok0, rok5 W, rok15 W, rok20 W, cok0 W, cok1 W, hv, hm1, hr1, hr2, Int.reduceBEq, Int.reduceEq, Bool.false_eq_true, ↓reduceIte, decide_true, Bool.and_self, Bool.not_false, Bool.true_or, Bool.or_true, Bool.false_or]
  · simp only [fieldsOf, partsOf, rwordBy, immR, rnumber, g_7_5, g_15_5, g_20_5, g_20_12, g_26_1, g_25_1, x5, x15, x20, x12, hv, q0_20, Int.reduceBEq, Int.reduceEq, Int.reduceNe, Bool.false_eq_true, ↓reduceIte, Bool.or_eq_true, Bool.or_self, Bool.or_false, Bool.or_true, Bool.false_or, Bool.true_or, decide_eq_true_eq, Bool.not_eq_true', Bool.and_eq_true]
    clear x5 x15 x20 x12
    clear q0_20 e0_20 hm hm1 hr1 hr2 hv r1 r2
    have hs := sums7 W hw
    generalize (W : Int) % 128 = a0 at *
    generalize (W : Int) / 128 % 32 = a1 at *
    generalize (W : Int) / 4096 % 8 = a2 at *
    generalize (W : Int) / 32768 % 32 = a3 at *
    generalize (W : Int) / 1048576 % 64 = a4 at *
    generalize (W : Int) / 67108864 = a5 at *
    omega

theorem sums8 (W : Nat) (hw : W < 4294967296) : (W : Int) = (W : Int) % 128 + (W : Int) / 128 % 32 * 128 + (W : Int) / 4096 % 8 * 4096 + (W : Int) / 32768 % 32 * 32768 + (W : Int) / 1048576 % 32 * 1048576 + (W : Int) / 33554432 * 33554432 := by
  omega

set_option maxHeartbeats 1000000 in
theorem whose8 (nm : ByteArray) (k : Int) (c f3 f7 : Nat) (W : Nat) (hw : W < 4294967296) (hh : HitP ⟨nm, 8, c, f3, f7⟩ W) : rightBy (partsOf 8) (fieldsOf k 8 W) = true ∧ rwordBy ⟨nm, 8, c, f3, f7⟩ (fieldsOf k 8 W) = W := by
  simp only [HitP, ne_eq, not_true_eq_false, not_false_eq_true, and_self, and_true, true_and, false_and, and_false, or_false, false_or, or_self, or_true, true_or, forall_const, false_implies, true_implies, implies_true, Int.reduceBEq, Int.reduceEq, Int.reduceNe, Bool.false_eq_true, ↓reduceIte, Bool.or_eq_true, Bool.or_self, Bool.or_false, Bool.or_true, Bool.false_or, Bool.true_or, decide_eq_true_eq, Bool.not_eq_true', Bool.and_eq_true] at hh
  have x5 := wself5 W
  have x15 := wself15 W
  have x20 := wself20 W
  have x12 := wself12 W
  have hn := immOf_num 8 W
  simp only [numOf, Int.reduceEq, ↓reduceIte] at hn
  obtain ⟨e0_20, r1, r2⟩ := low_fwd8 (W / 1048576 % 32) (Nat.mod_lt _ (by decide)) (immOf 8 W) hn
  clear hn
  generalize hv : immOf 8 W = v at *
  have q0_20 : rpart v 0 6 20 = (W : Int) / 1048576 % 32 * 1048576 := (rpart_fld v 0 6 20 (by decide)).trans (by rw [e0_20]; exact cast3 W 1048576 32 1048576)
  have hm : v.tmod 1 = 0 := Int.tmod_one v
  have hm1 : decide (v.tmod 1 = 0) = true := decide_eq_true hm
  have hr1 : decide (0 ≤ v) = true := decide_eq_true r1
  have hr2 : decide (v ≤ 31) = true := decide_eq_true r2
  refine ⟨?_, ?_⟩
  · simp only [fieldsOf, partsOf, rightBy, g_7_5, g_15_5, g_20_5, g_20_12, x5, x15, x20, x12, rok0, rok5 W, rok15 W, rok20 W, cok0 W, cok1 W, hv, hm1, hr1, hr2, Int.reduceBEq, Int.reduceEq, Bool.false_eq_true, ↓reduceIte, decide_true, Bool.and_self, Bool.not_false, Bool.true_or, Bool.or_true, Bool.false_or]
  · simp only [fieldsOf, partsOf, rwordBy, immR, rnumber, g_7_5, g_15_5, g_20_5, g_20_12, g_26_1, g_25_1, x5, x15, x20, x12, hv, q0_20, Int.reduceBEq, Int.reduceEq, Int.reduceNe, Bool.false_eq_true, ↓reduceIte, Bool.or_eq_true, Bool.or_self, Bool.or_false, Bool.or_true, Bool.false_or, Bool.true_or, decide_eq_true_eq, Bool.not_eq_true', Bool.and_eq_true]
    clear x5 x15 x20 x12
    clear q0_20 e0_20 hm hm1 hr1 hr2 hv r1 r2
    have hs := sums8 W hw
    generalize (W : Int) % 128 = a0 at *
    generalize (W : Int) / 128 % 32 = a1 at *
    generalize (W : Int) / 4096 % 8 = a2 at *
    generalize (W : Int) / 32768 % 32 = a3 at *
    generalize (W : Int) / 1048576 % 32 = a4 at *
    generalize (W : Int) / 33554432 = a5 at *
    omega

theorem sums9 (W : Nat) (hw : W < 4294967296) : (W : Int) = (W : Int) % 128 + (W : Int) / 128 % 32 * 128 + (W : Int) / 4096 % 8 * 4096 + (W : Int) / 32768 % 32 * 32768 + (W : Int) / 1048576 % 32 * 1048576 + (W : Int) / 33554432 * 33554432 := by
  omega

set_option maxHeartbeats 1000000 in
theorem whose9 (nm : ByteArray) (k : Int) (c f3 f7 : Nat) (W : Nat) (hw : W < 4294967296) (hh : HitP ⟨nm, 9, c, f3, f7⟩ W) : rightBy (partsOf 9) (fieldsOf k 9 W) = true ∧ rwordBy ⟨nm, 9, c, f3, f7⟩ (fieldsOf k 9 W) = W := by
  simp only [HitP, ne_eq, not_true_eq_false, not_false_eq_true, and_self, and_true, true_and, false_and, and_false, or_false, false_or, or_self, or_true, true_or, forall_const, false_implies, true_implies, implies_true, Int.reduceBEq, Int.reduceEq, Int.reduceNe, Bool.false_eq_true, ↓reduceIte, Bool.or_eq_true, Bool.or_self, Bool.or_false, Bool.or_true, Bool.false_or, Bool.true_or, decide_eq_true_eq, Bool.not_eq_true', Bool.and_eq_true] at hh
  have x5 := wself5 W
  have x15 := wself15 W
  have x20 := wself20 W
  have x12 := wself12 W
  refine ⟨?_, ?_⟩
  · simp only [fieldsOf, partsOf, rightBy, g_7_5, g_15_5, g_20_5, g_20_12, x5, x15, x20, x12, rok0, rok5 W, rok15 W, rok20 W, cok0 W, cok1 W, Int.reduceBEq, Int.reduceEq, Bool.false_eq_true, ↓reduceIte, decide_true, Bool.and_self, Bool.not_false, Bool.true_or, Bool.or_true, Bool.false_or]
  · simp only [fieldsOf, partsOf, rwordBy, immR, rnumber, g_7_5, g_15_5, g_20_5, g_20_12, g_26_1, g_25_1, x5, x15, x20, x12, Int.reduceBEq, Int.reduceEq, Int.reduceNe, Bool.false_eq_true, ↓reduceIte, Bool.or_eq_true, Bool.or_self, Bool.or_false, Bool.or_true, Bool.false_or, Bool.true_or, decide_eq_true_eq, Bool.not_eq_true', Bool.and_eq_true]
    clear x5 x15 x20 x12
    have hs := sums9 W hw
    generalize (W : Int) % 128 = a0 at *
    generalize (W : Int) / 128 % 32 = a1 at *
    generalize (W : Int) / 4096 % 8 = a2 at *
    generalize (W : Int) / 32768 % 32 = a3 at *
    generalize (W : Int) / 1048576 % 32 = a4 at *
    generalize (W : Int) / 33554432 = a5 at *
    omega

theorem sums10 (W : Nat) (hw : W < 4294967296) : (W : Int) = (W : Int) % 128 + (W : Int) / 128 % 32 * 128 + (W : Int) / 4096 % 8 * 4096 + (W : Int) / 32768 % 32 * 32768 + (W : Int) / 1048576 % 4096 * 1048576 := by
  omega

set_option maxHeartbeats 1000000 in
theorem whose10 (nm : ByteArray) (k : Int) (c f3 f7 : Nat) (W : Nat) (hw : W < 4294967296) (hh : HitP ⟨nm, 10, c, f3, f7⟩ W) : rightBy (partsOf 10) (fieldsOf k 10 W) = true ∧ rwordBy ⟨nm, 10, c, f3, f7⟩ (fieldsOf k 10 W) = W := by
  simp only [HitP, ne_eq, not_true_eq_false, not_false_eq_true, and_self, and_true, true_and, false_and, and_false, or_false, false_or, or_self, or_true, true_or, forall_const, false_implies, true_implies, implies_true, Int.reduceBEq, Int.reduceEq, Int.reduceNe, Bool.false_eq_true, ↓reduceIte, Bool.or_eq_true, Bool.or_self, Bool.or_false, Bool.or_true, Bool.false_or, Bool.true_or, decide_eq_true_eq, Bool.not_eq_true', Bool.and_eq_true] at hh
  have x5 := wself5 W
  have x15 := wself15 W
  have x20 := wself20 W
  have x12 := wself12 W
  have hn := immOf_num 10 W
  simp only [numOf, Int.reduceEq, ↓reduceIte] at hn
  obtain ⟨e0_20, r1, r2⟩ := low_fwd10 (W / 1048576 % 4096) (Nat.mod_lt _ (by decide)) (immOf 10 W) hn
  clear hn
  generalize hv : immOf 10 W = v at *
  have q0_20 : rpart v 0 12 20 = (W : Int) / 1048576 % 4096 * 1048576 := (rpart_fld v 0 12 20 (by decide)).trans (by rw [e0_20]; exact cast3 W 1048576 4096 1048576)
  have hm : v.tmod 1 = 0 := Int.tmod_one v
  have hm1 : decide (v.tmod 1 = 0) = true := decide_eq_true hm
  have hr1 : decide (0 ≤ v) = true := decide_eq_true r1
  have hr2 : decide (v ≤ 4095) = true := decide_eq_true r2
  refine ⟨?_, ?_⟩
  · simp only [fieldsOf, partsOf, rightBy, g_7_5, g_15_5, g_20_5, g_20_12, x5, x15, x20, x12, rok0, rok5 W, rok15 W, rok20 W, cok0 W, cok1 W, hv, hm1, hr1, hr2, Int.reduceBEq, Int.reduceEq, Bool.false_eq_true, ↓reduceIte, decide_true, Bool.and_self, Bool.not_false, Bool.true_or, Bool.or_true, Bool.false_or]
  · simp only [fieldsOf, partsOf, rwordBy, immR, rnumber, g_7_5, g_15_5, g_20_5, g_20_12, g_26_1, g_25_1, x5, x15, x20, x12, hv, q0_20, Int.reduceBEq, Int.reduceEq, Int.reduceNe, Bool.false_eq_true, ↓reduceIte, Bool.or_eq_true, Bool.or_self, Bool.or_false, Bool.or_true, Bool.false_or, Bool.true_or, decide_eq_true_eq, Bool.not_eq_true', Bool.and_eq_true]
    clear x5 x15 x20 x12
    clear q0_20 e0_20 hm hm1 hr1 hr2 hv r1 r2
    have hs := sums10 W hw
    generalize (W : Int) % 128 = a0 at *
    generalize (W : Int) / 128 % 32 = a1 at *
    generalize (W : Int) / 4096 % 8 = a2 at *
    generalize (W : Int) / 32768 % 32 = a3 at *
    generalize (W : Int) / 1048576 % 4096 = a4 at *
    omega

theorem sums11 (W : Nat) (hw : W < 4294967296) (z15 : (W : Int) / 32768 % 32 = 0) (z7 : (W : Int) / 128 % 32 = 0) : (W : Int) = (W : Int) % 128 + (W : Int) / 4096 % 8 * 4096 + (W : Int) / 1048576 * 1048576 := by
  omega

set_option maxHeartbeats 1000000 in
theorem whose11 (nm : ByteArray) (k : Int) (c f3 f7 : Nat) (W : Nat) (hw : W < 4294967296) (hh : HitP ⟨nm, 11, c, f3, f7⟩ W) : rightBy (partsOf 11) (fieldsOf k 11 W) = true ∧ rwordBy ⟨nm, 11, c, f3, f7⟩ (fieldsOf k 11 W) = W := by
  simp only [HitP, ne_eq, not_true_eq_false, not_false_eq_true, and_self, and_true, true_and, false_and, and_false, or_false, false_or, or_self, or_true, true_or, forall_const, false_implies, true_implies, implies_true, Int.reduceBEq, Int.reduceEq, Int.reduceNe, Bool.false_eq_true, ↓reduceIte, Bool.or_eq_true, Bool.or_self, Bool.or_false, Bool.or_true, Bool.false_or, Bool.true_or, decide_eq_true_eq, Bool.not_eq_true', Bool.and_eq_true] at hh
  have x5 := wself5 W
  have x15 := wself15 W
  have x20 := wself20 W
  have x12 := wself12 W
  refine ⟨?_, ?_⟩
  · simp only [fieldsOf, partsOf, rightBy, g_7_5, g_15_5, g_20_5, g_20_12, x5, x15, x20, x12, rok0, rok5 W, rok15 W, rok20 W, cok0 W, cok1 W, Int.reduceBEq, Int.reduceEq, Bool.false_eq_true, ↓reduceIte, decide_true, Bool.and_self, Bool.not_false, Bool.true_or, Bool.or_true, Bool.false_or]
  · simp only [fieldsOf, partsOf, rwordBy, immR, rnumber, g_7_5, g_15_5, g_20_5, g_20_12, g_26_1, g_25_1, x5, x15, x20, x12, Int.reduceBEq, Int.reduceEq, Int.reduceNe, Bool.false_eq_true, ↓reduceIte, Bool.or_eq_true, Bool.or_self, Bool.or_false, Bool.or_true, Bool.false_or, Bool.true_or, decide_eq_true_eq, Bool.not_eq_true', Bool.and_eq_true]
    clear x5 x15 x20 x12
    have hs := sums11 W hw (by omega) (by omega)
    generalize (W : Int) % 128 = a0 at *
    generalize (W : Int) / 4096 % 8 = a1 at *
    generalize (W : Int) / 1048576 = a2 at *
    omega

theorem sums12 (W : Nat) (hw : W < 4294967296) : (W : Int) = (W : Int) % 128 + (W : Int) / 128 % 32 * 128 + (W : Int) / 4096 % 8 * 4096 + (W : Int) / 32768 % 32 * 32768 + (W : Int) / 1048576 % 4096 * 1048576 := by
  omega

set_option maxHeartbeats 1000000 in
theorem whose12 (nm : ByteArray) (k : Int) (c f3 f7 : Nat) (W : Nat) (hw : W < 4294967296) (hh : HitP ⟨nm, 12, c, f3, f7⟩ W) : rightBy (partsOf 12) (fieldsOf k 12 W) = true ∧ rwordBy ⟨nm, 12, c, f3, f7⟩ (fieldsOf k 12 W) = W := by
  simp only [HitP, ne_eq, not_true_eq_false, not_false_eq_true, and_self, and_true, true_and, false_and, and_false, or_false, false_or, or_self, or_true, true_or, forall_const, false_implies, true_implies, implies_true, Int.reduceBEq, Int.reduceEq, Int.reduceNe, Bool.false_eq_true, ↓reduceIte, Bool.or_eq_true, Bool.or_self, Bool.or_false, Bool.or_true, Bool.false_or, Bool.true_or, decide_eq_true_eq, Bool.not_eq_true', Bool.and_eq_true] at hh
  have x5 := wself5 W
  have x15 := wself15 W
  have x20 := wself20 W
  have x12 := wself12 W
  refine ⟨?_, ?_⟩
  · simp only [fieldsOf, partsOf, rightBy, g_7_5, g_15_5, g_20_5, g_20_12, x5, x15, x20, x12, rok0, rok5 W, rok15 W, rok20 W, cok0 W, cok1 W, Int.reduceBEq, Int.reduceEq, Bool.false_eq_true, ↓reduceIte, decide_true, Bool.and_self, Bool.not_false, Bool.true_or, Bool.or_true, Bool.false_or]
  · simp only [fieldsOf, partsOf, rwordBy, immR, rnumber, g_7_5, g_15_5, g_20_5, g_20_12, g_26_1, g_25_1, x5, x15, x20, x12, Int.reduceBEq, Int.reduceEq, Int.reduceNe, Bool.false_eq_true, ↓reduceIte, Bool.or_eq_true, Bool.or_self, Bool.or_false, Bool.or_true, Bool.false_or, Bool.true_or, decide_eq_true_eq, Bool.not_eq_true', Bool.and_eq_true]
    clear x5 x15 x20 x12
    have hs := sums12 W hw
    generalize (W : Int) % 128 = a0 at *
    generalize (W : Int) / 128 % 32 = a1 at *
    generalize (W : Int) / 4096 % 8 = a2 at *
    generalize (W : Int) / 32768 % 32 = a3 at *
    generalize (W : Int) / 1048576 % 4096 = a4 at *
    omega

theorem sums13 (W : Nat) (hw : W < 4294967296) : (W : Int) = (W : Int) % 128 + (W : Int) / 128 % 32 * 128 + (W : Int) / 4096 % 8 * 4096 + (W : Int) / 32768 % 32 * 32768 + (W : Int) / 1048576 % 4096 * 1048576 := by
  omega

set_option maxHeartbeats 1000000 in
theorem whose13 (nm : ByteArray) (k : Int) (c f3 f7 : Nat) (W : Nat) (hw : W < 4294967296) (hh : HitP ⟨nm, 13, c, f3, f7⟩ W) : rightBy (partsOf 13) (fieldsOf k 13 W) = true ∧ rwordBy ⟨nm, 13, c, f3, f7⟩ (fieldsOf k 13 W) = W := by
  simp only [HitP, ne_eq, not_true_eq_false, not_false_eq_true, and_self, and_true, true_and, false_and, and_false, or_false, false_or, or_self, or_true, true_or, forall_const, false_implies, true_implies, implies_true, Int.reduceBEq, Int.reduceEq, Int.reduceNe, Bool.false_eq_true, ↓reduceIte, Bool.or_eq_true, Bool.or_self, Bool.or_false, Bool.or_true, Bool.false_or, Bool.true_or, decide_eq_true_eq, Bool.not_eq_true', Bool.and_eq_true] at hh
  have x5 := wself5 W
  have x15 := wself15 W
  have x20 := wself20 W
  have x12 := wself12 W
  have hn := immOf_num 13 W
  simp only [numOf, Int.reduceEq, ↓reduceIte] at hn
  obtain ⟨e0_15, r1, r2⟩ := low_fwd13 (W / 32768 % 32) (Nat.mod_lt _ (by decide)) (immOf 13 W) hn
  clear hn
  generalize hv : immOf 13 W = v at *
  have q0_15 : rpart v 0 5 15 = (W : Int) / 32768 % 32 * 32768 := (rpart_fld v 0 5 15 (by decide)).trans (by rw [e0_15]; exact cast3 W 32768 32 32768)
  have hm : v.tmod 1 = 0 := Int.tmod_one v
  have hm1 : decide (v.tmod 1 = 0) = true := decide_eq_true hm
  have hr1 : decide (0 ≤ v) = true := decide_eq_true r1
  have hr2 : decide (v ≤ 31) = true := decide_eq_true r2
  refine ⟨?_, ?_⟩
  · simp only [fieldsOf, partsOf, rightBy, g_7_5, g_15_5, g_20_5, g_20_12, x5, x15, x20, x12, rok0, rok5 W, rok15 W, rok20 W, cok0 W, cok1 W, hv, hm1, hr1, hr2, Int.reduceBEq, Int.reduceEq, Bool.false_eq_true, ↓reduceIte, decide_true, Bool.and_self, Bool.not_false, Bool.true_or, Bool.or_true, Bool.false_or]
  · simp only [fieldsOf, partsOf, rwordBy, immR, rnumber, g_7_5, g_15_5, g_20_5, g_20_12, g_26_1, g_25_1, x5, x15, x20, x12, hv, q0_15, Int.reduceBEq, Int.reduceEq, Int.reduceNe, Bool.false_eq_true, ↓reduceIte, Bool.or_eq_true, Bool.or_self, Bool.or_false, Bool.or_true, Bool.false_or, Bool.true_or, decide_eq_true_eq, Bool.not_eq_true', Bool.and_eq_true]
    clear x5 x15 x20 x12
    clear q0_15 e0_15 hm hm1 hr1 hr2 hv r1 r2
    have hs := sums13 W hw
    generalize (W : Int) % 128 = a0 at *
    generalize (W : Int) / 128 % 32 = a1 at *
    generalize (W : Int) / 4096 % 8 = a2 at *
    generalize (W : Int) / 32768 % 32 = a3 at *
    generalize (W : Int) / 1048576 % 4096 = a4 at *
    omega

theorem sums14 (W : Nat) (hw : W < 4294967296) (z20 : (W : Int) / 1048576 % 32 = 0) : (W : Int) = (W : Int) % 128 + (W : Int) / 128 % 32 * 128 + (W : Int) / 4096 % 8 * 4096 + (W : Int) / 32768 % 32 * 32768 + (W : Int) / 33554432 % 2 * 33554432 + (W : Int) / 67108864 % 2 * 67108864 + (W : Int) / 134217728 * 134217728 := by
  omega

set_option maxHeartbeats 1000000 in
theorem whose14 (nm : ByteArray) (k : Int) (c f3 f7 : Nat) (W : Nat) (hw : W < 4294967296) (hh : HitP ⟨nm, 14, c, f3, f7⟩ W) : rightBy (partsOf 14) (fieldsOf k 14 W) = true ∧ rwordBy ⟨nm, 14, c, f3, f7⟩ (fieldsOf k 14 W) = W := by
  simp only [HitP, ne_eq, not_true_eq_false, not_false_eq_true, and_self, and_true, true_and, false_and, and_false, or_false, false_or, or_self, or_true, true_or, forall_const, false_implies, true_implies, implies_true, Int.reduceBEq, Int.reduceEq, Int.reduceNe, Bool.false_eq_true, ↓reduceIte, Bool.or_eq_true, Bool.or_self, Bool.or_false, Bool.or_true, Bool.false_or, Bool.true_or, decide_eq_true_eq, Bool.not_eq_true', Bool.and_eq_true] at hh
  have x5 := wself5 W
  have x15 := wself15 W
  have x20 := wself20 W
  have x12 := wself12 W
  refine ⟨?_, ?_⟩
  · simp only [fieldsOf, partsOf, rightBy, g_7_5, g_15_5, g_20_5, g_20_12, x5, x15, x20, x12, rok0, rok5 W, rok15 W, rok20 W, cok0 W, cok1 W, Int.reduceBEq, Int.reduceEq, Bool.false_eq_true, ↓reduceIte, decide_true, Bool.and_self, Bool.not_false, Bool.true_or, Bool.or_true, Bool.false_or]
  · simp only [fieldsOf, partsOf, rwordBy, immR, rnumber, g_7_5, g_15_5, g_20_5, g_20_12, g_26_1, g_25_1, x5, x15, x20, x12, Int.reduceBEq, Int.reduceEq, Int.reduceNe, Bool.false_eq_true, ↓reduceIte, Bool.or_eq_true, Bool.or_self, Bool.or_false, Bool.or_true, Bool.false_or, Bool.true_or, decide_eq_true_eq, Bool.not_eq_true', Bool.and_eq_true]
    clear x5 x15 x20 x12
    have hs := sums14 W hw (by omega)
    rcases par ((W : Int) / 67108864) with ha | ha <;> rcases par ((W : Int) / 33554432) with hl | hl <;> simp only [ha, hl, Int.reduceBEq, Int.reduceEq, Int.reduceNe, Bool.false_eq_true, ↓reduceIte, Bool.or_eq_true, Bool.or_self, Bool.or_false, Bool.or_true, Bool.false_or, Bool.true_or, decide_eq_true_eq, Bool.not_eq_true', Bool.and_eq_true] at hs ⊢ <;> clear ha hl
    all_goals
      generalize (W : Int) % 128 = a0 at *
      generalize (W : Int) / 128 % 32 = a1 at *
      generalize (W : Int) / 4096 % 8 = a2 at *
      generalize (W : Int) / 32768 % 32 = a3 at *
      generalize (W : Int) / 134217728 = a6 at *
      omega

theorem sums15 (W : Nat) (hw : W < 4294967296) : (W : Int) = (W : Int) % 128 + (W : Int) / 128 % 32 * 128 + (W : Int) / 4096 % 8 * 4096 + (W : Int) / 32768 % 32 * 32768 + (W : Int) / 1048576 % 32 * 1048576 + (W : Int) / 33554432 % 2 * 33554432 + (W : Int) / 67108864 % 2 * 67108864 + (W : Int) / 134217728 * 134217728 := by
  omega

set_option maxHeartbeats 1000000 in
theorem whose15 (nm : ByteArray) (k : Int) (c f3 f7 : Nat) (W : Nat) (hw : W < 4294967296) (hh : HitP ⟨nm, 15, c, f3, f7⟩ W) : rightBy (partsOf 15) (fieldsOf k 15 W) = true ∧ rwordBy ⟨nm, 15, c, f3, f7⟩ (fieldsOf k 15 W) = W := by
  simp only [HitP, ne_eq, not_true_eq_false, not_false_eq_true, and_self, and_true, true_and, false_and, and_false, or_false, false_or, or_self, or_true, true_or, forall_const, false_implies, true_implies, implies_true, Int.reduceBEq, Int.reduceEq, Int.reduceNe, Bool.false_eq_true, ↓reduceIte, Bool.or_eq_true, Bool.or_self, Bool.or_false, Bool.or_true, Bool.false_or, Bool.true_or, decide_eq_true_eq, Bool.not_eq_true', Bool.and_eq_true] at hh
  have x5 := wself5 W
  have x15 := wself15 W
  have x20 := wself20 W
  have x12 := wself12 W
  refine ⟨?_, ?_⟩
  · simp only [fieldsOf, partsOf, rightBy, g_7_5, g_15_5, g_20_5, g_20_12, x5, x15, x20, x12, rok0, rok5 W, rok15 W, rok20 W, cok0 W, cok1 W, Int.reduceBEq, Int.reduceEq, Bool.false_eq_true, ↓reduceIte, decide_true, Bool.and_self, Bool.not_false, Bool.true_or, Bool.or_true, Bool.false_or]
  · simp only [fieldsOf, partsOf, rwordBy, immR, rnumber, g_7_5, g_15_5, g_20_5, g_20_12, g_26_1, g_25_1, x5, x15, x20, x12, Int.reduceBEq, Int.reduceEq, Int.reduceNe, Bool.false_eq_true, ↓reduceIte, Bool.or_eq_true, Bool.or_self, Bool.or_false, Bool.or_true, Bool.false_or, Bool.true_or, decide_eq_true_eq, Bool.not_eq_true', Bool.and_eq_true]
    clear x5 x15 x20 x12
    have hs := sums15 W hw
    rcases par ((W : Int) / 67108864) with ha | ha <;> rcases par ((W : Int) / 33554432) with hl | hl <;> simp only [ha, hl, Int.reduceBEq, Int.reduceEq, Int.reduceNe, Bool.false_eq_true, ↓reduceIte, Bool.or_eq_true, Bool.or_self, Bool.or_false, Bool.or_true, Bool.false_or, Bool.true_or, decide_eq_true_eq, Bool.not_eq_true', Bool.and_eq_true] at hs ⊢ <;> clear ha hl
    all_goals
      generalize (W : Int) % 128 = a0 at *
      generalize (W : Int) / 128 % 32 = a1 at *
      generalize (W : Int) / 4096 % 8 = a2 at *
      generalize (W : Int) / 32768 % 32 = a3 at *
      generalize (W : Int) / 1048576 % 32 = a4 at *
      generalize (W : Int) / 134217728 = a7 at *
      omega

theorem sums16 (W : Nat) (hw : W < 4294967296) (z7 : (W : Int) / 128 % 32 = 0) : (W : Int) = (W : Int) % 128 + (W : Int) / 4096 % 8 * 4096 + (W : Int) / 32768 % 32 * 32768 + (W : Int) / 1048576 % 32 * 1048576 + (W : Int) / 33554432 * 33554432 := by
  omega

set_option maxHeartbeats 1000000 in
theorem whose16 (nm : ByteArray) (k : Int) (c f3 f7 : Nat) (W : Nat) (hw : W < 4294967296) (hh : HitP ⟨nm, 16, c, f3, f7⟩ W) : rightBy (partsOf 16) (fieldsOf k 16 W) = true ∧ rwordBy ⟨nm, 16, c, f3, f7⟩ (fieldsOf k 16 W) = W := by
  simp only [HitP, ne_eq, not_true_eq_false, not_false_eq_true, and_self, and_true, true_and, false_and, and_false, or_false, false_or, or_self, or_true, true_or, forall_const, false_implies, true_implies, implies_true, Int.reduceBEq, Int.reduceEq, Int.reduceNe, Bool.false_eq_true, ↓reduceIte, Bool.or_eq_true, Bool.or_self, Bool.or_false, Bool.or_true, Bool.false_or, Bool.true_or, decide_eq_true_eq, Bool.not_eq_true', Bool.and_eq_true] at hh
  have x5 := wself5 W
  have x15 := wself15 W
  have x20 := wself20 W
  have x12 := wself12 W
  refine ⟨?_, ?_⟩
  · simp only [fieldsOf, partsOf, rightBy, g_7_5, g_15_5, g_20_5, g_20_12, x5, x15, x20, x12, rok0, rok5 W, rok15 W, rok20 W, cok0 W, cok1 W, Int.reduceBEq, Int.reduceEq, Bool.false_eq_true, ↓reduceIte, decide_true, Bool.and_self, Bool.not_false, Bool.true_or, Bool.or_true, Bool.false_or]
  · simp only [fieldsOf, partsOf, rwordBy, immR, rnumber, g_7_5, g_15_5, g_20_5, g_20_12, g_26_1, g_25_1, x5, x15, x20, x12, Int.reduceBEq, Int.reduceEq, Int.reduceNe, Bool.false_eq_true, ↓reduceIte, Bool.or_eq_true, Bool.or_self, Bool.or_false, Bool.or_true, Bool.false_or, Bool.true_or, decide_eq_true_eq, Bool.not_eq_true', Bool.and_eq_true]
    clear x5 x15 x20 x12
    have hs := sums16 W hw (by omega)
    generalize (W : Int) % 128 = a0 at *
    generalize (W : Int) / 4096 % 8 = a1 at *
    generalize (W : Int) / 32768 % 32 = a2 at *
    generalize (W : Int) / 1048576 % 32 = a3 at *
    generalize (W : Int) / 33554432 = a4 at *
    omega

set_option maxHeartbeats 4000000 in
theorem word_whose (k : Int) (h1 : 1 ≤ k) (h2 : k ≤ 98) (W : Nat) (hw : W < 4294967296) (hh : HitP (rowAt k) W) :
    rightBy (partsOf (rowAt k).form) (fieldsOf k (rowAt k).form W) = true ∧ rword (fieldsOf k (rowAt k).form W) = W := by
  have hfo := form_ok k h1 h2
  have hbd := row_bd k h1 h2
  have e : ∀ f, rword (fieldsOf k f W) = rwordBy (rowAt k) (fieldsOf k f W) := fun _ => rfl
  rw [e]
  clear e
  generalize rowAt k = r at *
  obtain ⟨nm, form, c, f3, f7⟩ := r
  dsimp only [RowBd] at *
  obtain ⟨b1, b2, b3, b4, b5, b6⟩ := hbd
  obtain ⟨c, rfl⟩ := Int.eq_ofNat_of_zero_le b1
  obtain ⟨f3, rfl⟩ := Int.eq_ofNat_of_zero_le b3
  obtain ⟨f7, rfl⟩ := Int.eq_ofNat_of_zero_le b5
  have hc : c < 128 := by omega
  have hf3 : f3 < 8 := by omega
  rcases hfo with rfl | rfl | rfl | rfl | rfl | rfl | rfl | rfl | rfl | rfl | rfl | rfl | rfl | rfl | rfl | rfl
  · exact whose1 nm k c f3 f7 W hw hh
  · exact whose2 nm k c f3 f7 W hw hh
  · exact whose3 nm k c f3 f7 W hw hh
  · exact whose4 nm k c f3 f7 W hw hh
  · exact whose5 nm k c f3 f7 W hw hh
  · exact whose6 nm k c f3 f7 W hw hh
  · exact whose7 nm k c f3 f7 W hw hh
  · exact whose8 nm k c f3 f7 W hw hh
  · exact whose9 nm k c f3 f7 W hw hh
  · exact whose10 nm k c f3 f7 W hw hh
  · exact whose11 nm k c f3 f7 W hw hh
  · exact whose12 nm k c f3 f7 W hw hh
  · exact whose13 nm k c f3 f7 W hw hh
  · exact whose14 nm k c f3 f7 W hw hh
  · exact whose15 nm k c f3 f7 W hw hh
  · exact whose16 nm k c f3 f7 W hw hh

end Go.Proofs.Ythifnlhbioaihaa
