/- The walks of inst.imm, inst.fields, inst.fixed. -/
import Derived.Test.YthifnlhbioaihaaInst
namespace Go.Proofs.Ythifnlhbioaihaa
open Go.RowKit
set_option linter.unusedVariables false
set_option linter.unusedSimpArgs false

def or64 (a b : Int) : Int := bits .or .u64 a b

/-- A word's number, by its form. -/
def immOf (f w : Int) : Int :=
  if f == 1 then wrap64 (sext (get w 12 20 * 4096 % 18446744073709551616) 32)
  else if f == 2 then wrap64 (sext (or64 (or64 (or64 (get w 31 1 * 1048576 % 18446744073709551616) (get w 21 10 * 2 % 18446744073709551616)) (get w 20 1 * 2048 % 18446744073709551616)) (get w 12 8 * 4096 % 18446744073709551616)) 21)
  else if f == 4 then wrap64 (sext (or64 (or64 (or64 (get w 31 1 * 4096 % 18446744073709551616) (get w 25 6 * 32 % 18446744073709551616)) (get w 8 4 * 2 % 18446744073709551616)) (get w 7 1 * 2048 % 18446744073709551616)) 13)
  else if f == 6 then wrap64 (sext (or64 (get w 25 7 * 32 % 18446744073709551616) (get w 7 5)) 12)
  else if f == 7 then wrap64 (get w 20 6)
  else if f == 8 then wrap64 (get w 20 5)
  else if f == 10 then wrap64 (get w 20 12)
  else if f == 13 then wrap64 (get w 15 5)
  else wrap64 (sext (get w 20 12) 12)

theorem or64_range (a b : Int) : 0 ≤ or64 a b ∧ or64 a b < 18446744073709551616 := by
  unfold or64 bits
  simp only [IntKind.wrap_u64]
  omega

theorem w64_lo (a : Int) : 0 ≤ IntKind.u64.wrap a := by rw [IntKind.wrap_u64]; omega
theorem w64_hi (a : Int) : IntKind.u64.wrap a < 18446744073709551616 := by rw [IntKind.wrap_u64]; omega
theorem b64_lo (o : BinOp) (a b : Int) : 0 ≤ bits o .u64 a b := by unfold bits; split <;> first | exact w64_lo _ | omega
theorem b64_hi (o : BinOp) (a b : Int) : bits o .u64 a b < 18446744073709551616 := by unfold bits; split <;> first | exact w64_hi _ | omega

set_option maxHeartbeats 1000000 in
theorem imm_any (f x : Int) (w : World) (h0 : 0 ≤ x) (h1 : x < 18446744073709551616) (hf : f = 1 ∨ f = 2 ∨ f = 3 ∨ f = 4 ∨ f = 5 ∨ f = 6 ∨ f = 7 ∨ f = 8 ∨ f = 10 ∨ f = 13) :
    Calls Try.prog 47 #[.int .i64 f, .int .u64 x] w fun e w' => e = .returned (.int .i64 (immOf f x)) ∧ ∃ k, w' = w.drewN k := by
  have H := hid h1; clear h1
  rcases hf with rfl | rfl | rfl | rfl | rfl | rfl | rfl | rfl | rfl | rfl
  all_goals
    go_enter Try.func47, Try.ntmps47
    go_wp2_with (first | (go_at_call 45; refine (get_any _ _ _ _ (by assumption) H.out).mono ?_; rintro e w' ⟨rfl, k, rfl⟩) | (go_at_call 52; refine (sext_any _ _ _ (by with_reducible first | exact get_nonneg _ _ _ | exact w64_lo _ | exact b64_lo _ _ _) (by with_reducible first | exact get_lt _ _ _ h0 H.out | exact w64_hi _ | exact b64_hi _ _ _) (by decide) (by decide)).mono ?_; rintro e w' ⟨rfl, k, rfl⟩))
    go_ret
    exact ⟨ret_int (by simp [immOf, or64, IntKind.wrap_u64]; try rfl), _, rfl⟩

/-- The parts of an operation's word. -/
def fieldsOf (op f w : Int) : Ins :=
  ⟨op, if (partsOf f).rd then wrap64 (get w 7 5) else 0, if (partsOf f).rs1 then wrap64 (get w 15 5) else 0, if (partsOf f).rs2 then wrap64 (get w 20 5) else 0,
    if (partsOf f).imm then immOf f w else 0, if (partsOf f).csr then wrap64 (get w 20 12) else 0, if (partsOf f).order then get w 26 1 == 1 else false, if (partsOf f).order then get w 25 1 == 1 else false⟩

abbrev IsForm (f : Int) : Prop := f = 1 ∨ f = 2 ∨ f = 3 ∨ f = 4 ∨ f = 5 ∨ f = 6 ∨ f = 7 ∨ f = 8 ∨ f = 9 ∨ f = 10 ∨ f = 11 ∨ f = 12 ∨ f = 13 ∨ f = 14 ∨ f = 15 ∨ f = 16

set_option maxHeartbeats 4000000 in
theorem fields_any (op f x : Int) (w : World) (h0 : 0 ≤ x) (h1 : x < 18446744073709551616) (hf : IsForm f) :
    Calls Try.prog 41 #[.int .i64 op, .int .i64 f, .int .u64 x] w fun e w' => e = .returned (fieldsOf op f x).v ∧ Below w.heap.size w w' := by
  have H := hid h1; clear h1
  rcases hf with rfl | rfl | rfl | rfl | rfl | rfl | rfl | rfl | rfl | rfl | rfl | rfl | rfl | rfl | rfl | rfl
  all_goals
    go_enter Try.func41, Try.ntmps41
    go_wp2_with (first | (go_at_call 36; refine (of_any _ _).mono ?_; rintro e w' ⟨rfl, rfl⟩; simp only [partsOf, Parts.v, Parts.cells, Int.reduceBEq, Bool.false_eq_true, ↓reduceIte]) | (go_at_call 45; refine (get_any _ _ _ _ (by assumption) H.out).mono ?_; rintro e w' ⟨rfl, k, rfl⟩) | (go_at_call 46; refine (bit_any _ _ _ (by assumption) H.out).mono ?_; rintro e w' ⟨rfl, k, rfl⟩) | (go_at_call 47; refine (imm_any _ _ _ h0 H.out (by decide)).mono ?_; rintro e w' ⟨rfl, k, rfl⟩))
    refine bodyPost_ret (v := (fieldsOf _ _ _).v) (by simp [results, Try.results41, go_sem, fieldsOf, Ins.v, partsOf]) rfl ⟨rfl, ?_⟩
    repeat (first | exact Below.refl _ _ | apply bel_drewN | refine Below.alloc ?_ (by simp; try omega) _ | refine Below.setCell ?_ (by simp) _)

theorem run_row0 (a b c d e : Value) (w : World) : (Instr.field 49 (.agg #[a, b, c, d, e]) 0).run Try.prog w = .ok a w := by kernel_rfl
theorem run_row1 (a b c d e : Value) (w : World) : (Instr.field 49 (.agg #[a, b, c, d, e]) 1).run Try.prog w = .ok b w := by kernel_rfl
theorem run_row2 (a b c d e : Value) (w : World) : (Instr.field 49 (.agg #[a, b, c, d, e]) 2).run Try.prog w = .ok c w := by kernel_rfl
theorem run_row3 (a b c d e : Value) (w : World) : (Instr.field 49 (.agg #[a, b, c, d, e]) 3).run Try.prog w = .ok d w := by kernel_rfl
theorem run_row4 (a b c d e : Value) (w : World) : (Instr.field 49 (.agg #[a, b, c, d, e]) 4).run Try.prog w = .ok e w := by kernel_rfl

end Go.Proofs.Ythifnlhbioaihaa
