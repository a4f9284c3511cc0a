/- The walks of inst.fixed and inst.Encode. -/
import Derived.Test.YthifnlhbioaihaaRight
import Derived.Test.YthifnlhbioaihaaRest
namespace Go.Proofs.Ythifnlhbioaihaa
open Go.RowKit
set_option linter.unusedVariables false
set_option linter.unusedSimpArgs false

/-- The bits by which an operation is told. -/
def fixedOf (r : Row) : Int :=
  let w := if r.form == 1 || r.form == 2 then r.code else or32 r.code (r.f3 * 4096 % 4294967296)
  if r.form == 7 || r.form == 8 || r.form == 9 || r.form == 16 then or32 w (r.f7 * 33554432 % 4294967296)
  else if r.form == 11 then or32 w (r.f7 * 1048576 % 4294967296)
  else if r.form == 14 || r.form == 15 then or32 w (r.f7 * 134217728 % 4294967296)
  else w

set_option maxHeartbeats 4000000 in
theorem fixed_any (r : Row) (w : World) (hf : IsForm r.form) :
    Calls Try.prog 40 #[.agg #[.string r.name, .int .i64 r.form, .int .u32 r.code, .int .u32 r.f3, .int .u32 r.f7]] w fun e w' => e = .returned (.int .u32 (fixedOf r)) ∧ w.alloc (.cells #[.string r.name, .int .i64 r.form, .int .u32 r.code, .int .u32 r.f3, .int .u32 r.f7] 49) = w' := by
  obtain ⟨nm, form, code, f3, f7⟩ := r
  dsimp only at hf ⊢
  rcases hf with rfl | rfl | rfl | rfl | rfl | rfl | rfl | rfl | rfl | rfl | rfl | rfl | rfl | rfl | rfl | rfl
  all_goals
    go_enter Try.func40, Try.ntmps40
    go_wp2
    go_ret
    exact ⟨ret_int (by simp [fixedOf, or32]), rfl⟩

/-- An instruction's word. -/
def wordOf (x : Ins) : Int :=
  let r := rowAt x.op
  let w := or32 (or32 (or32 r.code (x.rd % 4294967296 * 128 % 4294967296)) (x.rs1 % 4294967296 * 32768 % 4294967296)) (x.rs2 % 4294967296 * 1048576 % 4294967296)
  or32 (if r.form == 1 || r.form == 2 then w else or32 w (r.f3 * 4096 % 4294967296)) (restOf r.form r.f7 x.imm x.csr x.aq x.rl)

set_option maxHeartbeats 4000000 in
theorem encode_bad (x : Ins) (w : World) (hr : right x = false)
    (H : ∀ w, Calls Try.prog 12 #[.agg #[.int .i64 x.op, .int .i64 x.rd, .int .i64 x.rs1, .int .i64 x.rs2, .int .i64 x.imm, .int .i64 x.csr, .bool x.aq, .bool x.rl]] w fun e w' => e = .returned (.int .i64 (errOf (right x))) ∧ Below w.heap.size w w') :
    Calls Try.prog 10 #[.agg #[.int .i64 x.op, .int .i64 x.rd, .int .i64 x.rs1, .int .i64 x.rs2, .int .i64 x.imm, .int .i64 x.csr, .bool x.aq, .bool x.rl]] w fun e w' => e = .returned (.tuple #[.int .u32 0, .int .i64 30]) ∧ Below w.heap.size w w' := by
  have e30 : errOf false = 30 := rfl
  rw [hr, e30] at H
  have H1 := hid H; clear H e30
  go_enter Try.func10, Try.ntmps10
  go_wp2_with (go_at_call 12; refine (H1.out _).mono ?_; rintro e w' ⟨rfl, hb⟩)
  go_ret2
  exact ⟨rfl, ((Below.refl _ _).alloc (Nat.le_refl _) _).trans (hb.mono (by simp))⟩

set_option maxHeartbeats 4000000 in
theorem encode_good (x : Ins) (w : World) (h1 : 1 ≤ x.op) (h2 : x.op ≤ 98) (hr : right x = true) (hf : IsForm (rowAt x.op).form)
    (H : ∀ w, Calls Try.prog 12 #[.agg #[.int .i64 x.op, .int .i64 x.rd, .int .i64 x.rs1, .int .i64 x.rs2, .int .i64 x.imm, .int .i64 x.csr, .bool x.aq, .bool x.rl]] w fun e w' => e = .returned (.int .i64 (errOf (right x))) ∧ Below w.heap.size w w') :
    Calls Try.prog 10 #[.agg #[.int .i64 x.op, .int .i64 x.rd, .int .i64 x.rs1, .int .i64 x.rs2, .int .i64 x.imm, .int .i64 x.csr, .bool x.aq, .bool x.rl]] w fun e w' => e = .returned (.tuple #[.int .u32 (wordOf x), .int .i64 0]) ∧ Below w.heap.size w w' := by
  have e0 : errOf true = 0 := rfl
  rw [hr, e0] at H
  have H1 := hid H; clear H e0 hr
  have hidx := run_tab x.op (by omega) h2
  have HW := hid (show wordOf x = or32 (if (rowAt x.op).form == 1 || (rowAt x.op).form == 2 then _ else _) _ from rfl)
  have HR := hid (fun w => rest_any (rowAt x.op) x w hf)
  generalize hrow : rowAt x.op = r at *
  have HROW := hid hrow; clear hrow
  obtain ⟨nm, form, code, f3, f7⟩ := r
  obtain ⟨op, rd, rs1, rs2, imm, csr, aq, rl⟩ := x
  dsimp only at h1 h2 hidx hf HR ⊢
  have hft : (form = 1 ∨ form = 2) ∨ ((form != 1) = true ∧ (form != 2) = true) := by
    simp only [bne_iff_ne]; omega
  clear hf
  go_enter Try.func10, Try.ntmps10
  go_wp2_with (go_at_call 12; refine (H1.out _).mono ?_; rintro e w1 ⟨rfl, hb⟩)
  have hz : w.heap.size < w1.heap.size := by have := hb.size; simp at this; omega
  have c0 : w1.cell? ⟨w.heap.size, 0, none⟩ = some (.int .i64 op) := (hb.cell (by simp)).trans (by simp)
  have c1 : w1.cell? ⟨w.heap.size, 1, none⟩ = some (.int .i64 rd) := (hb.cell (by simp)).trans (by simp)
  have c2 : w1.cell? ⟨w.heap.size, 2, none⟩ = some (.int .i64 rs1) := (hb.cell (by simp)).trans (by simp)
  have c3 : w1.cell? ⟨w.heap.size, 3, none⟩ = some (.int .i64 rs2) := (hb.cell (by simp)).trans (by simp)
  have c4 : w1.cell? ⟨w.heap.size, 4, none⟩ = some (.int .i64 imm) := (hb.cell (by simp)).trans (by simp)
  have c5 : w1.cell? ⟨w.heap.size, 5, none⟩ = some (.int .i64 csr) := (hb.cell (by simp)).trans (by simp)
  have c6 : w1.cell? ⟨w.heap.size, 6, none⟩ = some (.bool aq) := (hb.cell (by simp)).trans (by simp)
  have c7 : w1.cell? ⟨w.heap.size, 7, none⟩ = some (.bool rl) := (hb.cell (by simp)).trans (by simp)
  have HB := hid hb; clear hb
  go_region_held3 (fun w2 => w2.cell? ⟨w.heap.size, 0, none⟩ = some (.int .i64 op)) (go_keep) (first | (go_at_call 27; refine (table_any _).mono ?_; rintro e w' ⟨rfl, rfl⟩))
  all_goals
    have HB2 : Below w.heap.size w w1 := ((Below.refl _ _).alloc (Nat.le_refl _) _).trans (HB.out.mono (by simp))
    have hz2 := HB2.size
    rcases hft with (rfl | rfl) | ⟨hf1, hf2⟩
    all_goals
      go_wp2_with fail
      refine (HR.out _).mono ?_
      rintro e w2 ⟨rfl, hb2⟩
      clear hidx c0 c1 c2 c3 c4 c5 c6 c7
      go_wp2_with fail
      go_ret2
      refine ⟨congrArg Ending.returned (congrArg Value.tuple (congrArg (fun z => #[Value.int .u32 z, Value.int .i64 0]) ?_)), ?_⟩
      · rw [HW.out]
        first | (simp [or32, *]; done) | (simp only [bne_iff_ne, ne_eq] at hf1 hf2; simp [or32, hf1, hf2])
      · refine Below.trans ?_ (hb2.mono (by simp [heap_drew]; omega))
        repeat (first | exact HB2 | apply Below.drew | refine Below.alloc ?_ (by first | exact hz2 | (simp [heap_drew]; omega)) _)

end Go.Proofs.Ythifnlhbioaihaa
